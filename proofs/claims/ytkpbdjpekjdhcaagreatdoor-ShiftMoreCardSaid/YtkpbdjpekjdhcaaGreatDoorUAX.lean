/-
  A part of the proof: contracts of functions.
-/
import Derived.Test.YtkpbdjpekjdhcaaGreatDoorUAW
import Derived.Test.YtkpbdjpekjdhcaaGreatDoorUAL
import Derived.Test.YtkpbdjpekjdhcaaGreatDoorUAI
set_option linter.unusedSectionVars false
set_option linter.unusedVariables false
set_option linter.unusedSimpArgs false
set_option maxRecDepth 100000
namespace Go.AM
open Go Go.Proofs
variable [Keep]
attribute [local irreducible] W WO WO1 WD WQ WT thenQ blockQ endR isRet retK Cl ClR
open Go.TX (Rm Fa Ha Hs)
attribute [local irreducible] runsB madeR madeF drawnP sumW
theorem all_at {α : Type} {p : α → Bool} {l : List α} {k : Nat} {x : α} (h : l[k]? = some x) (ha : (l.take k).all p = true) : (l.take (k + 1)).all p = p x := by rw [take_next h, List.all_append, ha]; simp
section
variable {c : Itr}
end
end Go.AM
namespace Go.AM
open Go Go.Proofs
variable [Keep]
attribute [local irreducible] W WO WO1 WD WQ WT thenQ blockQ endR isRet retK Cl ClR
open Go.TX (Rm Fa Ha Hs)
def pathB (m : Hs) (p : List Int) : Bool := ((p.length : Int) == m.hours) && p.all fun r => inB r (-1) (w64 (m.rooms.length - 1))
def walkR (b : Bool) (h : Heap) (r : COut) : Prop := if b = true then r = .ret (.tuple []) h none else ∃ x, r = .pan (.iface 205 (.agg [.int .i64 x])) h none
theorem walkR_fail {b : Bool} {h : Heap} : ¬ walkR b h .fail := by
 unfold walkR
 split
 ·intro e; cases e
 ·rintro ⟨_, e⟩; cases e
attribute [local irreducible] walkR
theorem walkR_t {h : Heap} : walkR true h (.ret (.tuple []) h none) := by unfold walkR; simp
theorem walkR_f {h : Heap} {x : Int} : walkR false h (.pan (.iface 205 (.agg [.int .i64 x])) h none) := by unfold walkR; simp
section
variable {c : Itr}
set_option maxHeartbeats 4000000 in
theorem C170 (h170 : c 170 = none) (h102 : c 102 = some (pureFn sp102)) (m : Hs) (ra fa oa ha pa : AV) (p : List Int) (hm : HsA m ra fa oa ha) (hp : slV intC pa = some p) (h : Heap) :
  ClR (dX c) 170 [.agg [.int .i64 m.hours, ra, fa, oa, ha], pa] h (walkR (pathB m p) h) := by
 have l1 := sl_len hm.r
 have o1 := sl_out hm.r
 have o2 := sl_out hm.f
 have o3 := sl_out hm.o
 have o4 := sl_out hm.h
 have lp := sl_len hp
 have op := sl_out hp
 have mp := sl_max hp
 have HP := Lib.hid hp
 have k102 := fun x h => K102 (X := dX c) h102 x (-1) (IntKind.i64.wrap (m.rooms.length - 1)) h
 have K1 := Lib.hid k102
 have hS : pathB m p = (((p.length : Int) == m.hours) && p.all fun r => inB r (-1) (IntKind.i64.wrap (m.rooms.length - 1))) := rfl
 rw [hS]
 clear hm hp k102 hS
 cases hq : ((p.length : Int) == m.hours) with
 | false =>
  have hq' : ((p.length : Int) != m.hours) = true := by rw [bne, hq]; rfl
  rw [Bool.false_and]
  refine ClR.walk (c := _) h170 Tryz.func170 rfl (by kernel_rfl) rfl walkR_fail ?_
  try simp only [entryEnv, Nat.reduceAdd, List.nil_append, List.cons_append, emptyHp]
  repeat' (first | (apply WO1.panic; exact rfl; (focus (intro cl rd; simp only [go_sem, *, Nat.reduceLT, Int.reduceEq, Int.reduceBEq, Int.reduceLE, Int.reduceLT, Nat.reduceAdd, Nat.reduceBEq, Nat.reduceEqDiff, reduceIte, Nat.reduceLeDiff, Nat.reduceMul, Nat.reduceSub, reduceCtorEq, efV, Fr.panicE]; with_reducible rfl)); simp only [tP, bP, eP, true_and]) | refine go1 ?_ | refine go2 (fun hh => ?_) (fun hh => ?_) | fail)
  all_goals exact walkR_f
 | true =>
  have hq' : ((p.length : Int) != m.hours) = false := by rw [bne, hq]; rfl
  rw [Bool.true_and]
  refine ClR.walk (c := _) h170 Tryz.func170 rfl (by kernel_rfl) rfl walkR_fail ?_
  try simp only [entryEnv, Nat.reduceAdd, List.nil_append, List.cons_append, emptyHp]
  repeat' (first | (apply WO1.panic; exact rfl; (focus (intro cl rd; simp only [go_sem, *, Nat.reduceLT, Int.reduceEq, Int.reduceBEq, Int.reduceLE, Int.reduceLT, Nat.reduceAdd, Nat.reduceBEq, Nat.reduceEqDiff, reduceIte, Nat.reduceLeDiff, Nat.reduceMul, Nat.reduceSub, reduceCtorEq, efV, Fr.panicE]; with_reducible rfl)); simp only [tP, bP, eP, true_and]) | refine go1 ?_ | refine go2 (fun hh => ?_) (fun hh => ?_) | fail)
  refine W.loopH (p.length) [2, 15, 16] [2] (fun k e lm => e.get 17 = some (.int .i64 ↑k) ∧ (p.take k).all (fun r => inB r (-1) (IntKind.i64.wrap (m.rooms.length - 1))) = true) ?_ ?_
  ·skip
   refine ⟨?_, ?_⟩
   all_goals first | exact Z2 | (simp [go_sem, *]; done) | skip
   all_goals rfl
  intro k e lm hk0 hce hcl hinv
  simp only [keepE, and_true] at hce
  obtain ⟨c2, c15, c16⟩ := hce
  simp only [go_sem, *, Nat.reduceLT, Int.reduceEq, Int.reduceBEq, Int.reduceLE, Int.reduceLT, Nat.reduceAdd, Nat.reduceBEq, Nat.reduceEqDiff, reduceIte, Nat.reduceLeDiff, Nat.reduceMul, Nat.reduceSub, reduceCtorEq] at c2 c15 c16
  simp only [keepL, and_true] at hcl
  have d2 := hcl
  clear hcl
  simp only [go_sem, *, Nat.reduceLT, Int.reduceEq, Int.reduceBEq, Int.reduceLE, Int.reduceLT, Nat.reduceAdd, Nat.reduceBEq, Nat.reduceEqDiff, reduceIte, Nat.reduceLeDiff, Nat.reduceMul, Nat.reduceSub, reduceCtorEq] at d2
  obtain ⟨h17, hal⟩ := hinv
  by_cases hlt : k < p.length
  ·have hd0 : decide ((k : Int) < ((p.length : Nat) : Int)) = true := by first | (simpa using hlt; done) | (simp only [decide_eq_true_eq]; omega)
   have hv_0 := wrap_succ hlt mp
   obtain ⟨n, hn⟩ := get_some hlt
   have hix := fun H => ints_idx HP.out hn H
   have hnx := all_at hn hal
   have k102 := K1.out n
   have HNX := Lib.hid hnx
   have HNN := Lib.hid hn
   have HLT0 := Lib.hid hlt
   clear hn hnx hal hlt
   cases hb : inB n (-1) (IntKind.i64.wrap (m.rooms.length - 1)) with
   | true =>
    rw [hb] at k102
    repeat' (first | (apply WO1.panic; exact rfl; (focus (intro cl rd; simp only [go_sem, *, Nat.reduceLT, Int.reduceEq, Int.reduceBEq, Int.reduceLE, Int.reduceLT, Nat.reduceAdd, Nat.reduceBEq, Nat.reduceEqDiff, reduceIte, Nat.reduceLeDiff, Nat.reduceMul, Nat.reduceSub, reduceCtorEq, efV, Fr.panicE]; with_reducible rfl)); simp only [tP, bP, eP, true_and]) | refine go1 ?_ | (apply U6; exact Z1; exact Z1; (focus (simp only [List.nil_append, List.append_nil]; first | exact k102 _)); simp only [pM, pN, rR, rP]) | refine go2 (fun hh => ?_) (fun hh => ?_) | fail)
    all_goals refine contH_mk (by first | assumption | exact HLT0.out) (by simp only [keepE, and_true, and_self, go_sem, *, Nat.reduceLT, Int.reduceEq, Int.reduceBEq, Int.reduceLE, Int.reduceLT, Nat.reduceAdd, Nat.reduceBEq, Nat.reduceEqDiff, reduceIte, Nat.reduceLeDiff, Nat.reduceMul, Nat.reduceSub, reduceCtorEq]) (by simp only [keepL, and_true, and_self, go_sem, *, Nat.reduceLT, Int.reduceEq, Int.reduceBEq, Int.reduceLE, Int.reduceLT, Nat.reduceAdd, Nat.reduceBEq, Nat.reduceEqDiff, reduceIte, Nat.reduceLeDiff, Nat.reduceMul, Nat.reduceSub, reduceCtorEq]) ?_
    all_goals refine ⟨?_, ?_⟩
    all_goals first | exact Z2 | skip
    all_goals exact HNX.out.trans hb
   | false =>
    rw [hb] at k102
    have hno : (p.all fun r => inB r (-1) (IntKind.i64.wrap (m.rooms.length - 1))) = false := by
     rw [List.all_eq_false]
     exact ⟨n, List.mem_of_getElem? HNN.out, by rw [hb]; simp⟩
    rw [hno]
    clear hno
    repeat' (first | (apply WO1.panic; exact rfl; (focus (intro cl rd; simp only [go_sem, *, Nat.reduceLT, Int.reduceEq, Int.reduceBEq, Int.reduceLE, Int.reduceLT, Nat.reduceAdd, Nat.reduceBEq, Nat.reduceEqDiff, reduceIte, Nat.reduceLeDiff, Nat.reduceMul, Nat.reduceSub, reduceCtorEq, efV, Fr.panicE]; with_reducible rfl)); simp only [tP, bP, eP, true_and]) | refine go1 ?_ | (apply U6; exact Z1; exact Z1; (focus (simp only [List.nil_append, List.append_nil]; first | exact k102 _)); simp only [pM, pN, rR, rP]) | refine go2 (fun hh => ?_) (fun hh => ?_) | fail)
    all_goals exact walkR_f
  ·have hd0 : decide ((k : Int) < ((p.length : Nat) : Int)) = false := by first | (simpa using hlt; done) | (simp only [decide_eq_false_iff_not]; omega)
   obtain rfl : k = p.length := by omega
   rw [List.take_length] at hal
   rw [hal]
   clear hal
   repeat' (first | refine goS ?_ | refine go2 (fun hh => ?_) (fun hh => ?_) | fail)
   all_goals (simp only [eN])
   all_goals (simp only [resV_def (X := dX c) Tryz.func170, Tryz.results170]; first | exact J5 | refine J6 ?_)
   all_goals first | exact walkR_t | exact ⟨rfl, walkR_t⟩
end
noncomputable def cNS : Itr
 | 102 => some (pureFn sp102)
 | _ => none
theorem cNS_sound : Sound (dX cNS) := dX_sound (fun f g h => by
 unfold cNS at h
 split at h
 ·cases h; exact F102
 ·cases h)
def sp123 : List AV → Option AV
 | [x, pa] => match hsV x, slV intC pa with
  | some m, some p => some (.bool (pathB m p))
  | _, _ => none
 | _ => none
theorem p123 : ∀ args v, sp123 args = some v → v.pur = true := by
 intro args v h
 unfold sp123 at h
 split at h
 ·split at h
  ·cases h; rfl
  ·cases h
 ·cases h
set_option maxHeartbeats 2000000 in
theorem F123 : IntrFn Tryz.prog 123 (pureFn sp123) := by
 refine pure_fn (X := dX cNS) cNS_sound p123 ?_
 intro args v h
 unfold sp123 at h
 split at h
 ·rename_i xx pa
  split at h
  ·rename_i m p hm hp
   have h := Option.some.inj h
   subst h
   obtain ⟨ra, fa, oa, ha, rfl, hA⟩ := hs_parts' hm
   have o1 := sl_out hA.r
   have o2 := sl_out hA.f
   have o3 := sl_out hA.o
   have o4 := sl_out hA.h
   have op := sl_out hp
   have hcp := (slV_is hp).1.cells
   have htp := (slV_is hp).1.tup
   simp only [AV.cells] at hcp
   simp only [isTuple] at htp
   obtain ⟨mm, hmm⟩ : ∃ mm : Mp Blk, mm = (((Mp.nil : Mp Blk).set 0 (.var [.int .i64 m.hours, ra, fa, oa, ha])).set 1 (.var [pa])).set 2 (.var [.int .i64 0]) := ⟨_, rfl⟩
   have g0 : mm.get 0 = some (.var [.int .i64 m.hours, ra, fa, oa, ha]) := by rw [hmm]; simp
   have g1 : mm.get 1 = some (.var [pa]) := by rw [hmm]; simp
   have g2 : mm.get 2 = some (.var [.int .i64 0]) := by rw [hmm]; simp
   have hw := C170 (c := cNS) rfl rfl m ra fa oa ha pa p hA hp ⟨3, mm⟩
   unfold ClR walkR at hw
   obtain ⟨r, hcl, hr⟩ := hw
   clear hm hA hp
   cases hb : pathB m p with
   | true =>
    rw [hb] at hr
    simp only [if_true] at hr
    subst hr
    have h169 : Cl (dX cNS) 169 [.ptr 0 0, .ptr 1 0] ⟨3, mm⟩ (.ret (.tuple []) ⟨3, mm⟩ none) := by
     refine ClR.cl ?_
     clear hmm g2
     refine ClR.walk (c := _) rfl Tryz.func169 rfl (by kernel_rfl) rfl (fun e => by cases e) ?_
     try simp only [entryEnv, Nat.reduceAdd, List.nil_append, List.cons_append, emptyHp]
     repeat' (first | refine goS ?_ | (apply U6; exact Z1; exact Z1; (focus (simp only [List.nil_append, List.append_nil]; first | exact hcl)); simp only [pM, pN, rR, rP]) | refine go2 (fun hh => ?_) (fun hh => ?_) | fail)
     all_goals (first | simp only [eN, true_and] | skip)
     all_goals (simp only [resV_def (X := dX cNS) Tryz.func169, Tryz.results169]; first | exact J5 | refine J6 ?_)
     all_goals rfl
    rw [hmm] at h169
    have ht := C111n cNS rfl 169 [.ptr 0 0, .ptr 1 0] 2 _ 3 mm 0 (by rw [hmm]; exact h169) g2
    unfold ClR tryR at ht
    obtain ⟨r, hct, ⟨yn, ym⟩, rfl, hy1, hy2⟩ := ht
    have q0 : ((0 : Int) == 0) = true := rfl
    clear hcl h169 g0 g1 g2 hmm hy1 hy2
    refine ClR.walk (c := _) rfl Tryz.func123 rfl (by kernel_rfl) rfl isRet_fail ?_
    try simp only [entryEnv, Nat.reduceAdd, List.nil_append, List.cons_append, emptyHp]
    repeat' (first | refine goS ?_ | (apply U6; exact Z1; exact Z1; (focus (simp only [List.nil_append, List.append_nil]; first | exact hct)); simp only [pM, pN, rR, rP]) | refine go2 (fun hh => ?_) (fun hh => ?_) | fail)
    all_goals (simp only [resV_def (X := dX cNS) Tryz.func123, Tryz.results123]; first | exact J5 | refine J6 ?_)
    all_goals rfl
   | false =>
    rw [hb] at hr
    simp only [Bool.false_eq_true, if_false] at hr
    obtain ⟨x, rfl⟩ := hr
    have h169 : Cl (dX cNS) 169 [.ptr 0 0, .ptr 1 0] ⟨3, mm⟩ (.pan (.iface 205 (.agg [.int .i64 x])) ⟨3, mm⟩ none) := by
     refine ClR.cl ?_
     clear hmm g2
     refine ClR.walk (c := _) rfl Tryz.func169 rfl (by kernel_rfl) rfl (fun e => by cases e) ?_
     try simp only [entryEnv, Nat.reduceAdd, List.nil_append, List.cons_append, emptyHp]
     repeat' (first | (simp only [tP, bP, eP, true_and]) | refine go1 ?_ | (apply U6; exact Z1; exact Z1; (focus (simp only [List.nil_append, List.append_nil]; first | exact hcl)); simp only [pM, pN, rR, rP]) | refine go2 (fun hh => ?_) (fun hh => ?_) | fail)
     all_goals rfl
    rw [hmm] at h169
    have ht := C111w cNS rfl 169 [.ptr 0 0, .ptr 1 0] 2 _ 3 mm x 0 (by rw [hmm]; exact h169) g2
    unfold ClR tryR at ht
    obtain ⟨r, hct, ⟨yn, ym⟩, rfl, hy1, hy2⟩ := ht
    have q0 : ((2 : Int) == 0) = false := rfl
    clear hcl h169 g0 g1 g2 hmm hy1 hy2
    refine ClR.walk (c := _) rfl Tryz.func123 rfl (by kernel_rfl) rfl isRet_fail ?_
    try simp only [entryEnv, Nat.reduceAdd, List.nil_append, List.cons_append, emptyHp]
    repeat' (first | refine goS ?_ | (apply U6; exact Z1; exact Z1; (focus (simp only [List.nil_append, List.append_nil]; first | exact hct)); simp only [pM, pN, rR, rP]) | refine go2 (fun hh => ?_) (fun hh => ?_) | fail)
    all_goals (simp only [resV_def (X := dX cNS) Tryz.func123, Tryz.results123]; first | exact J5 | refine J6 ?_)
    all_goals rfl
  ·cases h
 ·cases h
theorem K123 {X : Ctx} (hX : X.intr 123 = some (pureFn sp123)) {m : Hs} {ra fa oa ha pa : AV} {p : List Int} (hm : HsA m ra fa oa ha) (hp : slV intC pa = some p) (h : Heap) : Cl X 123 [.agg [.int .i64 m.hours, ra, fa, oa, ha], pa] h (.ret (.bool (pathB m p)) h none) :=
 Cl.intr hX (by
  have h1 := hm.pur
  have h2 := hm.hs
  simp only [pureFn, AV.purL, h1, sl_pur hp, Bool.and_self, if_true, sp123, h2, hp])
end Go.AM
namespace Go.AM
open Go Go.Proofs
variable [Keep]
attribute [local irreducible] W WO WO1 WD WQ WT thenQ blockQ endR isRet retK Cl ClR
open Go.TX (Rm Fa Ha Hs)
attribute [local irreducible] runsB madeR madeF drawnP sumW rowF nowF
theorem lisL_rows : ∀ (g : List (List Int)), (∀ l ∈ g, l.length ≤ maxL) → lisL (rowsE g) = some g
 | [], _ => rfl
 | l :: g, h => by
  have h1 : slV intC (slN (intsE l)) = some l := ints_sl l (h l (by simp))
  have h2 := lisL_rows g fun x hx => h x (by simp [hx])
  simp only [rowsE, List.map_cons] at h2 ⊢
  simp only [lisL, h1, h2]
theorem rows_lis {g : List (List Int)} (h : g.length ≤ maxL) (hm : ∀ l ∈ g, l.length ≤ maxL) : lisV (slN (rowsE g)) = some g := by
 have h1 := lisL_rows g hm
 cases g with
 | nil => rfl
 | cons a r =>
  show lisV (.vslice (rowsE (a :: r))) = _
  unfold lisV
  simp only
  rw [if_pos (by rw [rowsE_len]; exact h), h1]
theorem Blt.toN {h : Heap} {v : AV} {sz : Nat} {l : List AV} (q : Blt h v sz l) : BltN 0 h v sz l := by
 rcases q with q | ⟨id, h1, h2, h3, h4⟩
 ·exact .inl q
 ·exact .inr ⟨id, h1, h2, Nat.zero_le _, h3, h4⟩
theorem row_next (m : Hs) (f : Fl) (r : Nat) (md : Nat → Int) (k : Nat) : rowF m f r md (k + 1) = rowF m f r md k ++ [nowF m f r md (k + 1)] := by conv => lhs; unfold rowF
theorem now_next (m : Hs) (f : Fl) (r : Nat) (md : Nat → Int) (k : Nat) : nowF m f r md (k + 1) = maxV 0 (w64 ((if runsB m f r k = true then w64 (nowF m f r md k + md k) else nowF m f r md k) - sumW (drawnP m f r k m.fans.length))) := by conv => lhs; unfold nowF
theorem now_zero (m : Hs) (f : Fl) (r : Nat) (md : Nat → Int) : nowF m f r md 0 = (m.rooms.getD r rm0).stt := by unfold nowF; rfl
theorem row_zero (m : Hs) (f : Fl) (r : Nat) (md : Nat → Int) : rowF m f r md 0 = [] := by unfold rowF; rfl
end Go.AM
