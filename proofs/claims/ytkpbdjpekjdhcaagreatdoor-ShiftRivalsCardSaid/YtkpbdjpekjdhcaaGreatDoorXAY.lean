/-
  A part of the proof: contracts of functions.
-/
import Derived.Test.YtkpbdjpekjdhcaaGreatDoorXAX
import Derived.Test.YtkpbdjpekjdhcaaGreatDoorXAT
set_option linter.unusedSectionVars false
set_option linter.unusedVariables false
set_option linter.unusedSimpArgs false
set_option maxRecDepth 100000
namespace Go.AM
open Go Go.Proofs
variable [Keep]
attribute [local irreducible] W WO WO1 WD WQ WT thenQ blockQ endR isRet retK Cl ClR
open Go.TX (Rm Fa Ha Hs)
attribute [local irreducible] runsB madeR madeF drawnP sumW rowF nowF
set_option maxHeartbeats 400000 in
theorem C195 (c : Itr) (hc : c 195 = none) (a : AV) (g : List (List Int)) (ha : lisV a = some g) (fid : FuncId) (first capt : List AV) (pb : List Int -> Bool) (h : Heap)
  (hcall : ∀ b r, slV intC b = some r -> r ∈ g -> Cl (dX c) fid ((first ++ [b]) ++ capt) h (.ret (.bool (pb r)) h none)) : Cl (dX c) 195 [a, .func (.func fid) first capt] h (.ret (.int .i64 (idxOf pb g)) h none) := by
 refine ClR.cl ?_
 have hlen := lis_len ha
 have hout := lis_out ha
 have hmax := lis_max ha
 have HA := J1 ha
 have HC := J1 hcall
 clear ha hcall
 refine ClR.walk (c := _) hc Tryz.func195 rfl (by kernel_rfl) rfl (fun e => by cases e) ?_
 try simp only [entryEnv, Nat.reduceAdd, List.nil_append, List.cons_append, emptyHp]
 repeat' (first | refine goS ?_ | (refine go2 ?_ ?_ <;> intro hh) | fail)
 refine W.loopH (g.length) [0, 1, 7] [] (fun k e lm => e.get 8 = some (.int .i64 ↑k) /\ (g.take k).all (fun x => !pb x) = true) ?_ ?_
 ·skip
  refine ⟨?_, ?_⟩
  all_goals first | exact Z2 | (simp [go_sem, *]; done) | skip
  all_goals rfl
 intro k e lm hk0 hce hcl hinv
 simp only [keepE, and_true] at hce
 obtain ⟨c0, c1, c7⟩ := hce
 simp only [go_sem, *, Nat.reduceBEq, Nat.reduceEqDiff, reduceIte] at c0 c1 c7
 clear hcl
 obtain ⟨h8, hal⟩ := hinv
 by_cases hlt : k < g.length
 ·have hd0 : decide ((k : Int) < ((g.length : Nat) : Int)) = true := by first | (simpa using hlt; done) | (simp only [decide_eq_true_eq]; omega)
  have hv_0 := wrap_succ hlt hmax
  obtain ⟨r, hr⟩ := get_some hlt
  obtain ⟨b, hb1, hb2⟩ := lis_idx HA.out hr
  have hcl := HC.out b r hb1 (List.mem_of_getElem? hr)
  have ob := sl_out hb1
  have hcb := (slV_is hb1).1.cells
  have htb := (slV_is hb1).1.tup
  simp only [AV.cells] at hcb
  simp only [isTuple] at htb
  have hnx := take_next hr
  have HI : pb r = true -> idxOf pb g = k := idxOf_at hal hr
  have HH := J1 HI
  have HNX := J1 hnx
  have HAL := J1 hal
  have HLT0 := J1 hlt
  clear hb1 hr hal hnx HI hlt
  cases hq : pb r with
  | true =>
   rw [hq] at hcl
   rw [HH.out hq]
   repeat' (first | (apply U6; exact Z1; exact Z1; (focus (exact hcl)); simp only [pM, pN, rR, rP]) | refine go1 ?_ | (refine go2 ?_ ?_ <;> intro hh) | fail)
   all_goals (simp only [resV_def (X := dX c) Tryz.func195, Tryz.results195]; first | exact J5 | refine J6 ?_)
   all_goals rfl
  | false =>
   rw [hq] at hcl
   repeat' (first | (apply U6; exact Z1; exact Z1; (focus (exact hcl)); simp only [pM, pN, rR, rP]) | refine go1 ?_ | (refine go2 ?_ ?_ <;> intro hh) | fail)
   all_goals refine contH_mk J9 J7 J8 ?_
   all_goals refine ⟨?_, ?_⟩
   all_goals first | exact Z2 | skip
   all_goals (rw [HNX.out, List.all_append, HAL.out]; simp [hq])
 ·have hd0 : decide ((k : Int) < ((g.length : Nat) : Int)) = false := by first | (simpa using hlt; done) | (simp only [decide_eq_false_iff_not]; omega)
  obtain rfl : k = g.length := by omega
  rw [List.take_length] at hal
  rw [idxOf_none hal]
  clear hal
  repeat' (first | refine goS ?_ | (refine go2 ?_ ?_ <;> intro hh) | fail)
  all_goals (simp only [resV_def (X := dX c) Tryz.func195, Tryz.results195]; first | exact J5 | refine J6 ?_)
  all_goals rfl
theorem C167 (c : Itr) (hc : c 195 = none) (hc2 : c 167 = none) (a : AV) (g : List (List Int)) (ha : lisV a = some g) (fid : FuncId) (first capt : List AV) (pb : List Int -> Bool) (h : Heap)
  (hcall : ∀ b r, slV intC b = some r -> r ∈ g -> Cl (dX c) fid ((first ++ [b]) ++ capt) h (.ret (.bool (pb r)) h none)) : Cl (dX c) 167 [a, .func (.func fid) first capt] h (.ret (.bool (g.any pb)) h none) := by
 refine ClR.cl ?_
 have hcl := C195 c hc a g ha fid first capt pb h hcall
 have hout := lis_out ha
 have hb := idxOf_any pb g
 clear ha hcall
 refine ClR.walk (c := _) hc2 Tryz.func167 rfl (by kernel_rfl) rfl (fun e => by cases e) ?_
 try simp only [entryEnv, Nat.reduceAdd, List.nil_append, List.cons_append, emptyHp]
 repeat' (first | (apply U6; exact Z1; exact Z1; (focus (exact hcl)); simp only [pM, pN, rR, rP]) | refine go1 ?_ | (refine go2 ?_ ?_ <;> intro hh) | fail)
 all_goals (simp only [resV_def (X := dX c) Tryz.func167, Tryz.results167]; first | exact J5 | refine J6 ?_)
 simp [isR, frzRes, dX_frz, dFrz, hb]
end Go.AM
namespace Go.AM
open Go Go.Proofs
variable [Keep]
attribute [local irreducible] W WO WO1 WD WQ WT thenQ blockQ endR isRet retK Cl ClR
open Go.TX (Rm Fa Ha Hs)
attribute [local irreducible] runsB madeR madeF drawnP sumW rowF nowF houseB fitsB
def LsI (dv : AV) (g : List (List Int)) : Prop := ∃ es : List AV, isSl dv es /\ es.length = g.length /\ ∀ (k : Nat) (l : List Int), g[k]? = some l -> ∃ b, es[k]? = some b /\ isSl b (intsE l)
theorem LsI.idx {dv : AV} {g : List (List Int)} (q : LsI dv g) {k : Nat} {l : List Int} (hk : g[k]? = some l) : ∃ b, isSl b (intsE l) /\ ∀ H, indexAddrV Tryz.prog H 36 dv (.int .i64 ↑k) = some (.vptr [b]) := by
 obtain ⟨es, h1, h2, h3⟩ := q
 obtain ⟨b, e1, e2⟩ := h3 k l hk
 refine ⟨b, e2, fun H => ?_⟩
 have := h1.idx (hp := H) (x := b) (m := 1) Tryz.underlying36 ty_lay24 e1 (by rw [e2.cells]; rfl)
 rw [e2.cells] at this
 exact this
theorem LsI.len {dv : AV} {g : List (List Int)} (q : LsI dv g) : lenS dv = some g.length := by
 obtain ⟨es, h1, h2, h3⟩ := q
 rw [h1.len, h2]
theorem LsI.out {dv : AV} {g : List (List Int)} (q : LsI dv g) : outV (some dv) = some dv := by
 obtain ⟨es, h1, h2, h3⟩ := q
 exact h1.out
theorem lisL_mk : ∀ {es : List AV} {g : List (List Int)}, es.length = g.length -> (∀ (k : Nat) (l : List Int), g[k]? = some l -> ∃ b, es[k]? = some b /\ isSl b (intsE l)) -> (∀ l ∈ g, l.length <= maxL) -> lisL es = some g
 | [], [], _, _, _ => rfl
 | [], _ :: _, h, _, _ => by simp at h
 | _ :: _, [], h, _, _ => by simp at h
 | a :: es, l :: g, h, hi, hm => by
  obtain ⟨b, e1, e2⟩ := hi 0 l rfl
  simp only [List.getElem?_cons_zero, Option.some.injEq] at e1
  subst e1
  have h1 : slV intC a = some l := slV_mk e2 (hm l (by simp))
  have h2 := lisL_mk (es := es) (g := g) (by simpa using h) (fun k l' hk => by
   have := hi (k + 1) l' (by simpa using hk)
   simpa using this) (fun l' hl => hm l' (by simp [hl]))
  simp only [lisL, h1, h2]
theorem LsI.lis {dv : AV} {g : List (List Int)} (q : LsI dv g) (h : g.length <= maxL) (hm : ∀ l ∈ g, l.length <= maxL) : lisV dv = some g := by
 obtain ⟨es, h1, h2, h3⟩ := q
 have hl := lisL_mk h2 h3 hm
 rcases h1 with ⟨rfl | rfl, rfl⟩ | rfl
 ·cases g with
  | nil => rfl
  | cons a r => simp at h2
 ·cases g with
  | nil => rfl
  | cons a r => simp at h2
 ·unfold lisV
  simp only
  rw [if_pos (by omega), hl]
def sizedL (g : List (List Int)) : Bool := ((g.take 7).all fun l => decide (l.length <= 7)) && decide ((g.length : Int) <= 6)
theorem sizedL_is {g : List (List Int)} (h : sizedL g = true) : g.length <= 6 /\ ∀ l ∈ g, l.length <= 7 := by
 unfold sizedL at h
 simp only [Bool.and_eq_true, decide_eq_true_eq, List.all_eq_true] at h
 have h1 : g.length <= 6 := by omega
 rw [List.take_of_length_le (by omega)] at h
 exact ⟨h1, h.1⟩
theorem LsI.sized {dv : AV} {g : List (List Int)} (q : LsI dv g) (h : sizedL g = true) : lisV dv = some g := by
 obtain ⟨h1, h2⟩ := sizedL_is h
 exact q.lis (by unfold maxL; omega) fun l hl => by have := h2 l hl; unfold maxL; omega
section
variable {c : Itr}
set_option maxHeartbeats 4000000 in
theorem C51 (h51 : c 51 = none) (dv : AV) (g : List (List Int)) (q : LsI dv g) (h : Heap) : Cl (dX c) 51 [dv] h (.ret (.bool (sizedL g)) h none) := by
 refine ClR.cl ?_
 have ld := q.len
 have od := q.out
 have HQ := J1 q
 have hmin : min g.length 7 <= 7 := Nat.min_le_right _ _
 have hmin2 : min g.length 7 <= g.length := Nat.min_le_left _ _
 clear q
 refine ClR.walk (c := _) h51 Tryz.func51 rfl (by kernel_rfl) rfl (fun e => by cases e) ?_
 try simp only [entryEnv, Nat.reduceAdd, List.nil_append, List.cons_append, emptyHp]
 repeat' (first | refine goS ?_ | (refine go2 ?_ ?_ <;> intro hh) | fail)
 refine W.loopH (min g.length 7) [0] [] (fun k e lm => e.get 3 = some (.int .i64 ↑k) /\ (g.take k).all (fun l => decide (l.length <= 7)) = true) ?_ ?_
 ·refine ⟨?_, ?_⟩ <;> first | exact Z2 | rfl | assumption | (simp [go_sem, *]; done)
 intro k e lm hk0 hce hcl hinv
 simp only [keepE, and_true] at hce
 have c0 := hce
 clear hce
 simp only [go_sem, *, Nat.reduceBEq, Nat.reduceEqDiff, reduceIte] at c0
 clear hcl
 obtain ⟨h3, hal⟩ := hinv
 by_cases hlt : k < min g.length 7
 ·have hd0 : decide ((k : Int) < ((min g.length 7 : Nat) : Int)) = true := by first | (simpa using hlt; done) | (simp only [decide_eq_true_eq]; omega)
  have hv_0 := wrap_succ hlt (by unfold maxL; omega)
  obtain ⟨l, hl⟩ := get_some (l := g) (k := k) (by omega)
  obtain ⟨b, hb1, hb2⟩ := HQ.out.idx hl
  have lb := hb1.len
  have ob := hb1.out
  have hcb := hb1.cells
  have htb := hb1.tup
  simp only [AV.cells] at hcb
  simp only [isTuple] at htb
  rw [intsE_len] at lb
  have hnx := all_at hl hal
  have he1 : decide ((k : Int) < (g.length : Int)) = true := by simp only [decide_eq_true_eq]; omega
  have he2 : decide ((k : Int) < 7) = true := by simp only [decide_eq_true_eq]; omega
  have HNX := J1 hnx
  have HLL := J1 hl
  have HLT0 := J1 hlt
  clear hb1 hl hnx hal
  cases hq : decide ((l.length : Int) > 7) with
  | true =>
   have hno : sizedL g = false := by
    unfold sizedL
    have : ((g.take 7).all fun l => decide (l.length <= 7)) = false := by
     rw [List.all_eq_false]
     have h7 : k < 7 := by omega
     refine ⟨l, List.mem_of_getElem? (i := k) (by rw [List.getElem?_take, if_pos h7]; exact HLL.out), ?_⟩
     simp only [decide_eq_true_eq] at hq ⊢
     omega
    rw [this, Bool.false_and]
   rw [hno]
   clear hno hlt
   repeat' (first | refine goS ?_ | (refine go2 ?_ ?_ <;> intro hh) | fail)
   all_goals (simp only [resV_def (X := dX c) Tryz.func51, Tryz.results51]; first | exact J5 | refine J6 ?_)
   all_goals rfl
  | false =>
   have hle : decide (l.length <= 7) = true := by simp only [decide_eq_false_iff_not, decide_eq_true_eq] at hq ⊢; omega
   clear hlt
   repeat' (first | refine goS ?_ | (refine go2 ?_ ?_ <;> intro hh) | fail)
   all_goals refine contH_mk J9 J7 J8 ?_
   all_goals refine ⟨?_, ?_⟩
   all_goals first | exact Z2 | skip
   all_goals exact HNX.out.trans hle
 ·have hd0 : decide ((k : Int) < ((min g.length 7 : Nat) : Int)) = false := by first | (simpa using hlt; done) | (simp only [decide_eq_false_iff_not]; omega)
  obtain rfl : k = min g.length 7 := by omega
  have hS : sizedL g = decide ((g.length : Int) <= 6) := by
   unfold sizedL
   by_cases h7 : g.length <= 7
   ·have e1 : g.take (min g.length 7) = g := List.take_of_length_le (by omega)
    rw [e1] at hal
    rw [List.take_of_length_le h7, hal, Bool.true_and]
   ·have e1 : min g.length 7 = 7 := by omega
    rw [e1] at hal
    rw [hal, Bool.true_and]
  rw [hS]
  clear hal hS
  by_cases h7 : g.length <= 7
  ·have e1 : min g.length 7 = g.length := by omega
   have he1 : decide ((↑(min g.length 7) : Int) < (g.length : Int)) = false := by rw [e1]; simp
   clear e1
   repeat' (first | refine goS ?_ | (refine go2 ?_ ?_ <;> intro hh) | fail)
   all_goals (simp only [resV_def (X := dX c) Tryz.func51, Tryz.results51]; first | exact J5 | refine J6 ?_)
   all_goals rfl
  ·have e1 : min g.length 7 = 7 := by omega
   have he1 : decide ((↑(min g.length 7) : Int) < (g.length : Int)) = true := by simp only [decide_eq_true_eq]; omega
   have he2 : decide ((↑(min g.length 7) : Int) < 7) = false := by simp only [decide_eq_false_iff_not]; omega
   clear e1
   repeat' (first | refine goS ?_ | (refine go2 ?_ ?_ <;> intro hh) | fail)
   all_goals (simp only [resV_def (X := dX c) Tryz.func51, Tryz.results51]; first | exact J5 | refine J6 ?_)
   all_goals rfl
end
theorem viewV_p {h : Heap} {a : AV} (hp : a.pur = true) : viewV h a = some a := by
 cases a <;> first | (simp [AV.pur] at hp; done) | (simp only [viewV, hp, if_true]; done)
theorem viewVs_p {h : Heap} : ∀ {l : List AV}, AV.purL l = true -> viewVs h l = some l
 | [], _ => rfl
 | a :: r, hp => by
  simp only [AV.purL, Bool.and_eq_true] at hp
  simp only [viewVs, viewV_p hp.1, viewVs_p hp.2]
theorem viewD_p {h : Heap} {a : AV} (hp : a.pur = true) : viewD h a = some a := by
 cases a with
 | agg l => simp only [viewD, viewVs_p (l := l) (by simpa [AV.pur] using hp), Option.map_some]
 | _ => exact viewV_p (h := h) hp
theorem bool_ne (a b : Bool) : binV Tryz.prog .neq 4 false (.bool a) (.bool b) = some (.bool (a != b)) := by
 have h : eqT Tryz.prog eqDepth 4 (.bool a) (.bool b) = some (a == b) := by
  unfold eqDepth
  rw [eqT.eq_def]
  simp only [Tryz.underlying4]
 simp only [binV, eqOp, eqV, h]
 rfl
end Go.AM
