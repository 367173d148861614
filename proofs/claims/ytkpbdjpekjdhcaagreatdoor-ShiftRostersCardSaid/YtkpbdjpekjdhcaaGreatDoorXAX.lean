/-
  A part of the proof: contracts of functions.
-/
import Derived.Test.YtkpbdjpekjdhcaaGreatDoorXAV
import Derived.Test.YtkpbdjpekjdhcaaGreatDoorXAT
import Derived.Test.YtkpbdjpekjdhcaaGreatDoorXAW
import Derived.Test.YtkpbdjpekjdhcaaGreatDoorXAU
import Derived.Test.YtkpbdjpekjdhcaaGreatDoorXAI
set_option linter.unusedSectionVars false
set_option linter.unusedVariables false
set_option linter.unusedSimpArgs false
set_option maxRecDepth 100000
namespace Go.AM
open Go Go.Proofs
variable [Keep]
attribute [local irreducible] W WO WO1 WD WQ WT thenQ blockQ endR isRet retK Cl ClR
open Go.TX (Rm Fa Ha Hs)
attribute [local irreducible] roundQ RdR
section
variable {σ : Type} {I D : σ -> Heap -> Prop} {own : Heap -> Nat -> Prop} (ok : OwnOk I own) {s s4 : σ} {h1 hq h' : Heap} {L1 : Nat} {bl : Blk}
include ok
theorem rnd_in (i : I s h1) (hn : hq.next = h1.next) (hg : ∀ j, j ≠ L1 -> hq.get j = h1.get j) (fL : ¬ own h1 L1) (nr : ∀ z r, h1.get L1 ≠ some (.rw z r)) : I s hq /\ ∀ id, own hq id -> own h1 id :=
 ok.lp s h1 hq L1 i fL nr hn hg
theorem back_put (i : I s4 h') (fL : ¬ own h' L1) (nr : ∀ z r, h'.get L1 ≠ some (.rw z r)) : I s4 (h'.put L1 bl) /\ ∀ id, own (h'.put L1 bl) id -> own h' id :=
 ok.lp s4 h' _ L1 i fL nr rfl fun id hid => by
  rw [Heap.get_put, if_neg (fun e => hid e.symm)]
theorem back_go (i : I s h1) (hn : hq.next = h1.next) (hg : ∀ j, j ≠ L1 -> hq.get j = h1.get j) (hL : h1.get L1 = some bl) (fL : ¬ own h1 L1) (lL : L1 < h1.next) (nr : ∀ z r, h1.get L1 ≠ some (.rw z r)) (nq : ∀ z r, hq.get L1 ≠ some (.rw z r)) (i4 : I s4 h') (kr : Rel own hq h') : I s4 (h'.put L1 bl) /\ Rel own h1 (h'.put L1 bl) := by
 obtain ⟨_, b2⟩ := rnd_in ok i hn hg fL nr
 have k := kr.2 L1 (by rw [hn]; exact lL) (fun ho => fL (b2 _ ho))
 obtain ⟨c1, c2⟩ := back_put ok (bl := bl) i4 k.2 (fun z r e => nq z r (k.1.symm.trans e))
 refine ⟨c1, ?_, fun id hid ho => ?_⟩
 ·show h1.next <= h'.next
  rw [<- hn]; exact kr.1
 ·have q := kr.2 id (by rw [hn]; exact hid) (fun k => ho (b2 _ k))
  refine ⟨?_, fun k => q.2 (c2 _ k)⟩
  rw [Heap.get_put]
  split
  ·rename_i e; subst e; exact hL.symm
  ·rename_i e; rw [q.1]; exact hg id (fun e' => e e'.symm)
end
def extP (rl : Nat) (p : List Int) : List (List Int) := (List.range (rl + 1)).map fun i : Nat => p ++ [(i : Int) - 1]
def allP (rl : Nat) : Nat -> List (List Int)
 | 0 => [[]]
 | k + 1 => (allP rl k).flatMap (extP rl)
theorem allP_succ (rl k : Nat) : allP rl (k + 1) = (allP rl k).flatMap (extP rl) := rfl
theorem allP_zero (rl : Nat) : allP rl 0 = [[]] := rfl
theorem extP_len (rl : Nat) (p : List Int) : (extP rl p).length = rl + 1 := by unfold extP; simp
theorem allP_len (rl : Nat) : ∀ k, (allP rl k).length = (rl + 1) ^ k
 | 0 => rfl
 | k + 1 => by
  have ih := allP_len rl k
  unfold allP
  have : ∀ l : List (List Int), (l.flatMap (extP rl)).length = l.length * (rl + 1) := by
   intro l
   induction l with
   | nil => simp
   | cons a l ih => rw [List.flatMap_cons, List.length_append, extP_len, ih, List.length_cons, Nat.add_mul, Nat.one_mul, Nat.add_comm]
  rw [this, ih, Nat.pow_succ]
def allB (rl : Nat) : Nat -> List (List Int)
 | 0 => [[]]
 | k + 1 => (List.range (rl + 1)).flatMap fun i : Nat => (allB rl k).map fun q => ((i : Int) - 1) :: q
theorem flatMap_map' {α β γ : Type} (f : α -> β) (g : β -> List γ) : ∀ l : List α, (l.map f).flatMap g = l.flatMap fun x => g (f x)
 | [] => rfl
 | a :: l => by simp only [List.map_cons, List.flatMap_cons, flatMap_map' f g l]
theorem flatMap_flatMap' {α β γ : Type} (f : α -> List β) (g : β -> List γ) : ∀ l : List α, (l.flatMap f).flatMap g = l.flatMap fun x => (f x).flatMap g
 | [] => rfl
 | a :: l => by simp only [List.flatMap_cons, List.flatMap_append, flatMap_flatMap' f g l]
theorem map_flatMap' {α β γ : Type} (f : α -> List β) (g : β -> γ) : ∀ l : List α, (l.flatMap f).map g = l.flatMap fun x => (f x).map g
 | [] => rfl
 | a :: l => by simp only [List.flatMap_cons, List.map_append, map_flatMap' f g l]
theorem flat_single {α β : Type} (f : α -> β) : ∀ l : List α, (l.flatMap fun x => [f x]) = l.map f
 | [] => rfl
 | a :: l => by simp only [List.flatMap_cons, List.map_cons, flat_single f l]; rfl
theorem allB_all (rl : Nat) : ∀ k, allB rl k = allP rl k
 | 0 => rfl
 | k + 1 => by
  have ih := allB_all rl k
  have key : ∀ k, allB rl (k + 1) = (allB rl k).flatMap (extP rl) := by
   intro k
   induction k with
   | zero =>
    simp [allB, extP]
    exact flat_single _ _
   | succ k ih2 =>
    rw [allB]
    conv => lhs; rw [ih2]
    conv => rhs; rw [allB]
    rw [flatMap_flatMap']
    congr 1
    funext i
    rw [map_flatMap', flatMap_map']
    congr 1
    funext q
    unfold extP
    simp only [List.map_map]
    rfl
  rw [key k, ih]
  rfl
theorem paths_all (rl : Nat) : ∀ d p, pathsL (fun _ _ => true) rl d p = (allP rl d).map (p ++ ·)
 | 0, p => by simp [pathsL, allP]
 | d + 1, p => by
  rw [<- allB_all, pathsL, allB, map_flatMap']
  congr 1
  funext i
  rw [if_pos rfl, paths_all rl d, List.map_map, allB_all]
  congr 1
  funext q
  simp
theorem paths_top (rl n : Nat) : pathsL (fun _ _ => true) rl n [] = allP rl n := by
 rw [paths_all]
 simp
theorem allP_mem {rl : Nat} : ∀ {k : Nat} {p : List Int}, p ∈ allP rl k -> p.length = k /\ PLt rl p
 | 0, p, h => by
  simp [allP] at h
  subst h
  exact ⟨rfl, fun x hx => by simp at hx⟩
 | k + 1, p, h => by
  rw [allP, List.mem_flatMap] at h
  obtain ⟨q, h1, h2⟩ := h
  obtain ⟨h3, h4⟩ := allP_mem h1
  unfold extP at h2
  obtain ⟨i, h5, rfl⟩ := List.mem_map.1 h2
  exact ⟨by simp [h3], h4.app (List.mem_range.1 h5)⟩
theorem flat_next {α β : Type} {f : α -> List β} {l : List α} {k : Nat} {x : α} (h : l[k]? = some x) : (l.take (k + 1)).flatMap f = (l.take k).flatMap f ++ f x := by
 rw [take_next h, List.flatMap_append]
 simp
theorem ext_next (rl : Nat) (p : List Int) (i : Nat) : ((List.range (i + 1)).map fun i : Nat => p ++ [(i : Int) - 1]) = ((List.range i).map fun i : Nat => p ++ [(i : Int) - 1]) ++ [p ++ [(i : Int) - 1]] := by
 rw [List.range_succ, List.map_append]
 rfl
def AllV (h : Heap) (v : AV) (k : Nat) (ls : List (List Int)) : Prop := (k = 0 /\ v = .vslice [.nilslice] /\ ls = [[]]) \/ Blt2 h v 1 (ls.map intsE)
theorem AllV.keep {h h' : Heap} {v : AV} {k : Nat} {ls : List (List Int)} (q : AllV h v k ls) (x : HExt h h') : AllV h' v k ls := by
 rcases q with q | q
 ·exact .inl q
 ·exact .inr (q.keep x)
theorem AllV.out {h : Heap} {v : AV} {k : Nat} {ls : List (List Int)} (q : AllV h v k ls) : outV (some v) = some v /\ lenS v = some ls.length := by
 rcases q with ⟨_, rfl, rfl⟩ | q
 ·exact ⟨rfl, rfl⟩
 ·have := q.len
  rw [List.length_map] at this
  exact ⟨q.out, this⟩
theorem AllV.read {h : Heap} {v : AV} {k : Nat} {ls : List (List Int)} (q : AllV h v k ls) {j : Nat} {p : List Int} (hj : ls[j]? = some p) : ∃ b, (h.elems b = some (intsE p) /\ outV (some b) = some b /\ b.cells = [b] /\ isTuple b = false) /\
  ((∀ H, indexAddrV Tryz.prog H 36 v (.int .i64 (j : Int)) = some (.vptr [b])) \/ ∃ id el, h.get id = some (.rw 1 el) /\ el[j]? = some b /\ indexAddrV Tryz.prog h 36 v (.int .i64 (j : Int)) = some (.eptr id 1 j 0)) := by
 rcases q with ⟨_, rfl, rfl⟩ | ⟨el, hb, hl, hi⟩
 ·cases j with
  | succ j => simp at hj
  | zero =>
   simp at hj
   subst hj
   refine ⟨.nilslice, ⟨rfl, rfl, rfl, rfl⟩, .inl fun H => ?_⟩
   have : isSl (.vslice [.nilslice]) [AV.nilslice] := .inr rfl
   exact this.idx (hp := H) (x := .nilslice) (m := 1) Tryz.underlying36 ty_lay24 (k := 0) rfl rfl
 ·obtain ⟨hj1, hj2⟩ := List.getElem?_eq_some_iff.1 hj
  rw [List.length_map] at hl
  have h1 := hi j (by omega)
  have e1 : (ls.map intsE).getD j [] = intsE p := by simp [List.getD, hj]
  rw [e1] at h1
  rcases hb with ⟨rfl, rfl⟩ | ⟨id, rfl, h2, h3, h4⟩
  ·simp at hl; omega
  ·obtain ⟨b, hbj⟩ := get_some (l := el) (k := j) (by omega)
   have e2 : el.getD j .junk = b := by simp [List.getD, hbj]
   rw [e2] at h1
   refine ⟨b, ?_, .inr ⟨id, el, h2, hbj, ?_⟩⟩
   ·rcases h1 with ⟨rfl, h5⟩ | ⟨id', rfl, h5, h6, h7, h8⟩
    ·rw [h5]; exact ⟨rfl, rfl, rfl, rfl⟩
    ·exact ⟨by simp [Heap.elems, h5], rfl, rfl, rfl⟩
   ·have hix : idxV (.int .i64 (j : Int)) el.length = some j := by
     simp only [idxV]
     rw [if_pos (by constructor <;> omega)]
     simp
    simp only [indexAddrV, Tryz.underlying36, ty_lay24, hix, h2, if_true, Nat.zero_add]
theorem rowsE_map' (g : List (List Int)) : slN ((g.map intsE).map slN) = slN (rowsE g) := by unfold rowsE; rw [List.map_map]; rfl
def sp99 : List AV -> Option AV
 | [x] => match hsV x with
  | some m => if houseB m = true then some (slN (rowsE (allP m.rooms.length m.hours.toNat))) else none
  | none => none
 | _ => none
attribute [local irreducible] houseB allP
set_option maxHeartbeats 16000000 in
theorem R99 (m : Hs) (ra fa oa ha : AV) (hm : HsA m ra fa oa ha) (hb : houseB m = true) : ClR (dX i0) 99 [.agg [.int .i64 m.hours, ra, fa, oa, ha]] emptyHp (isQ (slN (rowsE (allP m.rooms.length m.hours.toNat)))) := by
 have ho := house_ok hb
 obtain ⟨nn, hnn, hnt, hn1, hn4, hol⟩ := ho_parts ho
 have hr3 := ho.rooms
 have l1 := sl_len hm.r
 have o1 := sl_out hm.r
 have o2 := sl_out hm.f
 have o3 := sl_out hm.o
 have o4 := sl_out hm.h
 rw [hnt]
 rw [hnn]
 generalize m.rooms.length = rl at *
 have hlen4 : ∀ k, k <= nn -> (allP rl k).length <= 256 := fun k hk => by
  rw [allP_len]
  have h1 : (rl + 1) ^ k <= 4 ^ k := Nat.pow_le_pow_left (by omega) k
  have h2 : 4 ^ k <= 4 ^ 4 := Nat.pow_le_pow_right (by omega) (by omega)
  omega
 have H4 := J1 hlen4
 have HN := J1 hn4
 have HN1 := J1 hn1
 have HR := J1 hr3
 clear hm hb ho hnn hnt hol hn1 hn4 hr3 hlen4
 refine ClR.walk (c := _) rfl Tryz.func99 rfl (by kernel_rfl) rfl isQ_fail ?_
 try simp only [entryEnv, Nat.reduceAdd, List.nil_append, List.cons_append, emptyHp]
 repeat' (first | refine goS ?_ | (refine go2 ?_ ?_ <;> intro hh) | fail)
 refine W.loopV (nn) [1] [1] (fun k e lm hp => ∃ va, e.get 4 = some (.int .i64 ↑k) /\ e.get 3 = some (va) /\ AllV hp va k (allP rl k)) ?_ ?_
 ·skip
  refine ⟨.vslice [.nilslice], ?_, ?_, .inl ⟨rfl, rfl, allP_zero rl⟩⟩
  all_goals first | exact Z2 | (simp [go_sem, *]; done) | skip
 intro k e lm hp hk0 hce hcl hinv
 simp only [keepE, and_true] at hce
 have c1 := hce
 clear hce
 simp only [go_sem, *, Nat.reduceBEq, Nat.reduceEqDiff, reduceIte] at c1
 simp only [keepL, and_true] at hcl
 have d1 := hcl
 clear hcl
 simp only [go_sem, *, Nat.reduceBEq, Nat.reduceEqDiff, reduceIte] at d1
 obtain ⟨va, h4, h3, hA⟩ := hinv
 by_cases hlt : k < nn
 ·have hd0 : decide ((k : Int) < ((nn : Nat) : Int)) = true := by first | (simpa using hlt; done) | (simp only [decide_eq_true_eq]; omega)
  have hv_0 := wrap_succ hlt (by have := HN.out; unfold maxL; omega)
  obtain ⟨ova, lva⟩ := hA.out
  have HA := J1 hA
  have HLT0 := J1 hlt
  clear hlt hA
  repeat' (first | refine goS ?_ | (refine go2 ?_ ?_ <;> intro hh) | fail)
  refine W.loopV ((allP rl k).length) [1, 3, 4] [1] (fun j e1 lm1 hp1 => ∃ u, e1.get 6 = some (.int .i64 ↑j) /\ e1.get 5 = some (u) /\ Blt2 hp1 u 1 ((((allP rl k).take j).flatMap (extP rl)).map intsE) /\ HExt hp hp1 /\ (∀ id off n, u = .row id off n -> hp.next <= id)) ?_ ?_
  ·skip
   refine ⟨.nilslice, ?_, ?_, Blt2.nil, HExt.refl _, fun id off n e => by cases e⟩
   all_goals first | exact Z2 | (simp [go_sem, *]; done) | skip
  intro j e1 lm1 hp1 hk1 hce hcl hinv
  simp only [keepE, and_true] at hce
  obtain ⟨c1, c3, c4⟩ := hce
  simp only [go_sem, *, Nat.reduceBEq, Nat.reduceEqDiff, reduceIte] at c1 c3 c4
  simp only [keepL, and_true] at hcl
  have d1 := hcl
  clear hcl
  simp only [go_sem, *, Nat.reduceBEq, Nat.reduceEqDiff, reduceIte] at d1
  obtain ⟨u, h6, h5, hB, hX, hlw⟩ := hinv
  by_cases hjt : j < (allP rl k).length
  ·have hd1 : decide ((j : Int) < (((allP rl k).length : Nat) : Int)) = true := by first | (simpa using hjt; done) | (simp only [decide_eq_true_eq]; omega)
   have hv_1 := wrap_succ hjt (by have := H4.out k (by have := HLT0.out; omega); unfold maxL; omega)
   obtain ⟨p, hp0⟩ := get_some hjt
   have hflat := flat_next (f := extP rl) hp0
   have HFL := J1 hflat
   have HP0 := J1 hp0
   have HB0 := J1 hB
   have HX0 := J1 hX
   have HLW := J1 hlw
   have HLT1 := J1 hjt
   have hbu := hB.out
   clear hp0 hflat hB hX hlw hjt
   obtain ⟨N, hN⟩ : ∃ N, N = rl + 1 := ⟨_, rfl⟩
   have HNN := J1 hN
   clear hN
   repeat' (first | refine goS ?_ | (refine go2 ?_ ?_ <;> intro hh) | fail)
   refine W.loopV (N) [1, 3, 4, 6] [1] (fun i e2 lm2 hp2 => ∃ w, e2.get 5 = some (w) /\ e2.get 7 = some (.int .i64 ((i : Int) - 1)) /\ Blt2 hp2 w 1 ((((allP rl k).take j).flatMap (extP rl) ++ ((List.range i).map fun i : Nat => p ++ [(i : Int) - 1])).map intsE) /\ HExt hp hp2 /\ (∀ id off n, w = .row id off n -> hp.next <= id)) ?_ ?_
   ·skip
    refine ⟨u, ?_, ?_, ?_, HX0.out, HLW.out⟩
    all_goals first | exact Z2 | (simp [go_sem, *]; done) | skip
    ·rw [List.range_zero, List.map_nil, List.append_nil]; exact HB0.out
   intro i e2 lm2 hp2 hk2 hce hcl hinv
   simp only [keepE, and_true] at hce
   obtain ⟨c1, c3, c4, c6⟩ := hce
   simp only [go_sem, *, Nat.reduceBEq, Nat.reduceEqDiff, reduceIte] at c1 c3 c4 c6
   simp only [keepL, and_true] at hcl
   have d1 := hcl
   clear hcl
   simp only [go_sem, *, Nat.reduceBEq, Nat.reduceEqDiff, reduceIte] at d1
   obtain ⟨w, h5, h7, hB, hX, hlw⟩ := hinv
   by_cases hit : i < N
   ·have hd2 : decide ((i : Int) < ((N : Nat) : Int)) = true := by first | (simpa using hit; done) | (simp only [decide_eq_true_eq]; omega)
    have hv_2 := wrap_succ hit (by have := HR.out; have := HNN.out; unfold maxL; omega)
    have hdl : decide (((i : Int) - 1) < (rl : Int)) = true := by have := HNN.out; simp only [decide_eq_true_eq]; omega
    have hw : IntKind.i64.wrap ((i : Int) - 1 + 1) = ((i + 1 : Nat) : Int) - 1 := by
     have := w64_small (n := (i : Int) - 1 + 1) (by omega) (by have := HNN.out; have := HR.out; omega)
     unfold w64 at this
     rw [this]
     omega
    obtain ⟨b, ⟨hel, ob, hcb, htb⟩, hrd⟩ := (HA.out.keep hX).read HP0.out
    have hpl : p.length <= 8 := by
     have h1 := List.mem_of_getElem? HP0.out
     have h2 := (allP_mem h1).1
     have h3 := HLT0.out
     have h4 := HN.out
     omega
    have hsz : ∀ v ∈ intsE p, v.cells.length = 1 := fun v hv => by
     obtain ⟨n, _, rfl⟩ := List.mem_map.1 hv
     rfl
    have hlen : (intsE p).length <= most := by rw [intsE_len]; unfold most; omega
    have hout := hB.out
    have HB := J1 hB
    have HX := J1 hX
    have HLW2 := J1 hlw
    have HLT2 := J1 hit
    have HPL := J1 hpl
    simp only [AV.cells] at hcb
    simp only [isTuple] at htb
    have HJ := J1 (rfl : (i : Int) - 1 = (i : Int) - 1)
    generalize hj : (i : Int) - 1 = jj at hdl hw h7
    have HJJ := J1 hj
    clear hj hB hX hlw hit hpl
    rcases hrd with hix | ⟨id, el0, hx1, hx2, hix⟩
    all_goals
     repeat' (first | (apply WO1.appendK (t := 24) (u := 24) (e := 3) (e' := 3) (sz := 1) (tl := []) (l := intsE p); exact Z1; exact rfl; exact Z2; exact Z2; exact Z2; (focus (exact ty_row24)); (focus (exact hel)); (focus (exact hsz)); (focus (exact hlen)); (intro v0 h0' hB0' ho0' hX0'; simp only [pM, pN])) | refine go1 ?_ | (refine go2 ?_ ?_ <;> intro hh) | fail)
     have hB := hB0'
     have hX : HExt hp2 h0' := hX0'
     have hll : (intsE p).length + 1 <= most := by rw [intsE_len]; have := HPL.out; unfold most; omega
     have hB9 := hB.blt.out
     clear hB0' hX0'
     repeat' (first | (apply WO1.appendN (t := 24) (u := 24) (e := 3) (e' := 3) (sz := 1) (tl := []) (hb := hB) (hx := HExt.pair hX); exact Z1; exact rfl; exact Z2; exact Z2; exact Z2; (focus (exact ty_row24)); exact Z1; (focus (intro v hv; simp at hv; subst hv; first | rfl | exact hsc)); (focus (simp only [List.length_map, List.length_cons, List.length_nil]; exact hll)); (focus (simp)); (intro v' h' hB' ho' hX'; have hcc' := hB'.blt.cells; have htt' := hB'.blt.tup; simp only [AV.cells] at hcc'; simp only [isTuple] at htt'; simp only [pM, pN])) | refine go1 ?_ | (refine go2 ?_ ?_ <;> intro hh) | fail)
     have hB2 := HB.out.keep hX'
     have hin := InR.of (h0 := hp2) hB' HB.out.below
     obtain ⟨el, hbl, hel2, hall⟩ := hB2
     have hA := hbl.toN
     have hbo1 := hB'.blt.out
     have hcc := hB'.blt.cells
     have htt := hB'.blt.tup
     have hsc : v'.cells.length = 1 := by rw [hcc]; rfl
     simp only [AV.cells] at hcc
     simp only [isTuple] at htt
     have hlb : el.length <= 256 := by
      rw [hel2, List.length_map]
      have h1 := H4.out (k + 1) (by have := HLT0.out; omega)
      have h2 : ((((allP rl k).take j).flatMap (extP rl) ++ ((List.range i).map fun i : Nat => p ++ [(i : Int) - 1]))).length <= (allP rl (k + 1)).length := by
       have h3 := allP_succ rl k
       have h4 : (allP rl k) = (allP rl k).take (j + 1) ++ (allP rl k).drop (j + 1) := (List.take_append_drop _ _).symm
       rw [h3]
       conv => rhs; rw [h4]
       rw [List.flatMap_append, HFL.out, List.length_append, List.length_append, List.length_append, List.length_map, List.length_range, extP_len]
       have := HLT2.out
       have := HNN.out
       omega
      omega
     have hll2 : el.length + 1 <= most := by unfold most; omega
     have hll := hll2
     have HIN := J1 hin
     have HEL := J1 hel2
     have HALL := J1 hall
     have HXX := J1 (HX.out.trans hX')
     clear hB hX hin hel2 hall hbl hB' hX' hll2 hlb hcc' htt'
     have hw5 := hw
     generalize v' = v5 at *
     generalize h' = hp5 at *
     repeat' (first | (apply WO1.appendX (t := 36) (u := 36) (e := 24) (e' := 24) (sz := 1) (tl := []) (b := 0) (h0 := ⟨0, .nil⟩) (hb := hA) (hx := ⟨Nat.zero_le _, fun id h => absurd h (Nat.not_lt_zero id)⟩); exact Z1; exact rfl; exact Z2; exact Z2; exact Z2; (focus (exact ty_row36)); exact Z1; (focus (intro v hv; simp at hv; subst hv; first | rfl | exact hsc)); (focus (simp only [List.length_map, List.length_cons, List.length_nil]; exact hll)); (focus (simp)); (intro v' h' hB' ho' hK' hE' hX'; have hcc' := hB'.blt.cells; have htt' := hB'.blt.tup; simp only [AV.cells] at hcc'; simp only [isTuple] at htt'; simp only [pM, pN])) | refine go1 ?_ | (refine go2 ?_ ?_ <;> intro hh) | fail)
     all_goals refine contV_mk (by first | assumption | exact HLT2.out | exact HLT0.out) J7 J8 ?_
     all_goals refine ⟨v', ?_, ?_, ?_, ?_, ?_⟩
     all_goals first | exact Z2 | skip
     ·rw [ext_next rl p i, <- List.append_assoc, List.map_append]
      have := Blt2.app HALL.out HEL.out hK' hB'.blt hE' HIN.out
      rw [<- HJJ.out] at this
      have e : (intsE p ++ [AV.int .i64 ((i : Int) - 1)]) = intsE (p ++ [(i : Int) - 1]) := by unfold intsE; rw [List.map_append]; rfl
      rw [e] at this
      exact this
     ·refine ⟨Nat.le_trans HXX.out.1 hK'.1, fun id hid => ?_⟩
      rw [hK'.2 id (Nat.lt_of_lt_of_le hid HXX.out.1) (fun off n e => by have := HLW2.out id off n e; omega)]
      exact HXX.out.2 id hid
     ·intro id off n e
      rw [hE'] at e
      cases e
      exact HXX.out.1
   ·have hd2 : decide ((i : Int) < ((N : Nat) : Int)) = false := by first | (simpa using hit; done) | (simp only [decide_eq_false_iff_not]; omega)
    obtain rfl : i = N := by omega
    have hdl : decide (((i : Int) - 1) < (rl : Int)) = false := by have := HNN.out; simp only [decide_eq_false_iff_not]; omega
    have HB := J1 hB
    have HX := J1 hX
    have HLW2 := J1 hlw
    have hout := hB.out
    clear hB hX hlw
    generalize (i : Int) - 1 = jj at hdl h7
    repeat' (first | refine goS ?_ | (refine go2 ?_ ?_ <;> intro hh) | fail)
    all_goals refine contV_mk (by first | assumption | exact HLT1.out | exact HLT0.out) J7 J8 ?_
    all_goals refine ⟨w, ?_, ?_, ?_, HX.out, HLW2.out⟩
    all_goals first | exact Z2 | skip
    ·have h1 := HB.out
     rw [HNN.out] at h1
     rw [HFL.out]
     exact h1
  ·have hd1 : decide ((j : Int) < (((allP rl k).length : Nat) : Int)) = false := by first | (simpa using hjt; done) | (simp only [decide_eq_false_iff_not]; omega)
   obtain rfl : j = (allP rl k).length := by omega
   have hB1 := J1 hB
   have hout := hB.out
   clear hB hX hlw
   repeat' (first | refine goS ?_ | (refine go2 ?_ ?_ <;> intro hh) | fail)
   all_goals refine contV_mk J9 J7 J8 ?_
   all_goals refine ⟨u, ?_, ?_, ?_⟩
   all_goals first | exact Z2 | skip
   ·refine .inr ?_
    have h1 := hB1.out
    rw [List.take_length] at h1
    have h3 := allP_succ rl k
    rw [h3]
    exact h1
 ·have hd0 : decide ((k : Int) < ((nn : Nat) : Int)) = false := by first | (simpa using hlt; done) | (simp only [decide_eq_false_iff_not]; omega)
  obtain rfl : k = nn := by omega
  obtain ⟨ova, lva⟩ := hA.out
  have hfr : Frz hp va (slN (rowsE (allP rl k))) := by
   rcases hA with ⟨h0, _⟩ | hA
   ·have := HN1.out; omega
   ·rw [<- rowsE_map']
    refine hA.frz (fun l hl e he => ?_) (fun l hl e he x hx => ?_)
    ·obtain ⟨l', _, rfl⟩ := List.mem_map.1 hl
     obtain ⟨n, _, rfl⟩ := List.mem_map.1 he
     rfl
    ·obtain ⟨l', _, rfl⟩ := List.mem_map.1 hl
     obtain ⟨n, _, rfl⟩ := List.mem_map.1 he
     simp only [AV.cells, List.mem_cons, List.not_mem_nil, or_false] at hx
     subst hx
     exact ⟨rfl, rfl⟩
  have HFR := J1 hfr
  clear hA hfr
  repeat' (first | refine goS ?_ | (refine go2 ?_ ?_ <;> intro hh) | fail)
  all_goals (simp only [resV_def (X := dX i0) Tryz.func99, Tryz.results99]; first | exact J5 | refine J6 ?_)
  exact isQ_ret HFR.out
theorem F99 : IntrFn Tryz.prog 99 (newQ sp99) := newQ_fn (X := dX i0) i0_sound fun args v h => by
 unfold sp99 at h
 split at h
 ·split at h
  ·rename_i m hm
   split at h
   ·rename_i hb
    have h := Option.some.inj h
    subst h
    obtain ⟨ra, fa, oa, ha, rfl, hA⟩ := hs_parts' hm
    exact R99 m ra fa oa ha hA hb
   ·cases h
  ·cases h
 ·cases h
theorem K99 {X : Ctx} (hX : X.intr 99 = some (newQ sp99)) {ra fa oa ha : AV} {m : Hs} (hm : HsA m ra fa oa ha) (hb : houseB m = true) (h : Heap) :
  Cl X 99 [.agg [.int .i64 m.hours, ra, fa, oa, ha]] h (.ret (slN (rowsE (allP m.rooms.length m.hours.toNat))) h none) := by
 refine Cl.newQ hX (l := [.agg [.int .i64 m.hours, ra, fa, oa, ha]]) ?_ ?_
 ·exact viewDs_p (by simp only [AV.purL, AV.pur, sl_pur hm.r, sl_pur hm.f, sl_pur hm.o, sl_pur hm.h, Bool.and_self])
 ·simp only [sp99, hm.hs, hb, if_true]
section
variable {c : Itr}
theorem C87 (hc : c 87 = none) (n : Int) (ra fa oa ha sv : AV) (h1 : outV (some ra) = some ra) (h2 : outV (some fa) = some fa) (h3 : outV (some oa) = some oa) (h4 : outV (some ha) = some ha) (h5 : outV (some sv) = some sv) (hcs : sv.cells = [sv]) (htu : isTuple sv = false) (hn : Nat) (hmm : Mp Blk) :
  Cl (dX c) 87 [.agg [.int .i64 n, ra, fa, oa, ha], sv] ⟨hn, hmm⟩ (.ret (.func (.func 138) [] [.ptr hn 0, .ptr (hn + 1) 0]) ⟨hn + 1 + 1, (hmm.set hn (.var [.int .i64 n, ra, fa, oa, ha])).set (hn + 1) (.var [sv])⟩ none) := by
 refine ClR.cl ?_
 simp only [AV.cells] at hcs
 simp only [isTuple] at htu
 refine ClR.walk (c := _) hc Tryz.func87 rfl (by kernel_rfl) rfl (fun e => by cases e) ?_
 try simp only [entryEnv, Nat.reduceAdd, List.nil_append, List.cons_append, emptyHp]
 repeat' (first | refine goS ?_ | (refine go2 ?_ ?_ <;> intro hh) | fail)
 all_goals (simp only [resV_def (X := dX c) Tryz.func87, Tryz.results87]; first | exact J5 | refine J6 ?_)
 all_goals rfl
end
end Go.AM
namespace Go.AM
open Go Go.Proofs
variable [Keep]
attribute [local irreducible] W WO WO1 WD WQ WT thenQ blockQ endR isRet retK Cl ClR
open Go.TX (Rm Fa Ha Hs)
def pathB (m : Hs) (p : List Int) : Bool := ((p.length : Int) == m.hours) && p.all fun r => inB r (-1) (w64 (m.rooms.length - 1))
def walkR (b : Bool) (h : Heap) (r : COut) : Prop := if b = true then r = .ret (.tuple []) h none else ∃ x, r = .pan (.iface 205 (.agg [.int .i64 x])) h none
attribute [local irreducible] walkR
section
variable {c : Itr}
end
end Go.AM
