/-
  A part of the proof: contracts of functions.
-/
import Derived.Test.YtkpbdjpekjdhcaaGreatDoorRAY
import Derived.Test.YtkpbdjpekjdhcaaGreatDoorRBD
import Derived.Test.YtkpbdjpekjdhcaaGreatDoorRBE
set_option linter.unusedSectionVars false
set_option linter.unusedVariables false
set_option linter.unusedSimpArgs false
set_option maxRecDepth 100000
namespace Go.AM
open Go Go.Proofs
variable [Keep]
attribute [local irreducible] W WO WO1 WD WQ WT thenQ blockQ endR isRet retK Cl ClR
open Go.TX (Rm Fa Ha Hs)
def agrB (s : Int × Int) (seen off : Int) : Bool := decide (s.1 ≤ w64 (seen + off)) && decide (s.2 ≥ w64 (seen - off))
def fR (o r : Int) : Int := if hasB o (w64 (r + 1)) = true then o else w64 (o + 2 ^ (w64 (r + 1)).toNat)
def fP (o r : Int) : Int := orI o (bitI (w64 (r + 1)))
def addTo (f : Int → Int → Int) (out p : List Int) : Nat → List Int
 | 0 => out
 | j + 1 => (addTo f out p j).set j (f ((addTo f out p j).getD j 0) (p.getD j 0))
theorem addTo_len (f : Int → Int → Int) (out p : List Int) : ∀ j, (addTo f out p j).length = out.length
 | 0 => rfl
 | j + 1 => by rw [addTo, List.length_set, addTo_len f out p j]
theorem bit16 : ((List.range 16).all fun o => (List.range 4).all fun r => decide (0 ≤ orI o (bitI r)) && decide (orI o (bitI r) < 16) && (orI o (bitI r) == (if hasB o r = true then (o : Int) else w64 (o + 2 ^ r))) && (List.range 4).all fun q => hasB (orI o (bitI r)) q == (hasB o q || (r == q))) = true := by kernel_rfl
theorem bit16_is {o : Int} {r : Nat} (ho : 0 ≤ o ∧ o < 16) (hr : r < 4) : (0 ≤ orI o (bitI r) ∧ orI o (bitI r) < 16) ∧ orI o (bitI r) = (if hasB o r = true then o else w64 (o + 2 ^ r)) ∧ ∀ q : Nat, q < 4 → hasB (orI o (bitI r)) q = (hasB o q || (r == q)) := by
 have h := bit16
 rw [List.all_eq_true] at h
 have h := h o.toNat (List.mem_range.2 (by omega))
 rw [List.all_eq_true] at h
 have h := h r (List.mem_range.2 hr)
 have e : ((o.toNat : Nat) : Int) = o := by omega
 rw [e] at h
 simp only [Bool.and_eq_true, decide_eq_true_eq, List.all_eq_true, beq_iff_eq] at h
 exact ⟨h.1.1, h.1.2, fun q hq => h.2 q (List.mem_range.2 hq)⟩
theorem plus_one {r : Int} {n : Nat} (hr : -1 ≤ r ∧ r < n) (hn : n ≤ 8) : w64 (r + 1) = (((r + 1).toNat : Nat) : Int) ∧ (r + 1).toNat < n + 1 := by
 rw [w64_small (by omega) (by omega)]
 omega
def O16 (out : List Int) : Prop := ∀ x ∈ out, 0 ≤ x ∧ x < 16
theorem O16.at {out : List Int} (h : O16 out) (j : Nat) : 0 ≤ out.getD j 0 ∧ out.getD j 0 < 16 := by
 cases hq : out[j]? with
 | none => simp [List.getD, hq]
 | some x =>
  have := h x (List.mem_of_getElem? hq)
  simpa [List.getD, hq] using this
theorem O16.set {out : List Int} (h : O16 out) (j : Nat) {x : Int} (hx : 0 ≤ x ∧ x < 16) : O16 (out.set j x) := fun y hy => by
 rcases List.mem_or_eq_of_mem_set hy with q | q
 ·exact h y q
 ·rw [q]; exact hx
theorem fPR {o r : Int} (ho : 0 ≤ o ∧ o < 16) (hr : -1 ≤ r ∧ r < 3) : fP o r = fR o r ∧ 0 ≤ fP o r ∧ fP o r < 16 := by
 obtain ⟨e1, e2⟩ := plus_one (n := 3) hr (by omega)
 obtain ⟨b1, b2, b3⟩ := bit16_is ho (r := (r + 1).toNat) (by omega)
 unfold fP fR
 rw [e1, Int.toNat_natCast]
 exact ⟨b2, b1⟩
theorem addTo_same {out p : List Int} (ho : O16 out) (hp : ∀ x ∈ p, -1 ≤ x ∧ x < 3) : ∀ j, j ≤ p.length → addTo fP out p j = addTo fR out p j ∧ O16 (addTo fR out p j)
 | 0, _ => ⟨rfl, ho⟩
 | j + 1, hj => by
  obtain ⟨h1, h2⟩ := addTo_same ho hp j (by omega)
  obtain ⟨r, hr⟩ := get_some (l := p) (k := j) (by omega)
  have hgr : p.getD j 0 = r := by simp [List.getD, hr]
  obtain ⟨h3, h4⟩ := fPR (h2.at j) (hp r (List.mem_of_getElem? hr))
  rw [addTo, addTo, h1, hgr, h3]
  exact ⟨rfl, h2.set j (by rw [← h3]; exact h4)⟩
def wStep (f : Int → Int → Int) (m : Hs) (seen off : Int) (s : Bool × List Int) (p : List Int) : Bool × List Int := if agrB (airS m p) seen off = true then (true, addTo f s.2 p p.length) else s
def wAll (f : Int → Int → Int) (m : Hs) (seen off : Int) (l : List (List Int)) (n : Nat) : Bool × List Int := l.foldl (wStep f m seen off) (false, List.replicate n 0)
theorem wAll_same (m : Hs) (seen off : Int) : ∀ (l : List (List Int)) (s : Bool × List Int), (∀ p ∈ l, ∀ x ∈ p, -1 ≤ x ∧ x < 3) → O16 s.2 → l.foldl (wStep fP m seen off) s = l.foldl (wStep fR m seen off) s ∧ O16 (l.foldl (wStep fR m seen off) s).2
 | [], s, _, h => ⟨rfl, h⟩
 | p :: l, s, hp, h => by
  obtain ⟨h1, h2⟩ := addTo_same h (hp p (by simp)) p.length (Nat.le_refl _)
  have e : wStep fP m seen off s p = wStep fR m seen off s p := by unfold wStep; rw [h1]
  have e2 : O16 (wStep fR m seen off s p).2 := by unfold wStep; split; exact h2; exact h
  rw [List.foldl_cons, List.foldl_cons, e]
  exact wAll_same m seen off l _ (fun q hq => hp q (by simp [hq])) e2
theorem w_len (f : Int → Int → Int) (m : Hs) (seen off : Int) : ∀ (l : List (List Int)) (s : Bool × List Int), (l.foldl (wStep f m seen off) s).2.length = s.2.length
 | [], s => rfl
 | p :: l, s => by
  rw [List.foldl_cons, w_len f m seen off l]
  unfold wStep
  split
  ·exact addTo_len ..
  ·rfl
theorem z3 : zeroT Tryz.prog 3 = some (.int .i64 0) := by kernel_rfl
theorem mk24 {f : FuncId} {rnd : Bool} {e : Mp AV} {lm : Mp (Nat × List AV)} {hp : Heap} {df : List (AV × List AV)} {up : Option (AV × Bool)} {l c : Operand} {n : Nat} (h1 : (Fr.mk f rnd e lm hp df up).opv l = some (.int .i64 n)) (h2 : (Fr.mk f rnd e lm hp df up).opv c = some (.int .i64 n)) (hn : n ≤ 4) :
  (Fr.mk f rnd e lm hp df up).makeSliceE Tryz.prog 24 l c = .val (.row hp.next 0 n) (Fr.mk f rnd e lm (hp.new (.rw 1 (List.replicate n (.int .i64 0)))) df up) := by
 have e1 : elemT Tryz.prog 24 = some 3 := by kernel_rfl
 have e2 : szT Tryz.prog 3 = 1 := by kernel_rfl
 obtain ⟨i, e3, e4⟩ : ∃ i, Tryz.prog.info? 3 = some i ∧ i.bytes ≤ 65536 := by
  have : (match Tryz.prog.info? 3 with | some i => decide (i.bytes ≤ 65536) | none => false) = true := by kernel_rfl
  cases h : Tryz.prog.info? 3 with
  | none => rw [h] at this; cases this
  | some i => rw [h] at this; exact ⟨i, rfl, by simpa using this⟩
 have e5 : (0 : Int) ≤ n ∧ (n : Int) ≤ n ∧ (n : Int) ≤ most ∧ i.bytes ≤ 65536 ∧ (AV.int .i64 0).cells.length = 1 ∧ isTuple (.int .i64 0) = false ∧ 1 ≠ 0 := by
  refine ⟨by omega, by omega, by unfold most; omega, e4, rfl, rfl, by omega⟩
 unfold Fr.makeSliceE
 simp only [e1, h1, h2, z3, e3, e2, e5, and_self, if_true, Int.toNat_natCast, ne_eq, not_false_eq_true]
theorem WO1.make24 {c0 : Itr} {ops : Array Oper} {K P : AV → Fr → Prop} {f : FuncId} {rnd : Bool} {e : Mp AV} {lm : Mp (Nat × List AV)} {hp : Heap} {df : List (AV × List AV)} {up : Option (AV × Bool)} {d : Option Tmp} {T : TypeId} {p : String} {af : Array Edge} {l c : Operand} {n : Nat}
  (h1 : (Fr.mk f rnd e lm hp df up).opv l = some (.int .i64 n)) (h2 : (Fr.mk f rnd e lm hp df up).opv c = some (.int .i64 n)) (hn : n ≤ 4)
  (h : K (.row hp.next 0 n) ((Fr.mk f rnd e lm (hp.new (.rw 1 (List.replicate n (.int .i64 0)))) df up).put d (.row hp.next 0 n))) : WO1 (dX c0) ops ⟨d, .makeSlice 24 l c, T, p, af, none⟩ (Fr.mk f rnd e lm hp df up) K P :=
 U5 (v := .row hp.next 0 n) (F' := Fr.mk f rnd e lm (hp.new (.rw 1 (List.replicate n (.int .i64 0)))) df up) rfl (fun cl rd => by
  simp only [efV, dX_P]
  exact mk24 h1 h2 hn) h
theorem rep_ints (n : Nat) : List.replicate n (AV.int .i64 0) = intsE (List.replicate n 0) := by unfold intsE; rw [List.map_replicate]
theorem ints_set (l : List Int) (j : Nat) (x : Int) : (intsE l).set j (.int .i64 x) = intsE (l.set j x) := by unfold intsE; rw [List.map_set]
theorem ints_get {l : List Int} {j : Nat} (h : j < l.length) : (intsE l)[j]? = some (.int .i64 (l.getD j 0)) := by
 obtain ⟨x, hx⟩ := get_some h
 unfold intsE
 rw [List.getElem?_map, hx]
 simp [List.getD, hx]
theorem row_idx {id n j : Nat} {hp : Heap} {el : List AV} (hg : hp.get id = some (.rw 1 el)) (hj : j < n) : indexAddrV Tryz.prog hp 24 (.row id 0 n) (.int .i64 (j : Int)) = some (.eptr id 1 j 0) := by
 have hi : idxV (.int .i64 (j : Int)) n = some j := by
  simp only [idxV]
  rw [if_pos (by constructor <;> omega)]
  simp
 simp only [indexAddrV, Tryz.underlying24, ty_lay3, hi, hg, if_true, Nat.zero_add]
attribute [local irreducible] houseB pathB airS failsH hasB allP orI bitI
section
variable {c : Itr}
theorem C105 (h105 : c 105 = none) (s : Int × Int) (seen off : Int) (h : Heap) : Cl (dX c) 105 [.agg [.int .i64 s.1, .int .i64 s.2], .int .i64 seen, .int .i64 off] h (.ret (.bool (agrB s seen off)) h none) := by
 refine ClR.cl ?_
 obtain ⟨a, b⟩ := s
 have hS : agrB (a, b) seen off = (decide (a ≤ IntKind.i64.wrap (seen + off)) && decide (b ≥ IntKind.i64.wrap (seen - off))) := rfl
 rw [hS]
 clear hS
 cases e1 : decide (a ≤ IntKind.i64.wrap (seen + off)) <;> cases e2 : decide (b ≥ IntKind.i64.wrap (seen - off))
 all_goals
  simp only [Bool.and_self, Bool.and_false, Bool.false_and]
  refine ClR.walk (c := _) h105 Tryz.func105 rfl (by kernel_rfl) rfl (fun e => by cases e) ?_
  try simp only [entryEnv, Nat.reduceAdd, List.nil_append, List.cons_append, emptyHp]
  repeat' (first | refine goS ?_ | refine go2 (fun hh => ?_) (fun hh => ?_) | fail)
  all_goals (simp only [resV_def (X := dX c) Tryz.func105, Tryz.results105]; first | exact J5 | refine J6 ?_)
  all_goals rfl
end
noncomputable def cRG : Itr
 | 55 => some (pureFn sp55)
 | 99 => some (newQ sp99)
 | 84 => some (pureFn sp84)
 | 85 => some (pureFn sp85)
 | _ => none
theorem cRG_sound : Sound (dX cRG) := dX_sound (fun f g h => by
 unfold cRG at h
 split at h
 ·cases h; exact F55
 ·cases h; exact F99
 ·cases h; exact F84
 ·cases h; exact F85
 ·cases h)
theorem hcRG : CxR cRG := ⟨rfl, rfl, rfl, rfl, rfl, rfl, rfl, rfl⟩
def wR (m : Hs) (seen off : Int) : Bool × List Int := wAll fR m seen off (allP m.rooms.length m.hours.toNat) m.hours.toNat
def sp33 : List AV → Option AV
 | [x, .int .i64 seen, .int .i64 off] => match hsV x with
  | some m => if houseB m = true then some (.tuple [slN (intsE (wR m seen off).2), .bool (wR m seen off).1]) else none
  | none => none
 | _ => none
theorem intsE_pur' (l : List Int) : (slN (intsE l)).pur = true := (slN_is _).pur fun x hx => by
 obtain ⟨n, _, rfl⟩ := List.mem_map.1 hx
 rfl
theorem p33 : ∀ args v, sp33 args = some v → v.pur = true := by
 intro args v h
 unfold sp33 at h
 split at h
 ·split at h
  ·split at h
   ·cases h
    simp only [AV.pur, AV.purL, intsE_pur', Bool.and_self]
   ·cases h
  ·cases h
 ·cases h
set_option maxHeartbeats 16000000 in
theorem R33 (m : Hs) (ra fa oa ha : AV) (seen off : Int) (hm : HsA m ra fa oa ha) (hb : houseB m = true) : ClR (dX cRG) 33 [.agg [.int .i64 m.hours, ra, fa, oa, ha], .int .i64 seen, .int .i64 off] emptyHp (isRet (.tuple [slN (intsE (wR m seen off).2), .bool (wR m seen off).1])) := by
 have ho := house_ok hb
 obtain ⟨nn, hnn, hnt, hn1, hn4, hol⟩ := ho_parts ho
 have hr3 := ho.rooms
 have o1 := sl_out hm.r
 have o2 := sl_out hm.f
 have o3 := sl_out hm.o
 have o4 := sl_out hm.h
 have k55 := fun h => K55 (X := dX cRG) rfl hm hb h
 have k99 := fun h => K99 (X := dX cRG) rfl hm hb h
 have h63 := fun (pa : AV) (p : List Int) (hp : slV intC pa = some p) (hq : pathB m p = true) (h : Heap) => C63 (c := cRG) rfl rfl m ho pa p h (pth_of hp) hq
 have h105 := fun (s : Int × Int) h => C105 (c := cRG) rfl s seen off h
 have h75 := fun (s : Int) (n : Nat) (hs : 0 ≤ s ∧ s < 16) (hn : n < 6) h => C75 hcRG s n hs hn h
 have h85 := fun (n : Nat) (hn : n ≤ 60) h => K85 (X := dX cRG) rfl n hn h
 have hmem : ∀ p ∈ allP m.rooms.length nn, pathB m p = true ∧ p.length = nn ∧ ∀ x ∈ p, -1 ≤ x ∧ x < 3 := fun p hp => by
  obtain ⟨q1, q2⟩ := allP_mem hp
  refine ⟨?_, q1, fun x hx => by have := q2 x hx; omega⟩
  unfold pathB
  rw [q1, Bool.and_eq_true, List.all_eq_true]
  refine ⟨by rw [hnn]; simp, fun x hx => ?_⟩
  rw [w64_small (by omega) (by omega), inB_iff]
  have := q2 x hx
  omega
 have hl256 : (allP m.rooms.length nn).length ≤ 256 := by
  rw [allP_len]
  have h1 : (m.rooms.length + 1) ^ nn ≤ 4 ^ nn := Nat.pow_le_pow_left (by omega) nn
  have h2 : 4 ^ nn ≤ 4 ^ 4 := Nat.pow_le_pow_right (by omega) (by omega)
  omega
 have hli := rows_lis (g := allP m.rooms.length nn) (by unfold maxL; omega) fun l hl => by rw [(hmem l hl).2.1]; unfold maxL; omega
 have ls := lis_len hli
 have os := lis_out hli
 have a1 := (slN_is (fksE (failsH m))).out
 have a2 := (slN_is (lowsA m (failsH m))).out
 have a3 := (slN_is (highsA m (failsH m))).out
 have hmost := hn4
 unfold airE at k55 h63
 unfold wR
 rw [hnt] at k99 ⊢
 rw [hnn] at k55 k99 ⊢
 obtain ⟨L, hL⟩ : ∃ L, L = allP m.rooms.length nn := ⟨_, rfl⟩
 rw [← hL] at k99 hmem hl256 hli ls os ⊢
 have H63 := Lib.hid h63
 have H105 := Lib.hid h105
 have H75 := Lib.hid h75
 have H85 := Lib.hid h85
 have HMEM := Lib.hid hmem
 have HLI := Lib.hid hli
 have HN1 := Lib.hid hn1
 have HL := Lib.hid hl256
 clear hm hb ho hnn hnt hol hn1 hn4 hr3 h63 h105 h75 h85 hmem hli hL hl256
 generalize slN (fksE (failsH m)) = b1 at *
 generalize slN (lowsA m (failsH m)) = b2 at *
 generalize slN (highsA m (failsH m)) = b3 at *
 generalize slN (rowsE L) = lv at *
 unfold wAll
 refine ClR.walk (c := _) rfl Tryz.func33 rfl (by kernel_rfl) rfl isRet_fail ?_
 try simp only [entryEnv, Nat.reduceAdd, List.nil_append, List.cons_append, emptyHp]
 repeat' (first | (apply WO1.make24 (n := nn); (focus (first | exact Z2 | exact Z1)); (focus (first | exact Z2 | exact Z1)); (focus (exact hmost)); simp only [pM, pN]) | (apply Z7 (o := ⟨some 8, .alloc 91, 0, _, _, none⟩); exact rfl; exact rfl; exact Z1; simp only [pM, pN]) | (apply W.drawQ (id := 1) (l1 := [4, 0, 1, 2, 3]) (l2 := [5, 6]); kernel_rfl; kernel_rfl; kernel_rfl; exact Z4) | refine go1 ?_ | (apply U6; exact Z1; exact Z1; (focus (simp only [List.nil_append, List.append_nil]; first | exact k55 _ | exact k99 _)); simp only [pM, pN, rR, rP]) | refine go2 (fun hh => ?_) (fun hh => ?_) | fail)
 refine W.loopV (L.length) [1, 2, 3, 8, 9, 10] [3, 8] (fun k e lm hp => e.get 12 = some (.int .i64 ↑k) ∧ e.get 11 = some (.bool ((L.take k).foldl (wStep fR m seen off) (false, List.replicate nn 0)).1) ∧ BltN 0 hp (.row 0 0 nn) 1 (intsE ((L.take k).foldl (wStep fR m seen off) (false, List.replicate nn 0)).2)) ?_ ?_
 ·skip
  refine ⟨?_, ?_, ?_⟩
  all_goals first | exact Z2 | (simp [go_sem, *]; done) | skip
  all_goals first | rfl | skip
  ·rw [List.take_zero, List.foldl_nil]
   refine .inr ⟨0, by rw [intsE_len, List.length_replicate], ?_, Nat.zero_le _, ?_, ?_⟩
   ·simp only [Heap.new, hp_get, get_set_same]
    rw [rep_ints]
   ·simp only [Heap.new]; omega
   ·intro e
    have := congrArg List.length e
    rw [intsE_len, List.length_replicate, List.length_nil] at this
    have := HN1.out
    omega
 intro k e lm hp hk0 hce hcl hinv
 simp only [keepE, and_true] at hce
 obtain ⟨c1, c2, c3, c8, c9, c10⟩ := hce
 simp only [go_sem, *, Nat.reduceLT, Int.reduceEq, Int.reduceBEq, Int.reduceLE, Int.reduceLT, Nat.reduceAdd, Nat.reduceBEq, Nat.reduceEqDiff, reduceIte, Nat.reduceLeDiff, Nat.reduceMul, Nat.reduceSub, reduceCtorEq] at c1 c2 c3 c8 c9 c10
 simp only [keepL, and_true] at hcl
 obtain ⟨d3, d8⟩ := hcl
 simp only [go_sem, *, Nat.reduceLT, Int.reduceEq, Int.reduceBEq, Int.reduceLE, Int.reduceLT, Nat.reduceAdd, Nat.reduceBEq, Nat.reduceEqDiff, reduceIte, Nat.reduceLeDiff, Nat.reduceMul, Nat.reduceSub, reduceCtorEq] at d3 d8
 obtain ⟨h12, h11, hA⟩ := hinv
 by_cases hlt : k < L.length
 ·have hd0 : decide ((k : Int) < ((L.length : Nat) : Int)) = true := by first | (simpa using hlt; done) | (simp only [decide_eq_true_eq]; omega)
  have hv_0 := wrap_succ hlt (by have := HL.out; unfold maxL; omega)
  obtain ⟨p, hp0⟩ := get_some hlt
  obtain ⟨b, hb1, hb2⟩ := lis_idx HLI.out hp0
  obtain ⟨q1, q2, q3⟩ := HMEM.out p (List.mem_of_getElem? hp0)
  have k63 := H63.out b p hb1 q1
  have k105 := H105.out (airS m p)
  have ob := sl_out hb1
  have hcb := (slV_is hb1).1.cells
  have htb := (slV_is hb1).1.tup
  simp only [AV.cells] at hcb
  simp only [isTuple] at htb
  have hnx : (L.take (k + 1)).foldl (wStep fR m seen off) (false, List.replicate nn 0) = wStep fR m seen off ((L.take k).foldl (wStep fR m seen off) (false, List.replicate nn 0)) p := by rw [take_next hp0, List.foldl_append]; rfl
  have hpre : O16 ((L.take k).foldl (wStep fR m seen off) (false, List.replicate nn 0)).2 := (wAll_same m seen off (L.take k) _ (fun p hp => (HMEM.out p (List.mem_of_mem_take hp)).2.2) (fun x hx => by have := (List.mem_replicate.1 hx).2; omega)).2
  have hsl : ((L.take k).foldl (wStep fR m seen off) (false, List.replicate nn 0)).2.length = nn := by rw [w_len]; simp
  generalize hst : (L.take k).foldl (wStep fR m seen off) (false, List.replicate nn 0) = st at *
  obtain ⟨met, out⟩ := st
  simp only at hA hpre hsl h11
  have HNX := Lib.hid hnx
  have HPRE := Lib.hid hpre
  have HSL := Lib.hid hsl
  have HPI := Lib.hid hb1
  have HQ2 := Lib.hid q2
  have HQ3 := Lib.hid q3
  have HLT0 := Lib.hid hlt
  obtain ⟨hA1, hA2⟩ : hp.get 0 = some (.rw 1 (intsE out)) ∧ 0 < hp.next := by
   rcases hA with ⟨e, _⟩ | ⟨id, e, r2, _, r4, _⟩
   ·cases e
   ·cases e; exact ⟨r2, r4⟩
  clear hp0 hb1 q1 q2 q3 hnx hpre hsl hst hlt hA
  cases hag : agrB (airS m p) seen off with
  | false =>
   rw [hag] at k105
   have hw : wStep fR m seen off (met, out) p = (met, out) := by unfold wStep; rw [hag]; rfl
   have HW := Lib.hid hw
   have HA1 := Lib.hid hA1
   have HA2 := Lib.hid hA2
   clear hw hag hA1 hA2
   generalize (airS m p).1 = lo at *
   generalize (airS m p).2 = hi at *
   repeat' (first | (apply W.drawQ (id := 7) (l1 := [0, 1, 2, 3, 4, 5, 6, 7, 8, 9]) (l2 := []); kernel_rfl; kernel_rfl; kernel_rfl; exact Z4) | refine go1 ?_ | (apply U6; exact Z1; exact Z1; (focus (simp only [List.nil_append, List.append_nil]; first | exact k63 _ | exact k105 _)); simp only [pM, pN, rR, rP]) | refine go2 (fun hh => ?_) (fun hh => ?_) | fail)
   all_goals refine contV_mk (by first | assumption | exact HLT0.out | exact HLT0.out) (by simp only [keepE, and_true, and_self, go_sem, *, Nat.reduceLT, Int.reduceEq, Int.reduceBEq, Int.reduceLE, Int.reduceLT, Nat.reduceAdd, Nat.reduceBEq, Nat.reduceEqDiff, reduceIte, Nat.reduceLeDiff, Nat.reduceMul, Nat.reduceSub, reduceCtorEq]) (by simp only [keepL, and_true, and_self, go_sem, *, Nat.reduceLT, Int.reduceEq, Int.reduceBEq, Int.reduceLE, Int.reduceLT, Nat.reduceAdd, Nat.reduceBEq, Nat.reduceEqDiff, reduceIte, Nat.reduceLeDiff, Nat.reduceMul, Nat.reduceSub, reduceCtorEq]) ?_
   all_goals refine ⟨?_, ?_, ?_⟩
   all_goals first | exact Z2 | skip
   ·rw [HNX.out, HW.out]; simp only [go_sem, *, Nat.reduceLT, Int.reduceEq, Int.reduceBEq, Int.reduceLE, Int.reduceLT, Nat.reduceAdd, Nat.reduceBEq, Nat.reduceEqDiff, reduceIte, Nat.reduceLeDiff, Nat.reduceMul, Nat.reduceSub, reduceCtorEq]
   ·rw [HNX.out, HW.out]
    refine .inr ⟨0, by rw [intsE_len, HSL.out], HA1.out, Nat.zero_le _, HA2.out, ?_⟩
    intro e
    have := congrArg List.length e
    rw [intsE_len, HSL.out, List.length_nil] at this
    have := HN1.out
    omega
  | true =>
   rw [hag] at k105
   have hw : wStep fR m seen off (met, out) p = (true, addTo fR out p p.length) := by unfold wStep; rw [hag]; rfl
   have HW := Lib.hid hw
   clear hw hag
   generalize (airS m p).1 = lo at *
   generalize (airS m p).2 = hi at *
   repeat' (first | (apply W.drawQ (id := 7) (l1 := [0, 1, 2, 3, 4, 5, 6, 7, 8, 9]) (l2 := []); kernel_rfl; kernel_rfl; kernel_rfl; exact Z4) | refine go1 ?_ | (apply U6; exact Z1; exact Z1; (focus (simp only [List.nil_append, List.append_nil]; first | exact k63 _ | exact k105 _)); simp only [pM, pN, rR, rP]) | refine go2 (fun hh => ?_) (fun hh => ?_) | fail)
   refine W.loopV (nn) [1, 2, 3, 8, 9, 10, 11, 12] [3, 8] (fun j e1 lm1 hp1 => e1.get 13 = some (.int .i64 ↑j) ∧ hp1.get 0 = some (.rw 1 (intsE (addTo fR out p j))) ∧ 0 < hp1.next) ?_ ?_
   ·skip
    refine ⟨?_, ?_, ?_⟩
    all_goals first | exact Z2 | (simp [go_sem, *]; done) | skip
    ·exact hA1
   intro j e1 lm1 hp1 hk1 hce hcl hinv
   simp only [keepE, and_true] at hce
   obtain ⟨c1, c2, c3, c8, c9, c10, c11, c12⟩ := hce
   simp only [go_sem, *, Nat.reduceLT, Int.reduceEq, Int.reduceBEq, Int.reduceLE, Int.reduceLT, Nat.reduceAdd, Nat.reduceBEq, Nat.reduceEqDiff, reduceIte, Nat.reduceLeDiff, Nat.reduceMul, Nat.reduceSub, reduceCtorEq] at c1 c2 c3 c8 c9 c10 c11 c12
   simp only [keepL, and_true] at hcl
   obtain ⟨d3, d8⟩ := hcl
   simp only [go_sem, *, Nat.reduceLT, Int.reduceEq, Int.reduceBEq, Int.reduceLE, Int.reduceLT, Nat.reduceAdd, Nat.reduceBEq, Nat.reduceEqDiff, reduceIte, Nat.reduceLeDiff, Nat.reduceMul, Nat.reduceSub, reduceCtorEq] at d3 d8
   obtain ⟨h13, hA1, hA2⟩ := hinv
   by_cases hjt : j < nn
   ·have hd1 : decide ((j : Int) < ((nn : Nat) : Int)) = true := by first | (simpa using hjt; done) | (simp only [decide_eq_true_eq]; omega)
    have hv_1 := wrap_succ hjt (by have := hmost; unfold maxL; omega)
    obtain ⟨r, hr⟩ := get_some (l := p) (k := j) (by have := HQ2.out; omega)
    have hixp := fun H => ints_idx HPI.out hr H
    have hr3 := HQ3.out r (List.mem_of_getElem? hr)
    have hgr : p.getD j 0 = r := by simp [List.getD, hr]
    have ho16 := (addTo_same HPRE.out HQ3.out j (by have := HQ2.out; omega)).2
    have hol := addTo_len fR out p j
    rw [HSL.out] at hol
    have hgo := ints_get (l := addTo fR out p j) (j := j) (by rw [hol]; exact hjt)
    have hix := row_idx (n := nn) hA1 hjt
    have hob := ho16.at j
    have hnx2 : addTo fR out p (j + 1) = (addTo fR out p j).set j (fR ((addTo fR out p j).getD j 0) r) := by rw [addTo, hgr]
    obtain ⟨e1, e2⟩ := plus_one (n := 3) hr3 (by omega)
    have hw : IntKind.i64.wrap (r + 1) = (((r + 1).toNat : Nat) : Int) := e1
    have hfr : fR ((addTo fR out p j).getD j 0) r = if hasB ((addTo fR out p j).getD j 0) (((r + 1).toNat : Nat) : Int) = true then (addTo fR out p j).getD j 0 else IntKind.i64.wrap ((addTo fR out p j).getD j 0 + 2 ^ (r + 1).toNat) := by
     unfold fR
     rw [e1, Int.toNat_natCast]
     rfl
    have hset := ints_set (addTo fR out p j) j
    generalize hcu : addTo fR out p j = cu at *
    generalize hoo : cu.getD j 0 = o at *
    generalize hrr : (r + 1).toNat = rn at *
    have k75 := H75.out o rn hob (by omega)
    have k85 := H85.out rn (by omega)
    have HFR := Lib.hid hfr
    have HNX2 := Lib.hid hnx2
    have HSET := Lib.hid hset
    have HCU := Lib.hid hcu
    have HOO := Lib.hid hoo
    have HOL := Lib.hid hol
    have HLT1 := Lib.hid hjt
    clear hr hr3 hgr ho16 hol hob hnx2 e1 e2 hfr hset hcu hoo hrr hjt
    obtain ⟨hn1, hm1⟩ := hp1
    simp only [hp_get] at hA1
    cases hh : hasB o (rn : Int) with
    | true =>
     rw [hh] at k75
     have hf : fR o r = o := by have := HFR.out; rw [hh] at this; exact this
     have HF := Lib.hid hf
     clear hf
     repeat' (first | (apply W.drawQ (id := 12) (l1 := [0, 1, 2, 3, 4, 5, 6, 7, 8, 9, 10, 11, 12, 13]) (l2 := []); kernel_rfl; kernel_rfl; kernel_rfl; exact Z4) | refine go1 ?_ | (apply U6; exact Z1; exact Z1; (focus (simp only [List.nil_append, List.append_nil]; first | exact k75 _)); simp only [pM, pN, rR, rP]) | refine go2 (fun hh => ?_) (fun hh => ?_) | fail)
     all_goals refine contV_mk (by first | assumption | exact HLT1.out | exact HLT0.out) (by simp only [keepE, and_true, and_self, go_sem, *, Nat.reduceLT, Int.reduceEq, Int.reduceBEq, Int.reduceLE, Int.reduceLT, Nat.reduceAdd, Nat.reduceBEq, Nat.reduceEqDiff, reduceIte, Nat.reduceLeDiff, Nat.reduceMul, Nat.reduceSub, reduceCtorEq]) (by simp only [keepL, and_true, and_self, go_sem, *, Nat.reduceLT, Int.reduceEq, Int.reduceBEq, Int.reduceLE, Int.reduceLT, Nat.reduceAdd, Nat.reduceBEq, Nat.reduceEqDiff, reduceIte, Nat.reduceLeDiff, Nat.reduceMul, Nat.reduceSub, reduceCtorEq]) ?_
     all_goals refine ⟨?_, ?_, hA2⟩
     all_goals first | exact Z2 | skip
     rw [HNX2.out, HF.out]
     have : cu.set j o = cu := by
      rw [← HOO.out]
      apply List.ext_getElem?
      intro i
      rw [List.getElem?_set]
      split
      ·rename_i e
       subst e
       split
       ·rename_i hlt2
        simp [List.getD, List.getElem?_eq_getElem hlt2]
       ·rename_i hlt2
        rw [List.getElem?_eq_none (by omega)]
      ·rfl
     rw [this]
     exact hA1
    | false =>
     rw [hh] at k75
     have hf : fR o r = IntKind.i64.wrap (o + 2 ^ rn) := by have := HFR.out; rw [hh] at this; exact this
     have HF := Lib.hid hf
     clear hf
     generalize (2 : Int) ^ rn = pw at *
     generalize hwr : IntKind.i64.wrap (o + pw) = nw at *
     repeat' (first | (apply W.drawQ (id := 12) (l1 := [0, 1, 2, 3, 4, 5, 6, 7, 8, 9, 10, 11, 12, 13]) (l2 := []); kernel_rfl; kernel_rfl; kernel_rfl; exact Z4) | (apply W.drawQ (id := 13) (l1 := [0, 1, 2, 3, 4, 5, 6, 7, 8, 9, 10, 11, 12, 13, 14, 15, 16]) (l2 := [17]); kernel_rfl; kernel_rfl; kernel_rfl; exact Z4) | (apply U5; exact rfl; (focus (intro cl rd; simp only [go_sem, *, Nat.reduceLT, Int.reduceEq, Int.reduceBEq, Int.reduceLE, Int.reduceLT, Nat.reduceAdd, Nat.reduceBEq, Nat.reduceEqDiff, reduceIte, Nat.reduceLeDiff, Nat.reduceMul, Nat.reduceSub, reduceCtorEq, efV, Fr.storeE, AV.cells, isTuple, write_eptr, splice, asElem, isAggV]; with_reducible rfl)); simp only [pM, pN]) | refine go1 ?_ | (apply U6; exact Z1; exact Z1; (focus (simp only [List.nil_append, List.append_nil]; first | exact k75 _ | exact k85 _)); simp only [pM, pN, rR, rP]) | refine go2 (fun hh => ?_) (fun hh => ?_) | fail)
     all_goals refine contV_mk (by first | assumption | exact HLT1.out | exact HLT0.out) (by simp only [keepE, and_true, and_self, go_sem, *, Nat.reduceLT, Int.reduceEq, Int.reduceBEq, Int.reduceLE, Int.reduceLT, Nat.reduceAdd, Nat.reduceBEq, Nat.reduceEqDiff, reduceIte, Nat.reduceLeDiff, Nat.reduceMul, Nat.reduceSub, reduceCtorEq]) (by simp only [keepL, and_true, and_self, go_sem, *, Nat.reduceLT, Int.reduceEq, Int.reduceBEq, Int.reduceLE, Int.reduceLT, Nat.reduceAdd, Nat.reduceBEq, Nat.reduceEqDiff, reduceIte, Nat.reduceLeDiff, Nat.reduceMul, Nat.reduceSub, reduceCtorEq]) ?_
     all_goals refine ⟨?_, ?_, ?_⟩
     all_goals first | exact Z2 | skip
     ·rw [HNX2.out, HF.out, ← HSET.out]
      simp only [hp_get, get_set_same]
   ·have hd1 : decide ((j : Int) < ((nn : Nat) : Int)) = false := by first | (simpa using hjt; done) | (simp only [decide_eq_false_iff_not]; omega)
    obtain rfl : j = nn := by omega
    have HA1 := Lib.hid hA1
    have HA2 := Lib.hid hA2
    have hol := addTo_len fR out p j
    rw [HSL.out] at hol
    have HOL := Lib.hid hol
    clear hA1 hA2 hol
    repeat' (first | refine goS ?_ | refine go2 (fun hh => ?_) (fun hh => ?_) | fail)
    all_goals refine contV_mk (by first | assumption | exact HLT0.out | exact HLT0.out) (by simp only [keepE, and_true, and_self, go_sem, *, Nat.reduceLT, Int.reduceEq, Int.reduceBEq, Int.reduceLE, Int.reduceLT, Nat.reduceAdd, Nat.reduceBEq, Nat.reduceEqDiff, reduceIte, Nat.reduceLeDiff, Nat.reduceMul, Nat.reduceSub, reduceCtorEq]) (by simp only [keepL, and_true, and_self, go_sem, *, Nat.reduceLT, Int.reduceEq, Int.reduceBEq, Int.reduceLE, Int.reduceLT, Nat.reduceAdd, Nat.reduceBEq, Nat.reduceEqDiff, reduceIte, Nat.reduceLeDiff, Nat.reduceMul, Nat.reduceSub, reduceCtorEq]) ?_
    all_goals refine ⟨?_, ?_, ?_⟩
    all_goals first | exact Z2 | skip
    ·rw [HNX.out, HW.out]; simp only [go_sem, *, Nat.reduceLT, Int.reduceEq, Int.reduceBEq, Int.reduceLE, Int.reduceLT, Nat.reduceAdd, Nat.reduceBEq, Nat.reduceEqDiff, reduceIte, Nat.reduceLeDiff, Nat.reduceMul, Nat.reduceSub, reduceCtorEq]
    ·rw [HNX.out, HW.out, HQ2.out]
     refine .inr ⟨0, by rw [intsE_len, HOL.out], HA1.out, Nat.zero_le _, HA2.out, ?_⟩
     intro e
     have := congrArg List.length e
     rw [intsE_len, HOL.out, List.length_nil] at this
     have := HN1.out
     omega
 ·have hd0 : decide ((k : Int) < ((L.length : Nat) : Int)) = false := by first | (simpa using hlt; done) | (simp only [decide_eq_false_iff_not]; omega)
  obtain rfl : k = L.length := by omega
  rw [List.take_length] at hA h11
  have hbo := hA.blt.out
  obtain ⟨q1, q2, q3⟩ := hA.parts
  simp only [AV.cells] at q2
  simp only [isTuple] at q3
  obtain ⟨z1, y1, y2, y3, e1, p1⟩ := hA.freeze
  generalize L.foldl (wStep fR m seen off) (false, List.replicate nn 0) = st at *
  clear hA p1 e1
  repeat' (first | refine goS ?_ | refine go2 (fun hh => ?_) (fun hh => ?_) | fail)
  all_goals (simp only [resV_def (X := dX cRG) Tryz.func33, Tryz.results33]; first | exact J5 | refine J6 ?_)
  all_goals rfl
theorem F33 : IntrFn Tryz.prog 33 (pureFn sp33) := by
 refine pure_fn (X := dX cRG) cRG_sound p33 ?_
 intro args v h
 unfold sp33 at h
 split at h
 ·split at h
  ·rename_i m hm
   split at h
   ·rename_i hb
    have h := Option.some.inj h
    subst h
    obtain ⟨ra, fa, oa, ha, rfl, hA⟩ := hs_parts' hm
    exact R33 m ra fa oa ha _ _ hA hb
   ·cases h
  ·cases h
 ·cases h
theorem K33 {X : Ctx} (hX : X.intr 33 = some (pureFn sp33)) {m : Hs} {ra fa oa ha : AV} (hm : HsA m ra fa oa ha) (hb : houseB m = true) (seen off : Int) (h : Heap) : Cl X 33 [.agg [.int .i64 m.hours, ra, fa, oa, ha], .int .i64 seen, .int .i64 off] h (.ret (.tuple [slN (intsE (wR m seen off).2), .bool (wR m seen off).1]) h none) :=
 Cl.intr hX (by
  have h1 := hm.pur
  have h2 := hm.hs
  simp only [pureFn, AV.purL, h1, show (AV.int .i64 seen).pur = true from rfl, show (AV.int .i64 off).pur = true from rfl, Bool.and_self, if_true, sp33, h2, hb])
end Go.AM
