/-
  A part of the proof: contracts of functions.
-/
import Derived.Test.YtkpbdjpekjdhcaaGreatDoorRBO
import Derived.Test.YtkpbdjpekjdhcaaGreatDoorRBF
import Derived.Test.YtkpbdjpekjdhcaaGreatDoorRBB
set_option linter.unusedSectionVars false
set_option linter.unusedVariables false
set_option linter.unusedSimpArgs false
set_option maxRecDepth 100000
namespace Go.AM
open Go Go.Proofs
variable [Keep]
attribute [local irreducible] W WO WO1 WD WQ WT thenQ blockQ endR isRet retK Cl ClR
open Go.TX (Rm Fa Ha Hs)
def agrB (s : Int × Int) (seen off : Int) : Bool := decide (s.1 ≤ w64 (seen + off)) && decide (s.2 ≥ w64 (seen - off))
def fR (o r : Int) : Int := if hasB o (w64 (r + 1)) = true then o else w64 (o + 2 ^ (w64 (r + 1)).toNat)
def fP (o r : Int) : Int := orI o (bitI (w64 (r + 1)))
def addTo (f : Int → Int → Int) (out p : List Int) : Nat → List Int
 | 0 => out
 | j + 1 => (addTo f out p j).set j (f ((addTo f out p j).getD j 0) (p.getD j 0))
theorem addTo_len (f : Int → Int → Int) (out p : List Int) : ∀ j, (addTo f out p j).length = out.length
 | 0 => rfl
 | j + 1 => by rw [addTo, List.length_set, addTo_len f out p j]
theorem bit16 : ((List.range 16).all fun o => (List.range 4).all fun r => decide (0 ≤ orI o (bitI r)) && decide (orI o (bitI r) < 16) && (orI o (bitI r) == (if hasB o r = true then (o : Int) else w64 (o + 2 ^ r))) && (List.range 4).all fun q => hasB (orI o (bitI r)) q == (hasB o q || (r == q))) = true := by kernel_rfl
theorem bit16_is {o : Int} {r : Nat} (ho : 0 ≤ o ∧ o < 16) (hr : r < 4) : (0 ≤ orI o (bitI r) ∧ orI o (bitI r) < 16) ∧ orI o (bitI r) = (if hasB o r = true then o else w64 (o + 2 ^ r)) ∧ ∀ q : Nat, q < 4 → hasB (orI o (bitI r)) q = (hasB o q || (r == q)) := by
 have h := bit16
 rw [List.all_eq_true] at h
 have h := h o.toNat (List.mem_range.2 (by omega))
 rw [List.all_eq_true] at h
 have h := h r (List.mem_range.2 hr)
 have e : ((o.toNat : Nat) : Int) = o := by omega
 rw [e] at h
 simp only [Bool.and_eq_true, decide_eq_true_eq, List.all_eq_true, beq_iff_eq] at h
 exact ⟨h.1.1, h.1.2, fun q hq => h.2 q (List.mem_range.2 hq)⟩
theorem plus_one {r : Int} {n : Nat} (hr : -1 ≤ r ∧ r < n) (hn : n ≤ 8) : w64 (r + 1) = (((r + 1).toNat : Nat) : Int) ∧ (r + 1).toNat < n + 1 := by
 rw [w64_small (by omega) (by omega)]
 omega
def O16 (out : List Int) : Prop := ∀ x ∈ out, 0 ≤ x ∧ x < 16
theorem O16.at {out : List Int} (h : O16 out) (j : Nat) : 0 ≤ out.getD j 0 ∧ out.getD j 0 < 16 := by
 cases hq : out[j]? with
 | none => simp [List.getD, hq]
 | some x =>
  have := h x (List.mem_of_getElem? hq)
  simpa [List.getD, hq] using this
theorem O16.set {out : List Int} (h : O16 out) (j : Nat) {x : Int} (hx : 0 ≤ x ∧ x < 16) : O16 (out.set j x) := fun y hy => by
 rcases List.mem_or_eq_of_mem_set hy with q | q
 ·exact h y q
 ·rw [q]; exact hx
theorem fPR {o r : Int} (ho : 0 ≤ o ∧ o < 16) (hr : -1 ≤ r ∧ r < 3) : fP o r = fR o r ∧ 0 ≤ fP o r ∧ fP o r < 16 := by
 obtain ⟨e1, e2⟩ := plus_one (n := 3) hr (by omega)
 obtain ⟨b1, b2, b3⟩ := bit16_is ho (r := (r + 1).toNat) (by omega)
 unfold fP fR
 rw [e1, Int.toNat_natCast]
 exact ⟨b2, b1⟩
theorem addTo_same {out p : List Int} (ho : O16 out) (hp : ∀ x ∈ p, -1 ≤ x ∧ x < 3) : ∀ j, j ≤ p.length → addTo fP out p j = addTo fR out p j ∧ O16 (addTo fR out p j)
 | 0, _ => ⟨rfl, ho⟩
 | j + 1, hj => by
  obtain ⟨h1, h2⟩ := addTo_same ho hp j (by omega)
  obtain ⟨r, hr⟩ := get_some (l := p) (k := j) (by omega)
  have hgr : p.getD j 0 = r := by simp [List.getD, hr]
  obtain ⟨h3, h4⟩ := fPR (h2.at j) (hp r (List.mem_of_getElem? hr))
  rw [addTo, addTo, h1, hgr, h3]
  exact ⟨rfl, h2.set j (by rw [← h3]; exact h4)⟩
def wStep (f : Int → Int → Int) (m : Hs) (seen off : Int) (s : Bool × List Int) (p : List Int) : Bool × List Int := if agrB (airS m p) seen off = true then (true, addTo f s.2 p p.length) else s
def wAll (f : Int → Int → Int) (m : Hs) (seen off : Int) (l : List (List Int)) (n : Nat) : Bool × List Int := l.foldl (wStep f m seen off) (false, List.replicate n 0)
theorem wAll_same (m : Hs) (seen off : Int) : ∀ (l : List (List Int)) (s : Bool × List Int), (∀ p ∈ l, ∀ x ∈ p, -1 ≤ x ∧ x < 3) → O16 s.2 → l.foldl (wStep fP m seen off) s = l.foldl (wStep fR m seen off) s ∧ O16 (l.foldl (wStep fR m seen off) s).2
 | [], s, _, h => ⟨rfl, h⟩
 | p :: l, s, hp, h => by
  obtain ⟨h1, h2⟩ := addTo_same h (hp p (by simp)) p.length (Nat.le_refl _)
  have e : wStep fP m seen off s p = wStep fR m seen off s p := by unfold wStep; rw [h1]
  have e2 : O16 (wStep fR m seen off s p).2 := by unfold wStep; split; exact h2; exact h
  rw [List.foldl_cons, List.foldl_cons, e]
  exact wAll_same m seen off l _ (fun q hq => hp q (by simp [hq])) e2
theorem w_len (f : Int → Int → Int) (m : Hs) (seen off : Int) : ∀ (l : List (List Int)) (s : Bool × List Int), (l.foldl (wStep f m seen off) s).2.length = s.2.length
 | [], s => rfl
 | p :: l, s => by
  rw [List.foldl_cons, w_len f m seen off l]
  unfold wStep
  split
  ·exact addTo_len ..
  ·rfl
theorem z3 : zeroT Tryz.prog 3 = some (.int .i64 0) := by kernel_rfl
theorem mk24 {f : FuncId} {rnd : Bool} {e : Mp AV} {lm : Mp (Nat × List AV)} {hp : Heap} {df : List (AV × List AV)} {up : Option (AV × Bool)} {l c : Operand} {n : Nat} (h1 : (Fr.mk f rnd e lm hp df up).opv l = some (.int .i64 n)) (h2 : (Fr.mk f rnd e lm hp df up).opv c = some (.int .i64 n)) (hn : n ≤ 4) :
  (Fr.mk f rnd e lm hp df up).makeSliceE Tryz.prog 24 l c = .val (.row hp.next 0 n) (Fr.mk f rnd e lm (hp.new (.rw 1 (List.replicate n (.int .i64 0)))) df up) := by
 have e1 : elemT Tryz.prog 24 = some 3 := by kernel_rfl
 have e2 : szT Tryz.prog 3 = 1 := by kernel_rfl
 obtain ⟨i, e3, e4⟩ : ∃ i, Tryz.prog.info? 3 = some i ∧ i.bytes ≤ 65536 := by
  have : (match Tryz.prog.info? 3 with | some i => decide (i.bytes ≤ 65536) | none => false) = true := by kernel_rfl
  cases h : Tryz.prog.info? 3 with
  | none => rw [h] at this; cases this
  | some i => rw [h] at this; exact ⟨i, rfl, by simpa using this⟩
 have e5 : (0 : Int) ≤ n ∧ (n : Int) ≤ n ∧ (n : Int) ≤ most ∧ i.bytes ≤ 65536 ∧ (AV.int .i64 0).cells.length = 1 ∧ isTuple (.int .i64 0) = false ∧ 1 ≠ 0 := by
  refine ⟨by omega, by omega, by unfold most; omega, e4, rfl, rfl, by omega⟩
 unfold Fr.makeSliceE
 simp only [e1, h1, h2, z3, e3, e2, e5, and_self, if_true, Int.toNat_natCast, ne_eq, not_false_eq_true]
theorem WO1.make24 {c0 : Itr} {ops : Array Oper} {K P : AV → Fr → Prop} {f : FuncId} {rnd : Bool} {e : Mp AV} {lm : Mp (Nat × List AV)} {hp : Heap} {df : List (AV × List AV)} {up : Option (AV × Bool)} {d : Option Tmp} {T : TypeId} {p : String} {af : Array Edge} {l c : Operand} {n : Nat}
  (h1 : (Fr.mk f rnd e lm hp df up).opv l = some (.int .i64 n)) (h2 : (Fr.mk f rnd e lm hp df up).opv c = some (.int .i64 n)) (hn : n ≤ 4)
  (h : K (.row hp.next 0 n) ((Fr.mk f rnd e lm (hp.new (.rw 1 (List.replicate n (.int .i64 0)))) df up).put d (.row hp.next 0 n))) : WO1 (dX c0) ops ⟨d, .makeSlice 24 l c, T, p, af, none⟩ (Fr.mk f rnd e lm hp df up) K P :=
 U5 (v := .row hp.next 0 n) (F' := Fr.mk f rnd e lm (hp.new (.rw 1 (List.replicate n (.int .i64 0)))) df up) rfl (fun cl rd => by
  simp only [efV, dX_P]
  exact mk24 h1 h2 hn) h
theorem rep_ints (n : Nat) : List.replicate n (AV.int .i64 0) = intsE (List.replicate n 0) := by unfold intsE; rw [List.map_replicate]
theorem ints_set (l : List Int) (j : Nat) (x : Int) : (intsE l).set j (.int .i64 x) = intsE (l.set j x) := by unfold intsE; rw [List.map_set]
theorem ints_get {l : List Int} {j : Nat} (h : j < l.length) : (intsE l)[j]? = some (.int .i64 (l.getD j 0)) := by
 obtain ⟨x, hx⟩ := get_some h
 unfold intsE
 rw [List.getElem?_map, hx]
 simp [List.getD, hx]
theorem row_idx {id n j : Nat} {hp : Heap} {el : List AV} (hg : hp.get id = some (.rw 1 el)) (hj : j < n) : indexAddrV Tryz.prog hp 24 (.row id 0 n) (.int .i64 (j : Int)) = some (.eptr id 1 j 0) := by
 have hi : idxV (.int .i64 (j : Int)) n = some j := by
  simp only [idxV]
  rw [if_pos (by constructor <;> omega)]
  simp
 simp only [indexAddrV, Tryz.underlying24, ty_lay3, hi, hg, if_true, Nat.zero_add]
attribute [local irreducible] houseB pathB airS failsH hasB allP orI bitI
section
variable {c : Itr}
end
def wR (m : Hs) (seen off : Int) : Bool × List Int := wAll fR m seen off (allP m.rooms.length m.hours.toNat) m.hours.toNat
def sp33 : List AV → Option AV
 | [x, .int .i64 seen, .int .i64 off] => match hsV x with
  | some m => if houseB m = true then some (.tuple [slN (intsE (wR m seen off).2), .bool (wR m seen off).1]) else none
  | none => none
 | _ => none
theorem intsE_pur' (l : List Int) : (slN (intsE l)).pur = true := (slN_is _).pur fun x hx => by
 obtain ⟨n, _, rfl⟩ := List.mem_map.1 hx
 rfl
end Go.AM
