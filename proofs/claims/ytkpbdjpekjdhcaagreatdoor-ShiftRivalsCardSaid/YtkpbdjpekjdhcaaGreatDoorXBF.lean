/-
  A part of the proof: contracts of functions.
-/
import Derived.Test.YtkpbdjpekjdhcaaGreatDoorXAY
import Derived.Test.YtkpbdjpekjdhcaaGreatDoorXBB
set_option linter.unusedSectionVars false
set_option linter.unusedVariables false
set_option linter.unusedSimpArgs false
set_option maxRecDepth 100000
namespace Go.AM
open Go Go.Proofs
variable [Keep]
attribute [local irreducible] W WO WO1 WD WQ WT thenQ blockQ endR isRet retK Cl ClR
open Go.TX (Rm Fa Ha Hs)
def orI (a b : Int) : Int := IntKind.i64.wrap ((BitVec.ofInt 64 a ||| BitVec.ofInt 64 b).toNat)
theorem intOp_orI (a b : Int) : intOp .or .i64 a b = some (.int .i64 (orI a b)) := rfl
def bitI (r : Int) : Int := IntKind.i64.wrap (1 * 2 ^ min r.toNat 64)
theorem intOp_shlI {r : Int} (h : 0 <= r) : intOp .shl .i64 1 r = some (.int .i64 (bitI r)) := by
 have : ¬ r < 0 := by omega
 simp only [intOp, if_neg this]
 rfl
def metF : List Int -> Int -> Option Int
 | [], s => some s
 | r :: l, s => if (r == -1) = true then metF l s else if hasB s r = true then none else metF l (orI s (bitI r))
def colL (g : List (List Int)) (k : Nat) : List Int := g.map fun p => p.getD k 0
def openAt (m : Hs) (g : List (List Int)) (k : Nat) : Bool := match metF (colL g k) 0 with
 | some s => !(s != m.op.getD k 0)
 | none => false
def rosB (m : Hs) (g : List (List Int)) : Bool := !((g.length : Int) != (m.hands.length : Int)) && !(g.any fun p => !pathB m p) && (List.range m.op.length).all (openAt m g)
theorem bits_all : ((List.range 8).all fun s => (List.range 3).all fun r => decide (0 <= orI s (bitI r)) && decide (orI s (bitI r) < 8) && (List.range 3).all fun q => hasB (orI s (bitI r)) q == (hasB s q || ((r : Int) == (q : Int)))) = true := by kernel_rfl
theorem bits_ext : ((List.range 8).all fun s => (List.range 8).all fun t => (s == t) || !((List.range 3).all fun q => hasB s q == hasB t q)) = true := by kernel_rfl
theorem bits_high : ((List.range 4).all fun n => (List.range (2 ^ n)).all fun s => (List.range 3).all fun q => decide (q < n) || !hasB s q) = true := by kernel_rfl
theorem bit_add {s : Int} {r : Nat} (hs : 0 <= s /\ s < 8) (hr : r < 3) : (0 <= orI s (bitI r) /\ orI s (bitI r) < 8) /\ ∀ q : Nat, q < 3 -> hasB (orI s (bitI r)) q = (hasB s q || ((r : Int) == (q : Int))) := by
 have h := bits_all
 rw [List.all_eq_true] at h
 have h := h s.toNat (List.mem_range.2 (by omega))
 rw [List.all_eq_true] at h
 have h := h r (List.mem_range.2 hr)
 have e : ((s.toNat : Nat) : Int) = s := by omega
 rw [e] at h
 simp only [Bool.and_eq_true, decide_eq_true_eq, List.all_eq_true, beq_iff_eq] at h
 exact ⟨h.1, fun q hq => h.2 q (List.mem_range.2 hq)⟩
theorem bit_ext {s t : Int} (hs : 0 <= s /\ s < 8) (ht : 0 <= t /\ t < 8) (h : ∀ q : Nat, q < 3 -> hasB s q = hasB t q) : s = t := by
 have hx := bits_ext
 rw [List.all_eq_true] at hx
 have hx := hx s.toNat (List.mem_range.2 (by omega))
 rw [List.all_eq_true] at hx
 have hx := hx t.toNat (List.mem_range.2 (by omega))
 have e1 : ((s.toNat : Nat) : Int) = s := by omega
 have e2 : ((t.toNat : Nat) : Int) = t := by omega
 rw [e1, e2] at hx
 have : ((List.range 3).all fun q => hasB s q == hasB t q) = true := by
  rw [List.all_eq_true]
  intro q hq
  rw [h q (List.mem_range.1 hq)]
  simp
 rw [this] at hx
 simp at hx
 omega
theorem bit_high {s : Int} {n q : Nat} (hn : n < 4) (hs : 0 <= s /\ s < 2 ^ n) (hq : q < 3) (hnq : n <= q) : hasB s q = false := by
 have hx := bits_high
 rw [List.all_eq_true] at hx
 have hx := hx n (List.mem_range.2 hn)
 rw [List.all_eq_true] at hx
 have hp : ((2 ^ n : Nat) : Int) = (2 : Int) ^ n := by simp
 have hx := hx s.toNat (List.mem_range.2 (by omega))
 rw [List.all_eq_true] at hx
 have hx := hx q (List.mem_range.2 hq)
 have e1 : ((s.toNat : Nat) : Int) = s := by omega
 rw [e1] at hx
 have : decide (q < n) = false := by simp; omega
 rw [this, Bool.false_or] at hx
 simpa using hx
def hasN (s : Int) (q : Nat) : Nat := if hasB s q = true then 1 else 0
theorem met_some : ∀ {l : List Int} {s t : Int}, (∀ x ∈ l, -1 <= x /\ x < 3) -> 0 <= s /\ s < 8 -> metF l s = some t -> (0 <= t /\ t < 8) /\ ∀ q : Nat, q < 3 -> hasB t q = (hasB s q || l.contains (q : Int)) /\ hasN s q + l.count (q : Int) <= 1
 | [], s, t, _, hs, h => by
  cases h
  refine ⟨hs, fun q hq => ⟨by simp, ?_⟩⟩
  unfold hasN
  split <;> simp
 | r :: l, s, t, hl, hs, h => by
  have hr := hl r (by simp)
  have hl' : ∀ x ∈ l, -1 <= x /\ x < 3 := fun x hx => hl x (by simp [hx])
  unfold metF at h
  by_cases e : r = -1
  ·subst e
   simp only [beq_self_eq_true, if_true] at h
   obtain ⟨h1, h2⟩ := met_some hl' hs h
   refine ⟨h1, fun q hq => ?_⟩
   have hne : ((-1 : Int) == (q : Int)) = false := by simp only [beq_eq_false_iff_ne, ne_eq]; omega
   obtain ⟨h3, h4⟩ := h2 q hq
   have hne2 : ((q : Int) == (-1 : Int)) = false := by simp only [beq_eq_false_iff_ne, ne_eq]; omega
   refine ⟨?_, ?_⟩
   ·rw [h3, List.contains_cons, hne2, Bool.false_or]
   ·rw [List.count_cons, hne]; simpa using h4
  ·have e1 : (r == -1) = false := by simp [e]
   rw [e1] at h
   simp only [Bool.false_eq_true, if_false] at h
   split at h
   ·cases h
   ·rename_i hno
    have hno : hasB s r = false := by simpa using hno
    obtain ⟨rn, rfl⟩ : ∃ rn : Nat, r = rn := ⟨r.toNat, by omega⟩
    obtain ⟨b1, b2⟩ := bit_add (s := s) (r := rn) hs (by omega)
    obtain ⟨h1, h2⟩ := met_some hl' b1 h
    refine ⟨h1, fun q hq => ?_⟩
    obtain ⟨h3, h4⟩ := h2 q hq
    rw [b2 q hq] at h3
    refine ⟨?_, ?_⟩
    ·rw [h3, List.contains_cons, Bool.or_assoc]
     congr 2
     rw [Bool.eq_iff_iff]; simp only [beq_iff_eq]; exact ⟨Eq.symm, Eq.symm⟩
    ·unfold hasN at h4 ⊢
     rw [b2 q hq] at h4
     rw [List.count_cons]
     by_cases eq : (rn : Int) = (q : Int)
     ·have eq' : rn = q := by omega
      subst eq'
      rw [hno] at h4 ⊢
      simp at h4 ⊢
      omega
     ·have eq' : ((rn : Int) == (q : Int)) = false := by simp only [beq_eq_false_iff_ne, ne_eq]; exact eq
      rw [eq', Bool.or_false] at h4
      rw [eq']
      simpa using h4
theorem met_none : ∀ {l : List Int} {s : Int}, (∀ x ∈ l, -1 <= x /\ x < 3) -> 0 <= s /\ s < 8 -> metF l s = none -> ∃ q : Nat, q < 3 /\ (q : Int) ∈ l /\ 2 <= hasN s q + l.count (q : Int)
 | [], s, _, hs, h => by cases h
 | r :: l, s, hl, hs, h => by
  have hr := hl r (by simp)
  have hl' : ∀ x ∈ l, -1 <= x /\ x < 3 := fun x hx => hl x (by simp [hx])
  unfold metF at h
  by_cases e : r = -1
  ·subst e
   simp only [beq_self_eq_true, if_true] at h
   obtain ⟨q, h1, h2, h3⟩ := met_none hl' hs h
   have hne : ((-1 : Int) == (q : Int)) = false := by simp only [beq_eq_false_iff_ne, ne_eq]; omega
   exact ⟨q, h1, by simp [h2], by rw [List.count_cons, hne]; simpa using h3⟩
  ·have e1 : (r == -1) = false := by simp [e]
   rw [e1] at h
   simp only [Bool.false_eq_true, if_false] at h
   obtain ⟨rn, rfl⟩ : ∃ rn : Nat, r = rn := ⟨r.toNat, by omega⟩
   split at h
   ·rename_i hyes
    refine ⟨rn, by omega, by simp, ?_⟩
    unfold hasN
    rw [hyes, List.count_cons]
    simp
    omega
   ·rename_i hno
    have hno : hasB s (rn : Int) = false := by simpa using hno
    obtain ⟨b1, b2⟩ := bit_add (s := s) (r := rn) hs (by omega)
    obtain ⟨q, h1, h2, h3⟩ := met_none hl' b1 h
    refine ⟨q, h1, by simp [h2], ?_⟩
    unfold hasN at h3 ⊢
    rw [b2 q h1] at h3
    rw [List.count_cons]
    by_cases eq : (rn : Int) = (q : Int)
    ·have eq' : rn = q := by omega
     subst eq'
     rw [hno] at h3 ⊢
     simp at h3 ⊢
     omega
    ·have eq' : ((rn : Int) == (q : Int)) = false := by simp only [beq_eq_false_iff_ne, ne_eq]; exact eq
     rw [eq', Bool.or_false] at h3
     rw [eq']
     simpa using h3
def cntOk (b : Bool) (n : Nat) : Bool := !((b && ((n : Int) != 1)) || (!b && ((n : Int) != 0)))
theorem cntOk_is {b : Bool} {n : Nat} : cntOk b n = true ↔ n = if b = true then 1 else 0 := by
 unfold cntOk
 cases b
 ·simp
 ·simp; omega
def hourB (m : Hs) (g : List (List Int)) (k : Nat) : Bool := (List.range m.rooms.length).all fun r => cntOk (hasB (m.op.getD k 0) r) ((colL g k).count (r : Int))
theorem met_law {l : List Int} {n : Nat} {s : Int} (hn : n <= 3) (hl : ∀ x ∈ l, -1 <= x /\ x < n) (hs : 0 <= s /\ s < 2 ^ n) : metF l 0 = some s ↔ ∀ r : Nat, r < n -> l.count (r : Int) = if hasB s r = true then 1 else 0 := by
 have hl3 : ∀ x ∈ l, -1 <= x /\ x < 3 := fun x hx => by have := hl x hx; omega
 have h8 : (2 : Int) ^ n <= 8 := by
  have : n = 0 \/ n = 1 \/ n = 2 \/ n = 3 := by omega
  rcases this with rfl | rfl | rfl | rfl <;> decide
 have h0 : ∀ q : Nat, q < 3 -> hasB 0 q = false := fun q hq => by
  have : q = 0 \/ q = 1 \/ q = 2 := by omega
  rcases this with rfl | rfl | rfl <;> decide
 constructor
 ·intro h r hr
  obtain ⟨_, h2⟩ := met_some hl3 (by omega) h
  obtain ⟨h3, h4⟩ := h2 r (by omega)
  rw [h0 r (by omega), Bool.false_or] at h3
  unfold hasN at h4
  rw [h0 r (by omega)] at h4
  simp only [Bool.false_eq_true, if_false, Nat.zero_add] at h4
  rw [h3]
  by_cases hc : (r : Int) ∈ l
  ·have h5 := List.count_pos_iff.2 hc
   have h6 : l.contains (r : Int) = true := by simpa using hc
   rw [h6]
   simp only [if_true]
   omega
  ·have h5 := List.count_eq_zero.2 hc
   have h6 : l.contains (r : Int) = false := by simpa using hc
   rw [h6, h5]
   rfl
 ·intro h
  cases hm : metF l 0 with
  | none =>
   obtain ⟨q, h1, h2, h3⟩ := met_none hl3 (by omega) hm
   have hq := hl q h2
   have h4 := h q (by omega)
   unfold hasN at h3
   rw [h0 q h1] at h3
   simp only [Bool.false_eq_true, if_false, Nat.zero_add] at h3
   split at h4 <;> omega
  | some t =>
   obtain ⟨h1, h2⟩ := met_some hl3 (by omega) hm
   congr 1
   refine bit_ext h1 (by omega) fun q hq => ?_
   obtain ⟨h3, h4⟩ := h2 q hq
   rw [h0 q hq, Bool.false_or] at h3
   rw [h3]
   by_cases hqn : q < n
   ·have h5 := h q hqn
    by_cases hc : (q : Int) ∈ l
    ·have h6 := List.count_pos_iff.2 hc
     have h7 : l.contains (q : Int) = true := by simpa using hc
     rw [h7]
     split at h5
     ·rename_i e; rw [e]
     ·omega
    ·have h6 := List.count_eq_zero.2 hc
     have h7 : l.contains (q : Int) = false := by simpa using hc
     rw [h7]
     split at h5
     ·omega
     ·rename_i e; simp at e; rw [e]
   ·rw [bit_high (by omega) hs hq (by omega)]
    have : ¬ (q : Int) ∈ l := fun hc => by have := hl q hc; omega
    simpa using this
theorem open_hour {m : Hs} (ho : HOk m) {g : List (List Int)} (hp : ∀ p ∈ g, pathB m p = true) {k : Nat} (hk : k < m.op.length) : openAt m g k = hourB m g k := by
 obtain ⟨s, hs⟩ := get_some hk
 have hgs : m.op.getD k 0 = s := by simp [List.getD, hs]
 have h3 := ho.rooms
 have hcol : ∀ x ∈ colL g k, -1 <= x /\ x < m.rooms.length := fun x hx => by
  obtain ⟨p, h1, rfl⟩ := List.mem_map.1 hx
  obtain ⟨q1, q2⟩ := path_is ho (hp p h1)
  have hl := ho.op
  obtain ⟨r, hr⟩ := get_some (l := p) (k := k) (by omega)
  have : p.getD k 0 = r := by simp [List.getD, hr]
  rw [this]
  exact q2 r (List.mem_of_getElem? hr)
 have hlaw := met_law (n := m.rooms.length) (s := s) (by omega) hcol (ho.set s (List.mem_of_getElem? hs))
 unfold openAt hourB
 rw [hgs, Bool.eq_iff_iff, List.all_eq_true]
 constructor
 ·intro h r hr
  cases hm : metF (colL g k) 0 with
  | none => rw [hm] at h; simp at h
  | some t =>
   rw [hm] at h
   have : t = s := by simpa using h
   subst this
   exact cntOk_is.2 (hlaw.1 hm r (List.mem_range.1 hr))
 ·intro h
  rw [hlaw.2 fun r hr => cntOk_is.1 (h r (List.mem_range.2 hr))]
  simp
def rosR (m : Hs) (g : List (List Int)) : Bool := g.all (pathB m) && !((g.length : Int) != (m.hands.length : Int)) && (List.range m.op.length).all (hourB m g)
theorem all_congr' {α : Type} {p q : α -> Bool} : ∀ {l : List α}, (∀ x ∈ l, p x = q x) -> l.all p = l.all q
 | [], _ => rfl
 | a :: l, h => by simp only [List.all_cons, h a (by simp), all_congr' (l := l) fun x hx => h x (by simp [hx])]
theorem any_not2 {α : Type} {p : α -> Bool} : ∀ l : List α, (!(l.any fun x => !p x)) = l.all p
 | [] => rfl
 | a :: l => by simp only [List.any_cons, List.all_cons, Bool.not_or, Bool.not_not, any_not2 l]
theorem ros_same {m : Hs} (ho : HOk m) (g : List (List Int)) : rosB m g = rosR m g := by
 unfold rosB rosR
 rw [any_not2]
 cases hp : g.all (pathB m) with
 | false => simp
 | true =>
  rw [List.all_eq_true] at hp
  rw [all_congr' (q := hourB m g) fun k hk => open_hour ho hp (List.mem_range.1 hk)]
  cases ((g.length : Int) != (m.hands.length : Int)) <;> rfl
structure RosOk (m : Hs) (g : List (List Int)) : Prop where
 len : g.length = m.hands.length
 path : ∀ p ∈ g, pathB m p = true
 hour : ∀ k, k < m.op.length -> openAt m g k = true
theorem ros_ok {m : Hs} {g : List (List Int)} (h : rosB m g = true) : RosOk m g := by
 unfold rosB at h
 rw [any_not2] at h
 simp only [Bool.and_eq_true, List.all_eq_true] at h
 obtain ⟨⟨h1, h2⟩, h3⟩ := h
 refine ⟨?_, h2, fun k hk => h3 k (List.mem_range.2 hk)⟩
 simp at h1
 omega
theorem metF_cons (r : Int) (l : List Int) (s : Int) : metF (r :: l) s = if (r == -1) = true then metF l s else if hasB s r = true then none else metF l (orI s (bitI r)) := rfl
theorem metF_nil (s : Int) : metF [] s = some s := rfl
theorem colL_cons (p : List Int) (g : List (List Int)) (k : Nat) : colL (p :: g) k = p.getD k 0 :: colL g k := rfl
attribute [local irreducible] hasB metF pathB
theorem C168 (c : Itr) (hc : c 168 = none) (hc2 : c 123 = some (pureFn sp123)) {m : Hs} {ra fa oa ha : AV} (hm : HsA m ra fa oa ha) (b : AV) (p : List Int) (hb : slV intC b = some p) (id : Nat) (h : Heap) (hg : h.get id = some (.var [.int .i64 m.hours, ra, fa, oa, ha])) :
  Cl (dX c) 168 (([] ++ [b]) ++ [.ptr id 0]) h (.ret (.bool (!pathB m p)) h none) := by
 refine ClR.cl ?_
 have k123 := fun h => K123 (X := dX c) hc2 hm hb h
 have o1 := sl_out hm.r
 have o2 := sl_out hm.f
 have o3 := sl_out hm.o
 have o4 := sl_out hm.h
 have ob := sl_out hb
 clear hm hb
 refine ClR.walk (c := _) hc Tryz.func168 rfl (by kernel_rfl) rfl (fun e => by cases e) ?_
 try simp only [entryEnv, Nat.reduceAdd, List.nil_append, List.cons_append, emptyHp]
 repeat' (first | refine goS ?_ | (apply U6; exact Z1; exact Z1; (exact k123 _); simp only [pM, pN, rR, rP]) | (refine go2 ?_ ?_ <;> intro hh) | fail)
 all_goals (simp only [resV_def (X := dX c) Tryz.func168, Tryz.results168]; first | exact J5 | refine J6 ?_)
 all_goals rfl
noncomputable def cRA : Itr
 | 123 => some (pureFn sp123)
 | 89 => some (pureFn sp89)
 | _ => none
theorem cRA_sound : Sound (dX cRA) := dX_sound (fun f g h => by
 unfold cRA at h
 split at h
 ·cases h; exact F123
 ·cases h; exact F89
 ·cases h)
def sp121 : List AV -> Option AV
 | [x, dv] => match hsV x, lisV dv with
  | some m, some g => if houseB m = true then some (.bool (rosB m g)) else none
  | _, _ => none
 | _ => none
theorem p121 : ∀ args v, sp121 args = some v -> v.pur = true := by
 intro args v h
 unfold sp121 at h
 split at h
 ·split at h
  ·split at h
   ·cases h; rfl
   ·cases h
  ·cases h
 ·cases h
theorem open_no {m : Hs} {g : List (List Int)} {k n : Nat} (hk : k < n) (h : openAt m g k = false) : (List.range n).all (openAt m g) = false := by
 rw [List.all_eq_false]
 exact ⟨k, List.mem_range.2 hk, by rw [h]; simp⟩
set_option maxHeartbeats 8000000 in
theorem F121 : IntrFn Tryz.prog 121 (pureFn sp121) := by
 refine pure_fn (X := dX cRA) cRA_sound p121 ?_
 intro args v h
 unfold sp121 at h
 split at h
 ·rename_i xx dv
  split at h
  ·rename_i m g hm hg
   split at h
   ·rename_i hb
    have h := Option.some.inj h
    subst h
    obtain ⟨ra, fa, oa, ha, rfl, hA⟩ := hs_parts' hm
    have ho := house_ok hb
    have l3 := sl_len hA.o
    have l4 := sl_len hA.h
    have o1 := sl_out hA.r
    have o2 := sl_out hA.f
    have o3 := sl_out hA.o
    have o4 := sl_out hA.h
    have mo := sl_max hA.o
    have ld := lis_len hg
    have od := lis_out hg
    have md := lis_max hg
    have hcl : ∀ H : Heap, H.get 0 = some (.var [.int .i64 m.hours, ra, fa, oa, ha]) -> Cl (dX cRA) 167 [dv, .func (.func 168) [] [.ptr 0 0]] H (.ret (.bool (g.any fun p => !pathB m p)) H none) := fun H e => C167 cRA rfl rfl dv g hg 168 [] [.ptr 0 0] _ H (fun b r hb _ => C168 cRA rfl rfl hA b r hb 0 H e)
    have hcl := hcl ⟨1, Mp.nil.set 0 (.var [.int .i64 m.hours, ra, fa, oa, ha])⟩ (by simp [hp_get])
    have hor := intOp_orI
    have HG := J1 hg
    have HO := J1 ho
    have HAA := J1 hA
    unfold rosB
    clear hm hg hA hb ho
    cases hl : ((g.length : Int) != (m.hands.length : Int)) with
    | true =>
     simp only [Bool.not_true, Bool.false_and]
     refine ClR.walk (c := _) rfl Tryz.func121 rfl (by kernel_rfl) rfl isRet_fail ?_
     try simp only [entryEnv, Nat.reduceAdd, List.nil_append, List.cons_append, emptyHp]
     repeat' (first | (apply U6; exact Z1; exact Z1; (focus (exact hcl)); simp only [pM, pN, rR, rP]) | refine go1 ?_ | (refine go2 ?_ ?_ <;> intro hh) | fail)
     all_goals (simp only [resV_def (X := dX cRA) Tryz.func121, Tryz.results121]; first | exact J5 | refine J6 ?_)
     all_goals rfl
    | false =>
     cases hp : (g.any fun p => !pathB m p) with
     | true =>
      rw [hp] at hcl
      simp only [Bool.not_false, Bool.not_true, Bool.and_false, Bool.false_and]
      refine ClR.walk (c := _) rfl Tryz.func121 rfl (by kernel_rfl) rfl isRet_fail ?_
      try simp only [entryEnv, Nat.reduceAdd, List.nil_append, List.cons_append, emptyHp]
      repeat' (first | (apply U6; exact Z1; exact Z1; (focus (exact hcl)); simp only [pM, pN, rR, rP]) | refine go1 ?_ | (refine go2 ?_ ?_ <;> intro hh) | fail)
      all_goals (simp only [resV_def (X := dX cRA) Tryz.func121, Tryz.results121]; first | exact J5 | refine J6 ?_)
      all_goals rfl
     | false =>
      rw [hp] at hcl
      simp only [Bool.not_false, Bool.true_and]
      have hpb : ∀ p ∈ g, pathB m p = true := fun p h => by
       rw [List.any_eq_false] at hp
       have := hp p h
       simpa using this
      have HPB := J1 hpb
      clear hpb hp
      refine ClR.walk (c := _) rfl Tryz.func121 rfl (by kernel_rfl) rfl isRet_fail ?_
      try simp only [entryEnv, Nat.reduceAdd, List.nil_append, List.cons_append, emptyHp]
      repeat' (first | (apply U6; exact Z1; exact Z1; (focus (exact hcl)); simp only [pM, pN, rR, rP]) | refine go1 ?_ | (refine go2 ?_ ?_ <;> intro hh) | fail)
      refine W.loopH (m.op.length) [1, 23, 24] [] (fun k e lm => e.get 25 = some (.int .i64 ↑k) /\ (List.range k).all (openAt m g) = true) ?_ ?_
      ·skip
       refine ⟨?_, ?_⟩
       all_goals first | exact Z2 | (simp [go_sem, *]; done) | skip
       all_goals rfl
      intro k e lm hk0 hce hcl hinv
      simp only [keepE, and_true] at hce
      obtain ⟨c1, c23, c24⟩ := hce
      simp only [go_sem, *, Nat.reduceBEq, Nat.reduceEqDiff, reduceIte] at c1 c23 c24
      clear hcl
      obtain ⟨h25, hal⟩ := hinv
      by_cases hlt : k < m.op.length
      ·have hd0 : decide ((k : Int) < ((m.op.length : Nat) : Int)) = true := by first | (simpa using hlt; done) | (simp only [decide_eq_true_eq]; omega)
       have hv_0 := wrap_succ hlt mo
       obtain ⟨so, hso⟩ := get_some hlt
       have hixo := fun H => ints_idx HAA.out.o hso H
       have hgs : m.op.getD k 0 = so := by simp [List.getD, hso]
       have hnx : (List.range (k + 1)).all (openAt m g) = openAt m g k := by rw [List.range_succ, List.all_append, hal]; simp
       have hkn : k < m.hours.toNat := by have := HO.out.op; omega
       have HGS := J1 hgs
       have HNX := J1 hnx
       have HKN := J1 hkn
       have HLT0 := J1 hlt
       clear hso hnx hal hlt hgs hkn
       repeat' (first | refine goS ?_ | (refine go2 ?_ ?_ <;> intro hh) | fail)
       refine W.loopH (g.length) [1, 5, 6, 23, 24, 25, 30, 31] [] (fun j e1 lm1 => ∃ s, e1.get 32 = some (.int .i64 ↑j) /\ e1.get 7 = some (.int .i64 s) /\ metF (colL (g.drop j) k) s = metF (colL g k) 0) ?_ ?_
       ·skip
        refine ⟨0, ?_, ?_, ?_⟩
        all_goals first | exact Z2 | (simp [go_sem, *]; done) | skip
        all_goals rfl
       intro j e1 lm1 hk1 hce hcl hinv
       simp only [keepE, and_true] at hce
       obtain ⟨c1, c5, c6, c23, c24, c25, c30, c31⟩ := hce
       simp only [go_sem, *, Nat.reduceBEq, Nat.reduceEqDiff, reduceIte] at c1 c5 c6 c23 c24 c25 c30 c31
       clear hcl
       obtain ⟨s, h32, h7, hs⟩ := hinv
       by_cases hjt : j < g.length
       ·have hd1 : decide ((j : Int) < ((g.length : Nat) : Int)) = true := by first | (simpa using hjt; done) | (simp only [decide_eq_true_eq]; omega)
        have hv_1 := wrap_succ hjt md
        obtain ⟨p, hp⟩ := get_some hjt
        obtain ⟨b, hb1, hb2⟩ := lis_idx HG.out hp
        obtain ⟨q1, q2⟩ := path_is HO.out (HPB.out p (List.mem_of_getElem? hp))
        obtain ⟨r, hr⟩ := get_some (l := p) (k := k) (by have := HKN.out; omega)
        have hix := fun H => ints_idx hb1 hr H
        have hr1 := (q2 r (List.mem_of_getElem? hr)).1
        have hgr : p.getD k 0 = r := by simp [List.getD, hr]
        obtain ⟨d1, d2⟩ := List.getElem?_eq_some_iff.1 hp
        have ob := sl_out hb1
        have hcb := (slV_is hb1).1.cells
        have htb := (slV_is hb1).1.tup
        simp only [AV.cells] at hcb
        simp only [isTuple] at htb
        rw [List.drop_eq_getElem_cons d1, d2, colL_cons, hgr, metF_cons] at hs
        have HLT1 := J1 hjt
        clear hp hb1 q1 q2 hr hgr d1 d2 hjt
        cases e1 : (r == -1) with
        | true =>
         rw [e1] at hs
         simp only [if_true] at hs
         have HS := J1 hs
         clear hs
         repeat' (first | refine goS ?_ | (apply U6; exact Z1; exact Z1; (exact k89 _); simp only [pM, pN, rR, rP]) | (refine go2 ?_ ?_ <;> intro hh) | fail)
         all_goals refine contH_mk (by first | assumption | exact HLT1.out | exact HLT0.out) J7 J8 ?_
         all_goals refine ⟨s, ?_, ?_, HS.out⟩
         all_goals first | exact Z2 | skip
        | false =>
         rw [e1] at hs
         simp only [Bool.false_eq_true, if_false] at hs
         have hr0 : 0 <= r := by
          have : r ≠ -1 := by simpa using e1
          omega
         have k89 := fun h => K89 (X := dX cRA) rfl s r hr0 h
         have hsh := intOp_shlI hr0
         cases e2 : hasB s r with
         | true =>
          rw [e2] at hs k89
          simp only [if_true] at hs
          have hno : openAt m g k = false := by
           unfold openAt
           rw [<- hs]
          rw [open_no HLT0.out hno]
          clear hs hno hr0
          repeat' (first | refine goS ?_ | (apply U6; exact Z1; exact Z1; (exact k89 _); simp only [pM, pN, rR, rP]) | (refine go2 ?_ ?_ <;> intro hh) | fail)
          all_goals (simp only [resV_def (X := dX cRA) Tryz.func121, Tryz.results121]; first | exact J5 | refine J6 ?_)
          all_goals rfl
         | false =>
          rw [e2] at hs k89
          simp only [Bool.false_eq_true, if_false] at hs
          have HS := J1 hs
          clear hs hr0
          repeat' (first | refine goS ?_ | (apply U6; exact Z1; exact Z1; (exact k89 _); simp only [pM, pN, rR, rP]) | (refine go2 ?_ ?_ <;> intro hh) | fail)
          all_goals refine contH_mk (by first | assumption | exact HLT1.out | exact HLT0.out) J7 J8 ?_
          all_goals refine ⟨orI s (bitI r), ?_, ?_, HS.out⟩
          all_goals first | exact Z2 | skip
       ·have hd1 : decide ((j : Int) < ((g.length : Nat) : Int)) = false := by first | (simpa using hjt; done) | (simp only [decide_eq_false_iff_not]; omega)
        obtain rfl : j = g.length := by omega
        rw [List.drop_of_length_le (Nat.le_refl _)] at hs
        have hop : openAt m g k = !(s != so) := by
         unfold openAt
         rw [<- hs, HGS.out, show colL [] k = [] from rfl, metF_nil]
        have HOP := J1 hop
        clear hs hop
        cases e3 : (s != so) with
        | true =>
         have hno : openAt m g k = false := by rw [HOP.out, e3]; rfl
         rw [open_no HLT0.out hno]
         clear hno
         repeat' (first | refine goS ?_ | (refine go2 ?_ ?_ <;> intro hh) | fail)
         all_goals (simp only [resV_def (X := dX cRA) Tryz.func121, Tryz.results121]; first | exact J5 | refine J6 ?_)
         all_goals rfl
        | false =>
         repeat' (first | refine goS ?_ | (refine go2 ?_ ?_ <;> intro hh) | fail)
         all_goals refine contH_mk J9 J7 J8 ?_
         all_goals refine ⟨?_, ?_⟩
         all_goals first | exact Z2 | skip
         all_goals (rw [HNX.out, HOP.out, e3]; rfl)
      ·have hd0 : decide ((k : Int) < ((m.op.length : Nat) : Int)) = false := by first | (simpa using hlt; done) | (simp only [decide_eq_false_iff_not]; omega)
       obtain rfl : k = m.op.length := by omega
       rw [hal]
       clear hal
       repeat' (first | refine goS ?_ | (refine go2 ?_ ?_ <;> intro hh) | fail)
       all_goals (simp only [resV_def (X := dX cRA) Tryz.func121, Tryz.results121]; first | exact J5 | refine J6 ?_)
       all_goals rfl
   ·cases h
  ·cases h
 ·cases h
theorem K121 {X : Ctx} (hX : X.intr 121 = some (pureFn sp121)) {m : Hs} {ra fa oa ha dv : AV} {g : List (List Int)} (hm : HsA m ra fa oa ha) (hb : houseB m = true) (hg : lisV dv = some g) (h : Heap) : Cl X 121 [.agg [.int .i64 m.hours, ra, fa, oa, ha], dv] h (.ret (.bool (rosB m g)) h none) :=
 Cl.intr hX (by
  have h1 := hm.pur
  have h2 := hm.hs
  simp only [pureFn, AV.purL, h1, lis_pur hg, Bool.and_self, if_true, sp121, h2, hg, hb])
end Go.AM
