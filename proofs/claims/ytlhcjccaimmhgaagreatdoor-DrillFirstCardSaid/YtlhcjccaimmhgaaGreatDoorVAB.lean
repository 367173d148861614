/-
  A part of the proof: contracts of functions.
-/
import Derived.Test.YtlhcjccaimmhgaaGreatDoorVAA
import Derived.Laws.Strings
import Derived.Laws.Cells
import Derived.Laws.StructEq
set_option linter.unusedSimpArgs false
set_option linter.unusedVariables false
set_option linter.unusedSectionVars false
namespace Go.AM
open Go
variable [Keep]
section
variable {P : Program} {w : World} {C : Cfg}
theorem run_und {t : TypeId} {d : TypeDesc} (h : P.underlying t = some d) : (underlying t).run P w = .ok d w := by simp [underlying, h]
theorem run_info {t : TypeId} {i : TypeInfo} (h : P.info? t = some i) : (typeInfo t).run P w = .ok i w := by simp [typeInfo, h]
theorem run_lay {t : TypeId} {ag : Bool} {n : Nat} (h : lay P t = some (ag, n)) : (isAgg t).run P w = .ok ag w /\ (sizeOf t).run P w = .ok n w /\ ∃ i, P.info? t = some i /\ i.size = n := by
 unfold lay at h
 split at h
 ·rename_i d i h1 h2
  cases h
  refine ⟨?_, by simp [sizeOf, run_info h2], i, h2, rfl⟩
  simp only [isAgg, Sem.run_bind, run_und h1, Result.andThen_ok]
  cases d <;> rfl
 ·cases h
theorem run_zero {t : TypeId} {z : AV} (h : zeroT P t = some z) : ∃ v, (zeroValue t).run P w = .ok v w /\ VR C z v /\ (∃ i, P.info? t = some i /\ i.zero = some v) := by
 unfold zeroT at h
 split at h
 ·rename_i i h1
  split at h
  ·rename_i v h2
   exact ⟨v, by simp [zeroValue, run_info h1, h2], ofValue_ok h, i, h1, h2⟩
  ·cases h
 ·cases h
theorem VRs.extract {l : List AV} {vs : Array Value} (h : VRs C l vs) {o n : Nat} (hle : o + n <= l.length) : VRs C ((l.drop o).take n) (vs.extract o (o + n)) := by
 refine ⟨by simp [h.1]; omega, fun i hi => ?_⟩
 simp at hi
 have := h.2 (o + i) (by omega)
 have e1 : ((l.drop o).take n).getD i .junk = l.getD (o + i) .junk := by
  have : i < n := by omega
  simp [List.getD, List.getElem?_take, List.getElem?_drop, this]
 have e2 : (vs.extract o (o + n)).getD i undef = vs.getD (o + i) undef := by
  have h1 : o + i < vs.size := by rw [h.1]; omega
  have h2 : i < min (o + n) vs.size - o := by rw [h.1]; omega
  simp [Array.getD, h1, h2]
 rw [e1, e2]
 exact this
theorem mem_drop_take {l : List AV} {o n : Nat} {x : AV} (h : x ∈ (l.drop o).take n) : x ∈ l := List.mem_of_mem_drop (List.mem_of_mem_take h)
theorem run_loadCellsFrom (B O : Nat) : ∀ (n i : Nat) (acc : Array Value) (cells : List AV), (∀ k x, k < n -> cells[k]? = some x -> ∃ v, w.cell? ⟨B, O + (i + k), none⟩ = some v /\ VR C x v) -> n <= cells.length ->
  ∃ vs, (loadCellsFrom ⟨B, O, none⟩ i n acc).run P w = .ok (acc ++ vs) w /\ VRs C (cells.take n) vs := by
 intro n
 induction n with
 | zero => intro i acc cells _ _; exact ⟨#[], by simp [loadCellsFrom], by simpa using VRs.nil C⟩
 | succ n ih =>
  intro i acc cells h hn
  cases cells with
  | nil => simp at hn
  | cons x r =>
   obtain ⟨v, hv, hr⟩ := h 0 x (by omega) (by simp)
   obtain ⟨vs, h1, h2⟩ := ih (i + 1) (acc.push v) r (fun k y hk hy => by
    have := h (k + 1) y (by omega) (by simpa using hy)
    rwa [show i + 1 + k = i + (k + 1) from by omega]) (by simp at hn; omega)
   refine ⟨#[v] ++ vs, ?_, by simpa using VRs.cons hr h2⟩
   have ha : (⟨B, O, none⟩ : Addr).add i = ⟨B, O + i, none⟩ := by
    unfold Addr.add
    split <;> simp_all
   simp only [loadCellsFrom, Sem.run_bind, ha, run_load]
   simp only [Nat.add_zero] at hv
   simp only [hv, Result.andThen_ok, h1]
   simp
theorem run_loadCells {B O n : Nat} {cells : List AV} (h : ∀ k x, k < n -> cells[k]? = some x -> ∃ v, w.cell? ⟨B, O + k, none⟩ = some v /\ VR C x v) (hn : n <= cells.length) :
  ∃ vs, (loadCells ⟨B, O, none⟩ n).run P w = .ok vs w /\ VRs C (cells.take n) vs := by
 obtain ⟨vs, h1, h2⟩ := run_loadCellsFrom (P := P) B O n 0 #[] cells (fun k x hk hx => by simpa using h k x hk hx) hn
 exact ⟨vs, by simpa [loadCells] using h1, h2⟩
def Reads (C : Cfg) (w : World) (B O : Nat) (cells : List AV) (off : Nat) : Prop := ∀ k x, cells[off + k]? = some x -> ∃ v, w.cell? ⟨B, O + k, none⟩ = some v /\ VR C x v /\ x.one = true
theorem run_loadVar {t : TypeId} {B O off : Nat} {cells : List AV} {av : AV} (h : Reads C w B O cells off) (hr : readT P t cells off = some av) : ∃ v, (loadVar t ⟨B, O, none⟩).run P w = .ok v w /\ VR C av v := by
 unfold readT at hr
 split at hr
 ·rename_i ag n hl
  obtain ⟨k1, k2, _⟩ := run_lay (w := w) hl
  unfold readAt at hr
  cases ag with
  | true =>
   simp only [if_true] at hr
   split at hr
   ·rename_i hle
    cases hr
    obtain ⟨vs, h1, h2⟩ := run_loadCells (P := P) (C := C) (w := w) (B := B) (O := O) (n := n) (cells := cells.drop off) (fun k x _ hx => by
     rw [List.getElem?_drop] at hx
     obtain ⟨v, hv, hr, _⟩ := h k x hx
     exact ⟨v, hv, hr⟩) (by simp; omega)
    refine ⟨.agg vs, by simp [loadVar, k1, k2, h1], .agg h2.1 h2.2 fun c hc => ?_⟩
    obtain ⟨k, hk⟩ := List.mem_iff_getElem?.1 hc
    rw [List.getElem?_take] at hk
    split at hk
    ·rw [List.getElem?_drop] at hk
     obtain ⟨_, _, _, h4⟩ := h k c hk
     exact h4
    ·cases hk
   ·cases hr
  | false =>
   simp only [Bool.false_eq_true, if_false] at hr
   obtain ⟨v, hv, hr', _⟩ := h 0 av (by simpa using hr)
   simp only [Nat.add_zero] at hv
   exact ⟨v, by simp [loadVar, k1, hv], hr'⟩
 ·cases hr
theorem run_part {t : TypeId} {cs : List AV} {vs : Array Value} {off : Nat} {av : AV} (h : VRs C cs vs) (h1 : ∀ c ∈ cs, c.one = true) (hr : readT P t cs off = some av) : ∃ v, (part t vs off).run P w = .ok v w /\ VR C av v := by
 unfold readT at hr
 split at hr
 ·rename_i ag n hl
  obtain ⟨k1, k2, _⟩ := run_lay (w := w) hl
  unfold readAt at hr
  cases ag with
  | true =>
   simp only [if_true] at hr
   split at hr
   ·rename_i hle
    cases hr
    have := h.extract hle
    exact ⟨_, by simp [part, k1, k2], .agg this.1 this.2 fun c hc => h1 c (mem_drop_take hc)⟩
   ·cases hr
  | false =>
   simp only [Bool.false_eq_true, if_false] at hr
   obtain ⟨v, hv, hr'⟩ := h.get hr
   exact ⟨v, by simp [part, k1, hv], hr'⟩
 ·cases hr
theorem VR.int_inv {k : IntKind} {n : Int} {v : Value} (h : VR C (.int k n) v) : v = .int k n := by cases h; rfl
theorem VR.bool_inv {b : Bool} {v : Value} (h : VR C (.bool b) v) : v = .bool b := by cases h; rfl
theorem VR.str_inv {s : List UInt8} {v : Value} (h : VR C (.str s) v) : v = .string ⟨⟨s⟩⟩ := by cases h; rfl
theorem VR.agg_inv {cs : List AV} {v : Value} (h : VR C (.agg cs) v) : ∃ vs, v = .agg vs /\ VRs C cs vs /\ ∀ c ∈ cs, c.one = true := by
 cases h with
 | agg h1 h2 h3 => exact ⟨_, rfl, ⟨h1, h2⟩, h3⟩
theorem str_beq (a b : List UInt8) : ((⟨⟨a⟩⟩ : ByteArray) == ⟨⟨b⟩⟩) = (a == b) := by
 show (Array.mk a == Array.mk b) = _
 simp
theorem str_toList (a : List UInt8) : (⟨⟨a⟩⟩ : ByteArray).toList = a := ByteArray.toList_eq _
def eqElemsM (d : Nat) (e : TypeId) (n : Nat) (xs ys : Array Value) : List Nat -> Sem Bool
 | [] => pure true
 | i :: r => do
  let a <- part e xs (i * n)
  let b <- part e ys (i * n)
  let c <- Op.equalIn d e a b
  if (!c) = true then pure false else eqElemsM d e n xs ys r
theorem run_equalIn_array {w : World} (d : Nat) (t e : TypeId) (len n : Nat) (xs ys : Array Value) (ht : P.underlying t = some (.array len e)) (hs : (sizeOf e).run P w = .ok n w) :
  (Op.equalIn (d + 1) t (.agg xs) (.agg ys)).run P w = (eqElemsM d e n xs ys (List.range len)).run P w := by
 simp only [Op.equalIn, Sem.run_bind, run_und ht, Result.andThen_ok, hs]
 rw [Std.Legacy.Range.forIn_eq_forIn_range']
 have e1 : List.range' (Std.Legacy.Range.mk 0 len 1 (by decide)).start (Std.Legacy.Range.mk 0 len 1 (by decide)).size (Std.Legacy.Range.mk 0 len 1 (by decide)).step = List.range len := by
  simp [Std.Legacy.Range.size, List.range_eq_range']
 rw [e1]
 generalize List.range len = l
 clear e1 hs
 induction l generalizing w with
 | nil => simp [eqElemsM]
 | cons i l ih =>
  simp only [List.forIn_cons, eqElemsM, Sem.run_bind, Sem.run_ite]
  generalize (part e xs (i * n)).run P w = r1
  cases r1 with
  | ok a w1 =>
   simp only [Result.andThen_ok]
   generalize (part e ys (i * n)).run P w1 = r2
   cases r2 with
   | ok b w2 =>
    simp only [Result.andThen_ok]
    generalize (Op.equalIn d e a b).run P w2 = r3
    cases r3 with
    | ok r w3 =>
     cases r
     ·simp only [Result.andThen_ok, Bool.not_false, if_true, Sem.run_pure]
     ·simp only [Result.andThen_ok, Bool.not_true, Bool.false_eq_true, if_false, Sem.run_pure]
      exact ih (w := w3)
    | halt x w3 => simp [Result.andThen]
   | halt x w2 => simp [Result.andThen]
  | halt x w1 => simp [Result.andThen]
theorem eqT_ok : ∀ (d : Nat) (t : TypeId) (x y : AV) (r : Bool), eqT P d t x y = some r -> ∀ (xv yv : Value), VR C x xv -> VR C y yv -> ∀ k, (Op.equalIn (d + k) t xv yv).run P w = .ok r w := by
 intro d
 induction d with
 | zero => intro t x y r h; simp [eqT] at h
 | succ d ih =>
  intro t x y r h xv yv hx hy k
  rw [show d + 1 + k = (d + k) + 1 from by omega]
  unfold eqT at h
  split at h
  ·rename_i a b ht
   cases h
   rw [hx.bool_inv, hy.bool_inv]
   simp [Op.equalIn, run_und ht]
  ·rename_i k1 k2 a k3 b ht
   split at h
   ·rename_i e
    cases h
    subst e
    rw [hx.int_inv, hy.int_inv]
    simp [Op.equalIn, run_und ht]
   ·cases h
  ·rename_i a b ht
   cases h
   rw [hx.str_inv, hy.str_inv]
   simp [Op.equalIn, run_und ht, str_beq]
  ·rename_i fs xs ys ht
   split at h
   ·cases h
   ·rename_i hst
    obtain ⟨vx, rfl, rx, ox⟩ := hx.agg_inv
    obtain ⟨vy, rfl, ry, oy⟩ := hy.agg_inv
    have hf : P.fieldsOf t = fs := by simp [Program.fieldsOf, ht]
    rw [run_equalIn_struct w (d + k) t vx vy (by rw [hf]; exact ht) (by simpa using hst), hf]
    revert h
    generalize fs.toList = l
    clear hf ht
    induction l with
    | nil => intro h; simp [eqFields] at h; subst h; simp [Op.eqFields]
    | cons f l ihl =>
     intro h
     simp only [eqFields] at h
     simp only [Op.eqFields]
     by_cases hn : f.name = "_"
     ·simp only [hn, if_true] at h
      simp only [hn, ne_eq, not_true, if_false]
      exact ihl h
     ·simp only [hn, if_false] at h
      simp only [ne_eq, hn, not_false_eq_true, if_true]
      split at h
      ·rename_i p q hp hq
       obtain ⟨pv, e1, r1⟩ := run_part (w := w) rx ox hp
       obtain ⟨qv, e2, r2⟩ := run_part (w := w) ry oy hq
       split at h
       ·rename_i he
        simp only [Sem.run_bind, e1, e2, Result.andThen_ok, ih _ _ _ _ he _ _ r1 r2 k]
        simpa using ihl h
       ·rename_i he
        cases h
        simp only [Sem.run_bind, e1, e2, Result.andThen_ok, ih _ _ _ _ he _ _ r1 r2 k]
        simp
       ·cases h
      ·cases h
  ·rename_i n e xs ys ht
   split at h
   ·rename_i ag m hl
    obtain ⟨vx, rfl, rx, ox⟩ := hx.agg_inv
    obtain ⟨vy, rfl, ry, oy⟩ := hy.agg_inv
    obtain ⟨_, k2, _⟩ := run_lay (w := w) hl
    rw [run_equalIn_array (d + k) t e n m vx vy ht k2]
    revert h
    generalize List.range n = l
    clear ht
    induction l with
    | nil => intro h; simp [eqElems] at h; subst h; simp [eqElemsM]
    | cons i l ihl =>
     intro h
     simp only [eqElems] at h
     simp only [eqElemsM]
     split at h
     ·rename_i p q hp hq
      obtain ⟨pv, e1, r1⟩ := run_part (w := w) rx ox hp
      obtain ⟨qv, e2, r2⟩ := run_part (w := w) ry oy hq
      split at h
      ·rename_i he
       simp only [Sem.run_bind, e1, e2, Result.andThen_ok, ih _ _ _ _ he _ _ r1 r2 k]
       simpa using ihl h
      ·rename_i he
       cases h
       simp only [Sem.run_bind, e1, e2, Result.andThen_ok, ih _ _ _ _ he _ _ r1 r2 k]
       simp
      ·cases h
     ·cases h
   ·cases h
  ·cases h
theorem eq_ok {t : TypeId} {x y : AV} {r : Bool} (h : eqT P eqDepth t x y = some r) {xv yv : Value} (hx : VR C x xv) (hy : VR C y yv) : (Op.equal t xv yv).run P w = .ok r w :=
 eqT_ok eqDepth t x y r h xv yv hx hy 9992
end
end Go.AM
namespace Go.AM
open Go
variable [Keep]
section
variable {P : Program} {w : World} {C : Cfg} {lam : Nat -> Option Nat} {ms : List Nat} {F : Fr} {b : Frame} {a : Act} {cs : List Frame}
def Runs (P : Program) (w : World) (C : Cfg) (lam : Nat -> Option Nat) (F : Fr) (e : Sem Value) (v : AV) : Prop := ∃ u, e.run P w = .ok u w /\ SR C lam F.lm v u
theorem Runs.of {e : Sem Value} {v : AV} {u : Value} (h : e.run P w = .ok u w) (r : VR C v u) : Runs P w C lam F e v := ⟨u, h, SR.of r⟩
theorem whenB_some {c b r : Bool} (h : whenB c b = some r) : c = true /\ r = b := by
 unfold whenB at h
 split at h
 ·rename_i hc
  exact ⟨hc, by cases h; rfl⟩
 ·cases h
theorem isIfaceT_und {t : TypeId} (h : isIfaceT P t = true) : ∃ m, P.underlying t = some (.interface m) := by
 unfold isIfaceT at h; split at h <;> simp_all
theorem isFuncT_und {t : TypeId} (h : isFuncT P t = true) : ∃ x y z, P.underlying t = some (.func x y z) := by
 unfold isFuncT at h; split at h <;> simp_all
theorem isSliceT_und {t : TypeId} (h : isSliceT P t = true) : ∃ e, P.underlying t = some (.slice e) := by
 unfold isSliceT at h; split at h <;> simp_all
theorem binOp_equal_eql {t : TypeId} {x y : Value} (h : ∀ k n, x ≠ .int k n) (h2 : ∀ s, x ≠ .string s) (h3 : ∀ k n, x ≠ .float k n) (h4 : ∀ k n m, x ≠ .complex k n m) : binOp .eql t x y = (do pure (.bool (<- Op.equal t x y))) := by
 cases x <;> first | rfl | exact absurd rfl (h _ _) | exact absurd rfl (h2 _) | exact absurd rfl (h3 _ _) | exact absurd rfl (h4 _ _ _)
theorem binOp_equal_neq {t : TypeId} {x y : Value} (h : ∀ k n, x ≠ .int k n) (h2 : ∀ s, x ≠ .string s) (h3 : ∀ k n, x ≠ .float k n) (h4 : ∀ k n m, x ≠ .complex k n m) : binOp .neq t x y = (do pure (.bool (!(<- Op.equal t x y)))) := by
 cases x <;> first | rfl | exact absurd rfl (h _ _) | exact absurd rfl (h2 _) | exact absurd rfl (h3 _ _) | exact absurd rfl (h4 _ _ _)
theorem equalIn_nn (d : Nat) {t : TypeId} {m : Array (String × TypeId)} (h : P.underlying t = some (.interface m)) : (Op.equalIn (d + 1) t .nilIface .nilIface).run P w = .ok true w := by simp [Op.equalIn, run_und h]
theorem equalIn_ni (d : Nat) {t u : TypeId} {v : Value} {m : Array (String × TypeId)} (h : P.underlying t = some (.interface m)) : (Op.equalIn (d + 1) t .nilIface (.iface u v)).run P w = .ok false w := by simp [Op.equalIn, run_und h]
theorem equalIn_in (d : Nat) {t u : TypeId} {v : Value} {m : Array (String × TypeId)} (h : P.underlying t = some (.interface m)) : (Op.equalIn (d + 1) t (.iface u v) .nilIface).run P w = .ok false w := by simp [Op.equalIn, run_und h]
theorem equalIn_ff (d : Nat) {t : TypeId} {x y : Array TypeId} {z : Bool} (h : P.underlying t = some (.func x y z)) : (Op.equalIn (d + 1) t .nilFunc .nilFunc).run P w = .ok true w := by simp [Op.equalIn, run_und h]
theorem equalIn_fg (d : Nat) {t : TypeId} {x y : Array TypeId} {z : Bool} {f : Fn} {p q : Array Value} (h : P.underlying t = some (.func x y z)) : (Op.equalIn (d + 1) t .nilFunc (.func f p q)).run P w = .ok false w := by simp [Op.equalIn, run_und h]
theorem equalIn_gf (d : Nat) {t : TypeId} {x y : Array TypeId} {z : Bool} {f : Fn} {p q : Array Value} (h : P.underlying t = some (.func x y z)) : (Op.equalIn (d + 1) t (.func f p q) .nilFunc).run P w = .ok false w := by simp [Op.equalIn, run_und h]
theorem equalIn_ss (d : Nat) {t e : TypeId} {n c : Nat} {x : Option Addr} {m k : Nat} (h : P.underlying t = some (.slice e)) : (Op.equalIn (d + 1) t (.slice none n c) (.slice x m k)).run P w = .ok x.isNone w := by simp [Op.equalIn, run_und h]
theorem equalIn_st (d : Nat) {t e : TypeId} {n c : Nat} {x : Addr} {m k : Nat} (h : P.underlying t = some (.slice e)) : (Op.equalIn (d + 1) t (.slice (some x) n c) (.slice none m k)).run P w = .ok false w := by simp [Op.equalIn, run_und h]
theorem eqV_ok {t : TypeId} {x y : Operand} {p q : AV} {pv qv : Value} {r : Bool} (h : eqV P t (isConst x || isConst y) p q = some r) (hp : VR C p pv) (hq : VR C q qv) (op : BinOp) (hop : op = .eql \/ op = .neq) :
  (eqGuard op t x y pv qv).run P w = .ok () w /\ (Op.equal t pv qv).run P w = .ok r w /\ (∀ k n, pv ≠ .int k n) /\ (∀ s, pv ≠ .string s) /\ (∀ k n, pv ≠ .float k n) /\ (∀ k n m, pv ≠ .complex k n m) := by
 have guard : ∀ (u v : Value), (∀ c d, (u, v) ≠ (.agg c, .agg d)) -> (u, v) ≠ (.nilIface, .nilIface) -> (eqGuard op t x y u v).run P w = .ok () w := by
  intro u v h1 h2
  rcases hop with rfl | rfl <;> (simp only [eqGuard, Bool.not_true, Bool.false_eq_true, if_false]; split)
  ·exact absurd rfl h2
  ·exact absurd rfl (h1 _ _)
  ·rfl
  ·exact absurd rfl h2
  ·exact absurd rfl (h1 _ _)
  ·rfl
 unfold eqV at h
 split at h
 ·
  obtain ⟨hc, rfl⟩ := whenB_some h
  simp only [Bool.and_eq_true] at hc
  obtain ⟨m, hm⟩ := isIfaceT_und hc.2
  cases hp; cases hq
  refine ⟨?_, equalIn_nn 9999 hm, by simp⟩
  have hk := hc.1
  rcases hop with rfl | rfl <;> simp only [eqGuard, Bool.not_true, Bool.false_eq_true, if_false] <;> cases x <;> cases y <;> first | rfl | (simp [isConst] at hk)
 ·obtain ⟨hc, rfl⟩ := whenB_some h
  obtain ⟨m, hm⟩ := isIfaceT_und hc
  cases hp; cases hq
  exact ⟨guard _ _ (by simp) (by simp), equalIn_ni 9999 hm, by simp⟩
 ·obtain ⟨hc, rfl⟩ := whenB_some h
  obtain ⟨m, hm⟩ := isIfaceT_und hc
  cases hp; cases hq
  exact ⟨guard _ _ (by simp) (by simp), equalIn_in 9999 hm, by simp⟩
 ·obtain ⟨hc, rfl⟩ := whenB_some h
  obtain ⟨_, _, _, hm⟩ := isFuncT_und hc
  cases hp; cases hq
  exact ⟨guard _ _ (by simp) (by simp), equalIn_ff 9999 hm, by simp⟩
 ·obtain ⟨hc, rfl⟩ := whenB_some h
  obtain ⟨_, _, _, hm⟩ := isFuncT_und hc
  cases hp; cases hq
  exact ⟨guard _ _ (by simp) (by simp), equalIn_fg 9999 hm, by simp⟩
 ·obtain ⟨hc, rfl⟩ := whenB_some h
  obtain ⟨_, _, _, hm⟩ := isFuncT_und hc
  cases hp; cases hq
  exact ⟨guard _ _ (by simp) (by simp), equalIn_gf 9999 hm, by simp⟩
 iterate 7
  ·obtain ⟨hc, rfl⟩ := whenB_some h
   obtain ⟨m, hm⟩ := isSliceT_und hc
   cases hp <;> cases hq
   all_goals exact ⟨guard _ _ (by simp) (by simp), by first | exact equalIn_ss 9999 hm | exact equalIn_st 9999 hm, by simp⟩
 ·split at h
  ·cases h
  ·rename_i hg
   have e := eq_ok (w := w) h hp hq
   obtain ⟨vx, rfl, _⟩ := hp.agg_inv
   obtain ⟨vy, rfl, _⟩ := hq.agg_inv
   exact ⟨run_eqGuard_agg w op t x y vx vy (by simpa using hg), e, by simp⟩
 ·have e := eq_ok (w := w) h hp hq
  rw [hp.bool_inv, hq.bool_inv] at *
  exact ⟨guard _ _ (by simp) (by simp), e, by simp⟩
 ·cases h
theorem bitsV_ok {op : BinOp} {k : IntKind} {x y : Int} {v : AV} (h : bitsV op k x y = some v) : ∃ n, v = .int k n /\ (Op.intBits op k x y).run P w = .ok (.int k n) w := by
 unfold bitsV at h
 cases op <;> simp at h <;> subst h <;> exact ⟨_, rfl, by simp [Op.intBits]⟩
theorem St.binV (s : St C lam ms F b a w cs) {op : BinOp} {t yt : TypeId} {x y : Operand} {v : AV} (h : F.binV2 P op t x y = some v) :
  Runs P w C lam F (do eqGuard op t x y (a.eval x) (a.eval y); Go.binOp op t (a.eval x) (a.eval y)) v := by
 unfold Fr.binV2 at h
 split at h
 ·rename_i p q hp hq
  have rp := s.opv hp
  have rq := s.opv hq
  revert rp rq
  generalize a.eval x = xv
  generalize a.eval y = yv
  intro rp rq
  unfold Go.AM.binV at h
  split at h
  ·rename_i k1 n1 k2 n2
   rw [rp.int_inv, rq.int_inv]
   have hg : (eqGuard op t x y (.int k1 n1) (.int k2 n2)).run P w = .ok () w := by
    unfold eqGuard
    split <;> rfl
   split at h
   ·rename_i hk
    by_cases hsh : isShift op = true
    ·cases op <;> simp [isShift] at hsh
     all_goals
      simp only [intOp] at h
      split at h
      ·cases h
      ·rename_i hb
       cases h
       refine .of ?_ (.int _ _)
       simp [hg, Go.binOp, Op.shift, hb]
    ·have hk' : k1 = k2 := by simpa [hsh] using hk
     subst hk'
     unfold intOp at h
     cases op <;> simp only at h
     case shl => simp [isShift] at hsh
     case shr => simp [isShift] at hsh
     case quo =>
      split at h
      ·cases h
      ·rename_i hb; cases h; exact .of (by simp [hg, Go.binOp, Op.intDiv, hb]) (.int _ _)
     case rem =>
      split at h
      ·cases h
      ·rename_i hb; cases h; exact .of (by simp [hg, Go.binOp, Op.intDiv, hb]) (.int _ _)
     case and => obtain ⟨n, rfl, e⟩ := bitsV_ok (P := P) (w := w) h; exact .of (by simp [hg, Go.binOp, e]) (.int _ _)
     case or => obtain ⟨n, rfl, e⟩ := bitsV_ok (P := P) (w := w) h; exact .of (by simp [hg, Go.binOp, e]) (.int _ _)
     case xor => obtain ⟨n, rfl, e⟩ := bitsV_ok (P := P) (w := w) h; exact .of (by simp [hg, Go.binOp, e]) (.int _ _)
     case andNot => obtain ⟨n, rfl, e⟩ := bitsV_ok (P := P) (w := w) h; exact .of (by simp [hg, Go.binOp, e]) (.int _ _)
     all_goals
      cases h
      first
       | exact .of (by simp [hg, Go.binOp, Op.intArith]) (.int _ _)
       | exact .of (by simp [hg, Go.binOp, Op.intCmp]) (.bool _)
   ·cases h
  ·rename_i s1 s2
   rw [rp.str_inv, rq.str_inv]
   have hg : (eqGuard op t x y (.string ⟨⟨s1⟩⟩) (.string ⟨⟨s2⟩⟩)).run P w = .ok () w := by
    unfold eqGuard
    split <;> rfl
   unfold strOp at h
   cases op <;> simp only at h
   case add =>
    split at h
    ·rename_i hl
     cases h
     refine .of (u := .string ⟨⟨s1 ++ s2⟩⟩) ?_ (.str _)
     have hcat : ((⟨⟨s1⟩⟩ : ByteArray) ++ ⟨⟨s2⟩⟩) = ⟨⟨s1 ++ s2⟩⟩ := by
      apply ByteArray.ext
      simp
     simp [hg, Go.binOp, Op.stringOp, hcat, ByteArray.size]
     omega
    ·cases h
   all_goals first
    | (cases h; done)
    | (cases h; exact .of (by simp [hg, Go.binOp, Op.stringOp, str_toList]) (.bool _))
  ·unfold eqOp at h
   split at h
   ·split at h
    ·rename_i r hr
     cases h
     obtain ⟨h1, h2, h3, h4, h5, h6⟩ := eqV_ok (w := w) hr rp rq .eql (.inl rfl)
     exact .of (by simp [h1, binOp_equal_eql h3 h4 h5 h6, h2]) (.bool _)
    ·cases h
   ·split at h
    ·rename_i r hr
     cases h
     obtain ⟨h1, h2, h3, h4, h5, h6⟩ := eqV_ok (w := w) hr rp rq .neq (.inr rfl)
     exact .of (by simp [h1, binOp_equal_neq h3 h4 h5 h6, h2]) (.bool _)
    ·cases h
   ·cases h
 ·cases h
theorem St.unV (s : St C lam ms F b a w cs) {op : UnOp} {x : Operand} {v : AV} (h : F.unV1 op x = some v) : Runs P w C lam F (Op.unary op (a.eval x)) v := by
 unfold Fr.unV1 at h
 split at h
 ·rename_i p hp
  have rp := s.opv hp
  unfold Go.AM.unV at h
  split at h
  ·cases h
   rw [rp.int_inv]
   exact .of (by simp [Op.unary, Op.intArith]) (.int _ _)
  ·rw [rp.int_inv]
   obtain ⟨n, rfl, e⟩ := bitsV_ok (P := P) (w := w) h
   exact .of (by simp [Op.unary, e]) (.int _ _)
  ·cases h
   rw [rp.bool_inv]
   exact .of (by simp [Op.unary]) (.bool _)
  ·cases h
 ·cases h
theorem St.convV (s : St C lam ms F b a w cs) {t u : TypeId} {x : Operand} {v : AV} (h : F.convV1 P t u x = some v) : Runs P w C lam F (convert t u (a.eval x)) v := by
 unfold Fr.convV1 at h
 split at h
 ·rename_i p hp
  have rp := s.opv hp
  unfold Go.AM.convV at h
  split at h
  ·rename_i k1 k2 k3 n h1 h2
   cases h
   rw [rp.int_inv]
   exact .of (by simp [convert, run_und h1, run_und h2, Conv.intToInt]) (.int _ _)
  ·rename_i s1 h1 h2
   cases h
   rw [rp.str_inv]
   exact .of (by simp [convert, run_und h1, run_und h2]) (.str _)
  ·cases h
 ·cases h
theorem St.ifaceV (s : St C lam ms F b a w cs) {t : TypeId} {x : Operand} {v : AV} (h : F.ifaceV P t x = some v) : Runs P w C lam F (Instr.makeInterface t (a.eval x)) v := by
 unfold Fr.ifaceV at h
 split at h
 ·cases h
 ·rename_i d p hn hd hp
  cases h
  refine .of ?_ (.iface (s.opv hp))
  simp only [Instr.makeInterface, Sem.run_bind, run_und hd, Result.andThen_ok]
  try cases d <;> first | rfl | (exfalso; exact hn _ _ rfl)
 ·cases h
theorem opvs_arr (s : St C lam ms F b a w cs) {l : Array Operand} {vs : List AV} (h : F.opvs l.toList = some vs) : VRs C vs (l.map a.eval) := by
 have := s.opvs _ _ h
 simpa using this
theorem St.funcV (s : St C lam ms F b a w cs) {fn : Fn} {x y : Array Operand} {v : AV} (h : F.funcV fn x.toList y.toList = some v) : Runs P w C lam F (Instr.makeFunc fn (x.map a.eval) (y.map a.eval)) v := by
 unfold Fr.funcV at h
 split at h
 ·rename_i f p q hp hq
  cases h
  have r1 := opvs_arr s hp
  have r2 := opvs_arr s hq
  exact .of rfl (.func r1.1 r1.2 r2.1 r2.2)
 ·cases h
theorem St.pickV (s : St C lam ms F b a w cs) {c x y : Operand} {v : AV} (h : F.pickV c x y = some v) : Runs P w C lam F (do pure (if <- asBool (a.eval c) then a.eval x else a.eval y)) v := by
 unfold Fr.pickV at h
 split at h
 ·rename_i p q h1 h2 h3
  cases h
  rw [(s.opv h1).bool_inv]
  exact .of (by simp [asBool]) (s.opv h2)
 ·rename_i p q h1 h2 h3
  cases h
  rw [(s.opv h1).bool_inv]
  exact .of (by simp [asBool]) (s.opv h3)
 ·cases h
theorem St.loadV (s : St C lam ms F b a w cs) {t : TypeId} {x : Operand} {v : AV} (h : F.loadV P t x = some v) : Runs P w C lam F (Instr.loadAt t (a.eval x)) v := by
 unfold Fr.loadV at h
 split at h
 ·rename_i p hp
  split at h
  ·rename_i cells off hm
   obtain ⟨B, O, e, hr⟩ := s.mem (s.opd hp) hm
   obtain ⟨u, h1, h2⟩ := run_loadVar (P := P) (w := w) (C := C) (B := B) (O := O) hr h
   rw [e]
   exact .of (by simp [Instr.loadAt, Instr.sureAddr, h1]) h2
  ·cases h
 ·cases h
theorem addr_add (B O n : Nat) : (⟨B, O, none⟩ : Addr).add n = ⟨B, O + n, none⟩ := by
 unfold Addr.add
 split <;> simp_all
theorem ptrAdd_ok {p q : AV} {n : Nat} {pv : Value} (hp : SR C lam F.lm p pv) (h : ptrAdd p n = some q) :
  ∃ B O, pv = .pointer (some ⟨B, O, none⟩) /\ SR C lam F.lm q (.pointer (some ⟨B, O + n, none⟩)) := by
 cases p with
 | lptr t g o =>
  simp [ptrAdd] at h
  subst h
  obtain ⟨g', cells, β, h1, h2, h3, h4⟩ := hp
  exact ⟨β, o, h3, g', cells, β, h1, h2, rfl, h4⟩
 | ptr id o =>
  simp [ptrAdd] at h
  subst h
  cases hp with
  | ptr e => exact ⟨_, _, rfl, by rw [Nat.add_assoc]; exact VR.ptr e⟩
 | eptr id sz i j =>
  simp [ptrAdd] at h
  subst h
  cases hp with
  | eptr e => exact ⟨_, _, rfl, by rw [Nat.add_assoc]; exact VR.eptr e⟩
 | vptr cells =>
  simp [ptrAdd] at h
  obtain ⟨hle, rfl⟩ := h
  cases hp with
  | vptr vs k1 k2 k3 =>
   refine ⟨_, _, rfl, VR.vptr (fun k => vs (n + k)) (fun k hk => ?_) (fun k hk => ?_) fun c hc => k3 c (List.mem_of_mem_drop hc)⟩
   ·simp at hk
    have := k1 (n + k) (by omega)
    rwa [<- Nat.add_assoc] at this
   ·simp at hk
    have := k2 (n + k) (by omega)
    simpa [List.getD, List.getElem?_drop] using this
 | _ => simp [ptrAdd] at h
end
end Go.AM
namespace Go.AM
open Go
variable [Keep]
section
variable {P : Program} {w : World} {C : Cfg} {lam : Nat -> Option Nat} {ms : List Nat} {F : Fr} {b : Frame} {a : Act} {cs : List Frame}
theorem fieldOf_ok {t ft : TypeId} {f off : Nat} (h : fieldOf P t f = some (ft, off)) : ∃ fs fd, P.underlying t = some (.struct fs) /\ fs[f]? = some fd /\ fd.type = ft /\ fd.offset = off := by
 unfold fieldOf at h
 split at h
 ·rename_i fs hu
  split at h
  ·rename_i fd hf
   cases h
   exact ⟨fs, fd, hu, hf, rfl, rfl⟩
  ·cases h
 ·cases h
theorem szT_ok {t : TypeId} (h : szT P t ≠ 0) : (sizeOf t).run P w = .ok (szT P t) w := by
 unfold szT at h ⊢
 split at h
 ·rename_i i hi
  simp [sizeOf, run_info hi, hi]
 ·exact absurd rfl h
theorem St.fieldAddrV (s : St C lam ms F b a w cs) {t : TypeId} {x : Operand} {f : Nat} {v : AV} (h : F.fieldAddrV P t x f = some v) : Runs P w C lam F (Instr.fieldAt t (a.eval x) f) v := by
 unfold Fr.fieldAddrV at h
 split at h
 ·rename_i p ft off hp hf
  split at h
  ·cases h
  ·rename_i hz
   obtain ⟨fs, fd, h1, h2, rfl, rfl⟩ := fieldOf_ok hf
   obtain ⟨B, O, e, r⟩ := ptrAdd_ok (s.opd hp) h
   rw [e]
   refine ⟨_, ?_, r⟩
   simp only [Instr.fieldAt, Sem.run_bind, run_und h1, Result.andThen_ok, h2, Instr.sureAddr, Sem.run_pure, fieldPlace, szT_ok hz]
   rw [if_neg hz]
   simp [addr_add]
 ·cases h
theorem St.fieldV (s : St C lam ms F b a w cs) {t : TypeId} {x : Operand} {f : Nat} {v : AV} (h : F.fieldV P t x f = some v) : Runs P w C lam F (Instr.field t (a.eval x) f) v := by
 unfold Fr.fieldV at h
 split at h
 ·rename_i l ft off hp hf
  obtain ⟨fs, fd, h1, h2, rfl, rfl⟩ := fieldOf_ok hf
  obtain ⟨vs, e, r, o⟩ := (s.opv hp).agg_inv
  obtain ⟨u, k1, k2⟩ := run_part (P := P) (w := w) r o h
  rw [e]
  exact .of (by simp [Instr.field, run_und h1, h2, asAgg, k1]) k2
 ·cases h
theorem idxV_ok {x : AV} {n k : Nat} {v : Value} (h : idxV x n = some k) (r : VR C x v) : ∃ kd i, v = .int kd i /\ 0 <= i /\ i < (n : Int) /\ i.toNat = k := by
 unfold idxV at h
 split at h
 ·rename_i kd i
  split at h
  ·rename_i hi
   cases h
   exact ⟨kd, i, r.int_inv, hi.1, hi.2, rfl⟩
  ·cases h
 ·cases h
theorem St.indexAddrV (s : St C lam ms F b a w cs) {t : TypeId} {x i : Operand} {v : AV} (h : F.indexAddrV1 P t x i = some v) : Runs P w C lam F (Instr.indexAt t (a.eval x) (a.eval i)) v := by
 unfold Fr.indexAddrV1 at h
 split at h
 ·rename_i p q hp hq
  have rp := s.opd hp
  have rq := s.opv hq
  revert rp rq
  generalize a.eval x = xv
  generalize a.eval i = iv
  intro rp rq
  unfold Go.AM.indexAddrV at h
  split at h
  ·rename_i n e hu
   split at h
   ·rename_i k ag m hk hl
    obtain ⟨kd, j, rfl, h0, h1, rfl⟩ := idxV_ok hk rq
    obtain ⟨B, O, rfl, r⟩ := ptrAdd_ok rp h
    obtain ⟨_, k2, _⟩ := run_lay (w := w) hl
    refine ⟨_, ?_, r⟩
    simp [Instr.indexAt, asIntOf, run_und hu, Instr.sureAddr, h0, h1, k2, addr_add]
   ·cases h
  ·rename_i e hu
   split at h
   ·rename_i ag m hl
    obtain ⟨_, k2, _⟩ := run_lay (w := w) hl
    split at h
    ·rename_i l
     split at h
     ·rename_i k hk
      obtain ⟨kd, j, rfl, h0, h1, rfl⟩ := idxV_ok hk rq
      split at h
      ·rename_i el hel
       split at h
       ·rename_i hm
        cases h
        have hlt : j.toNat < l.length := by omega
        cases rp with
        | vslice0 a0 cap => simp at hlt
        | @vslice _ sz B O cap vs g1 g2 g3 g4 g5 =>
         have hel' : l.getD j.toNat .junk = el := by simp [List.getD, hel]
         have hmem := List.mem_of_getElem? hel
         have hsz : el.cells.length = sz := g2 el hmem
         subst hm
         refine ⟨.pointer (some ⟨B, O + j.toNat * sz, none⟩), ?_, ?_⟩
         ·have h1' : j < (l.length : Int) := h1
          simp [Instr.indexAt, asIntOf, run_und hu, h0, h1', k2, addr_add, hsz]
         ·exact VR.vptr (fun k => vs j.toNat k) (fun k hk => g3 _ _ hlt (by omega)) (fun k hk => by have := g4 j.toNat k hlt (by omega); rwa [hel'] at this) (g5 el hmem)
       ·cases h
      ·cases h
     ·cases h
    ·rename_i id off len
     split at h
     ·rename_i k sz el hk hg
      obtain ⟨kd, j, rfl, h0, h1, rfl⟩ := idxV_ok hk rq
      split at h
      ·rename_i hm
       cases h
       subst hm
       cases rp with
       | @row _ _ _ cap L a0 e1 e2 e3 e4 =>
        obtain ⟨L', f1, c, f2, f3, f4, f5, f6⟩ := s.wr.blk id _ hg
        rw [e1] at f1
        cases f1
        have hc : cap ≠ 0 := by omega
        rcases e3 with e3 | e3
        ·exact absurd e3 hc
        ·subst e3
         refine ⟨.pointer (some ⟨L.b, L.o + off * L.sz + j.toNat * sz, none⟩), ?_, ?_⟩
         ·simp [Instr.indexAt, asIntOf, run_und hu, h0, h1, k2, addr_add]
         ·have := VR.eptr (C := C) (sz := sz) (i := off + j.toNat) (j := 0) e1
          rw [Nat.add_mul, Nat.add_zero, <- Nat.add_assoc] at this
          rw [f3]
          exact this
      ·cases h
     ·cases h
    ·cases h
   ·cases h
  ·cases h
 ·cases h
theorem St.indexV (s : St C lam ms F b a w cs) {t : TypeId} {x i : Operand} {v : AV} (h : F.indexV1 P t x i = some v) : Runs P w C lam F (Instr.index t (a.eval x) (a.eval i)) v := by
 unfold Fr.indexV1 at h
 split at h
 ·rename_i p q hp hq
  have rp := s.opv hp
  have rq := s.opv hq
  revert rp rq
  generalize a.eval x = xv
  generalize a.eval i = iv
  intro rp rq
  unfold Go.AM.indexV at h
  split at h
  ·rename_i n e l hu
   split at h
   ·rename_i k hk
    obtain ⟨kd, j, rfl, h0, h1, rfl⟩ := idxV_ok hk rq
    split at h
    ·rename_i ag m hl
     obtain ⟨_, k2, _⟩ := run_lay (w := w) hl
     obtain ⟨vs, rfl, r, o⟩ := rp.agg_inv
     obtain ⟨u, u1, u2⟩ := run_part (P := P) (w := w) (t := e) (off := j.toNat * m) r o (by unfold readT; rw [hl]; exact h)
     exact .of (by simp [Instr.index, asIntOf, run_und hu, h0, h1, k2, u1]) u2
    ·cases h
   ·cases h
  ·rename_i st hu
   split at h
   ·rename_i k hk
    obtain ⟨kd, j, rfl, h0, h1, rfl⟩ := idxV_ok hk rq
    split at h
    ·rename_i c hc
     cases h
     rw [rp.str_inv]
     have hlt : j.toNat < st.length := by omega
     have hb : (⟨⟨st⟩⟩ : ByteArray)[j.toNat]? = some c := by
      rw [ByteArray.getElem?_lt' _ _ (by simpa [ByteArray.size] using hlt)]
      congr 1
      have := List.getElem?_eq_getElem hlt
      rw [hc] at this
      cases this
      rfl
     exact .of (by simp [Instr.index, asIntOf, run_und hu, h0, hb]) (.int _ _)
    ·cases h
   ·cases h
  ·cases h
 ·cases h
theorem St.extractV (s : St C lam ms F b a w cs) {x : Operand} {i : Nat} {v : AV} (h : F.extractV x i = some v) : Runs P w C lam F (Instr.extract (a.eval x) i) v := by
 unfold Fr.extractV at h
 split at h
 ·rename_i l hp
  have rp := s.opv hp
  revert rp
  generalize a.eval x = xv
  intro rp
  cases rp with
  | tuple h1 h2 =>
   obtain ⟨u, hu, r⟩ := VRs.get ⟨h1, h2⟩ h
   exact .of (by simp [Instr.extract, hu]) r
 ·cases h
theorem tupleR {x y : AV} {u v : Value} (h : VR C x u) (k : VR C y v) : VR C (.tuple [x, y]) (.tuple #[u, v]) := by
 have := VRs.cons h (VRs.cons k (VRs.nil C))
 exact .tuple (by simp) (fun i hi => by simpa using this.2 i hi)
theorem St.assertV (s : St C lam ms F b a w cs) {x : Operand} {xt t : TypeId} {ok : Bool} {v : AV} (h : F.assertV1 P x t ok = some v) : Runs P w C lam F (Instr.typeAssert (a.eval x) xt t ok) v := by
 unfold Fr.assertV1 at h
 split at h
 ·rename_i p hp
  have rp := s.opv hp
  revert rp
  generalize a.eval x = xv
  intro rp
  unfold Go.AM.assertV at h
  split at h
  ·cases h
  ·cases h
  ·rename_i hni hnn
   obtain ⟨d, hd⟩ : ∃ d, P.underlying t = some d := by
    cases hu : P.underlying t with
    | none => exact absurd hu hnn
    | some d => exact ⟨d, rfl⟩
   have hdi : ∀ m, d ≠ .interface m := fun m e => hni m (by rw [hd, e])
   split at h
   ·rename_i u p
    cases rp with
    | iface rv =>
     split at h
     ·rename_i hut
      cases h
      subst hut
      cases ok with
      | true => exact .of (by cases d <;> first | (exact absurd rfl (hdi _)) | simp [Instr.typeAssert, run_und hd]) (tupleR rv (.bool true))
      | false => exact .of (by cases d <;> first | (exact absurd rfl (hdi _)) | simp [Instr.typeAssert, run_und hd]) rv
     ·rename_i hut
      split at h
      ·rename_i hok
       split at h
       ·rename_i z hz
        cases h
        obtain ⟨zv, z1, z2, _⟩ := run_zero (P := P) (w := w) (C := C) hz
        subst hok
        exact .of (by cases d <;> first | (exact absurd rfl (hdi _)) | simp [Instr.typeAssert, run_und hd, hut, z1]) (tupleR z2 (.bool false))
       ·cases h
      ·cases h
   ·cases rp
    split at h
    ·rename_i hok
     split at h
     ·rename_i z hz
      cases h
      obtain ⟨zv, z1, z2, _⟩ := run_zero (P := P) (w := w) (C := C) hz
      subst hok
      exact .of (by cases d <;> first | (exact absurd rfl (hdi _)) | simp [Instr.typeAssert, run_und hd, z1]) (tupleR z2 (.bool false))
     ·cases h
    ·cases h
   ·cases h
 ·cases h
end
end Go.AM
namespace Go.AM
open Go
variable [Keep]
section
variable {P : Program} {w : World} {C : Cfg} {lam : Nat -> Option Nat} {ms : List Nat} {F : Fr} {b : Frame} {a : Act} {cs : List Frame}
theorem bound_ok (s : St C lam ms F b a w cs) {o : Operand} {dflt n k : Nat} {code : BoundsCode} (h : boundV (some (F.opv o)) dflt n = some k) : (Instr.sliceBound (a.eval o) n code).run P w = .ok k w /\ k <= n := by
 unfold boundV at h
 split at h
 ·rename_i e; cases e
 ·rename_i kd i e
  split at h
  ·rename_i hi
   cases h
   have e' : F.opv o = some (.int kd i) := by simpa using e
   rw [(s.opv e').int_inv]
   exact ⟨by simp [Instr.sliceBound, asIntOf, hi], by omega⟩
  ·cases h
 ·cases h
theorem bounds_ok (s : St C lam ms F b a w cs) {lo hi mx : Option Operand} {n cap l h : Nat} {top isS : Bool} (hc : n <= cap) (hs : mx = none -> hi = none -> True) (hb : boundsV n (lo.map F.opv) (hi.map F.opv) (mx.map F.opv) = some (l, h, top)) :
  ∃ m, (Instr.sliceBounds isS n cap (lo.map a.eval) (hi.map a.eval) (mx.map a.eval)).run P w = .ok (l, h, m) w /\ l <= h /\ h <= n /\ h <= m /\ m <= cap /\ (top = true -> m = l) /\ (top = false -> mx ≠ none -> m ≠ l) := by
 unfold boundsV at hb
 have low : ∀ (h' : Nat) (code : BoundsCode), boundV (lo.map F.opv) 0 h' = some l -> (match (lo.map a.eval : Option Value) with | some v => Instr.sliceBound v h' code | none => pure 0).run P w = .ok l w /\ l <= h' := by
  intro h' code e
  cases lo with
  | none => simp [boundV] at e; subst e; exact ⟨rfl, Nat.zero_le _⟩
  | some o => simpa using bound_ok s e
 cases mx with
 | none =>
  simp only [Option.map_none] at hb
  cases hh : boundV (hi.map F.opv) n n with
  | none => simp [hh] at hb
  | some h' =>
   simp only [hh] at hb
   cases hl : boundV (lo.map F.opv) 0 h' with
   | none => simp [hl] at hb
   | some l' =>
    simp only [hl] at hb
    cases hb
    obtain ⟨l1, l2⟩ := low h (if false then BoundsCode.slice3C else .sliceB) hl
    cases hi with
    | none =>
     simp [boundV] at hh
     subst hh
     refine ⟨cap, ?_, l2, Nat.le_refl _, hc, Nat.le_refl _, by simp, by simp⟩
     simp only [Instr.sliceBounds, Option.map_none, Sem.run_bind, Sem.run_pure, Result.andThen_ok, Option.isSome_none, Bool.false_eq_true, if_false]
     simp only [Bool.false_eq_true, if_false] at l1
     cases lo with
     | none => simpa using l1
     | some lo => simp only [Option.map_some] at l1 ⊢; simp [l1]
    | some o =>
     have hh' : boundV (some (F.opv o)) n cap = some h := by
      unfold boundV at hh ⊢
      simp only [Option.map_some] at hh
      split at hh <;> simp_all
      omega
     obtain ⟨h1, _⟩ := bound_ok (P := P) s (code := if isS then .sliceAcap else .sliceAlen) hh'
     obtain ⟨_, h2⟩ := bound_ok (P := P) s (code := .sliceB) hh
     refine ⟨cap, ?_, l2, h2, Nat.le_trans h2 hc, Nat.le_refl _, by simp, by simp⟩
     simp only [Instr.sliceBounds, Option.map_none, Option.map_some, Sem.run_bind, Sem.run_pure, Result.andThen_ok, h1, Option.isSome_none, Bool.false_eq_true, if_false]
     simp only [Bool.false_eq_true, if_false] at l1
     cases lo with
     | none => simpa using l1
     | some lo => simp only [Option.map_some] at l1 ⊢; simp [l1]
 | some mo =>
  simp only [Option.map_some] at hb
  cases hm : boundV (some (F.opv mo)) 0 n with
  | none => simp [hm] at hb
  | some m =>
   simp only [hm] at hb
   cases hi with
   | none => simp at hb
   | some o =>
    simp only [Option.map_some] at hb
    cases hh : boundV (some (F.opv o)) 0 m with
    | none => simp [hh] at hb
    | some h' =>
     simp only [hh] at hb
     cases hl : boundV (lo.map F.opv) 0 h' with
     | none => simp [hl] at hb
     | some l' =>
      simp only [hl] at hb
      cases hb
      have hm' : boundV (some (F.opv mo)) 0 cap = some m := by
       unfold boundV at hm ⊢
       split at hm <;> simp_all
       omega
      obtain ⟨m1, _⟩ := bound_ok (P := P) s (code := if isS then .slice3Acap else .slice3Alen) hm'
      obtain ⟨_, m2⟩ := bound_ok (P := P) s (code := .slice3C) hm
      obtain ⟨h1, h2⟩ := bound_ok (P := P) s (code := .slice3B) hh
      obtain ⟨l1, l2⟩ := low h .slice3C hl
      refine ⟨m, ?_, l2, Nat.le_trans h2 m2, h2, Nat.le_trans m2 hc, fun e => (of_decide_eq_true e).symm, fun e _ e2 => (of_decide_eq_false e) e2.symm⟩
      simp only [Instr.sliceBounds, Option.map_some, Sem.run_bind, Sem.run_pure, Result.andThen_ok, m1, h1, Option.isSome_some, if_true]
      cases lo with
      | none => simpa using l1
      | some lo => simp only [Option.map_some] at l1 ⊢; simp [l1]
theorem lenS_ok {x : AV} {n : Nat} {v : Value} (h : lenS x = some n) (r : VR C x v) : ∃ p cap, v = .slice p n cap /\ n <= cap := by
 cases r <;> simp [lenS] at h <;> subst h
 ·exact ⟨_, _, rfl, Nat.le_refl _⟩
 ·exact ⟨_, _, rfl, ‹_›⟩
 ·exact ⟨_, _, rfl, Nat.zero_le _⟩
 ·exact ⟨_, _, rfl, Nat.le_refl _⟩
 ·exact ⟨_, _, rfl, ‹_›⟩
theorem bytes_extract (s : List UInt8) (l h : Nat) : (⟨⟨s⟩⟩ : ByteArray).extract l h = ⟨⟨(s.take h).drop l⟩⟩ := by
 apply ByteArray.ext
 apply Array.toList_inj.1
 simp [List.drop_take]
theorem headOk_ok {m sz : Nat} {l : List AV} (h : headOk m l = true) (hz : ∀ e ∈ l, e.cells.length = sz) (hne : l ≠ []) : sz = m := by
 cases l with
 | nil => exact absurd rfl hne
 | cons v r => simp [headOk] at h; rw [<- hz v (by simp)]; exact h
theorem sliceAt_str {t : TypeId} {x : Value} {lo hi mx : Option Value} (h : P.underlying t = some .string) : (Instr.sliceAt t x lo hi mx).run P w = (Instr.slice t x lo hi mx).run P w := by simp [Instr.sliceAt, run_und h]
theorem sliceAt_slice {t e : TypeId} {x : Value} {lo hi mx : Option Value} (h : P.underlying t = some (.slice e)) : (Instr.sliceAt t x lo hi mx).run P w = (Instr.slice t x lo hi mx).run P w := by simp [Instr.sliceAt, run_und h]
theorem St.sliceV (s : St C lam ms F b a w cs) {t : TypeId} {x : Operand} {lo hi mx : Option Operand} {v : AV} (hx : F.sliceV1 P t x lo hi mx = some v) :
  Runs P w C lam F (Instr.sliceAt t (a.eval x) (lo.map a.eval) (hi.map a.eval) (mx.map a.eval)) v := by
 unfold Fr.sliceV1 at hx
 split at hx
 ·rename_i p hp
  have rp := s.opv hp
  revert rp
  generalize a.eval x = xv
  intro rp
  unfold Go.AM.sliceV at hx
  split at hx
  ·rename_i hu
   split at hx
   ·rename_i st hmx
    have hmn : mx = none := by cases mx <;> simp_all
    subst hmn
    unfold strCut at hx
    split at hx
    ·rename_i l h top hb
     cases hx
     obtain ⟨m, h1, _⟩ := bounds_ok (P := P) (isS := false) s (Nat.le_refl _) (fun _ _ => trivial) (mx := none) hb
     rw [rp.str_inv]
     refine .of (u := .string ⟨⟨(st.take h).drop l⟩⟩) ?_ (.str _)
     rw [sliceAt_str hu]
     simp only [Option.map_none] at h1
     have hsz : (⟨⟨st⟩⟩ : ByteArray).size = st.length := rfl
     simp only [Instr.slice, Sem.run_bind, run_und hu, Result.andThen_ok, Option.map_none, Option.isSome_none, Bool.false_eq_true, if_false, hsz, h1, Sem.run_pure, bytes_extract]
    ·cases hx
   ·cases hx
  ·rename_i e hu
   split at hx
   ·rename_i ag m n hl hn
    obtain ⟨_, k2, _⟩ := run_lay (w := w) hl
    split at hx
    ·rename_i l h top hb
     obtain ⟨pa, cap, rfl, hcap⟩ := lenS_ok hn rp
     obtain ⟨mm, h1, h2, h3, h4, h5, h6, h7⟩ := bounds_ok (P := P) (isS := true) s hcap (fun _ _ => trivial) hb
     have hrun : (Instr.sliceAt t (.slice pa n cap) (lo.map a.eval) (hi.map a.eval) (mx.map a.eval)).run P w = .ok (.slice (if mm = l then pa else pa.map (·.add (l * m))) (h - l) (mm - l)) w := by
      rw [sliceAt_slice hu]
      simp only [Instr.slice, Sem.run_bind, run_und hu, Result.andThen_ok, h1, k2, Sem.run_pure]
     refine ⟨_, hrun, ?_⟩
     unfold cutV at hx
     split at hx
     ·cases hx
      cases rp
      have : l = 0 /\ h = 0 /\ mm = 0 := by omega
      obtain ⟨rfl, rfl, rfl⟩ := this
      exact SR.of .nilslice
     ·cases hx
      cases rp
      have : l = 0 /\ h = 0 /\ mm = 0 := by omega
      obtain ⟨rfl, rfl, rfl⟩ := this
      exact SR.of (.vempty _)
     ·rename_i es
      cases top with
      | true =>
       simp only [if_true] at hx
       cases hx
       have := h6 rfl
       subst this
       have hh : h = mm := by omega
       subst hh
       simp only [if_true, Nat.sub_self]
       cases rp <;> exact SR.of (.vempty _)
      | false =>
       simp only [Bool.false_eq_true, if_false] at hx
       split at hx
       ·rename_i hk
        cases hx
        have hlen : ((es.take h).drop l).length = h - l := by
         have : n = es.length := by simpa [lenS] using hn.symm
         simp; omega
        cases rp with
        | vslice0 a0 _ =>
         simp at hlen
         have e0 : h - l = 0 := by omega
         rw [e0]
         refine SR.of ?_
         simp only [List.take_nil, List.drop_nil]
         split <;> exact .vslice0 _ _
        | @vslice _ sz B O _ vs g1 g2 g3 g4 g5 =>
         by_cases hemp : h = l
         ·have e0 : (es.take h).drop l = [] := by
           apply List.eq_nil_of_length_eq_zero
           rw [hlen]; omega
          rw [e0, show h - l = 0 from by omega]
          refine SR.of ?_
          split <;> exact .vslice0 _ _
         ·have hne : es ≠ [] := by
           intro e0
           subst e0
           simp at h3
           omega
          have hszm : sz = m := headOk_ok hk g2 hne
          subst hszm
          rw [if_neg (by omega), <- hlen]
          simp only [Option.map_some, addr_add]
          refine SR.of (.vslice (fun i j => vs (l + i) j) (by omega) (fun e he => g2 e (List.mem_of_mem_take (List.mem_of_mem_drop he))) (fun i j hi hj => ?_) (fun i j hi hj => ?_) (fun e he => g5 e (List.mem_of_mem_take (List.mem_of_mem_drop he))))
          ·have := g3 (l + i) j (by omega) hj
           rwa [Nat.add_mul, <- Nat.add_assoc] at this
          ·have := g4 (l + i) j (by omega) hj
           have e1 : ((es.take h).drop l).getD i .junk = es.getD (l + i) .junk := by
            have : l + i < h := by omega
            simp [List.getD, List.getElem?_drop, List.getElem?_take, this]
           rw [e1]
           exact this
       ·cases hx
     ·rename_i id off len
      cases top with
      | true =>
       simp only [if_true] at hx
       cases hx
       have := h6 rfl
       subst this
       have hh : h = mm := by omega
       subst hh
       simp only [if_true, Nat.sub_self]
       cases rp
       exact SR.of (.vempty _)
      | false =>
       simp only [Bool.false_eq_true, if_false] at hx
       split at hx
       ·rename_i sz el hg
        split at hx
        ·rename_i hm
         cases hx
         subst hm
         cases rp with
         | @row _ _ _ _ L a0 e1 e2 e3 e4 =>
          obtain ⟨L', f1, c, f2, f3, _⟩ := s.wr.blk id _ hg
          rw [e1] at f1
          cases f1
          by_cases hml : mm = l
          ·rw [if_pos hml]
           subst hml
           refine SR.of (VR.row (L := L) a0 e1 (by omega) (.inl (by omega)) ?_)
           have : (off + mm + (mm - mm)) * L.sz <= (off + cap) * L.sz := Nat.mul_le_mul_right _ (by omega)
           omega
          ·rw [if_neg hml]
           have hc0 : cap ≠ 0 := by omega
           rcases e3 with e3 | e3
           ·exact absurd e3 hc0
           ·subst e3
            simp only [Option.map_some, addr_add]
            refine SR.of (VR.row (L := L) _ e1 (by omega) (.inr ?_) ?_)
            ·rw [<- f3, Nat.add_mul, <- Nat.add_assoc]
            ·have : (off + l + (mm - l)) * L.sz <= (off + cap) * L.sz := Nat.mul_le_mul_right _ (by omega)
             omega
        ·cases hx
       ·cases hx
     ·cases hx
    ·cases hx
   ·cases hx
  ·cases hx
 ·cases hx
end
end Go.AM
namespace Go.AM
open Go
variable [Keep]
section
variable {P : Program} {w : World} {C : Cfg} {lam : Nat -> Option Nat} {ms : List Nat} {F : Fr} {b : Frame} {a : Act} {cs : List Frame}
def checkFieldsM (e : Bool) (d : Nat) (xs : Array Value) : List Field -> Sem Unit
 | [] => pure ()
 | f :: fs => if f.name ≠ "_" then do
   let v <- part f.type xs f.offset
   Instr.checkKey e d f.type v
   checkFieldsM e d xs fs
  else checkFieldsM e d xs fs
def checkElemsM (e : Bool) (d : Nat) (et : TypeId) (n : Nat) (xs : Array Value) : List Nat -> Sem Unit
 | [] => pure ()
 | i :: r => do
   let v <- part et xs (i * n)
   Instr.checkKey e d et v
   checkElemsM e d et n xs r
theorem run_checkKey_struct (e : Bool) (d : Nat) (t : TypeId) (xs : Array Value) (fs : Array Field) (ht : P.underlying t = some (.struct fs)) : (Instr.checkKey e (d + 1) t (.agg xs)).run P w = (checkFieldsM e d xs fs.toList).run P w := by
 simp only [Instr.checkKey, Sem.run_bind, run_und ht, Result.andThen_ok]
 rw [<- Array.forIn_toList]
 generalize fs.toList = l
 clear ht
 induction l generalizing w with
 | nil => simp [checkFieldsM]
 | cons f l ih =>
  simp only [List.forIn_cons, checkFieldsM, Sem.run_bind, Sem.run_ite]
  split
  ·generalize (part f.type xs f.offset).run P w = r1
   cases r1 with
   | ok v w1 =>
    simp only [Result.andThen_ok]
    generalize (Instr.checkKey e d f.type v).run P w1 = r2
    cases r2 with
    | ok u w2 => simp only [Result.andThen_ok, Sem.run_pure]; exact ih (w := w2)
    | halt x w2 => simp [Result.andThen]
   | halt x w1 => simp [Result.andThen]
  ·simp only [Sem.run_pure, Result.andThen_ok]
   exact ih
theorem run_checkKey_array (e : Bool) (d : Nat) (t et : TypeId) (len n : Nat) (xs : Array Value) (ht : P.underlying t = some (.array len et)) (hs : ∀ w, (sizeOf et).run P w = .ok n w) :
  (Instr.checkKey e (d + 1) t (.agg xs)).run P w = (checkElemsM e d et n xs (List.range len)).run P w := by
 simp only [Instr.checkKey, Sem.run_bind, run_und ht, Result.andThen_ok]
 rw [Std.Legacy.Range.forIn_eq_forIn_range']
 have e1 : List.range' (Std.Legacy.Range.mk 0 len 1 (by decide)).start (Std.Legacy.Range.mk 0 len 1 (by decide)).size (Std.Legacy.Range.mk 0 len 1 (by decide)).step = List.range len := by
  simp [Std.Legacy.Range.size, List.range_eq_range']
 rw [e1]
 generalize List.range len = l
 clear e1
 induction l generalizing w with
 | nil => simp [checkElemsM]
 | cons i l ih =>
  simp only [List.forIn_cons, checkElemsM, Sem.run_bind, hs, Result.andThen_ok]
  generalize (part et xs (i * n)).run P w = r1
  cases r1 with
  | ok v w1 =>
   simp only [Result.andThen_ok]
   generalize (Instr.checkKey e d et v).run P w1 = r2
   cases r2 with
   | ok u w2 => simp only [Result.andThen_ok, Sem.run_pure]; exact ih (w := w2)
   | halt x w2 => simp [Result.andThen]
  | halt x w1 => simp [Result.andThen]
theorem checkKey_ok (e : Bool) : ∀ (d : Nat) (t : TypeId) (x y : AV), eqT P d t x y = some true -> ∀ (xv : Value), VR C x xv -> ∀ k, (Instr.checkKey e (d + k) t xv).run P w = .ok () w := by
 intro d
 induction d with
 | zero => intro t x y h; simp [eqT] at h
 | succ d ih =>
  intro t x y h xv hx k
  rw [show d + 1 + k = (d + k) + 1 from by omega]
  unfold eqT at h
  split at h
  ·rename_i p q ht
   rw [hx.bool_inv]; simp [Instr.checkKey, run_und ht]
  ·rename_i k1 k2 p k3 q ht
   rw [hx.int_inv]; simp [Instr.checkKey, run_und ht]
  ·rename_i p q ht
   rw [hx.str_inv]; simp [Instr.checkKey, run_und ht]
  ·rename_i fs xs ys ht
   split at h
   ·cases h
   ·obtain ⟨vx, rfl, rx, ox⟩ := hx.agg_inv
    rw [run_checkKey_struct e (d + k) t vx fs ht]
    revert h
    generalize fs.toList = l
    clear ht
    induction l with
    | nil => intro h; simp [checkFieldsM]
    | cons f l ihl =>
     intro h
     simp only [eqFields] at h
     simp only [checkFieldsM]
     by_cases hn : f.name = "_"
     ·simp only [hn, if_true] at h
      simp only [hn, ne_eq, not_true, if_false]
      exact ihl h
     ·simp only [hn, if_false] at h
      simp only [ne_eq, hn, not_false_eq_true, if_true]
      split at h
      ·rename_i p q hp hq
       obtain ⟨pv, e1, r1⟩ := run_part (w := w) rx ox hp
       split at h
       ·rename_i he
        simp only [Sem.run_bind, e1, Result.andThen_ok, ih _ _ _ he _ r1 k]
        exact ihl h
       ·cases h
       ·cases h
      ·cases h
  ·rename_i n et xs ys ht
   split at h
   ·rename_i ag m hl
    obtain ⟨vx, rfl, rx, ox⟩ := hx.agg_inv
    rw [run_checkKey_array e (d + k) t et n m vx ht (fun w => (run_lay (w := w) hl).2.1)]
    revert h
    generalize List.range n = l
    clear ht
    induction l with
    | nil => intro h; simp [checkElemsM]
    | cons i l ihl =>
     intro h
     simp only [eqElems] at h
     simp only [checkElemsM]
     split at h
     ·rename_i p q hp hq
      obtain ⟨pv, e1, r1⟩ := run_part (w := w) rx ox hp
      split at h
      ·rename_i he
       simp only [Sem.run_bind, e1, Result.andThen_ok, ih _ _ _ he _ r1 k]
       exact ihl h
      ·cases h
      ·cases h
     ·cases h
   ·cases h
  ·cases h
theorem keyOf_ok {kt : TypeId} {k : AV} (h : keyOf P kt k = true) {kv : Value} (r : VR C k kv) (e : Bool) : (Instr.checkKey e 10000 kt kv).run P w = .ok () w := by
 unfold keyOf at h
 simp only [Bool.and_eq_true] at h
 obtain ⟨_, h2⟩ := h
 split at h2
 ·rename_i he; exact checkKey_ok e eqDepth kt k k he kv r 9992
 ·cases h2
def EntR (C : Cfg) (entries : List (AV × AV)) (es : List MapEntry) : Prop := es.length = entries.length /\ ∀ (i : Nat) (k v : AV), entries[i]? = some (k, v) -> ∃ e : MapEntry, es[i]? = some e /\ VR C k e.key /\ VR C v e.val
theorem EntR.cons {entries : List (AV × AV)} {es : List MapEntry} {k v : AV} (h : EntR C ((k, v) :: entries) es) : ∃ e r, es = e :: r /\ VR C k e.key /\ VR C v e.val /\ EntR C entries r := by
 obtain ⟨h1, h2⟩ := h
 cases es with
 | nil => simp at h1
 | cons e r =>
  obtain ⟨e', g1, g2, g3⟩ := h2 0 k v (by simp)
  simp at g1
  subst g1
  exact ⟨e, r, rfl, g2, g3, by simpa using h1, fun i k' v' hi => by simpa using h2 (i + 1) k' v' (by simpa using hi)⟩
def HitR (C : Cfg) (r : Option (Nat × AV)) (rc : Option (Nat × Value)) : Prop :=
 match r, rc with
 | none, none => True
 | some (j, v), some (j', u) => j = j' /\ VR C v u
 | _, _ => False
theorem sameNow_eq {kt : TypeId} {x y : AV} {r q : Bool} {d : TypeDesc} {n : Nat} (h : eqT P (n + 1) kt x y = some r) (hd : P.underlying kt = some d) {xv yv : Value} (hx : VR C x xv) (hy : VR C y yv) (hs : Instr.sameNow d xv yv = some q) : q = r := by
 unfold eqT at h
 split at h
 ·rename_i p q' ht
  rw [hd] at ht; cases ht
  rw [hx.bool_inv, hy.bool_inv] at hs
  cases h
  simp [Instr.sameNow] at hs
  exact hs.symm
 ·rename_i k1 k2 p k3 q' ht
  rw [hd] at ht; cases ht
  rw [hx.int_inv, hy.int_inv] at hs
  simp only [Instr.sameNow] at hs
  split at h
  ·rename_i e; simp [e] at hs; cases h; exact hs.symm
  ·cases h
 ·rename_i p q' ht
  rw [hd] at ht; cases ht
  rw [hx.str_inv, hy.str_inv] at hs
  cases h
  simp [Instr.sameNow, str_beq] at hs
  exact hs.symm
 ·rename_i fs xs ys ht
  rw [hd] at ht; cases ht
  obtain ⟨vx, rfl, _⟩ := hx.agg_inv
  simp [Instr.sameNow] at hs
 ·rename_i m e xs ys ht
  rw [hd] at ht; cases ht
  obtain ⟨vx, rfl, _⟩ := hx.agg_inv
  simp [Instr.sameNow] at hs
 ·cases h
def findI (P : Program) (kt : TypeId) (x : AV) : List (AV × AV) -> Nat -> Option (Option (Nat × AV))
 | [], _ => some none
 | (k, v) :: r, i => match eqT P eqDepth kt x k with
  | some true => some (some (i, v))
  | some false => findI P kt x r (i + 1)
  | none => none
theorem findI_V {kt : TypeId} {x : AV} : ∀ (es : List (AV × AV)) (i : Nat), findV P kt x es = (findI P kt x es i).map (fun r => r.map (·.2)) := by
 intro es
 induction es with
 | nil => intro i; rfl
 | cons e es ih =>
  intro i
  obtain ⟨k, v⟩ := e
  simp only [findV, findI]
  cases eqT P eqDepth kt x k <;> first | rfl | skip
  rename_i c
  cases c
  ·exact ih (i + 1)
  ·rfl
theorem findAsking_ok {kt : TypeId} {x : AV} {xv : Value} (hx : VR C x xv) : ∀ (entries : List (AV × AV)) (es : List MapEntry) (i : Nat) (r : Option (Nat × AV)), EntR C entries es -> findI P kt x entries i = some r ->
  ∃ rc, (Instr.findAsking kt xv es i).run P w = .ok rc w /\ HitR C r rc := by
 intro entries
 induction entries with
 | nil =>
  intro es i r he h
  simp [findI] at h
  subst h
  have : es = [] := List.eq_nil_of_length_eq_zero (by simpa using he.1)
  subst this
  exact ⟨none, by simp [Instr.findAsking], trivial⟩
 | cons e entries ih =>
  intro es i r he h
  obtain ⟨k, v⟩ := e
  obtain ⟨e, es', rfl, hk, hv, hr⟩ := he.cons
  simp only [findI] at h
  split at h
  ·rename_i he
   cases h
   refine ⟨some (i, e.val), ?_, rfl, hv⟩
   simp [Instr.findAsking, eq_ok (w := w) he hx hk]
  ·rename_i he
   obtain ⟨rc, h1, h2⟩ := ih es' (i + 1) r hr h
   refine ⟨rc, ?_, h2⟩
   simp only [Instr.findAsking, Sem.run_bind, eq_ok (w := w) he hx hk, Result.andThen_ok]
   simpa using h1
  ·cases h
theorem findNow_ok {kt : TypeId} {d : TypeDesc} {x : AV} {xv : Value} (hd : P.underlying kt = some d) (hx : VR C x xv) : ∀ (entries : List (AV × AV)) (es : List MapEntry) (i : Nat) (r : Option (Nat × AV)) (rc : Option (Nat × Value)), EntR C entries es -> findI P kt x entries i = some r ->
  Instr.findNow d xv es i = some rc -> HitR C r rc := by
 intro entries
 induction entries with
 | nil =>
  intro es i r rc he h hn
  simp [findI] at h
  subst h
  have : es = [] := List.eq_nil_of_length_eq_zero (by simpa using he.1)
  subst this
  simp [Instr.findNow] at hn
  subst hn
  trivial
 | cons e entries ih =>
  intro es i r rc he h hn
  obtain ⟨k, v⟩ := e
  obtain ⟨e, es', rfl, hk, hv, hr⟩ := he.cons
  simp only [findI] at h
  simp only [Instr.findNow] at hn
  split at hn
  ·rename_i hs
   cases hn
   split at h
   ·cases h; exact ⟨rfl, hv⟩
   ·rename_i he; have := sameNow_eq (n := 7) he hd hx hk hs; cases this
   ·cases h
  ·rename_i hs
   split at h
   ·rename_i he; have := sameNow_eq (n := 7) he hd hx hk hs; cases this
   ·exact ih es' (i + 1) r rc hr h hn
   ·cases h
  ·cases hn
theorem findKey_ok {kt : TypeId} {x : AV} {xv : Value} {entries : List (AV × AV)} {es : List MapEntry} {r : Option (Nat × AV)} (hu : ∃ d, P.underlying kt = some d) (hx : VR C x xv) (he : EntR C entries es) (h : findI P kt x entries 0 = some r) :
  ∃ rc, (Instr.findKey kt xv es).run P w = .ok rc w /\ HitR C r rc := by
 obtain ⟨d, hd⟩ := hu
 simp only [Instr.findKey, Sem.run_bind, run_und hd, Result.andThen_ok]
 cases hn : Instr.findNow d xv es 0 with
 | some rc => exact ⟨rc, rfl, findNow_ok hd hx entries es 0 r rc he h hn⟩
 | none => exact findAsking_ok hx entries es 0 r he h
theorem keyOf_und {kt : TypeId} {k : AV} (h : keyOf P kt k = true) : ∃ d, P.underlying kt = some d := by
 unfold keyOf at h
 simp only [Bool.and_eq_true] at h
 obtain ⟨_, h2⟩ := h
 cases hu : P.underlying kt with
 | none => rw [show eqDepth = 7 + 1 from rfl] at h2; simp [eqT, hu] at h2
 | some d => exact ⟨d, rfl⟩
theorem run_getObj_map {r : Nat} {es : Array MapEntry} {clock : Nat} (h : w.heap[r]? = some (.map es clock)) : (getObj r).run P w = .ok (.map es clock) w := by
 simp [getObj, Sem.run, h]
theorem St.entries (s : St C lam ms F b a w cs) {x : AV} {v : Value} {es : List (AV × AV)} (h : entriesV F.hp x = some es) (r : VR C x v) :
  (v = .map none /\ es = []) \/ ∃ (n : Nat) (ces : Array MapEntry) (clock : Nat), v = .map (some n) /\ w.heap[n]? = some (.map ces clock) /\ EntR C es ces.toList := by
 unfold entriesV at h
 split at h
 ·cases h; cases r; exact .inl ⟨rfl, rfl⟩
 ·rename_i id
  split at h
  ·rename_i es' hg
   cases h
   obtain ⟨L, e1, ces, clock, h1, h2, h3⟩ := s.wr.blk id _ hg
   cases r with
   | map e2 =>
    rw [e1] at e2
    cases e2
    exact .inr ⟨L.b, ces, clock, rfl, h1, by simpa using h2, fun i k v hi => by simpa using h3 i k v hi⟩
  ·cases h
 ·cases h
theorem St.lookupV (s : St C lam ms F b a w cs) {t : TypeId} {x i : Operand} {ok : Bool} {v : AV} (h : F.lookupV1 P t x i ok = some v) : Runs P w C lam F (Instr.lookup t (a.eval x) (a.eval i) ok) v := by
  unfold Fr.lookupV1 at h
  split at h
  · rename_i p q hp hq
    have rp := s.opv hp
    have rq := s.opv hq
    revert rp rq
    generalize a.eval x = xv
    generalize a.eval i = iv
    intro rp rq
    unfold Go.AM.lookupV at h
    split at h
    · rename_i kt et hu
      split at h
      · rename_i hk
        split at h
        · rename_i es hes
          rw [findI_V es 0] at h
          have key : ∀ (ces : Array MapEntry), EntR C es ces.toList -> ∃ u, (do Instr.checkKey ces.isEmpty 10000 kt iv
                                                                                let (v, ok') <- match <- Instr.findKey kt iv ces.toList with
                                                                                  | some (_, v) => pure (v, true)
                                                                                  | none => pure (<- zeroValue et, false)
                                                                                pure (if ok then Value.tuple #[v, .bool ok'] else v) : Sem Value).run P w = .ok u w /\ VR C v u := by
            intro ces hr
            cases hf : findI P kt q es 0 with
            | none => simp [hf] at h
            | some r =>
              obtain ⟨rc, h1, h2⟩ := findKey_ok (w := w) (keyOf_und hk) rq hr hf
              simp only [Sem.run_bind, keyOf_ok hk rq, Result.andThen_ok, h1]
              simp only [hf, Option.map_some] at h
              cases r with
              | none =>
                cases rc with
                | none =>
                  simp only [Option.map_none] at h
                  split at h
                  · rename_i z hz
                    cases h
                    obtain ⟨zv, z1, z2, _⟩ := run_zero (P := P) (w := w) (C := C) hz
                    cases ok with
                    | true => exact ⟨_, by simp [z1], tupleR z2 (.bool false)⟩
                    | false => exact ⟨_, by simp [z1], z2⟩
                  · cases h
                | some rc => exact h2.elim
              | some jv =>
                cases rc with
                | none => exact h2.elim
                | some rc =>
                  obtain ⟨j, v'⟩ := jv
                  obtain ⟨j', u⟩ := rc
                  simp only [Option.map_some] at h
                  cases h
                  cases ok with
                  | true => exact ⟨_, by simp, tupleR h2.2 (.bool true)⟩
                  | false => exact ⟨_, by simp, h2.2⟩
          rcases s.entries hes rp with ⟨rfl, rfl⟩ | ⟨n, ces, clock, rfl, hn, hr⟩
          · obtain ⟨u, h1, h2⟩ := key #[] ⟨rfl, fun i k v hi => by simp at hi⟩
            refine .of (u := u) ?_ h2
            simp only [Instr.lookup, Sem.run_bind, run_und hu, Result.andThen_ok, Sem.run_pure]
            simp only [Sem.run_bind] at h1
            exact h1
          · obtain ⟨u, h1, h2⟩ := key ces hr
            refine .of (u := u) ?_ h2
            simp only [Instr.lookup, Sem.run_bind, run_und hu, Result.andThen_ok, run_getObj_map hn, Sem.run_pure]
            simp only [Sem.run_bind] at h1
            exact h1
        · cases h
      · cases h
    · cases h
  · cases h
end
end Go.AM
namespace Go.AM
open Go
variable [Keep]
section
variable {P : Program} {w : World} {C : Cfg} {lam : Nat -> Option Nat} {ms : List Nat} {F : Fr} {b : Frame} {a : Act} {cs : List Frame}
theorem St.lenB (s : St C lam ms F b a w cs) {t ty : TypeId} {ts : Array TypeId} {x : AV} {xv v : AV} {u : Value} {vs : Array Value} (hts : ts[0]? = some t) (hvs : vs[0]? = some u) (r : VR C x u) (h : lenB P F.hp t x = some v) : Runs P w C lam F (Builtin.len_ ts ty vs) v := by
 unfold Go.AM.lenB at h
 split at h
 ·rename_i hu
  split at h
  ·rename_i st
   cases h
   rw [r.str_inv] at hvs
   exact .of (by simp [Builtin.len_, hts, hvs, run_und hu, goInt]; rfl) (.int _ _)
  ·cases h
 ·rename_i e hu
  split at h
  ·rename_i n hn
   cases h
   obtain ⟨p, cap, rfl, _⟩ := lenS_ok hn r
   exact .of (by simp [Builtin.len_, hts, hvs, run_und hu, goInt]) (.int _ _)
  ·cases h
 ·rename_i k e hu
  split at h
  ·rename_i es he
   cases h
   rcases s.entries he r with ⟨rfl, rfl⟩ | ⟨n, ces, clock, rfl, hn, hr⟩
   ·exact .of (by simp [Builtin.len_, hts, hvs, run_und hu, goInt]) (.int _ _)
   ·have hsz : ces.size = es.length := by simpa using hr.1
    exact .of (by simp [Builtin.len_, hts, hvs, run_und hu, run_getObj_map hn, goInt, hsz]) (.int _ _)
  ·cases h
 ·rename_i n e hu
  cases h
  exact .of (by simp [Builtin.len_, hts, hvs, run_und hu, goInt]) (.int _ _)
 ·cases h
theorem foldM_ok {f : Int -> Int -> Int} {g : Value -> Value -> Sem Value} (hg : ∀ k x k' y, g (.int k x) (.int k' y) = pure (.int k (f x y))) {k : IntKind} : ∀ (l : List AV) (acc : Int) (v : AV) (vs : List Value), VRs C l vs.toArray -> foldV f k acc l = some v -> ∃ n, v = .int k n /\ (vs.foldlM g (.int k acc)).run P w = .ok (.int k n) w := by
 intro l
 induction l with
 | nil =>
  intro acc v vs hv h
  simp [foldV] at h
  subst h
  have : vs = [] := List.eq_nil_of_length_eq_zero (by simpa using hv.1)
  subst this
  exact ⟨acc, rfl, rfl⟩
 | cons x l ih =>
  intro acc v vs hv h
  cases vs with
  | nil => have := hv.1; simp at this
  | cons u vs =>
   have h0 := hv.2 0 (by simp)
   simp at h0
   have hv' : VRs C l vs.toArray := ⟨by simpa using hv.1, fun i hi => by simpa using hv.2 (i + 1) (by simpa using hi)⟩
   cases x with
   | int k' n =>
    simp only [foldV] at h
    rw [h0.int_inv]
    obtain ⟨m, e1, e2⟩ := ih _ v vs hv' h
    exact ⟨m, e1, by simp [List.foldlM, hg, e2]⟩
   | _ => simp [foldV] at h
theorem St.builtinV (s : St C lam ms F b a w cs) {bi : Builtin} {args : Array Operand} {ts : Array TypeId} {ty : TypeId} {cst : Array Bool} {v : AV} (h : F.builtinV1 P bi args.toList ts.toList = some v) :
  ∃ u, (builtin bi ts ty cst (args.map a.eval)).run P w = .ok (.value u) w /\ SR C lam F.lm v u := by
 unfold Fr.builtinV1 at h
 split at h
 ·rename_i l hl
  have rl := opvs_arr s hl
  unfold Go.AM.builtinV at h
  split at h
  ·split at h
   ·rename_i t r x hts
    have ht0 : ts[0]? = some t := by
     have := congrArg (·[0]?) hts
     simpa using this
    obtain ⟨u, hu, ru⟩ := rl.get (i := 0) (a := x) (by simp)
    obtain ⟨y, h1, h2⟩ := s.lenB (P := P) (ty := ty) (xv := x) ht0 hu ru h
    exact ⟨y, by simp [builtin, h1], h2⟩
   ·cases h
  ·split at h
   ·rename_i k x r
    have hsz := rl.1
    obtain ⟨u, hu, ru⟩ := rl.get (i := 0) (a := .int k x) (by simp)
    obtain ⟨vs, hvs⟩ : ∃ vs, (args.map a.eval).toList = .int k x :: vs := by
     cases hh : (args.map a.eval).toList with
     | nil => rw [<- Array.getElem?_toList, hh] at hu; simp at hu
     | cons c vs =>
      have : (args.map a.eval)[0]? = some c := by rw [<- Array.getElem?_toList, hh]; rfl
      rw [hu] at this
      cases this
      exact ⟨vs, by rw [ru.int_inv]⟩
    have hv' : VRs C r vs.toArray := by
     have e : args.map a.eval = (Value.int k x :: vs).toArray := by rw [<- hvs]
     rw [e] at rl
     exact ⟨by simpa using rl.1, fun i hi => by simpa using rl.2 (i + 1) (by simpa using hi)⟩
    obtain ⟨n, rfl, e2⟩ := foldM_ok (P := P) (w := w) (C := C) (f := minV) (g := Builtin.min2) (fun k x k' y => by simp [Builtin.min2, minV]) r x v vs hv' h
    have hvs' : args.toList.map a.eval = .int k x :: vs := by simpa using hvs
    exact ⟨.int k n, by simp [builtin, Builtin.min_, hvs', e2], SR.of (.int _ _)⟩
   ·cases h
  ·split at h
   ·rename_i k x r
    have hsz := rl.1
    obtain ⟨u, hu, ru⟩ := rl.get (i := 0) (a := .int k x) (by simp)
    obtain ⟨vs, hvs⟩ : ∃ vs, (args.map a.eval).toList = .int k x :: vs := by
     cases hh : (args.map a.eval).toList with
     | nil => rw [<- Array.getElem?_toList, hh] at hu; simp at hu
     | cons c vs =>
      have : (args.map a.eval)[0]? = some c := by rw [<- Array.getElem?_toList, hh]; rfl
      rw [hu] at this
      cases this
      exact ⟨vs, by rw [ru.int_inv]⟩
    have hv' : VRs C r vs.toArray := by
     have e : args.map a.eval = (Value.int k x :: vs).toArray := by rw [<- hvs]
     rw [e] at rl
     exact ⟨by simpa using rl.1, fun i hi => by simpa using rl.2 (i + 1) (by simpa using hi)⟩
    obtain ⟨n, rfl, e2⟩ := foldM_ok (P := P) (w := w) (C := C) (f := maxV) (g := Builtin.max2) (fun k x k' y => by simp [Builtin.max2, maxV]) r x v vs hv' h
    have hvs' : args.toList.map a.eval = .int k x :: vs := by simpa using hvs
    exact ⟨.int k n, by simp [builtin, Builtin.max_, hvs', e2], SR.of (.int _ _)⟩
   ·cases h
  ·cases h
 ·cases h
def setMany (cs : Array Value) (off : Nat) : List Value -> Array Value
 | [] => cs
 | c :: r => setMany (cs.setIfInBounds off c) (off + 1) r
theorem setMany_size : ∀ (l : List Value) (cs : Array Value) (off : Nat), (setMany cs off l).size = cs.size := by
 intro l
 induction l with
 | nil => intro cs off; rfl
 | cons c l ih => intro cs off; simp [setMany, ih]
theorem setMany_get : ∀ (l : List Value) (cs : Array Value) (off i : Nat), off + l.length <= cs.size -> (setMany cs off l)[i]? = if off <= i /\ i < off + l.length then l[i - off]? else cs[i]? := by
 intro l
 induction l with
 | nil => intro cs off i h; simp [setMany]; intro h1 h2; omega
 | cons c l ih =>
  intro cs off i h
  simp only [setMany]
  simp at h
  rw [ih _ _ _ (by simp; omega)]
  by_cases h1 : off + 1 <= i /\ i < off + 1 + l.length
  ·rw [if_pos h1, if_pos (by simp; omega)]
   rw [show i - off = (i - (off + 1)) + 1 from by omega]
   simp
  ·rw [if_neg h1]
   by_cases h2 : off = i
   ·subst h2
    rw [if_pos (by simp)]
    have : off < cs.size := by omega
    simp [Array.getElem?_setIfInBounds, this]
   ·rw [if_neg (by simp; omega)]
    simp [Array.getElem?_setIfInBounds, h2]
theorem zip_setMany : ∀ (l : List Value) (cs : Array Value) (off k : Nat), (l.zipIdx k).foldl (fun cs (p : Value × Nat) => cs.setIfInBounds (off + p.2) p.1) cs = setMany cs (off + k) l := by
 intro l
 induction l with
 | nil => intro cs off k; rfl
 | cons c l ih => intro cs off k; simp only [List.zipIdx_cons, List.foldl_cons, setMany]; rw [ih]; rfl
theorem zipA_setMany (v : Array Value) (cs : Array Value) (off : Nat) : v.zipIdx.foldl (fun cs (p : Value × Nat) => cs.setIfInBounds (off + p.2) p.1) cs = setMany cs off v.toList := by
 have := zip_setMany v.toList cs off 0
 rw [Nat.add_zero] at this
 rw [<- this, <- Array.foldl_toList]
 congr 1
 simp
theorem splice_length {cells vs : List AV} {off : Nat} (h : off + vs.length <= cells.length) : (splice cells off vs).length = cells.length := by
 simp [splice]; omega
theorem splice_get {cells vs : List AV} {off i : Nat} (h : off + vs.length <= cells.length) : (splice cells off vs)[i]? = if off <= i /\ i < off + vs.length then vs[i - off]? else cells[i]? := by
 unfold splice
 by_cases h1 : i < off
 ·rw [if_neg (by omega), List.getElem?_append_left (by simp; omega), List.getElem?_take, if_pos h1]
 ·rw [List.getElem?_append_right (by simp; omega)]
  have e : (cells.take off).length = off := by simp; omega
  rw [e]
  by_cases h2 : i < off + vs.length
  ·rw [if_pos ⟨by omega, h2⟩, List.getElem?_append_left (by omega)]
  ·rw [if_neg (by omega), List.getElem?_append_right (by omega), List.getElem?_drop]
   congr 1
   omega
theorem VRs.of_get {l : List AV} {vs : Array Value} (h1 : vs.size = l.length) (h2 : ∀ (i : Nat) (x : AV), l[i]? = some x -> ∃ v, vs[i]? = some v /\ VR C x v) : VRs C l vs := by
 refine ⟨h1, fun i hi => ?_⟩
 obtain ⟨v, hv, hr⟩ := h2 i l[i] (by simp [hi])
 have e1 : l.getD i .junk = l[i] := by simp [List.getD, hi]
 have e2 : vs.getD i undef = v := by simp [Array.getD_eq_getD_getElem?, hv]
 rw [e1, e2]
 exact hr
theorem VRs.splice {cells vs : List AV} {c : Array Value} {u : Array Value} {off : Nat} (h : VRs C cells c) (k : VRs C vs u) (hle : off + vs.length <= cells.length) : VRs C (splice cells off vs) (setMany c off u.toList) := by
 have hu : u.toList.length = vs.length := by simpa using k.1
 refine .of_get (by rw [setMany_size, splice_length hle, h.1]) fun i x hx => ?_
 rw [splice_get hle] at hx
 rw [setMany_get _ _ _ _ (by rw [hu, h.1]; exact hle), hu]
 split
 ·rename_i hc
  rw [if_pos hc] at hx
  obtain ⟨v, hv, hr⟩ := k.get hx
  exact ⟨v, by simpa using hv, hr⟩
 ·rename_i hc
  rw [if_neg hc] at hx
  exact h.get hx
theorem one_splice {cells vs : List AV} {off : Nat} (h : ∀ x ∈ cells, x.one = true) (k : ∀ x ∈ vs, x.one = true) : ∀ x ∈ Go.AM.splice cells off vs, x.one = true := by
 intro x hx
 simp only [Go.AM.splice, List.mem_append] at hx
 rcases hx with hx | hx | hx
 ·exact h x (List.mem_of_mem_take hx)
 ·exact k x hx
 ·exact h x (List.mem_of_mem_drop hx)
theorem not_tuple {v : AV} (h : isTuple v = false) : ∀ l, v ≠ .tuple l := by
 intro l e; subst e; simp [isTuple] at h
def PartR (C : Cfg) (l : List (Nat × AV)) (ps : List (Nat × Value)) : Prop := ps.length = l.length /\ ∀ (k i : Nat) (v : AV), l[k]? = some (i, v) -> ∃ u, ps[k]? = some (i, u) /\ VR C v u
theorem PartR.cons {l : List (Nat × AV)} {ps : List (Nat × Value)} {i : Nat} {v : AV} (h : PartR C ((i, v) :: l) ps) : ∃ u r, ps = (i, u) :: r /\ VR C v u /\ PartR C l r := by
 obtain ⟨h1, h2⟩ := h
 cases ps with
 | nil => simp at h1
 | cons p r =>
  obtain ⟨u, g1, g2⟩ := h2 0 i v (by simp)
  simp at g1
  subst g1
  exact ⟨u, r, rfl, g2, by simpa using h1, fun k j v' hk => by simpa using h2 (k + 1) j v' (by simpa using hk)⟩
theorem St.parts (s : St C lam ms F b a w cs) : ∀ (ps : List (Nat × Operand)) (l : List (Nat × AV)), F.parts ps = some l -> PartR C l (ps.map fun p => (p.1, a.eval p.2)) := by
 intro ps
 induction ps with
 | nil => intro l h; simp [Fr.parts] at h; subst h; exact ⟨rfl, fun k i v hk => by simp at hk⟩
 | cons p ps ih =>
  intro l h
  obtain ⟨i, x⟩ := p
  simp only [Fr.parts] at h
  split at h
  ·rename_i v r hv hr
   cases h
   obtain ⟨g1, g2⟩ := ih r hr
   refine ⟨by simp [<- g1], fun k j u hk => ?_⟩
   cases k with
   | zero => simp at hk; obtain ⟨rfl, rfl⟩ := hk; exact ⟨_, by simp, s.opv hv⟩
   | succ k => simpa using g2 k j u (by simpa using hk)
  ·cases h
theorem fillV_ok {place : Nat -> Option (Nat × Nat)} : ∀ (l : List (Nat × AV)) (ps : List (Nat × Value)) (cells : List AV) (c : Array Value) (r : List AV), PartR C l ps -> VRs C cells c -> (∀ x ∈ cells, x.one = true) -> fillV place cells l = some r ->
  ∃ c', Instr.fill place c ps = some c' /\ VRs C r c' /\ ∀ x ∈ r, x.one = true := by
 intro l
 induction l with
 | nil =>
  intro ps cells c r hp hv ho h
  simp [fillV] at h
  subst h
  have : ps = [] := List.eq_nil_of_length_eq_zero (by simpa using hp.1)
  subst this
  exact ⟨c, rfl, hv, ho⟩
 | cons p l ih =>
  intro ps cells c r hp hv ho h
  obtain ⟨i, v⟩ := p
  obtain ⟨u, ps', rfl, hu, hp'⟩ := hp.cons
  simp only [fillV] at h
  split at h
  ·cases h
  ·rename_i off size hpl
   split at h
   ·rename_i hc
    obtain ⟨h1, h2, h3⟩ := hc
    obtain ⟨k1, k2⟩ := hu.cells (not_tuple h3)
    obtain ⟨c', e1, e2, e3⟩ := ih ps' _ _ r hp' (hv.splice k1 (by rw [h1]; exact h2)) (one_splice ho k2) h
    refine ⟨c', ?_, e2, e3⟩
    have hsz : u.cells.size = size := by rw [k1.1]; exact h1
    simp only [Instr.fill, hpl, hsz, hv.1]
    rw [if_neg (by simp; omega)]
    rw [<- zipA_setMany] at e1
    exact e1
   ·cases h
end
end Go.AM
