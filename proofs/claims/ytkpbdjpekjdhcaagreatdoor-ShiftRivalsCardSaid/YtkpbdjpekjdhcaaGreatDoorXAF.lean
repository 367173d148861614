/-
  A part of the proof: contracts of functions.
-/
import Derived.Test.YtkpbdjpekjdhcaaGreatDoorXAD
import Derived.Test.YtkpbdjpekjdhcaaGreatDoorXAE
import Derived.Carry
import Derived.Test.YtkpbdjpekjdhcaaGreatDoorTie
import Derived.ProofKit
import Derived.ChangeCalls
import Derived.OpenShut
import Derived.LaidMore
import Derived.Lay
import Derived.SevenTiedAt
import Derived.Stop.Joined
import Derived.LaidSub
import Derived.Test.YtkpbdjpekjdhcaaGreatDoorXAC
set_option linter.unusedSimpArgs false
set_option linter.unusedVariables false
set_option linter.unusedSectionVars false
namespace Go.AM
open Go Go.RowKit
section
variable {P : Program} {H : Type} {enc : TypeId × Value -> H} {w : World}
theorem VL.vrs {C : Cfg} {xa : List AV} {vs : List Value} (h : VL C xa vs) : vs.toArray.size = xa.length /\ ∀ i, i < xa.length -> VR C (xa.getD i .junk) (vs.toArray.getD i undef) := by
 refine ⟨by simp [h.len], fun i hi => ?_⟩
 obtain ⟨_, v, hv, hr⟩ := h.get i xa[i] (by simp [hi])
 have hi2 : i < vs.length := by rw [<- h.len]; exact hi
 have e1 : xa.getD i .junk = xa[i] := by simp [List.getD, hi]
 have e2 : vs.toArray.getD i undef = v := by
  simp only [Array.getD_eq_getD_getElem?, List.getElem?_toArray, hv, Option.getD_some]
 rw [e1, e2]
 exact hr
theorem openV {r : Reach} {base : Nat} {t : TypeId} {v : Value} {d : DataW H} {p : List MemPlace} (n : Nat) (hpl : plainT P n t = true) (hval : Value.okWide P w r base t v)
  (h : DataW.Trod enc P w 0 (fun _ => true) true t v d p) : ∃ xa, VR ⟨fun _ => none, w.cell?⟩ (asElem (isAggT P t) xa) v /\ Sh P n t xa := by
 obtain ⟨fuel, hx⟩ := h
 obtain ⟨xa, h1, h2⟩ := opens n t v.cells.toList fuel _ hpl hx
 refine ⟨xa, ?_, h2⟩
 cases n with
 | zero => simp [plainT] at hpl
 | succ n =>
  unfold plainT at hpl
  unfold Value.okWide at hval
  cases hu : P.underlying t with
  | none => rw [hu] at hpl; cases hpl
  | some desc =>
   have plain : isAggT P t = false -> (∀ cs, v ≠ .agg cs) -> VR ⟨fun _ => none, w.cell?⟩ (asElem (isAggT P t) xa) v := by
    intro ha hv
    have : v.cells.toList = [v] := by
     cases v <;> first | rfl | exact absurd rfl (hv _)
    rw [this] at h1
    cases h1 with
    | cons k1 k2 k3 =>
     cases k3
     rw [ha]
     exact k1
   rw [hu] at hpl hval
   cases desc with
   | bool => exact plain (by simp [isAggT, hu]) (fun cs e => by subst e; simp [Cell.okWide, hu, Cell.ok] at hval)
   | int k => exact plain (by simp [isAggT, hu]) (fun cs e => by subst e; simp [Cell.okWide, hu, Cell.ok] at hval)
   | string => exact plain (by simp [isAggT, hu]) (fun cs e => by subst e; simp [Cell.okWide, hu, Cell.ok] at hval)
   | slice e => exact plain (by simp [isAggT, hu]) (fun cs e => by subst e; simp [Cell.okWide, hu, Cell.ok] at hval)
   | struct fs =>
    obtain ⟨cs, rfl, _, _⟩ := hval
    have ha : isAggT P t = true := by simp [isAggT, hu]
    rw [ha]
    obtain ⟨q1, q2⟩ := VL.vrs h1
    have : (Value.agg cs).cells.toList.toArray = cs := by simp [Value.cells]
    rw [this] at q1 q2
    exact .agg q1 q2 h1.one
   | _ => cases hpl
theorem VRs.cons2 {C : Cfg} {a : AV} {v : Value} {xa : List AV} {vs : List Value} (h : VR C a v) (k : VRs C xa vs.toArray) : VRs C (a :: xa) (v :: vs).toArray :=
 ⟨by simpa using k.1, fun i hi => by
  cases i with
  | zero => exact h
  | succ i =>
   have := k.2 i (by simpa using hi)
   simpa [List.getD, Array.getD_eq_getD_getElem?] using this⟩
theorem map_enc {α : Type} (c : Cd α) : ∀ (es : List AV), (∀ x ∈ es, ∃ y, x = c.enc y) -> ∃ l : List α, es = l.map c.enc := by
 intro es
 induction es with
 | nil => intro _; exact ⟨[], rfl⟩
 | cons a es ih =>
  intro h
  obtain ⟨y, rfl⟩ := h a (by simp)
  obtain ⟨l, rfl⟩ := ih (fun x hx => h x (by simp [hx]))
  exact ⟨y :: l, rfl⟩
theorem Sh.slice {α : Type} (c : Cd α) {n : Nat} {t e : TypeId} {xa : List AV} (hu : P.underlying t = some (.slice e)) (he : ∀ xs, Sh P n e xs -> ∃ y, asElem (isAggT P e) xs = c.enc y) (h : Sh P (n + 1) t xa) :
  ∃ (a : AV) (l : List α), xa = [a] /\ isSl a (l.map c.enc) := by
 unfold Sh at h
 rw [hu] at h
 obtain ⟨a, es, rfl, h1, _, h3⟩ := h
 obtain ⟨l, rfl⟩ := map_enc c es (fun x hx => by
  obtain ⟨xs, rfl, k⟩ := h3 x hx
  obtain ⟨y, hy⟩ := he xs k
  exact ⟨y, hy⟩)
 exact ⟨a, l, rfl, h1⟩
theorem Sh.int {n : Nat} {t : TypeId} {k : IntKind} {xa : List AV} (hu : P.underlying t = some (.int k)) (h : Sh P (n + 1) t xa) : ∃ i, xa = [.int k i] /\ (Lit.int k i).wf = true := by
 unfold Sh at h
 rw [hu] at h
 exact h
theorem Sh.struct {n : Nat} {t : TypeId} {fs : Array Field} {xa : List AV} (hu : P.underlying t = some (.struct fs)) (h : Sh P (n + 1) t xa) : ShF (Sh P n) fs.toList xa := by
 unfold Sh at h
 rw [hu] at h
 exact h
end
variable [Keep]
theorem Ext.below {C C' : Cfg} {h' : Heap} {w w' : World} (e : Ext C emptyHp (fun _ => False) w C' h' (fun _ => False) w') : Below w.heap.size w w' :=
 ⟨e.os, e.tape, e.output, e.size, fun k hk => e.same k hk emptyHp_live id⟩
end Go.AM
set_option maxRecDepth 100000
namespace Go.AM
open Go Go.ChangeShapes Go.WideShapes Go.ChangeAt Go.RowKit
section
variable {P : Program} {H : Type} {enc : TypeId × Value -> H} {W : World}
inductive ArgsOk (P : Program) : List TypeId -> List AV -> Prop
 | nil : ArgsOk P [] []
 | cons {t : TypeId} {ts : List TypeId} {xs : List AV} {xa : List AV} : Sh P 9 t xs -> ArgsOk P ts xa -> ArgsOk P (t :: ts) (asElem (isAggT P t) xs :: xa)
theorem openAll {r : Reach} {base : Nat} : ∀ (ts : List TypeId) (vs : List Value) (ds : List (DataW H)) (ps : List MemPlace), DataW.TrodAll enc P W 0 (fun _ => true) true ts vs ds ps -> (∀ t ∈ ts, plainT P 9 t = true) ->
  (∀ (j : Nat) t v, ts[j]? = some t -> vs[j]? = some v -> Value.okWide P W r base t v) -> ∃ avs, VRs ⟨fun _ => none, W.cell?⟩ avs vs.toArray /\ ArgsOk P ts avs := by
 intro ts
 induction ts with
 | nil =>
  intro vs ds ps h _ _
  obtain ⟨rfl, _, _⟩ := trodAll_nil h
  exact ⟨[], ⟨rfl, fun i hi => by simp at hi⟩, .nil⟩
 | cons t ts ih =>
  intro vs ds ps h hp hv
  obtain ⟨v, vs', d, ds', p, q, rfl, rfl, rfl, h1, h2⟩ := trodAll_cons h
  obtain ⟨xs, k1, k2⟩ := openV 9 (hp t (by simp)) (hv 0 t v rfl rfl) h1
  obtain ⟨xa, g1, g2⟩ := ih vs' ds' q h2 (fun t' ht' => hp t' (by simp [ht'])) (fun j t' v' e1 e2 => hv (j + 1) t' v' (by simpa using e1) (by simpa using e2))
  exact ⟨_, VRs.cons2 k1 g1, .cons k2 g2⟩
theorem backAll {W' : World} (hl : laidOutB P = true) (hb : Below W.heap.size W W') : ∀ (ts : List TypeId) (vs : List Value) (ds : List (DataW H)) (ps : List MemPlace), DataW.TrodAll enc P W 0 (fun _ => true) true ts vs ds ps ->
  (∀ t ∈ ts, P.readableRec t = true /\ t < P.types.size) -> (∀ x ∈ ps, x.block < W.heap.size) -> DataW.TrodAll enc P W' 0 (fun b => decide (b < W.heap.size)) true ts vs ds ps := by
 intro ts
 induction ts with
 | nil =>
  intro vs ds ps h _ _
  obtain ⟨rfl, rfl, rfl⟩ := trodAll_nil h
  exact trodAll_mk0
 | cons t ts ih =>
  intro vs ds ps h hp hlt
  obtain ⟨v, vs', d, ds', p, q, rfl, rfl, rfl, h1, h2⟩ := trodAll_cons h
  exact ⟨p, q, Below.trod hl (hp t (by simp)).1 (hp t (by simp)).2 h1 hb (fun x hx => hlt x (by simp [hx])), ih vs' ds' q h2 (fun t' ht' => hp t' (by simp [ht'])) (fun x hx => hlt x (by simp [hx])), rfl⟩
end
end Go.AM
namespace Go.Proofs.YtkpbdjpekjdhcaaGreatDoor
open Go Go.AM Go.ChangeShapes Go.WideShapes Go.ChangeAt Go.RowKit
def laidL : List (String × DataW Unit) := [("math/bits.deBruijn32tab", Rows.laid_math_bits_deBruijn32tab), ("math/bits.deBruijn64tab", Rows.laid_math_bits_deBruijn64tab), ("internal/strconv.uint64pow10", Rows.laid_internal_strconv_uint64pow10)]
theorem own : ownKnob Tryz.prog.godebug = none := by kernel_rfl
theorem gPow : Tryz.prog.globalNamed "internal/strconv.uint64pow10" = some 1 := by kernel_rfl
theorem tPow : (Tryz.prog.globals[1]?).map (·.type) = some 251 := by kernel_rfl
theorem uPow : ∃ e, Tryz.prog.underlying 251 = some (.array 20 e) /\ Tryz.prog.underlying e = some (.int .u64) /\ Tryz.prog.cellsOf e = 1 := ⟨(match Tryz.prog.underlying 251 with | some (.array _ e) => e | _ => 0), by kernel_rfl, by kernel_rfl, by kernel_rfl⟩
theorem cPow : Tryz.prog.cellsOf 251 = 20 := by kernel_rfl
theorem dPow : Rows.laid_internal_strconv_uint64pow10 (H := Unit) = Lib.tabData .u64 Lib.pow10Tab := by kernel_rfl
theorem laidOut : laidOutB Tryz.prog = true := by kernel_rfl
theorem tabK_of {W : World} (hL : laidMetH Tryz.prog laidL W) : @TabK ⟨W.cell?, fun b => W.heap[b]?⟩ Tryz.prog := by
 rw [MakeChecks.laidMetH_plain _ _ _ (by kernel_rfl)] at hL
 obtain ⟨ps, ⟨_, _, _, _, _, _, _, _, _, _, ⟨_, _, _, _, _, _, _, _, _, _, ⟨g, t, cs, fuel, p, q, hg, ht, hv, hd, _, _⟩, _⟩, _⟩, _, _⟩ := hL
 obtain rfl := Option.some.inj (gPow.symm.trans hg)
 obtain rfl := Option.some.inj (tPow.symm.trans ht)
 obtain ⟨e, u1, u2, u3⟩ := uPow
 rw [dPow] at hd
 have hcs := Lib.cells_of_tab u1 u2 u3 cPow hd
 intro w h
 have hheap : ∃ T fr, W.heap[1]? = some (.cells cs T fr) := by
  unfold World.var? at hv
  rw [gPow] at hv
  simp only [Option.bind_some] at hv
  split at hv
  ·rename_i c T fr hh
   cases hv
   exact ⟨T, fr, hh⟩
  ·cases hv
 obtain ⟨T, fr, hh⟩ := hheap
 have h0 : W.cell? ⟨1, 0, none⟩ = some (.int .u64 1) := by
  have := World.var?_cell hg hv 0
  rw [this]
  have : cs.toList[0]? = some (.int .u64 1) := by rw [hcs]; rfl
  simpa using this
 have hw := h ⟨1, 0, none⟩ _ _ h0 hh
 unfold Lib.TabIs World.var?
 rw [gPow]
 simp only [Option.bind_some, hw]
 rw [<- hcs]
theorem lawHolds {f : FuncId} {fn : Func} {s : ChangeSpec} {H : Type} {enc : TypeId × Value -> H} (hfn : Tryz.prog.funcs[f]? = some fn) (hres : fn.resultTypes = #[4]) (hvars : s.vars = [])
  (hs : ∀ ds : List (DataW H), ds.length = fn.params.size -> s.fn H ds = { results := [.lit (.bool true)], args := ds })
  (hpl : ∀ t ∈ fn.params.toList, plainT Tryz.prog 9 t = true) (hrd : ∀ t ∈ fn.params.toList, Tryz.prog.readableRec t = true /\ t < Tryz.prog.types.size)
  (law : ∀ [Keep], TabK Tryz.prog -> ∀ avs, ArgsOk Tryz.prog fn.params.toList avs -> ∃ X, X.P = Tryz.prog /\ Sound X /\ ∃ h', Cl X f avs emptyHp (.ret (.bool true) h' none))
  (W : World) (base : Nat) (args : Array Value) (ds gs : List (DataW H)) (before : List MemPlace)
  (hval : ∀ (j : Nat) t v, fn.params[j]? = some t -> args[j]? = some v -> Value.okWide Tryz.prog W .any base t v)
  (hW : DataW.Whole enc Tryz.prog fn.params.toList s.vars false W args.toList ds gs before) (hL : laidMetH Tryz.prog laidL W) :
  Calls Tryz.prog f args W fun e W' => ∃ v, e = .returned v /\ s.post enc Tryz.prog fn false true false false W args v W' := by
 have hW' := hW
 obtain ⟨p, q, hA, hV, hpq, _, _⟩ := hW
 rw [hvars] at hV
 obtain ⟨rfl, rfl⟩ := trodVars_none hV
 have hlen : ds.length = fn.params.size := by simpa using (trodAll_length hA).2
 obtain ⟨avs, h1, h2⟩ := openAll fn.params.toList args.toList ds p hA hpl (fun j t v e1 e2 => hval j t v (by simpa using e1) (by simpa using e2))
 letI : Keep := ⟨W.cell?, fun b => W.heap[b]?⟩
 obtain ⟨X, hX, hsound, h', hcl⟩ := law (tabK_of hL) avs h2
 have wr : WR ⟨fun _ => none, W.cell?⟩ emptyHp W := ⟨fun _ _ e => e, fun id blk e => by simp [emptyHp, Heap.get] at e, fun id id' blk blk' L L' e => by simp [emptyHp, Heap.get] at e, fun id blk L x v e => by simp [emptyHp, Heap.get] at e, fun id L e => (by cases e), ⟨fun _ _ e => e, fun x v o _ e => e⟩⟩
 have hc := hsound.calls hcl wr (vs := args) (by simpa using h1)
 rw [hX] at hc
 refine hc.mono fun e W' ⟨C', u, he, hu, _, hext⟩ => ?_
 subst he
 cases hu
 have hbelow := hext.below
 have hlt : ∀ x ∈ p, x.block < W.heap.size := fun x hx => by simpa using hW'.lt x (by rw [hpq]; simp [hx])
 refine ⟨_, rfl, ds, [], before, [], p, [], hW', ?_, ?_, ?_, hbelow.frame _, fun h => by cases h⟩
 ·rw [List.append_nil, hs ds hlen, hres]
  exact trodAll_mk1 (shut_bool Tryz.underlying4 true)
 ·rw [List.append_nil, hs ds hlen]
  exact backAll laidOut hbelow _ _ _ _ hA hrd hlt
 ·rw [List.append_nil, hs ds hlen, hvars]
  rfl
def laidL5 : List (String × DataW Unit) := [("math/bits.deBruijn32tab", Rows.laid_math_bits_deBruijn32tab), ("math/bits.deBruijn64tab", Rows.laid_math_bits_deBruijn64tab), ("internal/strconv.uint64pow10", Rows.laid_internal_strconv_uint64pow10), ("unicode/utf8.acceptRanges", Rows.laid_unicode_utf8_acceptRanges), ("unicode/utf8.first", Rows.laid_unicode_utf8_first)]
def keep3 (x : String × DataW Unit) : Bool := !(x.1 == "unicode/utf8.acceptRanges" || x.1 == "unicode/utf8.first")
theorem laidL5_keep : laidL5.filter keep3 = laidL := by
 have h1 : keep3 ("math/bits.deBruijn32tab", Rows.laid_math_bits_deBruijn32tab) = true := by unfold keep3; decide
 have h2 : keep3 ("math/bits.deBruijn64tab", Rows.laid_math_bits_deBruijn64tab) = true := by unfold keep3; decide
 have h3 : keep3 ("internal/strconv.uint64pow10", Rows.laid_internal_strconv_uint64pow10) = true := by unfold keep3; decide
 have h4 : keep3 ("unicode/utf8.acceptRanges", Rows.laid_unicode_utf8_acceptRanges) = false := by unfold keep3; decide
 have h5 : keep3 ("unicode/utf8.first", Rows.laid_unicode_utf8_first) = false := by unfold keep3; decide
 unfold laidL5 laidL
 simp only [List.filter_cons, h1, h2, h3, h4, h5, if_true, Bool.false_eq_true, if_false, List.filter_nil]
theorem laidSub {W : World} (h : laidMetH Tryz.prog laidL5 W) : laidMetH Tryz.prog laidL W := by
 have := h.filter keep3
 rw [laidL5_keep] at this
 exact this
end Go.Proofs.YtkpbdjpekjdhcaaGreatDoor
namespace Go.AM
open Go
variable [Keep]
def viewD (h : Heap) (a : AV) : Option AV :=
 match a with
 | .agg l => (viewVs h l).map AV.agg
 | a => viewV h a
def viewDs (h : Heap) : List AV -> Option (List AV)
 | [] => some []
 | a :: r => match viewD h a, viewDs h r with
  | some x, some l => some (x :: l)
  | _, _ => none
def flatFnD (spec : List AV -> Option AV) : List AV -> Heap -> Option (AV × Heap) := fun args h => match viewDs h args with
 | some l => (match spec l with | some v => some (v, h) | none => none)
 | none => none
theorem viewV_one {h : Heap} {a a' : AV} (e : viewV h a = some a') (ho : a.one = true) : a'.one = true := by
 unfold viewV at e
 split at e
 ·split at e
  ·split at e
   ·split at e
    ·cases e; rfl
    ·cases e
   ·cases e
  ·cases e
 ·split at e
  ·cases e; exact ho
  ·cases e
theorem viewVs_get {h : Heap} : ∀ {l l' : List AV}, viewVs h l = some l' -> l'.length = l.length /\ ∀ i, i < l.length -> viewV h (l.getD i .junk) = some (l'.getD i .junk) := by
 intro l
 induction l with
 | nil => intro l' e; simp only [viewVs, Option.some.injEq] at e; subst e; exact ⟨rfl, fun i hi => by simp at hi⟩
 | cons a l ih =>
  intro l' e
  simp only [viewVs] at e
  split at e
  ·rename_i x l1 hx hl
   cases e
   obtain ⟨h1, h2⟩ := ih hl
   refine ⟨by simp [h1], fun i hi => ?_⟩
   cases i with
   | zero => simpa using hx
   | succ i => simpa using h2 i (by simpa using hi)
  ·cases e
theorem purL_of : ∀ {l : List AV}, (∀ a ∈ l, a.pur = true) -> AV.purL l = true := by
 intro l
 induction l with
 | nil => intro _; rfl
 | cons a l ih =>
  intro h
  simp only [AV.purL, Bool.and_eq_true]
  exact ⟨h a (by simp), ih (fun b hb => h b (by simp [hb]))⟩
variable {C : Cfg} {h : Heap} {w : World}
theorem viewD_ok (r : WR C h w) {a a' : AV} {v : Value} (hv : VR C a v) (e : viewD h a = some a') : a'.pur = true /\ VR ⟨fun _ => none, w.cell?⟩ a' v := by
 unfold viewD at e
 split at e
 ·rename_i l
  simp only [Option.map_eq_some_iff] at e
  obtain ⟨l', e, rfl⟩ := e
  obtain ⟨e1, e2⟩ := viewVs_get e
  cases hv with
  | agg h1 h2 h3 =>
   have hk : ∀ i, i < l.length -> (l'.getD i .junk).pur = true /\ VR ⟨fun _ => none, w.cell?⟩ (l'.getD i .junk) _ := fun i hi => viewV_ok r (h2 i hi) (e2 i hi)
   refine ⟨?_, .agg (by omega) (fun i hi => (hk i (by omega)).2) (fun c hc => ?_)⟩
   ·simp only [AV.pur]
    refine purL_of fun b hb => ?_
    obtain ⟨i, hi⟩ := List.mem_iff_getElem?.1 hb
    have hil : i < l.length := by
     rcases Nat.lt_or_ge i l.length with q | q
     ·exact q
     ·rw [List.getElem?_eq_none (by omega)] at hi; cases hi
    have := (hk i hil).1
    simpa [List.getD, hi] using this
   ·obtain ⟨i, hi⟩ := List.mem_iff_getElem?.1 hc
    have hil : i < l.length := by
     rcases Nat.lt_or_ge i l.length with q | q
     ·exact q
     ·rw [List.getElem?_eq_none (by omega)] at hi; cases hi
    have h5 := e2 i hil
    have h6 : (l'.getD i .junk) = c := by simp [List.getD, hi]
    rw [h6] at h5
    refine viewV_one h5 (h3 _ ?_)
    have : l.getD i .junk = l[i] := by simp [List.getD, hil]
    rw [this]
    exact List.getElem_mem hil
 ·exact viewV_ok r hv e
theorem viewDs_ok (r : WR C h w) : ∀ {l l' : List AV} {vs : Array Value}, VRs C l vs -> viewDs h l = some l' -> (∀ a ∈ l', a.pur = true) /\ VRs ⟨fun _ => none, w.cell?⟩ l' vs := by
 intro l
 induction l with
 | nil =>
  intro l' vs hv e
  simp only [viewDs, Option.some.injEq] at e
  subst e
  exact ⟨by simp, hv.1, fun i hi => by simp at hi⟩
 | cons a l ih =>
  intro l' vs hv e
  simp only [viewDs] at e
  split at e
  ·rename_i x l1 hx hl
   cases e
   have h0 : VR C a (vs.getD 0 undef) := by simpa using hv.2 0 (by simp)
   obtain ⟨p1, p2⟩ := viewD_ok r h0 hx
   have hsz : vs.size = l.length + 1 := by have := hv.1; simpa using this
   have ht : VRs C l (vs.extract 1 vs.size) := by
    refine ⟨by simp [hsz], fun i hi => ?_⟩
    have := hv.2 (i + 1) (by simp; omega)
    have e2 : (vs.extract 1 vs.size).getD i undef = vs.getD (i + 1) undef := by
     simp only [Array.getD_eq_getD_getElem?]
     rw [Array.getElem?_extract]
     have : i < vs.size - 1 := by omega
     simp [this, Nat.add_comm]
    rw [e2]
    simpa using this
   obtain ⟨q1, q2⟩ := ih ht hl
   refine ⟨by simpa [p1] using q1, ?_⟩
   have := VRs.cons p2 q2
   have e3 : #[vs.getD 0 undef] ++ vs.extract 1 vs.size = vs := by
    apply Array.ext_getElem?
    intro i
    cases i with
    | zero =>
     have : 0 < vs.size := by omega
     simp [Array.getElem?_append, Array.getD_eq_getD_getElem?, this]
    | succ i =>
     rw [Array.getElem?_append_right (by simp)]
     simp only [List.size_toArray, List.length_cons, List.length_nil, Nat.zero_add, Nat.add_sub_cancel, Array.getElem?_extract]
     by_cases hi : i < vs.size - 1
     ·simp [hi, Nat.add_comm]
     ·have : vs.size <= i + 1 := by omega
      simp [hi, this]
   rw [e3] at this
   exact this
  ·cases e
theorem flatD_intr {X : Ctx} (s : Sound X) {f : FuncId} {spec : List AV -> Option AV} (hp : ∀ args v, spec args = some v -> v.flat = true) (hr : ∀ args v, spec args = some v -> ∃ h', Cl X f args emptyHp (.ret v h' none)) : IntrFn X.P f (flatFnD spec) := by
  intro args h v h' hg C w vs r hv
  unfold flatFnD at hg
  split at hg
  · rename_i l hl
    split at hg
    · rename_i u hsp
      cases hg
      obtain ⟨h1, n, hn⟩ := hr l v hsp
      have hcall := hn n (Nat.le_refl _)
      obtain ⟨p1, p2⟩ := viewDs_ok r hv hl
      have hok := s.call n f l emptyHp ⟨fun _ => none, w.cell?⟩ w vs ⟨fun _ _ h => h, fun id blk e => by simp [emptyHp, Heap.get] at e, fun id id' blk blk' L L' e => by simp [emptyHp, Heap.get] at e, fun id blk L x v e => by simp [emptyHp, Heap.get] at e, fun id L e => (by cases e), r.base.on r.sig (fun _ _ _ => rfl)⟩ p2 (by rw [hcall]; intro e; cases e)
      refine ⟨hok.1, fun cs => ?_⟩
      have := hok.2 cs
      rw [hcall] at this
      obtain ⟨C', w', fr, u, q1, q2, q3, q4, q5, q6⟩ := this
      have hsame : ∀ β, β < w.heap.size -> w'.heap[β]? = w.heap[β]? := fun β hb => q6.same β hb emptyHp_live id
      refine ⟨C, w', fr, u, q1, q2, q3, q4.flat (hp _ _ hsp), ⟨fun x u e => ?_, fun id blk e => ?_, r.inj, r.apart, r.fresh, r.base.on (fun _ _ e => e) (fun x v e => hsame _ (WR.sig_lt (F := Fr.mk 0 false .nil .nil h [] none) r e))⟩, ?_⟩
      · have h1 := r.sig x u e
        have hb := WR.sig_lt (F := Fr.mk 0 false .nil .nil h [] none) r e
        unfold World.cell? at h1 ⊢
        rw [hsame _ hb]
        exact h1
      · obtain ⟨L, k1, k2⟩ := r.blk id blk e
        exact ⟨L, k1, k2.same (.refl C) (hsame _ k2.lt)⟩
      · exact { le := .refl C, os := q6.os, tape := q6.tape, output := q6.output, size := q6.size, same := fun β hb _ _ => hsame β hb, live := fun β hb l => .inl l,
                own := fun _ _ o => o.elim, sig := fun x u hb e => .inl e, next := Nat.le_refl _ }
    · cases hg
  · cases hg
end Go.AM
namespace Go.AM
open Go
variable [Keep]
theorem flatD_fn {X : Ctx} (s : Sound X) {f : FuncId} {spec : List AV -> Option AV} (hp : ∀ args v, spec args = some v -> v.flat = true) (hr : ∀ args v, spec args = some v -> ClR X f args emptyHp (isRet v)) : IntrFn X.P f (flatFnD spec) :=
 flatD_intr s hp fun args v h => by
  obtain ⟨r, h1, h2⟩ := hr args v h
  unfold isRet at h2
  split at h2
  ·subst h2; exact ⟨_, h1⟩
  ·exact h2.elim
theorem intOp_shl_nat (k : IntKind) (a : Int) (n : Nat) : intOp .shl k a (n : Int) = some (.int k (k.wrap (a * 2 ^ min n k.bits))) := by
 have : ¬ ((n : Int) < 0) := by omega
 simp [intOp, this]
theorem intOp_shr_nn (k : IntKind) (a b : Int) (h : 0 <= b) : intOp .shr k a b = some (.int k (a.fdiv (2 ^ min b.toNat k.bits))) := by
 have : ¬ (b < 0) := by omega
 simp [intOp, this]
theorem heap_intr {X : Ctx} (s : Sound X) {f : FuncId} {g : List AV -> Heap -> Option (AV × Heap)} (hr : ∀ args h v h', g args h = some (v, h') -> Cl X f args h (.ret v h' none)) : IntrFn X.P f g := by
 intro args h v h' hg C w vs r hv
 obtain ⟨n, hn⟩ := hr args h v h' hg
 have hcall := hn n (Nat.le_refl _)
 have hok := s.call n f args h C w vs r hv (by rw [hcall]; intro e; cases e)
 refine ⟨hok.1, fun cs => ?_⟩
 have := hok.2 cs
 rw [hcall] at this
 exact this
end Go.AM
namespace Go.AM
open Go Go.Proofs
variable [Keep]
attribute [local irreducible] W WO WO1 WD WQ WT thenQ blockQ endR isRet retK Cl ClR
def SeeV {α : Type} (h : Heap) (c : Cd α) (a : AV) (l : List α) : Prop := ∃ a', viewV h a = some a' /\ slV c a' = some l
theorem SeeV.of {α : Type} {c : Cd α} {a : AV} {l : List α} (hl : slV c a = some l) (h : Heap) : SeeV h c a l := by
 have hp := sl_pur hl
 rcases (slV_is hl).1 with ⟨rfl | rfl, _⟩ | rfl
 ·exact ⟨_, rfl, hl⟩
 ·exact ⟨_, rfl, hl⟩
 ·exact ⟨_, by simp only [viewV, hp, if_true], hl⟩
def fanB (n : Nat) (f : TX.Fa) : Bool := inB f.room 0 (w64 (n - 1)) && inB f.draws 0 50
def setB (n : Nat) (x : Int) : Bool := inB x 0 (w64 (w64 (2 ^ min n 64) - 1))
def houseB (h : TX.Hs) : Bool := inB h.hours 1 4 && inB h.rooms.length 1 3 && decide ((h.fans.length : Int) <= 4) && inB h.hands.length 1 4 && ((h.op.length : Int) == h.hours) && !(h.rooms.any fun r => !roomB r.lo r.hi r.mke r.wt r.stt) && !(h.fans.any fun f => !fanB h.rooms.length f) && !(h.op.any fun x => !setB h.rooms.length x) && !(h.hands.any fun x => !handB x.limit x.most)
def hsV : AV -> Option TX.Hs
 | .agg [.int .i64 n, a, b, c, d] => match slV rmC a, slV faC b, slV intC c, slV haC d with
  | some rs, some fs, some os, some hs => some ⟨n, rs, fs, os, hs⟩
  | _, _, _, _ => none
 | _ => none
theorem hsV_is {x : AV} {h : TX.Hs} (e : hsV x = some h) : ∃ a b c d, x = .agg [.int .i64 h.hours, a, b, c, d] /\ slV rmC a = some h.rooms /\ slV faC b = some h.fans /\ slV intC c = some h.op /\ slV haC d = some h.hands := by
 unfold hsV at e
 split at e
 ·split at e
  ·rename_i h1 h2 h3 h4
   cases e
   exact ⟨_, _, _, _, rfl, h1, h2, h3, h4⟩
  ·cases e
 ·cases e
set_option maxHeartbeats 800000 in
theorem C132 (c : Itr) (hc : c 132 = none) (hc1 : c 102 = some (pureFn sp102)) (n : Int) (ra fa oa ha : AV) (rs : List TX.Rm) (hr : slV rmC ra = some rs) (id : Nat) (h : Heap) (hg : h.get id = some (.var [.int .i64 n, ra, fa, oa, ha])) (f : TX.Fa) :
  Cl (dX c) 132 [faC.enc f, .ptr id 0] h (.ret (.bool (!fanB rs.length f)) h none) := by
 refine ClR.cl ?_
 have hlen := sl_len hr
 have hout := sl_out hr
 clear hr
 refine ClR.walk (c := _) hc Tryz.func132 rfl (by kernel_rfl) rfl (fun e => by cases e) ?_
 simp only [entryEnv, Nat.reduceAdd, faC]
 repeat' (first | refine goS ?_ | (apply U6; exact Z1; exact Z1; (exact K102 hc1 _ _ _ _); simp only [pM, pN, rR, rP]) | (refine go2 ?_ ?_ <;> intro hh) | fail)
 all_goals (simp only [resV_def (X := dX c) Tryz.func132, Tryz.results132]; first | exact J5 | refine J6 ?_)
 all_goals simp_all [isR, frzRes, dX_frz, dFrz, fanB, w64]
set_option maxHeartbeats 800000 in
theorem C133 (c : Itr) (hc : c 133 = none) (hc1 : c 102 = some (pureFn sp102)) (n : Int) (ra fa oa ha : AV) (rs : List TX.Rm) (hr : slV rmC ra = some rs) (id : Nat) (h : Heap) (hg : h.get id = some (.var [.int .i64 n, ra, fa, oa, ha])) (x : Int) :
  Cl (dX c) 133 [intC.enc x, .ptr id 0] h (.ret (.bool (!setB rs.length x)) h none) := by
 refine ClR.cl ?_
 have hlen := sl_len hr
 have hout := sl_out hr
 have hsh : intOp .shl .i64 1 rs.length = some (.int .i64 (w64 (2 ^ min rs.length 64))) := by
  rw [intOp_shl_nat, Int.one_mul]; rfl
 clear hr
 refine ClR.walk (c := _) hc Tryz.func133 rfl (by kernel_rfl) rfl (fun e => by cases e) ?_
 simp only [entryEnv, Nat.reduceAdd, intC]
 repeat' (first | refine goS ?_ | (apply U6; exact Z1; exact Z1; (exact K102 hc1 _ _ _ _); simp only [pM, pN, rR, rP]) | (refine go2 ?_ ?_ <;> intro hh) | fail)
 all_goals (simp only [resV_def (X := dX c) Tryz.func133, Tryz.results133]; first | exact J5 | refine J6 ?_)
 all_goals simp_all [isR, frzRes, dX_frz, dFrz, setB, w64]
def sp82 : List AV -> Option AV
 | [x] => (hsV x).map fun h => .bool (houseB h)
 | _ => none
theorem p82 : ∀ args v, sp82 args = some v -> v.flat = true := by
 intro args v h
 unfold sp82 at h
 split at h
 ·simp only [Option.map_eq_some_iff] at h; obtain ⟨l, _, rfl⟩ := h; rfl
 ·cases h
noncomputable def cYC : Itr
 | 102 => some (pureFn sp102)
 | 130 => some (pureFn sp130)
 | 135 => some (pureFn sp135)
 | _ => none
theorem cYC_sound : Sound (dX cYC) := dX_sound (fun f g h => by
 unfold cYC at h
 split at h
 ·cases h; exact F102
 ·cases h; exact F130
 ·cases h; exact F135
 ·cases h)
set_option maxHeartbeats 4000000 in
theorem R82 : ∀ args v, sp82 args = some v -> ClR (dX cYC) 82 args emptyHp (isRet v) := by
 intro args v h
 unfold sp82 at h
 split at h
 ·rename_i x
  simp only [Option.map_eq_some_iff] at h
  obtain ⟨hs, hh, rfl⟩ := h
  obtain ⟨ra, fa, oa, ha, rfl, v1, v2, v3, v4⟩ := hsV_is hh
  obtain ⟨n, rs, fs, os, hds⟩ := hs
  simp only at v1 v2 v3 v4
  have l1 := sl_len v1
  have l2 := sl_len v2
  have l3 := sl_len v3
  have l4 := sl_len v4
  have o1 := sl_out v1
  have o2 := sl_out v2
  have o3 := sl_out v3
  have o4 := sl_out v4
  have c1 : Cl (dX cYC) 129 [ra, .func (.func 130) [] []] (emptyHp.new (.var [.int .i64 n, ra, fa, oa, ha])) (.ret (.bool (rs.any fun r => !roomB r.lo r.hi r.mke r.wt r.stt)) (emptyHp.new (.var [.int .i64 n, ra, fa, oa, ha])) none) :=
   C129 cYC rfl rfl _ _ v1 130 [] [] _ _ fun p _ => K130 rfl _ _ _ _ _ _
  have c2 : Cl (dX cYC) 131 [fa, .func (.func 132) [] [.ptr 0 0]] (emptyHp.new (.var [.int .i64 n, ra, fa, oa, ha])) (.ret (.bool (fs.any fun f => !fanB rs.length f)) (emptyHp.new (.var [.int .i64 n, ra, fa, oa, ha])) none) :=
   C131 cYC rfl rfl _ _ v2 132 [] [.ptr 0 0] _ _ fun p _ => C132 cYC rfl rfl n ra fa oa ha rs v1 0 _ rfl p
  have c3 : Cl (dX cYC) 92 [oa, .func (.func 133) [] [.ptr 0 0]] (emptyHp.new (.var [.int .i64 n, ra, fa, oa, ha])) (.ret (.bool (os.any fun x => !setB rs.length x)) (emptyHp.new (.var [.int .i64 n, ra, fa, oa, ha])) none) :=
   C92 cYC rfl rfl _ _ v3 133 [] [.ptr 0 0] _ _ fun p _ => C133 cYC rfl rfl n ra fa oa ha rs v1 0 _ rfl p
  have c4 : Cl (dX cYC) 134 [ha, .func (.func 135) [] []] (emptyHp.new (.var [.int .i64 n, ra, fa, oa, ha])) (.ret (.bool (hds.any fun x => !handB x.limit x.most)) (emptyHp.new (.var [.int .i64 n, ra, fa, oa, ha])) none) :=
   C134 cYC rfl rfl _ _ v4 135 [] [] _ _ fun p _ => K135 rfl _ _ _
  have hn0 : emptyHp.next = 0 := rfl
  have hg0 : (emptyHp.new (.var [.int .i64 n, ra, fa, oa, ha])).get 0 = some (.var [.int .i64 n, ra, fa, oa, ha]) := rfl
  clear hh v1 v2 v3 v4
  have hB0 : ∀ b1 b2 b3 b4 b5 b6 b7, (rs.any fun r => !roomB r.lo r.hi r.mke r.wt r.stt) = b1 -> (fs.any fun f => !fanB rs.length f) = b2 -> (os.any fun x => !setB rs.length x) = b3 -> (hds.any fun x => !handB x.limit x.most) = b4 -> inB n 1 4 = b5 -> inB rs.length 1 3 = b6 -> inB hds.length 1 4 = b7 ->
    houseB ⟨n, rs, fs, os, hds⟩ = (b5 && b6 && decide ((fs.length : Int) <= 4) && b7 && ((os.length : Int) == n) && !b1 && !b2 && !b3 && !b4) := by
   intro b1 b2 b3 b4 b5 b6 b7 h1 h2 h3 h4 h5 h6 h7; simp only [houseB, h1, h2, h3, h4, h5, h6, h7]
  generalize hb1 : (rs.any fun r => !roomB r.lo r.hi r.mke r.wt r.stt) = b1 at c1
  generalize hb2 : (fs.any fun f => !fanB rs.length f) = b2 at c2
  generalize hb3 : (os.any fun x => !setB rs.length x) = b3 at c3
  generalize hb4 : (hds.any fun x => !handB x.limit x.most) = b4 at c4
  have hB := J1 (hB0 b1 b2 b3 b4 _ _ _ hb1 hb2 hb3 hb4 rfl rfl rfl)
  clear hb1 hb2 hb3 hb4 hB0
  refine ClR.walk (c := _) rfl Tryz.func82 rfl (by kernel_rfl) rfl isRet_fail ?_
  simp only [entryEnv, Nat.reduceAdd]
  repeat' (first | (apply U6; exact Z1; exact Z1; (focus (simp only [List.nil_append, List.append_nil]; assumption)); simp only [pM, pN, rR, rP]) | refine go1 ?_ | (apply U6; exact Z1; exact Z1; (exact K102 rfl _ _ _ _); simp only [pM, pN, rR, rP]) | (refine go2 ?_ ?_ <;> intro hh) | fail)
  all_goals (simp only [resV_def (X := dX cYC) Tryz.func82, Tryz.results82]; first | exact J5 | refine J6 ?_)
  all_goals (rw [hB.out]; clear hB c1 c2 c3 c4 hg0 hn0 l1 l2 l3 l4 o1 o2 o3 o4; first | (simp_all; done) | (simp_all; intros; exfalso; omega))
 ·cases h
theorem F82D : IntrFn Tryz.prog 82 (flatFnD sp82) := flatD_fn (X := dX cYC) cYC_sound p82 R82
end Go.AM
