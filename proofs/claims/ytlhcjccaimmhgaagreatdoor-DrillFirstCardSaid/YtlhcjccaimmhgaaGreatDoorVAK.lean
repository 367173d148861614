/-
  A part of the proof: contracts of functions.
-/
import Derived.Test.YtlhcjccaimmhgaaGreatDoorVAJ
import Derived.Test.YtlhcjccaimmhgaaGreatDoorVAI
import Derived.Test.YtlhcjccaimmhgaaGreatDoorVAG
import Derived.Shelf.LaysM
import Derived.Test.YtlhcjccaimmhgaaGreatDoorProg
import Derived.KernelRfl
set_option linter.unusedSimpArgs false
set_option linter.unusedVariables false
set_option linter.unusedSectionVars false
namespace Go.AM
open Go Go.Proofs
variable [Keep]
def h103 (args : List AV) (h : Heap) : Option AV :=
 match args with
 | [a, .row id off len] => (match h.get id with
  | some (.rw sz el) => if (Nat.beq sz 5 && Nat.ble (off + len) el.length && AV.purL el) = true then sp103 [a, .vslice ((el.drop off).take len)] else none
  | _ => none)
 | args => sp103 args
theorem hp103 : ∀ args h v, h103 args h = some v -> v.pur = true := by
 intro args h v e
 unfold h103 at e
 split at e
 ·split at e
  ·split at e
   ·exact p103 _ _ e
   ·cases e
  ·cases e
 ·exact p103 _ _ e
theorem H103 : IntrFn Tryz.prog 103 (onHeap h103) := by
 refine row_intr (X := dX cN) cN_sound hp103 ?_
 intro args h v hfr e
 have run : ∀ (a ma ma' : AV) (m : Mp Blk), sp103 [a, ma] = some v -> (∀ hs, slV heldC ma = some hs -> RdH ⟨h.next, m⟩ ma' hs) -> (∀ id b, m.get id = some b -> id < h.next) ->
   ∃ h' k, callF (dX cN) (ev (dX cN) k) 103 [a, ma'] ⟨h.next, m⟩ = .ret v h' none /\ ∀ id b, m.get id = some b -> h'.get id = some b := by
  intro a ma ma' m e hrd hlt
  unfold sp103 at e
  split at e
  ·rename_i sa cxl cxh cyl cyh wxl wxh wyl wyh ra mv ma0 heq
   cases heq
   split at e
   ·rename_i rs hs hr hm
    split at e
    ·rename_i hc
     cases e
     simp only [Bool.and_eq_true, Nat.ble_eq] at hc
     have q := C103 cN rfl rfl rfl rfl rfl rfl sa mv ra ma' ⟨cxl, cxh⟩ ⟨cyl, cyh⟩ ⟨wxl, wxh⟩ ⟨wyl, wyh⟩ rs hs h.next m hr (hrd hs hm) hc.1.1 hc.1.2 hc.2
     unfold ClR at q
     obtain ⟨r, ⟨k, q1⟩, h', q2, rfl⟩ := q
     exact ⟨_, k, q1 k (Nat.le_refl _), fun id b e => (q2.2 id (hlt id b e)).trans e⟩
    ·cases e
   ·cases e
  ·cases e
 unfold h103 at e
 split at e
 ·rename_i a id off len
  split at e
  ·rename_i sz el hg
   split at e
   ·rename_i hc
    simp only [Bool.and_eq_true, Nat.ble_eq] at hc
    obtain ⟨⟨hz, hle⟩, hpu⟩ := hc
    have hz := Nat.eq_of_beq_eq_true hz
    subst hz
    have hid := hfr id _ hg
    have hget : ∀ id' b, ((Mp.nil : Mp Blk).set id (.rw 5 el)).get id' = some b -> id' = id /\ b = .rw 5 el := by
     intro id' b e
     by_cases hh : (id == id') = true
     ·have := beq_iff_eq.1 hh
      subst this
      rw [get_set_same] at e
      exact ⟨rfl, (Option.some.inj e).symm⟩
     ·rw [get_set_lit _ _ _ _ (by simpa using hh)] at e
      simp at e
    refine ⟨(Mp.nil : Mp Blk).set id (.rw 5 el), fun id' b e => ?_, ?_⟩
    ·obtain ⟨rfl, rfl⟩ := hget id' b e
     exact ⟨hg, 5, el, rfl, purL_mem.1 hpu⟩
    ·refine run a _ (.row id off len) _ e (fun hs hm => ?_) (fun id' b e => by obtain ⟨rfl, _⟩ := hget id' b e; exact hid)
     have hl : (el.drop off).take len = hs.map heldC.enc := by
      rcases (slV_is hm).1 with ⟨h1, _⟩ | h1
      ·rcases h1 with h1 | h1 <;> cases h1
      ·exact AV.vslice.inj h1
     have hlen : hs.length = len := by
      have := congrArg List.length hl
      simp at this
      omega
     subst hlen
     exact rdH_row (get_set_same _ _ _) hid hl hle
   ·cases e
  ·cases e
 ·rename_i hne
  have h2 : ∃ a ma, args = [a, ma] := by
   unfold sp103 at e
   split at e
   ·exact ⟨_, _, rfl⟩
   ·cases e
  obtain ⟨a, ma, rfl⟩ := h2
  refine ⟨.nil, fun id b e => by simp at e, ?_⟩
  exact run a ma ma .nil e (fun hs hm => rdH_sl hm) (fun id b e => by simp at e)
end Go.AM
set_option maxRecDepth 100000
namespace Go.AM
open Go Go.Proofs
variable [Keep]
attribute [local irreducible] W WO WO1 WD WQ WT thenQ blockQ endR isRet retK Cl ClR
theorem int_idx {a : AV} {l : List Int} (h : slV intC a = some l) {k : Nat} {p : Int} (hp : l[k]? = some p) (H : Heap) : indexAddrV Tryz.prog H 39 a (.int .i64 ↑k) = some (.vptr [.int .i64 p]) :=
 (slV_is h).1.idx (x := intC.enc p) Tryz.underlying39 ty_lay3 (by simp [hp]) rfl
def sp166 : List AV -> Option AV
 | [a, .int .i64 v] => (slV intC a).map fun l => .int .i64 (idxOf (fun x => decide (v = x)) l)
 | _ => none
theorem p166 : ∀ args v, sp166 args = some v -> v.flat = true := by
 intro args v h
 unfold sp166 at h
 split at h
 ·simp only [Option.map_eq_some_iff] at h; obtain ⟨l, _, rfl⟩ := h; rfl
 ·cases h
theorem C166 (c : Itr) (hc : c 166 = none) (a : AV) (l : List Int) (ha : slV intC a = some l) (v : Int) (h : Heap) : ClR (dX c) 166 [a, .int .i64 v] h (isRet (.int .i64 (idxOf (fun x => decide (v = x)) l))) := by
 have hlen := sl_len ha
 have hout := sl_out ha
 have hmax := sl_max ha
 refine ClR.walk (c := _) hc Tryz.func166 rfl (by kernel_rfl) rfl isRet_fail ?_
 simp only [entryEnv, Nat.reduceAdd]
 repeat' (first | refine goS ?_ | refine go2 (fun hh => ?_) (fun hh => ?_) | fail)
 refine W.loopN l.length (fun k F => ∃ e, F = Fr.mk 166 false e .nil h [] none /\ (l.take k).all (fun x => !decide (v = x)) = true /\ e.get 0 = some a /\ e.get 1 = some (.int .i64 v) /\ e.get 7 = some (.int .i64 ↑l.length) /\ e.get 8 = some (.int .i64 ↑k) /\ k <= l.length) ?_ ?_
 ·refine ⟨_, rfl, ?_, ?_, ?_, ?_, ?_, ?_⟩ <;> simp [go_sem, *]
 rintro k F ⟨e, rfl, hall, h0, h1, h7, h8, hk⟩
 have HA := Lib.hid hall
 clear hall
 by_cases hlt : k < l.length
 ·obtain ⟨p, hp⟩ := get_some hlt
  have hix := int_idx ha hp
  have hd : decide ((k : Int) < (l.length : Int)) = true := by simpa using hlt
  have hw := wrap_succ hlt hmax
  have hnx := take_next hp
  by_cases hvp : v = p
  ·have HI := Lib.hid (idxOf_at (pb := fun x => decide (v = x)) HA.out hp (by simpa using hvp))
   have hb : decide (v = p) = true := by simpa using hvp
   have hb2 : (v == p) = true := by simpa using hvp
   clear ha hp hnx hvp
   repeat' (first | refine goS ?_ | refine go2 (fun hh => ?_) (fun hh => ?_) | fail)
   all_goals (simp only [resV_def (X := dX c) Tryz.func166, Tryz.results166]; first | exact J5 | refine J6 ?_)
   rw [HI.out]
  ·have hb : decide (v = p) = false := by simpa using hvp
   have hb2 : (v == p) = false := by simpa using hvp
   have HN := Lib.hid hnx
   clear ha hp hnx hvp
   repeat' (first | refine goS ?_ | refine go2 (fun hh => ?_) (fun hh => ?_) | fail)
   refine ⟨hlt, _, rfl, ?_, ?_, ?_, ?_, ?_, by omega⟩
   ·have := HA.out
    rw [HN.out]; simp_all
   all_goals exact Z2
 ·have hd : decide ((k : Int) < (l.length : Int)) = false := by simpa using hlt
  have hkl : k = l.length := by omega
  have h2 := HA.out
  rw [hkl, List.take_length] at h2
  have HI := Lib.hid (idxOf_none h2)
  clear ha h2 hkl
  repeat' (first | refine goS ?_ | refine go2 (fun hh => ?_) (fun hh => ?_) | fail)
  all_goals (simp only [resV_def (X := dX c) Tryz.func166, Tryz.results166]; first | exact J5 | refine J6 ?_)
  rw [HI.out]
noncomputable def cO : Itr := fun _ => none
theorem cO_sound : Sound (dX cO) := dX_sound (fun f g h => by cases h)
theorem F166 : IntrFn Tryz.prog 166 (flatFn sp166) := by
 refine flat_fn (X := dX cO) cO_sound p166 ?_
 intro args v h
 unfold sp166 at h
 split at h
 ·simp only [Option.map_eq_some_iff] at h
  obtain ⟨l, hl, rfl⟩ := h
  exact C166 cO rfl _ l hl _ _
 ·cases h
end Go.AM
namespace Go.AM
open Go Go.Proofs Go.Shelf Go.Sort Go.RowKit
variable [Keep]
def strsOf : List AV -> Option (List (List UInt8))
 | [] => some []
 | .str s :: r => match strsOf r with | some l => some (s :: l) | none => none
 | _ => none
theorem strsOf_eq : ∀ {l : List AV} {xs : List (List UInt8)}, strsOf l = some xs -> l = xs.map AV.str := by
 intro l
 induction l with
 | nil => intro xs h; simp [strsOf] at h; subst h; rfl
 | cons a l ih =>
  intro xs h
  unfold strsOf at h
  split at h
  ·rename_i e; cases e
  ·rename_i s r e
   cases e
   split at h
   ·rename_i l' h'
    cases h
    rw [ih h']; rfl
   ·cases h
  ·cases h
theorem WR.strs {C : Cfg} {h : Heap} {w : World} (r : WR C h w) {y : AV} {yv : Value} {xs : List (List UInt8)} (hv : VR C y yv) (he : h.elems y = some (xs.map AV.str)) :
  (xs = [] /\ ∃ p c, yv = .slice p 0 c) \/ ∃ B O c, yv = .slice (some ⟨B, O, none⟩) xs.length c /\ xs.length <= c /\ ∀ (i : Nat) (s : List UInt8), xs[i]? = some s -> w.cell? ⟨B, O + i, none⟩ = some (.string ⟨⟨s⟩⟩) := by
 unfold Heap.elems at he
 split at he
 ·cases hv
  have : xs = [] := by simpa using he.symm
  exact .inl ⟨this, _, _, rfl⟩
 ·cases hv
  have : xs = [] := by simpa using he.symm
  exact .inl ⟨this, _, _, rfl⟩
 ·have he := Option.some.inj he
  subst he
  generalize hl : xs.map AV.str = l at hv
  cases hv with
  | vslice0 a cap =>
   have : xs = [] := by simpa using hl
   exact .inl ⟨this, _, _, rfl⟩
  | vslice vs k1 k2 k3 k4 k5 =>
   rename_i sz b o cap
   subst hl
   refine .inr ⟨b, o, cap, by simp, by simpa using k1, fun i s hi => ?_⟩
   have hlt : i < xs.length := (List.getElem?_eq_some_iff.1 hi).1
   have hmem : AV.str s ∈ xs.map AV.str := List.mem_map.2 ⟨s, List.mem_of_getElem? hi, rfl⟩
   have hsz : sz = 1 := by have := k2 _ hmem; simpa [AV.cells] using this.symm
   subst hsz
   have hg : (xs.map AV.str).getD i .junk = .str s := by simp [List.getD, hi]
   have hs := r.sig _ _ (k3 i 0 (by simpa using hlt) (by omega))
   have hv := k4 i 0 (by simpa using hlt) (by omega)
   rw [hg] at hv
   simp only [AV.cells, List.getD, List.getElem?_cons_zero, Option.getD_some] at hv
   generalize vs i 0 = u at hs hv
   cases hv
   simpa using hs
 ·rename_i id off len
  split at he
  ·rename_i sz el hg
   split at he
   ·rename_i hle
    have he := Option.some.inj he
    obtain ⟨L, e1, c, f1, f2, f3, f4, f5⟩ := r.blk id _ hg
    cases hv with
    | row A e2 k1 k2 k3 =>
     rw [e1] at e2
     cases e2
     rename_i cap
     have hlen : xs.length = len := by
      have := congrArg List.length he
      simp at this
      omega
     by_cases hx : xs = []
     ·subst hx
      simp at hlen
      subst hlen
      exact .inl ⟨rfl, _, _, rfl⟩
     ·have hpos : 0 < xs.length := List.length_pos_iff.2 hx
      rcases k2 with rfl | rfl
      ·omega
      ·refine .inr ⟨L.b, L.o + off * L.sz, cap, by rw [hlen], by omega, fun i s hi => ?_⟩
       have hlt : i < xs.length := (List.getElem?_eq_some_iff.1 hi).1
       have hei : el[off + i]? = some (.str s) := by
        have : ((el.drop off).take len)[i]? = some (.str s) := by rw [he]; simp [hi]
        rw [List.getElem?_take, List.getElem?_drop] at this
        split at this
        ·exact this
        ·cases this
       obtain ⟨g1, g2, g3⟩ := f5 _ _ hei
       have hsz : L.sz = 1 := by rw [f2]; simpa [AV.cells] using g1.symm
       obtain ⟨u, hu, hv⟩ := g3 0 (.str s) rfl
       cases hv
       have hcell := f1
       rw [hsz]
       have hu' : c[L.o + (off + i) * 1 + 0]? = some (Value.string ⟨⟨s⟩⟩) := by rw [<- f2, hsz] at hu; exact hu
       have e3 : L.o + off * 1 + i = L.o + (off + i) * 1 + 0 := by omega
       rw [e3, hcell.cell]
       exact hu'
   ·cases he
  ·cases he
 ·cases he
theorem VRs.two {C : Cfg} {a b : AV} {vs : Array Value} (h : VRs C [a, b] vs) : ∃ u v, vs = #[u, v] /\ VR C a u /\ VR C b v := by
 obtain ⟨hs, hi⟩ := h
 have hs' : vs.size = 2 := by simpa using hs
 refine ⟨vs.getD 0 undef, vs.getD 1 undef, ?_, hi 0 (by simp), hi 1 (by simp)⟩
 apply Array.ext (by simpa using hs')
 intro i h1 h2
 have : i = 0 \/ i = 1 := by simp at h2; omega
 rcases this with rfl | rfl <;> simp [Array.getD, hs']
def spJoin : List AV -> Heap -> Option (AV × Heap)
 | [a, .str sep], h => match h.elems a with
  | some l => match strsOf l with
   | some xs => if Nat.ble xs.length maxL && Nat.ble (Lib.join xs sep).length maxL then some (.str (Lib.join xs sep), h) else none
   | none => none
  | none => none
 | _, _ => none
theorem join_intr {P : Program} {ρ : Ren} (L : Lays.n156 P ρ) (X : Builder.Extra P ρ) (hb : ∃ fn, P.funcs[ρ.f 156]? = some fn /\ fn.body.isSome = true) : IntrFn P (ρ.f 156) spJoin := by
 intro args h v h' hg C w vs r hv
 refine ⟨hb, fun cs => ?_⟩
 unfold spJoin at hg
 split at hg
 ·rename_i a sep
  split at hg
  ·rename_i l hl
   split at hg
   ·rename_i xs hxs
    split at hg
    ·rename_i hc
     cases hg
     simp only [Bool.and_eq_true, Nat.ble_eq] at hc
     obtain ⟨u, t, rfl, ha, ht⟩ := hv.two
     cases ht
     rw [strsOf_eq hxs] at hl
     have hbelow : ∀ {w' : World}, Below w.heap.size w w' -> w'.os = w.os /\ w'.tape = w.tape /\ w'.output = w.output /\ w.heap.size <= w'.heap.size /\ ∀ β, β < w.heap.size -> w'.heap[β]? = w.heap[β]? := fun b => ⟨b.os, b.tape, b.output, b.size, b.block⟩
     rcases r.strs ha hl with ⟨rfl, p, c, rfl⟩ | ⟨B, O, c, rfl, h1, h2⟩
     ·refine lib_left r ((Any.strings_Join_none L X p c ⟨⟨sep⟩⟩ w).mono fun e w' q => ?_) cs
      obtain ⟨rfl, rfl⟩ := q
      exact ⟨_, rfl, .str _, hbelow (Below.refl _ _)⟩
     ·by_cases hx : xs = []
      ·subst hx
       refine lib_left r ((Any.strings_Join_none L X _ c ⟨⟨sep⟩⟩ w).mono fun e w' q => ?_) cs
       obtain ⟨rfl, rfl⟩ := q
       exact ⟨_, rfl, .str _, hbelow (Below.refl _ _)⟩
      ·have hpos : 0 < xs.length := List.length_pos_iff.2 hx
       have hB : B < w.heap.size := by
        have q := h2 0 xs[0] (by simp [hpos])
        rcases Nat.lt_or_ge B w.heap.size with h' | h'
        ·exact h'
        ·simp [World.cell?, Array.getElem?_eq_none h'] at q
       have hmap : (xs.map fun s => (⟨⟨s⟩⟩ : ByteArray)).map (·.data.toList) = xs := by simp [Function.comp_def]
       have hcall := Any.strings_Join L X B O c (xs.map fun s => ⟨⟨s⟩⟩) ⟨⟨sep⟩⟩ w (fun j x hj => by
         rw [List.getElem?_map, Option.map_eq_some_iff] at hj
         obtain ⟨s, hj, rfl⟩ := hj
         exact h2 j s hj) hB (by simp only [List.length_map]; unfold maxL at hc; omega) (by simpa using h1) (by rw [hmap]; show (Lib.join xs sep).length <= _; unfold maxL at hc; have := hc.2; omega)
       rw [List.length_map] at hcall
       refine lib_left r (hcall.mono fun e w' q => ?_) cs
       obtain ⟨rfl, q⟩ := q
       refine ⟨_, rfl, ?_, hbelow q⟩
       rw [hmap]
       exact .str _
    ·cases hg
   ·cases hg
  ·cases hg
 ·cases hg
end Go.AM
namespace Go.Proofs
open Go.Shelf
def Tryz.lays156_ren : Go.Shelf.Ren := ⟨fun | 156 => 182 | 165 => 198 | 166 => 199 | 169 => 200 | 240 => 205 | 241 => 206 | 276 => 215 | 277 => 216 | n => n, fun | 31 => 208 | 9 => 9 | 3 => 3 | 4 => 4 | 0 => 0 | 20 => 20 | 72 => 266 | 76 => 270 | 70 => 264 | 37 => 131 | 75 => 269 | 127 => 276 | 164 => 286 | 5 => 5 | 80 => 272 | n => n, fun | n => n⟩
theorem Tryz.lays156 : Go.Proofs.Lays.n156 Tryz.prog Tryz.lays156_ren := {
  mixed := by kernel_rfl
  f156 := Tryz.func182.trans (congrArg some (by kernel_rfl))
  f165 := Tryz.func198.trans (congrArg some (by kernel_rfl))
  f166 := Tryz.func199.trans (congrArg some (by kernel_rfl))
  f169 := Tryz.func200.trans (congrArg some (by kernel_rfl))
  f240 := Tryz.func205.trans (congrArg some (by kernel_rfl))
  f241 := Tryz.func206.trans (congrArg some (by kernel_rfl))
  f276 := Tryz.func215.trans (congrArg some (by kernel_rfl))
  f277 := Tryz.func216.trans (congrArg some (by kernel_rfl))
  t0 := Tryz.underlying0
  a0 := Tryz.isAgg0
  z0 := Tryz.sizeOf0
  v0 := Tryz.zeroValue0
  t3 := Tryz.underlying3
  a3 := Tryz.isAgg3
  z3 := Tryz.sizeOf3
  v3 := Tryz.zeroValue3
  t4 := Tryz.underlying4
  a4 := Tryz.isAgg4
  z4 := Tryz.sizeOf4
  v4 := Tryz.zeroValue4
  t9 := Tryz.underlying9
  a9 := Tryz.isAgg9
  z9 := Tryz.sizeOf9
  v9 := Tryz.zeroValue9
  t20 := Tryz.underlying20
  a20 := Tryz.isAgg20
  z20 := Tryz.sizeOf20
  v20 := Tryz.zeroValue20
  t31 := Tryz.underlying208
  a31 := Tryz.isAgg208
  z31 := Tryz.sizeOf208
  v31 := Tryz.zeroValue208
  t37 := Tryz.underlying131
  a37 := Tryz.isAgg131
  z37 := Tryz.sizeOf131
  v37 := Tryz.zeroValue131
  t70 := Tryz.underlying264
  a70 := Tryz.isAgg264
  z70 := Tryz.sizeOf264
  v70 := Tryz.zeroValue264
  t72 := Tryz.underlying266
  a72 := Tryz.isAgg266
  z72 := Tryz.sizeOf266
  v72 := Tryz.zeroValue266
  t75 := Tryz.underlying269
  a75 := Tryz.isAgg269
  z75 := Tryz.sizeOf269
  v75 := Tryz.zeroValue269
  t76 := Tryz.underlying270
  a76 := Tryz.isAgg270
  z76 := Tryz.sizeOf270
  v76 := Tryz.zeroValue270
  t127 := Tryz.underlying276
  a127 := Tryz.isAgg276
  z127 := Tryz.sizeOf276
  v127 := Tryz.zeroValue276
  t164 := Tryz.underlying286
  a164 := Tryz.isAgg286
  z164 := Tryz.sizeOf286
  v164 := Tryz.zeroValue286 }
theorem Tryz.Builder_Extra_156 : Builder.Extra Tryz.prog Tryz.lays156_ren := {
  sizeBuilder := by kernel_rfl
  liesBuilder := by kernel_rfl
  t5 := Tryz.underlying5
  a5 := Tryz.isAgg5
  z5 := Tryz.sizeOf5
  v5 := Tryz.zeroValue5
  infoByte := by kernel_rfl
  cellsByte := by kernel_rfl
  sizeByte := by kernel_rfl
  neB5 := by decide }
def Tryz.laysM171_ren : Go.Shelf.Ren := ⟨fun | 171 => 181 | 243 => 197 | 246 => 204 | 283 => 211 | 284 => 212 | 285 => 213 | 286 => 214 | 129 => 223 | 317 => 222 | 318 => 224 | 319 => 225 | 320 => 226 | 337 => 233 | 338 => 234 | n => n, fun | 3 => 3 | 9 => 9 | 2 => 2 | 4 => 4 | 171 => 280 | 0 => 0 | 53 => 281 | 37 => 131 | 5 => 5 | 173 => 284 | 212 => 294 | 51 => 295 | 20 => 20 | 213 => 296 | 46 => 297 | 232 => 307 | 233 => 308 | n => n, fun | 17 => 0 | 18 => 4 | 19 => 5 | n => n⟩
theorem Tryz.laysM171 : Go.Proofs.LaysM.n171 Tryz.prog Tryz.laysM171_ren := {
  mixed := by kernel_rfl
  f129 := Tryz.func223.trans (congrArg some (by kernel_rfl))
  f171 := Tryz.func181.trans (congrArg some (by kernel_rfl))
  f243 := Tryz.func197.trans (congrArg some (by kernel_rfl))
  f246 := Tryz.func204.trans (congrArg some (by kernel_rfl))
  f283 := Tryz.func211.trans (congrArg some (by kernel_rfl))
  f284 := Tryz.func212.trans (congrArg some (by kernel_rfl))
  f285 := Tryz.func213.trans (congrArg some (by kernel_rfl))
  f286 := Tryz.func214.trans (congrArg some (by kernel_rfl))
  f317 := Tryz.func222.trans (congrArg some (by kernel_rfl))
  f318 := Tryz.func224.trans (congrArg some (by kernel_rfl))
  f319 := Tryz.func225.trans (congrArg some (by kernel_rfl))
  f320 := Tryz.func226.trans (congrArg some (by kernel_rfl))
  f337 := Tryz.func233.trans (congrArg some (by kernel_rfl))
  f338 := Tryz.func234.trans (congrArg some (by kernel_rfl))
  t0 := Tryz.underlying0
  a0 := Tryz.isAgg0
  z0 := Tryz.sizeOf0
  v0 := Tryz.zeroValue0
  t2 := Tryz.underlying2
  a2 := Tryz.isAgg2
  z2 := Tryz.sizeOf2
  v2 := Tryz.zeroValue2
  t3 := Tryz.underlying3
  a3 := Tryz.isAgg3
  z3 := Tryz.sizeOf3
  v3 := Tryz.zeroValue3
  t4 := Tryz.underlying4
  a4 := Tryz.isAgg4
  z4 := Tryz.sizeOf4
  v4 := Tryz.zeroValue4
  t5 := Tryz.underlying5
  a5 := Tryz.isAgg5
  z5 := Tryz.sizeOf5
  v5 := Tryz.zeroValue5
  t9 := Tryz.underlying9
  a9 := Tryz.isAgg9
  z9 := Tryz.sizeOf9
  v9 := Tryz.zeroValue9
  t20 := Tryz.underlying20
  a20 := Tryz.isAgg20
  z20 := Tryz.sizeOf20
  v20 := Tryz.zeroValue20
  t37 := Tryz.underlying131
  a37 := Tryz.isAgg131
  z37 := Tryz.sizeOf131
  v37 := Tryz.zeroValue131
  t46 := Tryz.underlying297
  a46 := Tryz.isAgg297
  z46 := Tryz.sizeOf297
  v46 := Tryz.zeroValue297
  t51 := Tryz.underlying295
  a51 := Tryz.isAgg295
  z51 := Tryz.sizeOf295
  v51 := Tryz.zeroValue295
  t53 := Tryz.underlying281
  a53 := Tryz.isAgg281
  z53 := Tryz.sizeOf281
  v53 := Tryz.zeroValue281
  t171 := Tryz.underlying280
  a171 := Tryz.isAgg280
  z171 := Tryz.sizeOf280
  v171 := Tryz.zeroValue280
  t173 := Tryz.underlying284
  a173 := Tryz.isAgg284
  z173 := Tryz.sizeOf284
  v173 := Tryz.zeroValue284
  t212 := Tryz.underlying294
  a212 := Tryz.isAgg294
  z212 := Tryz.sizeOf294
  v212 := Tryz.zeroValue294
  t213 := Tryz.underlying296
  a213 := Tryz.isAgg296
  z213 := Tryz.sizeOf296
  t232 := Tryz.underlying307
  a232 := Tryz.isAgg307
  z232 := Tryz.sizeOf307
  v232 := Tryz.zeroValue307
  t233 := Tryz.underlying308
  a233 := Tryz.isAgg308
  z233 := Tryz.sizeOf308
  v233 := Tryz.zeroValue308
  g17 := by kernel_rfl
  g18 := by kernel_rfl
  g19 := by kernel_rfl
  i0 := by kernel_rfl
  i2 := by kernel_rfl
  i3 := by kernel_rfl
  i4 := by kernel_rfl
  i5 := by kernel_rfl
  i9 := by kernel_rfl
  i20 := by kernel_rfl
  i37 := by kernel_rfl
  i46 := by kernel_rfl
  i51 := by kernel_rfl
  i53 := by kernel_rfl
  i171 := by kernel_rfl
  i173 := by kernel_rfl
  i212 := by kernel_rfl
  i232 := by kernel_rfl
  i233 := by kernel_rfl
  m17 := by kernel_rfl
  m18 := by kernel_rfl
  m19 := by kernel_rfl }
end Go.Proofs
namespace Go.AM
open Go Go.Proofs
variable [Keep]
theorem r181 : Tryz.laysM171_ren.f 171 = 181 := rfl
theorem r182 : Tryz.lays156_ren.f 156 = 182 := rfl
theorem b181 : ∃ fn, Tryz.prog.funcs[181]? = some fn /\ fn.body.isSome = true := ⟨_, Tryz.func181, by kernel_rfl⟩
theorem b182 : ∃ fn, Tryz.prog.funcs[182]? = some fn /\ fn.body.isSome = true := ⟨_, Tryz.func182, by kernel_rfl⟩
theorem F181 (hT : TabK Tryz.prog) : IntrFn Tryz.prog 181 (atOnce spItoa) := by
 have h := itoa_intr Tryz.laysM171 hT (by rw [r181]; exact b181)
 rw [r181] at h
 exact h
theorem F182 : IntrFn Tryz.prog 182 spJoin := by
 have h := join_intr Tryz.lays156 Tryz.Builder_Extra_156 (by rw [r182]; exact b182)
 rw [r182] at h
 exact h
end Go.AM
namespace Go.AM
open Go Go.Proofs
def cK : Itr
 | 26 => some (pureFn sp26)
 | 27 => some (pureFn sp27)
 | 28 => some (flatFn sp28)
 | 29 => some (flatFn sp29)
 | 30 => some (pureFn sp30)
 | 53 => some (flatFn sp53)
 | 80 => some (pureFn sp80)
 | 81 => some (pureFn sp81)
 | 92 => some (pureFn sp92)
 | 93 => some (pureFn sp93)
 | 94 => some (flatFn sp94)
 | 95 => some (pureFn sp95)
 | 96 => some (pureFn sp96)
 | 97 => some (pureFn sp97)
 | 98 => some (pureFn sp98)
 | 103 => some (onHeap h103)
 | 135 => some (pureFn sp135)
 | 149 => some (pureFn sp149)
 | 151 => some (pureFn sp151)
 | 158 => some (pureFn sp158)
 | 174 => some (pureFn sp174)
 | 190 => some (pureFn sp190)
 | 252 => some (pureFn sp252)
 | 253 => some (pureFn sp253)
 | 166 => some (flatFn sp166)
 | 181 => some (atOnce spItoa)
 | 182 => some spJoin
 | _ => none
def isTrue : COut -> Bool
 | .ret (.bool b) _ none => b
 | _ => false
section
variable [Keep]
theorem cK_sound (hT : TabK Tryz.prog) : Sound (dX cK) := dX_sound (fun f g h => by
 unfold cK at h
 split at h
 ·cases h; exact F26
 ·cases h; exact F27
 ·cases h; exact F28
 ·cases h; exact F29
 ·cases h; exact F30
 ·cases h; exact F53
 ·cases h; exact F80
 ·cases h; exact F81
 ·cases h; exact F92
 ·cases h; exact F93
 ·cases h; exact F94
 ·cases h; exact F95
 ·cases h; exact F96
 ·cases h; exact F97
 ·cases h; exact F98
 ·cases h; exact H103
 ·cases h; exact F135
 ·cases h; exact F149
 ·cases h; exact F151
 ·cases h; exact F158
 ·cases h; exact F174
 ·cases h; exact F190
 ·cases h; exact F252
 ·cases h; exact F253
 ·cases h; exact F166
 ·cases h; exact F181 hT
 ·cases h; exact F182
 ·cases h)
end
end Go.AM
namespace Go.AM
open Go Go.Proofs
variable [Keep]
theorem pure_intr1 {X : Ctx} (s : Sound X) {f : FuncId} {spec : List AV -> Option AV} (hp : ∀ args v, spec args = some v -> v.pur = true) (hr : ∀ args v, spec args = some v -> ∃ h' k, callF X (ev X k) f args emptyHp = .ret v h' none) : IntrFn X.P f (pureFn spec) := by
  intro args h v h' hg C w vs r hv
  unfold pureFn at hg
  split at hg
  · rename_i hpur
    split at hg
    · rename_i u hsp
      cases hg
      obtain ⟨h1, n, hcall⟩ := hr args v hsp
      have hok := s.call n f args emptyHp ⟨fun _ => none, C.sig⟩ w vs r.bare (hv.pur (fun _ _ h => h) (purL_mem.1 hpur)) (by rw [hcall]; intro e; cases e)
      refine ⟨hok.1, fun cs => ?_⟩
      have := hok.2 cs
      rw [hcall] at this
      obtain ⟨C', w', fr, u, q1, q2, q3, q4, q5, q6⟩ := this
      have hle : C.le ⟨C.mu, C'.sig⟩ := ⟨fun _ _ h => h, q6.le.sig⟩
      have hsame : ∀ β, β < w.heap.size -> w'.heap[β]? = w.heap[β]? := fun β hb => q6.same β hb emptyHp_live id
      have hsig : ∀ x u, x.block < w.heap.size -> C'.sig x = some u -> C.sig x = some u := fun x u hb e => by
        rcases q6.sig x u hb e with h | h | h
        · exact h
        · exact (emptyHp_live h).elim
        · exact h.elim
      refine ⟨⟨C.mu, C'.sig⟩, w', fr, u, q1, q2, q3, q4.pur (fun _ _ h => h) (hp _ _ hsp), ⟨q5.sig, fun id blk e => ?_, r.inj, fun id blk L x u e1 e2 e3 e4 => ?_, r.fresh, q5.base⟩, ?_⟩
      · obtain ⟨L, k1, k2⟩ := r.blk id blk e
        exact ⟨L, k1, k2.same hle (hsame _ k2.lt)⟩
      · obtain ⟨L', k1, k2⟩ := r.blk id blk e1
        rw [e2] at k1
        cases k1
        have := k2.lt
        exact r.apart id blk L x u e1 e2 (hsig x u (by rw [e4]; exact this) e3) e4
      · exact { le := hle, os := q6.os, tape := q6.tape, output := q6.output, size := q6.size, same := fun β hb _ _ => hsame β hb, live := fun β hb l => .inl (by
                  obtain ⟨id, blk, L, e1, e2, e3⟩ := l
                  exact ⟨id, blk, L, e1, e2, e3⟩)
                own := fun _ _ o => o.elim, sig := fun x u hb e => .inl (hsig x u hb e), next := Nat.le_refl _ }
    · cases hg
  · cases hg
def sp25 : List AV -> Option AV
 | [] => some (.bool true)
 | _ => none
theorem isTrue_ret {r : COut} (h : isTrue r = true) : ∃ h', r = .ret (.bool true) h' none := by
 unfold isTrue at h
 split at h
 ·subst h; exact ⟨_, rfl⟩
 ·cases h
end Go.AM
namespace Go.AM
open Go Go.Proofs
variable [Keep]
def retIs (r : COut) (v : AV) : Bool :=
 match r with
 | .ret u _ none => AV.same u v
 | _ => false
theorem retIs_ret {r : COut} {v : AV} (h : retIs r v = true) : ∃ h', r = .ret v h' none := by
 unfold retIs at h
 split at h
 ·rename_i u h'
  have := AV.same_eq _ _ h
  subst this
  exact ⟨_, rfl⟩
 ·cases h
def memo (tab : List (List AV × AV)) (args : List AV) : Option AV :=
 match tab with
 | [] => none
 | (a, v) :: r => bif AV.sameL a args then some v else memo r args
theorem memo_mem {tab : List (List AV × AV)} {args : List AV} {v : AV} (h : memo tab args = some v) : (args, v) ∈ tab := by
 induction tab with
 | nil => simp [memo] at h
 | cons e r ih =>
  obtain ⟨a, u⟩ := e
  simp only [memo] at h
  cases hs : AV.sameL a args with
  | true =>
   rw [hs] at h
   have := AV.sameL_eq _ _ hs
   subst this
   cases h
   exact .head _
  | false =>
   rw [hs] at h
   exact .tail _ (ih h)
theorem memo_intr {X : Ctx} (s : Sound X) {f : FuncId} {tab : List (List AV × AV)} (hp : (tab.all fun e => e.2.pur) = true) (hr : ∀ e ∈ tab, ∃ n, retIs (callF X (ev X n) f e.1 emptyHp) e.2 = true) : IntrFn X.P f (pureFn (memo tab)) := by
 refine pure_intr1 s ?_ ?_
 ·intro args v e
  exact List.all_eq_true.1 hp _ (memo_mem e)
 ·intro args v e
  obtain ⟨n, hn⟩ := hr _ (memo_mem e)
  obtain ⟨h', e'⟩ := retIs_ret hn
  exact ⟨h', n, e'⟩
end Go.AM
namespace Go.AM
open Go Go.Proofs
variable [Keep]
attribute [local irreducible] W WO WO1 WD WQ WT thenQ blockQ endR isRet retK Cl ClR
theorem turnP_R {turn : Int} (h : inB turn 0 7 = true) (p : Pt) : turnP turn p = turnR p turn := by
 simp only [inB, Bool.and_eq_true, decide_eq_true_eq] at h
 unfold turnP turnR
 by_cases h4 : turn < 4
 ·rw [if_pos h4, if_neg (by omega)]
  have : turn.tmod 4 = turn := Int.tmod_eq_of_lt (by omega) h4
  rw [this]
 ·have hw : w64 (turn - 4) = turn - 4 := wrap_small (by omega) (by omega)
  have : turn.tmod 4 = turn - 4 := by
   rw [Int.tmod_eq_emod_of_nonneg (by omega)]
   omega
  rw [if_neg h4, if_pos (by omega), hw, this]
  rfl
def c25 (c : Itr) : Itr
 | 25 => some (pureFn sp25)
 | f => c f
theorem K25 {X : Ctx} (hX : X.intr 25 = some (pureFn sp25)) (h : Heap) : Cl X 25 [] h (.ret (.bool true) h none) := Cl.intr hX rfl
end Go.AM
