/-
  A part of the proof: contracts of functions.
-/
import Derived.Test.YtkpbdjpekjdhcaaGreatDoorXAD
import Derived.Shelf.Strconv.Itoa3
import Derived.Shelf.Strings.OnBuilder
import Derived.Shelf.Strings.Split
import Derived.Lib.IndexBytes
set_option linter.unusedSectionVars false
set_option linter.unusedVariables false
set_option linter.unusedSimpArgs false
set_option maxRecDepth 100000
namespace Go.AM
open Go Go.Proofs
variable [Keep]
attribute [local irreducible] W WO WO1 WD WQ WT thenQ blockQ endR isRet retK Cl ClR
def w64 (n : Int) : Int := IntKind.i64.wrap n
def inB (x lo hi : Int) : Bool := decide (x >= lo) && decide (x <= hi)
def roomB (lo hi mk wt st : Int) : Bool := !decide (lo < 0) && !decide (lo > hi) && !decide (hi > 50) && inB mk 0 1000 && inB wt 0 4 && inB st 0 50
def handB (li mo : Int) : Bool := inB li 0 2000 && inB mo 0 4
noncomputable def i0 : Itr := fun _ => none
theorem i0_sound : Sound (dX i0) := dX_sound (fun f g h => by cases h)
def sp102 : List AV -> Option AV
 | [.int .i64 x, .int .i64 lo, .int .i64 hi] => some (.bool (inB x lo hi))
 | _ => none
theorem p102 : ∀ args v, sp102 args = some v -> v.pur = true := by
 intro args v h
 unfold sp102 at h
 split at h
 ·cases h; rfl
 ·cases h
set_option maxHeartbeats 200000 in
theorem F102 : IntrFn Tryz.prog 102 (pureFn sp102) := by
 refine pure_fn (X := (dX i0)) i0_sound p102 ?_
 intro args v h
 unfold sp102 at h
 split at h
 ·cases h
  rename_i x lo hi
  refine ClR.walk (c := _) rfl Tryz.func102 rfl (by kernel_rfl) rfl isRet_fail ?_
  simp only [entryEnv, Nat.reduceAdd]
  repeat' (first | refine goS ?_ | (refine go2 ?_ ?_ <;> intro hh) | fail)
  all_goals (simp only [resV_def (X := dX i0) Tryz.func102, Tryz.results102]; first | exact J5 | refine J6 ?_)
  all_goals simp [inB, *]
 ·cases h
theorem K102 {X : Ctx} (hX : X.intr 102 = some (pureFn sp102)) (x lo hi : Int) (h : Heap) : Cl X 102 [.int .i64 x, .int .i64 lo, .int .i64 hi] h (.ret (.bool (inB x lo hi)) h none) := Cl.intr hX rfl
def sp84 : List AV -> Option AV
 | [.int .i64 x, .int .i64 lo, .int .i64 hi] => some (.bool (inB x lo hi))
 | _ => none
theorem p84 : ∀ args v, sp84 args = some v -> v.pur = true := by
 intro args v h
 unfold sp84 at h
 split at h
 ·cases h; rfl
 ·cases h
set_option maxHeartbeats 200000 in
theorem F84 : IntrFn Tryz.prog 84 (pureFn sp84) := by
 refine pure_fn (X := (dX i0)) i0_sound p84 ?_
 intro args v h
 unfold sp84 at h
 split at h
 ·cases h
  rename_i x lo hi
  refine ClR.walk (c := _) rfl Tryz.func84 rfl (by kernel_rfl) rfl isRet_fail ?_
  simp only [entryEnv, Nat.reduceAdd]
  repeat' (first | refine goS ?_ | (refine go2 ?_ ?_ <;> intro hh) | fail)
  all_goals (simp only [resV_def (X := dX i0) Tryz.func84, Tryz.results84]; first | exact J5 | refine J6 ?_)
  all_goals simp [inB, *]
 ·cases h
theorem K84 {X : Ctx} (hX : X.intr 84 = some (pureFn sp84)) (x lo hi : Int) (h : Heap) : Cl X 84 [.int .i64 x, .int .i64 lo, .int .i64 hi] h (.ret (.bool (inB x lo hi)) h none) := Cl.intr hX rfl
noncomputable def c1 : Itr
 | 102 => some (pureFn sp102)
 | _ => none
theorem c1_sound : Sound (dX c1) := dX_sound (fun f g h => by
 unfold c1 at h
 split at h
 ·cases h; exact F102
 ·cases h)
def sp130 : List AV -> Option AV
 | [.agg [.int .i64 lo, .int .i64 hi, .int .i64 mk, .int .i64 wt, .int .i64 st]] => some (.bool (!roomB lo hi mk wt st))
 | _ => none
theorem p130 : ∀ args v, sp130 args = some v -> v.pur = true := by
 intro args v h
 unfold sp130 at h
 split at h
 ·cases h; rfl
 ·cases h
set_option maxHeartbeats 1000000 in
theorem F130 : IntrFn Tryz.prog 130 (pureFn sp130) := by
 refine pure_fn (X := (dX c1)) c1_sound p130 ?_
 intro args v h
 unfold sp130 at h
 split at h
 ·cases h
  rename_i lo hi mk wt st
  refine ClR.walk (c := _) rfl Tryz.func130 rfl (by kernel_rfl) rfl isRet_fail ?_
  simp only [entryEnv, Nat.reduceAdd]
  repeat' (first | refine goS ?_ | (apply U6; exact Z1; exact Z1; (exact K102 rfl _ _ _ _); simp only [pM, pN, rR, rP]) | (refine go2 ?_ ?_ <;> intro hh) | fail)
  all_goals (simp only [resV_def (X := dX c1) Tryz.func130, Tryz.results130]; first | exact J5 | refine J6 ?_)
  all_goals first | (simp_all [roomB]; done) | (simp_all [roomB]; intro h; exfalso; omega)
 ·cases h
theorem K130 {X : Ctx} (hX : X.intr 130 = some (pureFn sp130)) (lo hi mk wt st : Int) (h : Heap) : Cl X 130 [.agg [.int .i64 lo, .int .i64 hi, .int .i64 mk, .int .i64 wt, .int .i64 st]] h (.ret (.bool (!roomB lo hi mk wt st)) h none) := Cl.intr hX rfl
def sp135 : List AV -> Option AV
 | [.agg [.int .i64 li, .int .i64 mo]] => some (.bool (!handB li mo))
 | _ => none
theorem p135 : ∀ args v, sp135 args = some v -> v.pur = true := by
 intro args v h
 unfold sp135 at h
 split at h
 ·cases h; rfl
 ·cases h
set_option maxHeartbeats 200000 in
theorem F135 : IntrFn Tryz.prog 135 (pureFn sp135) := by
 refine pure_fn (X := (dX c1)) c1_sound p135 ?_
 intro args v h
 unfold sp135 at h
 split at h
 ·cases h
  rename_i li mo
  refine ClR.walk (c := _) rfl Tryz.func135 rfl (by kernel_rfl) rfl isRet_fail ?_
  simp only [entryEnv, Nat.reduceAdd]
  repeat' (first | refine goS ?_ | (apply U6; exact Z1; exact Z1; (exact K102 rfl _ _ _ _); simp only [pM, pN, rR, rP]) | (refine go2 ?_ ?_ <;> intro hh) | fail)
  all_goals (simp only [resV_def (X := dX c1) Tryz.func135, Tryz.results135]; first | exact J5 | refine J6 ?_)
  all_goals simp_all [handB]
 ·cases h
theorem K135 {X : Ctx} (hX : X.intr 135 = some (pureFn sp135)) (li mo : Int) (h : Heap) : Cl X 135 [.agg [.int .i64 li, .int .i64 mo]] h (.ret (.bool (!handB li mo)) h none) := Cl.intr hX rfl
end Go.AM
namespace Go.AM
open Go Go.Proofs Go.Shelf Go.Sort Go.RowKit
variable [Keep]
theorem lib_left {P : Program} {f : FuncId} {C : Cfg} {h : Heap} {w : World} {v : AV} {vs : Array Value} (r : WR C h w)
  (hc : Calls P f vs w fun e w' => ∃ u, e = .returned u /\ VR C v u /\ w'.os = w.os /\ w'.tape = w.tape /\ w'.output = w.output /\ w.heap.size <= w'.heap.size /\ ∀ β, β < w.heap.size -> w'.heap[β]? = w.heap[β]?) (cs : List Frame) :
  Left P f C h w (lone (Frame.enter P f vs .normal) cs w) cs (.ret v h none) := by
 obtain ⟨e, w', fr, ⟨u, rfl, hv, h1, h2, h3, h4, hs⟩, hst, hfn, hlv⟩ := hc cs
 have hcell : ∀ x u, w.cell? x = some u -> w'.cell? x = some u := by
  intro x u hx
  have hlt : x.block < w.heap.size := by
   rcases Nat.lt_or_ge x.block w.heap.size with h | h
   ·exact h
   ·simp [World.cell?, Array.getElem?_eq_none h] at hx
  unfold World.cell? at hx ⊢
  rw [hs _ hlt]
  exact hx
 refine ⟨C, w', fr, u, hst, hlv, hfn, hv, ⟨fun x v e => hcell _ _ (r.sig x v e), fun id blk e => ?_, r.inj, r.apart, r.fresh, r.base.on (fun _ _ e => e) (fun x v e => hs _ (WR.sig_lt (F := Fr.mk 0 false .nil .nil h [] none) r e))⟩, ⟨.refl C, h1, h2, h3, h4, fun β hb _ _ => hs β hb, fun _ _ l => .inl l, fun _ _ o => .inr o, fun _ _ _ s => .inl s, Nat.le_refl _⟩⟩
 obtain ⟨L, k1, k2⟩ := r.blk id blk e
 exact ⟨L, k1, k2.same (.refl C) (hs _ k2.lt)⟩
theorem grow_same (w : World) (k : Nat) (os : Array Obj) : (grow (w.drewN k) os).os = w.os /\ (grow (w.drewN k) os).tape = w.tape /\ (grow (w.drewN k) os).output = w.output /\ w.heap.size <= (grow (w.drewN k) os).heap.size /\ ∀ β, β < w.heap.size -> (grow (w.drewN k) os).heap[β]? = w.heap[β]? := by
 refine ⟨rfl, rfl, rfl, ?_, fun β hb => ?_⟩
 ·simp [grow, World.drewN]
 ·simp only [grow, World.drewN]
  rw [Array.getElem?_append_left hb]
def digF : Nat -> Nat -> List UInt8
 | 0, _ => []
 | n + 1, u => if Nat.blt u 10 then [UInt8.ofNat (48 + u)] else digF n (u / 10) ++ [UInt8.ofNat (48 + u % 10)]
theorem digF_ok : ∀ (n u : Nat), u < 10 ^ n -> 0 < n -> digF n u = Lib.decDigits u := by
 intro n
 induction n with
 | zero => intro u _ h; omega
 | succ n ih =>
  intro u hu _
  rw [Lib.decDigits]
  simp only [digF]
  by_cases h : u < 10
  ·rw [if_pos (by simpa [Nat.blt_eq] using h), dif_pos h]
  ·rw [if_neg (by simpa [Nat.blt_eq] using h), dif_neg h, ih]
   ·rw [Nat.pow_succ] at hu; omega
   ·rcases Nat.eq_zero_or_pos n with rfl | h'
    ·simp at hu; omega
    ·exact h'
def itoaF (n : Int) : List UInt8 := match n with
 | .ofNat u => digF 20 u
 | .negSucc u => 45 :: digF 20 (u + 1)
theorem itoaF_ok (n : Int) (h0 : -9223372036854775808 <= n) (h1 : n <= 9223372036854775807) : itoaF n = Lib.itoa n := by
 unfold itoaF Lib.itoa
 cases n with
 | ofNat u =>
  have : ¬ (Int.ofNat u < 0) := by simp
  rw [if_neg this]
  have hu : u < 9223372036854775808 := by simp at h1; omega
  exact digF_ok 20 u (by omega) (by omega)
 | negSucc u =>
  have : Int.negSucc u < 0 := Int.negSucc_lt_zero u
  rw [if_pos this]
  have hu : u + 1 <= 9223372036854775808 := by omega
  show 45 :: digF 20 (u + 1) = 45 :: Lib.decDigits (u + 1)
  rw [digF_ok 20 (u + 1) (by omega) (by omega)]
def spItoa : List AV -> Option AV
 | [.int .i64 n] => if decide (-9223372036854775808 <= n) && decide (n <= 9223372036854775807) then some (.str (itoaF n)) else none
 | _ => none
def atOnce (spec : List AV -> Option AV) : List AV -> Heap -> Option (AV × Heap) := fun args h => match spec args with | some v => some (v, h) | none => none
def TabK (P : Program) : Prop := ∀ w : World, (∀ x v o, Keep.sig x = some v -> Keep.obj x.block = some o -> w.heap[x.block]? = some o) -> Lib.TabIs P w "internal/strconv.uint64pow10" .u64 Lib.pow10Tab
theorem itoa_intr {P : Program} {ρ : Ren} (L : LaysM.n171 P ρ) (hT : TabK P) (hb : ∃ fn, P.funcs[ρ.f 171]? = some fn /\ fn.body.isSome = true) : IntrFn P (ρ.f 171) (atOnce spItoa) := by
 intro args h v h' hg C w vs r hv
 refine ⟨hb, fun cs => ?_⟩
 unfold atOnce at hg
 split at hg
 ·rename_i u hsp
  cases hg
  unfold spItoa at hsp
  split at hsp
  ·rename_i n
   split at hsp
   ·rename_i hc
    cases hsp
    simp only [Bool.and_eq_true, decide_eq_true_eq] at hc
    obtain ⟨hs, hi⟩ := hv
    have hvs : vs = #[.int .i64 n] := by
     have h0 : VR C (.int .i64 n) (vs.getD 0 undef) := hi 0 (by simp)
     have hs' : vs.size = 1 := by simpa using hs
     have e : vs = #[vs.getD 0 undef] := by
      apply Array.ext (by simpa using hs')
      intro i hi1 hi2
      have : i = 0 := by simp at hi2; omega
      subst this
      simp [Array.getD, hs']
     generalize vs.getD 0 undef = x at h0 e
     cases h0
     exact e
    subst hvs
    refine lib_left r ((Any.strconv_Itoa L n hc.1 hc.2 w (hT w r.base.2)).mono fun e w' q => ?_) cs
    obtain ⟨rfl, k, os, rfl⟩ := q
    refine ⟨_, rfl, ?_, grow_same w k os⟩
    rw [<- itoaF_ok n hc.1 hc.2]
    exact .str _
   ·cases hsp
  ·cases hsp
 ·cases hg
def strsOf : List AV -> Option (List (List UInt8))
 | [] => some []
 | .str s :: r => match strsOf r with | some l => some (s :: l) | none => none
 | _ => none
theorem strsOf_eq : ∀ {l : List AV} {xs : List (List UInt8)}, strsOf l = some xs -> l = xs.map AV.str := by
 intro l
 induction l with
 | nil => intro xs h; simp [strsOf] at h; subst h; rfl
 | cons a l ih =>
  intro xs h
  unfold strsOf at h
  split at h
  ·rename_i e; cases e
  ·rename_i s r e
   cases e
   split at h
   ·rename_i l' h'
    cases h
    rw [ih h']; rfl
   ·cases h
  ·cases h
theorem WR.strs {C : Cfg} {h : Heap} {w : World} (r : WR C h w) {y : AV} {yv : Value} {xs : List (List UInt8)} (hv : VR C y yv) (he : h.elems y = some (xs.map AV.str)) :
  (xs = [] /\ ∃ p c, yv = .slice p 0 c) \/ ∃ B O c, yv = .slice (some ⟨B, O, none⟩) xs.length c /\ xs.length <= c /\ ∀ (i : Nat) (s : List UInt8), xs[i]? = some s -> w.cell? ⟨B, O + i, none⟩ = some (.string ⟨⟨s⟩⟩) := by
 unfold Heap.elems at he
 split at he
 ·cases hv
  have : xs = [] := by simpa using he.symm
  exact .inl ⟨this, _, _, rfl⟩
 ·cases hv
  have : xs = [] := by simpa using he.symm
  exact .inl ⟨this, _, _, rfl⟩
 ·have he := Option.some.inj he
  subst he
  generalize hl : xs.map AV.str = l at hv
  cases hv with
  | vslice0 a cap =>
   have : xs = [] := by simpa using hl
   exact .inl ⟨this, _, _, rfl⟩
  | vslice vs k1 k2 k3 k4 k5 =>
   rename_i sz b o cap
   subst hl
   refine .inr ⟨b, o, cap, by simp, by simpa using k1, fun i s hi => ?_⟩
   have hlt : i < xs.length := (List.getElem?_eq_some_iff.1 hi).1
   have hmem : AV.str s ∈ xs.map AV.str := List.mem_map.2 ⟨s, List.mem_of_getElem? hi, rfl⟩
   have hsz : sz = 1 := by have := k2 _ hmem; simpa [AV.cells] using this.symm
   subst hsz
   have hg : (xs.map AV.str).getD i .junk = .str s := by simp [List.getD, hi]
   have hs := r.sig _ _ (k3 i 0 (by simpa using hlt) (by omega))
   have hv := k4 i 0 (by simpa using hlt) (by omega)
   rw [hg] at hv
   simp only [AV.cells, List.getD, List.getElem?_cons_zero, Option.getD_some] at hv
   generalize vs i 0 = u at hs hv
   cases hv
   simpa using hs
 ·rename_i id off len
  split at he
  ·rename_i sz el hg
   split at he
   ·rename_i hle
    have he := Option.some.inj he
    obtain ⟨L, e1, c, f1, f2, f3, f4, f5⟩ := r.blk id _ hg
    cases hv with
    | row A e2 k1 k2 k3 =>
     rw [e1] at e2
     cases e2
     rename_i cap
     have hlen : xs.length = len := by
      have := congrArg List.length he
      simp at this
      omega
     by_cases hx : xs = []
     ·subst hx
      simp at hlen
      subst hlen
      exact .inl ⟨rfl, _, _, rfl⟩
     ·have hpos : 0 < xs.length := List.length_pos_iff.2 hx
      rcases k2 with rfl | rfl
      ·omega
      ·refine .inr ⟨L.b, L.o + off * L.sz, cap, by rw [hlen], by omega, fun i s hi => ?_⟩
       have hlt : i < xs.length := (List.getElem?_eq_some_iff.1 hi).1
       have hei : el[off + i]? = some (.str s) := by
        have : ((el.drop off).take len)[i]? = some (.str s) := by rw [he]; simp [hi]
        rw [List.getElem?_take, List.getElem?_drop] at this
        split at this
        ·exact this
        ·cases this
       obtain ⟨g1, g2, g3⟩ := f5 _ _ hei
       have hsz : L.sz = 1 := by rw [f2]; simpa [AV.cells] using g1.symm
       obtain ⟨u, hu, hv⟩ := g3 0 (.str s) rfl
       cases hv
       have hcell := f1
       rw [hsz]
       have hu' : c[L.o + (off + i) * 1 + 0]? = some (Value.string ⟨⟨s⟩⟩) := by rw [<- f2, hsz] at hu; exact hu
       have e3 : L.o + off * 1 + i = L.o + (off + i) * 1 + 0 := by omega
       rw [e3, hcell.cell]
       exact hu'
   ·cases he
  ·cases he
 ·cases he
theorem VRs.two {C : Cfg} {a b : AV} {vs : Array Value} (h : VRs C [a, b] vs) : ∃ u v, vs = #[u, v] /\ VR C a u /\ VR C b v := by
 obtain ⟨hs, hi⟩ := h
 have hs' : vs.size = 2 := by simpa using hs
 refine ⟨vs.getD 0 undef, vs.getD 1 undef, ?_, hi 0 (by simp), hi 1 (by simp)⟩
 apply Array.ext (by simpa using hs')
 intro i h1 h2
 have : i = 0 \/ i = 1 := by simp at h2; omega
 rcases this with rfl | rfl <;> simp [Array.getD, hs']
def spJoin : List AV -> Heap -> Option (AV × Heap)
 | [a, .str sep], h => match h.elems a with
  | some l => match strsOf l with
   | some xs => if Nat.ble xs.length maxL && Nat.ble (Lib.join xs sep).length maxL then some (.str (Lib.join xs sep), h) else none
   | none => none
  | none => none
 | _, _ => none
theorem join_intr {P : Program} {ρ : Ren} (L : Lays.n156 P ρ) (X : Builder.Extra P ρ) (hb : ∃ fn, P.funcs[ρ.f 156]? = some fn /\ fn.body.isSome = true) : IntrFn P (ρ.f 156) spJoin := by
 intro args h v h' hg C w vs r hv
 refine ⟨hb, fun cs => ?_⟩
 unfold spJoin at hg
 split at hg
 ·rename_i a sep
  split at hg
  ·rename_i l hl
   split at hg
   ·rename_i xs hxs
    split at hg
    ·rename_i hc
     cases hg
     simp only [Bool.and_eq_true, Nat.ble_eq] at hc
     obtain ⟨u, t, rfl, ha, ht⟩ := hv.two
     cases ht
     rw [strsOf_eq hxs] at hl
     have hbelow : ∀ {w' : World}, Below w.heap.size w w' -> w'.os = w.os /\ w'.tape = w.tape /\ w'.output = w.output /\ w.heap.size <= w'.heap.size /\ ∀ β, β < w.heap.size -> w'.heap[β]? = w.heap[β]? := fun b => ⟨b.os, b.tape, b.output, b.size, b.block⟩
     rcases r.strs ha hl with ⟨rfl, p, c, rfl⟩ | ⟨B, O, c, rfl, h1, h2⟩
     ·refine lib_left r ((Any.strings_Join_none L X p c ⟨⟨sep⟩⟩ w).mono fun e w' q => ?_) cs
      obtain ⟨rfl, rfl⟩ := q
      exact ⟨_, rfl, .str _, hbelow (Below.refl _ _)⟩
     ·by_cases hx : xs = []
      ·subst hx
       refine lib_left r ((Any.strings_Join_none L X _ c ⟨⟨sep⟩⟩ w).mono fun e w' q => ?_) cs
       obtain ⟨rfl, rfl⟩ := q
       exact ⟨_, rfl, .str _, hbelow (Below.refl _ _)⟩
      ·have hpos : 0 < xs.length := List.length_pos_iff.2 hx
       have hB : B < w.heap.size := by
        have q := h2 0 xs[0] (by simp [hpos])
        rcases Nat.lt_or_ge B w.heap.size with h' | h'
        ·exact h'
        ·simp [World.cell?, Array.getElem?_eq_none h'] at q
       have hmap : (xs.map fun s => (⟨⟨s⟩⟩ : ByteArray)).map (·.data.toList) = xs := by simp [Function.comp_def]
       have hcall := Any.strings_Join L X B O c (xs.map fun s => ⟨⟨s⟩⟩) ⟨⟨sep⟩⟩ w (fun j x hj => by
         rw [List.getElem?_map, Option.map_eq_some_iff] at hj
         obtain ⟨s, hj, rfl⟩ := hj
         exact h2 j s hj) hB (by simp only [List.length_map]; unfold maxL at hc; omega) (by simpa using h1) (by rw [hmap]; show (Lib.join xs sep).length <= _; unfold maxL at hc; have := hc.2; omega)
       rw [List.length_map] at hcall
       refine lib_left r (hcall.mono fun e w' q => ?_) cs
       obtain ⟨rfl, q⟩ := q
       refine ⟨_, rfl, ?_, hbelow q⟩
       rw [hmap]
       exact .str _
    ·cases hg
   ·cases hg
  ·cases hg
 ·cases hg
end Go.AM
namespace Go.AM
open Go Go.Proofs Go.Shelf Go.RowKit
variable [Keep]
def spL (b : UInt8) : List UInt8 -> List (List UInt8)
 | [] => [[]]
 | c :: r => if c = b then [] :: spL b r else match spL b r with | [] => [[c]] | p :: q => (c :: p) :: q
theorem spL_no {b : UInt8} : ∀ {s : List UInt8}, s.count b = 0 -> spL b s = [s] := by
 intro s
 induction s with
 | nil => intro _; rfl
 | cons c r ih =>
  intro h
  rw [List.count_cons] at h
  have hc : ¬ c = b := fun e => by subst e; simp at h
  have hr : r.count b = 0 := by omega
  simp only [spL, if_neg hc, ih hr]
theorem splitK_one (b : UInt8) : ∀ (s : List UInt8) (k : Nat), s.count b = k -> Lib.splitK [b] 0 k s = spL b s := by
 intro s
 induction s with
 | nil =>
  intro k h
  simp at h
  subst h
  rfl
 | cons c r ih =>
  intro k h
  rw [List.count_cons] at h
  by_cases e : c = b
  ·subst e
   simp only [beq_self_eq_true, if_true] at h
   obtain ⟨j, rfl⟩ : ∃ j, k = j + 1 := ⟨k - 1, by omega⟩
   have hi : Lib.index (c :: r) [c] = 0 := by rw [Lib.index_one]; simp [Lib.indexByte]
   have := ih j (by omega)
   simp only [Lib.splitK, hi, spL, if_true]
   simp [this]
  ·have hb : (c == b) = false := by simpa using e
   simp only [hb] at h
   have hk : r.count b = k := by simpa using h
   cases k with
   | zero =>
    rw [Lib.splitK, spL, if_neg e, spL_no hk]
   | succ j =>
    have hi : Lib.index (c :: r) [b] = if Lib.indexByte r b == -1 then -1 else Lib.indexByte r b + 1 := by rw [Lib.index_one]; simp [Lib.indexByte, e]
    have hge := Lib.indexByte_ge r b
    have ir : Lib.index r [b] = Lib.indexByte r b := Lib.index_one _ _
    have hne : ¬ Lib.indexByte r b = -1 := fun q => by
     have := Lib.indexByte_none q
     have hm : b ∈ r := List.count_pos_iff.1 (by omega)
     obtain ⟨i, hi2, h3⟩ := List.mem_iff_getElem.1 hm
     exact this i (by rw [List.getElem?_eq_getElem hi2, h3])
    have h2 := ih (j + 1) hk
    have hq : (Lib.indexByte r b == -1) = false := by simpa using hne
    rw [hq] at hi
    simp only [Bool.false_eq_true, if_false] at hi
    have hq2 : (Lib.indexByte r b + 1 == -1) = false := by simp; omega
    simp only [Lib.splitK, ir, hq, Bool.false_eq_true, if_false] at h2
    simp only [Lib.splitK, hi, hq2, Bool.false_eq_true, if_false, spL, if_neg e, <- h2]
    obtain ⟨n, hn⟩ : ∃ n : Nat, Lib.indexByte r b = n := ⟨(Lib.indexByte r b).toNat, by omega⟩
    rw [hn]
    have e1 : ((n : Int) + 1).toNat = n + 1 := by omega
    simp [e1]
theorem split_one {P : Program} {ρ : Ren} (L : Lays.n146 P ρ) (hi9 : (P.info? (ρ.t 9)).map (fun i => (i.zero, i.size, i.bytes)) = some (some (.string ByteArray.empty), 1, 16)) (s : ByteArray) (c : UInt8) (w : World) (hs : s.size < 4294967281) :
  Calls P (ρ.f 146) #[.string s, .string ⟨#[c]⟩] w fun e w' =>
   e = .returned (.slice (some ⟨w.heap.size, 0, none⟩) (Lib.countB s ⟨#[c]⟩ + 1) (Lib.countB s ⟨#[c]⟩ + 1)) /\ w' = w.alloc (.cells ((Lib.splitB ⟨#[c]⟩ 0 (Lib.countB s ⟨#[c]⟩) s).map Value.string).toArray (ρ.t 9)) := by
 have h1 : 1 <= (⟨#[c]⟩ : ByteArray).size := Nat.le_refl 1
 have hle := Lib.countB_le ⟨#[c]⟩ h1 s.size s (Nat.le_refl _)
 have hlen := Lib.splitB_all ⟨#[c]⟩ h1 0 _ s rfl
 have hC : Calls P (ρ.f 138) #[.string s, .string ⟨#[c]⟩] w fun e w' => e = .returned (.int .i64 (Lib.countB s ⟨#[c]⟩)) /\ w' = w := by
  refine (Any.strings_Count_one { L with } s c w).mono fun e w' ⟨he, hw⟩ => ⟨?_, hw⟩
  rw [he]
  show _ = Ending.returned (Value.int .i64 ((Lib.count s.data.toList [c] : Nat) : Int))
  rw [Lib.count_one]
  rfl
 have c0 := Any.strings_genSplit_core { L with } hi9 s ⟨#[c]⟩ 0 (-1) (Lib.countB s ⟨#[c]⟩ + 1) w hs h1 (Nat.zero_le _)
  (fun x d hx => (Any.strings_Index_one { L with } x c _).mono fun e w' ⟨he, hw⟩ => ⟨by
   rw [he, show Lib.indexB x ⟨#[c]⟩ = Lib.indexByte x.data.toList c from Lib.index_one _ _], hw⟩)
  hC (by decide) (by decide) (by rw [if_pos (by decide)]; omega)
 rw [Nat.add_sub_cancel, hlen] at c0
 have e2 : Lib.cellsOf (Lib.splitB ⟨#[c]⟩ 0 (Lib.countB s ⟨#[c]⟩) s) (Lib.countB s ⟨#[c]⟩ + 1) = ((Lib.splitB ⟨#[c]⟩ 0 (Lib.countB s ⟨#[c]⟩) s).map Value.string).toArray := by rw [<- hlen]; exact Lib.cellsOf_full _
 rw [e2] at c0
 have t3 := L.t3; have t9 := L.t9; have t31 := L.t31
 have a3 := L.a3; have a9 := L.a9; have a31 := L.a31
 have z3 := L.z3; have v3 := L.v3; have z9 := L.z9; have v9 := L.v9; have z31 := L.z31; have v31 := L.v31
 have e221 : ∀ args w, (callFunc (ρ.f 221) args).run P w = .ok (.enter (ρ.f 221) args) w := enters_of L.f221 (by kernel_rfl) rfl
 go_enter L.f146, Body.n146_ntmps ρ
 go_wp2_with (go_at_fn (ρ.f 221); refine c0.mono ?_; rintro e w' ⟨rfl, hw⟩; rw [hw])
 go_ret
 exact ⟨rfl, rfl⟩
theorem lib_strs {P : Program} {f : FuncId} {C : Cfg} {h : Heap} {w : World} {vs : Array Value} (r : WR C h w) (xs : List (List UInt8)) (T : TypeId)
  (hc : Calls P f vs w fun e w' => e = .returned (.slice (some ⟨w.heap.size, 0, none⟩) xs.length xs.length) /\ w' = w.alloc (.cells ((xs.map fun s => Value.string ⟨⟨s⟩⟩).toArray) T)) (cs : List Frame) :
  Left P f C h w (lone (Frame.enter P f vs .normal) cs w) cs (.ret (.vslice (xs.map AV.str)) h none) := by
 obtain ⟨e, w', fr, ⟨rfl, rfl⟩, hst, hfn, hlv⟩ := hc cs
 have hsame : ∀ β, β < w.heap.size -> (w.alloc (.cells ((xs.map fun s => Value.string ⟨⟨s⟩⟩).toArray) T)).heap[β]? = w.heap[β]? := fun β hb => by
  simp only [World.alloc, Array.getElem?_push]
  rw [if_neg (by omega)]
 generalize hw' : w.alloc (.cells ((xs.map fun s => Value.string ⟨⟨s⟩⟩).toArray) T) = w' at *
 have hcell : ∀ x u, w.cell? x = some u -> w'.cell? x = some u := by
  intro x u hx
  have hlt : x.block < w.heap.size := by
   rcases Nat.lt_or_ge x.block w.heap.size with h | h
   ·exact h
   ·simp [World.cell?, Array.getElem?_eq_none h] at hx
  unfold World.cell? at hx ⊢
  rw [hsame _ hlt]
  exact hx
 have hnew : ∀ (i : Nat) (s : List UInt8), xs[i]? = some s -> w'.cell? ⟨w.heap.size, i, none⟩ = some (.string ⟨⟨s⟩⟩) := fun i s hi => by
  rw [<- hw']
  rw [World.cell?_alloc_at _ _ _ _ rfl, List.getElem?_toArray, List.getElem?_map, hi]
  rfl
 let D : Cfg := ⟨C.mu, fun x => if x.block = w.heap.size then w'.cell? x else C.sig x⟩
 have hDs : ∀ x v, C.sig x = some v -> D.sig x = some v := fun x v e => by
  have hb := WR.sig_lt (F := Fr.mk 0 false .nil .nil h [] none) r e
  show (if x.block = w.heap.size then w'.cell? x else C.sig x) = some v
  rw [if_neg (by omega)]; exact e
 have hD : C.le D := ⟨fun _ _ e => e, hDs⟩
 have hbase : Base C w' := r.base.on (fun _ _ e => e) (fun x v e => hsame _ (WR.sig_lt (F := Fr.mk 0 false .nil .nil h [] none) r e))
 have hsz : w.heap.size <= w'.heap.size := by rw [<- hw']; simp
 refine ⟨D, w', fr, _, hst, hlv, hfn, ?_, ⟨fun x v e => ?_, fun id blk e => ?_, r.inj, fun id blk L1 x v e k ks => ?_, r.fresh, hbase.on hDs (fun _ _ _ => rfl)⟩, ?_⟩
 ·have := VR.vslice (C := D) (l := xs.map AV.str) (sz := 1) (b := w.heap.size) (o := 0) (cap := xs.length) (fun i _ => .string ⟨⟨xs.getD i []⟩⟩) (by simp) (fun e he => by
   obtain ⟨s, _, rfl⟩ := List.mem_map.1 he
   rfl) (fun i j hi hj => ?_) (fun i j hi hj => ?_) (fun e he c hc => by
   obtain ⟨s, _, rfl⟩ := List.mem_map.1 he
   simp only [AV.cells, List.mem_singleton] at hc
   subst hc
   rfl)
  ·rw [List.length_map] at this
   exact this
  ·have hj0 : j = 0 := by omega
   subst hj0
   rw [List.length_map] at hi
   show (if w.heap.size = w.heap.size then w'.cell? _ else _) = _
   rw [if_pos rfl]
   have := hnew i xs[i] (List.getElem?_eq_getElem hi)
   simp only [Nat.mul_one, Nat.zero_add, Nat.add_zero]
   rw [this]
   simp [List.getD, hi]
  ·have hj0 : j = 0 := by omega
   subst hj0
   rw [List.length_map] at hi
   have e1 : ((xs.map AV.str).getD i .junk).cells.getD 0 .junk = .str (xs.getD i []) := by simp [List.getD, hi, AV.cells]
   rw [e1]
   exact .str _
 ·have e : (if x.block = w.heap.size then w'.cell? x else C.sig x) = some v := e
  by_cases hb : x.block = w.heap.size
  ·rw [if_pos hb] at e
   exact e
  ·rw [if_neg hb] at e
   exact hcell _ _ (r.sig _ _ e)
 ·obtain ⟨L', k1, k2⟩ := r.blk id blk e
  exact ⟨L', k1, k2.same hD (hsame _ k2.lt)⟩
 ·have ks : (if x.block = w.heap.size then w'.cell? x else C.sig x) = some v := ks
  obtain ⟨L2, k1, k2⟩ := r.blk id blk e
  rw [k] at k1
  cases k1
  have := k2.lt
  by_cases hb : x.block = w.heap.size
  ·omega
  ·rw [if_neg hb] at ks
   exact r.apart _ _ _ _ _ e k ks
 ·refine { le := hD, os := by rw [<- hw']; rfl, tape := by rw [<- hw']; rfl, output := by rw [<- hw']; rfl, size := hsz, same := fun β hb _ _ => hsame β hb, live := fun β hb l => .inl l, own := fun _ _ o => o.elim, sig := fun x u hb e => .inl ?_, next := Nat.le_refl _ }
  have e : (if x.block = w.heap.size then w'.cell? x else C.sig x) = some u := e
  rw [if_neg (by omega)] at e
  exact e
def spSplit : List AV -> Option AV
 | [.str s, .str [c]] => if Nat.ble s.length maxL then some (.vslice ((spL c s).map AV.str)) else none
 | _ => none
theorem split_intr {P : Program} {ρ : Ren} (L : Lays.n146 P ρ) (hi9 : (P.info? (ρ.t 9)).map (fun i => (i.zero, i.size, i.bytes)) = some (some (.string ByteArray.empty), 1, 16)) (hb : ∃ fn, P.funcs[ρ.f 146]? = some fn /\ fn.body.isSome = true) : IntrFn P (ρ.f 146) (atOnce spSplit) := by
 intro args h v h' hg C w vs r hv
 refine ⟨hb, fun cs => ?_⟩
 unfold atOnce spSplit at hg
 split at hg
 ·rename_i v0 hsp
  split at hsp
  ·rename_i s c
   split at hsp
   ·rename_i hc
    cases hsp
    cases hg
    rw [Nat.ble_eq] at hc
    obtain ⟨u, t, rfl, ha, ht⟩ := hv.two
    cases ha
    cases ht
    refine lib_strs r (spL c s) (ρ.t 9) ?_ cs
    refine (split_one L hi9 ⟨⟨s⟩⟩ c w (by show s.length < _; unfold maxL at hc; omega)).mono fun e w' q => ?_
    have hcnt : Lib.countB ⟨⟨s⟩⟩ ⟨#[c]⟩ = s.count c := Lib.count_one c s
    have hdat := Lib.splitB_data ⟨#[c]⟩ 0 (Lib.countB ⟨⟨s⟩⟩ ⟨#[c]⟩) ⟨⟨s⟩⟩
    have hdat2 : (Lib.splitB ⟨#[c]⟩ 0 (Lib.countB ⟨⟨s⟩⟩ ⟨#[c]⟩) ⟨⟨s⟩⟩).map (·.data.toList) = spL c s := hdat.trans (splitK_one c s _ hcnt.symm)
    have hlen := congrArg List.length hdat2
    rw [List.length_map, Lib.splitB_all ⟨#[c]⟩ (Nat.le_refl 1) 0 _ ⟨⟨s⟩⟩ rfl] at hlen
    have hval : (Lib.splitB ⟨#[c]⟩ 0 (Lib.countB ⟨⟨s⟩⟩ ⟨#[c]⟩) ⟨⟨s⟩⟩).map Value.string = (spL c s).map fun s => Value.string ⟨⟨s⟩⟩ := by
     rw [<- hdat2, List.map_map]
     rfl
    rw [hlen, hval] at q
    exact q
   ·cases hsp
  ·cases hsp
 ·cases hg
end Go.AM
namespace Go.TX
open Go Go.AM
variable [Keep]
theorem take_next {α : Type} {l : List α} {k : Nat} {a : α} (h : l[k]? = some a) : l.take (k + 1) = l.take k ++ [a] := by
 obtain ⟨h1, h2⟩ := List.getElem?_eq_some_iff.1 h
 rw [List.take_add_one, h]
 rfl
theorem dig_small {u : Nat} (h : u < 10) : digF 20 u = [UInt8.ofNat (48 + u)] := by
 show (if Nat.blt u 10 then _ else _) = _
 rw [if_pos (by rw [Nat.blt_eq]; exact h)]
theorem dig_step {u : Nat} (h : 10 <= u) (hu : u < 10 ^ 18) : digF 20 u = digF 20 (u / 10) ++ [UInt8.ofNat (48 + u % 10)] := by
 have e : digF 20 u = digF 19 (u / 10) ++ [UInt8.ofNat (48 + u % 10)] := by
  show (if Nat.blt u 10 then _ else _) = _
  rw [if_neg (by rw [Nat.blt_eq]; omega)]
 rw [e, digF_ok 19 (u / 10) (by omega) (by omega), digF_ok 20 (u / 10) (by omega) (by omega)]
theorem digF_len : ∀ (f n : Nat), (digF f n).length <= f := by
 intro f
 induction f with
 | zero => intro n; exact Nat.le_refl _
 | succ f ih =>
  intro n
  unfold digF
  split
  ·simp
  ·rw [List.length_append]
   have := ih (n / 10)
   simp only [List.length_cons, List.length_nil]
   omega
def isDig (c : UInt8) : Bool := decide (48 <= c.toNat) && decide (c.toNat <= 57)
theorem dig_bds {c : UInt8} (h : isDig c = true) : 48 <= c.toNat /\ c.toNat <= 57 := by
 unfold isDig at h
 simpa using h
def valD (l : List UInt8) : Nat := l.foldl (fun n c => 10 * n + (c.toNat - 48)) 0
theorem val_app (l : List UInt8) (c : UInt8) : valD (l ++ [c]) = 10 * valD l + (c.toNat - 48) := by
 unfold valD
 rw [List.foldl_append]
 rfl
theorem val_lt : ∀ (l : List UInt8), (∀ c ∈ l, isDig c = true) -> valD l < 10 ^ l.length := by
 intro l
 have key : ∀ (l : List UInt8) (a : Nat), (∀ c ∈ l, isDig c = true) -> l.foldl (fun n c => 10 * n + (c.toNat - 48)) a < (a + 1) * 10 ^ l.length := by
  intro l
  induction l with
  | nil => intro a _; simp
  | cons c l ih =>
   intro a h
   have h1 := ih (10 * a + (c.toNat - 48)) (fun x hx => h x (List.mem_cons_of_mem _ hx))
   have h2 := dig_bds (h c (List.mem_cons_self ..))
   simp only [List.foldl_cons, List.length_cons]
   refine Nat.lt_of_lt_of_le h1 ?_
   rw [Nat.pow_succ, Nat.mul_comm (10 ^ l.length) 10, <- Nat.mul_assoc]
   exact Nat.mul_le_mul_right _ (by omega)
 intro h
 have := key l 0 h
 simpa [valD] using this
theorem spL_app {b : UInt8} : ∀ {p : List UInt8} (r : List UInt8), (∀ c ∈ p, c ≠ b) -> spL b (p ++ b :: r) = p :: spL b r := by
 intro p
 induction p with
 | nil => intro r _; simp [spL]
 | cons c p ih =>
  intro r h
  have hc : ¬ c = b := h c (List.mem_cons_self ..)
  have := ih r (fun x hx => h x (List.mem_cons_of_mem _ hx))
  simp only [List.cons_append, spL, if_neg hc, this]
theorem spL_end {b : UInt8} : ∀ {p : List UInt8}, (∀ c ∈ p, c ≠ b) -> spL b p = [p] := by
 intro p h
 refine spL_no ?_
 rw [List.count_eq_zero]
 exact fun hm => h b hm rfl
def numP (w : List UInt8) : Option Int :=
 if (w.all isDig && decide (w.length <= 4) && (!w.isEmpty && itoaF ((valD w : Nat) : Int) == w)) = true then some (valD w : Nat) else none
def smallP (n : Int) : Bool := decide (0 <= n) && decide (n <= 9999)
theorem num_is {w : List UInt8} {n : Int} (h : numP w = some n) : smallP n = true /\ itoaF n = w := by
 unfold numP at h
 split at h
 ·rename_i hg
  cases h
  simp only [Bool.and_eq_true, decide_eq_true_eq, beq_iff_eq] at hg
  have h1 := val_lt w (fun c hc => List.all_eq_true.1 hg.1.1 c hc)
  have h2 : 10 ^ w.length <= 10 ^ 4 := Nat.pow_le_pow_right (by decide) hg.1.2
  refine ⟨?_, hg.2.2⟩
  unfold smallP
  simp only [Bool.and_eq_true, decide_eq_true_eq]
  omega
 ·cases h
structure Rm where
 lo : Int
 hi : Int
 mke : Int
 wt : Int
 stt : Int
structure Fa where
 room : Int
 draws : Int
structure Ha where
 limit : Int
 most : Int
structure Hs where
 hours : Int
 rooms : List Rm
 fans : List Fa
 op : List Int
 hands : List Ha
def wHouse : List UInt8 := [104, 111, 117, 115, 101]
def wRoom : List UInt8 := [114, 111, 111, 109]
def wMake : List UInt8 := [109, 97, 107, 101]
def wWait : List UInt8 := [119, 97, 105, 116]
def wStart : List UInt8 := [115, 116, 97, 114, 116]
def wFan : List UInt8 := [102, 97, 110]
def wOpen : List UInt8 := [111, 112, 101, 110]
def wHand : List UInt8 := [104, 97, 110, 100]
def lineW (w : List UInt8) (ws : List (List UInt8)) : List UInt8 := w ++ ws.flatMap fun x => 32 :: x
def houseL (h : Hs) : List UInt8 := lineW wHouse [itoaF h.hours]
def roomL (r : Rm) : List UInt8 := lineW wRoom [itoaF r.lo, itoaF r.hi, wMake, itoaF r.mke, wWait, itoaF r.wt, wStart, itoaF r.stt]
def fanL (f : Fa) : List UInt8 := lineW wFan [itoaF f.room, itoaF f.draws]
def openL (h : Hs) : List UInt8 := lineW wOpen (h.op.map itoaF)
def handL (x : Ha) : List UInt8 := lineW wHand [itoaF x.limit, itoaF x.most]
def linesH (h : Hs) : List (List UInt8) := houseL h :: (h.rooms.map roomL ++ (h.fans.map fanL ++ (openL h :: h.hands.map handL)))
def ck1 : Nat -> List UInt8 -> Nat
 | _, [] => 0
 | k, b :: r => b.toNat * (k + 1) + ck1 (k + 1) r
def ck : List (List UInt8) -> Nat
 | [] => 0
 | l :: r => ck1 0 l + ck r
def endL (c : Nat) : List UInt8 := [101, 110, 100, 32] ++ itoaF ((c / 100 : Nat) : Int) ++ itoaF ((c / 10 % 10 : Nat) : Int) ++ itoaF ((c % 10 : Nat) : Int)
def allL (h : Hs) : List (List UInt8) := linesH h ++ [endL (ck (linesH h) % 107)]
def textH (h : Hs) : List UInt8 := (allL h).flatMap fun l => l ++ [10]
def Rm.ok (r : Rm) : Bool := smallP r.lo && smallP r.hi && smallP r.mke && smallP r.wt && smallP r.stt
def Fa.ok (f : Fa) : Bool := smallP f.room && smallP f.draws
def Ha.ok (x : Ha) : Bool := smallP x.limit && smallP x.most
def smallH (h : Hs) : Bool := smallP h.hours && h.rooms.all Rm.ok && h.fans.all Fa.ok && h.op.all smallP && h.hands.all Ha.ok
section
variable {h : Hs} (hs : smallH h = true)
include hs
end
end Go.TX
namespace Go.AM
open Go Go.Proofs
variable [Keep]
attribute [local irreducible] W WO WO1 WD WQ WT thenQ blockQ endR isRet retK Cl ClR
def rmC : Cd TX.Rm where
 enc r := .agg [.int .i64 r.lo, .int .i64 r.hi, .int .i64 r.mke, .int .i64 r.wt, .int .i64 r.stt]
 dec a := match a with | .agg [.int .i64 lo, .int .i64 hi, .int .i64 mke, .int .i64 wt, .int .i64 stt] => some ⟨lo, hi, mke, wt, stt⟩ | _ => none
 de _ := rfl
 ed a x h := by split at h <;> cases h; rfl
 pur _ := rfl
def faC : Cd TX.Fa where
 enc r := .agg [.int .i64 r.room, .int .i64 r.draws]
 dec a := match a with | .agg [.int .i64 x, .int .i64 y] => some ⟨x, y⟩ | _ => none
 de _ := rfl
 ed a x h := by split at h <;> cases h; rfl
 pur _ := rfl
def haC : Cd TX.Ha where
 enc r := .agg [.int .i64 r.limit, .int .i64 r.most]
 dec a := match a with | .agg [.int .i64 x, .int .i64 y] => some ⟨x, y⟩ | _ => none
 de _ := rfl
 ed a x h := by split at h <;> cases h; rfl
 pur _ := rfl
theorem rms_idx {a : AV} {l : List TX.Rm} (h : slV rmC a = some l) {k : Nat} {p : TX.Rm} (hp : l[k]? = some p) (H : Heap) : indexAddrV Tryz.prog H 22 a (.int .i64 ↑k) = some (.vptr [.int .i64 p.lo, .int .i64 p.hi, .int .i64 p.mke, .int .i64 p.wt, .int .i64 p.stt]) :=
 (slV_is h).1.idx (x := rmC.enc p) Tryz.underlying22 ty_lay136 (by simp [hp]) rfl
theorem fas_idx {a : AV} {l : List TX.Fa} (h : slV faC a = some l) {k : Nat} {p : TX.Fa} (hp : l[k]? = some p) (H : Heap) : indexAddrV Tryz.prog H 23 a (.int .i64 ↑k) = some (.vptr [.int .i64 p.room, .int .i64 p.draws]) :=
 (slV_is h).1.idx (x := faC.enc p) Tryz.underlying23 ty_lay103 (by simp [hp]) rfl
theorem has_idx {a : AV} {l : List TX.Ha} (h : slV haC a = some l) {k : Nat} {p : TX.Ha} (hp : l[k]? = some p) (H : Heap) : indexAddrV Tryz.prog H 25 a (.int .i64 ↑k) = some (.vptr [.int .i64 p.limit, .int .i64 p.most]) :=
 (slV_is h).1.idx (x := haC.enc p) Tryz.underlying25 ty_lay106 (by simp [hp]) rfl
theorem ints_idx {a : AV} {l : List Int} (h : slV intC a = some l) {k : Nat} {p : Int} (hp : l[k]? = some p) (H : Heap) : indexAddrV Tryz.prog H 24 a (.int .i64 ↑k) = some (.vptr [.int .i64 p]) :=
 (slV_is h).1.idx (x := intC.enc p) Tryz.underlying24 ty_lay3 (by simp [hp]) rfl
theorem sl_len {α : Type} {c : Cd α} {a : AV} {l : List α} (h : slV c a = some l) : lenS a = some l.length := by rw [(slV_is h).1.len]; simp
theorem sl_out {α : Type} {c : Cd α} {a : AV} {l : List α} (h : slV c a = some l) : outV (some a) = some a := (slV_is h).1.out
theorem sl_pur {α : Type} {c : Cd α} {a : AV} {l : List α} (h : slV c a = some l) : a.pur = true := (slV_is h).1.pur (enc_pur c l)
theorem sl_max {α : Type} {c : Cd α} {a : AV} {l : List α} (h : slV c a = some l) : l.length <= maxL := (slV_is h).2
theorem take_next {α : Type} {l : List α} {k : Nat} {p : α} (h : l[k]? = some p) : l.take (k + 1) = l.take k ++ [p] := by
 rw [List.take_add_one, h]; rfl
theorem get_some {α : Type} {l : List α} {k : Nat} (h : k < l.length) : ∃ p, l[k]? = some p := ⟨l[k], by simp [h]⟩
def isR (r0 : COut) (r : COut) : Prop := r = r0
theorem ClR.cl {X : Ctx} {f : FuncId} {args : List AV} {h : Heap} {r : COut} (q : ClR X f args h (isR r)) : Cl X f args h r := by
 unfold ClR at q
 obtain ⟨r', h1, h2⟩ := q
 rw [show r' = r from h2] at h1
 exact h1
def idxOf {α : Type} (pb : α -> Bool) (l : List α) : Int := match l.findIdx? pb with | some i => i | none => -1
theorem idxOf_at {α : Type} {pb : α -> Bool} {l : List α} {k : Nat} {p : α} (h1 : (l.take k).all (fun x => !pb x) = true) (hp : l[k]? = some p) (h2 : pb p = true) : idxOf pb l = k := by
 have hk : k < l.length := by
  rcases Nat.lt_or_ge k l.length with h' | h'
  ·exact h'
  ·rw [List.getElem?_eq_none h'] at hp; cases hp
 have : l.findIdx? pb = some k := by
  rw [List.findIdx?_eq_some_iff_getElem]
  refine ⟨hk, ?_, fun j hj => ?_⟩
  ·rw [List.getElem?_eq_getElem hk] at hp
   rw [Option.some.inj hp]; exact h2
  ·have := List.all_eq_true.1 h1 l[j] (by rw [List.mem_take_iff_getElem]; exact ⟨j, by omega, rfl⟩)
   simpa using this
 simp [idxOf, this]
theorem idxOf_none {α : Type} {pb : α -> Bool} {l : List α} (h1 : l.all (fun x => !pb x) = true) : idxOf pb l = -1 := by
 have : l.findIdx? pb = none := by
  rw [List.findIdx?_eq_none_iff]
  intro x hx
  have := List.all_eq_true.1 h1 x hx
  simpa using this
 simp [idxOf, this]
theorem idxOf_any {α : Type} (pb : α -> Bool) (l : List α) : decide (idxOf pb l >= 0) = l.any pb := by
 unfold idxOf
 cases h : l.findIdx? pb with
 | none =>
  rw [List.findIdx?_eq_none_iff] at h
  have : l.any pb = false := by
   rw [List.any_eq_false]
   intro x hx
   simp [h x hx]
  rw [this]
  simp
 | some i =>
  rw [List.findIdx?_eq_some_iff_getElem] at h
  obtain ⟨hi, h1, _⟩ := h
  have : l.any pb = true := List.any_eq_true.2 ⟨l[i], List.getElem_mem hi, h1⟩
  rw [this]
  simp
set_option maxHeartbeats 400000 in
theorem C177 (c : Itr) (hc : c 177 = none) (a : AV) (l : List TX.Rm) (ha : slV rmC a = some l) (g : FuncId) (first capt : List AV) (pb : TX.Rm -> Bool) (h : Heap)
    (hcall : ∀ p : TX.Rm, p ∈ l -> Cl (dX c) g ((first ++ [rmC.enc p]) ++ capt) h (.ret (.bool (pb p)) h none)) : Cl (dX c) 177 [a, .func (.func g) first capt] h (.ret (.int .i64 (idxOf pb l)) h none) := by
  refine ClR.cl ?_
  have hlen := sl_len ha
  have hout := sl_out ha
  have hmax := sl_max ha
  refine ClR.walk (c := _) hc Tryz.func177 rfl (by kernel_rfl) rfl (fun e => by cases e) ?_
  simp only [entryEnv, Nat.reduceAdd]
  repeat' (first | refine goS ?_ | (refine go2 ?_ ?_ <;> intro hh) | fail)
  refine W.loopN l.length (fun k F => ∃ e, F = Fr.mk 177 false e .nil h [] none /\ (l.take k).all (fun x => !pb x) = true /\ e.get 0 = some a /\ e.get 1 = some (.func (.func g) first capt) /\ e.get 7 = some (.int .i64 ↑l.length) /\ e.get 8 = some (.int .i64 ↑k) /\ k <= l.length) ?_ ?_
  · refine ⟨_, rfl, ?_, ?_, ?_, ?_, ?_, ?_⟩ <;> simp [go_sem, *]
  rintro k F ⟨e, rfl, hall, h0, h1, h7, h8, hk⟩
  have HA := J1 hall
  clear hall
  by_cases hlt : k < l.length
  · obtain ⟨p, hp⟩ := get_some hlt
    have hix := rms_idx ha hp
    have hcl := hcall p (List.mem_of_getElem? hp)
    have hd : decide ((k : Int) < (l.length : Int)) = true := by simpa using hlt
    have hw := wrap_succ hlt hmax
    have hnx := take_next hp
    have HI : pb p = true -> idxOf pb l = k := idxOf_at HA.out hp
    have HH := J1 HI
    clear ha hcall hp HI
    repeat' (first | (apply U6; exact Z1; exact Z1; (focus (exact hcl)); simp only [pM, pN, rR, rP]) | refine go1 ?_ | (refine go2 ?_ ?_ <;> intro hh) | fail)
    all_goals first
      | (refine ⟨hlt, _, rfl, ?_, ?_, ?_, ?_, ?_, by omega⟩
         · have := HA.out
           rw [hnx]; simp_all
         all_goals exact Z2)
      | ((simp only [resV_def (X := dX c) Tryz.func177, Tryz.results177]; first | exact J5 | refine J6 ?_)
         have := HH.out hh
         simp [isR, frzRes, dX_frz, dFrz, this])
  · have hd : decide ((k : Int) < (l.length : Int)) = false := by simpa using hlt
    have hkl : k = l.length := by omega
    have h2 := HA.out
    rw [hkl, List.take_length] at h2
    have HI := J1 (idxOf_none h2)
    clear ha hcall h2 hkl
    repeat' (first | refine goS ?_ | (refine go2 ?_ ?_ <;> intro hh) | fail)
    all_goals (simp only [resV_def (X := dX c) Tryz.func177, Tryz.results177]; first | exact J5 | refine J6 ?_)
    have := HI.out
    simp [isR, frzRes, dX_frz, dFrz, this]
set_option maxHeartbeats 400000 in
theorem C178 (c : Itr) (hc : c 178 = none) (a : AV) (l : List TX.Fa) (ha : slV faC a = some l) (g : FuncId) (first capt : List AV) (pb : TX.Fa -> Bool) (h : Heap)
    (hcall : ∀ p : TX.Fa, p ∈ l -> Cl (dX c) g ((first ++ [faC.enc p]) ++ capt) h (.ret (.bool (pb p)) h none)) : Cl (dX c) 178 [a, .func (.func g) first capt] h (.ret (.int .i64 (idxOf pb l)) h none) := by
  refine ClR.cl ?_
  have hlen := sl_len ha
  have hout := sl_out ha
  have hmax := sl_max ha
  refine ClR.walk (c := _) hc Tryz.func178 rfl (by kernel_rfl) rfl (fun e => by cases e) ?_
  simp only [entryEnv, Nat.reduceAdd]
  repeat' (first | refine goS ?_ | (refine go2 ?_ ?_ <;> intro hh) | fail)
  refine W.loopN l.length (fun k F => ∃ e, F = Fr.mk 178 false e .nil h [] none /\ (l.take k).all (fun x => !pb x) = true /\ e.get 0 = some a /\ e.get 1 = some (.func (.func g) first capt) /\ e.get 7 = some (.int .i64 ↑l.length) /\ e.get 8 = some (.int .i64 ↑k) /\ k <= l.length) ?_ ?_
  · refine ⟨_, rfl, ?_, ?_, ?_, ?_, ?_, ?_⟩ <;> simp [go_sem, *]
  rintro k F ⟨e, rfl, hall, h0, h1, h7, h8, hk⟩
  have HA := J1 hall
  clear hall
  by_cases hlt : k < l.length
  · obtain ⟨p, hp⟩ := get_some hlt
    have hix := fas_idx ha hp
    have hcl := hcall p (List.mem_of_getElem? hp)
    have hd : decide ((k : Int) < (l.length : Int)) = true := by simpa using hlt
    have hw := wrap_succ hlt hmax
    have hnx := take_next hp
    have HI : pb p = true -> idxOf pb l = k := idxOf_at HA.out hp
    have HH := J1 HI
    clear ha hcall hp HI
    repeat' (first | (apply U6; exact Z1; exact Z1; (focus (exact hcl)); simp only [pM, pN, rR, rP]) | refine go1 ?_ | (refine go2 ?_ ?_ <;> intro hh) | fail)
    all_goals first
      | (refine ⟨hlt, _, rfl, ?_, ?_, ?_, ?_, ?_, by omega⟩
         · have := HA.out
           rw [hnx]; simp_all
         all_goals exact Z2)
      | ((simp only [resV_def (X := dX c) Tryz.func178, Tryz.results178]; first | exact J5 | refine J6 ?_)
         have := HH.out hh
         simp [isR, frzRes, dX_frz, dFrz, this])
  · have hd : decide ((k : Int) < (l.length : Int)) = false := by simpa using hlt
    have hkl : k = l.length := by omega
    have h2 := HA.out
    rw [hkl, List.take_length] at h2
    have HI := J1 (idxOf_none h2)
    clear ha hcall h2 hkl
    repeat' (first | refine goS ?_ | (refine go2 ?_ ?_ <;> intro hh) | fail)
    all_goals (simp only [resV_def (X := dX c) Tryz.func178, Tryz.results178]; first | exact J5 | refine J6 ?_)
    have := HI.out
    simp [isR, frzRes, dX_frz, dFrz, this]
set_option maxHeartbeats 400000 in
theorem C179 (c : Itr) (hc : c 179 = none) (a : AV) (l : List TX.Ha) (ha : slV haC a = some l) (g : FuncId) (first capt : List AV) (pb : TX.Ha -> Bool) (h : Heap)
    (hcall : ∀ p : TX.Ha, p ∈ l -> Cl (dX c) g ((first ++ [haC.enc p]) ++ capt) h (.ret (.bool (pb p)) h none)) : Cl (dX c) 179 [a, .func (.func g) first capt] h (.ret (.int .i64 (idxOf pb l)) h none) := by
  refine ClR.cl ?_
  have hlen := sl_len ha
  have hout := sl_out ha
  have hmax := sl_max ha
  refine ClR.walk (c := _) hc Tryz.func179 rfl (by kernel_rfl) rfl (fun e => by cases e) ?_
  simp only [entryEnv, Nat.reduceAdd]
  repeat' (first | refine goS ?_ | (refine go2 ?_ ?_ <;> intro hh) | fail)
  refine W.loopN l.length (fun k F => ∃ e, F = Fr.mk 179 false e .nil h [] none /\ (l.take k).all (fun x => !pb x) = true /\ e.get 0 = some a /\ e.get 1 = some (.func (.func g) first capt) /\ e.get 7 = some (.int .i64 ↑l.length) /\ e.get 8 = some (.int .i64 ↑k) /\ k <= l.length) ?_ ?_
  · refine ⟨_, rfl, ?_, ?_, ?_, ?_, ?_, ?_⟩ <;> simp [go_sem, *]
  rintro k F ⟨e, rfl, hall, h0, h1, h7, h8, hk⟩
  have HA := J1 hall
  clear hall
  by_cases hlt : k < l.length
  · obtain ⟨p, hp⟩ := get_some hlt
    have hix := has_idx ha hp
    have hcl := hcall p (List.mem_of_getElem? hp)
    have hd : decide ((k : Int) < (l.length : Int)) = true := by simpa using hlt
    have hw := wrap_succ hlt hmax
    have hnx := take_next hp
    have HI : pb p = true -> idxOf pb l = k := idxOf_at HA.out hp
    have HH := J1 HI
    clear ha hcall hp HI
    repeat' (first | (apply U6; exact Z1; exact Z1; (focus (exact hcl)); simp only [pM, pN, rR, rP]) | refine go1 ?_ | (refine go2 ?_ ?_ <;> intro hh) | fail)
    all_goals first
      | (refine ⟨hlt, _, rfl, ?_, ?_, ?_, ?_, ?_, by omega⟩
         · have := HA.out
           rw [hnx]; simp_all
         all_goals exact Z2)
      | ((simp only [resV_def (X := dX c) Tryz.func179, Tryz.results179]; first | exact J5 | refine J6 ?_)
         have := HH.out hh
         simp [isR, frzRes, dX_frz, dFrz, this])
  · have hd : decide ((k : Int) < (l.length : Int)) = false := by simpa using hlt
    have hkl : k = l.length := by omega
    have h2 := HA.out
    rw [hkl, List.take_length] at h2
    have HI := J1 (idxOf_none h2)
    clear ha hcall h2 hkl
    repeat' (first | refine goS ?_ | (refine go2 ?_ ?_ <;> intro hh) | fail)
    all_goals (simp only [resV_def (X := dX c) Tryz.func179, Tryz.results179]; first | exact J5 | refine J6 ?_)
    have := HI.out
    simp [isR, frzRes, dX_frz, dFrz, this]
set_option maxHeartbeats 400000 in
theorem C141 (c : Itr) (hc : c 141 = none) (a : AV) (l : List Int) (ha : slV intC a = some l) (g : FuncId) (first capt : List AV) (pb : Int -> Bool) (h : Heap)
    (hcall : ∀ p : Int, p ∈ l -> Cl (dX c) g ((first ++ [intC.enc p]) ++ capt) h (.ret (.bool (pb p)) h none)) : Cl (dX c) 141 [a, .func (.func g) first capt] h (.ret (.int .i64 (idxOf pb l)) h none) := by
  refine ClR.cl ?_
  have hlen := sl_len ha
  have hout := sl_out ha
  have hmax := sl_max ha
  refine ClR.walk (c := _) hc Tryz.func141 rfl (by kernel_rfl) rfl (fun e => by cases e) ?_
  simp only [entryEnv, Nat.reduceAdd]
  repeat' (first | refine goS ?_ | (refine go2 ?_ ?_ <;> intro hh) | fail)
  refine W.loopN l.length (fun k F => ∃ e, F = Fr.mk 141 false e .nil h [] none /\ (l.take k).all (fun x => !pb x) = true /\ e.get 0 = some a /\ e.get 1 = some (.func (.func g) first capt) /\ e.get 7 = some (.int .i64 ↑l.length) /\ e.get 8 = some (.int .i64 ↑k) /\ k <= l.length) ?_ ?_
  · refine ⟨_, rfl, ?_, ?_, ?_, ?_, ?_, ?_⟩ <;> simp [go_sem, *]
  rintro k F ⟨e, rfl, hall, h0, h1, h7, h8, hk⟩
  have HA := J1 hall
  clear hall
  by_cases hlt : k < l.length
  · obtain ⟨p, hp⟩ := get_some hlt
    have hix := ints_idx ha hp
    have hcl := hcall p (List.mem_of_getElem? hp)
    have hd : decide ((k : Int) < (l.length : Int)) = true := by simpa using hlt
    have hw := wrap_succ hlt hmax
    have hnx := take_next hp
    have HI : pb p = true -> idxOf pb l = k := idxOf_at HA.out hp
    have HH := J1 HI
    clear ha hcall hp HI
    repeat' (first | (apply U6; exact Z1; exact Z1; (focus (exact hcl)); simp only [pM, pN, rR, rP]) | refine go1 ?_ | (refine go2 ?_ ?_ <;> intro hh) | fail)
    all_goals first
      | (refine ⟨hlt, _, rfl, ?_, ?_, ?_, ?_, ?_, by omega⟩
         · have := HA.out
           rw [hnx]; simp_all
         all_goals exact Z2)
      | ((simp only [resV_def (X := dX c) Tryz.func141, Tryz.results141]; first | exact J5 | refine J6 ?_)
         have := HH.out hh
         simp [isR, frzRes, dX_frz, dFrz, this])
  · have hd : decide ((k : Int) < (l.length : Int)) = false := by simpa using hlt
    have hkl : k = l.length := by omega
    have h2 := HA.out
    rw [hkl, List.take_length] at h2
    have HI := J1 (idxOf_none h2)
    clear ha hcall h2 hkl
    repeat' (first | refine goS ?_ | (refine go2 ?_ ?_ <;> intro hh) | fail)
    all_goals (simp only [resV_def (X := dX c) Tryz.func141, Tryz.results141]; first | exact J5 | refine J6 ?_)
    have := HI.out
    simp [isR, frzRes, dX_frz, dFrz, this]
theorem C129 (c : Itr) (hc : c 177 = none) (hc2 : c 129 = none) (a : AV) (l : List TX.Rm) (ha : slV rmC a = some l) (g : FuncId) (first capt : List AV) (pb : TX.Rm -> Bool) (h : Heap)
  (hcall : ∀ p : TX.Rm, p ∈ l -> Cl (dX c) g ((first ++ [rmC.enc p]) ++ capt) h (.ret (.bool (pb p)) h none)) : Cl (dX c) 129 [a, .func (.func g) first capt] h (.ret (.bool (l.any pb)) h none) := by
 refine ClR.cl ?_
 have hcl := C177 c hc a l ha g first capt pb h hcall
 have hout := sl_out ha
 have hb := idxOf_any pb l
 clear ha hcall
 refine ClR.walk (c := _) hc2 Tryz.func129 rfl (by kernel_rfl) rfl (fun e => by cases e) ?_
 simp only [entryEnv, Nat.reduceAdd]
 repeat' (first | (apply U6; exact Z1; exact Z1; (focus (exact hcl)); simp only [pM, pN, rR, rP]) | refine go1 ?_ | (refine go2 ?_ ?_ <;> intro hh) | fail)
 all_goals (simp only [resV_def (X := dX c) Tryz.func129, Tryz.results129]; first | exact J5 | refine J6 ?_)
 simp [isR, frzRes, dX_frz, dFrz, hb]
theorem C131 (c : Itr) (hc : c 178 = none) (hc2 : c 131 = none) (a : AV) (l : List TX.Fa) (ha : slV faC a = some l) (g : FuncId) (first capt : List AV) (pb : TX.Fa -> Bool) (h : Heap)
  (hcall : ∀ p : TX.Fa, p ∈ l -> Cl (dX c) g ((first ++ [faC.enc p]) ++ capt) h (.ret (.bool (pb p)) h none)) : Cl (dX c) 131 [a, .func (.func g) first capt] h (.ret (.bool (l.any pb)) h none) := by
 refine ClR.cl ?_
 have hcl := C178 c hc a l ha g first capt pb h hcall
 have hout := sl_out ha
 have hb := idxOf_any pb l
 clear ha hcall
 refine ClR.walk (c := _) hc2 Tryz.func131 rfl (by kernel_rfl) rfl (fun e => by cases e) ?_
 simp only [entryEnv, Nat.reduceAdd]
 repeat' (first | (apply U6; exact Z1; exact Z1; (focus (exact hcl)); simp only [pM, pN, rR, rP]) | refine go1 ?_ | (refine go2 ?_ ?_ <;> intro hh) | fail)
 all_goals (simp only [resV_def (X := dX c) Tryz.func131, Tryz.results131]; first | exact J5 | refine J6 ?_)
 simp [isR, frzRes, dX_frz, dFrz, hb]
theorem C134 (c : Itr) (hc : c 179 = none) (hc2 : c 134 = none) (a : AV) (l : List TX.Ha) (ha : slV haC a = some l) (g : FuncId) (first capt : List AV) (pb : TX.Ha -> Bool) (h : Heap)
  (hcall : ∀ p : TX.Ha, p ∈ l -> Cl (dX c) g ((first ++ [haC.enc p]) ++ capt) h (.ret (.bool (pb p)) h none)) : Cl (dX c) 134 [a, .func (.func g) first capt] h (.ret (.bool (l.any pb)) h none) := by
 refine ClR.cl ?_
 have hcl := C179 c hc a l ha g first capt pb h hcall
 have hout := sl_out ha
 have hb := idxOf_any pb l
 clear ha hcall
 refine ClR.walk (c := _) hc2 Tryz.func134 rfl (by kernel_rfl) rfl (fun e => by cases e) ?_
 simp only [entryEnv, Nat.reduceAdd]
 repeat' (first | (apply U6; exact Z1; exact Z1; (focus (exact hcl)); simp only [pM, pN, rR, rP]) | refine go1 ?_ | (refine go2 ?_ ?_ <;> intro hh) | fail)
 all_goals (simp only [resV_def (X := dX c) Tryz.func134, Tryz.results134]; first | exact J5 | refine J6 ?_)
 simp [isR, frzRes, dX_frz, dFrz, hb]
theorem C92 (c : Itr) (hc : c 141 = none) (hc2 : c 92 = none) (a : AV) (l : List Int) (ha : slV intC a = some l) (g : FuncId) (first capt : List AV) (pb : Int -> Bool) (h : Heap)
  (hcall : ∀ p : Int, p ∈ l -> Cl (dX c) g ((first ++ [intC.enc p]) ++ capt) h (.ret (.bool (pb p)) h none)) : Cl (dX c) 92 [a, .func (.func g) first capt] h (.ret (.bool (l.any pb)) h none) := by
 refine ClR.cl ?_
 have hcl := C141 c hc a l ha g first capt pb h hcall
 have hout := sl_out ha
 have hb := idxOf_any pb l
 clear ha hcall
 refine ClR.walk (c := _) hc2 Tryz.func92 rfl (by kernel_rfl) rfl (fun e => by cases e) ?_
 simp only [entryEnv, Nat.reduceAdd]
 repeat' (first | (apply U6; exact Z1; exact Z1; (focus (exact hcl)); simp only [pM, pN, rR, rP]) | refine go1 ?_ | (refine go2 ?_ ?_ <;> intro hh) | fail)
 all_goals (simp only [resV_def (X := dX c) Tryz.func92, Tryz.results92]; first | exact J5 | refine J6 ?_)
 simp [isR, frzRes, dX_frz, dFrz, hb]
end Go.AM
