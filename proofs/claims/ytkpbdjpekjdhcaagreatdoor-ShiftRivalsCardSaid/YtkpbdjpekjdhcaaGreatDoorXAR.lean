/-
  A part of the proof: contracts of functions.
-/
import Derived.Test.YtkpbdjpekjdhcaaGreatDoorXAN
import Derived.Test.YtkpbdjpekjdhcaaGreatDoorXAO
import Derived.Test.YtkpbdjpekjdhcaaGreatDoorXAP
import Derived.Test.YtkpbdjpekjdhcaaGreatDoorXAQ
import Derived.Test.YtkpbdjpekjdhcaaGreatDoorXAL
import Derived.Test.YtkpbdjpekjdhcaaGreatDoorXAI
set_option maxRecDepth 1000000
set_option linter.unusedSimpArgs false
set_option linter.unusedVariables false
set_option linter.unusedSectionVars false
namespace Go.AM
open Go Go.Proofs
def tq23a : List Part := [q23_0]
theorem MQ23a [Keep] (hT : TabK Tryz.prog) : IntrFn Tryz.prog 23 (partsGo tq23a) := by
 refine part_intr (X := dX cS) (cS_sound hT) ?_
 intro p hp
 simp only [tq23a, List.mem_cons, List.not_mem_nil, or_false] at hp
 subst hp
 ·exact ⟨300, rq23_0⟩
def tq45a : List Part := [q45_47]
theorem MQ45a [Keep] (hT : TabK Tryz.prog) : IntrFn Tryz.prog 45 (partsGo tq45a) := by
 refine part_intr (X := dX cS) (cS_sound hT) ?_
 intro p hp
 simp only [tq45a, List.mem_cons, List.not_mem_nil, or_false] at hp
 subst hp
 ·exact ⟨300, rq45_47⟩
def tq46a : List Part := [q46_124]
theorem MQ46a [Keep] (hT : TabK Tryz.prog) : IntrFn Tryz.prog 46 (partsGo tq46a) := by
 refine part_intr (X := dX cS) (cS_sound hT) ?_
 intro p hp
 simp only [tq46a, List.mem_cons, List.not_mem_nil, or_false] at hp
 subst hp
 ·exact ⟨300, rq46_124⟩
def tq91a : List Part := [q91_321, q91_464, q91_592, q91_714, q91_836, q91_958, q91_1087, q91_1338, q91_1467]
theorem MQ91a [Keep] (hT : TabK Tryz.prog) : IntrFn Tryz.prog 91 (partsGo tq91a) := by
 refine part_intr (X := dX cS) (cS_sound hT) ?_
 intro p hp
 simp only [tq91a, List.mem_cons, List.not_mem_nil, or_false] at hp
 rcases hp with rfl | rfl | rfl | rfl | rfl | rfl | rfl | rfl | rfl
 ·exact ⟨300, rq91_321⟩
 ·exact ⟨300, rq91_464⟩
 ·exact ⟨300, rq91_592⟩
 ·exact ⟨300, rq91_714⟩
 ·exact ⟨300, rq91_836⟩
 ·exact ⟨300, rq91_958⟩
 ·exact ⟨300, rq91_1087⟩
 ·exact ⟨300, rq91_1338⟩
 ·exact ⟨300, rq91_1467⟩
def tq31a : List Part := [q31_1622]
theorem MQ31a [Keep] (hT : TabK Tryz.prog) : IntrFn Tryz.prog 31 (partsGo tq31a) := by
 refine part_intr (X := dX cS) (cS_sound hT) ?_
 intro p hp
 simp only [tq31a, List.mem_cons, List.not_mem_nil, or_false] at hp
 subst hp
 ·exact ⟨300, rq31_1622⟩
def tq36a : List Part := [q36_1726]
theorem MQ36a [Keep] (hT : TabK Tryz.prog) : IntrFn Tryz.prog 36 (partsGo tq36a) := by
 refine part_intr (X := dX cS) (cS_sound hT) ?_
 intro p hp
 simp only [tq36a, List.mem_cons, List.not_mem_nil, or_false] at hp
 subst hp
 ·exact ⟨300, rq36_1726⟩
noncomputable def cS1 : Itr
 | 23 => some (partsGo tq23a)
 | 45 => some (partsGo tq45a)
 | 46 => some (partsGo tq46a)
 | 91 => some (partsGo tq91a)
 | 31 => some (partsGo tq31a)
 | 36 => some (partsGo tq36a)
 | f => cS f
theorem cS1_sound [Keep] (hT : TabK Tryz.prog) : Sound (dX cS1) := dX_sound (fun f g h => by
 unfold cS1 at h
 split at h
 ·cases h; exact MQ23a hT
 ·cases h; exact MQ45a hT
 ·cases h; exact MQ46a hT
 ·cases h; exact MQ91a hT
 ·cases h; exact MQ31a hT
 ·cases h; exact MQ36a hT
 ·exact (cS_sound hT).intr f g h)
theorem rq91_318 [Keep] : partChk (callF (dX cS1) (ev (dX cS1) 300) 91 q91_318.args (partHp q91_318.next q91_318.hp)) q91_318 = true := by kernel_rfl
def tq91b : List Part := [q91_318]
theorem MQ91b [Keep] (hT : TabK Tryz.prog) : IntrFn Tryz.prog 91 (partsGo tq91b) := by
 refine part_intr (X := dX cS1) (cS1_sound hT) ?_
 intro p hp
 simp only [tq91b, List.mem_cons, List.not_mem_nil, or_false] at hp
 subst hp
 ·exact ⟨300, rq91_318⟩
noncomputable def cS2 : Itr
 | 91 => some (orGo (partsGo tq91b) (partsGo tq91a))
 | f => cS1 f
theorem cS2_sound [Keep] (hT : TabK Tryz.prog) : Sound (dX cS2) := dX_sound (fun f g h => by
 unfold cS2 at h
 split at h
 ·cases h; exact or_intr (MQ91b hT) (MQ91a hT)
 ·exact (cS1_sound hT).intr f g h)
theorem rq27_201 [Keep] : partChk (callF (dX cS2) (ev (dX cS2) 300) 27 q27_201.args (partHp q27_201.next q27_201.hp)) q27_201 = true := by kernel_rfl
def tq27c : List Part := [q27_201]
theorem MQ27c [Keep] (hT : TabK Tryz.prog) : IntrFn Tryz.prog 27 (partsGo tq27c) := by
 refine part_intr (X := dX cS2) (cS2_sound hT) ?_
 intro p hp
 simp only [tq27c, List.mem_cons, List.not_mem_nil, or_false] at hp
 subst hp
 ·exact ⟨300, rq27_201⟩
noncomputable def cS3 : Itr
 | 27 => some (partsGo tq27c)
 | f => cS2 f
theorem cS3_sound [Keep] (hT : TabK Tryz.prog) : Sound (dX cS3) := dX_sound (fun f g h => by
 unfold cS3 at h
 split at h
 ·cases h; exact MQ27c hT
 ·exact (cS2_sound hT).intr f g h)
def sp22 : List AV -> Option AV
 | [] => some (.bool true)
 | _ => none
def retTrue : COut -> Bool
 | .ret (.bool true) _ none => true
 | _ => false
theorem retTrue_ret {r : COut} (h : retTrue r = true) : ∃ h', r = .ret (.bool true) h' none := by
 unfold retTrue at h
 split at h
 ·exact ⟨_, rfl⟩
 ·cases h
theorem known_run [Keep] : retTrue (callF (dX cS3) (ev (dX cS3) 300) 22 [] emptyHp) = true := by kernel_rfl
end Go.AM
namespace Go.AM
open Go
variable [Keep]
theorem pure_intr1 {X : Ctx} (s : Sound X) {f : FuncId} {spec : List AV -> Option AV} (hp : ∀ args v, spec args = some v -> v.pur = true) (hr : ∀ args v, spec args = some v -> ∃ h' k, callF X (ev X k) f args emptyHp = .ret v h' none) : IntrFn X.P f (pureFn spec) := by
  intro args h v h' hg C w vs r hv
  unfold pureFn at hg
  split at hg
  · rename_i hpur
    split at hg
    · rename_i u hsp
      cases hg
      obtain ⟨h1, n, hcall⟩ := hr args v hsp
      have hok := s.call n f args emptyHp ⟨fun _ => none, C.sig⟩ w vs r.bare (hv.pur (fun _ _ h => h) (purL_mem.1 hpur)) (by rw [hcall]; intro e; cases e)
      refine ⟨hok.1, fun cs => ?_⟩
      have := hok.2 cs
      rw [hcall] at this
      obtain ⟨C', w', fr, u, q1, q2, q3, q4, q5, q6⟩ := this
      have hle : C.le ⟨C.mu, C'.sig⟩ := ⟨fun _ _ h => h, q6.le.sig⟩
      have hsame : ∀ β, β < w.heap.size -> w'.heap[β]? = w.heap[β]? := fun β hb => q6.same β hb emptyHp_live id
      have hsig : ∀ x u, x.block < w.heap.size -> C'.sig x = some u -> C.sig x = some u := fun x u hb e => by
        rcases q6.sig x u hb e with h | h | h
        · exact h
        · exact (emptyHp_live h).elim
        · exact h.elim
      refine ⟨⟨C.mu, C'.sig⟩, w', fr, u, q1, q2, q3, q4.pur (fun _ _ h => h) (hp _ _ hsp), ⟨q5.sig, fun id blk e => ?_, r.inj, fun id blk L x u e1 e2 e3 e4 => ?_, r.fresh, q5.base⟩, ?_⟩
      · obtain ⟨L, k1, k2⟩ := r.blk id blk e
        exact ⟨L, k1, k2.same hle (hsame _ k2.lt)⟩
      · obtain ⟨L', k1, k2⟩ := r.blk id blk e1
        rw [e2] at k1
        cases k1
        have := k2.lt
        exact r.apart id blk L x u e1 e2 (hsig x u (by rw [e4]; exact this) e3) e4
      · exact { le := hle, os := q6.os, tape := q6.tape, output := q6.output, size := q6.size, same := fun β hb _ _ => hsame β hb, live := fun β hb l => .inl (by
                  obtain ⟨id, blk, L, e1, e2, e3⟩ := l
                  exact ⟨id, blk, L, e1, e2, e3⟩)
                own := fun _ _ o => o.elim, sig := fun x u hb e => .inl (hsig x u hb e), next := Nat.le_refl _ }
    · cases hg
  · cases hg
end Go.AM
namespace Go.AM
open Go Go.Proofs
theorem F22 [Keep] (hT : TabK Tryz.prog) : IntrFn Tryz.prog 22 (pureFn sp22) := by
 refine pure_intr1 (X := dX cS3) (cS3_sound hT) ?_ ?_
 ·intro args v e
  unfold sp22 at e
  split at e
  ·cases e; rfl
  ·cases e
 ·intro args v e
  unfold sp22 at e
  split at e
  ·cases e
   obtain ⟨h', e⟩ := retTrue_ret known_run
   exact ⟨h', 300, e⟩
  ·cases e
end Go.AM
set_option maxRecDepth 100000
namespace Go.AM
open Go Go.Proofs
variable [Keep]
attribute [local irreducible] W WO WO1 WD WQ WT thenQ blockQ endR isRet retK Cl ClR
open Go.TX (Rm Fa Ha Hs)
def madeR (m : Hs) (f : Fl) (r : Nat) (n0 : Int) : Nat -> Int
 | 0 => n0
 | k + 1 => if runsB m f r k = true then w64 (madeR m f r n0 k + (m.rooms.getD r rm0).mke) else madeR m f r n0 k
def madeF (m : Hs) (f : Fl) (n : Nat) : Nat -> Int
 | 0 => 0
 | r + 1 => madeR m f r (madeF m f n r) n
attribute [local irreducible] madeR madeF runsB
end Go.AM
namespace Go.AM
open Go Go.Proofs
variable [Keep]
attribute [local irreducible] W WO WO1 WD WQ WT thenQ blockQ endR isRet retK Cl ClR
def Fl.tell : Fl -> Fk
 | .no => ⟨1, 0, 0⟩
 | .fan n h => ⟨2, n, h⟩
 | .mach n h => ⟨3, n, h⟩
def sp136 : List AV -> Option AV
 | [a] => (flV a).map fun f => fkC.enc f.tell
 | _ => none
theorem F136 : IntrFn Tryz.prog 136 (pureFn sp136) := by
 refine pure_fn (X := dX i0) i0_sound ?_ ?_
 ·intro args v h
  unfold sp136 at h
  split at h
  ·simp only [Option.map_eq_some_iff] at h
   obtain ⟨f, _, rfl⟩ := h
   rfl
  ·cases h
 intro args v h
 unfold sp136 at h
 split at h
 ·rename_i a
  simp only [Option.map_eq_some_iff] at h
  obtain ⟨f, hf, rfl⟩ := h
  obtain rfl := flV_is hf
  clear hf
  cases f
  all_goals
   simp only [Fl.enc, Fl.tell, fkC]
   refine ClR.walk (c := _) rfl Tryz.func136 rfl (by kernel_rfl) rfl isRet_fail ?_
   simp only [entryEnv, Nat.reduceAdd, emptyHp]
   repeat' (first | refine goS ?_ | (refine go2 ?_ ?_ <;> intro hh) | fail)
   all_goals (simp only [resV_def (X := dX i0) Tryz.func136, Tryz.results136]; first | exact J5 | refine J6 ?_)
 ·cases h
theorem K136 {X : Ctx} (hX : X.intr 136 = some (pureFn sp136)) (f : Fl) (h : Heap) : Cl X 136 [f.enc] h (.ret (fkC.enc f.tell) h none) :=
 Cl.intr hX (by simp [pureFn, (fl_parts f).2.2.2, AV.purL, sp136, flV_enc])
open Go.TX (Rm Fa Ha Hs)
attribute [local irreducible] roundQ RdR
section
variable {α σ : Type}
def foldS (f : α -> σ -> σ × Bool) : List α -> σ -> σ × Bool
 | [], s => (s, true)
 | x :: r, s => if (f x s).2 then foldS f r (f x s).1 else f x s
theorem foldS_go {f : α -> σ -> σ × Bool} {s s' : σ} : ∀ {l r : List α}, foldS f l s = (s', true) -> foldS f (l ++ r) s = foldS f r s' := by
 intro l
 induction l generalizing s with
 | nil => intro r h; simp only [foldS, Prod.mk.injEq, and_true] at h; subst h; rfl
 | cons x l ih =>
  intro r h
  simp only [List.cons_append, foldS] at h ⊢
  split at h
  ·rename_i q; rw [if_pos q]; exact ih h
  ·rename_i q; rw [h] at q; exact absurd rfl q
theorem foldS_stop {f : α -> σ -> σ × Bool} {s s' : σ} : ∀ {l r : List α}, foldS f l s = (s', false) -> foldS f (l ++ r) s = (s', false) := by
 intro l
 induction l generalizing s with
 | nil => intro r h; simp [foldS] at h
 | cons x l ih =>
  intro r h
  simp only [List.cons_append, foldS] at h ⊢
  split at h
  ·rename_i q; rw [if_pos q]; exact ih h
  ·rename_i q; rw [if_neg q]; exact h
theorem foldS_one {f : α -> σ -> σ × Bool} {s s' : σ} {l : List α} {x : α} (h : foldS f l s = (s', true)) : foldS f (l ++ [x]) s = f x s' := by
 rw [foldS_go h]
 simp only [foldS]
 split
 ·rename_i q; rw [<- q]
 ·rfl
theorem foldS_pre {f : α -> σ -> σ × Bool} {s s' : σ} {l L : List α} (hp : l <+: L) (h : foldS f l s = (s', false)) : foldS f L s = (s', false) := by
 obtain ⟨r, rfl⟩ := hp
 exact foldS_stop h
end
def hourP (p : List Fl) (mk : Int -> Fl) : Nat -> List Fl
 | 0 => p
 | j + 1 => hourP p mk j ++ [mk j]
def fanP (n : Nat) : Nat -> List Fl
 | 0 => [.no]
 | k + 1 => hourP (fanP n k) (fun j => .fan k j) n
def machP (n : Nat) (p : List Fl) : Nat -> List Fl
 | 0 => p
 | k + 1 => hourP (machP n p k) (fun j => .mach k j) n
def failP (n fans rooms : Nat) : List Fl := machP n (fanP n fans) rooms
theorem hourP_pre {p : List Fl} {mk : Int -> Fl} : ∀ {j n : Nat}, j <= n -> hourP p mk j <+: hourP p mk n := by
 intro j n h
 induction n with
 | zero => obtain rfl : j = 0 := (by omega); exact List.prefix_refl _
 | succ n ih =>
  by_cases e : j = n + 1
  ·subst e; exact List.prefix_refl _
  ·exact (ih (by omega)).trans (List.prefix_append _ _)
theorem fanP_pre {n : Nat} : ∀ {k K : Nat}, k <= K -> fanP n k <+: fanP n K := by
 intro k K h
 induction K with
 | zero => obtain rfl : k = 0 := (by omega); exact List.prefix_refl _
 | succ K ih =>
  by_cases e : k = K + 1
  ·subst e; exact List.prefix_refl _
  ·exact (ih (by omega)).trans (hourP_pre (j := 0) (Nat.zero_le _))
theorem machP_pre {n : Nat} {p : List Fl} : ∀ {k K : Nat}, k <= K -> machP n p k <+: machP n p K := by
 intro k K h
 induction K with
 | zero => obtain rfl : k = 0 := (by omega); exact List.prefix_refl _
 | succ K ih =>
  by_cases e : k = K + 1
  ·subst e; exact List.prefix_refl _
  ·exact (ih (by omega)).trans (hourP_pre (j := 0) (Nat.zero_le _))
theorem fail_fan {n fans rooms k j : Nat} (hk : k < fans) (hj : j <= n) : hourP (fanP n k) (fun j => .fan k j) j <+: failP n fans rooms :=
 ((hourP_pre hj).trans (fanP_pre (n := n) (k := k + 1) (K := fans) (by omega))).trans (machP_pre (k := 0) (Nat.zero_le _))
theorem fail_mach {n fans rooms k j : Nat} (hk : k < rooms) (hj : j <= n) : hourP (machP n (fanP n fans) k) (fun j => .mach k j) j <+: failP n fans rooms :=
 (hourP_pre hj).trans (machP_pre (n := n) (k := k + 1) (K := rooms) (by omega))
theorem fail_no {n fans rooms : Nat} : [Fl.no] <+: failP n fans rooms := (fanP_pre (n := n) (k := 0) (Nat.zero_le _)).trans (machP_pre (k := 0) (Nat.zero_le _))
def stI {σ : Type} (I D : σ -> Heap -> Prop) (v : Bool -> AV) (x : σ × Bool) (r : COut) : Prop := ∃ h', r = .ret (v x.2) h' none /\ (x.2 = true -> I x.1 h') /\ (x.2 = false -> D x.1 h')
theorem stI_fail {σ : Type} {I D : σ -> Heap -> Prop} {v : Bool -> AV} {x : σ × Bool} : ¬ stI I D v x .fail := by rintro ⟨h', e, _⟩; cases e
end Go.AM
namespace Go.AM
open Go Go.Proofs
variable [Keep]
attribute [local irreducible] W WO WO1 WD WQ WT thenQ blockQ endR isRet retK Cl ClR
open Go.TX (Rm Fa Ha Hs)
attribute [local irreducible] roundQ RdR
theorem W.rangeEnds {X : Ctx} {F : Fr} {Q : Out -> Prop} {g : Operand} {params : Array Tmp} {assign body : Code} {fid : FuncId} {first capt : List AV} {R : COut -> Prop} (hg : F.opv g = some (.func (.func fid) first capt))
  (hc : ClR X fid ((first ++ [.yield F.hp.next]) ++ capt) (F.hp.new (.loop F.f (F.e.map noBox) params.toList assign body .ready none)) R)
  (h : ∀ r, Cl X fid ((first ++ [.yield F.hp.next]) ++ capt) (F.hp.new (.loop F.f (F.e.map noBox) params.toList assign body .ready none)) r -> R r -> W X (.rangeFunc g params assign body) F Q) : W X (.rangeFunc g params assign body) F Q := by
 unfold ClR at hc
 obtain ⟨r, h1, h2⟩ := hc
 exact h r h1 h2
theorem stI_go {σ : Type} {I D : σ -> Heap -> Prop} {v : Bool -> AV} {x : σ × Bool} {s' : σ} {h' : Heap} (e : x = (s', true)) (i : I s' h') : stI I D v x (.ret (v true) h' none) := by
 subst e; exact ⟨h', rfl, fun _ => i, fun e => by cases e⟩
theorem C108 (c : Itr) (hc : c 108 = none) (n : Int) (ra fa oa ha : AV) (h1 : outV (some ra) = some ra) (h2 : outV (some fa) = some fa) (h3 : outV (some oa) = some oa) (h4 : outV (some ha) = some ha) (hn : Nat) (hm : Mp Blk) :
  Cl (dX c) 108 [.agg [.int .i64 n, ra, fa, oa, ha]] ⟨hn, hm⟩ (.ret (.func (.func 150) [] [.ptr hn 0]) ⟨hn + 1, hm.set hn (.var [.int .i64 n, ra, fa, oa, ha])⟩ none) := by
 refine ClR.cl ?_
 refine ClR.walk (c := _) hc Tryz.func108 rfl (by kernel_rfl) rfl (fun e => by cases e) ?_
 simp only [entryEnv, Nat.reduceAdd, List.nil_append, List.cons_append]
 repeat' (first | refine goS ?_ | (refine go2 ?_ ?_ <;> intro hh) | fail)
 all_goals (simp only [resV_def (X := dX c) Tryz.func108, Tryz.results108]; first | exact J5 | refine J6 ?_)
 all_goals rfl
def fkEq (a b : Fk) : Bool := a.what == b.what && a.num == b.num && a.hour == b.hour
end Go.AM
