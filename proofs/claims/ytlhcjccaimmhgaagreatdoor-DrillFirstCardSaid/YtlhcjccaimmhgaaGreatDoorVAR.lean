/-
  A part of the proof: contracts of functions.
-/
import Derived.Test.YtlhcjccaimmhgaaGreatDoorVAQ
import Derived.Test.YtlhcjccaimmhgaaGreatDoorVAK
import Derived.Test.YtlhcjccaimmhgaaGreatDoorVAF
import Derived.Test.YtlhcjccaimmhgaaGreatDoorVAO
import Derived.Test.YtlhcjccaimmhgaaGreatDoorVAP
import Derived.Test.YtlhcjccaimmhgaaGreatDoorVAG
set_option linter.unusedSectionVars false
set_option linter.unusedVariables false
set_option linter.unusedSimpArgs false
set_option maxRecDepth 100000
namespace Go.AM
open Go Go.Proofs
variable [Keep]
attribute [local irreducible] W WO WO1 WD WQ WT thenQ blockQ endR isRet retK Cl ClR
theorem C177 (c : Itr) (hc : c 177 = none) (hc2 : c 93 = some (pureFn sp93)) (n : Int) (hp : Heap) : Cl (dX c) 177 ([] ++ [intC.enc n] ++ []) hp (.ret (.bool (!okN n)) hp none) := by
 have K93' := fun (x lo hi : Int) (h : Heap) => K93 (X := dX c) hc2 x lo hi h
 have HCX := Lib.hid K93'
 clear K93'
 refine ClR.cl ?_
 refine ClR.walk (c := _) hc Tryz.func177 rfl (by kernel_rfl) rfl (fun e => by cases e) ?_
 simp only [List.nil_append, List.cons_append, intC, entryEnv, Nat.reduceAdd]
 repeat' (first | refine goS ?_ | (apply U6; exact Z1; exact Z1; (focus (simp only [List.nil_append, List.append_nil]; first | exact HCX.out _ _ _ _)); simp only [pM, pN, rR, rP]) | refine go2 (fun hh => ?_) (fun hh => ?_) | fail)
 all_goals (simp only [resV_def (X := dX c) Tryz.func177, Tryz.results177]; first | exact J5 | refine J6 ?_)
 all_goals simp [isR, okN, frzRes, dX_frz, dFrz, *]
set_option maxHeartbeats 400000 in
theorem C193 (c : Itr) (hc : c 193 = none) (a : AV) (l : List Int) (ha : slV intC a = some l) (g : FuncId) (first capt : List AV) (pb : Int -> Bool) (h : Heap)
    (hcall : ∀ p : Int, p ∈ l -> Cl (dX c) g ((first ++ [intC.enc p]) ++ capt) h (.ret (.bool (pb p)) h none)) : Cl (dX c) 193 [a, .func (.func g) first capt] h (.ret (.int .i64 (idxOf pb l)) h none) := by
  refine ClR.cl ?_
  have hlen := sl_len ha
  have hout := sl_out ha
  have hmax := sl_max ha
  refine ClR.walk (c := _) hc Tryz.func193 rfl (by kernel_rfl) rfl (fun e => by cases e) ?_
  simp only [entryEnv, Nat.reduceAdd]
  repeat' (first | refine goS ?_ | refine go2 (fun hh => ?_) (fun hh => ?_) | fail)
  refine W.loopN l.length (fun k F => ∃ e, F = Fr.mk 193 false e .nil h [] none /\ (l.take k).all (fun x => !pb x) = true /\ e.get 0 = some a /\ e.get 1 = some (.func (.func g) first capt) /\ e.get 7 = some (.int .i64 ↑l.length) /\ e.get 8 = some (.int .i64 ↑k) /\ k <= l.length) ?_ ?_
  · refine ⟨_, rfl, ?_, ?_, ?_, ?_, ?_, ?_⟩ <;> simp [go_sem, *]
  rintro k F ⟨e, rfl, hall, h0, h1, h7, h8, hk⟩
  have HA := Lib.hid hall
  clear hall
  by_cases hlt : k < l.length
  · obtain ⟨p, hp⟩ := get_some hlt
    have hix := int_idx ha hp
    have hcl := hcall p (List.mem_of_getElem? hp)
    have hd : decide ((k : Int) < (l.length : Int)) = true := by simpa using hlt
    have hw := wrap_succ hlt hmax
    have hnx := take_next hp
    have HI : pb p = true -> idxOf pb l = k := idxOf_at HA.out hp
    have HH := Lib.hid HI
    clear ha hcall hp HI
    simp only [intC] at hcl
    repeat' (first | (apply U6; exact Z1; exact Z1; (focus (exact hcl)); simp only [pM, pN, rR, rP]) | refine go1 ?_ | refine go2 (fun hh => ?_) (fun hh => ?_) | fail)
    all_goals first
      | (refine ⟨hlt, _, rfl, ?_, ?_, ?_, ?_, ?_, by omega⟩
         · have := HA.out
           rw [hnx]; simp_all
         all_goals exact Z2)
      | ((simp only [resV_def (X := dX c) Tryz.func193, Tryz.results193]; first | exact J5 | refine J6 ?_)
         have := HH.out hh
         simp [isR, frzRes, dX_frz, dFrz, this])
  · have hd : decide ((k : Int) < (l.length : Int)) = false := by simpa using hlt
    have hkl : k = l.length := by omega
    have h2 := HA.out
    rw [hkl, List.take_length] at h2
    have HI := Lib.hid (idxOf_none h2)
    clear ha hcall h2 hkl
    repeat' (first | refine goS ?_ | refine go2 (fun hh => ?_) (fun hh => ?_) | fail)
    all_goals (simp only [resV_def (X := dX c) Tryz.func193, Tryz.results193]; first | exact J5 | refine J6 ?_)
    have := HI.out
    simp [isR, frzRes, dX_frz, dFrz, this]
theorem C178 (c : Itr) (hc : c 193 = none) (hc2 : c 178 = none) (a : AV) (l : List Int) (ha : slV intC a = some l) (g : FuncId) (first capt : List AV) (pb : Int -> Bool) (h : Heap)
  (hcall : ∀ p : Int, p ∈ l -> Cl (dX c) g ((first ++ [intC.enc p]) ++ capt) h (.ret (.bool (pb p)) h none)) : Cl (dX c) 178 [a, .func (.func g) first capt] h (.ret (.bool (l.any pb)) h none) := by
 refine ClR.cl ?_
 have hcl := C193 c hc a l ha g first capt pb h hcall
 have hout := sl_out ha
 have hb := idxOf_any pb l
 clear ha hcall
 refine ClR.walk (c := _) hc2 Tryz.func178 rfl (by kernel_rfl) rfl (fun e => by cases e) ?_
 simp only [entryEnv, Nat.reduceAdd]
 repeat' (first | (apply U6; exact Z1; exact Z1; (focus (exact hcl)); simp only [pM, pN, rR, rP]) | refine go1 ?_ | refine go2 (fun hh => ?_) (fun hh => ?_) | fail)
 all_goals (simp only [resV_def (X := dX c) Tryz.func178, Tryz.results178]; first | exact J5 | refine J6 ?_)
 simp [isR, frzRes, dX_frz, dFrz, hb]
theorem any_okN (l : List Int) : (l.any fun n => !okN n) = !l.all okN := by
 rw [List.any_eq_not_all_not]
 congr 2
 funext n
 simp
set_option maxHeartbeats 1000000 in
theorem F136 : IntrFn Tryz.prog 136 (pureFn sp72) := by
 refine pure_fn (X := dX cQ) cQ_sound p72 ?_
 intro args v h
 unfold sp72 at h
 split at h
 ·rename_i xa ya
  split at h
  ·rename_i xs ys hl hr
   have h := Option.some.inj h
   subst h
   have hlen := sl_len hl
   have hout := sl_out hl
   have hlen2 := sl_len hr
   have hout2 := sl_out hr
   have hcx : ∀ hp : Heap, Cl (dX cQ) 178 [xa, .func (.func 177) [] []] hp (.ret (.bool (!xs.all okN)) hp none) := fun hp => by
    have := C178 cQ rfl rfl xa xs hl 177 [] [] (fun n => !okN n) hp (fun p _ => C177 cQ rfl rfl p hp)
    rw [any_okN] at this
    exact this
   have hcy : ∀ hp : Heap, Cl (dX cQ) 178 [ya, .func (.func 177) [] []] hp (.ret (.bool (!ys.all okN)) hp none) := fun hp => by
    have := C178 cQ rfl rfl ya ys hr 177 [] [] (fun n => !okN n) hp (fun p _ => C177 cQ rfl rfl p hp)
    rw [any_okN] at this
    exact this
   have ht : truthB xs ys = (((xs.length : Int) == 13) && ((ys.length : Int) == 13) && xs.all okN && ys.all okN) := rfl
   rw [ht]
   generalize xs.all okN = ax at *
   generalize ys.all okN = ay at *
   have HCX := Lib.hid hcx
   have HCY := Lib.hid hcy
   clear hl hr hcx hcy ht
   refine ClR.walk (c := _) rfl Tryz.func136 rfl (by kernel_rfl) rfl isRet_fail ?_
   simp only [entryEnv, Nat.reduceAdd]
   repeat' (first | refine goS ?_ | (apply U6; exact Z1; exact Z1; (focus (simp only [List.nil_append, List.append_nil]; first | exact HCX.out _ | exact HCY.out _)); simp only [pM, pN, rR, rP]) | refine go2 (fun hh => ?_) (fun hh => ?_) | fail)
   all_goals (simp only [resV_def (X := dX cQ) Tryz.func136, Tryz.results136]; first | exact J5 | refine J6 ?_)
   all_goals (generalize ((xs.length : Int) == 13) = b1 at *; generalize ((ys.length : Int) == 13) = b2 at *; simp_all)
  ·cases h
 ·cases h
def stepB (w : Sp) (l : List Int) (k : Nat) : Bool := inB (w64 (l.getD (k + 1) 0 - l.getD k 0)) w.lo w.hi
def rdgF (r : Rdg) (xs ys : List Int) : Bool := inB (w64 (xs.getD r.b.toNat 0 - r.x)) (w64 (-r.err)) r.err && inB (w64 (ys.getD r.b.toNat 0 - r.y)) (w64 (-r.err)) r.err
def fitsR (cx cy wx wy : Sp) (rs : List Rdg) (xs ys : List Int) : Bool :=
 (inB (xs.getD 0 0) cx.lo cx.hi && inB (ys.getD 0 0) cy.lo cy.hi) && ((List.range 12).all (fun k => stepB wx xs k && stepB wy ys k) && rs.all (fun r => rdgF r xs ys))
def blkR (r : Rdg) : Bool := inB r.b 0 12
theorem all_no {α : Type} {f : α -> Bool} {l : List α} {x : α} (hx : x ∈ l) (h : f x = false) : l.all f = false := by
 rw [Bool.eq_false_iff]
 intro h2
 have := List.all_eq_true.1 h2 x hx
 rw [h] at this
 cases this
theorem range_next (f : Nat -> Bool) (k : Nat) (h : (List.range k).all f = true) (h2 : f k = true) : (List.range (k + 1)).all f = true := by
 rw [List.range_succ]
 simp only [List.all_append, h, List.all_cons, h2, List.all_nil, Bool.and_self]
theorem getD_i {l : List Int} {k : Nat} {n : Int} (h : l[k]? = some n) : l.getD k 0 = n := by simp [List.getD, h]
end Go.AM
namespace Go.AM
open Go Go.Proofs
variable [Keep]
attribute [local irreducible] W WO WO1 WD WQ WT thenQ blockQ endR isRet retK Cl ClR
set_option maxHeartbeats 400000 in
theorem C203 (c : Itr) (hc : c 203 = none) (a : AV) (l : List Lim) (h : Heap) (ha : RdL h a l) (g : FuncId) (first capt : List AV) (pb : Lim -> Bool)
    (hcall : ∀ p : Lim, p ∈ l -> Cl (dX c) g ((first ++ [limC.enc p]) ++ capt) h (.ret (.bool (pb p)) h none)) : Cl (dX c) 203 [a, .func (.func g) first capt] h (.ret (.int .i64 (idxOf pb l)) h none) := by
  refine ClR.cl ?_
  have hlen := ha.len
  have hout := ha.out
  have hmax := ha.max
  have hone := ha.one
  have htup := ha.tup
  have HV := Lib.hid ha
  clear ha
  refine ClR.walk (c := _) hc Tryz.func203 rfl (by kernel_rfl) rfl (fun e => by cases e) ?_
  simp only [entryEnv, Nat.reduceAdd]
  repeat' (first | refine goS ?_ | refine go2 (fun hh => ?_) (fun hh => ?_) | fail)
  refine W.loopN l.length (fun k F => ∃ e, F = Fr.mk 203 false e .nil h [] none /\ (l.take k).all (fun x => !pb x) = true /\ e.get 0 = some a /\ e.get 1 = some (.func (.func g) first capt) /\ e.get 7 = some (.int .i64 ↑l.length) /\ e.get 8 = some (.int .i64 ↑k) /\ k <= l.length) ?_ ?_
  · refine ⟨_, rfl, ?_, ?_, ?_, ?_, ?_, ?_⟩ <;> simp [go_sem, *]
  rintro k F ⟨e, rfl, hall, h0, h1, h7, h8, hk⟩
  have HA := Lib.hid hall
  clear hall
  by_cases hlt : k < l.length
  · obtain ⟨p, hp⟩ := get_some hlt
    obtain ⟨ptr, hptr, hmem⟩ := HV.out.get k p hp h (fun _ _ => rfl)
    have hcl := hcall p (List.mem_of_getElem? hp)
    have hd : decide ((k : Int) < (l.length : Int)) = true := by simpa using hlt
    have hw := wrap_succ hlt hmax
    have hnx := take_next hp
    have HI : pb p = true -> idxOf pb l = k := idxOf_at HA.out hp
    have HH := Lib.hid HI
    clear hcall hp HI
    simp only [limC] at hcl
    repeat' (first | (apply U6; exact Z1; exact Z1; (focus (exact hcl)); simp only [pM, pN, rR, rP]) | refine go1 ?_ | refine go2 (fun hh => ?_) (fun hh => ?_) | fail)
    all_goals first
      | (refine ⟨hlt, _, rfl, ?_, ?_, ?_, ?_, ?_, by omega⟩
         · have := HA.out
           rw [hnx]; simp_all
         all_goals exact Z2)
      | ((simp only [resV_def (X := dX c) Tryz.func203, Tryz.results203]; first | exact J5 | refine J6 ?_)
         have := HH.out hh
         simp [isR, frzRes, dX_frz, dFrz, this])
  · have hd : decide ((k : Int) < (l.length : Int)) = false := by simpa using hlt
    have hkl : k = l.length := by omega
    have h2 := HA.out
    rw [hkl, List.take_length] at h2
    have HI := Lib.hid (idxOf_none h2)
    clear hcall h2 hkl
    repeat' (first | refine goS ?_ | refine go2 (fun hh => ?_) (fun hh => ?_) | fail)
    all_goals (simp only [resV_def (X := dX c) Tryz.func203, Tryz.results203]; first | exact J5 | refine J6 ?_)
    have := HI.out
    simp [isR, frzRes, dX_frz, dFrz, this]
theorem C195 (c : Itr) (hc : c 203 = none) (hc2 : c 195 = none) (a : AV) (l : List Lim) (h : Heap) (ha : RdL h a l) (g : FuncId) (first capt : List AV) (pb : Lim -> Bool)
  (hcall : ∀ p : Lim, p ∈ l -> Cl (dX c) g ((first ++ [limC.enc p]) ++ capt) h (.ret (.bool (pb p)) h none)) : Cl (dX c) 195 [a, .func (.func g) first capt] h (.ret (.bool (l.any pb)) h none) := by
 refine ClR.cl ?_
 have hcl := C203 c hc a l h ha g first capt pb hcall
 have hout := ha.out
 have hb := idxOf_any pb l
 clear ha hcall
 refine ClR.walk (c := _) hc2 Tryz.func195 rfl (by kernel_rfl) rfl (fun e => by cases e) ?_
 simp only [entryEnv, Nat.reduceAdd]
 repeat' (first | (apply U6; exact Z1; exact Z1; (focus (exact hcl)); simp only [pM, pN, rR, rP]) | refine go1 ?_ | refine go2 (fun hh => ?_) (fun hh => ?_) | fail)
 all_goals (simp only [resV_def (X := dX c) Tryz.func195, Tryz.results195]; first | exact J5 | refine J6 ?_)
 simp [isR, frzRes, dX_frz, dFrz, hb]
def inL (l : List Int) (m : Lim) : Bool := inB (l.getD m.b.toNat 0) m.lo m.hi
theorem C196 (c : Itr) (hc : c 196 = none) (hc2 : c 194 = some (pureFn sp139)) (la : AV) (l : List Int) (hl : slV intC la = some l) (m : Lim) (id : Nat) (hp : Heap) (hg : hp.get id = some (.var [la])) (hb : 0 <= m.b /\ m.b.toNat < l.length) :
  Cl (dX c) 196 ([] ++ [limC.enc m] ++ [.ptr id 0]) hp (.ret (.bool (!inL l m)) hp none) := by
 obtain ⟨k, hk⟩ : ∃ k : Nat, m.b = k := ⟨m.b.toNat, by omega⟩
 obtain ⟨x, hx⟩ := get_some (show k < l.length by omega)
 have hix := int_idx hl hx
 have hout := sl_out hl
 obtain ⟨hone, htup⟩ := sl_one hl
 have hin : inL l m = inB x m.lo m.hi := by
  have : m.b.toNat = k := by omega
  simp only [inL, this, getD_i hx]
 rw [hin]
 refine ClR.cl ?_
 refine ClR.walk (c := _) hc Tryz.func196 rfl (by kernel_rfl) rfl (fun e => by cases e) ?_
 simp only [List.nil_append, List.cons_append, limC, entryEnv, Nat.reduceAdd]
 rw [hk]
 clear hl hx hin hk hb
 repeat' (first | (apply W.drawQ (id := 1) (l1 := [0, 1, 2, 3, 4, 5, 6, 7, 8, 9]) (l2 := []); kernel_rfl; kernel_rfl; kernel_rfl; exact Z4) | refine go1 ?_ | (apply U6; exact Z1; exact Z1; (focus (simp only [List.nil_append, List.append_nil]; first | exact K194 hc2 _ _ _ _)); simp only [pM, pN, rR, rP]) | refine go2 (fun hh => ?_) (fun hh => ?_) | fail)
 all_goals (simp only [resV_def (X := dX c) Tryz.func196, Tryz.results196]; first | exact J5 | refine J6 ?_)
 all_goals simp [isR, frzRes, dX_frz, dFrz]
def fitsA (ax : Ax) (l : List Int) : Bool := inB (l.getD 0 0) ax.chuck.lo ax.chuck.hi && ((List.range 12).all (fun k => stepB ax.wear l k) && ax.limits.all (inL l))
def isFit (h : Heap) (b : Bool) (r : COut) : Prop := ∃ h', HExt h h' /\ r = .ret (.bool b) h' none
theorem isFit_fail {h : Heap} {b : Bool} : ¬ isFit h b .fail := by rintro ⟨_, _, e⟩; cases e
theorem isFit_ret {h hp : Heap} {b : Bool} (hx : h.next <= hp.next /\ ∀ id, id < h.next -> hp.get id = h.get id) : isFit h b (.ret (.bool b) hp none) := ⟨hp, hx, rfl⟩
attribute [local irreducible] isFit
theorem RdL.ext {h h' : Heap} {v : AV} {l : List Lim} (r : RdL h v l) (e : HExt h h') : RdL h' v l :=
 ⟨r.len, r.out, r.max, r.one, r.tup, fun k m hk hp hq => r.get k m hk hp (fun id hi => (hq id (Nat.lt_of_lt_of_le hi e.1)).trans (e.2 id hi))⟩
set_option maxHeartbeats 2000000 in
theorem C179 (c : Itr) (hc : c 179 = none) (hc2 : c 194 = some (pureFn sp139)) (hc3 : c 195 = none) (hc4 : c 203 = none) (hc5 : c 196 = none) (ax : Ax) (v la : AV) (l : List Int) (n : Nat) (m : Mp Blk) (hv : RdL ⟨n, m⟩ v ax.limits) (hl : slV intC la = some l) (h13 : l.length = 13)
    (hb : ∀ p ∈ ax.limits, 0 <= p.b /\ p.b.toNat < l.length) : ClR (dX c) 179 [.agg [.int .i64 ax.chuck.lo, .int .i64 ax.chuck.hi, .int .i64 ax.wear.lo, .int .i64 ax.wear.hi, v], la] ⟨n, m⟩ (isFit ⟨n, m⟩ (fitsA ax l)) := by
  have hself : ∀ b, (Heap.mk (n + 1) (m.set n b)).get n = some b := fun b => get_set_same _ _ _
  have hext : HExt ⟨n, m⟩ ⟨n + 1, m.set n (.var [la])⟩ := ⟨Nat.le_succ _, fun id hi => by
    have : n ≠ id := by simp only at hi; omega
    simp [Heap.get, this]⟩
  have hcon : Cl (dX c) 195 [v, .func (.func 196) [] [.ptr n 0]] ⟨n + 1, m.set n (.var [la])⟩ (.ret (.bool (!ax.limits.all (inL l))) ⟨n + 1, m.set n (.var [la])⟩ none) := by
    have := C195 c hc4 hc3 v ax.limits ⟨n + 1, m.set n (.var [la])⟩ (hv.ext hext) 196 [] [.ptr n 0] (fun p => !inL l p) (fun p hp => C196 c hc5 hc2 la l hl p n _ (hself _) (hb p hp))
    have e : (ax.limits.any fun p => !inL l p) = !ax.limits.all (inL l) := by
      rw [List.any_eq_not_all_not]
      congr 2
      funext p
      simp
    rw [e] at this
    exact this
  have HC := Lib.hid hcon
  have hout := sl_out hl
  have hlen := sl_len hl
  obtain ⟨hone, htup⟩ := sl_one hl
  have hcc := (slV_is hl).1.cells
  have htt := htup
  simp only [AV.cells] at hcc
  simp only [isTuple] at htt
  have hvo := hv.out
  have hvt := hv.tup
  have hvc := hv.one
  obtain ⟨p0, hp0⟩ := get_some (show 0 < l.length by omega)
  have hx0 : ∀ H : Heap, indexAddrV Tryz.prog H 39 la (.int .i64 0) = some (.vptr [.int .i64 p0]) := int_idx hl hp0
  have hfx : fitsA ax l = (inB p0 ax.chuck.lo ax.chuck.hi && ((List.range 12).all (fun k => stepB ax.wear l k) && ax.limits.all (inL l))) := by
    unfold fitsA
    rw [getD_i hp0]
  rw [hfx]
  have HL := Lib.hid hl
  have H13 := Lib.hid h13
  have HE := Lib.hid hext
  clear hfx hcon hp0 hl h13 hb hv hext
  refine ClR.walk (c := _) hc Tryz.func179 rfl (by kernel_rfl) rfl isFit_fail ?_
  simp only [entryEnv, Nat.reduceAdd]
  cases hc0 : inB p0 ax.chuck.lo ax.chuck.hi with
  | false =>
    simp only [Bool.false_and]
    repeat' (first | (apply W.drawQ (id := 1) (l1 := [0, 1, 2, 3, 4, 5, 6]) (l2 := []); kernel_rfl; kernel_rfl; kernel_rfl; exact Z4) | (apply W.drawQ (id := 6) (l1 := [0, 1, 2, 3, 4, 5, 6, 7, 8, 9, 10, 11, 12, 13]) (l2 := []); kernel_rfl; kernel_rfl; kernel_rfl; exact Z4) | refine go1 ?_ | (apply U6; exact Z1; exact Z1; (focus (simp only [List.nil_append, List.append_nil]; first | exact K194 hc2 _ _ _ _)); simp only [pM, pN, rR, rP]) | refine go2 (fun hh => ?_) (fun hh => ?_) | fail)
    all_goals (simp only [resV_def (X := dX c) Tryz.func179, Tryz.results179]; first | exact J5 | refine J6 ?_)
    all_goals exact isFit_ret HE.out
  | true =>
    simp only [Bool.true_and]
    repeat' (first | (apply W.drawQ (id := 1) (l1 := [0, 1, 2, 3, 4, 5, 6]) (l2 := []); kernel_rfl; kernel_rfl; kernel_rfl; exact Z4) | (apply W.drawQ (id := 6) (l1 := [0, 1, 2, 3, 4, 5, 6, 7, 8, 9, 10, 11, 12, 13]) (l2 := []); kernel_rfl; kernel_rfl; kernel_rfl; exact Z4) | refine go1 ?_ | (apply U6; exact Z1; exact Z1; (focus (simp only [List.nil_append, List.append_nil]; first | exact K194 hc2 _ _ _ _)); simp only [pM, pN, rR, rP]) | refine go2 (fun hh => ?_) (fun hh => ?_) | fail)
    refine W.loopN 12 (fun k F => ∃ e lm, F = Fr.mk 179 false e lm ⟨n + 1, m.set n (.var [la])⟩ [] none /\ (List.range k).all (fun k => stepB ax.wear l k) = true /\ lm.get 2 = some (0, [.int .i64 ax.chuck.lo, .int .i64 ax.chuck.hi, .int .i64 ax.wear.lo, .int .i64 ax.wear.hi, v]) /\
      e.get 2 = some (.lptr 2 0 0) /\ e.get 3 = some (.ptr n 0) /\ e.get 5 = some (.int .i64 ↑(k + 1)) /\ k <= 12) ?_ ?_
    · refine ⟨_, _, rfl, ?_, ?_, ?_, ?_, ?_, ?_⟩ <;> first | exact Z2 | simp [go_sem, *]
    clear hx0 hc0
    rintro k F ⟨e, lm, rfl, hall, hl2, h2, h3, h5, hk⟩
    have HA := Lib.hid hall
    clear hall
    by_cases hlt : k < 12
    · have hd : decide ((↑(k + 1) : Int) < (l.length : Int)) = true := by rw [H13.out]; simp; omega
      obtain ⟨p1, hp1⟩ := get_some (show k + 1 < l.length by rw [H13.out]; omega)
      obtain ⟨p, hp⟩ := get_some (show k < l.length by rw [H13.out]; omega)
      have hw1 : IntKind.i64.wrap (↑(k + 1) - 1) = ↑k := by rw [wrap_small (by omega) (by omega)]; omega
      have hw2 : IntKind.i64.wrap (↑(k + 1) + 1) = ↑(k + 1 + 1) := by rw [wrap_small (by omega) (by omega)]; omega
      have i1 := int_idx HL.out hp1
      have i2 := int_idx HL.out hp
      have hst : stepB ax.wear l k = inB (IntKind.i64.wrap (p1 - p)) ax.wear.lo ax.wear.hi := by
        simp only [stepB, getD_i hp1, getD_i hp]
        rfl
      have HN := Lib.hid (fun h : inB (IntKind.i64.wrap (p1 - p)) ax.wear.lo ax.wear.hi = false => all_no (f := fun k => stepB ax.wear l k) (l := List.range 12) (List.mem_range.2 hlt) (hst.trans h))
      have HP := Lib.hid (fun h : inB (IntKind.i64.wrap (p1 - p)) ax.wear.lo ax.wear.hi = true => range_next (fun k => stepB ax.wear l k) k HA.out (hst.trans h))
      clear hst hp1 hp
      generalize (List.range 12).all (fun k => stepB ax.wear l k) = sb at *
      repeat' (first | (apply W.drawQ (id := 1) (l1 := [0, 1, 2, 3, 4, 5, 6]) (l2 := []); kernel_rfl; kernel_rfl; kernel_rfl; exact Z4) | (apply W.drawQ (id := 6) (l1 := [0, 1, 2, 3, 4, 5, 6, 7, 8, 9, 10, 11, 12, 13]) (l2 := []); kernel_rfl; kernel_rfl; kernel_rfl; exact Z4) | refine go1 ?_ | (apply U6; exact Z1; exact Z1; (focus (simp only [List.nil_append, List.append_nil]; first | exact K194 hc2 _ _ _ _)); simp only [pM, pN, rR, rP]) | refine go2 (fun hh => ?_) (fun hh => ?_) | fail)
      all_goals (try simp only [Bool.not_eq_false', Bool.not_eq_true'] at *)
      all_goals first
        | (refine ⟨hlt, _, _, rfl, ?_, ?_, ?_, ?_, ?_, by omega⟩
           · exact HP.out (by simp only [*])
           all_goals exact Z2)
        | ((simp only [resV_def (X := dX c) Tryz.func179, Tryz.results179]; first | exact J5 | refine J6 ?_)
           rw [HN.out (by simp only [*]), Bool.false_and]
           exact isFit_ret HE.out)
    · have hd : decide ((↑(k + 1) : Int) < (l.length : Int)) = false := by rw [H13.out]; simp; omega
      have hk12 : k = 12 := by omega
      have hall := HA.out
      rw [hk12] at hall
      rw [hall, Bool.true_and]
      clear hk12 hall
      generalize ax.limits.all (inL l) = lb at *
      repeat' (first | refine goS ?_ | (apply U6; exact Z1; exact Z1; (focus (simp only [List.nil_append, List.append_nil]; first | exact HC.out)); simp only [pM, pN, rR, rP]) | refine go2 (fun hh => ?_) (fun hh => ?_) | fail)
      all_goals (simp only [resV_def (X := dX c) Tryz.func179, Tryz.results179]; first | exact J5 | refine J6 ?_)
      all_goals (simp only [Bool.not_not]; exact isFit_ret HE.out)
end Go.AM
namespace Go.AM
open Go Go.Proofs
variable [Keep]
attribute [local irreducible] W WO WO1 WD WQ WT thenQ blockQ endR isRet retK Cl ClR
attribute [local irreducible] boundsS machB
section
variable {X : Ctx} {f : FuncId} {ops : Array Oper} {ts : List (Nat × Trace)} {i k : Nat} {r : List (Nat × Nat)} {x : Oper} {d : Option Tmp} {op : Op} {T : TypeId} {ps : String} {af : Array Edge}
  {f1 f2 : FuncId} {r1 r2 : Bool} {e1 e2 : Mp AV} {lm1 lm2 : Mp (Nat × List AV)} {hp1 hp2 : Heap} {df1 df2 : List (AV × List AV)} {up1 up2 : Option (AV × Bool)} {v1 v2 : AV} {a1 a2 : Fr} {j : Nat} {want b : Bool} {o : Oper} {s : Tmp}
theorem calm_eff (h1 : ops[i]? = some x) (h2 : ops[k]? = some ⟨d, op, T, ps, af, none⟩) (h3 : traceOf ts i = some ⟨Fr.mk f1 r1 e1 lm1 hp1 df1 up1, v1, a1⟩) (h4 : traceOf ts k = some ⟨Fr.mk f2 r2 e2 lm2 hp2 df2 up2, v2, a2⟩)
  (h5 : isEffD X f x = true) (h7 : rdV X (Fr.mk f2 r2 e2 lm1 hp1 df2 up2) d op = some v2) (h8 : r.all (calmPair X f ops ts) = true) : ((i, k) :: r).all (calmPair X f ops ts) = true := by
 simp only [List.all_cons, h8, Bool.and_true, calmPair, h1, h2, h3, h4, h5, if_true, rereads, wantedA, h7]
 exact AV.same_refl _
theorem calm_effG (h1 : ops[i]? = some x) (h2 : ops[k]? = some ⟨d, op, T, ps, af, some (j, want)⟩) (h3 : traceOf ts i = some ⟨Fr.mk f1 r1 e1 lm1 hp1 df1 up1, v1, a1⟩) (h4 : traceOf ts k = some ⟨Fr.mk f2 r2 e2 lm2 hp2 df2 up2, v2, a2⟩)
  (h5 : isEffD X f x = true) (ho : ops[j]? = some o) (ht : o.dst = some s) (hb : e2.get s = some (.bool want)) (h7 : rdV X (Fr.mk f2 r2 e2 lm1 hp1 df2 up2) d op = some v2) (h8 : r.all (calmPair X f ops ts) = true) : ((i, k) :: r).all (calmPair X f ops ts) = true := by
 have hw : wantedA ops (Fr.mk f2 r2 e2 lm2 hp2 df2 up2) ⟨d, op, T, ps, af, some (j, want)⟩ = true := by simp [wantedA, yieldedA, ho, ht, hb]
 simp only [List.all_cons, h8, Bool.and_true, calmPair, h1, h2, h3, h4, h5, if_true, rereads, hw, h7]
 exact AV.same_refl _
theorem calm_effN (h1 : ops[i]? = some x) (h2 : ops[k]? = some ⟨d, op, T, ps, af, some (j, want)⟩) (h3 : traceOf ts i = some ⟨Fr.mk f1 r1 e1 lm1 hp1 df1 up1, v1, a1⟩) (h4 : traceOf ts k = some ⟨Fr.mk f2 r2 e2 lm2 hp2 df2 up2, v2, a2⟩)
  (h5 : isEffD X f x = true) (ho : ops[j]? = some o) (ht : o.dst = some s) (hb : e2.get s = some (.bool b)) (hne : (b == want) = false) (h8 : r.all (calmPair X f ops ts) = true) : ((i, k) :: r).all (calmPair X f ops ts) = true := by
 have hw : wantedA ops (Fr.mk f2 r2 e2 lm2 hp2 df2 up2) ⟨d, op, T, ps, af, some (j, want)⟩ = false := by simp [wantedA, yieldedA, ho, ht, hb]; cases b <;> cases want <;> simp_all
 simp only [List.all_cons, h8, Bool.and_true, calmPair, h1, h2, h3, h4, h5, if_true, rereads, hw, Bool.false_eq_true, if_false]
end
def fitsM (cx cy wx wy : Sp) (rs : List Rdg) (xs ys : List Int) : Bool := fitsA ⟨cx, wx, lims155 rs⟩ xs && fitsA ⟨cy, wy, lims156 rs⟩ ys
def sp137 : List AV -> Option AV
 | [.agg [sa, .int .i64 cxl, .int .i64 cxh, .int .i64 cyl, .int .i64 cyh, .int .i64 wxl, .int .i64 wxh, .int .i64 wyl, .int .i64 wyh, ra], .agg [xa, ya]] => match slV ptC sa, slV rdgC ra, slV intC xa, slV intC ya with
  | some _, some rs, some xs, some ys => if (rs.all blkR && (decide (xs.length = 13) && decide (ys.length = 13))) = true then some (.bool (fitsM ⟨cxl, cxh⟩ ⟨cyl, cyh⟩ ⟨wxl, wxh⟩ ⟨wyl, wyh⟩ rs xs ys)) else none
  | _, _, _, _ => none
 | _ => none
theorem p137 : ∀ args v, sp137 args = some v -> v.pur = true := by
 intro args v h
 unfold sp137 at h
 split at h
 ·split at h
  ·split at h
   ·have h := Option.some.inj h
    subst h
    rfl
   ·cases h
  ·cases h
 ·cases h
noncomputable def cED : Itr
 | 194 => some (pureFn sp139)
 | 190 => some (pureFn sp190)
 | _ => none
theorem cED_sound : Sound (dX cED) := dX_sound (fun f g h => by
 unfold cED at h
 split at h
 ·cases h; exact F194
 ·cases h; exact F190
 ·cases h)
theorem lims_b {rs : List Rdg} {l : List Int} (hb : rs.all blkR = true) (h13 : l.length = 13) : (∀ p ∈ lims155 rs, 0 <= p.b /\ p.b.toNat < l.length) /\ (∀ p ∈ lims156 rs, 0 <= p.b /\ p.b.toNat < l.length) := by
 constructor <;> intro p hp <;> obtain ⟨r, hr, rfl⟩ := List.mem_map.1 hp <;> have := List.all_eq_true.1 hb r hr <;> simp only [blkR, inB, Bool.and_eq_true, decide_eq_true_eq] at this <;> simp only <;> omega
set_option maxHeartbeats 2000000 in
theorem F137 : IntrFn Tryz.prog 137 (pureFn sp137) := by
 refine pure_fn (X := dX cED) cED_sound p137 ?_
 intro args v h
 unfold sp137 at h
 split at h
 ·rename_i sa cxl cxh cyl cyh wxl wxh wyl wyh ra xa ya
  split at h
  ·rename_i st rs xs ys hs hr hl hl2
   split at h
   ·rename_i hc
    have h := Option.some.inj h
    subst h
    simp only [Bool.and_eq_true, decide_eq_true_eq] at hc
    obtain ⟨hbl, h13, h13'⟩ := hc
    have hout := sl_out hl
    have hout2 := sl_out hl2
    have hout3 := sl_out hs
    have hout4 := sl_out hr
    obtain ⟨o1, t1⟩ := sl_one hs
    obtain ⟨o2, t2⟩ := sl_one hr
    have hmax := sl_max hr
    have hfs := (slV_is hs).1.frz1
    have hfr := (slV_is hr).1.frz1
    have l1 : (lims155 rs).length <= maxL := by simpa [lims155] using hmax
    have l2 : (lims156 rs).length <= maxL := by simpa [lims156] using hmax
    have hL1 := C102 cED rfl sa ra ⟨cxl, cxh⟩ ⟨cyl, cyh⟩ ⟨wxl, wxh⟩ ⟨wyl, wyh⟩ hfs hfr 0 .nil
    have q1 := C155 cED rfl rfl sa (.map 0) ra ⟨cxl, cxh⟩ ⟨cyl, cyh⟩ ⟨wxl, wxh⟩ ⟨wyl, wyh⟩ rs ⟨0 + 1, (Mp.nil : Mp Blk).set 0 (.mp [])⟩ hr o1 rfl
    unfold ClR isAx at q1
    obtain ⟨r1, hA, ⟨n1, m1⟩, u1, rfl, hB1, hX1⟩ := q1
    have q2 := C179 cED rfl rfl rfl rfl rfl ⟨⟨cxl, cxh⟩, ⟨wxl, wxh⟩, lims155 rs⟩ u1 xa xs n1 m1 (hB1.rdl l1) hl h13 (lims_b hbl h13).1
    unfold ClR isFit at q2
    obtain ⟨r2, hF1, ⟨n2, m2⟩, hX2, rfl⟩ := q2
    have hL2 := C102 cED rfl sa ra ⟨cxl, cxh⟩ ⟨cyl, cyh⟩ ⟨wxl, wxh⟩ ⟨wyl, wyh⟩ hfs hfr n2 m2
    have q3 := C156 cED rfl rfl sa (.map n2) ra ⟨cxl, cxh⟩ ⟨cyl, cyh⟩ ⟨wxl, wxh⟩ ⟨wyl, wyh⟩ rs ⟨n2 + 1, m2.set n2 (.mp [])⟩ hr o1 rfl
    unfold ClR isAx at q3
    obtain ⟨r3, hB, ⟨n3, m3⟩, u3, rfl, hB3, hX3⟩ := q3
    have q4 := C179 cED rfl rfl rfl rfl rfl ⟨⟨cyl, cyh⟩, ⟨wyl, wyh⟩, lims156 rs⟩ u3 ya ys n3 m3 (hB3.rdl l2) hl2 h13' (lims_b hbl h13').2
    unfold ClR isFit at q4
    obtain ⟨r4, hF2, ⟨n4, m4⟩, hX4, rfl⟩ := q4
    have hfm : fitsM ⟨cxl, cxh⟩ ⟨cyl, cyh⟩ ⟨wxl, wxh⟩ ⟨wyl, wyh⟩ rs xs ys = (fitsA ⟨⟨cxl, cxh⟩, ⟨wxl, wxh⟩, lims155 rs⟩ xs && fitsA ⟨⟨cyl, cyh⟩, ⟨wyl, wyh⟩, lims156 rs⟩ ys) := rfl
    rw [hfm]
    have bo1 := hB1.blt.out
    have bo3 := hB3.blt.out
    generalize fitsA ⟨⟨cxl, cxh⟩, ⟨wxl, wxh⟩, lims155 rs⟩ xs = bx at *
    generalize fitsA ⟨⟨cyl, cyh⟩, ⟨wyl, wyh⟩, lims156 rs⟩ ys = bY at *
    have HL1 := Lib.hid hL1
    have HL2 := Lib.hid hL2
    have HA := Lib.hid hA
    have HB := Lib.hid hB
    have HF1 := Lib.hid hF1
    have HF2 := Lib.hid hF2
    clear hL1 hL2 hA hB hF1 hF2 hfm hB1 hB3 hX1 hX2 hX3 hX4 hs hr hl hl2 hbl h13 h13' hfs hfr l1 l2
    refine ClR.walk (c := _) rfl Tryz.func137 rfl (by kernel_rfl) rfl isRet_fail ?_
    simp only [entryEnv, Nat.reduceAdd, emptyHp]
    cases bx with
    | false =>
     simp only [Bool.false_and]
     repeat' (first | (apply W.draw (id := 1) (lc := [0, 1, 2, 3, 4, 5, 6, 7, 8, 9, 10, 11, 12, 13, 14]) (hot := [(1, 4), (2, 4), (8, 11), (9, 11)]); kernel_rfl; kernel_rfl; kernel_rfl; exact Z4) | (refine WD.cons rfl rfl ?_) | (refine WD.nil ⟨?_, ?_⟩; rotate_left; simp only [tN, bN, eN, true_and]) | (refine calm_nil) | (refine calm_eff rfl rfl rfl rfl rfl ?_ ?_; (focus (first | exact Z2 | exact Z1))) | (refine calm_effG rfl rfl rfl rfl rfl rfl rfl ?_ ?_ ?_; (focus exact Z2); (focus (first | exact Z2 | exact Z1))) | (refine calm_effN (b := false) rfl rfl rfl rfl rfl rfl rfl ?_ rfl ?_; (focus exact Z2)) | (refine calm_cons rfl rfl rfl rfl rfl ?_ ?_; (focus (first | exact Z2 | exact Z1))) | refine go1 ?_ | (apply U6; exact Z1; exact Z1; (focus (simp only [List.nil_append, List.append_nil]; first | exact HL1.out | exact HA.out | exact HF1.out)); simp only [pM, pN, rR, rP]) | refine go2 (fun hh => ?_) (fun hh => ?_) | fail)
     all_goals (simp only [resV_def (X := dX cED) Tryz.func137, Tryz.results137]; first | exact J5 | refine J6 ?_)
    | true =>
     simp only [Bool.true_and]
     repeat' (first | (apply W.draw (id := 1) (lc := [0, 1, 2, 3, 4, 5, 6, 7, 8, 9, 10, 11, 12, 13, 14]) (hot := [(1, 4), (2, 4), (8, 11), (9, 11)]); kernel_rfl; kernel_rfl; kernel_rfl; exact Z4) | (refine WD.cons rfl rfl ?_) | (refine WD.nil ⟨?_, ?_⟩; rotate_left; simp only [tN, bN, eN, true_and]) | (refine calm_nil) | (refine calm_eff rfl rfl rfl rfl rfl ?_ ?_; (focus (first | exact Z2 | exact Z1))) | (refine calm_effG rfl rfl rfl rfl rfl rfl rfl ?_ ?_ ?_; (focus exact Z2); (focus (first | exact Z2 | exact Z1))) | (refine calm_effN (b := false) rfl rfl rfl rfl rfl rfl rfl ?_ rfl ?_; (focus exact Z2)) | (refine calm_cons rfl rfl rfl rfl rfl ?_ ?_; (focus (first | exact Z2 | exact Z1))) | refine go1 ?_ | (apply U6; exact Z1; exact Z1; (focus (simp only [List.nil_append, List.append_nil]; first | exact HL1.out | exact HL2.out | exact HA.out | exact HB.out | exact HF1.out | exact HF2.out)); simp only [pM, pN, rR, rP]) | refine go2 (fun hh => ?_) (fun hh => ?_) | fail)
     all_goals (simp only [resV_def (X := dX cED) Tryz.func137, Tryz.results137]; first | exact J5 | refine J6 ?_)
   ·cases h
  ·cases h
 ·cases h
end Go.AM
namespace Go.AM
open Go
variable [Keep]
theorem num_small {l : List Int} (h : l.all okN = true) (k : Nat) : -80 <= l.getD k 0 /\ l.getD k 0 <= 80 := by
 rcases Nat.lt_or_ge k l.length with hk | hk
 ·have := List.all_eq_true.1 h l[k] (List.getElem_mem hk)
  simp only [okN, inB, Bool.and_eq_true, decide_eq_true_eq] at this
  simp [List.getD, hk]
  omega
 ·simp [List.getD, List.getElem?_eq_none hk]
theorem truth_of {xs ys : List Int} (h : truthB xs ys = true) : xs.length = 13 /\ ys.length = 13 /\ xs.all okN = true /\ ys.all okN = true := by
 simp only [truthB, Bool.and_eq_true, beq_iff_eq] at h
 exact ⟨by omega, by omega, h.1.2, h.2⟩
theorem mach_blk {st : List Pt} {cx cy wx wy : Sp} {rs : List Rdg} (h : machB st cx cy wx wy rs = true) : rs.all blkR = true := by
 refine List.all_eq_true.2 fun p hp => ?_
 have := rdg_of (mach_rdg h p hp)
 simp [blkR, inB]
 omega
end Go.AM
namespace Go.AM
open Go
variable [Keep]
def viewD (h : Heap) (a : AV) : Option AV :=
 match a with
 | .agg l => (viewVs h l).map AV.agg
 | a => viewV h a
def viewDs (h : Heap) : List AV -> Option (List AV)
 | [] => some []
 | a :: r => match viewD h a, viewDs h r with
  | some x, some l => some (x :: l)
  | _, _ => none
theorem viewV_one {h : Heap} {a a' : AV} (e : viewV h a = some a') (ho : a.one = true) : a'.one = true := by
 unfold viewV at e
 split at e
 ·split at e
  ·split at e
   ·split at e
    ·cases e; rfl
    ·cases e
   ·cases e
  ·cases e
 ·split at e
  ·cases e; exact ho
  ·cases e
theorem viewVs_get {h : Heap} : ∀ {l l' : List AV}, viewVs h l = some l' -> l'.length = l.length /\ ∀ i, i < l.length -> viewV h (l.getD i .junk) = some (l'.getD i .junk) := by
 intro l
 induction l with
 | nil => intro l' e; simp only [viewVs, Option.some.injEq] at e; subst e; exact ⟨rfl, fun i hi => by simp at hi⟩
 | cons a l ih =>
  intro l' e
  simp only [viewVs] at e
  split at e
  ·rename_i x l1 hx hl
   cases e
   obtain ⟨h1, h2⟩ := ih hl
   refine ⟨by simp [h1], fun i hi => ?_⟩
   cases i with
   | zero => simpa using hx
   | succ i => simpa using h2 i (by simpa using hi)
  ·cases e
theorem purL_of : ∀ {l : List AV}, (∀ a ∈ l, a.pur = true) -> AV.purL l = true := by
 intro l
 induction l with
 | nil => intro _; rfl
 | cons a l ih =>
  intro h
  simp only [AV.purL, Bool.and_eq_true]
  exact ⟨h a (by simp), ih (fun b hb => h b (by simp [hb]))⟩
variable {C : Cfg} {h : Heap} {w : World}
theorem viewD_ok (r : WR C h w) {a a' : AV} {v : Value} (hv : VR C a v) (e : viewD h a = some a') : a'.pur = true /\ VR ⟨fun _ => none, w.cell?⟩ a' v := by
 unfold viewD at e
 split at e
 ·rename_i l
  simp only [Option.map_eq_some_iff] at e
  obtain ⟨l', e, rfl⟩ := e
  obtain ⟨e1, e2⟩ := viewVs_get e
  cases hv with
  | agg h1 h2 h3 =>
   have hk : ∀ i, i < l.length -> (l'.getD i .junk).pur = true /\ VR ⟨fun _ => none, w.cell?⟩ (l'.getD i .junk) _ := fun i hi => viewV_ok r (h2 i hi) (e2 i hi)
   refine ⟨?_, .agg (by omega) (fun i hi => (hk i (by omega)).2) (fun c hc => ?_)⟩
   ·simp only [AV.pur]
    refine purL_of fun b hb => ?_
    obtain ⟨i, hi⟩ := List.mem_iff_getElem?.1 hb
    have hil : i < l.length := by
     rcases Nat.lt_or_ge i l.length with q | q
     ·exact q
     ·rw [List.getElem?_eq_none (by omega)] at hi; cases hi
    have := (hk i hil).1
    simpa [List.getD, hi] using this
   ·obtain ⟨i, hi⟩ := List.mem_iff_getElem?.1 hc
    have hil : i < l.length := by
     rcases Nat.lt_or_ge i l.length with q | q
     ·exact q
     ·rw [List.getElem?_eq_none (by omega)] at hi; cases hi
    have h5 := e2 i hil
    have h6 : (l'.getD i .junk) = c := by simp [List.getD, hi]
    rw [h6] at h5
    refine viewV_one h5 (h3 _ ?_)
    have : l.getD i .junk = l[i] := by simp [List.getD, hil]
    rw [this]
    exact List.getElem_mem hil
 ·exact viewV_ok r hv e
theorem viewDs_ok (r : WR C h w) : ∀ {l l' : List AV} {vs : Array Value}, VRs C l vs -> viewDs h l = some l' -> (∀ a ∈ l', a.pur = true) /\ VRs ⟨fun _ => none, w.cell?⟩ l' vs := by
 intro l
 induction l with
 | nil =>
  intro l' vs hv e
  simp only [viewDs, Option.some.injEq] at e
  subst e
  exact ⟨by simp, hv.1, fun i hi => by simp at hi⟩
 | cons a l ih =>
  intro l' vs hv e
  simp only [viewDs] at e
  split at e
  ·rename_i x l1 hx hl
   cases e
   have h0 : VR C a (vs.getD 0 undef) := by simpa using hv.2 0 (by simp)
   obtain ⟨p1, p2⟩ := viewD_ok r h0 hx
   have hsz : vs.size = l.length + 1 := by have := hv.1; simpa using this
   have ht : VRs C l (vs.extract 1 vs.size) := by
    refine ⟨by simp [hsz], fun i hi => ?_⟩
    have := hv.2 (i + 1) (by simp; omega)
    have e2 : (vs.extract 1 vs.size).getD i undef = vs.getD (i + 1) undef := by
     simp only [Array.getD_eq_getD_getElem?]
     rw [Array.getElem?_extract]
     have : i < vs.size - 1 := by omega
     simp [this, Nat.add_comm]
    rw [e2]
    simpa using this
   obtain ⟨q1, q2⟩ := ih ht hl
   refine ⟨by simpa [p1] using q1, ?_⟩
   have := VRs.cons p2 q2
   have e3 : #[vs.getD 0 undef] ++ vs.extract 1 vs.size = vs := by
    apply Array.ext_getElem?
    intro i
    cases i with
    | zero =>
     have : 0 < vs.size := by omega
     simp [Array.getElem?_append, Array.getD_eq_getD_getElem?, this]
    | succ i =>
     rw [Array.getElem?_append_right (by simp)]
     simp only [List.size_toArray, List.length_cons, List.length_nil, Nat.zero_add, Nat.add_sub_cancel, Array.getElem?_extract]
     by_cases hi : i < vs.size - 1
     ·simp [hi, Nat.add_comm]
     ·have : vs.size <= i + 1 := by omega
      simp [hi, this]
   rw [e3] at this
   exact this
  ·cases e
end Go.AM
namespace Go.AM
open Go
variable [Keep]
theorem Blt.view {h : Heap} {v : AV} {sz : Nat} {l : List AV} (b : Blt h v sz l) (hp : ∀ a ∈ l, a.pur = true) : viewV h v = some (slN l) := by
 rcases b with ⟨rfl, rfl⟩ | ⟨id, rfl, hg, h3, hne⟩
 ·rfl
 ·have h1 : AV.purL l = true := purL_of hp
  cases l with
  | nil => exact absurd rfl hne
  | cons x l => simp [viewV, hg, h1, slN]
structure Four (h : Heap) (a b c d : AV) (k l m n : List AV) : Prop where
 ba : Blt h a 1 k
 bb : Blt h b 1 l
 bc' : Blt h c 1 m
 bd' : Blt h d 1 n
 ab : Sep a b
 ac : Sep a c
 ad : Sep a d
 bc : Sep b c
 bd : Sep b d
 cd : Sep c d
section
variable {h h' : Heap} {a b c d v : AV} {k l m n r : List AV} {i : Nat}
theorem Four.nil : Four h .nilslice .nilslice .nilslice .nilslice [] [] [] [] := ⟨.nil, .nil, .nil, .nil, .nil _, .nil _, .nil _, .nil _, .nil _, .nil _⟩
theorem Four.one (q : Four h a b c d k l m n) (hb : Blt h' v 1 r) (hk : Keeps h h' a) (he : v = .row h.next 0 i) : Four h' v b c d r l m n := by
 subst he
 exact ⟨hb, q.bb.apart hk q.ab, q.bc'.apart hk q.ac, q.bd'.apart hk q.ad, .new q.bb (Nat.le_refl _) _, .new q.bc' (Nat.le_refl _) _, .new q.bd' (Nat.le_refl _) _, q.bc, q.bd, q.cd⟩
theorem Four.turn (q : Four h a b c d k l m n) : Four h b c d a l m n k := ⟨q.bb, q.bc', q.bd', q.ba, q.bc, q.bd, q.ab.symm, q.cd, q.ac.symm, q.ad.symm⟩
theorem Four.two (q : Four h a b c d k l m n) (hb : Blt h' v 1 r) (hk : Keeps h h' b) (he : v = .row h.next 0 i) : Four h' a v c d k r m n := (q.turn.one hb hk he).turn.turn.turn
end
end Go.AM
namespace Go.AM
open Go Go.Proofs
variable [Keep]
attribute [local irreducible] W WO WO1 WD WQ WT thenQ blockQ endR isRet retK Cl ClR
attribute [local irreducible] boundsS machB fitsM fitsR truthB
noncomputable def cEE : Itr
 | 93 => some (pureFn sp93)
 | 101 => some (flatFn sp101)
 | 136 => some (pureFn sp72)
 | 137 => some (pureFn sp137)
 | 138 => some (pureFn sp138)
 | _ => none
theorem cEE_sound : Sound (dX cEE) := dX_sound (fun f g h => by
 unfold cEE at h
 split at h
 ·cases h; exact F93
 ·cases h; exact F101
 ·cases h; exact F136
 ·cases h; exact F137
 ·cases h; exact F138
 ·cases h)
theorem K136 {X : Ctx} (hX : X.intr 136 = some (pureFn sp72)) (xa ya : AV) (xs ys : List Int) (hl : slV intC xa = some xs) (hr : slV intC ya = some ys) (h : Heap) : Cl X 136 [.agg [xa, ya]] h (.ret (.bool (truthB xs ys)) h none) :=
 Cl.intr hX (by simp [pureFn, AV.pur, AV.purL, sl_pur hl, sl_pur hr, sp72, hl, hr])
theorem K137 {X : Ctx} (hX : X.intr 137 = some (pureFn sp137)) (sa ra xa ya : AV) (st : List Pt) (rs : List Rdg) (xs ys : List Int) (cx cy wx wy : Sp) (hs : slV ptC sa = some st) (hr : slV rdgC ra = some rs) (hl : slV intC xa = some xs) (hl2 : slV intC ya = some ys) (hb : rs.all blkR = true) (h1 : xs.length = 13) (h2 : ys.length = 13) (h : Heap) :
  Cl X 137 [.agg [sa, .int .i64 cx.lo, .int .i64 cx.hi, .int .i64 cy.lo, .int .i64 cy.hi, .int .i64 wx.lo, .int .i64 wx.hi, .int .i64 wy.lo, .int .i64 wy.hi, ra], .agg [xa, ya]] h (.ret (.bool (fitsM cx cy wx wy rs xs ys)) h none) :=
 Cl.intr hX (by simp [pureFn, AV.pur, AV.purL, sl_pur hs, sl_pur hr, sl_pur hl, sl_pur hl2, sp137, hs, hr, hl, hl2, hb, h1, h2])
theorem K138 {X : Ctx} (hX : X.intr 138 = some (pureFn sp138)) (a : AV) (l : List Pt) (x y : Int) (ha : slV ptC a = some l) (h : Heap) : Cl X 138 [a, .agg [.int .i64 x, .int .i64 y]] h (.ret (slN ((movedL l x y).map ptC.enc)) h none) :=
 Cl.intr hX (by simp [pureFn, AV.pur, AV.purL, sl_pur ha, sp138, ha])
def fitV (ok fit : Bool) : AV := if ok then .tuple [.bool fit, .int .i64 0] else .tuple [.bool false, .int .i64 2]
def holeV (ok : Bool) (l : List Pt) : AV := if ok then .tuple [slN (l.map ptC.enc), .int .i64 0] else .tuple [.nilslice, .int .i64 2]
def sp73 : List AV -> Option AV
 | [.agg [sa, .int .i64 cxl, .int .i64 cxh, .int .i64 cyl, .int .i64 cyh, .int .i64 wxl, .int .i64 wxh, .int .i64 wyl, .int .i64 wyh, ra], .agg [xa, ya]] => match slV ptC sa, slV rdgC ra, slV intC xa, slV intC ya with
  | some st, some rs, some xs, some ys => some (fitV (machB st ⟨cxl, cxh⟩ ⟨cyl, cyh⟩ ⟨wxl, wxh⟩ ⟨wyl, wyh⟩ rs && truthB xs ys) (fitsM ⟨cxl, cxh⟩ ⟨cyl, cyh⟩ ⟨wxl, wxh⟩ ⟨wyl, wyh⟩ rs xs ys))
  | _, _, _, _ => none
 | _ => none
theorem p73 : ∀ args v, sp73 args = some v -> v.pur = true := by
 intro args v h
 unfold sp73 at h
 split at h
 ·split at h
  ·have h := Option.some.inj h
   subst h
   unfold fitV
   split <;> rfl
  ·cases h
 ·cases h
set_option maxHeartbeats 2000000 in
theorem R73 : ∀ args v, sp73 args = some v -> ClR (dX cEE) 73 args emptyHp (isRet v) := by
 intro args v h
 unfold sp73 at h
 split at h
 ·rename_i sa cxl cxh cyl cyh wxl wxh wyl wyh ra xa ya
  split at h
  ·rename_i st rs xs ys hs hr hl hl2
   have h := Option.some.inj h
   subst h
   have hout := sl_out hl
   have hout2 := sl_out hl2
   have hout3 := sl_out hs
   have hout4 := sl_out hr
   have hm := fun hp => K101 (X := dX cEE) rfl sa ra st rs ⟨cxl, cxh⟩ ⟨cyl, cyh⟩ ⟨wxl, wxh⟩ ⟨wyl, wyh⟩ hs hr hp
   have ht := fun hp => K136 (X := dX cEE) rfl xa ya xs ys hl hl2 hp
   have hf : machB st ⟨cxl, cxh⟩ ⟨cyl, cyh⟩ ⟨wxl, wxh⟩ ⟨wyl, wyh⟩ rs = true -> truthB xs ys = true -> ∀ hp, _ := fun h1 h2 hp => K137 (X := dX cEE) rfl sa ra xa ya st rs xs ys ⟨cxl, cxh⟩ ⟨cyl, cyh⟩ ⟨wxl, wxh⟩ ⟨wyl, wyh⟩ hs hr hl hl2 (mach_blk h1) (truth_of h2).1 (truth_of h2).2.1 hp
   generalize machB st ⟨cxl, cxh⟩ ⟨cyl, cyh⟩ ⟨wxl, wxh⟩ ⟨wyl, wyh⟩ rs = ok at *
   generalize truthB xs ys = tr at *
   generalize fitsM ⟨cxl, cxh⟩ ⟨cyl, cyh⟩ ⟨wxl, wxh⟩ ⟨wyl, wyh⟩ rs xs ys = fb at *
   have HM := Lib.hid hm
   have HT := Lib.hid ht
   clear hm ht hs hr hl hl2
   refine ClR.walk (c := _) rfl Tryz.func73 rfl (by kernel_rfl) rfl isRet_fail ?_
   simp only [entryEnv, Nat.reduceAdd]
   cases ok with
   | false =>
    clear hf
    simp only [fitV, Bool.false_and, Bool.false_eq_true, if_false]
    repeat' (first | refine goS ?_ | (apply U6; exact Z1; exact Z1; (focus (simp only [List.nil_append, List.append_nil]; first | exact HM.out _ | exact HT.out _)); simp only [pM, pN, rR, rP]) | refine go2 (fun hh => ?_) (fun hh => ?_) | fail)
    all_goals (simp only [resV_def (X := dX cEE) Tryz.func73, Tryz.results73]; first | exact J5 | refine J6 ?_)
   | true =>
    cases tr with
    | false =>
     clear hf
     simp only [fitV, Bool.and_false, Bool.false_eq_true, if_false]
     repeat' (first | refine goS ?_ | (apply U6; exact Z1; exact Z1; (focus (simp only [List.nil_append, List.append_nil]; first | exact HM.out _ | exact HT.out _)); simp only [pM, pN, rR, rP]) | refine go2 (fun hh => ?_) (fun hh => ?_) | fail)
     all_goals (simp only [resV_def (X := dX cEE) Tryz.func73, Tryz.results73]; first | exact J5 | refine J6 ?_)
    | true =>
     have hf := hf rfl rfl
     have HF := Lib.hid hf
     clear hf
     simp only [fitV, Bool.and_self, if_true]
     repeat' (first | refine goS ?_ | (apply U6; exact Z1; exact Z1; (focus (simp only [List.nil_append, List.append_nil]; first | exact HM.out _ | exact HT.out _ | exact HF.out _)); simp only [pM, pN, rR, rP]) | refine go2 (fun hh => ?_) (fun hh => ?_) | fail)
     all_goals (simp only [resV_def (X := dX cEE) Tryz.func73, Tryz.results73]; first | exact J5 | refine J6 ?_)
  ·cases h
 ·cases h
theorem F73 : IntrFn Tryz.prog 73 (pureFn sp73) := pure_fn (X := dX cEE) cEE_sound p73 R73
def sp74 : List AV -> Option AV
 | [.agg [sa, .int .i64 cxl, .int .i64 cxh, .int .i64 cyl, .int .i64 cyh, .int .i64 wxl, .int .i64 wxh, .int .i64 wyl, .int .i64 wyh, ra], .agg [xa, ya], .int .i64 blank] => match slV ptC sa, slV rdgC ra, slV intC xa, slV intC ya with
  | some st, some rs, some xs, some ys => some (holeV (machB st ⟨cxl, cxh⟩ ⟨cyl, cyh⟩ ⟨wxl, wxh⟩ ⟨wyl, wyh⟩ rs && truthB xs ys && fitsM ⟨cxl, cxh⟩ ⟨cyl, cyh⟩ ⟨wxl, wxh⟩ ⟨wyl, wyh⟩ rs xs ys && inB blank 0 12) (movedL st (xs.getD blank.toNat 0) (ys.getD blank.toNat 0)))
  | _, _, _, _ => none
 | _ => none
theorem p74 : ∀ args v, sp74 args = some v -> v.pur = true := by
 intro args v h
 unfold sp74 at h
 split at h
 ·split at h
  ·have h := Option.some.inj h
   subst h
   unfold holeV
   split
   ·simp [AV.pur, AV.purL, slN_pur (enc_pur ptC _)]
   ·rfl
  ·cases h
 ·cases h
set_option maxHeartbeats 2000000 in
theorem F74 : IntrFn Tryz.prog 74 (pureFn sp74) := by
 refine pure_fn (X := dX cEE) cEE_sound p74 ?_
 intro args v h
 unfold sp74 at h
 split at h
 ·rename_i sa cxl cxh cyl cyh wxl wxh wyl wyh ra xa ya blank
  split at h
  ·rename_i st rs xs ys hs hr hl hl2
   have h := Option.some.inj h
   subst h
   have hout := sl_out hl
   have hout2 := sl_out hl2
   have hout3 := sl_out hs
   have hout4 := sl_out hr
   have hm := fun hp => K101 (X := dX cEE) rfl sa ra st rs ⟨cxl, cxh⟩ ⟨cyl, cyh⟩ ⟨wxl, wxh⟩ ⟨wyl, wyh⟩ hs hr hp
   have ht := fun hp => K136 (X := dX cEE) rfl xa ya xs ys hl hl2 hp
   have hf : machB st ⟨cxl, cxh⟩ ⟨cyl, cyh⟩ ⟨wxl, wxh⟩ ⟨wyl, wyh⟩ rs = true -> truthB xs ys = true -> ∀ hp, _ := fun h1 h2 hp => K137 (X := dX cEE) rfl sa ra xa ya st rs xs ys ⟨cxl, cxh⟩ ⟨cyl, cyh⟩ ⟨wxl, wxh⟩ ⟨wyl, wyh⟩ hs hr hl hl2 (mach_blk h1) (truth_of h2).1 (truth_of h2).2.1 hp
   have hlen : truthB xs ys = true -> xs.length = 13 /\ ys.length = 13 := fun h => ⟨(truth_of h).1, (truth_of h).2.1⟩
   generalize machB st ⟨cxl, cxh⟩ ⟨cyl, cyh⟩ ⟨wxl, wxh⟩ ⟨wyl, wyh⟩ rs = ok at *
   generalize truthB xs ys = tr at *
   generalize fitsM ⟨cxl, cxh⟩ ⟨cyl, cyh⟩ ⟨wxl, wxh⟩ ⟨wyl, wyh⟩ rs xs ys = fb at *
   have HM := Lib.hid hm
   have HT := Lib.hid ht
   have HS := Lib.hid hs
   have HL := Lib.hid hl
   have HL2 := Lib.hid hl2
   clear hm ht hs hr hl hl2
   refine ClR.walk (c := _) rfl Tryz.func74 rfl (by kernel_rfl) rfl isRet_fail ?_
   simp only [entryEnv, Nat.reduceAdd]
   cases ok with
   | false =>
    clear hf hlen
    simp only [holeV, Bool.false_and, Bool.false_eq_true, if_false]
    repeat' (first | refine goS ?_ | (apply U6; exact Z1; exact Z1; (focus (simp only [List.nil_append, List.append_nil]; first | exact K93 rfl _ _ _ _ | exact HM.out _ | exact HT.out _)); simp only [pM, pN, rR, rP]) | refine go2 (fun hh => ?_) (fun hh => ?_) | fail)
    all_goals (simp only [resV_def (X := dX cEE) Tryz.func74, Tryz.results74]; first | exact J5 | refine J6 ?_)
   | true =>
    cases tr with
    | false =>
     clear hf hlen
     simp only [holeV, Bool.false_and, Bool.and_false, Bool.false_eq_true, if_false]
     repeat' (first | refine goS ?_ | (apply U6; exact Z1; exact Z1; (focus (simp only [List.nil_append, List.append_nil]; first | exact K93 rfl _ _ _ _ | exact HM.out _ | exact HT.out _)); simp only [pM, pN, rR, rP]) | refine go2 (fun hh => ?_) (fun hh => ?_) | fail)
     all_goals (simp only [resV_def (X := dX cEE) Tryz.func74, Tryz.results74]; first | exact J5 | refine J6 ?_)
    | true =>
     have hf := hf rfl rfl
     have hlen := hlen rfl
     have HF := Lib.hid hf
     clear hf
     cases fb with
     | false =>
      clear hlen
      simp only [holeV, Bool.false_and, Bool.and_false, Bool.false_eq_true, if_false]
      repeat' (first | refine goS ?_ | (apply U6; exact Z1; exact Z1; (focus (simp only [List.nil_append, List.append_nil]; first | exact K93 rfl _ _ _ _ | exact HM.out _ | exact HT.out _ | exact HF.out _)); simp only [pM, pN, rR, rP]) | refine go2 (fun hh => ?_) (fun hh => ?_) | fail)
      all_goals (simp only [resV_def (X := dX cEE) Tryz.func74, Tryz.results74]; first | exact J5 | refine J6 ?_)
     | true =>
      cases hin : inB blank 0 12 with
      | false =>
       clear hlen
       simp only [holeV, Bool.false_and, Bool.and_false, Bool.false_eq_true, if_false]
       repeat' (first | refine goS ?_ | (apply U6; exact Z1; exact Z1; (focus (simp only [List.nil_append, List.append_nil]; first | exact K93 rfl _ _ _ _ | exact HM.out _ | exact HT.out _ | exact HF.out _)); simp only [pM, pN, rR, rP]) | refine go2 (fun hh => ?_) (fun hh => ?_) | fail)
       all_goals (simp only [resV_def (X := dX cEE) Tryz.func74, Tryz.results74]; first | exact J5 | refine J6 ?_)
      | true =>
       have hb := hin
       simp only [inB, Bool.and_eq_true, decide_eq_true_eq] at hb
       obtain ⟨k, rfl⟩ : ∃ k : Nat, blank = k := ⟨blank.toNat, by omega⟩
       obtain ⟨p, hp⟩ := get_some (show k < xs.length by omega)
       obtain ⟨q, hq⟩ := get_some (show k < ys.length by omega)
       have i1 := int_idx HL.out hp
       have i2 := int_idx HL2.out hq
       have e1 : xs.getD (k : Int).toNat 0 = p := by simp [List.getD, hp]
       have e2 : ys.getD (k : Int).toNat 0 = q := by simp [List.getD, hq]
       rw [e1, e2]
       have hv : ∀ hp, _ := fun hp => K138 (X := dX cEE) rfl sa st p q HS.out hp
       have HV := Lib.hid hv
       have hso := (slN_is ((movedL st p q).map ptC.enc)).out
       clear hlen hb hp hq e1 e2 hv
       simp only [holeV, Bool.and_self, if_true]
       have hfz := (slN_is ((movedL st p q).map ptC.enc)).frz2
       generalize slN ((movedL st p q).map ptC.enc) = u at *
       repeat' (first | (apply W.drawQ (id := 3) (l1 := [0, 1, 2, 3, 4, 5, 6, 7, 8, 9, 10, 11, 12, 13, 14, 15]) (l2 := []); kernel_rfl; kernel_rfl; kernel_rfl; exact Z4) | refine go1 ?_ | (apply U6; exact Z1; exact Z1; (focus (simp only [List.nil_append, List.append_nil]; first | exact K93 rfl _ _ _ _ | exact HM.out _ | exact HT.out _ | exact HF.out _ | exact HV.out _)); simp only [pM, pN, rR, rP]) | refine go2 (fun hh => ?_) (fun hh => ?_) | fail)
       all_goals (simp only [resV_def (X := dX cEE) Tryz.func74, Tryz.results74]; first | exact J5 | refine J6 ?_)
  ·cases h
 ·cases h
end Go.AM
namespace Go.AM
open Go Go.Proofs
variable [Keep]
attribute [local irreducible] W WO WO1 WD WQ WT thenQ blockQ endR isRet retK Cl ClR
attribute [local irreducible] roundQ RdR clR boundsS machB
def butB (hs : List Pt) (err : Int) : Bool := allB hs 2 80 && inB err 0 4
def sp162 : List AV -> Option AV
 | [.agg [ha, .int .i64 err]] => (slV ptC ha).map fun hs => .bool (butB hs err)
 | _ => none
theorem p162 : ∀ args v, sp162 args = some v -> v.pur = true := by
 intro args v h
 unfold sp162 at h
 split at h
 ·simp only [Option.map_eq_some_iff] at h; obtain ⟨l, _, rfl⟩ := h; rfl
 ·cases h
noncomputable def cHD : Itr
 | 28 => some (flatFn sp28)
 | 93 => some (pureFn sp93)
 | 94 => some (flatFn sp94)
 | 97 => some (pureFn sp97)
 | _ => none
theorem cHD_sound : Sound (dX cHD) := dX_sound (fun f g h => by
 unfold cHD at h
 split at h
 ·cases h; exact F28
 ·cases h; exact F93
 ·cases h; exact F94
 ·cases h; exact F97
 ·cases h)
theorem F162 : IntrFn Tryz.prog 162 (pureFn sp162) := by
 refine pure_fn (X := dX cHD) cHD_sound p162 ?_
 intro args v h
 unfold sp162 at h
 split at h
 ·rename_i ha err
  simp only [Option.map_eq_some_iff] at h
  obtain ⟨hs, hl, rfl⟩ := h
  have hout := sl_out hl
  have htup := (slV_is hl).1.tup
  simp only [isTuple] at htup
  have k94 := fun h => K94 (X := dX cHD) rfl ha hs 2 80 hl h
  have HB := Lib.hid (show butB hs err = (allB hs 2 80 && inB err 0 4) from rfl)
  generalize butB hs err = b at *
  generalize allB hs 2 80 = a at *
  clear hl
  refine ClR.walk (c := _) rfl Tryz.func162 rfl (by kernel_rfl) rfl isRet_fail ?_
  simp only [entryEnv, Nat.reduceAdd]
  cases a with
  | false =>
   repeat' (first | refine goS ?_ | (apply U6; exact Z1; exact Z1; (focus (simp only [List.nil_append, List.append_nil]; first | exact K93 rfl _ _ _ _ | exact k94 _)); simp only [pM, pN, rR, rP]) | refine go2 (fun hh => ?_) (fun hh => ?_) | fail)
   all_goals (simp only [resV_def (X := dX cHD) Tryz.func162, Tryz.results162]; first | exact J5 | refine J6 ?_)
   rw [HB.out]; rfl
  | true =>
   repeat' (first | refine goS ?_ | (apply U6; exact Z1; exact Z1; (focus (simp only [List.nil_append, List.append_nil]; first | exact K93 rfl _ _ _ _ | exact k94 _)); simp only [pM, pN, rR, rP]) | refine go2 (fun hh => ?_) (fun hh => ?_) | fail)
   all_goals (simp only [resV_def (X := dX cHD) Tryz.func162, Tryz.results162]; first | exact J5 | refine J6 ?_)
   rw [HB.out]; simp
 ·cases h
theorem K162 {X : Ctx} (hX : X.intr 162 = some (pureFn sp162)) (ha : AV) (hs : List Pt) (err : Int) (hl : slV ptC ha = some hs) (h : Heap) : Cl X 162 [.agg [ha, .int .i64 err]] h (.ret (.bool (butB hs err)) h none) :=
 Cl.intr hX (by simp [pureFn, AV.pur, AV.purL, sl_pur hl, sp162, hl])
theorem R51 : ∀ args v, sp162 args = some v -> ClR (dX cHD) 51 args emptyHp (isRet v) := by
 intro args v h
 unfold sp162 at h
 split at h
 ·rename_i ha err
  simp only [Option.map_eq_some_iff] at h
  obtain ⟨hs, hl, rfl⟩ := h
  have hout := sl_out hl
  have htup := (slV_is hl).1.tup
  simp only [isTuple] at htup
  have k28 := fun h => K28 (X := dX cHD) rfl ha hs 2 4 80 hl h
  have HB := Lib.hid (show butB hs err = (pointsB hs 2 4 80 && inB err 0 4) by unfold butB; rw [allB_P])
  generalize butB hs err = b at *
  generalize pointsB hs 2 4 80 = a at *
  clear hl
  refine ClR.walk (c := _) rfl Tryz.func51 rfl (by kernel_rfl) rfl isRet_fail ?_
  simp only [entryEnv, Nat.reduceAdd]
  cases a with
  | false =>
   repeat' (first | refine goS ?_ | (apply U6; exact Z1; exact Z1; (focus (simp only [List.nil_append, List.append_nil]; first | exact K97 rfl _ _ _ _ | exact k28 _)); simp only [pM, pN, rR, rP]) | refine go2 (fun hh => ?_) (fun hh => ?_) | fail)
   all_goals (simp only [resV_def (X := dX cHD) Tryz.func51, Tryz.results51]; first | exact J5 | refine J6 ?_)
   rw [HB.out]; rfl
  | true =>
   repeat' (first | refine goS ?_ | (apply U6; exact Z1; exact Z1; (focus (simp only [List.nil_append, List.append_nil]; first | exact K97 rfl _ _ _ _ | exact k28 _)); simp only [pM, pN, rR, rP]) | refine go2 (fun hh => ?_) (fun hh => ?_) | fail)
   all_goals (simp only [resV_def (X := dX cHD) Tryz.func51, Tryz.results51]; first | exact J5 | refine J6 ?_)
   rw [HB.out]; simp
 ·cases h
theorem F51 : IntrFn Tryz.prog 51 (pureFn sp162) := pure_fn (X := dX cHD) cHD_sound p162 R51
theorem K51 {X : Ctx} (hX : X.intr 51 = some (pureFn sp162)) (ha : AV) (hs : List Pt) (err : Int) (hl : slV ptC ha = some hs) (h : Heap) : Cl X 51 [.agg [ha, .int .i64 err]] h (.ret (.bool (butB hs err)) h none) :=
 Cl.intr hX (by simp [pureFn, AV.pur, AV.purL, sl_pur hl, sp162, hl])
def suitB (m : Bool) (ss hs : List Pt) (err : Int) : Bool := m && butB hs err && decide (hs.length = ss.length)
def sp112 : List AV -> Option AV
 | [.agg [sa, .int .i64 cxl, .int .i64 cxh, .int .i64 cyl, .int .i64 cyh, .int .i64 wxl, .int .i64 wxh, .int .i64 wyl, .int .i64 wyh, ra], .agg [ha, .int .i64 err]] => match slV ptC sa, slV rdgC ra, slV ptC ha with
  | some ss, some rs, some hs => some (.bool (suitB (machB ss ⟨cxl, cxh⟩ ⟨cyl, cyh⟩ ⟨wxl, wxh⟩ ⟨wyl, wyh⟩ rs) ss hs err))
  | _, _, _ => none
 | _ => none
theorem p112 : ∀ args v, sp112 args = some v -> v.pur = true := by
 intro args v h
 unfold sp112 at h
 split at h
 ·split at h
  ·cases h; rfl
  ·cases h
 ·cases h
noncomputable def cHD2 : Itr
 | 101 => some (flatFn sp101)
 | 162 => some (pureFn sp162)
 | _ => none
theorem cHD2_sound : Sound (dX cHD2) := dX_sound (fun f g h => by
 unfold cHD2 at h
 split at h
 ·cases h; exact F101
 ·cases h; exact F162
 ·cases h)
set_option maxHeartbeats 1000000 in
theorem F112 : IntrFn Tryz.prog 112 (pureFn sp112) := by
 refine pure_fn (X := dX cHD2) cHD2_sound p112 ?_
 intro args v h
 unfold sp112 at h
 split at h
 ·rename_i sa cxl cxh cyl cyh wxl wxh wyl wyh ra ha err
  split at h
  ·rename_i ss rs hs hl hr hh
   have h := Option.some.inj h
   subst h
   have o1 := sl_out hh
   have o2 := sl_out hl
   have o3 := sl_out hr
   have l1 := sl_len hh
   have l2 := sl_len hl
   obtain ⟨one1, t1⟩ := sl_one hh
   obtain ⟨one2, t2⟩ := sl_one hl
   obtain ⟨one3, t3⟩ := sl_one hr
   have k101 := fun hp => K101 (X := dX cHD2) rfl sa ra ss rs ⟨cxl, cxh⟩ ⟨cyl, cyh⟩ ⟨wxl, wxh⟩ ⟨wyl, wyh⟩ hl hr hp
   have k162 := fun hp => K162 (X := dX cHD2) rfl ha hs err hh hp
   have HOK := Lib.hid (show suitB (machB ss ⟨cxl, cxh⟩ ⟨cyl, cyh⟩ ⟨wxl, wxh⟩ ⟨wyl, wyh⟩ rs) ss hs err = (machB ss ⟨cxl, cxh⟩ ⟨cyl, cyh⟩ ⟨wxl, wxh⟩ ⟨wyl, wyh⟩ rs && butB hs err && decide (hs.length = ss.length)) from rfl)
   generalize suitB (machB ss ⟨cxl, cxh⟩ ⟨cyl, cyh⟩ ⟨wxl, wxh⟩ ⟨wyl, wyh⟩ rs) ss hs err = ok at *
   generalize machB ss ⟨cxl, cxh⟩ ⟨cyl, cyh⟩ ⟨wxl, wxh⟩ ⟨wyl, wyh⟩ rs = b1 at *
   generalize butB hs err = b2 at *
   clear hh hl hr
   refine ClR.walk (c := _) rfl Tryz.func112 rfl (by kernel_rfl) rfl isRet_fail ?_
   simp only [entryEnv, Nat.reduceAdd, emptyHp]
   have hcase : (b1 = false) \/ (b1 = true /\ b2 = false) \/ (b1 = true /\ b2 = true) := by cases b1 <;> cases b2 <;> simp
   have HE := Lib.hid (show ((hs.length : Int) == (ss.length : Int)) = decide (hs.length = ss.length) by
    rw [Bool.eq_iff_iff]; simp only [beq_iff_eq, decide_eq_true_eq]; omega)
   rcases hcase with q1 | ⟨q1, q2⟩ | ⟨q1, q2⟩
   ·subst q1
    repeat' (first | refine goS ?_ | (apply U6; exact Z1; exact Z1; (focus (simp only [List.nil_append, List.append_nil]; first | exact k101 _ | exact k162 _)); simp only [pM, pN, rR, rP]) | refine go2 (fun hh => ?_) (fun hh => ?_) | fail)
    all_goals (simp only [resV_def (X := dX cHD2) Tryz.func112, Tryz.results112]; first | exact J5 | refine J6 ?_)
    rw [HOK.out]; rfl
   ·subst q1 q2
    repeat' (first | refine goS ?_ | (apply U6; exact Z1; exact Z1; (focus (simp only [List.nil_append, List.append_nil]; first | exact k101 _ | exact k162 _)); simp only [pM, pN, rR, rP]) | refine go2 (fun hh => ?_) (fun hh => ?_) | fail)
    all_goals (simp only [resV_def (X := dX cHD2) Tryz.func112, Tryz.results112]; first | exact J5 | refine J6 ?_)
    rw [HOK.out]; rfl
   ·subst q1 q2
    repeat' (first | refine goS ?_ | (apply U6; exact Z1; exact Z1; (focus (simp only [List.nil_append, List.append_nil]; first | exact k101 _ | exact k162 _)); simp only [pM, pN, rR, rP]) | refine go2 (fun hh => ?_) (fun hh => ?_) | fail)
    all_goals (simp only [resV_def (X := dX cHD2) Tryz.func112, Tryz.results112]; first | exact J5 | refine J6 ?_)
    rw [HOK.out, HE.out]; rfl
  ·cases h
 ·cases h
theorem K112 {X : Ctx} (hX : X.intr 112 = some (pureFn sp112)) (sa ra ha : AV) (ss hs : List Pt) (rs : List Rdg) (cx cy wx wy : Sp) (err : Int) (hl : slV ptC sa = some ss) (hr : slV rdgC ra = some rs) (hh : slV ptC ha = some hs) (h : Heap) :
  Cl X 112 [.agg [sa, .int .i64 cx.lo, .int .i64 cx.hi, .int .i64 cy.lo, .int .i64 cy.hi, .int .i64 wx.lo, .int .i64 wx.hi, .int .i64 wy.lo, .int .i64 wy.hi, ra], .agg [ha, .int .i64 err]] h (.ret (.bool (suitB (machB ss cx cy wx wy rs) ss hs err)) h none) :=
 Cl.intr hX (by simp [pureFn, AV.pur, AV.purL, sl_pur hl, sl_pur hr, sl_pur hh, sp112, hl, hr, hh])
end Go.AM
namespace Go.AM
open Go
variable [Keep]
def newRes (h : Heap) (sz : Nat) (el rest : List AV) : AV × Heap :=
 if el.isEmpty then (.tuple (.nilslice :: rest), h) else (.tuple (.row h.next 0 el.length :: rest), h.new (.rw sz el))
def newFn (sz : Nat) (spec : List AV -> Option (List AV × List AV)) : List AV -> Heap -> Option (AV × Heap) := fun args h => match viewDs h args with
 | some l => (match spec l with | some (el, rest) => some (newRes h sz el rest) | none => none)
 | none => none
theorem BR.flat {C D : Cfg} {w w' : World} {L : Loc} {sz : Nat} {el : List AV} (h : BR C w L (.rw sz el)) (hf : ∀ e ∈ el, ∀ x ∈ e.cells, x.flat = true) (e : w'.heap[L.b]? = w.heap[L.b]?) : BR D w' L (.rw sz el) := by
 obtain ⟨c, h1, h2, h3, h4, h5⟩ := h
 refine ⟨c, h1.same e, h2, h3, h4, fun i x hx => ?_⟩
 obtain ⟨k1, k2, k3⟩ := h5 i x hx
 refine ⟨k1, k2, fun j y hy => ?_⟩
 obtain ⟨v, hv, hr⟩ := k3 j y hy
 exact ⟨v, hv, hr.flat (hf x (List.mem_of_getElem? hx) y (List.mem_of_getElem? hy))⟩
variable {C : Cfg} {h : Heap} {w : World}
theorem tuple_flat {C D : Cfg} {a b : AV} {rest : List AV} {u : Value} (q : VR C (.tuple (a :: rest)) u) (hf : ∀ x ∈ rest, x.flat = true) (ha : ∀ v, VR C a v -> VR D b v) : VR D (.tuple (b :: rest)) u := by
 cases q with
 | tuple h1 h2 =>
  refine .tuple h1 fun i hi => ?_
  have := h2 i hi
  cases i with
  | zero => exact ha _ (by simpa using this)
  | succ i =>
   refine this.flat ?_
   have hil : i < rest.length := by simpa using hi
   have : (a :: rest).getD (i + 1) .junk = rest[i] := by simp [List.getD, hil]
   rw [this]
   exact hf _ (List.getElem_mem hil)
theorem new_intr {X : Ctx} (s : Sound X) {f : FuncId} {sz : Nat} {spec : List AV -> Option (List AV × List AV)}
    (hp : ∀ args el rest, spec args = some (el, rest) -> (∀ e ∈ el, ∀ x ∈ e.cells, x.flat = true) /\ ∀ x ∈ rest, x.flat = true)
    (hr : ∀ args el rest, spec args = some (el, rest) -> ∃ v h', Cl X f args emptyHp (.ret (.tuple (v :: rest)) h' none) /\ Blt h' v sz el) : IntrFn X.P f (newFn sz spec) := by
  intro args h v h' hg C w vs r hv
  unfold newFn at hg
  split at hg
  · rename_i l hl
    split at hg
    · rename_i el rest hsp
      obtain ⟨v0, h1, ⟨n, hn⟩, hb⟩ := hr l el rest hsp
      obtain ⟨hf1, hf2⟩ := hp l el rest hsp
      have hcall := hn n (Nat.le_refl _)
      obtain ⟨p1, p2⟩ := viewDs_ok r hv hl
      have hok := s.call n f l emptyHp ⟨fun _ => none, w.cell?⟩ w vs ⟨fun _ _ h => h, fun id blk e => by simp [emptyHp, Heap.get] at e, fun id id' blk blk' L L' e => by simp [emptyHp, Heap.get] at e, fun id blk L x v e => by simp [emptyHp, Heap.get] at e, fun id L e => (by cases e), r.base.on r.sig (fun _ _ _ => rfl)⟩ p2 (by rw [hcall]; intro e; cases e)
      refine ⟨hok.1, fun cs => ?_⟩
      have := hok.2 cs
      rw [hcall] at this
      obtain ⟨C', w', fr, u, q1, q2, q3, q4, q5, q6⟩ := this
      have hsame : ∀ β, β < w.heap.size -> w'.heap[β]? = w.heap[β]? := fun β hb => q6.same β hb emptyHp_live id
      have hsg : ∀ x u, C.sig x = some u -> w'.cell? x = some u := fun x u e => by
        have h1 := r.sig x u e
        have hb := WR.sig_lt (F := Fr.mk 0 false .nil .nil h [] none) r e
        unfold World.cell? at h1 ⊢
        rw [hsame _ hb]
        exact h1
      have hbase : Base C w' := r.base.on (fun _ _ e => e) (fun x v e => hsame _ (WR.sig_lt (F := Fr.mk 0 false .nil .nil h [] none) r e))
      have hg := Option.some.inj hg
      unfold newRes at hg
      rcases hb with ⟨rfl, rfl⟩ | ⟨id0, rfl, hrow, hid0, hne⟩
      · simp only [List.isEmpty_nil, if_true, Prod.mk.injEq] at hg
        obtain ⟨rfl, rfl⟩ := hg
        refine ⟨C, w', fr, u, q1, q2, q3, tuple_flat q4 hf2 (fun v q => by cases q; exact .nilslice), ⟨hsg, fun id blk e => ?_, r.inj, r.apart, r.fresh, hbase⟩, ?_⟩
        · obtain ⟨L, k1, k2⟩ := r.blk id blk e
          exact ⟨L, k1, k2.same (.refl C) (hsame _ k2.lt)⟩
        · exact { le := .refl C, os := q6.os, tape := q6.tape, output := q6.output, size := q6.size, same := fun β hb _ _ => hsame β hb, live := fun β hb l => .inl l,
                  own := fun _ _ o => o.elim, sig := fun x u hb e => .inl e, next := Nat.le_refl _ }
      · have hem : el.isEmpty = false := by cases el with
          | nil => exact absurd rfl hne
          | cons a b => rfl
        simp only [hem, Bool.false_eq_true, if_false, Prod.mk.injEq] at hg
        obtain ⟨rfl, rfl⟩ := hg
        obtain ⟨L, m1, m2⟩ := q5.blk id0 _ hrow
        have hnew : w.heap.size <= L.b := by
          rcases Nat.lt_or_ge L.b w.heap.size with q | q
          · exfalso
            rcases q6.live L.b q ⟨id0, _, L, hrow, m1, rfl⟩ with k | k
            · exact emptyHp_live k
            · exact k
          · exact q
        have hnm : C.mu h.next = none := by
          cases e : C.mu h.next with
          | none => rfl
          | some L' => exact absurd (r.fresh _ _ e) (by omega)
        let D : Cfg := ⟨fun i => if i = h.next then some L else C.mu i, C.sig⟩
        have hD : C.le D := ⟨fun i L' e => by
          show (if i = h.next then some L else C.mu i) = some L'
          rw [if_neg (fun q => by rw [q, hnm] at e; cases e)]; exact e, fun _ _ e => e⟩
        have hDn : D.mu h.next = some L := by show (if h.next = h.next then some L else C.mu h.next) = some L; rw [if_pos rfl]
        have hDo : ∀ i, i ≠ h.next -> D.mu i = C.mu i := fun i q => by show (if i = h.next then some L else C.mu i) = C.mu i; rw [if_neg q]
        have old : ∀ id blk, (h.new (.rw sz el)).get id = some blk -> id ≠ h.next -> h.get id = some blk := fun id blk e q => by
          rw [Heap.get_new, if_neg (fun k => q k.symm)] at e; exact e
        have lb : ∀ id blk L', h.get id = some blk -> C.mu id = some L' -> L'.b < w.heap.size := fun id blk L' e1 e2 => by
          obtain ⟨L2, k1, k2⟩ := r.blk id blk e1
          rw [e2] at k1; cases k1
          exact k2.lt
        refine ⟨D, w', fr, u, q1, q2, q3, tuple_flat q4 hf2 (fun v q => ?_), ⟨hsg, fun id blk e => ?_, fun id id' blk blk' L1 L2 e e' k k' kb => ?_, fun id blk L1 x v e k ks => ?_, fun id L1 k => ?_, hbase.on (fun _ _ e => e) (fun _ _ _ => rfl)⟩, ?_⟩
        · cases q with
          | row a h1 h2 h3 h4 =>
            rw [m1] at h1
            cases h1
            exact .row a hDn h2 h3 h4
        · by_cases q : id = h.next
          · subst q
            rw [Heap.get_new, if_pos rfl] at e
            cases e
            exact ⟨L, hDn, m2.flat hf1 rfl⟩
          · obtain ⟨L', k1, k2⟩ := r.blk id blk (old _ _ e q)
            exact ⟨L', by rw [hDo _ q]; exact k1, k2.same hD (hsame _ k2.lt)⟩
        · by_cases q : id = h.next
          · by_cases q' : id' = h.next
            · rw [q, q']
            · subst q
              rw [hDn] at k; cases k
              rw [hDo _ q'] at k'
              have := lb _ _ _ (old _ _ e' q') k'
              omega
          · by_cases q' : id' = h.next
            · subst q'
              rw [hDn] at k'; cases k'
              rw [hDo _ q] at k
              have := lb _ _ _ (old _ _ e q) k
              omega
            · rw [hDo _ q] at k
              rw [hDo _ q'] at k'
              exact r.inj _ _ _ _ _ _ (old _ _ e q) (old _ _ e' q') k k' kb
        · by_cases q : id = h.next
          · subst q
            rw [hDn] at k; cases k
            have := WR.sig_lt (F := Fr.mk 0 false .nil .nil h [] none) r ks
            omega
          · rw [hDo _ q] at k
            exact r.apart _ _ _ _ _ (old _ _ e q) k ks
        · show id < h.next + 1
          by_cases q : id = h.next
          · omega
          · rw [hDo _ q] at k
            have := r.fresh _ _ k
            omega
        · have hlive : ∀ β, β < w.heap.size -> Live D (h.new (.rw sz el)) β -> Live C h β := by
            rintro β hb ⟨id, blk, L1, e1, e2, e3⟩
            by_cases q : id = h.next
            · subst q
              rw [hDn] at e2; cases e2
              omega
            · exact ⟨id, blk, L1, old _ _ e1 q, by rw [hDo _ q] at e2; exact e2, e3⟩
          exact { le := hD, os := q6.os, tape := q6.tape, output := q6.output, size := q6.size, same := fun β hb _ _ => hsame β hb, live := fun β hb l => .inl (hlive β hb l),
                  own := fun _ _ o => o.elim, sig := fun x u hb e => .inl e, next := Nat.le_succ _ }
    · cases hg
  · cases hg
def isNew (sz : Nat) (el rest : List AV) : COut -> Prop
 | .ret (.tuple (v :: r)) h none => r = rest /\ Blt h v sz el
 | _ => False
theorem isNew_fail {sz : Nat} {el rest : List AV} : ¬ isNew sz el rest .fail := id
theorem isNew_mk {sz : Nat} {el rest : List AV} {v : AV} {h : Heap} (b : Blt h v sz el) : isNew sz el rest (.ret (.tuple (v :: rest)) h none) := ⟨rfl, b⟩
theorem new_fn {X : Ctx} (s : Sound X) {f : FuncId} {sz : Nat} {spec : List AV -> Option (List AV × List AV)}
  (hp : ∀ args el rest, spec args = some (el, rest) -> (∀ e ∈ el, ∀ x ∈ e.cells, x.flat = true) /\ ∀ x ∈ rest, x.flat = true)
  (hr : ∀ args el rest, spec args = some (el, rest) -> ClR X f args emptyHp (isNew sz el rest)) : IntrFn X.P f (newFn sz spec) :=
 new_intr s hp fun args el rest h => by
  obtain ⟨r, h1, h2⟩ := hr args el rest h
  unfold isNew at h2
  split at h2
  ·obtain ⟨rfl, h3⟩ := h2; exact ⟨_, _, h1, h3⟩
  ·exact h2.elim
theorem newRes_is (h : Heap) (sz : Nat) (el rest : List AV) : ∃ v h', newRes h sz el rest = (.tuple (v :: rest), h') /\ Blt h' v sz el /\ h.next <= h'.next /\ ∀ id, id < h.next -> h'.get id = h.get id := by
 unfold newRes
 cases el with
 | nil => exact ⟨.nilslice, h, rfl, .inl ⟨rfl, rfl⟩, Nat.le_refl _, fun _ _ => rfl⟩
 | cons a r =>
  refine ⟨.row h.next 0 (a :: r).length, h.new (.rw sz (a :: r)), rfl, .inr ⟨h.next, rfl, by rw [Heap.get_new, if_pos rfl], Nat.lt_succ_self _, by simp⟩, Nat.le_succ _, fun id hid => ?_⟩
  rw [Heap.get_new, if_neg (by omega)]
theorem Cl.new {X : Ctx} {f : FuncId} {sz : Nat} {spec : List AV -> Option (List AV × List AV)} {args l el rest : List AV} {h : Heap} (hX : X.intr f = some (newFn sz spec)) (hv : viewDs h args = some l) (hs : spec l = some (el, rest)) :
  ∃ v h', Cl X f args h (.ret (.tuple (v :: rest)) h' none) /\ Blt h' v sz el /\ h.next <= h'.next /\ ∀ id, id < h.next -> h'.get id = h.get id := by
 obtain ⟨v, h', e, hb, hx⟩ := newRes_is h sz el rest
 exact ⟨v, h', Cl.intr hX (by simp [newFn, hv, hs, e]), hb, hx⟩
end Go.AM
