/-
  A part of the proof: contracts of functions.
-/
import Derived.Test.YtkpbdjpekjdhcaaGreatDoorXAG
import Derived.Test.YtkpbdjpekjdhcaaGreatDoorXAF
import Derived.Test.YtkpbdjpekjdhcaaGreatDoorXAD
set_option linter.unusedSectionVars false
set_option linter.unusedVariables false
set_option linter.unusedSimpArgs false
set_option maxRecDepth 100000
namespace Go.AM
open Go Go.Proofs
variable [Keep]
attribute [local irreducible] W WO WO1 WD WQ WT thenQ blockQ endR isRet retK Cl ClR
open Go.TX (numP smallP isDig valD val_lt val_app dig_bds mapO mapO_next mapO_none matchF)
def numR (w : List UInt8) (h : Heap) (r : COut) : Prop := ∃ h', HExt h h' /\ r = match numP w with | some n => .ret (.int .i64 n) h' none | none => .pan (.iface 207 (.agg [.str w])) h' none
attribute [local irreducible] numR
def txtC : Cd (List UInt8) where
 enc s := .str s
 dec a := match a with | .str s => some s | _ => none
 de _ := rfl
 ed a x h := by split at h <;> cases h; rfl
 pur _ := rfl
theorem strs_idx {a : AV} {l : List (List UInt8)} (h : slV txtC a = some l) {k : Nat} {s : List UInt8} (hp : l[k]? = some s) (H : Heap) : indexAddrV Tryz.prog H 167 a (.int .i64 ↑k) = some (.vptr [.str s]) :=
 (slV_is h).1.idx (x := .str s) Tryz.underlying167 ty_lay9 (by simp [hp, txtC]) rfl
def TxtV (h : Heap) (a : AV) (l : List (List UInt8)) : Prop := slV txtC a = some l \/ ∃ id, a = .row id 0 l.length /\ id < h.next /\ h.get id = some (.rw 1 (l.map AV.str)) /\ l.length <= maxL
theorem TxtV.ext {h h' : Heap} {a : AV} {l : List (List UInt8)} (t : TxtV h a l) (x : HExt h h') : TxtV h' a l := by
 rcases t with t | ⟨id, e, h1, h2, h3⟩
 ·exact .inl t
 ·exact .inr ⟨id, e, Nat.lt_of_lt_of_le h1 x.1, (x.2 id h1).trans h2, h3⟩
theorem TxtV.len {h : Heap} {a : AV} {l : List (List UInt8)} (t : TxtV h a l) : lenS a = some l.length /\ outV (some a) = some a /\ l.length <= maxL := by
 rcases t with t | ⟨id, rfl, h1, h2, h3⟩
 ·exact ⟨sl_len t, sl_out t, sl_max t⟩
 ·exact ⟨rfl, rfl, h3⟩
theorem TxtV.idx {h : Heap} {a : AV} {l : List (List UInt8)} (t : TxtV h a l) {k : Nat} {s : List UInt8} (hk : l[k]? = some s) :
  indexAddrV Tryz.prog h 167 a (.int .i64 ↑k) = some (.vptr [.str s]) \/ ∃ id el, indexAddrV Tryz.prog h 167 a (.int .i64 ↑k) = some (.eptr id 1 k 0) /\ h.get id = some (.rw 1 el) /\ el[k]? = some (.str s) := by
 rcases t with t | ⟨id, rfl, h1, h2, h3⟩
 ·exact .inl (strs_idx t hk h)
 ·refine .inr ⟨id, l.map AV.str, ?_, h2, by simp [hk]⟩
  have hlt : k < l.length := (List.getElem?_eq_some_iff.1 hk).1
  have : idxV (.int .i64 ↑k) l.length = some k := by simp [idxV, hlt]
  simp only [indexAddrV, Tryz.underlying167, ty_lay9, this, h2, if_true, Nat.zero_add]
def intsE (l : List Int) : List AV := l.map (AV.int .i64)
theorem intsE_app (l : List Int) (n : Int) : intsE (l ++ [n]) = intsE l ++ [.int .i64 n] := by simp [intsE]
theorem intsE_len (l : List Int) : (intsE l).length = l.length := by simp [intsE]
def numsR (s : List UInt8) (fs : List (Option (List UInt8))) (h : Heap) (r : COut) : Prop := ∃ h', HExt h h' /\ match matchF (spL 32 s) fs with | some l => r = .ret (slN (intsE l)) h' none | none => ∃ u, r = .pan (.iface 207 (.agg [.str u])) h' none
section
variable {s u : List UInt8} {fs : List (Option (List UInt8))} {h h' : Heap} {l : List Int}
end
def MoreF (ws : List (List UInt8)) (fs : List (Option (List UInt8))) (k : Nat) (acc : List Int) : Prop := matchF ws fs = (matchF (ws.drop k) (fs.drop k)).map (acc ++ ·)
section
variable {ws : List (List UInt8)} {fs : List (Option (List UInt8))} {k : Nat} {acc : List Int} {p : List UInt8}
theorem MoreF.zero : MoreF ws fs 0 [] := by unfold MoreF; simp
theorem drop_at {α : Type} {l : List α} {k : Nat} {a : α} (h : l[k]? = some a) : l.drop k = a :: l.drop (k + 1) := by
 obtain ⟨h1, h2⟩ := List.getElem?_eq_some_iff.1 h
 rw [List.drop_eq_getElem_cons h1, h2]
theorem MoreF.num (m : MoreF ws fs k acc) (h1 : ws[k]? = some p) (h2 : fs[k]? = some none) : (∀ n, numP p = some n -> MoreF ws fs (k + 1) (acc ++ [n])) /\ (numP p = none -> matchF ws fs = none) := by
 unfold MoreF at m ⊢
 rw [drop_at h1, drop_at h2] at m
 simp only [matchF] at m
 refine ⟨fun n e => ?_, fun e => by rw [e] at m; exact m⟩
 rw [e] at m
 simp only at m
 rw [m]
 cases matchF (ws.drop (k + 1)) (fs.drop (k + 1)) with
 | none => rfl
 | some r => simp
theorem MoreF.fin (m : MoreF ws fs k acc) (h1 : ws.length = k) (h2 : fs.length = k) : matchF ws fs = some acc := by
 unfold MoreF at m
 rw [List.drop_of_length_le (by omega), List.drop_of_length_le (by omega)] at m
 simpa [matchF] using m
end
attribute [local irreducible] numsR matchF MoreF numP
end Go.AM
namespace Go.AM
open Go Go.Proofs
variable [Keep]
attribute [local irreducible] W WO WO1 WD WQ WT thenQ blockQ endR isRet retK Cl ClR
def cutR (c : UInt8) : List UInt8 -> List UInt8 × List UInt8 × Bool
 | [] => ([], [], false)
 | a :: r => if a = c then ([], r, true) else (a :: (cutR c r).1, (cutR c r).2.1, (cutR c r).2.2)
theorem cut_idx (c : UInt8) : ∀ s : List UInt8, (Lib.indexByte s c = -1 /\ cutR c s = (s, [], false)) \/ ∃ i : Nat, Lib.indexByte s c = i /\ i < s.length /\ cutR c s = (s.take i, s.drop (i + 1), true) := by
 intro s
 induction s with
 | nil => exact .inl ⟨rfl, rfl⟩
 | cons a r ih =>
  by_cases e : a = c
  ·subst e
   exact .inr ⟨0, by simp [Lib.indexByte], by simp, by simp [cutR]⟩
  ·have hi : Lib.indexByte (a :: r) c = if Lib.indexByte r c == -1 then -1 else Lib.indexByte r c + 1 := by simp [Lib.indexByte, e]
   rcases ih with ⟨h1, h2⟩ | ⟨i, h1, h2, h3⟩
   ·refine .inl ⟨by rw [hi, h1]; rfl, ?_⟩
    simp only [cutR, if_neg e, h2]
   ·refine .inr ⟨i + 1, ?_, by simp; omega, ?_⟩
    ·rw [hi, h1]
     have : ((i : Int) == -1) = false := by rw [beq_eq_false_iff_ne]; omega
     rw [this]
     simp
    ·simp only [cutR, if_neg e, h3]
     simp
def cutT (c : UInt8) (s : List UInt8) : AV := .tuple [.str (cutR c s).1, .str (cutR c s).2.1, .bool (cutR c s).2.2]
def sp159 : List AV -> Option AV
 | [.str s, .str [c]] => if s.length <= 60000 then some (cutT c s) else none
 | _ => none
theorem p159 : ∀ args v, sp159 args = some v -> v.pur = true := by
 intro args v h
 unfold sp159 at h
 split at h
 ·split at h
  ·cases h; rfl
  ·cases h
 ·cases h
noncomputable def c188 : Itr
 | 200 => some (atOnce spIndex)
 | _ => none
theorem c188_sound : Sound (dX c188) := dX_sound (fun f g h => by
 unfold c188 at h
 split at h
 ·cases h; exact F200
 ·cases h)
set_option maxHeartbeats 1000000 in
theorem F188 : IntrFn Tryz.prog 188 (pureFn sp159) := by
 refine pure_fn (X := dX c188) c188_sound p159 ?_
 intro args v h
 unfold sp159 at h
 split at h
 ·rename_i s c
  split at h
  ·rename_i hs
   have h := Option.some.inj h
   subst h
   have k200 := fun h => K200 (X := dX c188) rfl s c h
   unfold cutT
   rcases cut_idx c s with ⟨h1, h2⟩ | ⟨i, h1, h2, h3⟩
   ·rw [h2]
    rw [h1] at k200
    have hd : decide ((-1 : Int) >= 0) = false := rfl
    clear h1 h2
    refine ClR.walk (c := _) rfl Tryz.func188 rfl (by kernel_rfl) rfl isRet_fail ?_
    simp only [entryEnv, Nat.reduceAdd]
    repeat' (first | refine goS ?_ | (apply U6; exact Z1; exact Z1; (exact k200 _); simp only [pM, pN, rR, rP]) | (refine go2 ?_ ?_ <;> intro hh) | fail)
    all_goals (simp only [resV_def (X := dX c188) Tryz.func188, Tryz.results188]; first | exact J5 | refine J6 ?_)
    all_goals rfl
   ·rw [h3]
    rw [h1] at k200
    have hd : decide ((i : Int) >= 0) = true := by simp
    have hw : IntKind.i64.wrap ((i : Int) + ((0 + 1 : Nat) : Int)) = ((i + 1 : Nat) : Int) := by rw [wrap_small (by omega) (by omega)]; omega
    have hw2 : IntKind.i64.wrap ((i : Int) + ((1 : Nat) : Int)) = ((i + 1 : Nat) : Int) := hw
    have hw3 : IntKind.i64.wrap ((i : Int) + 1) = ((i + 1 : Nat) : Int) := hw
    have c1 : ∀ H, sliceV Tryz.prog H 9 (.str s) none (some (some (.int .i64 (i : Int)))) none = some (.str (s.take i)) := fun H => by
     have b1 : boundV (some (some (.int .i64 (i : Int)))) s.length s.length = some i := by
      simp only [boundV]
      rw [if_pos (by omega)]
      simp
     have b2 : boundV none 0 i = some 0 := rfl
     simp only [sliceV, Tryz.underlying9, strCut, boundsV, b1, b2, List.drop_zero]
    have c2 : ∀ H, sliceV Tryz.prog H 9 (.str s) (some (some (.int .i64 ((i + 1 : Nat) : Int)))) none none = some (.str (s.drop (i + 1))) := fun H => by
     have b1 : boundV none s.length s.length = some s.length := rfl
     have b2 : boundV (some (some (.int .i64 ((i + 1 : Nat) : Int)))) 0 s.length = some (i + 1) := by
      simp only [boundV]
      rw [if_pos (by omega)]
      simp
     simp only [sliceV, Tryz.underlying9, strCut, boundsV, b1, b2, List.take_length]
    clear h1 h2 h3
    generalize s.take i = va at *
    generalize s.drop (i + 1) = vb at *
    generalize ((i + 1 : Nat) : Int) = i1 at *
    refine ClR.walk (c := _) rfl Tryz.func188 rfl (by kernel_rfl) rfl isRet_fail ?_
    simp only [entryEnv, Nat.reduceAdd]
    repeat' (first | (apply W.drawQ (id := 3) (l1 := [0, 1, 2, 3, 4, 5, 6, 7, 8, 9, 10, 11]) (l2 := []); kernel_rfl; kernel_rfl; kernel_rfl; exact Z4) | (apply U4 (v := .str va); (focus (simp only [go_sem, *, Nat.reduceLT, Int.reduceEq, Int.reduceBEq, Int.reduceLE, Int.reduceLT, Nat.reduceAdd, Nat.reduceBEq, Nat.reduceEqDiff, reduceIte, Nat.reduceLeDiff, Nat.reduceMul, Nat.reduceSub, reduceCtorEq, Option.map_none, Option.map_some]; done)); exact rfl; simp only [pM, pN, rR, rP]) | (apply U4 (v := .str vb); (focus (simp only [go_sem, *, Nat.reduceLT, Int.reduceEq, Int.reduceBEq, Int.reduceLE, Int.reduceLT, Nat.reduceAdd, Nat.reduceBEq, Nat.reduceEqDiff, reduceIte, Nat.reduceLeDiff, Nat.reduceMul, Nat.reduceSub, reduceCtorEq, Option.map_none, Option.map_some]; done)); exact rfl; simp only [pM, pN, rR, rP]) | refine go1 ?_ | (apply U6; exact Z1; exact Z1; (exact k200 _); simp only [pM, pN, rR, rP]) | (refine go2 ?_ ?_ <;> intro hh) | fail)
    all_goals (simp only [resV_def (X := dX c188) Tryz.func188, Tryz.results188]; first | exact J5 | refine J6 ?_)
    all_goals rfl
  ·cases h
 ·cases h
theorem K188 {X : Ctx} (hX : X.intr 188 = some (pureFn sp159)) (s : List UInt8) (c : UInt8) (hs : s.length <= 60000) (h : Heap) : Cl X 188 [.str s, .str [c]] h (.ret (cutT c s) h none) := Cl.intr hX (by simp only [pureFn, AV.purL, AV.pur, Bool.and_self, if_true, sp159, hs])
noncomputable def c159 : Itr
 | 188 => some (pureFn sp159)
 | _ => none
theorem c159_sound : Sound (dX c159) := dX_sound (fun f g h => by
 unfold c159 at h
 split at h
 ·cases h; exact F188
 ·cases h)
theorem F159 : IntrFn Tryz.prog 159 (pureFn sp159) := by
 refine pure_fn (X := dX c159) c159_sound p159 ?_
 intro args v h
 unfold sp159 at h
 split at h
 ·rename_i s c
  split at h
  ·rename_i hs
   have h := Option.some.inj h
   subst h
   have k188 := fun h => K188 (X := dX c159) rfl s c hs h
   unfold cutT at k188 ⊢
   generalize (cutR c s).1 = a1 at *
   generalize (cutR c s).2.1 = a2 at *
   generalize (cutR c s).2.2 = a3 at *
   refine ClR.walk (c := _) rfl Tryz.func159 rfl (by kernel_rfl) rfl isRet_fail ?_
   simp only [entryEnv, Nat.reduceAdd]
   repeat' (first | refine goS ?_ | (apply U6; exact Z1; exact Z1; (exact k188 _); simp only [pM, pN, rR, rP]) | (refine go2 ?_ ?_ <;> intro hh) | fail)
   all_goals (simp only [resV_def (X := dX c159) Tryz.func159, Tryz.results159]; first | exact J5 | refine J6 ?_)
   all_goals rfl
  ·cases h
 ·cases h
end Go.AM
namespace Go.AM
open Go
variable [Keep]
def SepV (a b : AV) : Prop := ∀ id x y x' y', a = .row id x y -> b ≠ .row id x' y'
theorem SepV.symm {a b : AV} (h : SepV a b) : SepV b a := fun id x y x' y' e f => h id x' y' x y f e
theorem SepV.nil (b : AV) : SepV .nilslice b := fun _ _ _ _ _ e => by cases e
theorem SepV.nil' (a : AV) : SepV a .nilslice := fun _ _ _ _ _ _ e => by cases e
section
variable {b n : Nat} {h h' : Heap} {u v : AV} {sz : Nat} {l : List AV}
theorem BltN.apart (q : BltN b h v sz l) (k : Keeps h h' u) (s : SepV v u) : BltN b h' v sz l := by
 rcases q with q | ⟨id, rfl, h2, h3, h4, h5⟩
 ·exact .inl q
 ·exact .inr ⟨id, rfl, (k.2 id h4 fun off n e => s id _ _ _ _ rfl e).trans h2, h3, Nat.lt_of_lt_of_le h4 k.1, h5⟩
theorem SepV.new (q : BltN b h v sz l) : SepV v (.row h.next 0 n) := by
 intro id x y x' y' e f
 rcases q with ⟨rfl, _⟩ | ⟨i, rfl, _, _, h4, _⟩
 ·cases e
 ·cases e
  cases f
  omega
end
structure Tri (b : Nat) (h : Heap) (u1 u2 u3 : AV) (s1 s2 s3 : Nat) (l1 l2 l3 : List AV) : Prop where
 b1 : BltN b h u1 s1 l1
 b2 : BltN b h u2 s2 l2
 b3 : BltN b h u3 s3 l3
 s12 : SepV u1 u2
 s13 : SepV u1 u3
 s23 : SepV u2 u3
section
variable {b : Nat} {h h' : Heap} {u1 u2 u3 v : AV} {s1 s2 s3 n : Nat} {l1 l2 l3 r : List AV}
theorem Tri.nil : Tri b h .nilslice .nilslice .nilslice s1 s2 s3 [] [] [] := ⟨.nil, .nil, .nil, .nil _, .nil _, .nil _⟩
theorem Tri.keep (q : Tri b h u1 u2 u3 s1 s2 s3 l1 l2 l3) (x : HExt h h') : Tri b h' u1 u2 u3 s1 s2 s3 l1 l2 l3 := ⟨q.b1.keep x, q.b2.keep x, q.b3.keep x, q.s12, q.s13, q.s23⟩
theorem Tri.turn (q : Tri b h u1 u2 u3 s1 s2 s3 l1 l2 l3) : Tri b h u2 u3 u1 s2 s3 s1 l2 l3 l1 := ⟨q.b2, q.b3, q.b1, q.s23, q.s12.symm, q.s13.symm⟩
theorem Tri.one (q : Tri b h u1 u2 u3 s1 s2 s3 l1 l2 l3) (hb : BltN b h' v s1 r) (k : Keeps h h' u1) (e : v = .row h.next 0 n) : Tri b h' v u2 u3 s1 s2 s3 r l2 l3 := by
 subst e
 exact ⟨hb, q.b2.apart k q.s12.symm, q.b3.apart k q.s13.symm, (SepV.new q.b2).symm, (SepV.new q.b3).symm, q.s23⟩
theorem Tri.two (q : Tri b h u1 u2 u3 s1 s2 s3 l1 l2 l3) (hb : BltN b h' v s2 r) (k : Keeps h h' u2) (e : v = .row h.next 0 n) : Tri b h' u1 v u3 s1 s2 s3 l1 r l3 := (q.turn.one hb k e).turn.turn
end
section
variable {X : Ctx} {ops : Array Oper} {K P : AV -> Fr -> Prop} {F : Fr} {d : Option Tmp} {T : TypeId} {p : String} {af : Array Edge}
theorem WO1.appendX {args : Array Operand} {at_ : Array TypeId} {t u e e' : TypeId} {tl : List TypeId} {sz b : Nat} {x y : AV} {new l : List AV} {h0 : Heap} (hb : BltN b F.hp x sz l) (hx : b <= F.hp.next /\ ∀ id, id < b -> F.hp.get id = h0.get id) (hargs : F.opvs args.toList = some [x, y]) (ht : at_.toList = t :: u :: tl) (hu : X.P.underlying u = some (.slice e'))
  (hel : elemT X.P t = some e) (hs : szT X.P e = sz) (hrow : rowable X.P e = true) (hy : F.hp.elems y = some new) (hsz : ∀ v ∈ new, v.cells.length = sz) (hlen : l.length + new.length <= most) (hne : new ≠ [])
  (h : ∀ v' h', BltN b h' v' sz (l ++ new) -> outV (some v') = some v' -> Keeps F.hp h' x -> v' = .row F.hp.next 0 (l ++ new).length -> (b <= h'.next /\ ∀ id, id < b -> h'.get id = h0.get id) -> K v' (({ F with hp := h' } : Fr).put d v')) : WO1 X ops ⟨d, .call ⟨.builtin .append, args, at_⟩, T, p, af, none⟩ F K P := by
 subst hs
 obtain ⟨v', h', q1, q2, q3, q4⟩ := append_blt hel hrow hsz hb.blt hlen hne
 have hB : BltN b h' v' (szT X.P e) (l ++ new) := by
  rcases q2 with ⟨q, e⟩ | ⟨id, g1, g2, g3, g4⟩
  ·exact absurd e (by simp [hne])
  ·refine .inr ⟨id, g1, g2, ?_, g3, g4⟩
   rw [q4] at g1
   cases g1
   exact hx.1
 have hX : b <= h'.next /\ ∀ id, id < b -> h'.get id = h0.get id := by
  refine ⟨Nat.le_trans hx.1 q3.1, fun id hid => ?_⟩
  rw [q3.2 id (Nat.lt_of_lt_of_le hid hx.1) (fun off n ev => ?_)]
  ·exact hx.2 id hid
  ·rcases hb with ⟨rfl, _⟩ | ⟨j, rfl, _, hj, _⟩
   ·cases ev
   ·cases ev; omega
 refine U5 (v := v') (F' := { F with hp := h' }) rfl (fun cl rd => ?_) (h v' h' hB q2.out q3 q4 hX)
 simp only [efV, Fr.callOp, Fr.builtinE, Fr.appendE, ht, hargs, hu]
 cases y <;> first | (simp only [hy, q1, okO]; done) | simp [Heap.elems] at hy
end
end Go.AM
