/-
  A part of the proof: contracts of functions.
-/
import Derived.Test.YtkpbdjpekjdhcaaGreatDoorXAF
import Derived.Test.YtkpbdjpekjdhcaaGreatDoorXAT
import Derived.Test.YtkpbdjpekjdhcaaGreatDoorXAR
import Derived.Test.YtkpbdjpekjdhcaaGreatDoorXAL
import Derived.Test.YtkpbdjpekjdhcaaGreatDoorXAH
set_option linter.unusedSimpArgs false
set_option linter.unusedVariables false
set_option linter.unusedSectionVars false
set_option maxRecDepth 100000
namespace Go.AM
open Go Go.Proofs
open Go.TX (Rm Fa Ha Hs)
variable [Keep]
theorem ClR.gives {X : Ctx} {f : FuncId} {args : List AV} {h : Heap} {v : AV} (c : ClR X f args h (isRet v)) : ∃ h', Cl X f args h (.ret v h' none) := by
 unfold ClR at c
 obtain ⟨r, ⟨n, hn⟩, q⟩ := c
 cases r with
 | ret u h' up =>
  cases up with
  | none => rw [isRet_ret] at q; subst q; exact ⟨h', n, hn⟩
  | some p => exact absurd q (by simp [isRet])
 | pan u h' up => exact absurd q (by simp [isRet])
 | fail => exact absurd q (by simp [isRet])
theorem Sh.i64 {n : Nat} {xs : List AV} (h : Sh Tryz.prog (n + 1) 3 xs) : ∃ i, xs = [.int .i64 i] := by
 obtain ⟨i, h, _⟩ := Sh.int Tryz.underlying3 h
 exact ⟨i, h⟩
theorem ag3 : isAggT Tryz.prog 3 = false := by simp [isAggT, Tryz.underlying3]
theorem ag24 : isAggT Tryz.prog 24 = false := by simp [isAggT, Tryz.underlying24]
theorem ag27 : isAggT Tryz.prog 27 = true := by simp [isAggT, Tryz.underlying27]
theorem ag136 : isAggT Tryz.prog 136 = true := by simp [isAggT, Tryz.underlying136]
theorem ag103 : isAggT Tryz.prog 103 = true := by simp [isAggT, Tryz.underlying103]
theorem ag106 : isAggT Tryz.prog 106 = true := by simp [isAggT, Tryz.underlying106]
theorem Sh.ints {n : Nat} {xs : List AV} (h : Sh Tryz.prog (n + 2) 24 xs) : ∃ (a : AV) (l : List Int), xs = [a] /\ isSl a (l.map intC.enc) :=
 Sh.slice intC Tryz.underlying24 (fun xs h => by
  obtain ⟨i, rfl⟩ := Sh.i64 h
  exact ⟨i, by rw [ag3]; rfl⟩) h
theorem Sh.span {n : Nat} {xs : List AV} (h : Sh Tryz.prog (n + 2) 56 xs) : ∃ p q : Int, xs = [.int .i64 p, .int .i64 q] := by
 obtain ⟨x1, y1, rfl, h1, x2, y2, rfl, h2, rfl⟩ := Sh.struct Tryz.underlying56 h
 obtain ⟨a, rfl⟩ := Sh.i64 h1
 obtain ⟨b, rfl⟩ := Sh.i64 h2
 exact ⟨a, b, rfl⟩
theorem Sh.rm {n : Nat} {xs : List AV} (h : Sh Tryz.prog (n + 3) 136 xs) : ∃ p : Rm, xs = [.int .i64 p.lo, .int .i64 p.hi, .int .i64 p.mke, .int .i64 p.wt, .int .i64 p.stt] := by
 obtain ⟨x1, y1, rfl, h1, x2, y2, rfl, h2, x3, y3, rfl, h3, x4, y4, rfl, h4, rfl⟩ := Sh.struct Tryz.underlying136 h
 obtain ⟨p, q, rfl⟩ := Sh.span h1
 obtain ⟨b, rfl⟩ := Sh.i64 h2
 obtain ⟨c, rfl⟩ := Sh.i64 h3
 obtain ⟨d, rfl⟩ := Sh.i64 h4
 exact ⟨⟨p, q, b, c, d⟩, rfl⟩
theorem Sh.fa {n : Nat} {xs : List AV} (h : Sh Tryz.prog (n + 2) 103 xs) : ∃ p : Fa, xs = [.int .i64 p.room, .int .i64 p.draws] := by
 obtain ⟨x1, y1, rfl, h1, x2, y2, rfl, h2, rfl⟩ := Sh.struct Tryz.underlying103 h
 obtain ⟨a, rfl⟩ := Sh.i64 h1
 obtain ⟨b, rfl⟩ := Sh.i64 h2
 exact ⟨⟨a, b⟩, rfl⟩
theorem Sh.ha {n : Nat} {xs : List AV} (h : Sh Tryz.prog (n + 2) 106 xs) : ∃ p : Ha, xs = [.int .i64 p.limit, .int .i64 p.most] := by
 obtain ⟨x1, y1, rfl, h1, x2, y2, rfl, h2, rfl⟩ := Sh.struct Tryz.underlying106 h
 obtain ⟨a, rfl⟩ := Sh.i64 h1
 obtain ⟨b, rfl⟩ := Sh.i64 h2
 exact ⟨⟨a, b⟩, rfl⟩
theorem Sh.rms {n : Nat} {xs : List AV} (h : Sh Tryz.prog (n + 4) 22 xs) : ∃ (a : AV) (l : List Rm), xs = [a] /\ isSl a (l.map rmC.enc) :=
 Sh.slice rmC Tryz.underlying22 (fun xs h => by
  obtain ⟨p, rfl⟩ := Sh.rm h
  exact ⟨p, by rw [ag136]; rfl⟩) h
theorem Sh.fas {n : Nat} {xs : List AV} (h : Sh Tryz.prog (n + 3) 23 xs) : ∃ (a : AV) (l : List Fa), xs = [a] /\ isSl a (l.map faC.enc) :=
 Sh.slice faC Tryz.underlying23 (fun xs h => by
  obtain ⟨p, rfl⟩ := Sh.fa h
  exact ⟨p, by rw [ag103]; rfl⟩) h
theorem Sh.has {n : Nat} {xs : List AV} (h : Sh Tryz.prog (n + 3) 25 xs) : ∃ (a : AV) (l : List Ha), xs = [a] /\ isSl a (l.map haC.enc) :=
 Sh.slice haC Tryz.underlying25 (fun xs h => by
  obtain ⟨p, rfl⟩ := Sh.ha h
  exact ⟨p, by rw [ag106]; rfl⟩) h
theorem Sh.house {n : Nat} {xs : List AV} (h : Sh Tryz.prog (n + 5) 27 xs) : ∃ (ra fa oa ha : AV) (m : Hs), xs = [.int .i64 m.hours, ra, fa, oa, ha] /\ isSl ra (m.rooms.map rmC.enc) /\ isSl fa (m.fans.map faC.enc) /\ isSl oa (m.op.map intC.enc) /\ isSl ha (m.hands.map haC.enc) := by
 obtain ⟨x1, y1, rfl, h1, x2, y2, rfl, h2, x3, y3, rfl, h3, x4, y4, rfl, h4, x5, y5, rfl, h5, rfl⟩ := Sh.struct Tryz.underlying27 h
 obtain ⟨a, rfl⟩ := Sh.i64 h1
 obtain ⟨ra, rs, rfl, q1⟩ := Sh.rms h2
 obtain ⟨fa, fs, rfl, q2⟩ := Sh.fas h3
 obtain ⟨oa, os, rfl, q3⟩ := Sh.ints h4
 obtain ⟨ha, hs, rfl, q4⟩ := Sh.has h5
 exact ⟨ra, fa, oa, ha, ⟨a, rs, fs, os, hs⟩, rfl, q1, q2, q3, q4⟩
attribute [local irreducible] W WO WO1 WD WQ WT thenQ blockQ endR isRet retK Cl ClR
attribute [local irreducible] roundQ RdR
set_option maxHeartbeats 8000000 in
theorem C150s {σ : Type} (I D : σ -> Heap -> Prop) (step : Fl -> σ -> σ × Bool) (c : Itr) (hc : c 150 = none) (m : Hs) (ra fa oa ha : AV) (hr : slV rmC ra = some m.rooms) (hf : slV faC fa = some m.fans) (ho : outV (some oa) = some oa /\ outV (some ha) = some ha) (nn : Nat) (hnn : m.hours = nn) (hn2 : nn <= 1000) (cid L : Nat)
  (hI : ∀ s h, I s h -> h.get cid = some (.var [.int .i64 m.hours, ra, fa, oa, ha]))
  (s : σ) (hrd : ∀ fl s' h l, l ++ [fl] <+: failP nn m.fans.length m.rooms.length -> foldS step l s = (s', true) -> I s' h -> RdR (dX c) L [fl.enc] h (stI I D .bool (step fl s'))) (h : Heap) (hs : I s h) :
  ClR (dX c) 150 (([] ++ [.yield L]) ++ [.ptr cid 0]) h (stI I D (fun _ => .tuple []) (foldS step (failP nn m.fans.length m.rooms.length) s)) := by
 have lf := sl_len hf
 have lr := sl_len hr
 have of_ := sl_out hf
 have or_ := sl_out hr
 have mf := sl_max hf
 have mr := sl_max hr
 obtain ⟨oo, oh⟩ := ho
 rw [hnn] at hI
 have hg := hI s h hs
 have h0 := hrd .no s h [] (by simpa using fail_no) rfl hs
 unfold RdR at h0
 obtain ⟨r, hyl, h', rfl, i1, i2⟩ := h0
 have HI := J1 hI
 have HRD := J1 hrd
 have HNN := J1 hnn
 clear hI hrd hr hf hnn
 simp only [Fl.enc] at hyl
 obtain ⟨s1, b, hsb⟩ : ∃ s1 b, step .no s = (s1, b) := ⟨_, _, rfl⟩
 rw [hsb] at hyl i1 i2
 have HS := J1 hs
 clear hs
 cases b with
 | false =>
  have hfin : foldS step (failP nn m.fans.length m.rooms.length) s = (s1, false) := foldS_pre fail_no (by simp only [foldS, hsb, Bool.false_eq_true, if_false])
  rw [hfin]
  have HD := J1 (i2 rfl)
  clear i1 i2 hsb hfin
  refine ClR.walk (c := _) hc Tryz.func150 rfl (by kernel_rfl) rfl stI_fail ?_
  simp only [entryEnv, Nat.reduceAdd, List.nil_append, List.cons_append]
  repeat' (first | (apply WO1.round; exact Z1; exact Z1; (focus (exact hyl)); simp only [pM, pN, rR, rP]) | refine go1 ?_ | (refine go2 ?_ ?_ <;> intro hh) | fail)
  all_goals (simp only [resV_def (X := dX c) Tryz.func150, Tryz.results150]; first | exact J5 | refine J6 ?_)
  exact ⟨_, rfl, (fun e => by cases e), fun _ => HD.out⟩
 | true =>
  have HI1 := J1 (i1 rfl)
  have hg1 := HI.out s1 h' (i1 rfl)
  have HFO1 := J1 (show foldS step (fanP nn 0) s = (s1, true) by simp only [fanP, foldS, hsb, if_true])
  have HN2 := J1 hn2
  clear i1 i2 hsb hn2
  refine ClR.walk (c := _) hc Tryz.func150 rfl (by kernel_rfl) rfl stI_fail ?_
  simp only [entryEnv, Nat.reduceAdd, List.nil_append, List.cons_append]
  repeat' (first | (apply WO1.round; exact Z1; exact Z1; (focus (exact hyl)); simp only [pM, pN, rR, rP]) | refine go1 ?_ | (refine go2 ?_ ?_ <;> intro hh) | fail)
  refine W.loopV (m.fans.length) [0, 1, 14] [] (fun k e lm hp => ∃ s1, e.get 15 = some (.int .i64 ↑k) /\ I s1 hp /\ foldS step (fanP nn k) s = (s1, true)) ?_ ?_
  ·skip
   refine ⟨s1, ?_, HI1.out, HFO1.out⟩
   simp [go_sem, *]
  intro k e lm hp hk0 hce hcl hinv
  simp only [keepE, and_true] at hce
  obtain ⟨c0, c1, c14⟩ := hce
  simp only [go_sem, *, Nat.reduceBEq, Nat.reduceEqDiff, reduceIte] at c0 c1 c14
  clear hcl
  obtain ⟨s1, h15, hi1, hfo1⟩ := hinv
  by_cases hlt : k < m.fans.length
  ·have hd0 : decide ((k : Int) < ((m.fans.length : Nat) : Int)) = true := by first | (simpa using hlt; done) | (simp only [decide_eq_true_eq]; omega)
   have hv_0 := wrap_succ hlt mf
   have hg1 := HI.out s1 hp hi1
   have HI1 := J1 hi1
   have HFO1 := J1 hfo1
   have HLT0 := J1 hlt
   clear hi1 hfo1 hlt
   repeat' (first | refine goS ?_ | (refine go2 ?_ ?_ <;> intro hh) | fail)
   refine W.loopV (nn) [0, 1, 3, 14, 15, 19] [] (fun j e1 lm1 hp1 => ∃ s2, e1.get 20 = some (.int .i64 ↑j) /\ I s2 hp1 /\ foldS step (hourP (fanP nn k) (fun j => .fan k j) j) s = (s2, true)) ?_ ?_
   ·skip
    refine ⟨s1, ?_, HI1.out, HFO1.out⟩
    simp [go_sem, *]
   intro j e1 lm1 hp1 hk1 hce hcl hinv
   simp only [keepE, and_true] at hce
   obtain ⟨c0, c1, c3, c14, c15, c19⟩ := hce
   simp only [go_sem, *, Nat.reduceBEq, Nat.reduceEqDiff, reduceIte] at c0 c1 c3 c14 c15 c19
   clear hcl
   obtain ⟨s2, h20, hi2, hfo2⟩ := hinv
   by_cases hjt : j < nn
   ·have hd1 : decide ((j : Int) < ((nn : Nat) : Int)) = true := by first | (simpa using hjt; done) | (simp only [decide_eq_true_eq]; omega)
    have hv_1 := wrap_succ hjt (by have := HN2.out; unfold maxL; omega)
    have hpre := fail_fan (n := nn) (fans := m.fans.length) (rooms := m.rooms.length) HLT0.out (j := j + 1) (by omega)
    have h2 := HRD.out (.fan k j) s2 hp1 (hourP (fanP nn k) (fun j => .fan k j) j) hpre hfo2 hi2
    have hg2 := HI.out s2 hp1 hi2
    unfold RdR at h2
    obtain ⟨r, hyl, h3, rfl, i1, i2⟩ := h2
    simp only [Fl.enc] at hyl
    obtain ⟨s3, b, hsb⟩ : ∃ s3 b, step (.fan k j) s2 = (s3, b) := ⟨_, _, rfl⟩
    rw [hsb] at hyl i1 i2
    have hfn : foldS step (hourP (fanP nn k) (fun j => .fan k j) (j + 1)) s = (s3, b) := by rw [hourP, foldS_one hfo2, hsb]
    have HFN := J1 hfn
    have HPRE := J1 hpre
    have HLT1 := J1 hjt
    clear hi2 hfo2 hsb hfn hpre hjt
    cases b with
    | false =>
     have hfin := foldS_pre HPRE.out HFN.out
     rw [hfin]
     have HD := J1 (i2 rfl)
     clear i1 i2 hfin
     repeat' (first | (apply WO1.round; exact Z1; exact Z1; (focus (exact hyl)); simp only [pM, pN, rR, rP]) | refine go1 ?_ | (refine go2 ?_ ?_ <;> intro hh) | fail)
     all_goals (simp only [resV_def (X := dX c) Tryz.func150, Tryz.results150]; first | exact J5 | refine J6 ?_)
     exact ⟨_, rfl, (fun e => by cases e), fun _ => HD.out⟩
    | true =>
     have HI2 := J1 (i1 rfl)
     clear i1 i2
     repeat' (first | (apply WO1.round; exact Z1; exact Z1; (focus (exact hyl)); simp only [pM, pN, rR, rP]) | refine go1 ?_ | (refine go2 ?_ ?_ <;> intro hh) | fail)
     all_goals refine contV_mk (by first | assumption | exact HLT1.out) J7 J8 ?_
     all_goals refine ⟨s3, ?_, HI2.out, HFN.out⟩
     all_goals first | exact Z2 | skip
   ·have hd1 : decide ((j : Int) < ((nn : Nat) : Int)) = false := by first | (simpa using hjt; done) | (simp only [decide_eq_false_iff_not]; omega)
    obtain rfl : j = nn := by omega
    have HI2 := J1 hi2
    have HFO2 := J1 hfo2
    clear hi2 hfo2
    repeat' (first | refine goS ?_ | (refine go2 ?_ ?_ <;> intro hh) | fail)
    all_goals refine contV_mk (by first | assumption | exact HLT1.out) J7 J8 ?_
    all_goals refine ⟨s2, ?_, HI2.out, ?_⟩
    all_goals first | exact Z2 | skip
    exact HFO2.out
  ·have hd0 : decide ((k : Int) < ((m.fans.length : Nat) : Int)) = false := by first | (simpa using hlt; done) | (simp only [decide_eq_false_iff_not]; omega)
   obtain rfl : k = m.fans.length := by omega
   have hg1 := HI.out s1 hp hi1
   have HI1 := J1 hi1
   have HFO1 := J1 hfo1
   clear hi1 hfo1
   repeat' (first | refine goS ?_ | (refine go2 ?_ ?_ <;> intro hh) | fail)
   refine W.loopV (m.rooms.length) [0, 1, 34] [] (fun j e1 lm1 hp1 => ∃ s1, e1.get 35 = some (.int .i64 ↑j) /\ I s1 hp1 /\ foldS step (machP nn (fanP nn m.fans.length) j) s = (s1, true)) ?_ ?_
   ·skip
    refine ⟨s1, ?_, HI1.out, HFO1.out⟩
    simp [go_sem, *]
   intro j e1 lm1 hp1 hk1 hce hcl hinv
   simp only [keepE, and_true] at hce
   obtain ⟨c0, c1, c34⟩ := hce
   simp only [go_sem, *, Nat.reduceBEq, Nat.reduceEqDiff, reduceIte] at c0 c1 c34
   clear hcl
   obtain ⟨s1, h35, hi1, hfo1⟩ := hinv
   by_cases hjt : j < m.rooms.length
   ·have hd1 : decide ((j : Int) < ((m.rooms.length : Nat) : Int)) = true := by first | (simpa using hjt; done) | (simp only [decide_eq_true_eq]; omega)
    have hv_1 := wrap_succ hjt mr
    have hg1 := HI.out s1 hp1 hi1
    have HI1 := J1 hi1
    have HFO1 := J1 hfo1
    have HLT1 := J1 hjt
    clear hi1 hfo1 hjt
    repeat' (first | refine goS ?_ | (refine go2 ?_ ?_ <;> intro hh) | fail)
    refine W.loopV (nn) [0, 1, 5, 34, 35, 39] [] (fun i e2 lm2 hp2 => ∃ s2, e2.get 40 = some (.int .i64 ↑i) /\ I s2 hp2 /\ foldS step (hourP (machP nn (fanP nn m.fans.length) j) (fun i => .mach j i) i) s = (s2, true)) ?_ ?_
    ·skip
     refine ⟨s1, ?_, HI1.out, HFO1.out⟩
     simp [go_sem, *]
    intro i e2 lm2 hp2 hk2 hce hcl hinv
    simp only [keepE, and_true] at hce
    obtain ⟨c0, c1, c5, c34, c35, c39⟩ := hce
    simp only [go_sem, *, Nat.reduceBEq, Nat.reduceEqDiff, reduceIte] at c0 c1 c5 c34 c35 c39
    clear hcl
    obtain ⟨s2, h40, hi2, hfo2⟩ := hinv
    by_cases hit : i < nn
    ·have hd2 : decide ((i : Int) < ((nn : Nat) : Int)) = true := by first | (simpa using hit; done) | (simp only [decide_eq_true_eq]; omega)
     have hv_2 := wrap_succ hit (by have := HN2.out; unfold maxL; omega)
     have hpre := fail_mach (n := nn) (fans := m.fans.length) (rooms := m.rooms.length) HLT1.out (j := i + 1) (by omega)
     have h2 := HRD.out (.mach j i) s2 hp2 (hourP (machP nn (fanP nn m.fans.length) j) (fun i => .mach j i) i) hpre hfo2 hi2
     have hg2 := HI.out s2 hp2 hi2
     unfold RdR at h2
     obtain ⟨r, hyl, h3, rfl, i1, i2⟩ := h2
     simp only [Fl.enc] at hyl
     obtain ⟨s3, b, hsb⟩ : ∃ s3 b, step (.mach j i) s2 = (s3, b) := ⟨_, _, rfl⟩
     rw [hsb] at hyl i1 i2
     have hfn : foldS step (hourP (machP nn (fanP nn m.fans.length) j) (fun i => .mach j i) (i + 1)) s = (s3, b) := by rw [hourP, foldS_one hfo2, hsb]
     have HFN := J1 hfn
     have HPRE := J1 hpre
     have HLT2 := J1 hit
     clear hi2 hfo2 hsb hfn hpre hit
     cases b with
     | false =>
      have hfin := foldS_pre HPRE.out HFN.out
      rw [hfin]
      have HD := J1 (i2 rfl)
      clear i1 i2 hfin
      repeat' (first | (apply WO1.round; exact Z1; exact Z1; (focus (exact hyl)); simp only [pM, pN, rR, rP]) | refine go1 ?_ | (refine go2 ?_ ?_ <;> intro hh) | fail)
      all_goals (simp only [resV_def (X := dX c) Tryz.func150, Tryz.results150]; first | exact J5 | refine J6 ?_)
      exact ⟨_, rfl, (fun e => by cases e), fun _ => HD.out⟩
     | true =>
      have HI2 := J1 (i1 rfl)
      clear i1 i2
      repeat' (first | (apply WO1.round; exact Z1; exact Z1; (focus (exact hyl)); simp only [pM, pN, rR, rP]) | refine go1 ?_ | (refine go2 ?_ ?_ <;> intro hh) | fail)
      all_goals refine contV_mk (by first | assumption | exact HLT2.out) J7 J8 ?_
      all_goals refine ⟨s3, ?_, HI2.out, HFN.out⟩
      all_goals first | exact Z2 | skip
    ·have hd2 : decide ((i : Int) < ((nn : Nat) : Int)) = false := by first | (simpa using hit; done) | (simp only [decide_eq_false_iff_not]; omega)
     obtain rfl : i = nn := by omega
     have HI2 := J1 hi2
     have HFO2 := J1 hfo2
     clear hi2 hfo2
     repeat' (first | refine goS ?_ | (refine go2 ?_ ?_ <;> intro hh) | fail)
     all_goals refine contV_mk (by first | assumption | exact HLT2.out) J7 J8 ?_
     all_goals refine ⟨s2, ?_, HI2.out, ?_⟩
     all_goals first | exact Z2 | skip
     exact HFO2.out
   ·have hd1 : decide ((j : Int) < ((m.rooms.length : Nat) : Int)) = false := by first | (simpa using hjt; done) | (simp only [decide_eq_false_iff_not]; omega)
    obtain rfl : j = m.rooms.length := by omega
    have hfin : foldS step (failP nn m.fans.length m.rooms.length) s = (s1, true) := hfo1
    rw [hfin]
    have HI1 := J1 hi1
    clear hi1 hfo1 hfin
    repeat' (first | refine goS ?_ | (refine go2 ?_ ?_ <;> intro hh) | fail)
    simp only [eN]
    all_goals (simp only [resV_def (X := dX c) Tryz.func150, Tryz.results150]; first | exact J5 | refine J6 ?_)
    exact ⟨_, rfl, (fun _ => HI1.out), fun e => by cases e⟩
end Go.AM
namespace Go.AM
open Go
variable [Keep]
theorem HExt.pair {h h' : Heap} (x : HExt h h') : h.next <= h'.next /\ ∀ id, id < h.next -> h'.get id = h.get id := x
def InR (h : Heap) (v e : AV) (sz : Nat) (l : List AV) : Prop := (e = .nilslice /\ l = []) \/ ∃ id, e = .row id 0 l.length /\ h.get id = some (.rw sz l) /\ id < h.next /\ l ≠ [] /\ ∀ off n, v ≠ .row id off n
def Blt2 (h : Heap) (v : AV) (sz : Nat) (ls : List (List AV)) : Prop := ∃ el, Blt h v 1 el /\ el.length = ls.length /\ ∀ i, i < el.length -> InR h v (el.getD i .junk) sz (ls.getD i [])
section
variable {h h' : Heap} {v v' e : AV} {sz : Nat} {l : List AV} {ls : List (List AV)}
theorem InR.cells (q : InR h v e sz l) : e.cells = [e] := by rcases q with ⟨rfl, _⟩ | ⟨id, rfl, _⟩ <;> rfl
theorem InR.keep (q : InR h v e sz l) (x : HExt h h') : InR h' v e sz l := by
 rcases q with q | ⟨id, h1, h2, h3, h4, h5⟩
 ·exact .inl q
 ·exact .inr ⟨id, h1, (x.2 id h3).trans h2, Nat.lt_of_lt_of_le h3 x.1, h4, h5⟩
theorem Blt.ext (q : Blt h v sz l) (x : HExt h h') : Blt h' v sz l := by
 rcases q with q | ⟨id, h1, h2, h3, h4⟩
 ·exact .inl q
 ·exact .inr ⟨id, h1, (x.2 id h3).trans h2, Nat.lt_of_lt_of_le h3 x.1, h4⟩
theorem Blt2.nil : Blt2 h .nilslice sz [] := ⟨[], .nil, rfl, fun i hi => by simp at hi⟩
theorem Blt2.keep (q : Blt2 h v sz ls) (x : HExt h h') : Blt2 h' v sz ls := by
 obtain ⟨el, b, hl, hi⟩ := q
 exact ⟨el, b.ext x, hl, fun i hh => (hi i hh).keep x⟩
theorem Blt2.out (q : Blt2 h v sz ls) : outV (some v) = some v := by obtain ⟨el, b, _⟩ := q; exact b.out
theorem Blt2.len (q : Blt2 h v sz ls) : lenS v = some ls.length := by obtain ⟨el, b, hl, _⟩ := q; rw [b.len, hl]
theorem InR.of {b : Nat} {h0 : Heap} (q : BltN b h e sz l) (hv : ∀ id off n, v = .row id off n -> id < b) : InR h v e sz l := by
 rcases q with q | ⟨id, h1, h2, h3, h4, h5⟩
 ·exact .inl q
 ·exact .inr ⟨id, h1, h2, h4, h5, fun off n ev => by have := hv id off n ev; omega⟩
theorem Blt2.below (q : Blt2 h v sz ls) : ∀ id off n, v = .row id off n -> id < h.next := by
 obtain ⟨el, b, _⟩ := q
 intro id off n e
 rcases b with ⟨rfl, _⟩ | ⟨j, rfl, _, hj, _⟩
 ·cases e
 ·cases e; exact hj
theorem Blt2.app {el : List AV} {n : Nat} (q : ∀ i, i < el.length -> InR h v (el.getD i .junk) sz (ls.getD i [])) (hl : el.length = ls.length) (k : Keeps h h' v) (b' : Blt h' v' 1 (el ++ [e])) (hv : v' = .row h.next 0 n) (i : InR h v e sz l) : Blt2 h' v' sz (ls ++ [l]) := by
 have key : ∀ {e : AV} {l : List AV}, InR h v e sz l -> InR h' v' e sz l := by
  intro e l q
  rcases q with q | ⟨id, h1, h2, h3, h4, h5⟩
  ·exact .inl q
  ·refine .inr ⟨id, h1, (k.2 id h3 h5).trans h2, Nat.lt_of_lt_of_le h3 k.1, h4, fun off n ev => ?_⟩
   rw [hv] at ev
   cases ev
   exact absurd h3 (Nat.lt_irrefl _)
 refine ⟨el ++ [e], b', by simp [hl], fun j hj => ?_⟩
 rw [List.length_append] at hj
 by_cases hlt : j < el.length
 ·have e1 : (el ++ [e]).getD j .junk = el.getD j .junk := by simp [List.getD, List.getElem?_append_left hlt]
  have e2 : (ls ++ [l]).getD j [] = ls.getD j [] := by simp [List.getD, List.getElem?_append_left (hl ▸ hlt)]
  rw [e1, e2]
  exact key (q j hlt)
 ·simp at hj
  have hje : j = el.length := by omega
  subst hje
  have e1 : (el ++ [e]).getD el.length .junk = e := by simp [List.getD]
  have e2 : (ls ++ [l]).getD el.length [] = l := by rw [hl]; simp [List.getD]
  rw [e1, e2]
  exact key i
theorem InR.frz (q : InR h v e sz l) (hs : ∀ e ∈ l, e.cells.length = sz) (hf : ∀ e ∈ l, ∀ x ∈ e.cells, x.flat = true /\ x.one = true) : Frz h e (slN l) := by
 rcases q with ⟨rfl, rfl⟩ | ⟨id, rfl, h1, h2, h3, h4⟩
 ·exact .flat rfl
 ·cases l with
  | nil => exact absurd rfl h3
  | cons a r => exact .flats h1 h3 hs hf
theorem Blt2.frz (q : Blt2 h v sz ls) (hs : ∀ l ∈ ls, ∀ e ∈ l, e.cells.length = sz) (hf : ∀ l ∈ ls, ∀ e ∈ l, ∀ x ∈ e.cells, x.flat = true /\ x.one = true) : Frz h v (slN (ls.map slN)) := by
 obtain ⟨el, b, hl, hi⟩ := q
 refine b.frz2D hl (fun i hlt => ?_) (fun e he => ?_)
 ·have hm : ls.getD i [] ∈ ls := by rw [List.getD, List.getElem?_eq_getElem (hl ▸ hlt)]; exact List.getElem_mem _
  exact (hi i hlt).frz (hs _ hm) (hf _ hm)
 ·obtain ⟨i, hlt, rfl⟩ := List.getElem_of_mem he
  have := hi i hlt
  rw [List.getD, List.getElem?_eq_getElem hlt] at this
  exact this.cells
end
end Go.AM
