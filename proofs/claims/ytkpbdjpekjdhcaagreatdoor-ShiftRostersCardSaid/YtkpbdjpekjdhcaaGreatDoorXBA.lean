/-
  A part of the proof: contracts of functions.
-/
import Derived.Test.YtkpbdjpekjdhcaaGreatDoorXAZ
import Derived.Test.YtkpbdjpekjdhcaaGreatDoorXAW
set_option linter.unusedSectionVars false
set_option linter.unusedVariables false
set_option linter.unusedSimpArgs false
set_option maxRecDepth 100000
namespace Go.AM
open Go Go.Proofs
variable [Keep]
attribute [local irreducible] W WO WO1 WD WQ WT thenQ blockQ endR isRet retK Cl ClR
open Go.TX (Rm Fa Ha Hs mapO mapO_len)
attribute [local irreducible] houseB airS mostF leastF dustAt
section
variable {c : Itr}
set_option maxHeartbeats 4000000 in
theorem C71 (h71 : c 71 = none) (pa la : AV) (p : List Int) (g : List (List Int)) (h : Heap) (hp : pthV h pa = some p) (hg : lisV la = some g) (n : Int) (hn : brG g p p.length = some n) :
  Cl (dX c) 71 [la, pa] h (.ret (.int .i64 n) h none) := by
 refine ClR.cl ?_
 obtain ⟨hlen, hout, hmax, _, _⟩ := pth_parts hp
 have hout2 := lis_out hg
 have HP := J1 hp
 have HG := J1 hg
 have HN := J1 hn
 clear hp hg hn
 refine ClR.walk (c := _) h71 Tryz.func71 rfl (by kernel_rfl) rfl (fun e => by cases e) ?_
 try simp only [entryEnv, Nat.reduceAdd, List.nil_append, List.cons_append, emptyHp]
 repeat' (first | refine goS ?_ | (refine go2 ?_ ?_ <;> intro hh) | fail)
 refine W.loopH (p.length) [0, 1] [] (fun k e lm => ∃ s, e.get 6 = some (.int .i64 ↑k) /\ e.get 5 = some (.int .i64 s) /\ brG g p k = some s) ?_ ?_
 ·skip
  refine ⟨0, ?_, ?_, ?_⟩
  all_goals first | exact Z2 | (simp [go_sem, *]; done) | skip
  all_goals (unfold brG; rfl)
 intro k e lm hk0 hce hcl hinv
 simp only [keepE, and_true] at hce
 obtain ⟨c0, c1⟩ := hce
 simp only [go_sem, *, Nat.reduceBEq, Nat.reduceEqDiff, reduceIte] at c0 c1
 clear hcl
 obtain ⟨s, h6, h5, hs⟩ := hinv
 by_cases hlt : k < p.length
 ·have hd0 : decide ((k : Int) < ((p.length : Nat) : Int)) = true := by first | (simpa using hlt; done) | (simp only [decide_eq_true_eq]; omega)
  have hv_0 := wrap_succ hlt hmax
  obtain ⟨r, hr⟩ := get_some hlt
  have hread := pth_read HP.out hr
  obtain ⟨m', hm'⟩ := brG_down HN.out (j := k + 1) (by omega)
  have hstep := hm'
  simp only [brG, hs, hr] at hstep
  have HM := J1 hm'
  have HLT0 := J1 hlt
  clear hm' hs hlt
  by_cases h1' : r = -1
  ·have hb : decide (r >= 0) = false := by rw [h1']; rfl
   have hmm : s = m' := by
    have : (r == -1) = true := by simp [h1']
    rw [this] at hstep
    simpa using hstep
   subst hmm
   clear hstep hr h1'
   rcases hread with hix | ⟨id, i, el, hx1, hx2, hix⟩
   all_goals
    repeat' (first | refine goS ?_ | (refine go2 ?_ ?_ <;> intro hh) | fail)
    all_goals refine contH_mk J9 J7 J8 ?_
    all_goals refine ⟨s, ?_, ?_, HM.out⟩
    all_goals first | exact Z2 | skip
  ·have hb2 : (r == -1) = false := by simp [h1']
   rw [hb2] at hstep
   simp only [Bool.false_eq_true, if_false] at hstep
   cases hx : gridA g r k with
   | none => rw [hx] at hstep; cases hstep
   | some x =>
    rw [hx] at hstep
    have hmm : w64 (s + x) = m' := Option.some.inj hstep
    unfold gridA at hx
    split at hx
    ·rename_i h0
     split at hx
     ·rename_i row hrow
      obtain ⟨rn, rfl⟩ : ∃ rn : Nat, r = rn := ⟨r.toNat, by omega⟩
      have hrow' : g[rn]? = some row := by simpa using hrow
      obtain ⟨b, hb1, hb3⟩ := lis_idx HG.out hrow'
      have hix2 := ints_idx hb1 hx
      have hout3 := sl_out hb1
      have hmm' : IntKind.i64.wrap (s + x) = m' := hmm
      have hb : decide ((rn : Int) >= 0) = true := by simp
      clear hstep hr h1' hrow hrow' hb1 hx h0 hmm hb2
      rcases hread with hix | ⟨id, i, el, hx1, hx2, hix⟩
      all_goals
       repeat' (first | refine goS ?_ | (refine go2 ?_ ?_ <;> intro hh) | fail)
       all_goals refine contH_mk J9 J7 J8 ?_
       all_goals refine ⟨m', ?_, ?_, HM.out⟩
       all_goals first | exact Z2 | skip
     ·cases hx
    ·cases hx
 ·have hd0 : decide ((k : Int) < ((p.length : Nat) : Int)) = false := by first | (simpa using hlt; done) | (simp only [decide_eq_false_iff_not]; omega)
  obtain rfl : k = p.length := by omega
  have hsn : s = n := by have := HN.out; rw [hs] at this; exact Option.some.inj this
  subst hsn
  clear hs
  repeat' (first | refine goS ?_ | (refine go2 ?_ ?_ <;> intro hh) | fail)
  all_goals (simp only [resV_def (X := dX c) Tryz.func71, Tryz.results71]; first | exact J5 | refine J6 ?_)
  all_goals rfl
end
end Go.AM
