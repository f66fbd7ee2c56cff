/- Part of a proof that a law returns true for every input. No condition. -/
import Derived.Test.YtbemmmimelklkaaUD3
namespace Go.eJ
open Go Go.cB
theorem agd {l : Nat → Int → Option Int} {n : Nat} (p : Nat → Bool) (qW bad : Int) (bh : ∀ m, l (m + 1) (n : Int) = some qW)
  (aa : ∀ i, i < n → ∀ m, l (m + 1) (i : Int) = cond (p i) (l m ((i + 1 : Nat) : Int)) (some bad)) : lim (fun m => l m 0) = some (cond (gP p n) qW bad) := by
 rw [o8 (n := n) (fun i => some (cond ((List.range' i (n - i)).all p) qW bad))]
 ·simp [gP, List.range_eq_range']
 ·intro m; rw [bh]; simp
 ·intro i ak m ih
  rw [aa i ak, ih, show n - i = (n - (i + 1)) + 1 by omega, List.range'_succ]
  cases an : p i <;> simp [an]
def vF (p : bn) : Prop := p.Name.length ≤ 1048576 ∧ p.b4.length ≤ 1048576 ∧ ∀ e ∈ p.b4, e.length ≤ 1048576
def oa (p : bn) (c2 : Int) : Bool := gP (fun i => qU (p.b4.getD i []) c2 15) p.b4.length
theorem age (p : bn) (an : vF p) (c2 : Int) (h : 0 ≤ c2 ∧ c2 ≤ 29) : lim (fun n => o0 p n c2 0) = some (cond (oa p c2) 0 8) := by
 refine agd (l := fun m i => o0 p m c2 i) _ _ _ (fun m => ?_) (fun i ak m => ?_)
 ·simp only [o0, xw]
  rw [fQ (Nat.le_refl _)]; rfl
 ·simp only [o0, xw]
  rw [gA ak, Cv _ i [] ak, gz i _ ak (by have := an.2.1; omega)]
  simp only [cond_true, Option.bind_some]
  rw [afQ _ c2 15 (by omega) (by
   have : p.b4.getD i [] = p.b4[i] := by simp [List.getD, ak]
   rw [this]; exact an.2.2 _ (List.getElem_mem ak))]
  simp only [Option.bind_some]
  cases qU (p.b4.getD i []) c2 15 <;> rfl
theorem agf (p : bn) (an : vF p) (pl : b0) (h : 0 ≤ pl.scope ∧ pl.scope ≤ 29) : x0 p.b4 pl = some (!(oa p pl.scope)) := by
 unfold x0 BN
 rw [CB (n := p.b4.length) (fun i => !qU (p.b4.getD i []) pl.scope 15)]
 ·simp only [Option.bind_some, CA, Bool.not_not]; rfl
 ·intro m
  simp only [sm, xZ]
  rw [fQ (Nat.le_refl _)]; rfl
 ·intro i ak m
  simp only [sm, xZ]
  rw [gA ak, Cv _ i [] ak, gz i _ ak (by have := an.2.1; omega)]
  simp only [cond_true, Option.bind_some, BM]
  rw [afR _ pl.scope 15 h (by omega) (by
   have : p.b4.getD i [] = p.b4[i] := by simp [List.getD, ak]
   rw [this]; exact an.2.2 _ (List.getElem_mem ak))]
  simp only [Option.bind_some]
theorem agh (s : List UInt8) (aa : s.length ≤ 1048576) : xV s = some (jb s && !(s == ([116, 97, 117] : List UInt8))) := by
 unfold xV
 rw [IH s (by omega)]; rfl
theorem agi {s : List UInt8} (h : (s == ([116, 97, 117] : List UInt8)) = true) : jb s = true := by
 have : s = [116, 97, 117] := by simpa using h
 subst this; decide
theorem CJ (n : Int) (l : Nat) (hl : l ≤ 1048576) : qp n (l : Int) = some (decide (0 ≤ n) && decide (n ≤ (l : Int) - 1)) := by
 unfold qp iS
 rw [gh ((l : Int) - 1) (by omega)]; rfl
theorem agj (list : List aV) (hl : list.length ≤ 4) (d : aV) (at_ : Nat) (agk : at_ < d.Body.length) (U : d.Body.length ≤ 20) (an : vF d.Body[at_]) (pl : b0)
  (om : sc d (at_ : Int) = some pl.scope) (I3 : 0 ≤ pl.scope ∧ pl.scope ≤ 29)
  (pb : pl.behind = CI d.Body at_) :
  ∃ r, uq list d (at_ : Int) = some r ∧ uD d.Body[at_] list pl = some r ∧ 0 ≤ r := by
 have agl : ∀ p, vF p → p = d.Body[at_] → ∃ r, uq list d (at_ : Int) = some r ∧ uD p list pl = some r ∧ 0 ≤ r := by
  intro p an zp
  have Bo := age p an pl.scope I3
  have wQ := agf p an pl I3
  have agm := agh p.Name an.1
  have agn := IG p.Name
  have ago : qj d (at_ : Int) p = some (cond ((p.Kind == 5) && !pl.behind) 6 (cond ((p.Kind == 4) && decide (6 ≤ pl.scope)) 7 (cond (oa p pl.scope) 0 8))) := by
   have agp : ∀ v, sd d (at_ : Int) p v = some (cond v 6 (cond ((p.Kind == 4) && decide (6 ≤ pl.scope)) 7 (cond (oa p pl.scope) 0 8))) := by
    intro v
    unfold sd
    rw [om]
    simp only [Option.bind_some, Bo]
    cases v <;> cases (p.Kind == 4 && decide (6 ≤ pl.scope)) <;> rfl
   unfold qj
   simp only [agp]
   cases at_ with
   | zero =>
     replace pb : pl.behind = false := pb
     rw [pb]
     simp only [Bool.not_false, Bool.and_true]
     cases p.Kind == 5 <;> rfl
   | succ q =>
     have cC : q < d.Body.length := by omega
     have fC : (((q + 1 : Nat) : Int) == 0) = false := by rw [beq_eq_false_iff_ne]; omega
     rw [fC, Iv (q + 1) (by omega) (by omega), show q + 1 - 1 = q from rfl, fa _ q cC]
     replace pb : pl.behind = (match d.Body[q]? with | some p => p.Kind == 1 | none => false) := pb
     rw [List.getElem?_eq_getElem cC] at pb
     simp only [cond_false, Option.bind_some]
     simp only at pb
     rw [pb]
     have cV : (d.Body[q].Kind != 1) = !(d.Body[q].Kind == 1) := rfl
     rw [cV]
     cases p.Kind == 5 <;> cases d.Body[q].Kind == 1 <;> rfl
  have nk : b5 d.Body (at_ : Int) = some p := by rw [fa _ at_ agk, zp]
  have yY : ((p.b4.length : Int) == 0) = true → oa p pl.scope = true := by
   intro h
   have : p.b4.length = 0 := by simpa using h
   unfold oa; rw [this]; rfl
  unfold uq uD BI Bz xo
  rw [nk]
  simp only [xx, qk, uB, qs, Option.bind_some, ago, wQ, agm, agn, iS, kT, CJ _ _ (show list.length ≤ 1048576 by omega), BJ]
  rw [gh ((list.length : Int) - 1) (by omega)]
  obtain ⟨K, N, nz, hR⟩ := p
  simp only at *
  by_cases bh : K = 0
  ·subst bh
   simp only [Int.reduceBEq, Int.reduceLE, decide_true, decide_false, Bool.false_and, Bool.true_and, Bool.and_true, Bool.false_or, Bool.or_false, cond_true, cond_false, Bool.and_self, Option.bind_some]
   cases N == 0
   ·exact ⟨2, rfl, rfl, by decide⟩
   ·cases nz == []
    ·exact ⟨2, rfl, rfl, by decide⟩
    ·cases b7 : ((hR.length : Int) == 0)
     ·exact ⟨2, rfl, rfl, by decide⟩
     ·simp only [Bool.and_true, Bool.not_true, Bool.not_false, cond_true, cond_false, yY b7]
      exact ⟨0, rfl, rfl, by decide⟩
  ·by_cases ab : K = 1
   ·subst ab
    simp only [Int.reduceBEq, Int.reduceLE, decide_true, decide_false, Bool.false_and, Bool.true_and, Bool.and_true, Bool.false_or, Bool.or_false, Bool.true_or, cond_true, cond_false, Bool.and_self, Option.bind_some]
    cases N == 0
    ·exact ⟨2, rfl, rfl, by decide⟩
    ·simp only [Bool.not_true, cond_false]
     cases aZ : (nz == ([116, 97, 117] : List UInt8))
     ·simp only [Bool.not_false, Bool.and_true, cond_true]
      cases jb nz
      ·exact ⟨3, rfl, rfl, by decide⟩
      ·simp only [Bool.not_true, cond_false, Bool.and_false, Bool.or_false, Bool.true_and]
       by_cases bl : hR.length ≤ 2
       ·have aJ : decide ((2 : Int) < (hR.length : Int)) = false := decide_eq_false (by omega)
        have aP : decide ((hR.length : Int) ≤ 2) = true := decide_eq_true (by omega)
        rw [aJ, aP, Bool.or_true]
        cases oa ⟨1, N, nz, hR⟩ pl.scope
        ·exact ⟨8, rfl, rfl, by decide⟩
        ·exact ⟨0, rfl, rfl, by decide⟩
       ·have aJ : decide ((2 : Int) < (hR.length : Int)) = true := decide_eq_true (by omega)
        have aP : decide ((hR.length : Int) ≤ 2) = false := decide_eq_false (by omega)
        have a_ : ((hR.length : Int) == 0) = false := by rw [beq_eq_false_iff_ne]; omega
        rw [aJ, aP, a_]
        exact ⟨5, rfl, rfl, by decide⟩
     ·rw [agi aZ]
      simp only [Bool.not_true, cond_false, Bool.and_true, Bool.false_and, Bool.or_false]
      by_cases bl : hR.length = 0
      ·have aJ : decide ((2 : Int) < (hR.length : Int)) = false := decide_eq_false (by omega)
       have aP : decide ((0 : Int) < (hR.length : Int)) = false := decide_eq_false (by omega)
       have a_ : ((hR.length : Int) == 0) = true := by rw [bl]; rfl
       rw [aJ, aP, yY a_, a_]
       exact ⟨0, rfl, rfl, by decide⟩
      ·have aP : decide ((0 : Int) < (hR.length : Int)) = true := decide_eq_true (by omega)
       have a_ : ((hR.length : Int) == 0) = false := by rw [beq_eq_false_iff_ne]; omega
       rw [aP, a_, Bool.or_true]
       exact ⟨5, rfl, rfl, by decide⟩
   ·by_cases af : K = 2
    ·subst af
     simp only [Int.reduceBEq, Int.reduceLE, decide_true, decide_false, Bool.false_and, Bool.true_and, Bool.and_true, Bool.false_or, Bool.or_false, cond_true, cond_false, Bool.and_self, Option.bind_some]
     cases N == 0
     ·exact ⟨2, rfl, rfl, by decide⟩
     ·cases nz == []
      ·exact ⟨2, rfl, rfl, by decide⟩
      ·cases b7 : ((hR.length : Int) == 0)
       ·exact ⟨2, rfl, rfl, by decide⟩
       ·simp only [Bool.and_true, Bool.not_true, Bool.not_false, cond_true, cond_false, yY b7]
        exact ⟨0, rfl, rfl, by decide⟩
    ·by_cases aF : K = 3
     ·subst aF
      simp only [Int.reduceBEq, Int.reduceLE, decide_true, decide_false, Bool.false_and, Bool.true_and, Bool.and_true, Bool.false_or, Bool.or_false, Bool.true_or, Bool.or_true, cond_true, cond_false, Bool.and_self, Option.bind_some]
      cases N == 0
      ·exact ⟨2, rfl, rfl, by decide⟩
      ·cases nz == []
       ·exact ⟨2, rfl, rfl, by decide⟩
       ·have cV : ((hR.length : Int) != 1) = !((hR.length : Int) == 1) := rfl
        rw [cV]
        cases ((hR.length : Int) == 1)
        ·exact ⟨5, rfl, rfl, by decide⟩
        ·cases oa ⟨3, N, nz, hR⟩ pl.scope
         ·exact ⟨8, rfl, rfl, by decide⟩
         ·exact ⟨0, rfl, rfl, by decide⟩
     ·by_cases bb : K = 4
      ·subst bb
       simp only [Int.reduceBEq, Int.reduceLE, decide_true, decide_false, Bool.false_and, Bool.true_and, Bool.and_true, Bool.false_or, Bool.or_false, Bool.true_or, Bool.or_true, cond_true, cond_false, Bool.and_self, Option.bind_some]
       cases nz == []
       ·exact ⟨2, rfl, rfl, by decide⟩
       ·cases b7 : ((hR.length : Int) == 0)
        ·exact ⟨2, rfl, rfl, by decide⟩
        ·rw [yY b7]
         cases (decide (1 ≤ N) && decide (N ≤ 7))
         ·exact ⟨4, rfl, rfl, by decide⟩
         ·cases decide (6 ≤ pl.scope)
          ·exact ⟨0, rfl, rfl, by decide⟩
          ·exact ⟨7, rfl, rfl, by decide⟩
      ·by_cases bV : K = 5
       ·subst bV
        simp only [Int.reduceBEq, Int.reduceLE, decide_true, decide_false, Bool.false_and, Bool.true_and, Bool.and_true, Bool.false_or, Bool.or_false, Bool.true_or, Bool.or_true, cond_true, cond_false, Bool.and_self, Option.bind_some]
        cases nz == []
        ·exact ⟨2, rfl, rfl, by decide⟩
        ·cases ak : (decide (0 ≤ N) && decide (N ≤ (list.length : Int) - 1))
         ·exact ⟨4, rfl, rfl, by decide⟩
         ·simp only [Bool.and_eq_true, decide_eq_true_eq] at ak
          obtain ⟨i, rfl⟩ : ∃ i : Nat, N = i := ⟨N.toNat, by omega⟩
          rw [fa list i (by omega)]
          simp only [Option.bind_some, Bool.not_true, cond_false]
          have cV : ((hR.length : Int) != list[i].cS) = !((hR.length : Int) == list[i].cS) := rfl
          rw [cV]
          cases ((hR.length : Int) == list[i].cS)
          ·exact ⟨5, rfl, rfl, by decide⟩
          ·cases pl.behind
           ·exact ⟨6, rfl, rfl, by decide⟩
           ·cases oa ⟨5, i, nz, hR⟩ pl.scope
            ·exact ⟨8, rfl, rfl, by decide⟩
            ·exact ⟨0, rfl, rfl, by decide⟩
       ·have fC : (K == 0) = false := by simpa using bh
        have aJ : (K == 1) = false := by simpa using ab
        have aP : (K == 2) = false := by simpa using af
        have a_ : (K == 3) = false := by simpa using aF
        have cD : (K == 4) = false := by simpa using bb
        have c4 : (K == 5) = false := by simpa using bV
        have b8 : (decide (0 ≤ K) && decide (K ≤ 5)) = false := by
         rw [Bool.and_eq_false_iff, decide_eq_false_iff_not, decide_eq_false_iff_not]; omega
        simp only [fC, aJ, aP, a_, cD, c4, b8, Bool.false_and, cond_false, Option.bind_some]
        exact ⟨2, rfl, rfl, by decide⟩
 exact agl _ an rfl
end Go.eJ
