/- Part of a proof that a law returns true for every input. No condition. -/
import Derived.Test.YtbemmmimelklkaaGreatUD3
namespace Go.f_
open Go Go.dk
theorem atK {l : Nat → Int → Option Int} {n : Nat} (p : Nat → Bool) (ot bad : Int) (a9 : ∀ m, l (m + 1) (n : Int) = some ot)
  (ah : ∀ i, i < n → ∀ m, l (m + 1) (i : Int) = cond (p i) (l m ((i + 1 : Nat) : Int)) (some bad)) : cV (fun m => l m 0) = some (cond (fI p n) ot bad) := by
 rw [sE (n := n) (fun i => some (cond ((List.range' i (n - i)).all p) ot bad))]
 ·simp [fI, List.range_eq_range']
 ·intro m; rw [a9]; simp
 ·intro i au m ih
  rw [ah i au, ih, show n - i = (n - (i + 1)) + 1 by omega, List.range'_succ]
  cases ax : p i <;> simp [ax]
def ya (p : bz) : Prop := p.Name.length ≤ 1048576 ∧ p.cq.length ≤ 1048576 ∧ ∀ e ∈ p.cq, e.length ≤ 1048576
def pM (p : bz) (dD : Int) : Bool := fI (fun i => sM (p.cq.getD i []) dD 15) p.cq.length
theorem atL (p : bz) (ax : ya p) (dD : Int) (h : 0 ≤ dD ∧ dD ≤ 29) : cV (fun n => qt p n dD 0) = some (cond (pM p dD) 0 8) := by
 refine atK (l := fun m i => qt p m dD i) _ _ _ (fun m => ?_) (fun i au m => ?_)
 ·simp only [qt, z4]
  rw [fH (Nat.le_refl _)]; rfl
 ·simp only [qt, z4]
  rw [gM au, lL _ i [] au, gL i _ au (by have := ax.2.1; omega)]
  simp only [cond_true, Option.bind_some]
  rw [atm _ dD 15 (by omega) (by
   have : p.cq.getD i [] = p.cq[i] := by simp [List.getD, au]
   rw [this]; exact ax.2.2 _ (List.getElem_mem au))]
  simp only [Option.bind_some]
  cases sM (p.cq.getD i []) dD 15 <;> rfl
theorem atM (p : bz) (ax : ya p) (pl : cn) (h : 0 ≤ pl.scope ∧ pl.scope ≤ 29) : AB p.cq pl = some (!(pM p pl.scope)) := by
 unfold AB EH
 rw [uW (n := p.cq.length) (fun i => !sM (p.cq.getD i []) pl.scope 15)]
 ·simp only [Option.bind_some, uV, Bool.not_not]; rfl
 ·intro m
  simp only [uw, AA]
  rw [fH (Nat.le_refl _)]; rfl
 ·intro i au m
  simp only [uw, AA]
  rw [gM au, lL _ i [] au, gL i _ au (by have := ax.2.1; omega)]
  simp only [cond_true, Option.bind_some, EG]
  rw [atn _ pl.scope 15 h (by omega) (by
   have : p.cq.getD i [] = p.cq[i] := by simp [List.getD, au]
   rw [this]; exact ax.2.2 _ (List.getElem_mem au))]
  simp only [Option.bind_some]
theorem MQ (s : List UInt8) (ah : s.length ≤ 1048576) : pz s = some (j6 s && !(s == ([116, 97, 117] : List UInt8))) := by
 unfold pz
 rw [Mz s (by omega)]; rfl
theorem atN {s : List UInt8} (h : (s == ([116, 97, 117] : List UInt8)) = true) : j6 s = true := by
 have : s = [116, 97, 117] := by simpa using h
 subst this; decide
theorem MR (n : Int) (l : Nat) (hl : l ≤ 1048576) : uv n (l : Int) = some (decide (0 ≤ n) && decide (n ≤ (l : Int) - 1)) := by
 unfold uv jc
 rw [fQ ((l : Int) - 1) (by omega)]; rfl
theorem atO (list : List bb) (hl : list.length ≤ 4) (d : bb) (at_ : Nat) (atP : at_ < d.Body.length) (ae : d.Body.length ≤ 20) (ax : ya d.Body[at_]) (pl : cn)
  (pX : uo d (at_ : Int) = some pl.scope) (MS : 0 ≤ pl.scope ∧ pl.scope ≤ 29)
  (qP : pl.behind = FV d.Body at_) :
  ∃ r, wO list d (at_ : Int) = some r ∧ w2 d.Body[at_] list pl = some r ∧ 0 ≤ r := by
 have atQ : ∀ p, ya p → p = d.Body[at_] → ∃ r, wO list d (at_ : Int) = some r ∧ w2 p list pl = some r ∧ 0 ≤ r := by
  intro p ax Cw
  have Ej := atL p ax pl.scope MS
  have y_ := atM p ax pl MS
  have FW := MQ p.Name ax.1
  have atS := FO p.Name
  have atT : rT d (at_ : Int) p = some (cond ((p.Kind == 5) && !pl.behind) 6 (cond ((p.Kind == 4) && decide (6 ≤ pl.scope)) 7 (cond (pM p pl.scope) 0 8))) := by
   have atU : ∀ v, uq d (at_ : Int) p v = some (cond v 6 (cond ((p.Kind == 4) && decide (6 ≤ pl.scope)) 7 (cond (pM p pl.scope) 0 8))) := by
    intro v
    unfold uq
    rw [pX]
    simp only [Option.bind_some, Ej]
    cases v <;> cases (p.Kind == 4 && decide (6 ≤ pl.scope)) <;> rfl
   unfold rT
   simp only [atU]
   cases at_ with
   | zero =>
     replace qP : pl.behind = false := qP
     rw [qP]
     simp only [Bool.not_false, Bool.and_true]
     cases p.Kind == 5 <;> rfl
   | succ q =>
     have dd : q < d.Body.length := by omega
     have gu : (((q + 1 : Nat) : Int) == 0) = false := by rw [beq_eq_false_iff_ne]; omega
     rw [gu, x8 (q + 1) (by omega) (by omega), show q + 1 - 1 = q from rfl, h2 _ q dd]
     replace qP : pl.behind = (match d.Body[q]? with | some p => p.Kind == 1 | none => false) := qP
     rw [List.getElem?_eq_getElem dd] at qP
     simp only [cond_false, Option.bind_some]
     simp only at qP
     rw [qP]
     have eg : (d.Body[q].Kind != 1) = !(d.Body[q].Kind == 1) := rfl
     rw [eg]
     cases p.Kind == 5 <;> cases d.Body[q].Kind == 1 <;> rfl
  have oL : bM d.Body (at_ : Int) = some p := by rw [h2 _ at_ atP, Cw]
  have B4 : ((p.cq.length : Int) == 0) = true → pM p pl.scope = true := by
   intro h
   have : p.cq.length = 0 := by simpa using h
   unfold pM; rw [this]; rfl
  unfold wO w2 ED Eu zX
  rw [oL]
  simp only [z5, rU, wZ, r5, Option.bind_some, atT, y_, FW, atS, jc, lH, MR _ _ (show list.length ≤ 1048576 by omega), EE]
  rw [fQ ((list.length : Int) - 1) (by omega)]
  obtain ⟨K, N, o7, i5⟩ := p
  simp only at *
  by_cases a9 : K = 0
  ·subst a9
   simp only [Int.reduceBEq, Int.reduceLE, decide_true, decide_false, Bool.false_and, Bool.true_and, Bool.and_true, Bool.false_or, Bool.or_false, cond_true, cond_false, Bool.and_self, Option.bind_some]
   cases N == 0
   ·exact ⟨2, rfl, rfl, by decide⟩
   ·cases o7 == []
    ·exact ⟨2, rfl, rfl, by decide⟩
    ·cases cw : ((i5.length : Int) == 0)
     ·exact ⟨2, rfl, rfl, by decide⟩
     ·simp only [Bool.and_true, Bool.not_true, Bool.not_false, cond_true, cond_false, B4 cw]
      exact ⟨0, rfl, rfl, by decide⟩
  ·by_cases ai : K = 1
   ·subst ai
    simp only [Int.reduceBEq, Int.reduceLE, decide_true, decide_false, Bool.false_and, Bool.true_and, Bool.and_true, Bool.false_or, Bool.or_false, Bool.true_or, cond_true, cond_false, Bool.and_self, Option.bind_some]
    cases N == 0
    ·exact ⟨2, rfl, rfl, by decide⟩
    ·simp only [Bool.not_true, cond_false]
     cases bh : (o7 == ([116, 97, 117] : List UInt8))
     ·simp only [Bool.not_false, Bool.and_true, cond_true]
      cases j6 o7
      ·exact ⟨3, rfl, rfl, by decide⟩
      ·simp only [Bool.not_true, cond_false, Bool.and_false, Bool.or_false, Bool.true_and]
       by_cases bg : i5.length ≤ 2
       ·have a4 : decide ((2 : Int) < (i5.length : Int)) = false := decide_eq_false (by omega)
        have a_ : decide ((i5.length : Int) ≤ 2) = true := decide_eq_true (by omega)
        rw [a4, a_, Bool.or_true]
        cases pM ⟨1, N, o7, i5⟩ pl.scope
        ·exact ⟨8, rfl, rfl, by decide⟩
        ·exact ⟨0, rfl, rfl, by decide⟩
       ·have a4 : decide ((2 : Int) < (i5.length : Int)) = true := decide_eq_true (by omega)
        have a_ : decide ((i5.length : Int) ≤ 2) = false := decide_eq_false (by omega)
        have a2 : ((i5.length : Int) == 0) = false := by rw [beq_eq_false_iff_ne]; omega
        rw [a4, a_, a2]
        exact ⟨5, rfl, rfl, by decide⟩
     ·rw [atN bh]
      simp only [Bool.not_true, cond_false, Bool.and_true, Bool.false_and, Bool.or_false]
      by_cases bg : i5.length = 0
      ·have a4 : decide ((2 : Int) < (i5.length : Int)) = false := decide_eq_false (by omega)
       have a_ : decide ((0 : Int) < (i5.length : Int)) = false := decide_eq_false (by omega)
       have a2 : ((i5.length : Int) == 0) = true := by rw [bg]; rfl
       rw [a4, a_, B4 a2, a2]
       exact ⟨0, rfl, rfl, by decide⟩
      ·have a_ : decide ((0 : Int) < (i5.length : Int)) = true := decide_eq_true (by omega)
       have a2 : ((i5.length : Int) == 0) = false := by rw [beq_eq_false_iff_ne]; omega
       rw [a_, a2, Bool.or_true]
       exact ⟨5, rfl, rfl, by decide⟩
   ·by_cases aj : K = 2
    ·subst aj
     simp only [Int.reduceBEq, Int.reduceLE, decide_true, decide_false, Bool.false_and, Bool.true_and, Bool.and_true, Bool.false_or, Bool.or_false, cond_true, cond_false, Bool.and_self, Option.bind_some]
     cases N == 0
     ·exact ⟨2, rfl, rfl, by decide⟩
     ·cases o7 == []
      ·exact ⟨2, rfl, rfl, by decide⟩
      ·cases cw : ((i5.length : Int) == 0)
       ·exact ⟨2, rfl, rfl, by decide⟩
       ·simp only [Bool.and_true, Bool.not_true, Bool.not_false, cond_true, cond_false, B4 cw]
        exact ⟨0, rfl, rfl, by decide⟩
    ·by_cases aQ : K = 3
     ·subst aQ
      simp only [Int.reduceBEq, Int.reduceLE, decide_true, decide_false, Bool.false_and, Bool.true_and, Bool.and_true, Bool.false_or, Bool.or_false, Bool.true_or, Bool.or_true, cond_true, cond_false, Bool.and_self, Option.bind_some]
      cases N == 0
      ·exact ⟨2, rfl, rfl, by decide⟩
      ·cases o7 == []
       ·exact ⟨2, rfl, rfl, by decide⟩
       ·have eg : ((i5.length : Int) != 1) = !((i5.length : Int) == 1) := rfl
        rw [eg]
        cases ((i5.length : Int) == 1)
        ·exact ⟨5, rfl, rfl, by decide⟩
        ·cases pM ⟨3, N, o7, i5⟩ pl.scope
         ·exact ⟨8, rfl, rfl, by decide⟩
         ·exact ⟨0, rfl, rfl, by decide⟩
     ·by_cases bd : K = 4
      ·subst bd
       simp only [Int.reduceBEq, Int.reduceLE, decide_true, decide_false, Bool.false_and, Bool.true_and, Bool.and_true, Bool.false_or, Bool.or_false, Bool.true_or, Bool.or_true, cond_true, cond_false, Bool.and_self, Option.bind_some]
       cases o7 == []
       ·exact ⟨2, rfl, rfl, by decide⟩
       ·cases cw : ((i5.length : Int) == 0)
        ·exact ⟨2, rfl, rfl, by decide⟩
        ·rw [B4 cw]
         cases (decide (1 ≤ N) && decide (N ≤ 7))
         ·exact ⟨4, rfl, rfl, by decide⟩
         ·cases decide (6 ≤ pl.scope)
          ·exact ⟨0, rfl, rfl, by decide⟩
          ·exact ⟨7, rfl, rfl, by decide⟩
      ·by_cases b3 : K = 5
       ·subst b3
        simp only [Int.reduceBEq, Int.reduceLE, decide_true, decide_false, Bool.false_and, Bool.true_and, Bool.and_true, Bool.false_or, Bool.or_false, Bool.true_or, Bool.or_true, cond_true, cond_false, Bool.and_self, Option.bind_some]
        cases o7 == []
        ·exact ⟨2, rfl, rfl, by decide⟩
        ·cases au : (decide (0 ≤ N) && decide (N ≤ (list.length : Int) - 1))
         ·exact ⟨4, rfl, rfl, by decide⟩
         ·simp only [Bool.and_eq_true, decide_eq_true_eq] at au
          obtain ⟨i, rfl⟩ : ∃ i : Nat, N = i := ⟨N.toNat, by omega⟩
          rw [h2 list i (by omega)]
          simp only [Option.bind_some, Bool.not_true, cond_false]
          have eg : ((i5.length : Int) != list[i].dc) = !((i5.length : Int) == list[i].dc) := rfl
          rw [eg]
          cases ((i5.length : Int) == list[i].dc)
          ·exact ⟨5, rfl, rfl, by decide⟩
          ·cases pl.behind
           ·exact ⟨6, rfl, rfl, by decide⟩
           ·cases pM ⟨5, i, o7, i5⟩ pl.scope
            ·exact ⟨8, rfl, rfl, by decide⟩
            ·exact ⟨0, rfl, rfl, by decide⟩
       ·have gu : (K == 0) = false := by simpa using a9
        have a4 : (K == 1) = false := by simpa using ai
        have a_ : (K == 2) = false := by simpa using aj
        have a2 : (K == 3) = false := by simpa using aQ
        have c1 : (K == 4) = false := by simpa using bd
        have c9 : (K == 5) = false := by simpa using b3
        have cl : (decide (0 ≤ K) && decide (K ≤ 5)) = false := by
         rw [Bool.and_eq_false_iff, decide_eq_false_iff_not, decide_eq_false_iff_not]; omega
        simp only [gu, a4, a_, a2, c1, c9, cl, Bool.false_and, cond_false, Option.bind_some]
        exact ⟨2, rfl, rfl, by decide⟩
 exact atQ _ ax rfl
end Go.f_
