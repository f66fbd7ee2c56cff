/- Part of a proof that a law returns true for every input. No condition. -/
import Derived.Test.YtgpmnlkgmadglaaGreatDoorUD3
namespace Go.eR
open Go Go.cY
theorem axp {l : Nat → Int → Option Int} {n : Nat} (p : Nat → Bool) (lM bad : Int) (bn : ∀ m, l (m + 1) (n : Int) = some lM)
  (ab : ∀ i, i < n → ∀ m, l (m + 1) (i : Int) = cond (p i) (l m ((i + 1 : Nat) : Int)) (some bad)) : c2 (fun m => l m 0) = some (cond (ik p n) lM bad) := by
 rw [rL (n := n) (fun i => some (cond ((List.range' i (n - i)).all p) lM bad))]
 ·simp [ik, List.range_eq_range']
 ·intro m; rw [bn]; simp
 ·intro i an m ih
  rw [ab i an, ih, show n - i = (n - (i + 1)) + 1 by omega, List.range'_succ]
  cases aw : p i <;> simp [aw]
def vf (p : bs) : Prop := p.Name.length ≤ 1048576 ∧ p.bN.length ≤ 1048576 ∧ ∀ e ∈ p.bN, e.length ≤ 1048576
def qW (p : bs) (dh : Int) : Bool := ik (fun i => mY (p.bN.getD i []) dh 15) p.bN.length
theorem QV (p : bs) (aw : vf p) (dh : Int) (h : 0 ≤ dh ∧ dh ≤ 29) : c2 (fun n => ru p n dh 0) = some (cond (qW p dh) 0 8) := by
 refine axp (l := fun m i => ru p m dh i) _ _ _ (fun m => ?_) (fun i an m => ?_)
 ·simp only [ru, Cw]
  rw [gI (Nat.le_refl _)]; rfl
 ·simp only [ru, Cw]
  rw [hx an, Av _ i [] an, hg i _ an (by have := aw.2.1; omega)]
  simp only [cond_true, Option.bind_some]
  rw [aw6 _ dh 15 (by omega) (by
   have : p.bN.getD i [] = p.bN[i] := by simp [List.getD, an]
   rw [this]; exact aw.2.2 _ (List.getElem_mem an))]
  simp only [Option.bind_some]
  cases mY (p.bN.getD i []) dh 15 <;> rfl
theorem axq (p : bs) (aw : vf p) (pl : cn) (h : 0 ≤ pl.scope ∧ pl.scope ≤ 29) : C8 p.bN pl = some (!(qW p pl.scope)) := by
 unfold C8 HG
 rw [AF (n := p.bN.length) (fun i => !mY (p.bN.getD i []) pl.scope 15)]
 ·simp only [Option.bind_some, AE, Bool.not_not]; rfl
 ·intro m
  simp only [wW, C7]
  rw [gI (Nat.le_refl _)]; rfl
 ·intro i an m
  simp only [wW, C7]
  rw [hx an, Av _ i [] an, hg i _ an (by have := aw.2.1; omega)]
  simp only [cond_true, Option.bind_some, HF]
  rw [aw7 _ pl.scope 15 h (by omega) (by
   have : p.bN.getD i [] = p.bN[i] := by simp [List.getD, an]
   rw [this]; exact aw.2.2 _ (List.getElem_mem an))]
  simp only [Option.bind_some]
theorem QW (s : List UInt8) (ab : s.length ≤ 1048576) : zv s = some (iS s && !(s == ([116, 97, 117] : List UInt8))) := by
 unfold zv
 rw [QD s (by omega)]; rfl
theorem axr {s : List UInt8} (h : (s == ([116, 97, 117] : List UInt8)) = true) : iS s = true := by
 have : s = [116, 97, 117] := by simpa using h
 subst this; decide
theorem Jf (n : Int) (l : Nat) (hl : l ≤ 1048576) : uy n (l : Int) = some (decide (0 ≤ n) && decide (n ≤ (l : Int) - 1)) := by
 unfold uy j4
 rw [fW ((l : Int) - 1) (by omega)]; rfl
theorem QX (list : List aS) (hl : list.length ≤ 4) (d : aS) (at_ : Nat) (axs : at_ < d.Body.length) (aa : d.Body.length ≤ 20) (aw : vf d.Body[at_]) (pl : cn)
  (k3 : rr d (at_ : Int) = some pl.scope) (QY : 0 ≤ pl.scope ∧ pl.scope ≤ 29)
  (s7 : pl.behind = Je d.Body at_) :
  ∃ r, pK list d (at_ : Int) = some r ∧ zA d.Body[at_] list pl = some r ∧ 0 ≤ r := by
 have axt : ∀ p, vf p → p = d.Body[at_] → ∃ r, pK list d (at_ : Int) = some r ∧ zA p list pl = some r ∧ 0 ≤ r := by
  intro p aw Ff
  have G9 := QV p aw pl.scope QY
  have BC := axq p aw pl QY
  have axu := QW p.Name aw.1
  have axv := I9 p.Name
  have axw : rv d (at_ : Int) p = some (cond ((p.Kind == 5) && !pl.behind) 6 (cond ((p.Kind == 4) && decide (6 ≤ pl.scope)) 7 (cond (qW p pl.scope) 0 8))) := by
   have axx : ∀ v, pJ d (at_ : Int) p v = some (cond v 6 (cond ((p.Kind == 4) && decide (6 ≤ pl.scope)) 7 (cond (qW p pl.scope) 0 8))) := by
    intro v
    unfold pJ
    rw [k3]
    simp only [Option.bind_some, G9]
    cases v <;> cases (p.Kind == 4 && decide (6 ≤ pl.scope)) <;> rfl
   unfold rv
   simp only [axx]
   cases at_ with
   | zero =>
     replace s7 : pl.behind = false := s7
     rw [s7]
     simp only [Bool.not_false, Bool.and_true]
     cases p.Kind == 5 <;> rfl
   | succ q =>
     have cG : q < d.Body.length := by omega
     have gh : (((q + 1 : Nat) : Int) == 0) = false := by rw [beq_eq_false_iff_ne]; omega
     rw [gh, awr (q + 1) (by omega) (by omega), show q + 1 - 1 = q from rfl, fp _ q cG]
     replace s7 : pl.behind = (match d.Body[q]? with | some p => p.Kind == 1 | none => false) := s7
     rw [List.getElem?_eq_getElem cG] at s7
     simp only [cond_false, Option.bind_some]
     simp only at s7
     rw [s7]
     have dC : (d.Body[q].Kind != 1) = !(d.Body[q].Kind == 1) := rfl
     rw [dC]
     cases p.Kind == 5 <;> cases d.Body[q].Kind == 1 <;> rfl
  have qo : bP d.Body (at_ : Int) = some p := by rw [fp _ at_ axs, Ff]
  have Ex : ((p.bN.length : Int) == 0) = true → qW p pl.scope = true := by
   intro h
   have : p.bN.length = 0 := by simpa using h
   unfold qW; rw [this]; rfl
  unfold pK zA HD Hq Cp
  rw [qo]
  simp only [wO, qF, zy, uA, Option.bind_some, axw, BC, axu, axv, j4, lF, Jf _ _ (show list.length ≤ 1048576 by omega), HE]
  rw [fW ((list.length : Int) - 1) (by omega)]
  obtain ⟨K, N, Nm, jP⟩ := p
  simp only at *
  by_cases bn : K = 0
  ·subst bn
   simp only [Int.reduceBEq, Int.reduceLE, decide_true, decide_false, Bool.false_and, Bool.true_and, Bool.and_true, Bool.false_or, Bool.or_false, cond_true, cond_false, Bool.and_self, Option.bind_some]
   cases N == 0
   ·exact ⟨2, rfl, rfl, by decide⟩
   ·cases Nm == []
    ·exact ⟨2, rfl, rfl, by decide⟩
    ·cases bF : ((jP.length : Int) == 0)
     ·exact ⟨2, rfl, rfl, by decide⟩
     ·simp only [Bool.and_true, Bool.not_true, Bool.not_false, cond_true, cond_false, Ex bF]
      exact ⟨0, rfl, rfl, by decide⟩
  ·by_cases af : K = 1
   ·subst af
    simp only [Int.reduceBEq, Int.reduceLE, decide_true, decide_false, Bool.false_and, Bool.true_and, Bool.and_true, Bool.false_or, Bool.or_false, Bool.true_or, cond_true, cond_false, Bool.and_self, Option.bind_some]
    cases N == 0
    ·exact ⟨2, rfl, rfl, by decide⟩
    ·simp only [Bool.not_true, cond_false]
     cases a1 : (Nm == ([116, 97, 117] : List UInt8))
     ·simp only [Bool.not_false, Bool.and_true, cond_true]
      cases iS Nm
      ·exact ⟨3, rfl, rfl, by decide⟩
      ·simp only [Bool.not_true, cond_false, Bool.and_false, Bool.or_false, Bool.true_and]
       by_cases bc : jP.length ≤ 2
       ·have aN : decide ((2 : Int) < (jP.length : Int)) = false := decide_eq_false (by omega)
        have aZ : decide ((jP.length : Int) ≤ 2) = true := decide_eq_true (by omega)
        rw [aN, aZ, Bool.or_true]
        cases qW ⟨1, N, Nm, jP⟩ pl.scope
        ·exact ⟨8, rfl, rfl, by decide⟩
        ·exact ⟨0, rfl, rfl, by decide⟩
       ·have aN : decide ((2 : Int) < (jP.length : Int)) = true := decide_eq_true (by omega)
        have aZ : decide ((jP.length : Int) ≤ 2) = false := decide_eq_false (by omega)
        have aT : ((jP.length : Int) == 0) = false := by rw [beq_eq_false_iff_ne]; omega
        rw [aN, aZ, aT]
        exact ⟨5, rfl, rfl, by decide⟩
     ·rw [axr a1]
      simp only [Bool.not_true, cond_false, Bool.and_true, Bool.false_and, Bool.or_false]
      by_cases bc : jP.length = 0
      ·have aN : decide ((2 : Int) < (jP.length : Int)) = false := decide_eq_false (by omega)
       have aZ : decide ((0 : Int) < (jP.length : Int)) = false := decide_eq_false (by omega)
       have aT : ((jP.length : Int) == 0) = true := by rw [bc]; rfl
       rw [aN, aZ, Ex aT, aT]
       exact ⟨0, rfl, rfl, by decide⟩
      ·have aZ : decide ((0 : Int) < (jP.length : Int)) = true := decide_eq_true (by omega)
       have aT : ((jP.length : Int) == 0) = false := by rw [beq_eq_false_iff_ne]; omega
       rw [aZ, aT, Bool.or_true]
       exact ⟨5, rfl, rfl, by decide⟩
   ·by_cases ag : K = 2
    ·subst ag
     simp only [Int.reduceBEq, Int.reduceLE, decide_true, decide_false, Bool.false_and, Bool.true_and, Bool.and_true, Bool.false_or, Bool.or_false, cond_true, cond_false, Bool.and_self, Option.bind_some]
     cases N == 0
     ·exact ⟨2, rfl, rfl, by decide⟩
     ·cases Nm == []
      ·exact ⟨2, rfl, rfl, by decide⟩
      ·cases bF : ((jP.length : Int) == 0)
       ·exact ⟨2, rfl, rfl, by decide⟩
       ·simp only [Bool.and_true, Bool.not_true, Bool.not_false, cond_true, cond_false, Ex bF]
        exact ⟨0, rfl, rfl, by decide⟩
    ·by_cases aF : K = 3
     ·subst aF
      simp only [Int.reduceBEq, Int.reduceLE, decide_true, decide_false, Bool.false_and, Bool.true_and, Bool.and_true, Bool.false_or, Bool.or_false, Bool.true_or, Bool.or_true, cond_true, cond_false, Bool.and_self, Option.bind_some]
      cases N == 0
      ·exact ⟨2, rfl, rfl, by decide⟩
      ·cases Nm == []
       ·exact ⟨2, rfl, rfl, by decide⟩
       ·have dC : ((jP.length : Int) != 1) = !((jP.length : Int) == 1) := rfl
        rw [dC]
        cases ((jP.length : Int) == 1)
        ·exact ⟨5, rfl, rfl, by decide⟩
        ·cases qW ⟨3, N, Nm, jP⟩ pl.scope
         ·exact ⟨8, rfl, rfl, by decide⟩
         ·exact ⟨0, rfl, rfl, by decide⟩
     ·by_cases a_ : K = 4
      ·subst a_
       simp only [Int.reduceBEq, Int.reduceLE, decide_true, decide_false, Bool.false_and, Bool.true_and, Bool.and_true, Bool.false_or, Bool.or_false, Bool.true_or, Bool.or_true, cond_true, cond_false, Bool.and_self, Option.bind_some]
       cases Nm == []
       ·exact ⟨2, rfl, rfl, by decide⟩
       ·cases bF : ((jP.length : Int) == 0)
        ·exact ⟨2, rfl, rfl, by decide⟩
        ·rw [Ex bF]
         cases (decide (1 ≤ N) && decide (N ≤ 7))
         ·exact ⟨4, rfl, rfl, by decide⟩
         ·cases decide (6 ≤ pl.scope)
          ·exact ⟨0, rfl, rfl, by decide⟩
          ·exact ⟨7, rfl, rfl, by decide⟩
      ·by_cases bI : K = 5
       ·subst bI
        simp only [Int.reduceBEq, Int.reduceLE, decide_true, decide_false, Bool.false_and, Bool.true_and, Bool.and_true, Bool.false_or, Bool.or_false, Bool.true_or, Bool.or_true, cond_true, cond_false, Bool.and_self, Option.bind_some]
        cases Nm == []
        ·exact ⟨2, rfl, rfl, by decide⟩
        ·cases an : (decide (0 ≤ N) && decide (N ≤ (list.length : Int) - 1))
         ·exact ⟨4, rfl, rfl, by decide⟩
         ·simp only [Bool.and_eq_true, decide_eq_true_eq] at an
          obtain ⟨i, rfl⟩ : ∃ i : Nat, N = i := ⟨N.toNat, by omega⟩
          rw [fp list i (by omega)]
          simp only [Option.bind_some, Bool.not_true, cond_false]
          have dC : ((jP.length : Int) != list[i].c_) = !((jP.length : Int) == list[i].c_) := rfl
          rw [dC]
          cases ((jP.length : Int) == list[i].c_)
          ·exact ⟨5, rfl, rfl, by decide⟩
          ·cases pl.behind
           ·exact ⟨6, rfl, rfl, by decide⟩
           ·cases qW ⟨5, i, Nm, jP⟩ pl.scope
            ·exact ⟨8, rfl, rfl, by decide⟩
            ·exact ⟨0, rfl, rfl, by decide⟩
       ·have gh : (K == 0) = false := by simpa using bn
        have aN : (K == 1) = false := by simpa using af
        have aZ : (K == 2) = false := by simpa using ag
        have aT : (K == 3) = false := by simpa using aF
        have b2 : (K == 4) = false := by simpa using a_
        have cI : (K == 5) = false := by simpa using bI
        have bZ : (decide (0 ≤ K) && decide (K ≤ 5)) = false := by
         rw [Bool.and_eq_false_iff, decide_eq_false_iff_not, decide_eq_false_iff_not]; omega
        simp only [gh, aN, aZ, aT, b2, cI, bZ, Bool.false_and, cond_false, Option.bind_some]
        exact ⟨2, rfl, rfl, by decide⟩
 exact axt _ aw rfl
end Go.eR
