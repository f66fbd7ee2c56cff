/- Part of a proof that a law returns true for every input. No condition. -/
import Derived.Test.YtgpmnlkgmadglaaGreatDoorUD3
namespace Go.eV
open Go Go.c0
theorem avz {l : Nat → Int → Option Int} {n : Nat} (p : Nat → Bool) (oL bad : Int) (bc : ∀ m, l (m + 1) (n : Int) = some oL)
  (ad : ∀ i, i < n → ∀ m, l (m + 1) (i : Int) = cond (p i) (l m ((i + 1 : Nat) : Int)) (some bad)) : cZ (fun m => l m 0) = some (cond (e9 p n) oL bad) := by
 rw [sT (n := n) (fun i => some (cond ((List.range' i (n - i)).all p) oL bad))]
 ·simp [e9, List.range_eq_range']
 ·intro m; rw [bc]; simp
 ·intro i al m ih
  rw [ad i al, ih, show n - i = (n - (i + 1)) + 1 by omega, List.range'_succ]
  cases ar : p i <;> simp [ar]
def ym (p : b7) : Prop := p.Name.length ≤ 1048576 ∧ p.dz.length ≤ 1048576 ∧ ∀ e ∈ p.dz, e.length ≤ 1048576
def qd (p : b7) (dq : Int) : Bool := e9 (fun i => s3 (p.dz.getD i []) dq 15) p.dz.length
theorem avA (p : b7) (ar : ym p) (dq : Int) (h : 0 ≤ dq ∧ dq ≤ 29) : cZ (fun n => qN p n dq 0) = some (cond (qd p dq) 0 8) := by
 refine avz (l := fun m i => qN p m dq i) _ _ _ (fun m => ?_) (fun i al m => ?_)
 ·simp only [qN, Ac]
  rw [gr (Nat.le_refl _)]; rfl
 ·simp only [qN, Ac]
  rw [gb al, lj _ i [] al, ga i _ al (by have := ar.2.1; omega)]
  simp only [cond_true, Option.bind_some]
  rw [avc _ dq 15 (by omega) (by
   have : p.dz.getD i [] = p.dz[i] := by simp [List.getD, al]
   rw [this]; exact ar.2.2 _ (List.getElem_mem al))]
  simp only [Option.bind_some]
  cases s3 (p.dz.getD i []) dq 15 <;> rfl
theorem avB (p : b7) (ar : ym p) (pl : cm) (h : 0 ≤ pl.scope ∧ pl.scope ≤ 29) : AU p.dz pl = some (!(qd p pl.scope)) := by
 unfold AU EX
 rw [q7 (n := p.dz.length) (fun i => !s3 (p.dz.getD i []) pl.scope 15)]
 ·simp only [Option.bind_some, q6, Bool.not_not]; rfl
 ·intro m
  simp only [uM, AR]
  rw [gr (Nat.le_refl _)]; rfl
 ·intro i al m
  simp only [uM, AR]
  rw [gb al, lj _ i [] al, ga i _ al (by have := ar.2.1; omega)]
  simp only [cond_true, Option.bind_some, EW]
  rw [avd _ pl.scope 15 h (by omega) (by
   have : p.dz.getD i [] = p.dz[i] := by simp [List.getD, al]
   rw [this]; exact ar.2.2 _ (List.getElem_mem al))]
  simp only [Option.bind_some]
theorem Oh (s : List UInt8) (ad : s.length ≤ 1048576) : p1 s = some (j7 s && !(s == ([116, 97, 117] : List UInt8))) := by
 unfold p1
 rw [N0 s (by omega)]; rfl
theorem avC {s : List UInt8} (h : (s == ([116, 97, 117] : List UInt8)) = true) : j7 s = true := by
 have : s = [116, 97, 117] := by simpa using h
 subst this; decide
theorem Ce (n : Int) (l : Nat) (aR : l ≤ 1048576) : qV n (l : Int) = some (decide (0 ≤ n) && decide (n ≤ (l : Int) - 1)) := by
 unfold qV je
 rw [hg ((l : Int) - 1) (by omega)]; rfl
theorem avD (list : List bm) (aR : list.length ≤ 4) (d : bm) (at_ : Nat) (avE : at_ < d.Body.length) (ab : d.Body.length ≤ 20) (ar : ym d.Body[at_]) (pl : cm)
  (qm : qM d (at_ : Int) = some pl.scope) (Oi : 0 ≤ pl.scope ∧ pl.scope ≤ 29)
  (re : pl.behind = Gz d.Body at_) :
  ∃ r, xg list d (at_ : Int) = some r ∧ xv d.Body[at_] list pl = some r ∧ 0 ≤ r := by
 have avF : ∀ p, ym p → p = d.Body[at_] → ∃ r, xg list d (at_ : Int) = some r ∧ xv p list pl = some r ∧ 0 ≤ r := by
  intro p ar CL
  have Eu := avA p ar pl.scope Oi
  have zc := avB p ar pl Oi
  have GA := Oh p.Name ar.1
  have avG := Gt p.Name
  have avH : sd d (at_ : Int) p = some (cond ((p.Kind == 5) && !pl.behind) 6 (cond ((p.Kind == 4) && decide (6 ≤ pl.scope)) 7 (cond (qd p pl.scope) 0 8))) := by
   have avI : ∀ v, uH d (at_ : Int) p v = some (cond v 6 (cond ((p.Kind == 4) && decide (6 ≤ pl.scope)) 7 (cond (qd p pl.scope) 0 8))) := by
    intro v
    unfold uH
    rw [qm]
    simp only [Option.bind_some, Eu]
    cases v <;> cases (p.Kind == 4 && decide (6 ≤ pl.scope)) <;> rfl
   unfold sd
   simp only [avI]
   cases at_ with
   | zero =>
     replace re : pl.behind = false := re
     rw [re]
     simp only [Bool.not_false, Bool.and_true]
     cases p.Kind == 5 <;> rfl
   | succ q =>
     have cv : q < d.Body.length := by omega
     have gv : (((q + 1 : Nat) : Int) == 0) = false := by rw [beq_eq_false_iff_ne]; omega
     rw [gv, yj (q + 1) (by omega) (by omega), show q + 1 - 1 = q from rfl, gG _ q cv]
     replace re : pl.behind = (match d.Body[q]? with | some p => p.Kind == 1 | none => false) := re
     rw [List.getElem?_eq_getElem cv] at re
     simp only [cond_false, Option.bind_some]
     simp only at re
     rw [re]
     have dQ : (d.Body[q].Kind != 1) = !(d.Body[q].Kind == 1) := rfl
     rw [dQ]
     cases p.Kind == 5 <;> cases d.Body[q].Kind == 1 <;> rfl
  have o7 : bH d.Body (at_ : Int) = some p := by rw [gG _ at_ avE, CL]
  have Cf : ((p.dz.length : Int) == 0) = true → qd p pl.scope = true := by
   intro h
   have : p.dz.length = 0 := by simpa using h
   unfold qd; rw [this]; rfl
  unfold xg xv ET EI z1
  rw [o7]
  simp only [Ad, se, xt, su, Option.bind_some, avH, zc, GA, avG, je, ky, Ce _ _ (show list.length ≤ 1048576 by omega), EU]
  rw [hg ((list.length : Int) - 1) (by omega)]
  obtain ⟨K, N, Nm, jw⟩ := p
  simp only at *
  by_cases bc : K = 0
  ·subst bc
   simp only [Int.reduceBEq, Int.reduceLE, decide_true, decide_false, Bool.false_and, Bool.true_and, Bool.and_true, Bool.false_or, Bool.or_false, cond_true, cond_false, Bool.and_self, Option.bind_some]
   cases N == 0
   ·exact ⟨2, rfl, rfl, by decide⟩
   ·cases Nm == []
    ·exact ⟨2, rfl, rfl, by decide⟩
    ·cases b_ : ((jw.length : Int) == 0)
     ·exact ⟨2, rfl, rfl, by decide⟩
     ·simp only [Bool.and_true, Bool.not_true, Bool.not_false, cond_true, cond_false, Cf b_]
      exact ⟨0, rfl, rfl, by decide⟩
  ·by_cases ag : K = 1
   ·subst ag
    simp only [Int.reduceBEq, Int.reduceLE, decide_true, decide_false, Bool.false_and, Bool.true_and, Bool.and_true, Bool.false_or, Bool.or_false, Bool.true_or, cond_true, cond_false, Bool.and_self, Option.bind_some]
    cases N == 0
    ·exact ⟨2, rfl, rfl, by decide⟩
    ·simp only [Bool.not_true, cond_false]
     cases bb : (Nm == ([116, 97, 117] : List UInt8))
     ·simp only [Bool.not_false, Bool.and_true, cond_true]
      cases j7 Nm
      ·exact ⟨3, rfl, rfl, by decide⟩
      ·simp only [Bool.not_true, cond_false, Bool.and_false, Bool.or_false, Bool.true_and]
       by_cases aY : jw.length ≤ 2
       ·have aS : decide ((2 : Int) < (jw.length : Int)) = false := decide_eq_false (by omega)
        have aX : decide ((jw.length : Int) ≤ 2) = true := decide_eq_true (by omega)
        rw [aS, aX, Bool.or_true]
        cases qd ⟨1, N, Nm, jw⟩ pl.scope
        ·exact ⟨8, rfl, rfl, by decide⟩
        ·exact ⟨0, rfl, rfl, by decide⟩
       ·have aS : decide ((2 : Int) < (jw.length : Int)) = true := decide_eq_true (by omega)
        have aX : decide ((jw.length : Int) ≤ 2) = false := decide_eq_false (by omega)
        have aQ : ((jw.length : Int) == 0) = false := by rw [beq_eq_false_iff_ne]; omega
        rw [aS, aX, aQ]
        exact ⟨5, rfl, rfl, by decide⟩
     ·rw [avC bb]
      simp only [Bool.not_true, cond_false, Bool.and_true, Bool.false_and, Bool.or_false]
      by_cases aY : jw.length = 0
      ·have aS : decide ((2 : Int) < (jw.length : Int)) = false := decide_eq_false (by omega)
       have aX : decide ((0 : Int) < (jw.length : Int)) = false := decide_eq_false (by omega)
       have aQ : ((jw.length : Int) == 0) = true := by rw [aY]; rfl
       rw [aS, aX, Cf aQ, aQ]
       exact ⟨0, rfl, rfl, by decide⟩
      ·have aX : decide ((0 : Int) < (jw.length : Int)) = true := decide_eq_true (by omega)
       have aQ : ((jw.length : Int) == 0) = false := by rw [beq_eq_false_iff_ne]; omega
       rw [aX, aQ, Bool.or_true]
       exact ⟨5, rfl, rfl, by decide⟩
   ·by_cases ah : K = 2
    ·subst ah
     simp only [Int.reduceBEq, Int.reduceLE, decide_true, decide_false, Bool.false_and, Bool.true_and, Bool.and_true, Bool.false_or, Bool.or_false, cond_true, cond_false, Bool.and_self, Option.bind_some]
     cases N == 0
     ·exact ⟨2, rfl, rfl, by decide⟩
     ·cases Nm == []
      ·exact ⟨2, rfl, rfl, by decide⟩
      ·cases b_ : ((jw.length : Int) == 0)
       ·exact ⟨2, rfl, rfl, by decide⟩
       ·simp only [Bool.and_true, Bool.not_true, Bool.not_false, cond_true, cond_false, Cf b_]
        exact ⟨0, rfl, rfl, by decide⟩
    ·by_cases aI : K = 3
     ·subst aI
      simp only [Int.reduceBEq, Int.reduceLE, decide_true, decide_false, Bool.false_and, Bool.true_and, Bool.and_true, Bool.false_or, Bool.or_false, Bool.true_or, Bool.or_true, cond_true, cond_false, Bool.and_self, Option.bind_some]
      cases N == 0
      ·exact ⟨2, rfl, rfl, by decide⟩
      ·cases Nm == []
       ·exact ⟨2, rfl, rfl, by decide⟩
       ·have dQ : ((jw.length : Int) != 1) = !((jw.length : Int) == 1) := rfl
        rw [dQ]
        cases ((jw.length : Int) == 1)
        ·exact ⟨5, rfl, rfl, by decide⟩
        ·cases qd ⟨3, N, Nm, jw⟩ pl.scope
         ·exact ⟨8, rfl, rfl, by decide⟩
         ·exact ⟨0, rfl, rfl, by decide⟩
     ·by_cases a_ : K = 4
      ·subst a_
       simp only [Int.reduceBEq, Int.reduceLE, decide_true, decide_false, Bool.false_and, Bool.true_and, Bool.and_true, Bool.false_or, Bool.or_false, Bool.true_or, Bool.or_true, cond_true, cond_false, Bool.and_self, Option.bind_some]
       cases Nm == []
       ·exact ⟨2, rfl, rfl, by decide⟩
       ·cases b_ : ((jw.length : Int) == 0)
        ·exact ⟨2, rfl, rfl, by decide⟩
        ·rw [Cf b_]
         cases (decide (1 ≤ N) && decide (N ≤ 7))
         ·exact ⟨4, rfl, rfl, by decide⟩
         ·cases decide (6 ≤ pl.scope)
          ·exact ⟨0, rfl, rfl, by decide⟩
          ·exact ⟨7, rfl, rfl, by decide⟩
      ·by_cases bN : K = 5
       ·subst bN
        simp only [Int.reduceBEq, Int.reduceLE, decide_true, decide_false, Bool.false_and, Bool.true_and, Bool.and_true, Bool.false_or, Bool.or_false, Bool.true_or, Bool.or_true, cond_true, cond_false, Bool.and_self, Option.bind_some]
        cases Nm == []
        ·exact ⟨2, rfl, rfl, by decide⟩
        ·cases al : (decide (0 ≤ N) && decide (N ≤ (list.length : Int) - 1))
         ·exact ⟨4, rfl, rfl, by decide⟩
         ·simp only [Bool.and_eq_true, decide_eq_true_eq] at al
          obtain ⟨i, rfl⟩ : ∃ i : Nat, N = i := ⟨N.toNat, by omega⟩
          rw [gG list i (by omega)]
          simp only [Option.bind_some, Bool.not_true, cond_false]
          have dQ : ((jw.length : Int) != list[i].dL) = !((jw.length : Int) == list[i].dL) := rfl
          rw [dQ]
          cases ((jw.length : Int) == list[i].dL)
          ·exact ⟨5, rfl, rfl, by decide⟩
          ·cases pl.behind
           ·exact ⟨6, rfl, rfl, by decide⟩
           ·cases qd ⟨5, i, Nm, jw⟩ pl.scope
            ·exact ⟨8, rfl, rfl, by decide⟩
            ·exact ⟨0, rfl, rfl, by decide⟩
       ·have gv : (K == 0) = false := by simpa using bc
        have aS : (K == 1) = false := by simpa using ag
        have aX : (K == 2) = false := by simpa using ah
        have aQ : (K == 3) = false := by simpa using aI
        have ca : (K == 4) = false := by simpa using a_
        have cR : (K == 5) = false := by simpa using bN
        have bZ : (decide (0 ≤ K) && decide (K ≤ 5)) = false := by
         rw [Bool.and_eq_false_iff, decide_eq_false_iff_not, decide_eq_false_iff_not]; omega
        simp only [gv, aS, aX, aQ, ca, cR, bZ, Bool.false_and, cond_false, Option.bind_some]
        exact ⟨2, rfl, rfl, by decide⟩
 exact avF _ ar rfl
end Go.eV
