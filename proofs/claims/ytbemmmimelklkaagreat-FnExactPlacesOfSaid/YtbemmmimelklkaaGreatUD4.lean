/- Part of a proof that a law returns true for every input. No condition. -/
import Derived.Test.YtbemmmimelklkaaGreatUD3
namespace Go.fJ
open Go Go.dg
theorem atM {l : Nat → Int → Option Int} {n : Nat} (p : Nat → Bool) (oG bad : Int) (ba : ∀ m, l (m + 1) (n : Int) = some oG)
  (ah : ∀ i, i < n → ∀ m, l (m + 1) (i : Int) = cond (p i) (l m ((i + 1 : Nat) : Int)) (some bad)) : cO (fun m => l m 0) = some (cond (fG p n) oG bad) := by
 rw [sY (n := n) (fun i => some (cond ((List.range' i (n - i)).all p) oG bad))]
 ·simp [fG, List.range_eq_range']
 ·intro m; rw [ba]; simp
 ·intro i ar m ih
  rw [ah i ar, ih, show n - i = (n - (i + 1)) + 1 by omega, List.range'_succ]
  cases ax : p i <;> simp [ax]
def yC (p : bx) : Prop := p.Name.length ≤ 1048576 ∧ p.cr.length ≤ 1048576 ∧ ∀ e ∈ p.cr, e.length ≤ 1048576
def p2 (p : bx) (dE : Int) : Bool := fG (fun i => s8 (p.cr.getD i []) dE 15) p.cr.length
theorem atN (p : bx) (ax : yC p) (dE : Int) (h : 0 ≤ dE ∧ dE ≤ 29) : cO (fun n => qM p n dE 0) = some (cond (p2 p dE) 0 8) := by
 refine atM (l := fun m i => qM p m dE i) _ _ _ (fun m => ?_) (fun i ar m => ?_)
 ·simp only [qM, Av]
  rw [fw (Nat.le_refl _)]; rfl
 ·simp only [qM, Av]
  rw [gz ar, lS _ i [] ar, gy i _ ar (by have := ax.2.1; omega)]
  simp only [cond_true, Option.bind_some]
  rw [atp _ dE 15 (by omega) (by
   have : p.cr.getD i [] = p.cr[i] := by simp [List.getD, ar]
   rw [this]; exact ax.2.2 _ (List.getElem_mem ar))]
  simp only [Option.bind_some]
  cases s8 (p.cr.getD i []) dE 15 <;> rfl
theorem atO (p : bx) (ax : yC p) (pl : cg) (h : 0 ≤ pl.scope ∧ pl.scope ≤ 29) : A5 p.cr pl = some (!(p2 p pl.scope)) := by
 unfold A5 E8
 rw [vn (n := p.cr.length) (fun i => !s8 (p.cr.getD i []) pl.scope 15)]
 ·simp only [Option.bind_some, vm, Bool.not_not]; rfl
 ·intro m
  simp only [uP, A4]
  rw [fw (Nat.le_refl _)]; rfl
 ·intro i ar m
  simp only [uP, A4]
  rw [gz ar, lS _ i [] ar, gy i _ ar (by have := ax.2.1; omega)]
  simp only [cond_true, Option.bind_some, E7]
  rw [atq _ pl.scope 15 h (by omega) (by
   have : p.cr.getD i [] = p.cr[i] := by simp [List.getD, ar]
   rw [this]; exact ax.2.2 _ (List.getElem_mem ar))]
  simp only [Option.bind_some]
theorem Nj (s : List UInt8) (ah : s.length ≤ 1048576) : pO s = some (kc s && !(s == ([116, 97, 117] : List UInt8))) := by
 unfold pO
 rw [M0 s (by omega)]; rfl
theorem atP {s : List UInt8} (h : (s == ([116, 97, 117] : List UInt8)) = true) : kc s = true := by
 have : s = [116, 97, 117] := by simpa using h
 subst this; decide
theorem Nk (n : Int) (l : Nat) (hl : l ≤ 1048576) : uO n (l : Int) = some (decide (0 ≤ n) && decide (n ≤ (l : Int) - 1)) := by
 unfold uO jf
 rw [fY ((l : Int) - 1) (by omega)]; rfl
theorem atQ (list : List a9) (hl : list.length ≤ 4) (d : a9) (at_ : Nat) (atS : at_ < d.Body.length) (ae : d.Body.length ≤ 20) (ax : yC d.Body[at_]) (pl : cg)
  (qb : uJ d (at_ : Int) = some pl.scope) (Nl : 0 ≤ pl.scope ∧ pl.scope ≤ 29)
  (q6 : pl.behind = ta d.Body at_) :
  ∃ r, xg list d (at_ : Int) = some r ∧ xx d.Body[at_] list pl = some r ∧ 0 ≤ r := by
 have atT : ∀ p, yC p → p = d.Body[at_] → ∃ r, xg list d (at_ : Int) = some r ∧ xx p list pl = some r ∧ 0 ≤ r := by
  intro p ax CU
  have EK := atN p ax pl.scope Nl
  have zD := atO p ax pl Nl
  have Gg := Nj p.Name ax.1
  have atU := Ga p.Name
  have atV : r_ d (at_ : Int) p = some (cond ((p.Kind == 5) && !pl.behind) 6 (cond ((p.Kind == 4) && decide (6 ≤ pl.scope)) 7 (cond (p2 p pl.scope) 0 8))) := by
   have atW : ∀ v, uK d (at_ : Int) p v = some (cond v 6 (cond ((p.Kind == 4) && decide (6 ≤ pl.scope)) 7 (cond (p2 p pl.scope) 0 8))) := by
    intro v
    unfold uK
    rw [qb]
    simp only [Option.bind_some, EK]
    cases v <;> cases (p.Kind == 4 && decide (6 ≤ pl.scope)) <;> rfl
   unfold r_
   simp only [atW]
   cases at_ with
   | zero =>
     replace q6 : pl.behind = false := q6
     rw [q6]
     simp only [Bool.not_false, Bool.and_true]
     cases p.Kind == 5 <;> rfl
   | succ q =>
     have dc : q < d.Body.length := by omega
     have gu : (((q + 1 : Nat) : Int) == 0) = false := by rw [beq_eq_false_iff_ne]; omega
     rw [gu, vo (q + 1) (by omega) (by omega), show q + 1 - 1 = q from rfl, hD _ q dc]
     replace q6 : pl.behind = (match d.Body[q]? with | some p => p.Kind == 1 | none => false) := q6
     rw [List.getElem?_eq_getElem dc] at q6
     simp only [cond_false, Option.bind_some]
     simp only at q6
     rw [q6]
     have eb : (d.Body[q].Kind != 1) = !(d.Body[q].Kind == 1) := rfl
     rw [eb]
     cases p.Kind == 5 <;> cases d.Body[q].Kind == 1 <;> rfl
  have oY : bI d.Body (at_ : Int) = some p := by rw [hD _ at_ atS, CU]
  have Cr : ((p.cr.length : Int) == 0) = true → p2 p pl.scope = true := by
   intro h
   have : p.cr.length = 0 := by simpa using h
   unfold p2; rw [this]; rfl
  unfold xg xx E4 EV Ao
  rw [oY]
  simp only [Aw, sa, xv, sl, Option.bind_some, atV, zD, Gg, atU, jf, lL, Nk _ _ (show list.length ≤ 1048576 by omega), E5]
  rw [fY ((list.length : Int) - 1) (by omega)]
  obtain ⟨K, N, pk, i_⟩ := p
  simp only at *
  by_cases ba : K = 0
  ·subst ba
   simp only [Int.reduceBEq, Int.reduceLE, decide_true, decide_false, Bool.false_and, Bool.true_and, Bool.and_true, Bool.false_or, Bool.or_false, cond_true, cond_false, Bool.and_self, Option.bind_some]
   cases N == 0
   ·exact ⟨2, rfl, rfl, by decide⟩
   ·cases pk == []
    ·exact ⟨2, rfl, rfl, by decide⟩
    ·cases cw : ((i_.length : Int) == 0)
     ·exact ⟨2, rfl, rfl, by decide⟩
     ·simp only [Bool.and_true, Bool.not_true, Bool.not_false, cond_true, cond_false, Cr cw]
      exact ⟨0, rfl, rfl, by decide⟩
  ·by_cases ai : K = 1
   ·subst ai
    simp only [Int.reduceBEq, Int.reduceLE, decide_true, decide_false, Bool.false_and, Bool.true_and, Bool.and_true, Bool.false_or, Bool.or_false, Bool.true_or, cond_true, cond_false, Bool.and_self, Option.bind_some]
    cases N == 0
    ·exact ⟨2, rfl, rfl, by decide⟩
    ·simp only [Bool.not_true, cond_false]
     cases bh : (pk == ([116, 97, 117] : List UInt8))
     ·simp only [Bool.not_false, Bool.and_true, cond_true]
      cases kc pk
      ·exact ⟨3, rfl, rfl, by decide⟩
      ·simp only [Bool.not_true, cond_false, Bool.and_false, Bool.or_false, Bool.true_and]
       by_cases bd : i_.length ≤ 2
       ·have a4 : decide ((2 : Int) < (i_.length : Int)) = false := decide_eq_false (by omega)
        have a_ : decide ((i_.length : Int) ≤ 2) = true := decide_eq_true (by omega)
        rw [a4, a_, Bool.or_true]
        cases p2 ⟨1, N, pk, i_⟩ pl.scope
        ·exact ⟨8, rfl, rfl, by decide⟩
        ·exact ⟨0, rfl, rfl, by decide⟩
       ·have a4 : decide ((2 : Int) < (i_.length : Int)) = true := decide_eq_true (by omega)
        have a_ : decide ((i_.length : Int) ≤ 2) = false := decide_eq_false (by omega)
        have a3 : ((i_.length : Int) == 0) = false := by rw [beq_eq_false_iff_ne]; omega
        rw [a4, a_, a3]
        exact ⟨5, rfl, rfl, by decide⟩
     ·rw [atP bh]
      simp only [Bool.not_true, cond_false, Bool.and_true, Bool.false_and, Bool.or_false]
      by_cases bd : i_.length = 0
      ·have a4 : decide ((2 : Int) < (i_.length : Int)) = false := decide_eq_false (by omega)
       have a_ : decide ((0 : Int) < (i_.length : Int)) = false := decide_eq_false (by omega)
       have a3 : ((i_.length : Int) == 0) = true := by rw [bd]; rfl
       rw [a4, a_, Cr a3, a3]
       exact ⟨0, rfl, rfl, by decide⟩
      ·have a_ : decide ((0 : Int) < (i_.length : Int)) = true := decide_eq_true (by omega)
       have a3 : ((i_.length : Int) == 0) = false := by rw [beq_eq_false_iff_ne]; omega
       rw [a_, a3, Bool.or_true]
       exact ⟨5, rfl, rfl, by decide⟩
   ·by_cases aj : K = 2
    ·subst aj
     simp only [Int.reduceBEq, Int.reduceLE, decide_true, decide_false, Bool.false_and, Bool.true_and, Bool.and_true, Bool.false_or, Bool.or_false, cond_true, cond_false, Bool.and_self, Option.bind_some]
     cases N == 0
     ·exact ⟨2, rfl, rfl, by decide⟩
     ·cases pk == []
      ·exact ⟨2, rfl, rfl, by decide⟩
      ·cases cw : ((i_.length : Int) == 0)
       ·exact ⟨2, rfl, rfl, by decide⟩
       ·simp only [Bool.and_true, Bool.not_true, Bool.not_false, cond_true, cond_false, Cr cw]
        exact ⟨0, rfl, rfl, by decide⟩
    ·by_cases aP : K = 3
     ·subst aP
      simp only [Int.reduceBEq, Int.reduceLE, decide_true, decide_false, Bool.false_and, Bool.true_and, Bool.and_true, Bool.false_or, Bool.or_false, Bool.true_or, Bool.or_true, cond_true, cond_false, Bool.and_self, Option.bind_some]
      cases N == 0
      ·exact ⟨2, rfl, rfl, by decide⟩
      ·cases pk == []
       ·exact ⟨2, rfl, rfl, by decide⟩
       ·have eb : ((i_.length : Int) != 1) = !((i_.length : Int) == 1) := rfl
        rw [eb]
        cases ((i_.length : Int) == 1)
        ·exact ⟨5, rfl, rfl, by decide⟩
        ·cases p2 ⟨3, N, pk, i_⟩ pl.scope
         ·exact ⟨8, rfl, rfl, by decide⟩
         ·exact ⟨0, rfl, rfl, by decide⟩
     ·by_cases bb : K = 4
      ·subst bb
       simp only [Int.reduceBEq, Int.reduceLE, decide_true, decide_false, Bool.false_and, Bool.true_and, Bool.and_true, Bool.false_or, Bool.or_false, Bool.true_or, Bool.or_true, cond_true, cond_false, Bool.and_self, Option.bind_some]
       cases pk == []
       ·exact ⟨2, rfl, rfl, by decide⟩
       ·cases cw : ((i_.length : Int) == 0)
        ·exact ⟨2, rfl, rfl, by decide⟩
        ·rw [Cr cw]
         cases (decide (1 ≤ N) && decide (N ≤ 7))
         ·exact ⟨4, rfl, rfl, by decide⟩
         ·cases decide (6 ≤ pl.scope)
          ·exact ⟨0, rfl, rfl, by decide⟩
          ·exact ⟨7, rfl, rfl, by decide⟩
      ·by_cases b5 : K = 5
       ·subst b5
        simp only [Int.reduceBEq, Int.reduceLE, decide_true, decide_false, Bool.false_and, Bool.true_and, Bool.and_true, Bool.false_or, Bool.or_false, Bool.true_or, Bool.or_true, cond_true, cond_false, Bool.and_self, Option.bind_some]
        cases pk == []
        ·exact ⟨2, rfl, rfl, by decide⟩
        ·cases ar : (decide (0 ≤ N) && decide (N ≤ (list.length : Int) - 1))
         ·exact ⟨4, rfl, rfl, by decide⟩
         ·simp only [Bool.and_eq_true, decide_eq_true_eq] at ar
          obtain ⟨i, rfl⟩ : ∃ i : Nat, N = i := ⟨N.toNat, by omega⟩
          rw [hD list i (by omega)]
          simp only [Option.bind_some, Bool.not_true, cond_false]
          have eb : ((i_.length : Int) != list[i].cZ) = !((i_.length : Int) == list[i].cZ) := rfl
          rw [eb]
          cases ((i_.length : Int) == list[i].cZ)
          ·exact ⟨5, rfl, rfl, by decide⟩
          ·cases pl.behind
           ·exact ⟨6, rfl, rfl, by decide⟩
           ·cases p2 ⟨5, i, pk, i_⟩ pl.scope
            ·exact ⟨8, rfl, rfl, by decide⟩
            ·exact ⟨0, rfl, rfl, by decide⟩
       ·have gu : (K == 0) = false := by simpa using ba
        have a4 : (K == 1) = false := by simpa using ai
        have a_ : (K == 2) = false := by simpa using aj
        have a3 : (K == 3) = false := by simpa using aP
        have c1 : (K == 4) = false := by simpa using bb
        have c6 : (K == 5) = false := by simpa using b5
        have cl : (decide (0 ≤ K) && decide (K ≤ 5)) = false := by
         rw [Bool.and_eq_false_iff, decide_eq_false_iff_not, decide_eq_false_iff_not]; omega
        simp only [gu, a4, a_, a3, c1, c6, cl, Bool.false_and, cond_false, Option.bind_some]
        exact ⟨2, rfl, rfl, by decide⟩
 exact atT _ ax rfl
end Go.fJ
