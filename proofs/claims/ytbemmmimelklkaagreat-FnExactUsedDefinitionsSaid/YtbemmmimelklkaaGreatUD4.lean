/- Part of a proof that a law returns true for every input. No condition. -/
import Derived.Test.YtbemmmimelklkaaGreatUD3
namespace Go.eR
open Go Go.c5
theorem awh {l : Nat → Int → Option Int} {n : Nat} (p : Nat → Bool) (o0 bad : Int) (bc : ∀ m, l (m + 1) (n : Int) = some o0)
  (ah : ∀ i, i < n → ∀ m, l (m + 1) (i : Int) = cond (p i) (l m ((i + 1 : Nat) : Int)) (some bad)) : lim (fun m => l m 0) = some (cond (fJ p n) o0 bad) := by
 rw [rD (n := n) (fun i => some (cond ((List.range' i (n - i)).all p) o0 bad))]
 ·simp [fJ, List.range_eq_range']
 ·intro m; rw [bc]; simp
 ·intro i ao m ih
  rw [ah i ao, ih, show n - i = (n - (i + 1)) + 1 by omega, List.range'_succ]
  cases aA : p i <;> simp [aA]
def zr (p : bE) : Prop := p.Name.length ≤ 1048576 ∧ p.cA.length ≤ 1048576 ∧ ∀ e ∈ p.cA, e.length ≤ 1048576
def qz (p : bE) (dK : Int) : Bool := fJ (fun i => tF (p.cA.getD i []) dK 15) p.cA.length
theorem awi (p : bE) (aA : zr p) (dK : Int) (h : 0 ≤ dK ∧ dK ≤ 29) : lim (fun n => re p n dK 0) = some (cond (qz p dK) 0 8) := by
 refine awh (l := fun m i => re p m dK i) _ _ _ (fun m => ?_) (fun i ao m => ?_)
 ·simp only [re, Bs]
  rw [fa (Nat.le_refl _)]; rfl
 ·simp only [re, Bs]
  rw [fB ao, l9 _ i [] ao, fA i _ ao (by have := aA.2.1; omega)]
  simp only [cond_true, Option.bind_some]
  rw [avU _ dK 15 (by omega) (by
   have : p.cA.getD i [] = p.cA[i] := by simp [List.getD, ao]
   rw [this]; exact aA.2.2 _ (List.getElem_mem ao))]
  simp only [Option.bind_some]
  cases tF (p.cA.getD i []) dK 15 <;> rfl
theorem awj (p : bE) (aA : zr p) (pl : cx) (h : 0 ≤ pl.scope ∧ pl.scope ≤ 29) : B7 p.cA pl = some (!(qz p pl.scope)) := by
 unfold B7 Gn
 rw [wh (n := p.cA.length) (fun i => !tF (p.cA.getD i []) pl.scope 15)]
 ·simp only [Option.bind_some, wg, Bool.not_not]; rfl
 ·intro m
  simp only [vv, B6]
  rw [fa (Nat.le_refl _)]; rfl
 ·intro i ao m
  simp only [vv, B6]
  rw [fB ao, l9 _ i [] ao, fA i _ ao (by have := aA.2.1; omega)]
  simp only [cond_true, Option.bind_some, Gm]
  rw [avV _ pl.scope 15 h (by omega) (by
   have : p.cA.getD i [] = p.cA[i] := by simp [List.getD, ao]
   rw [this]; exact aA.2.2 _ (List.getElem_mem ao))]
  simp only [Option.bind_some]
theorem O7 (s : List UInt8) (ah : s.length ≤ 1048576) : qg s = some (ke s && !(s == ([116, 97, 117] : List UInt8))) := by
 unfold qg
 rw [OQ s (by omega)]; rfl
theorem awk {s : List UInt8} (h : (s == ([116, 97, 117] : List UInt8)) = true) : ke s = true := by
 have : s = [116, 97, 117] := by simpa using h
 subst this; decide
theorem O8 (n : Int) (l : Nat) (hl : l ≤ 1048576) : vu n (l : Int) = some (decide (0 ≤ n) && decide (n ≤ (l : Int) - 1)) := by
 unfold vu jt
 rw [fU ((l : Int) - 1) (by omega)]; rfl
theorem awl (list : List bg) (hl : list.length ≤ 4) (d : bg) (at_ : Nat) (awm : at_ < d.Body.length) (ad : d.Body.length ≤ 20) (aA : zr d.Body[at_]) (pl : cx)
  (qJ : vj d (at_ : Int) = some pl.scope) (O9 : 0 ≤ pl.scope ∧ pl.scope ≤ 29)
  (rM : pl.behind = HB d.Body at_) :
  ∃ r, qb list d (at_ : Int) = some r ∧ yj d.Body[at_] list pl = some r ∧ 0 ≤ r := by
 have awn : ∀ p, zr p → p = d.Body[at_] → ∃ r, qb list d (at_ : Int) = some r ∧ yj p list pl = some r ∧ 0 ≤ r := by
  intro p aA Ea
  have F1 := awi p aA pl.scope O9
  have Aw := awj p aA pl O9
  have HC := O7 p.Name aA.1
  have awo := Hv p.Name
  have awp : sJ d (at_ : Int) p = some (cond ((p.Kind == 5) && !pl.behind) 6 (cond ((p.Kind == 4) && decide (6 ≤ pl.scope)) 7 (cond (qz p pl.scope) 0 8))) := by
   have awq : ∀ v, vk d (at_ : Int) p v = some (cond v 6 (cond ((p.Kind == 4) && decide (6 ≤ pl.scope)) 7 (cond (qz p pl.scope) 0 8))) := by
    intro v
    unfold vk
    rw [qJ]
    simp only [Option.bind_some, F1]
    cases v <;> cases (p.Kind == 4 && decide (6 ≤ pl.scope)) <;> rfl
   unfold sJ
   simp only [awq]
   cases at_ with
   | zero =>
     replace rM : pl.behind = false := rM
     rw [rM]
     simp only [Bool.not_false, Bool.and_true]
     cases p.Kind == 5 <;> rfl
   | succ q =>
     have dk : q < d.Body.length := by omega
     have gB : (((q + 1 : Nat) : Int) == 0) = false := by rw [beq_eq_false_iff_ne]; omega
     rw [gB, zn (q + 1) (by omega) (by omega), show q + 1 - 1 = q from rfl, gx _ q dk]
     replace rM : pl.behind = (match d.Body[q]? with | some p => p.Kind == 1 | none => false) := rM
     rw [List.getElem?_eq_getElem dk] at rM
     simp only [cond_false, Option.bind_some]
     simp only at rM
     rw [rM]
     have dB : (d.Body[q].Kind != 1) = !(d.Body[q].Kind == 1) := rfl
     rw [dB]
     cases p.Kind == 5 <;> cases d.Body[q].Kind == 1 <;> rfl
  have ph : bQ d.Body (at_ : Int) = some p := by rw [gx _ at_ awm, Ea]
  have DC : ((p.cA.length : Int) == 0) = true → qz p pl.scope = true := by
   intro h
   have : p.cA.length = 0 := by simpa using h
   unfold qz; rw [this]; rfl
  unfold qb yj Gj Bl Bk
  rw [ph]
  simp only [x5, rf, yh, sU, Option.bind_some, awp, Aw, HC, awo, jt, lz, O8 _ _ (show list.length ≤ 1048576 by omega), Gk]
  rw [fU ((list.length : Int) - 1) (by omega)]
  obtain ⟨K, N, pJ, jk⟩ := p
  simp only at *
  by_cases bc : K = 0
  ·subst bc
   simp only [Int.reduceBEq, Int.reduceLE, decide_true, decide_false, Bool.false_and, Bool.true_and, Bool.and_true, Bool.false_or, Bool.or_false, cond_true, cond_false, Bool.and_self, Option.bind_some]
   cases N == 0
   ·exact ⟨2, rfl, rfl, by decide⟩
   ·cases pJ == []
    ·exact ⟨2, rfl, rfl, by decide⟩
    ·cases cz : ((jk.length : Int) == 0)
     ·exact ⟨2, rfl, rfl, by decide⟩
     ·simp only [Bool.and_true, Bool.not_true, Bool.not_false, cond_true, cond_false, DC cz]
      exact ⟨0, rfl, rfl, by decide⟩
  ·by_cases af : K = 1
   ·subst af
    simp only [Int.reduceBEq, Int.reduceLE, decide_true, decide_false, Bool.false_and, Bool.true_and, Bool.and_true, Bool.false_or, Bool.or_false, Bool.true_or, cond_true, cond_false, Bool.and_self, Option.bind_some]
    cases N == 0
    ·exact ⟨2, rfl, rfl, by decide⟩
    ·simp only [Bool.not_true, cond_false]
     cases bs : (pJ == ([116, 97, 117] : List UInt8))
     ·simp only [Bool.not_false, Bool.and_true, cond_true]
      cases ke pJ
      ·exact ⟨3, rfl, rfl, by decide⟩
      ·simp only [Bool.not_true, cond_false, Bool.and_false, Bool.or_false, Bool.true_and]
       by_cases bl : jk.length ≤ 2
       ·have a1 : decide ((2 : Int) < (jk.length : Int)) = false := decide_eq_false (by omega)
        have bh : decide ((jk.length : Int) ≤ 2) = true := decide_eq_true (by omega)
        rw [a1, bh, Bool.or_true]
        cases qz ⟨1, N, pJ, jk⟩ pl.scope
        ·exact ⟨8, rfl, rfl, by decide⟩
        ·exact ⟨0, rfl, rfl, by decide⟩
       ·have a1 : decide ((2 : Int) < (jk.length : Int)) = true := decide_eq_true (by omega)
        have bh : decide ((jk.length : Int) ≤ 2) = false := decide_eq_false (by omega)
        have a8 : ((jk.length : Int) == 0) = false := by rw [beq_eq_false_iff_ne]; omega
        rw [a1, bh, a8]
        exact ⟨5, rfl, rfl, by decide⟩
     ·rw [awk bs]
      simp only [Bool.not_true, cond_false, Bool.and_true, Bool.false_and, Bool.or_false]
      by_cases bl : jk.length = 0
      ·have a1 : decide ((2 : Int) < (jk.length : Int)) = false := decide_eq_false (by omega)
       have bh : decide ((0 : Int) < (jk.length : Int)) = false := decide_eq_false (by omega)
       have a8 : ((jk.length : Int) == 0) = true := by rw [bl]; rfl
       rw [a1, bh, DC a8, a8]
       exact ⟨0, rfl, rfl, by decide⟩
      ·have bh : decide ((0 : Int) < (jk.length : Int)) = true := decide_eq_true (by omega)
       have a8 : ((jk.length : Int) == 0) = false := by rw [beq_eq_false_iff_ne]; omega
       rw [bh, a8, Bool.or_true]
       exact ⟨5, rfl, rfl, by decide⟩
   ·by_cases ai : K = 2
    ·subst ai
     simp only [Int.reduceBEq, Int.reduceLE, decide_true, decide_false, Bool.false_and, Bool.true_and, Bool.and_true, Bool.false_or, Bool.or_false, cond_true, cond_false, Bool.and_self, Option.bind_some]
     cases N == 0
     ·exact ⟨2, rfl, rfl, by decide⟩
     ·cases pJ == []
      ·exact ⟨2, rfl, rfl, by decide⟩
      ·cases cz : ((jk.length : Int) == 0)
       ·exact ⟨2, rfl, rfl, by decide⟩
       ·simp only [Bool.and_true, Bool.not_true, Bool.not_false, cond_true, cond_false, DC cz]
        exact ⟨0, rfl, rfl, by decide⟩
    ·by_cases aN : K = 3
     ·subst aN
      simp only [Int.reduceBEq, Int.reduceLE, decide_true, decide_false, Bool.false_and, Bool.true_and, Bool.and_true, Bool.false_or, Bool.or_false, Bool.true_or, Bool.or_true, cond_true, cond_false, Bool.and_self, Option.bind_some]
      cases N == 0
      ·exact ⟨2, rfl, rfl, by decide⟩
      ·cases pJ == []
       ·exact ⟨2, rfl, rfl, by decide⟩
       ·have dB : ((jk.length : Int) != 1) = !((jk.length : Int) == 1) := rfl
        rw [dB]
        cases ((jk.length : Int) == 1)
        ·exact ⟨5, rfl, rfl, by decide⟩
        ·cases qz ⟨3, N, pJ, jk⟩ pl.scope
         ·exact ⟨8, rfl, rfl, by decide⟩
         ·exact ⟨0, rfl, rfl, by decide⟩
     ·by_cases bk : K = 4
      ·subst bk
       simp only [Int.reduceBEq, Int.reduceLE, decide_true, decide_false, Bool.false_and, Bool.true_and, Bool.and_true, Bool.false_or, Bool.or_false, Bool.true_or, Bool.or_true, cond_true, cond_false, Bool.and_self, Option.bind_some]
       cases pJ == []
       ·exact ⟨2, rfl, rfl, by decide⟩
       ·cases cz : ((jk.length : Int) == 0)
        ·exact ⟨2, rfl, rfl, by decide⟩
        ·rw [DC cz]
         cases (decide (1 ≤ N) && decide (N ≤ 7))
         ·exact ⟨4, rfl, rfl, by decide⟩
         ·cases decide (6 ≤ pl.scope)
          ·exact ⟨0, rfl, rfl, by decide⟩
          ·exact ⟨7, rfl, rfl, by decide⟩
      ·by_cases cc : K = 5
       ·subst cc
        simp only [Int.reduceBEq, Int.reduceLE, decide_true, decide_false, Bool.false_and, Bool.true_and, Bool.and_true, Bool.false_or, Bool.or_false, Bool.true_or, Bool.or_true, cond_true, cond_false, Bool.and_self, Option.bind_some]
        cases pJ == []
        ·exact ⟨2, rfl, rfl, by decide⟩
        ·cases ao : (decide (0 ≤ N) && decide (N ≤ (list.length : Int) - 1))
         ·exact ⟨4, rfl, rfl, by decide⟩
         ·simp only [Bool.and_eq_true, decide_eq_true_eq] at ao
          obtain ⟨i, rfl⟩ : ∃ i : Nat, N = i := ⟨N.toNat, by omega⟩
          rw [gx list i (by omega)]
          simp only [Option.bind_some, Bool.not_true, cond_false]
          have dB : ((jk.length : Int) != list[i].dj) = !((jk.length : Int) == list[i].dj) := rfl
          rw [dB]
          cases ((jk.length : Int) == list[i].dj)
          ·exact ⟨5, rfl, rfl, by decide⟩
          ·cases pl.behind
           ·exact ⟨6, rfl, rfl, by decide⟩
           ·cases qz ⟨5, i, pJ, jk⟩ pl.scope
            ·exact ⟨8, rfl, rfl, by decide⟩
            ·exact ⟨0, rfl, rfl, by decide⟩
       ·have gB : (K == 0) = false := by simpa using bc
        have a1 : (K == 1) = false := by simpa using af
        have bh : (K == 2) = false := by simpa using ai
        have a8 : (K == 3) = false := by simpa using aN
        have c6 : (K == 4) = false := by simpa using bk
        have da : (K == 5) = false := by simpa using cc
        have cv : (decide (0 ≤ K) && decide (K ≤ 5)) = false := by
         rw [Bool.and_eq_false_iff, decide_eq_false_iff_not, decide_eq_false_iff_not]; omega
        simp only [gB, a1, bh, a8, c6, da, cv, Bool.false_and, cond_false, Option.bind_some]
        exact ⟨2, rfl, rfl, by decide⟩
 exact awn _ aA rfl
end Go.eR
