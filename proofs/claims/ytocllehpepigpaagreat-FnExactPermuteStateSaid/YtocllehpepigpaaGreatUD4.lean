/- Part of a proof that a law returns true for every input. No condition. -/
import Derived.Test.YtocllehpepigpaaGreatUD3
namespace Go.e1
open Go Go.dg
theorem az2 {l : Nat → Int → Option Int} {n : Nat} (p : Nat → Bool) (pz bad : Int) (bf : ∀ m, l (m + 1) (n : Int) = some pz)
  (af : ∀ i, i < n → ∀ m, l (m + 1) (i : Int) = cond (p i) (l m ((i + 1 : Nat) : Int)) (some bad)) : lim (fun m => l m 0) = some (cond (fL p n) pz bad) := by
 rw [uc (n := n) (fun i => some (cond ((List.range' i (n - i)).all p) pz bad))]
 ·simp [fL, List.range_eq_range']
 ·intro m; rw [bf]; simp
 ·intro i au m ih
  rw [af i au, ih, show n - i = (n - (i + 1)) + 1 by omega, List.range'_succ]
  cases az : p i <;> simp [az]
def zQ (p : bJ) : Prop := p.Name.length ≤ 1048576 ∧ p.cO.length ≤ 1048576 ∧ ∀ e ∈ p.cO, e.length ≤ 1048576
def q4 (p : bJ) (dN : Int) : Bool := fL (fun i => uo (p.cO.getD i []) dN 15) p.cO.length
theorem az3 (p : bJ) (az : zQ p) (dN : Int) (h : 0 ≤ dN ∧ dN ≤ 29) : lim (fun n => rO p n dN 0) = some (cond (q4 p dN) 0 8) := by
 refine az2 (l := fun m i => rO p m dN i) _ _ _ (fun m => ?_) (fun i au m => ?_)
 ·simp only [rO, BQ]
  rw [fD (Nat.le_refl _)]; rfl
 ·simp only [rO, BQ]
  rw [gT au, lV _ i [] au, gS i _ au (by have := az.2.1; omega)]
  simp only [cond_true, Option.bind_some]
  rw [azF _ dN 15 (by omega) (by
   have : p.cO.getD i [] = p.cO[i] := by simp [List.getD, au]
   rw [this]; exact az.2.2 _ (List.getElem_mem au))]
  simp only [Option.bind_some]
  cases uo (p.cO.getD i []) dN 15 <;> rfl
theorem az4 (p : bJ) (az : zQ p) (pl : cM) (h : 0 ≤ pl.scope ∧ pl.scope ≤ 29) : Co p.cO pl = some (!(q4 p pl.scope)) := by
 unfold Co GP
 rw [uh (n := p.cO.length) (fun i => !uo (p.cO.getD i []) pl.scope 15)]
 ·simp only [Option.bind_some, ug, Bool.not_not]; rfl
 ·intro m
  simp only [v8, Cn]
  rw [fD (Nat.le_refl _)]; rfl
 ·intro i au m
  simp only [v8, Cn]
  rw [gT au, lV _ i [] au, gS i _ au (by have := az.2.1; omega)]
  simp only [cond_true, Option.bind_some, GO]
  rw [azG _ pl.scope 15 h (by omega) (by
   have : p.cO.getD i [] = p.cO[i] := by simp [List.getD, au]
   rw [this]; exact az.2.2 _ (List.getElem_mem au))]
  simp only [Option.bind_some]
theorem P8 (s : List UInt8) (af : s.length ≤ 1048576) : qH s = some (kO s && !(s == ([116, 97, 117] : List UInt8))) := by
 unfold qH
 rw [PQ s (by omega)]; rfl
theorem az5 {s : List UInt8} (h : (s == ([116, 97, 117] : List UInt8)) = true) : kO s = true := by
 have : s = [116, 97, 117] := by simpa using h
 subst this; decide
theorem DZ (n : Int) (l : Nat) (hl : l ≤ 1048576) : rS n (l : Int) = some (decide (0 ≤ n) && decide (n ≤ (l : Int) - 1)) := by
 unfold rS jQ
 rw [fK ((l : Int) - 1) (by omega)]; rfl
theorem az6 (list : List bk) (hl : list.length ≤ 4) (d : bk) (at_ : Nat) (az7 : at_ < d.Body.length) (ad : d.Body.length ≤ 20) (az : zQ d.Body[at_]) (pl : cM)
  (rh : rN d (at_ : Int) = some pl.scope) (P9 : 0 ≤ pl.scope ∧ pl.scope ≤ 29)
  (r8 : pl.behind = Ij d.Body at_) :
  ∃ r, yE list d (at_ : Int) = some r ∧ yU d.Body[at_] list pl = some r ∧ 0 ≤ r := by
 have az8 : ∀ p, zQ p → p = d.Body[at_] → ∃ r, yE list d (at_ : Int) = some r ∧ yU p list pl = some r ∧ 0 ≤ r := by
  intro p az Eu
  have Gk := az3 p az pl.scope P9
  have AS := az4 p az pl P9
  have Ik := P8 p.Name az.1
  have az9 := Ib p.Name
  have az_ : s9 d (at_ : Int) p = some (cond ((p.Kind == 5) && !pl.behind) 6 (cond ((p.Kind == 4) && decide (6 ≤ pl.scope)) 7 (cond (q4 p pl.scope) 0 8))) := by
   have aAa : ∀ v, vW d (at_ : Int) p v = some (cond v 6 (cond ((p.Kind == 4) && decide (6 ≤ pl.scope)) 7 (cond (q4 p pl.scope) 0 8))) := by
    intro v
    unfold vW
    rw [rh]
    simp only [Option.bind_some, Gk]
    cases v <;> cases (p.Kind == 4 && decide (6 ≤ pl.scope)) <;> rfl
   unfold s9
   simp only [aAa]
   cases at_ with
   | zero =>
     replace r8 : pl.behind = false := r8
     rw [r8]
     simp only [Bool.not_false, Bool.and_true]
     cases p.Kind == 5 <;> rfl
   | succ q =>
     have c4 : q < d.Body.length := by omega
     have g4 : (((q + 1 : Nat) : Int) == 0) = false := by rw [beq_eq_false_iff_ne]; omega
     rw [g4, zN (q + 1) (by omega) (by omega), show q + 1 - 1 = q from rfl, hW _ q c4]
     replace r8 : pl.behind = (match d.Body[q]? with | some p => p.Kind == 1 | none => false) := r8
     rw [List.getElem?_eq_getElem c4] at r8
     simp only [cond_false, Option.bind_some]
     simp only at r8
     rw [r8]
     have dL : (d.Body[q].Kind != 1) = !(d.Body[q].Kind == 1) := rfl
     rw [dL]
     cases p.Kind == 5 <;> cases d.Body[q].Kind == 1 <;> rfl
  have pT : bK d.Body (at_ : Int) = some p := by rw [hW _ at_ az7, Eu]
  have D0 : ((p.cO.length : Int) == 0) = true → q4 p pl.scope = true := by
   intro h
   have : p.cO.length = 0 := by simpa using h
   unfold q4; rw [this]; rfl
  unfold yE yU GL GA BJ
  rw [pT]
  simp only [BR, s_, yS, tl, Option.bind_some, az_, AS, Ik, az9, jQ, kF, DZ _ _ (show list.length ≤ 1048576 by omega), GM]
  rw [fK ((list.length : Int) - 1) (by omega)]
  obtain ⟨K, N, qb, jJ⟩ := p
  simp only at *
  by_cases bf : K = 0
  ·subst bf
   simp only [Int.reduceBEq, Int.reduceLE, decide_true, decide_false, Bool.false_and, Bool.true_and, Bool.and_true, Bool.false_or, Bool.or_false, cond_true, cond_false, Bool.and_self, Option.bind_some]
   cases N == 0
   ·exact ⟨2, rfl, rfl, by decide⟩
   ·cases qb == []
    ·exact ⟨2, rfl, rfl, by decide⟩
    ·cases cJ : ((jJ.length : Int) == 0)
     ·exact ⟨2, rfl, rfl, by decide⟩
     ·simp only [Bool.and_true, Bool.not_true, Bool.not_false, cond_true, cond_false, D0 cJ]
      exact ⟨0, rfl, rfl, by decide⟩
  ·by_cases ae : K = 1
   ·subst ae
    simp only [Int.reduceBEq, Int.reduceLE, decide_true, decide_false, Bool.false_and, Bool.true_and, Bool.and_true, Bool.false_or, Bool.or_false, Bool.true_or, cond_true, cond_false, Bool.and_self, Option.bind_some]
    cases N == 0
    ·exact ⟨2, rfl, rfl, by decide⟩
    ·simp only [Bool.not_true, cond_false]
     cases bo : (qb == ([116, 97, 117] : List UInt8))
     ·simp only [Bool.not_false, Bool.and_true, cond_true]
      cases kO qb
      ·exact ⟨3, rfl, rfl, by decide⟩
      ·simp only [Bool.not_true, cond_false, Bool.and_false, Bool.or_false, Bool.true_and]
       by_cases a_ : jJ.length ≤ 2
       ·have aU : decide ((2 : Int) < (jJ.length : Int)) = false := decide_eq_false (by omega)
        have ba : decide ((jJ.length : Int) ≤ 2) = true := decide_eq_true (by omega)
        rw [aU, ba, Bool.or_true]
        cases q4 ⟨1, N, qb, jJ⟩ pl.scope
        ·exact ⟨8, rfl, rfl, by decide⟩
        ·exact ⟨0, rfl, rfl, by decide⟩
       ·have aU : decide ((2 : Int) < (jJ.length : Int)) = true := decide_eq_true (by omega)
        have ba : decide ((jJ.length : Int) ≤ 2) = false := decide_eq_false (by omega)
        have aW : ((jJ.length : Int) == 0) = false := by rw [beq_eq_false_iff_ne]; omega
        rw [aU, ba, aW]
        exact ⟨5, rfl, rfl, by decide⟩
     ·rw [az5 bo]
      simp only [Bool.not_true, cond_false, Bool.and_true, Bool.false_and, Bool.or_false]
      by_cases a_ : jJ.length = 0
      ·have aU : decide ((2 : Int) < (jJ.length : Int)) = false := decide_eq_false (by omega)
       have ba : decide ((0 : Int) < (jJ.length : Int)) = false := decide_eq_false (by omega)
       have aW : ((jJ.length : Int) == 0) = true := by rw [a_]; rfl
       rw [aU, ba, D0 aW, aW]
       exact ⟨0, rfl, rfl, by decide⟩
      ·have ba : decide ((0 : Int) < (jJ.length : Int)) = true := decide_eq_true (by omega)
       have aW : ((jJ.length : Int) == 0) = false := by rw [beq_eq_false_iff_ne]; omega
       rw [ba, aW, Bool.or_true]
       exact ⟨5, rfl, rfl, by decide⟩
   ·by_cases ah : K = 2
    ·subst ah
     simp only [Int.reduceBEq, Int.reduceLE, decide_true, decide_false, Bool.false_and, Bool.true_and, Bool.and_true, Bool.false_or, Bool.or_false, cond_true, cond_false, Bool.and_self, Option.bind_some]
     cases N == 0
     ·exact ⟨2, rfl, rfl, by decide⟩
     ·cases qb == []
      ·exact ⟨2, rfl, rfl, by decide⟩
      ·cases cJ : ((jJ.length : Int) == 0)
       ·exact ⟨2, rfl, rfl, by decide⟩
       ·simp only [Bool.and_true, Bool.not_true, Bool.not_false, cond_true, cond_false, D0 cJ]
        exact ⟨0, rfl, rfl, by decide⟩
    ·by_cases aH : K = 3
     ·subst aH
      simp only [Int.reduceBEq, Int.reduceLE, decide_true, decide_false, Bool.false_and, Bool.true_and, Bool.and_true, Bool.false_or, Bool.or_false, Bool.true_or, Bool.or_true, cond_true, cond_false, Bool.and_self, Option.bind_some]
      cases N == 0
      ·exact ⟨2, rfl, rfl, by decide⟩
      ·cases qb == []
       ·exact ⟨2, rfl, rfl, by decide⟩
       ·have dL : ((jJ.length : Int) != 1) = !((jJ.length : Int) == 1) := rfl
        rw [dL]
        cases ((jJ.length : Int) == 1)
        ·exact ⟨5, rfl, rfl, by decide⟩
        ·cases q4 ⟨3, N, qb, jJ⟩ pl.scope
         ·exact ⟨8, rfl, rfl, by decide⟩
         ·exact ⟨0, rfl, rfl, by decide⟩
     ·by_cases a6 : K = 4
      ·subst a6
       simp only [Int.reduceBEq, Int.reduceLE, decide_true, decide_false, Bool.false_and, Bool.true_and, Bool.and_true, Bool.false_or, Bool.or_false, Bool.true_or, Bool.or_true, cond_true, cond_false, Bool.and_self, Option.bind_some]
       cases qb == []
       ·exact ⟨2, rfl, rfl, by decide⟩
       ·cases cJ : ((jJ.length : Int) == 0)
        ·exact ⟨2, rfl, rfl, by decide⟩
        ·rw [D0 cJ]
         cases (decide (1 ≤ N) && decide (N ≤ 7))
         ·exact ⟨4, rfl, rfl, by decide⟩
         ·cases decide (6 ≤ pl.scope)
          ·exact ⟨0, rfl, rfl, by decide⟩
          ·exact ⟨7, rfl, rfl, by decide⟩
      ·by_cases bN : K = 5
       ·subst bN
        simp only [Int.reduceBEq, Int.reduceLE, decide_true, decide_false, Bool.false_and, Bool.true_and, Bool.and_true, Bool.false_or, Bool.or_false, Bool.true_or, Bool.or_true, cond_true, cond_false, Bool.and_self, Option.bind_some]
        cases qb == []
        ·exact ⟨2, rfl, rfl, by decide⟩
        ·cases au : (decide (0 ≤ N) && decide (N ≤ (list.length : Int) - 1))
         ·exact ⟨4, rfl, rfl, by decide⟩
         ·simp only [Bool.and_eq_true, decide_eq_true_eq] at au
          obtain ⟨i, rfl⟩ : ∃ i : Nat, N = i := ⟨N.toNat, by omega⟩
          rw [hW list i (by omega)]
          simp only [Option.bind_some, Bool.not_true, cond_false]
          have dL : ((jJ.length : Int) != list[i].dw) = !((jJ.length : Int) == list[i].dw) := rfl
          rw [dL]
          cases ((jJ.length : Int) == list[i].dw)
          ·exact ⟨5, rfl, rfl, by decide⟩
          ·cases pl.behind
           ·exact ⟨6, rfl, rfl, by decide⟩
           ·cases q4 ⟨5, i, qb, jJ⟩ pl.scope
            ·exact ⟨8, rfl, rfl, by decide⟩
            ·exact ⟨0, rfl, rfl, by decide⟩
       ·have g4 : (K == 0) = false := by simpa using bf
        have aU : (K == 1) = false := by simpa using ae
        have ba : (K == 2) = false := by simpa using ah
        have aW : (K == 3) = false := by simpa using aH
        have cS : (K == 4) = false := by simpa using a6
        have cZ : (K == 5) = false := by simpa using bN
        have cn : (decide (0 ≤ K) && decide (K ≤ 5)) = false := by
         rw [Bool.and_eq_false_iff, decide_eq_false_iff_not, decide_eq_false_iff_not]; omega
        simp only [g4, aU, ba, aW, cS, cZ, cn, Bool.false_and, cond_false, Option.bind_some]
        exact ⟨2, rfl, rfl, by decide⟩
 exact az8 _ az rfl
end Go.e1
