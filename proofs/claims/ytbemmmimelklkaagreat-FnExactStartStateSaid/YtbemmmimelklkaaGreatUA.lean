/- Part of a proof that a law returns true for every input. No condition. -/
import Derived.Test.YtbemmmimelklkaaGreatUG
import Derived.Test.YtbemmmimelklkaaGreatP5
namespace Go.f_
open Go Go.dk
def sK (t : bP) : Nat := if t.Kind = 2 then 2 else if t.Kind = 3 then 1 else 0
theorem Mw (t : bP) : sK t ≤ 2 := by unfold sK; split <;> (try split) <;> omega
theorem Mx (t : bP) : cond (t.Kind == 2) (some 2) (cond (t.Kind == 3) (some 1) (some 0)) = some (sK t : Int) := by
 unfold sK
 by_cases aj : t.Kind = 2
 ·simp [aj]
 ·by_cases aQ : t.Kind = 3
  ·simp [aQ]
  ·have a_ : (t.Kind == 2) = false := by simpa using aj
   have a2 : (t.Kind == 3) = false := by simpa using aQ
   rw [a_, a2, if_neg aj, if_neg aQ]; rfl
def pK (n dg au : Int) : Bool := decide (dg ≤ n) && decide (n ≤ au)
def sL (t : bP) (v : Int) : Bool := cond (t.Kind == 0) (pK t.Value 0 63) (cond (t.Kind == 1) (pK t.Value 0 (v - 1)) (cond (t.Kind == 2) (pK t.Value 0 8) (cond (t.Kind == 3) (t.Value == 0) false)))
def qM (v : Int) : List bP → Nat → Bool
 | [], k => k == 0
 | t :: r, k => !(k == 0) && (sL t v && qM v r (k + sK t - 1))
def sM (e : List bP) (v most : Int) : Bool := decide ((e.length : Int) ≤ most) && qM v e 1
theorem ati (t : bP) (v : Int) (a3 : -1000000 ≤ v ∧ v ≤ 1000000) : z1 t v = some (sL t v) := by
 unfold z1 lH sL pK
 rw [fQ (v - 1) (by omega)]
 cases t.Kind == 0 <;> cases t.Kind == 1 <;> cases t.Kind == 2 <;> cases t.Kind == 3 <;> rfl
theorem atj (t : bP) (v : Int) (a3 : -1000000 ≤ v ∧ v ≤ 1000000) : Ax t v = some (sL t v) := by
 unfold Ax wX jc sL pK
 rw [fQ (v - 1) (by omega)]
 cases t.Kind == 0 <;> cases t.Kind == 1 <;> cases t.Kind == 2 <;> cases t.Kind == 3 <;> rfl
theorem atk (t : bP) : Ev t = some (sK t : Int) := Mx t
theorem atl (t : bP) : EF t = some (sK t : Int) := Mx t
theorem My {k a : Nat} (aE : 1 ≤ k) (qW : k ≤ 100000000) (cw : a ≤ 2) : IntKind.i64.wrap ((k : Int) + IntKind.i64.wrap ((a : Int) - 1)) = ((k + a - 1 : Nat) : Int) := by
 rw [fQ ((a : Int) - 1) (by omega), fQ _ (by omega)]; omega
theorem u2 (k : Nat) : ((k : Int) == 0) = (k == 0) := by
 by_cases h : k = 0
 ·subst h; rfl
 ·have ai : ((k : Int) == 0) = false := by simp; omega
  have aj : (k == 0) = false := by simpa using h
  rw [ai, aj]
theorem atm (e : List bP) (v most : Int) (a3 : -1000000 ≤ v ∧ v ≤ 1000000) (he : e.length ≤ 1048576) : z3 e v most = some (sM e v most) := by
 unfold z3 sM
 by_cases hm : (e.length : Int) ≤ most
 ·have d1 : decide (most < (e.length : Int)) = false := by simp; omega
  have d2 : decide ((e.length : Int) ≤ most) = true := by simpa using hm
  rw [d1, d2, cond_false, Bool.true_and]
  have key : ∀ i, i ≤ e.length → ∀ (k : Nat) m, k ≤ 1 + 2 * i → e.length - i < m → rS e v m (k : Int) (i : Int) = some (qM v (e.drop i) k) := by
   refine down e.length ?_ ?_
   ·intro k m _ hm
    obtain ⟨m, rfl⟩ : ∃ j, m = j + 1 := ⟨m - 1, by omega⟩
    simp only [rS, z2]
    rw [fH (Nat.le_refl _), List.drop_of_length_le (Nat.le_refl _), u2]; rfl
   ·intro i au ih k m aE hm
    obtain ⟨m, rfl⟩ : ∃ j, m = j + 1 := ⟨m - 1, by omega⟩
    simp only [rS, z2]
    rw [gM au, h2 _ i au, gL i _ au (by omega), drop_cons e i au, u2]
    simp only [cond_true, Option.bind_some, ati _ v a3, atk, qM]
    by_cases a9 : k = 0
    ·subst a9; rfl
    ·have ae : (k == 0) = false := by simpa using a9
     have cw := Mw e[i]
     rw [ae, My (by omega) (by omega) cw, ih _ m (by omega) (by omega)]
     simp only [cond_false, Bool.not_false, Bool.true_and]
     cases sL e[i] v <;> rfl
  refine iS (e.length + 1) fun m hm => ?_
  have := key 0 (by omega) 1 m (by omega) (by omega)
  simpa using this
 ·have d1 : decide (most < (e.length : Int)) = true := by simp; omega
  have d2 : decide ((e.length : Int) ≤ most) = false := by simpa using hm
  rw [d1, d2]; rfl
theorem awE (v : Int) : qM v [] 1 = false := rfl
theorem atn (e : List bP) (v most : Int) (a3 : 0 ≤ v ∧ v ≤ 29) (awF : 1 ≤ most ∧ most ≤ 60) (he : e.length ≤ 1048576) : Az e v most = some (sM e v most) := by
 unfold Az jc sM
 have d1 : (!(decide (0 ≤ v) && decide (v ≤ 29))) = false := by simp; omega
 have d2 : (!(decide (1 ≤ most) && decide (most ≤ 60))) = false := by simp; omega
 simp only [Option.bind_some, d1, d2, cond_false]
 by_cases ai : e.length = 0
 ·have : e = [] := List.length_eq_zero_iff.1 ai
  subst this
  simp [qM]
 ·by_cases hm : (e.length : Int) ≤ most
  ·have d3 : (!(decide ((1 : Int) ≤ (e.length : Int)) && decide ((e.length : Int) ≤ most))) = false := by simp; omega
   have d4 : decide ((e.length : Int) ≤ most) = true := by simpa using hm
   rw [d3, d4, cond_false, Bool.true_and]
   have key : ∀ i, i ≤ e.length → ∀ (k : Nat) m, k ≤ 1 + 2 * i → e.length - i < m → r4 e v m (k : Int) (i : Int) = some (qM v (e.drop i) k) := by
    refine down e.length ?_ ?_
    ·intro k m _ hm
     obtain ⟨m, rfl⟩ : ∃ j, m = j + 1 := ⟨m - 1, by omega⟩
     simp only [r4, Ay]
     rw [fH (Nat.le_refl _), List.drop_of_length_le (Nat.le_refl _), u2]; rfl
    ·intro i au ih k m aE hm
     obtain ⟨m, rfl⟩ : ∃ j, m = j + 1 := ⟨m - 1, by omega⟩
     simp only [r4, Ay]
     rw [gM au, h2 _ i au, gL i _ au (by omega), drop_cons e i au, u2]
     simp only [cond_true, Option.bind_some, atj _ v (by omega), atl, qM]
     by_cases a9 : k = 0
     ·subst a9; rfl
     ·have ae : (k == 0) = false := by simpa using a9
      have cw := Mw e[i]
      rw [ae, My (by omega) (by omega) cw, ih _ m (by omega) (by omega)]
      simp only [cond_false, Bool.not_false, Bool.true_and]
      cases sL e[i] v <;> rfl
   refine iS (e.length + 1) fun m hm => ?_
   have := key 0 (by omega) 1 m (by omega) (by omega)
   simpa using this
  ·have d3 : (!(decide ((1 : Int) ≤ (e.length : Int)) && decide ((e.length : Int) ≤ most))) = true := by simp; omega
   have d4 : decide ((e.length : Int) ≤ most) = false := by simpa using hm
   rw [d3, d4]; rfl
end Go.f_
