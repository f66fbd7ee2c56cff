/- Part of a proof that a law returns true for every input. No condition. -/
import Derived.Test.YtbemmmimelklkaaGreatUG
import Derived.Test.YtbemmmimelklkaaGreatP6
namespace Go.eR
open Go Go.c5
def tD (t : bW) : Nat := if t.Kind = 2 then 2 else if t.Kind = 3 then 1 else 0
theorem ON (t : bW) : tD t ≤ 2 := by unfold tD; split <;> (try split) <;> omega
theorem OO (t : bW) : cond (t.Kind == 2) (some 2) (cond (t.Kind == 3) (some 1) (some 0)) = some (tD t : Int) := by
 unfold tD
 by_cases ai : t.Kind = 2
 ·simp [ai]
 ·by_cases aN : t.Kind = 3
  ·simp [aN]
  ·have bh : (t.Kind == 2) = false := by simpa using ai
   have a8 : (t.Kind == 3) = false := by simpa using aN
   rw [bh, a8, if_neg ai, if_neg aN]; rfl
def qx (n dn ao : Int) : Bool := decide (dn ≤ n) && decide (n ≤ ao)
def tE (t : bW) (v : Int) : Bool := cond (t.Kind == 0) (qx t.Value 0 63) (cond (t.Kind == 1) (qx t.Value 0 (v - 1)) (cond (t.Kind == 2) (qx t.Value 0 8) (cond (t.Kind == 3) (t.Value == 0) false)))
def rJ (v : Int) : List bW → Nat → Bool
 | [], k => k == 0
 | t :: r, k => !(k == 0) && (tE t v && rJ v r (k + tD t - 1))
def tF (e : List bW) (v most : Int) : Bool := decide ((e.length : Int) ≤ most) && rJ v e 1
theorem avQ (t : bW) (v : Int) (aR : -1000000 ≤ v ∧ v ≤ 1000000) : Bp t v = some (tE t v) := by
 unfold Bp lz tE qx
 rw [fU (v - 1) (by omega)]
 cases t.Kind == 0 <;> cases t.Kind == 1 <;> cases t.Kind == 2 <;> cases t.Kind == 3 <;> rfl
theorem avR (t : bW) (v : Int) (aR : -1000000 ≤ v ∧ v ≤ 1000000) : B3 t v = some (tE t v) := by
 unfold B3 yf jt tE qx
 rw [fU (v - 1) (by omega)]
 cases t.Kind == 0 <;> cases t.Kind == 1 <;> cases t.Kind == 2 <;> cases t.Kind == 3 <;> rfl
theorem avS (t : bW) : Gb t = some (tD t : Int) := OO t
theorem avT (t : bW) : Gl t = some (tD t : Int) := OO t
theorem OP {k a : Nat} (aD : 1 ≤ k) (r0 : k ≤ 100000000) (cz : a ≤ 2) : IntKind.i64.wrap ((k : Int) + IntKind.i64.wrap ((a : Int) - 1)) = ((k + a - 1 : Nat) : Int) := by
 rw [fU ((a : Int) - 1) (by omega), fU _ (by omega)]; omega
theorem wq (k : Nat) : ((k : Int) == 0) = (k == 0) := by
 by_cases h : k = 0
 ·subst h; rfl
 ·have af : ((k : Int) == 0) = false := by simp; omega
  have ai : (k == 0) = false := by simpa using h
  rw [af, ai]
theorem avU (e : List bW) (v most : Int) (aR : -1000000 ≤ v ∧ v ≤ 1000000) (he : e.length ≤ 1048576) : Br e v most = some (tF e v most) := by
 unfold Br tF
 by_cases hm : (e.length : Int) ≤ most
 ·have d1 : decide (most < (e.length : Int)) = false := by simp; omega
  have d2 : decide ((e.length : Int) ≤ most) = true := by simpa using hm
  rw [d1, d2, cond_false, Bool.true_and]
  have key : ∀ i, i ≤ e.length → ∀ (k : Nat) m, k ≤ 1 + 2 * i → e.length - i < m → sI e v m (k : Int) (i : Int) = some (rJ v (e.drop i) k) := by
   refine down e.length ?_ ?_
   ·intro k m _ hm
    obtain ⟨m, rfl⟩ : ∃ j, m = j + 1 := ⟨m - 1, by omega⟩
    simp only [sI, Bq]
    rw [fa (Nat.le_refl _), List.drop_of_length_le (Nat.le_refl _), wq]; rfl
   ·intro i ao ih k m aD hm
    obtain ⟨m, rfl⟩ : ∃ j, m = j + 1 := ⟨m - 1, by omega⟩
    simp only [sI, Bq]
    rw [fB ao, gx _ i ao, fA i _ ao (by omega), drop_cons e i ao, wq]
    simp only [cond_true, Option.bind_some, avQ _ v aR, avS, rJ]
    by_cases bc : k = 0
    ·subst bc; rfl
    ·have ad : (k == 0) = false := by simpa using bc
     have cz := ON e[i]
     rw [ad, OP (by omega) (by omega) cz, ih _ m (by omega) (by omega)]
     simp only [cond_false, Bool.not_false, Bool.true_and]
     cases tE e[i] v <;> rfl
  refine hP (e.length + 1) fun m hm => ?_
  have := key 0 (by omega) 1 m (by omega) (by omega)
  simpa using this
 ·have d1 : decide (most < (e.length : Int)) = true := by simp; omega
  have d2 : decide ((e.length : Int) ≤ most) = false := by simpa using hm
  rw [d1, d2]; rfl
theorem azu (v : Int) : rJ v [] 1 = false := rfl
theorem avV (e : List bW) (v most : Int) (aR : 0 ≤ v ∧ v ≤ 29) (azv : 1 ≤ most ∧ most ≤ 60) (he : e.length ≤ 1048576) : B5 e v most = some (tF e v most) := by
 unfold B5 jt tF
 have d1 : (!(decide (0 ≤ v) && decide (v ≤ 29))) = false := by simp; omega
 have d2 : (!(decide (1 ≤ most) && decide (most ≤ 60))) = false := by simp; omega
 simp only [Option.bind_some, d1, d2, cond_false]
 by_cases af : e.length = 0
 ·have : e = [] := List.length_eq_zero_iff.1 af
  subst this
  simp [rJ]
 ·by_cases hm : (e.length : Int) ≤ most
  ·have d3 : (!(decide ((1 : Int) ≤ (e.length : Int)) && decide ((e.length : Int) ≤ most))) = false := by simp; omega
   have d4 : decide ((e.length : Int) ≤ most) = true := by simpa using hm
   rw [d3, d4, cond_false, Bool.true_and]
   have key : ∀ i, i ≤ e.length → ∀ (k : Nat) m, k ≤ 1 + 2 * i → e.length - i < m → sT e v m (k : Int) (i : Int) = some (rJ v (e.drop i) k) := by
    refine down e.length ?_ ?_
    ·intro k m _ hm
     obtain ⟨m, rfl⟩ : ∃ j, m = j + 1 := ⟨m - 1, by omega⟩
     simp only [sT, B4]
     rw [fa (Nat.le_refl _), List.drop_of_length_le (Nat.le_refl _), wq]; rfl
    ·intro i ao ih k m aD hm
     obtain ⟨m, rfl⟩ : ∃ j, m = j + 1 := ⟨m - 1, by omega⟩
     simp only [sT, B4]
     rw [fB ao, gx _ i ao, fA i _ ao (by omega), drop_cons e i ao, wq]
     simp only [cond_true, Option.bind_some, avR _ v (by omega), avT, rJ]
     by_cases bc : k = 0
     ·subst bc; rfl
     ·have ad : (k == 0) = false := by simpa using bc
      have cz := ON e[i]
      rw [ad, OP (by omega) (by omega) cz, ih _ m (by omega) (by omega)]
      simp only [cond_false, Bool.not_false, Bool.true_and]
      cases tE e[i] v <;> rfl
   refine hP (e.length + 1) fun m hm => ?_
   have := key 0 (by omega) 1 m (by omega) (by omega)
   simpa using this
  ·have d3 : (!(decide ((1 : Int) ≤ (e.length : Int)) && decide ((e.length : Int) ≤ most))) = true := by simp; omega
   have d4 : decide ((e.length : Int) ≤ most) = false := by simpa using hm
   rw [d3, d4]; rfl
end Go.eR
