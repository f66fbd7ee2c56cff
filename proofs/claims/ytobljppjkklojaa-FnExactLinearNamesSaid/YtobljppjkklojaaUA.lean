/- Part of a proof that a law returns true for every input. No condition. -/
import Derived.Test.YtobljppjkklojaaUG
import Derived.Test.YtobljppjkklojaaP19
namespace Go.fH
open Go Go.cM
def pF (t : a2) : Nat := if t.Kind = 2 then 2 else if t.Kind = 3 then 1 else 0
theorem FH (t : a2) : pF t ≤ 2 := by unfold pF; split <;> (try split) <;> omega
theorem FI (t : a2) : cond (t.Kind == 2) (some 2) (cond (t.Kind == 3) (some 1) (some 0)) = some (pF t : Int) := by
 unfold pF
 by_cases ab : t.Kind = 2
 ·simp [ab]
 ·by_cases aE : t.Kind = 3
  ·simp [aE]
  ·have aT : (t.Kind == 2) = false := by simpa using ab
   have bb : (t.Kind == 3) = false := by simpa using aE
   rw [aT, bb, if_neg ab, if_neg aE]; rfl
def g7 (n cy az : Int) : Bool := decide (cy ≤ n) && decide (n ≤ az)
def pG (t : a2) (v : Int) : Bool := cond (t.Kind == 0) (g7 t.Value 0 63) (cond (t.Kind == 1) (g7 t.Value 0 (v - 1)) (cond (t.Kind == 2) (g7 t.Value 0 8) (cond (t.Kind == 3) (t.Value == 0) false)))
def oa (v : Int) : List a2 → Nat → Bool
 | [], k => k == 0
 | t :: r, k => !(k == 0) && (pG t v && oa v r (k + pF t - 1))
def j_ (e : List a2) (v most : Int) : Bool := decide ((e.length : Int) ≤ most) && oa v e 1
theorem Zd (t : a2) (v : Int) (aG : -1000000 ≤ v ∧ v ≤ 1000000) : u4 t v = some (pG t v) := by
 unfold u4 mg pG g7
 rw [gH (v - 1) (by omega)]
 cases t.Kind == 0 <;> cases t.Kind == 1 <;> cases t.Kind == 2 <;> cases t.Kind == 3 <;> rfl
theorem Ze (t : a2) (v : Int) (aG : -1000000 ≤ v ∧ v ≤ 1000000) : vv t v = some (pG t v) := by
 unfold vv vk kW pG g7
 rw [gH (v - 1) (by omega)]
 cases t.Kind == 0 <;> cases t.Kind == 1 <;> cases t.Kind == 2 <;> cases t.Kind == 3 <;> rfl
theorem Zf (t : a2) : yT t = some (pF t : Int) := FI t
theorem Zg (t : a2) : y4 t = some (pF t : Int) := FI t
theorem FJ {k a : Nat} (aw : 1 ≤ k) (rI : k ≤ 100000000) (b1 : a ≤ 2) : IntKind.i64.wrap ((k : Int) + IntKind.i64.wrap ((a : Int) - 1)) = ((k + a - 1 : Nat) : Int) := by
 rw [gH ((a : Int) - 1) (by omega), gH _ (by omega)]; omega
theorem wD (k : Nat) : ((k : Int) == 0) = (k == 0) := by
 by_cases h : k = 0
 ·subst h; rfl
 ·have aa : ((k : Int) == 0) = false := by simp; omega
  have ab : (k == 0) = false := by simpa using h
  rw [aa, ab]
theorem FK (e : List a2) (v most : Int) (aG : -1000000 ≤ v ∧ v ≤ 1000000) (he : e.length ≤ 1048576) : sJ e v most = some (j_ e v most) := by
 unfold sJ j_
 by_cases hm : (e.length : Int) ≤ most
 ·have d1 : decide (most < (e.length : Int)) = false := by simp; omega
  have d2 : decide ((e.length : Int) ≤ most) = true := by simpa using hm
  rw [d1, d2, cond_false, Bool.true_and]
  have key : ∀ i, i ≤ e.length → ∀ (k : Nat) m, k ≤ 1 + 2 * i → e.length - i < m → pd e v m (k : Int) (i : Int) = some (oa v (e.drop i) k) := by
   refine down e.length ?_ ?_
   ·intro k m _ hm
    obtain ⟨m, rfl⟩ : ∃ ar, m = ar + 1 := ⟨m - 1, by omega⟩
    simp only [pd, u5]
    rw [gI (Nat.le_refl _), List.drop_of_length_le (Nat.le_refl _), wD]; rfl
   ·intro i az ih k m aw hm
    obtain ⟨m, rfl⟩ : ∃ ar, m = ar + 1 := ⟨m - 1, by omega⟩
    simp only [pd, u5]
    rw [h0 az, gT _ i az, hZ i _ az (by omega), drop_cons e i az, wD]
    simp only [cond_true, Option.bind_some, Zd _ v aG, Zf, oa]
    by_cases bp : k = 0
    ·subst bp; rfl
    ·have J : (k == 0) = false := by simpa using bp
     have b1 := FH e[i]
     rw [J, FJ (by omega) (by omega) b1, ih _ m (by omega) (by omega)]
     simp only [cond_false, Bool.not_false, Bool.true_and]
     cases pG e[i] v <;> rfl
  refine h1 (e.length + 1) fun m hm => ?_
  have := key 0 (by omega) 1 m (by omega) (by omega)
  simpa using this
 ·have d1 : decide (most < (e.length : Int)) = true := by simp; omega
  have d2 : decide ((e.length : Int) ≤ most) = false := by simpa using hm
  rw [d1, d2]; rfl
theorem ab5 (v : Int) : oa v [] 1 = false := rfl
theorem Zh (e : List a2) (v most : Int) (aG : 0 ≤ v ∧ v ≤ 29) (ab6 : 1 ≤ most ∧ most ≤ 60) (he : e.length ≤ 1048576) : vx e v most = some (j_ e v most) := by
 unfold vx kW j_
 have d1 : (!(decide (0 ≤ v) && decide (v ≤ 29))) = false := by simp; omega
 have d2 : (!(decide (1 ≤ most) && decide (most ≤ 60))) = false := by simp; omega
 simp only [Option.bind_some, d1, d2, cond_false]
 by_cases aa : e.length = 0
 ·have : e = [] := List.length_eq_zero_iff.1 aa
  subst this
  simp [oa]
 ·by_cases hm : (e.length : Int) ≤ most
  ·have d3 : (!(decide ((1 : Int) ≤ (e.length : Int)) && decide ((e.length : Int) ≤ most))) = false := by simp; omega
   have d4 : decide ((e.length : Int) ≤ most) = true := by simpa using hm
   rw [d3, d4, cond_false, Bool.true_and]
   have key : ∀ i, i ≤ e.length → ∀ (k : Nat) m, k ≤ 1 + 2 * i → e.length - i < m → ph e v m (k : Int) (i : Int) = some (oa v (e.drop i) k) := by
    refine down e.length ?_ ?_
    ·intro k m _ hm
     obtain ⟨m, rfl⟩ : ∃ ar, m = ar + 1 := ⟨m - 1, by omega⟩
     simp only [ph, vw]
     rw [gI (Nat.le_refl _), List.drop_of_length_le (Nat.le_refl _), wD]; rfl
    ·intro i az ih k m aw hm
     obtain ⟨m, rfl⟩ : ∃ ar, m = ar + 1 := ⟨m - 1, by omega⟩
     simp only [ph, vw]
     rw [h0 az, gT _ i az, hZ i _ az (by omega), drop_cons e i az, wD]
     simp only [cond_true, Option.bind_some, Ze _ v (by omega), Zg, oa]
     by_cases bp : k = 0
     ·subst bp; rfl
     ·have J : (k == 0) = false := by simpa using bp
      have b1 := FH e[i]
      rw [J, FJ (by omega) (by omega) b1, ih _ m (by omega) (by omega)]
      simp only [cond_false, Bool.not_false, Bool.true_and]
      cases pG e[i] v <;> rfl
   refine h1 (e.length + 1) fun m hm => ?_
   have := key 0 (by omega) 1 m (by omega) (by omega)
   simpa using this
  ·have d3 : (!(decide ((1 : Int) ≤ (e.length : Int)) && decide ((e.length : Int) ≤ most))) = true := by simp; omega
   have d4 : decide ((e.length : Int) ≤ most) = false := by simpa using hm
   rw [d3, d4]; rfl
end Go.fH
