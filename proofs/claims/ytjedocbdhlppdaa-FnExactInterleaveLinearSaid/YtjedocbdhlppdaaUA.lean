/- Part of a proof that a law returns true for every input. No condition. -/
import Derived.Test.YtjedocbdhlppdaaUG
import Derived.Test.YtjedocbdhlppdaaP8
namespace Go.gV
open Go Go.dp
def rX (t : aA) : Nat := if t.Kind = 2 then 2 else if t.Kind = 3 then 1 else 0
theorem Kj (t : aA) : rX t ≤ 2 := by unfold rX; split <;> (try split) <;> omega
theorem Kk (t : aA) : cond (t.Kind == 2) (some 2) (cond (t.Kind == 3) (some 1) (some 0)) = some (rX t : Int) := by
 unfold rX
 by_cases ah : t.Kind = 2
 ·simp [ah]
 ·by_cases aM : t.Kind = 3
  ·simp [aM]
  ·have bg : (t.Kind == 2) = false := by simpa using ah
   have bf : (t.Kind == 3) = false := by simpa using aM
   rw [bg, bf, if_neg ah, if_neg aM]; rfl
def h7 (n cW au : Int) : Bool := decide (cW ≤ n) && decide (n ≤ au)
def rY (t : aA) (v : Int) : Bool := cond (t.Kind == 0) (h7 t.Value 0 63) (cond (t.Kind == 1) (h7 t.Value 0 (v - 1)) (cond (t.Kind == 2) (h7 t.Value 0 8) (cond (t.Kind == 3) (t.Value == 0) false)))
def qo (v : Int) : List aA → Nat → Bool
 | [], k => k == 0
 | t :: r, k => !(k == 0) && (rY t v && qo v r (k + rX t - 1))
def kH (e : List aA) (v most : Int) : Bool := decide ((e.length : Int) ≤ most) && qo v e 1
theorem ail (t : aA) (v : Int) (aQ : -1000000 ≤ v ∧ v ≤ 1000000) : x5 t v = some (rY t v) := by
 unfold x5 nC rY h7
 rw [hi (v - 1) (by omega)]
 cases t.Kind == 0 <;> cases t.Kind == 1 <;> cases t.Kind == 2 <;> cases t.Kind == 3 <;> rfl
theorem aim (t : aA) (v : Int) (aQ : -1000000 ≤ v ∧ v ≤ 1000000) : yv t v = some (rY t v) := by
 unfold yv ym mn rY h7
 rw [hi (v - 1) (by omega)]
 cases t.Kind == 0 <;> cases t.Kind == 1 <;> cases t.Kind == 2 <;> cases t.Kind == 3 <;> rfl
theorem ain (t : aA) : Cg t = some (rX t : Int) := Kk t
theorem aio (t : aA) : Ct t = some (rX t : Int) := Kk t
theorem Kl {k a : Nat} (aB : 1 ≤ k) (oz : k ≤ 100000000) (bX : a ≤ 2) : IntKind.i64.wrap ((k : Int) + IntKind.i64.wrap ((a : Int) - 1)) = ((k + a - 1 : Nat) : Int) := by
 rw [hi ((a : Int) - 1) (by omega), hi _ (by omega)]; omega
theorem zP (k : Nat) : ((k : Int) == 0) = (k == 0) := by
 by_cases h : k = 0
 ·subst h; rfl
 ·have ag : ((k : Int) == 0) = false := by simp; omega
  have ah : (k == 0) = false := by simpa using h
  rw [ag, ah]
theorem Km (e : List aA) (v most : Int) (aQ : -1000000 ≤ v ∧ v ≤ 1000000) (he : e.length ≤ 1048576) : vd e v most = some (kH e v most) := by
 unfold vd kH
 by_cases hm : (e.length : Int) ≤ most
 ·have d1 : decide (most < (e.length : Int)) = false := by simp; omega
  have d2 : decide ((e.length : Int) ≤ most) = true := by simpa using hm
  rw [d1, d2, cond_false, Bool.true_and]
  have key : ∀ i, i ≤ e.length → ∀ (k : Nat) m, k ≤ 1 + 2 * i → e.length - i < m → re e v m (k : Int) (i : Int) = some (qo v (e.drop i) k) := by
   refine down e.length ?_ ?_
   ·intro k m _ hm
    obtain ⟨m, rfl⟩ : ∃ aK, m = aK + 1 := ⟨m - 1, by omega⟩
    simp only [re, x6]
    rw [fe (Nat.le_refl _), List.drop_of_length_le (Nat.le_refl _), zP]; rfl
   ·intro i au ih k m aB hm
    obtain ⟨m, rfl⟩ : ∃ aK, m = aK + 1 := ⟨m - 1, by omega⟩
    simp only [re, x6]
    rw [gj au, gE _ i au, gi i _ au (by omega), drop_cons e i au, zP]
    simp only [cond_true, Option.bind_some, ail _ v aQ, ain, qo]
    by_cases bM : k = 0
    ·subst bM; rfl
    ·have U : (k == 0) = false := by simpa using bM
     have bX := Kj e[i]
     rw [U, Kl (by omega) (by omega) bX, ih _ m (by omega) (by omega)]
     simp only [cond_false, Bool.not_false, Bool.true_and]
     cases rY e[i] v <;> rfl
  refine i7 (e.length + 1) fun m hm => ?_
  have := key 0 (by omega) 1 m (by omega) (by omega)
  simpa using this
 ·have d1 : decide (most < (e.length : Int)) = true := by simp; omega
  have d2 : decide ((e.length : Int) ≤ most) = false := by simpa using hm
  rw [d1, d2]; rfl
theorem alf (v : Int) : qo v [] 1 = false := rfl
theorem aip (e : List aA) (v most : Int) (aQ : 0 ≤ v ∧ v ≤ 29) (alg : 1 ≤ most ∧ most ≤ 60) (he : e.length ≤ 1048576) : yx e v most = some (kH e v most) := by
 unfold yx mn kH
 have d1 : (!(decide (0 ≤ v) && decide (v ≤ 29))) = false := by simp; omega
 have d2 : (!(decide (1 ≤ most) && decide (most ≤ 60))) = false := by simp; omega
 simp only [Option.bind_some, d1, d2, cond_false]
 by_cases ag : e.length = 0
 ·have : e = [] := List.length_eq_zero_iff.1 ag
  subst this
  simp [qo]
 ·by_cases hm : (e.length : Int) ≤ most
  ·have d3 : (!(decide ((1 : Int) ≤ (e.length : Int)) && decide ((e.length : Int) ≤ most))) = false := by simp; omega
   have d4 : decide ((e.length : Int) ≤ most) = true := by simpa using hm
   rw [d3, d4, cond_false, Bool.true_and]
   have key : ∀ i, i ≤ e.length → ∀ (k : Nat) m, k ≤ 1 + 2 * i → e.length - i < m → rn e v m (k : Int) (i : Int) = some (qo v (e.drop i) k) := by
    refine down e.length ?_ ?_
    ·intro k m _ hm
     obtain ⟨m, rfl⟩ : ∃ aK, m = aK + 1 := ⟨m - 1, by omega⟩
     simp only [rn, yw]
     rw [fe (Nat.le_refl _), List.drop_of_length_le (Nat.le_refl _), zP]; rfl
    ·intro i au ih k m aB hm
     obtain ⟨m, rfl⟩ : ∃ aK, m = aK + 1 := ⟨m - 1, by omega⟩
     simp only [rn, yw]
     rw [gj au, gE _ i au, gi i _ au (by omega), drop_cons e i au, zP]
     simp only [cond_true, Option.bind_some, aim _ v (by omega), aio, qo]
     by_cases bM : k = 0
     ·subst bM; rfl
     ·have U : (k == 0) = false := by simpa using bM
      have bX := Kj e[i]
      rw [U, Kl (by omega) (by omega) bX, ih _ m (by omega) (by omega)]
      simp only [cond_false, Bool.not_false, Bool.true_and]
      cases rY e[i] v <;> rfl
   refine i7 (e.length + 1) fun m hm => ?_
   have := key 0 (by omega) 1 m (by omega) (by omega)
   simpa using this
  ·have d3 : (!(decide ((1 : Int) ≤ (e.length : Int)) && decide ((e.length : Int) ≤ most))) = true := by simp; omega
   have d4 : decide ((e.length : Int) ≤ most) = false := by simpa using hm
   rw [d3, d4]; rfl
end Go.gV
