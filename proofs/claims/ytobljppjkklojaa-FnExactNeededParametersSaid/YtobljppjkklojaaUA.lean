/- Part of a proof that a law returns true for every input. No condition. -/
import Derived.Test.YtobljppjkklojaaUG
import Derived.Test.YtobljppjkklojaaP20
namespace Go.Sh
open Go Go.Fw
def arT (t : impl_Term) : Nat := if t.Kind = 2 then 2 else if t.Kind = 3 then 1 else 0
theorem arT_le (t : impl_Term) : arT t ≤ 2 := by unfold arT; split <;> (try split) <;> omega
theorem arT_val (t : impl_Term) : cond (t.Kind == 2) (some 2) (cond (t.Kind == 3) (some 1) (some 0)) = some (arT t : Int) := by
 unfold arT
 by_cases h2 : t.Kind = 2
 ·simp [h2]
 ·by_cases h3 : t.Kind = 3
  ·simp [h3]
  ·have e2 : (t.Kind == 2) = false := by simpa using h2
   have e3 : (t.Kind == 3) = false := by simpa using h3
   rw [e2, e3, if_neg h2, if_neg h3]; rfl
def inR (n lo hi : Int) : Bool := decide (lo ≤ n) && decide (n ≤ hi)
def tOk (t : impl_Term) (v : Int) : Bool := cond (t.Kind == 0) (inR t.Value 0 63) (cond (t.Kind == 1) (inR t.Value 0 (v - 1)) (cond (t.Kind == 2) (inR t.Value 0 8) (cond (t.Kind == 3) (t.Value == 0) false)))
def walkT (v : Int) : List impl_Term → Nat → Bool
 | [], k => k == 0
 | t :: r, k => !(k == 0) && (tOk t v && walkT v r (k + arT t - 1))
def termsV (e : List impl_Term) (v most : Int) : Bool := decide ((e.length : Int) ≤ most) && walkT v e 1
theorem spec_term (t : impl_Term) (v : Int) (hv : -1000000 ≤ v ∧ v ≤ 1000000) : spec_l03Term t v = some (tOk t v) := by
 unfold spec_l03Term spec_l00In tOk inR
 rw [w64 (v - 1) (by omega)]
 cases t.Kind == 0 <;> cases t.Kind == 1 <;> cases t.Kind == 2 <;> cases t.Kind == 3 <;> rfl
theorem impl_term (t : impl_Term) (v : Int) (hv : -1000000 ≤ v ∧ v ≤ 1000000) : impl_Term_valid t v = some (tOk t v) := by
 unfold impl_Term_valid impl_isValue impl_within tOk inR
 rw [w64 (v - 1) (by omega)]
 cases t.Kind == 0 <;> cases t.Kind == 1 <;> cases t.Kind == 2 <;> cases t.Kind == 3 <;> rfl
theorem spec_arity (t : impl_Term) : spec_l03Arity t = some (arT t : Int) := arT_val t
theorem impl_ops (t : impl_Term) : impl_Term_operands t = some (arT t : Int) := arT_val t
theorem w_need {k a : Nat} (hk : 1 ≤ k) (hk2 : k ≤ 100000000) (ha : a ≤ 2) : IntKind.i64.wrap ((k : Int) + IntKind.i64.wrap ((a : Int) - 1)) = ((k + a - 1 : Nat) : Int) := by
 rw [w64 ((a : Int) - 1) (by omega), w64 _ (by omega)]; omega
theorem eq0 (k : Nat) : ((k : Int) == 0) = (k == 0) := by
 by_cases h : k = 0
 ·subst h; rfl
 ·have h1 : ((k : Int) == 0) = false := by simp; omega
  have h2 : (k == 0) = false := by simpa using h
  rw [h1, h2]
theorem spec_is (e : List impl_Term) (v most : Int) (hv : -1000000 ≤ v ∧ v ≤ 1000000) (he : e.length ≤ 1048576) : spec_l03Is e v most = some (termsV e v most) := by
 unfold spec_l03Is termsV
 by_cases hm : (e.length : Int) ≤ most
 ·have d1 : decide (most < (e.length : Int)) = false := by simp; omega
  have d2 : decide ((e.length : Int) ≤ most) = true := by simpa using hm
  rw [d1, d2, cond_false, Bool.true_and]
  have key : ∀ i, i ≤ e.length → ∀ (k : Nat) m, k ≤ 1 + 2 * i → e.length - i < m → spec_l03Is_l16 e v m (k : Int) (i : Int) = some (walkT v (e.drop i) k) := by
   refine down e.length ?_ ?_
   ·intro k m _ hm
    obtain ⟨m, rfl⟩ : ∃ j, m = j + 1 := ⟨m - 1, by omega⟩
    simp only [spec_l03Is_l16, spec_l03Is_b16]
    rw [ltF (Nat.le_refl _), List.drop_of_length_le (Nat.le_refl _), eq0]; rfl
   ·intro i hi ih k m hk hm
    obtain ⟨m, rfl⟩ : ∃ j, m = j + 1 := ⟨m - 1, by omega⟩
    simp only [spec_l03Is_l16, spec_l03Is_b16]
    rw [ltT hi, getI_lt _ i hi, wsucc i _ hi (by omega), drop_cons e i hi, eq0]
    simp only [cond_true, Option.bind_some, spec_term _ v hv, spec_arity, walkT]
    by_cases h0 : k = 0
    ·subst h0; rfl
    ·have hb : (k == 0) = false := by simpa using h0
     have ha := arT_le e[i]
     rw [hb, w_need (by omega) (by omega) ha, ih _ m (by omega) (by omega)]
     simp only [cond_false, Bool.not_false, Bool.true_and]
     cases tOk e[i] v <;> rfl
  refine lim_of (e.length + 1) fun m hm => ?_
  have := key 0 (by omega) 1 m (by omega) (by omega)
  simpa using this
 ·have d1 : decide (most < (e.length : Int)) = true := by simp; omega
  have d2 : decide ((e.length : Int) ≤ most) = false := by simpa using hm
  rw [d1, d2]; rfl
theorem walkT_nil (v : Int) : walkT v [] 1 = false := rfl
theorem impl_valid (e : List impl_Term) (v most : Int) (hv : 0 ≤ v ∧ v ≤ 29) (hm1 : 1 ≤ most ∧ most ≤ 60) (he : e.length ≤ 1048576) : impl_ValidTerms e v most = some (termsV e v most) := by
 unfold impl_ValidTerms impl_within termsV
 have d1 : (!(decide (0 ≤ v) && decide (v ≤ 29))) = false := by simp; omega
 have d2 : (!(decide (1 ≤ most) && decide (most ≤ 60))) = false := by simp; omega
 simp only [Option.bind_some, d1, d2, cond_false]
 by_cases h1 : e.length = 0
 ·have : e = [] := List.length_eq_zero_iff.1 h1
  subst this
  simp [walkT]
 ·by_cases hm : (e.length : Int) ≤ most
  ·have d3 : (!(decide ((1 : Int) ≤ (e.length : Int)) && decide ((e.length : Int) ≤ most))) = false := by simp; omega
   have d4 : decide ((e.length : Int) ≤ most) = true := by simpa using hm
   rw [d3, d4, cond_false, Bool.true_and]
   have key : ∀ i, i ≤ e.length → ∀ (k : Nat) m, k ≤ 1 + 2 * i → e.length - i < m → impl_ValidTerms_l16 e v m (k : Int) (i : Int) = some (walkT v (e.drop i) k) := by
    refine down e.length ?_ ?_
    ·intro k m _ hm
     obtain ⟨m, rfl⟩ : ∃ j, m = j + 1 := ⟨m - 1, by omega⟩
     simp only [impl_ValidTerms_l16, impl_ValidTerms_b16]
     rw [ltF (Nat.le_refl _), List.drop_of_length_le (Nat.le_refl _), eq0]; rfl
    ·intro i hi ih k m hk hm
     obtain ⟨m, rfl⟩ : ∃ j, m = j + 1 := ⟨m - 1, by omega⟩
     simp only [impl_ValidTerms_l16, impl_ValidTerms_b16]
     rw [ltT hi, getI_lt _ i hi, wsucc i _ hi (by omega), drop_cons e i hi, eq0]
     simp only [cond_true, Option.bind_some, impl_term _ v (by omega), impl_ops, walkT]
     by_cases h0 : k = 0
     ·subst h0; rfl
     ·have hb : (k == 0) = false := by simpa using h0
      have ha := arT_le e[i]
      rw [hb, w_need (by omega) (by omega) ha, ih _ m (by omega) (by omega)]
      simp only [cond_false, Bool.not_false, Bool.true_and]
      cases tOk e[i] v <;> rfl
   refine lim_of (e.length + 1) fun m hm => ?_
   have := key 0 (by omega) 1 m (by omega) (by omega)
   simpa using this
  ·have d3 : (!(decide ((1 : Int) ≤ (e.length : Int)) && decide ((e.length : Int) ≤ most))) = true := by simp; omega
   have d4 : decide ((e.length : Int) ≤ most) = false := by simpa using hm
   rw [d3, d4]; rfl
end Go.Sh
