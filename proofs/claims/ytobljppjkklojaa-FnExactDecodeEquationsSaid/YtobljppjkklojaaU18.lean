/- Part of a proof that a law returns true for every input. No condition. -/
import Derived.Test.YtobljppjkklojaaU17
namespace Go.Sh
open Go Go.Fw

/-! What is marked is held. -/
theorem get_mid {α : Type} (d : List α) (x : α) (r : List α) : getI (d ++ x :: r) (d.length : Int) = some x := by
  rw [getI_lt _ _ (by simp)]; simp
theorem set_mid {α : Type} (d : List α) (x y : α) (r : List α) : List.set (d ++ x :: r) (Int.toNat (d.length : Int)) y = d ++ y :: r := by
  simp
def markN (k : Int) : List Int → List Int
  | [] => []
  | _ :: r => k :: markN (k + 1) r
theorem markN_len (k : Int) : ∀ l, (markN k l).length = l.length
  | [] => rfl
  | _ :: r => by simp only [markN, List.length_cons, markN_len (k + 1) r]
theorem mark_ints : ∀ (r d : List Int) (k : Int) (m : Nat), 0 ≤ k → k + r.length ≤ 1099511627776 → d.length + r.length ≤ 1099511627776 → r.length < m → laws_markInt64S_l6 m (d ++ r) k (d.length : Int) = some (k + r.length, d ++ markN k r)
  | [], d, k, m, h0, h1, h2, hm => by
    obtain ⟨m, rfl⟩ : ∃ j, m = j + 1 := ⟨m - 1, by omega⟩
    simp only [laws_markInt64S_l6, laws_markInt64S_b6, List.append_nil, markN]
    rw [ltF (Nat.le_refl _)]; simp
  | x :: r, d, k, m, h0, h1, h2, hm => by
    simp only [List.length_cons] at h1 h2 hm
    obtain ⟨m, rfl⟩ : ∃ j, m = j + 1 := ⟨m - 1, by omega⟩
    simp only [laws_markInt64S_l6, laws_markInt64S_b6]
    rw [ltT (by simp), get_mid, set_mid]
    simp only [cond_true, Option.bind_some]
    rw [w64 (k + 1) (by omega), wsucc d.length (d.length + 1) (by omega) (by omega)]
    have := mark_ints r (d ++ [k]) (k + 1) m (by omega) (by omega) (by simp only [List.length_append, List.length_cons, List.length_nil]; omega) (by omega)
    simp only [List.length_append, List.length_cons, List.length_nil, List.append_assoc, List.cons_append, List.nil_append, Nat.zero_add] at this
    rw [this]
    simp only [markN, List.length_cons, Option.some.injEq, Prod.mk.injEq, and_true]
    omega
theorem mark_int (l : List Int) (k : Int) (h0 : 0 ≤ k) (h : k + l.length ≤ 1099511627776) : laws_markInt64S l k = some (k + l.length, markN k l) := by
  refine lim_of (l.length + 1) fun m hm => ?_
  have := mark_ints l [] k m h0 h (by simp only [List.length_nil]; omega) (by omega)
  simpa using this
theorem held_ints : ∀ (r d : List Int) (k : Int) (m : Nat), 0 ≤ k → k + r.length ≤ 1099511627776 → d.length + r.length ≤ 1099511627776 → r.length < m → laws_heldInt64S_l6 (d ++ markN k r) m k (d.length : Int) = some (k + r.length)
  | [], d, k, m, h0, h1, h2, hm => by
    obtain ⟨m, rfl⟩ : ∃ j, m = j + 1 := ⟨m - 1, by omega⟩
    simp only [laws_heldInt64S_l6, laws_heldInt64S_b6, markN, List.append_nil]
    rw [ltF (Nat.le_refl _)]; simp
  | x :: r, d, k, m, h0, h1, h2, hm => by
    simp only [List.length_cons] at h1 h2 hm
    obtain ⟨m, rfl⟩ : ∃ j, m = j + 1 := ⟨m - 1, by omega⟩
    simp only [laws_heldInt64S_l6, laws_heldInt64S_b6]
    rw [ltT (by simp [markN])]
    simp only [markN]
    rw [get_mid]
    simp only [cond_true, Option.bind_some, bne_self_eq_false, cond_false]
    rw [w64 (k + 1) (by omega), wsucc d.length (d.length + 1) (by omega) (by omega)]
    have := held_ints r (d ++ [k]) (k + 1) m (by omega) (by omega) (by simp only [List.length_append, List.length_cons, List.length_nil]; omega) (by omega)
    simp only [List.length_append, List.length_cons, List.length_nil, List.append_assoc, List.cons_append, List.nil_append, Nat.zero_add] at this
    rw [this]
    simp only [List.length_cons, Option.some.injEq]
    omega
theorem held_int (l : List Int) (k : Int) (h0 : 0 ≤ k) (h : k + l.length ≤ 1099511627776) : laws_heldInt64S (markN k l) k = some (k + l.length) := by
  refine lim_of (l.length + 1) fun m hm => ?_
  have := held_ints l [] k m h0 h (by simp only [List.length_nil]; omega) (by omega)
  simpa using this

def mE (k : Int) : List impl_Equation → Int × List impl_Equation
  | [] => (k, [])
  | x :: r => ((mE (k + 2 + x.Terms.length) r).1, impl_Equation.mk (Int.tmod k 3 == 0) (Int.tmod (k + 1) 3 == 0) (markN (k + 2) x.Terms) :: (mE (k + 2 + x.Terms.length) r).2)
theorem mE_ge : ∀ (r : List impl_Equation) (k : Int), k ≤ (mE k r).1
  | [], _ => Int.le_refl _
  | x :: r, k => by have := mE_ge r (k + 2 + x.Terms.length); simp only [mE]; omega
def szE (r : List impl_Equation) : Nat := 2 * r.length + sumS size_impl_Equation r
theorem szE_cons (x : impl_Equation) (r : List impl_Equation) : szE (x :: r) = 2 + x.Terms.length + szE r := by
  simp only [szE, List.length_cons, sumS, size_impl_Equation]; omega
theorem mark_eqs : ∀ (r d : List impl_Equation) (k : Int) (m : Nat), 0 ≤ k → k + szE r ≤ 1099511627776 → d.length + r.length ≤ 1099511627776 → r.length < m → laws_markEquationS_l6 m (d ++ r) k (d.length : Int) = some ((mE k r).1, d ++ (mE k r).2)
  | [], d, k, m, h0, h1, h2, hm => by
    obtain ⟨m, rfl⟩ : ∃ j, m = j + 1 := ⟨m - 1, by omega⟩
    simp only [laws_markEquationS_l6, laws_markEquationS_b6, List.append_nil, mE]
    rw [ltF (Nat.le_refl _)]; simp
  | x :: r, d, k, m, h0, h1, h2, hm => by
    rw [szE_cons] at h1
    simp only [List.length_cons] at h2 hm
    obtain ⟨m, rfl⟩ : ∃ j, m = j + 1 := ⟨m - 1, by omega⟩
    simp only [laws_markEquationS_l6, laws_markEquationS_b6]
    rw [ltT (by simp), get_mid]
    simp only [cond_true, Option.bind_some, set_mid, get_mid]
    rw [w64 (k + 1) (by omega), w64 (k + 1 + 1) (by omega), wsucc d.length (d.length + 1) (by omega) (by omega)]
    have e2 : k + 1 + 1 = k + 2 := by omega
    rw [e2, mark_int _ _ (by omega) (by omega)]
    simp only [Option.bind_some]
    have := mark_eqs r (d ++ [impl_Equation.mk (Int.tmod k 3 == 0) (Int.tmod (k + 1) 3 == 0) (markN (k + 2) x.Terms)]) (k + 2 + x.Terms.length) m (by omega) (by omega) (by simp only [List.length_append, List.length_cons, List.length_nil]; omega) (by omega)
    simp only [List.length_append, List.length_cons, List.length_nil, List.append_assoc, List.cons_append, List.nil_append, Nat.zero_add] at this
    rw [this]; rfl
theorem held_eqs : ∀ (r d : List impl_Equation) (k : Int) (m : Nat), 0 ≤ k → k + szE r ≤ 1099511627776 → d.length + r.length ≤ 1099511627776 → r.length < m → laws_heldEquationS_l6 (d ++ (mE k r).2) m k (d.length : Int) = some (mE k r).1
  | [], d, k, m, h0, h1, h2, hm => by
    obtain ⟨m, rfl⟩ : ∃ j, m = j + 1 := ⟨m - 1, by omega⟩
    simp only [laws_heldEquationS_l6, laws_heldEquationS_b6, List.append_nil, mE]
    rw [ltF (Nat.le_refl _)]; simp
  | x :: r, d, k, m, h0, h1, h2, hm => by
    rw [szE_cons] at h1
    simp only [List.length_cons] at h2 hm
    obtain ⟨m, rfl⟩ : ∃ j, m = j + 1 := ⟨m - 1, by omega⟩
    simp only [laws_heldEquationS_l6, laws_heldEquationS_b6]
    rw [ltT (by simp [mE])]
    simp only [mE]
    rw [get_mid]
    simp only [cond_true, Option.bind_some]
    rw [w64 (k + 1) (by omega), w64 (k + 1 + 1) (by omega), wsucc d.length (d.length + 1) (by omega) (by omega)]
    have e2 : k + 1 + 1 = k + 2 := by omega
    rw [e2, held_int _ _ (by omega) (by omega)]
    have hn : decide (k + 2 + (x.Terms.length : Int) < 0) = false := by simp only [decide_eq_false_iff_not]; omega
    simp only [beq_self_eq_true, Bool.not_true, cond_false, Option.bind_some, hn]
    have := held_eqs r (d ++ [impl_Equation.mk (Int.tmod k 3 == 0) (Int.tmod (k + 1) 3 == 0) (markN (k + 2) x.Terms)]) (k + 2 + x.Terms.length) m (by omega) (by omega) (by simp only [List.length_append, List.length_cons, List.length_nil]; omega) (by omega)
    simp only [List.length_append, List.length_cons, List.length_nil, List.append_assoc, List.cons_append, List.nil_append, Nat.zero_add] at this
    exact this

theorem szE_le {e : List impl_Equation} (h : sizeL size_impl_Equation e ≤ 1048576) : szE e ≤ 2097152 := by
  unfold sizeL at h; unfold szE; omega
theorem mark_all (e : List impl_Equation) (h : sizeL size_impl_Equation e ≤ 1048576) : laws_markEquationS e 1 = some (mE 1 e) ∧ laws_heldEquationS (mE 1 e).2 1 = some (mE 1 e).1 ∧ 0 ≤ (mE 1 e).1 := by
  have hs := szE_le h
  have hl := sizeL_len size_impl_Equation e
  refine ⟨?_, ?_, by have := mE_ge e 1; omega⟩
  · refine lim_of (e.length + 1) fun m hm => ?_
    have := mark_eqs e [] 1 m (by omega) (by omega) (by simp only [List.length_nil]; omega) (by omega)
    simpa using this
  · refine lim_of (e.length + 1) fun m hm => ?_
    have := held_eqs e [] 1 m (by omega) (by omega) (by simp only [List.length_nil]; omega) (by omega)
    simpa using this

theorem DecodeEquations_true (a0 : List UInt8) : laws_FnExactDecodeEquations a0 = some true := by
  unfold laws_FnExactDecodeEquations
  by_cases h : a0.length ≤ 1048576
  · have : decide ((1048576 : Int) < (a0.length : Int)) = false := by simp only [decide_eq_false_iff_not]; omega
    rw [this, cond_false]
    obtain ⟨r, e1, e2, e3⟩ := decode_same a0 h
    obtain ⟨m1, m2, m3⟩ := mark_all r.1 e3
    have hn : decide ((mE 1 r.1).1 < 0) = false := by simp only [decide_eq_false_iff_not]; omega
    simp only [e1, e2, Option.bind_some, eq_EquationS _ e3, m1, m2, hn, Bool.not_true, bne_self_eq_false, Bool.or_self, cond_false]
  · have : decide ((1048576 : Int) < (a0.length : Int)) = true := by simp only [decide_eq_true_eq]; omega
    rw [this]; rfl

end Go.Sh
