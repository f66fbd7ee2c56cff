/- Part of a proof that a law returns true for every input. No condition. -/
import Derived.Test.YtbemmmimelklkaaUD8
namespace Go.Sh
open Go Go.Fw
theorem ask_eq (e : List impl_Definition) (h : smallDs e) (k part : Int) : ∃ c, spec_l05Ask e k part = some c ∧ impl_partCode e k part = some c ∧
  ((c != 0) = false → defsV e = true ∧ ∃ i j : Nat, k = i ∧ part = j ∧ ∃ hi : i < e.length, j < e[i].Body.length) := by
 unfold spec_l05Ask impl_partCode spec_l00In
 rw [spec_defs e h, impl_defs e h, impl_idx k e.length h.1, w64 ((e.length : Int) - 1) (by have := h.1; omega)]
 simp only [Option.bind_some]
 cases hv : defsV e
 ·exact ⟨1, rfl, rfl, fun h => by cases h⟩
 ·cases hk : (decide (0 ≤ k) && decide (k ≤ (e.length : Int) - 1))
  ·exact ⟨2, rfl, rfl, fun h => by cases h⟩
  ·have hk' := hk
   simp only [Bool.and_eq_true, decide_eq_true_eq] at hk'
   obtain ⟨i, rfl⟩ : ∃ i : Nat, k = i := ⟨k.toNat, by omega⟩
   have hi : i < e.length := by omega
   have hb := (h.2 _ (List.getElem_mem hi)).2.1
   rw [getI_lt e i hi]
   simp only [Bool.not_true, cond_false, Option.bind_some]
   rw [impl_idx part e[i].Body.length hb, w64 ((e[i].Body.length : Int) - 1) (by omega)]
   simp only [Option.bind_some]
   cases hp : (decide (0 ≤ part) && decide (part ≤ (e[i].Body.length : Int) - 1))
   ·exact ⟨2, rfl, rfl, fun h => by cases h⟩
   ·simp only [Bool.and_eq_true, decide_eq_true_eq] at hp
    exact ⟨0, rfl, rfl, fun _ => ⟨trivial, i, part.toNat, rfl, by omega, hi, by omega⟩⟩
theorem neI2 (x y : Int) : ((x != x) || (y != y)) = false := by simp
end Go.Sh
