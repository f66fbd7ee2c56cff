/- Part of a proof that a law returns true for every input. No condition. -/
import Derived.Test.YtbemmmimelklkaaUD8
namespace Go.eJ
open Go Go.cB
theorem agx (e : List aV) (h : pc e) (k part : Int) : ∃ c, xC e k part = some c ∧ x3 e k part = some c ∧
  ((c != 0) = false → pd e = true ∧ ∃ i j : Nat, k = i ∧ part = j ∧ ∃ ak : i < e.length, j < e[i].Body.length) := by
 unfold xC x3 kT
 rw [agt e h, agv e h, CJ k e.length h.1, gh ((e.length : Int) - 1) (by have := h.1; omega)]
 simp only [Option.bind_some]
 cases aK : pd e
 ·exact ⟨1, rfl, rfl, fun h => by cases h⟩
 ·cases ay : (decide (0 ≤ k) && decide (k ≤ (e.length : Int) - 1))
  ·exact ⟨2, rfl, rfl, fun h => by cases h⟩
  ·have iO := ay
   simp only [Bool.and_eq_true, decide_eq_true_eq] at iO
   obtain ⟨i, rfl⟩ : ∃ i : Nat, k = i := ⟨k.toNat, by omega⟩
   have ak : i < e.length := by omega
   have U := (h.2 _ (List.getElem_mem ak)).2.1
   rw [fa e i ak]
   simp only [Bool.not_true, cond_false, Option.bind_some]
   rw [CJ part e[i].Body.length U, gh ((e[i].Body.length : Int) - 1) (by omega)]
   simp only [Option.bind_some]
   cases an : (decide (0 ≤ part) && decide (part ≤ (e[i].Body.length : Int) - 1))
   ·exact ⟨2, rfl, rfl, fun h => by cases h⟩
   ·simp only [Bool.and_eq_true, decide_eq_true_eq] at an
    exact ⟨0, rfl, rfl, fun _ => ⟨trivial, i, part.toNat, rfl, by omega, ak, by omega⟩⟩
theorem aiV (x y : Int) : ((x != x) || (y != y)) = false := by simp
end Go.eJ
