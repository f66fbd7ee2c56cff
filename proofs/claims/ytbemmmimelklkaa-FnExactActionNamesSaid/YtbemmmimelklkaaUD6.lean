/- Part of a proof that a law returns true for every input. No condition. -/
import Derived.Test.YtbemmmimelklkaaUD5
import Derived.Test.YtbemmmimelklkaaUT
namespace Go.eJ
open Go Go.cB
theorem I7 {list : List aV} (h : cT h3 list ≤ 1048576) : pc list := by
 refine ⟨Nat.le_trans (k3 _ _) h, fun d ah => ?_⟩
 have ab := Nat.le_trans (nv (f := h3) ah) h
 unfold h3 at ab
 refine ⟨by omega, Nat.le_trans (k3 g_ _) (by omega), fun p an => ?_⟩
 have bh : g_ p ≤ cT g_ d.Body := nv an
 have af : g_ p ≤ 1048576 := by omega
 clear bh
 unfold g_ at af
 have aF := k3 (fun x : List bz => x.length + 0) p.b4
 refine ⟨by omega, by omega, fun e he => ?_⟩
 have bb : e.length + 0 ≤ _ := nv (f := fun x : List bz => x.length + 0) he
 omega
theorem aiR (a : List gF) (b7 : a.length ≤ 9223372036854775807 ∧ ∀ y ∈ a, qf y) :
  ∃ r, t_ a 1048576 = some r ∧ (decide (r < 0) = false → oY a = some (a.map me) ∧ uM (a.map me) (a.map me) = some true ∧
    pc (a.map me) ∧ r = 1048576 - (cT k4 a : Nat) ∧ 0 ≤ r) := by
 refine ⟨_, Iz a 1048576 b7 (by omega) (by omega), fun h => ?_⟩
 by_cases aa : cT k4 a ≤ 1048576
 ·have lZ : cT h3 (a.map me) ≤ 1048576 := by
   rw [yO]; simp only [IA]; exact aa
  refine ⟨IB a aa, IC _ lZ, I7 lZ, vw (by omega), by rw [vw (by omega)]; omega⟩
 ·rw [vx (by omega)] at h; simp at h
theorem aiS (x y z : Int) : (((x != x) || (y != y)) || (z != z)) = false := by simp
end Go.eJ
