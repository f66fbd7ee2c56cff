/- Part of a proof that a law returns true for every input. No condition. -/
import Derived.Test.YtbemmmimelklkaaGreatUD5
import Derived.Test.YtbemmmimelklkaaGreatUT
namespace Go.f_
open Go Go.dk
theorem MW {list : List bb} (h : de kp list ≤ 1048576) : sP list := by
 refine ⟨Nat.le_trans (ik _ _) h, fun d al => ?_⟩
 have ai := Nat.le_trans (kG (f := kp) al) h
 unfold kp at ai
 refine ⟨by omega, Nat.le_trans (ik j4 _) (by omega), fun p ax => ?_⟩
 have a9 : j4 p ≤ de j4 d.Body := kG ax
 have aj : j4 p ≤ 1048576 := by omega
 clear a9
 unfold j4 at aj
 have aQ := ik (fun x : List bP => x.length + 0) p.cq
 refine ⟨by omega, by omega, fun e he => ?_⟩
 have bd : e.length + 0 ≤ _ := kG (f := fun x : List bP => x.length + 0) he
 omega
theorem awG (a : List hZ) (cw : a.length ≤ 9223372036854775807 ∧ ∀ y ∈ a, uh y) :
  ∃ r, wq a 1048576 = some r ∧ (decide (r < 0) = false → wC a = some (a.map oo) ∧ xe (a.map oo) (a.map oo) = some true ∧
    sP (a.map oo) ∧ r = 1048576 - (de mP a : Nat) ∧ 0 ≤ r) := by
 refine ⟨_, Ml a 1048576 cw (by omega) (by omega), fun h => ?_⟩
 by_cases ah : de mP a ≤ 1048576
 ·have oQ : de kp (a.map oo) ≤ 1048576 := by
   rw [sF]; simp only [Mn]; exact ah
  refine ⟨Mo a ah, Ms _ oQ, MW oQ, uU (by omega), by rw [uU (by omega)]; omega⟩
 ·rw [x6 (by omega)] at h; simp at h
theorem awH (x y z : Int) : (((x != x) || (y != y)) || (z != z)) = false := by simp
end Go.f_
