/- Part of a proof that a law returns true for every input. No condition. -/
import Derived.Test.YtbemmmimelklkaaGreatUD5
import Derived.Test.YtbemmmimelklkaaGreatUT
namespace Go.eR
open Go Go.c5
theorem Pc {list : List bg} (h : dS ky list ≤ 1048576) : tI list := by
 refine ⟨Nat.le_trans (i2 _ _) h, fun d ak => ?_⟩
 have af := Nat.le_trans (lo (f := ky) ak) h
 unfold ky at af
 refine ⟨by omega, Nat.le_trans (i2 kb _) (by omega), fun p aA => ?_⟩
 have bc : kb p ≤ dS kb d.Body := lo aA
 have ai : kb p ≤ 1048576 := by omega
 clear bc
 unfold kb at ai
 have aN := i2 (fun x : List bW => x.length + 0) p.cA
 refine ⟨by omega, by omega, fun e he => ?_⟩
 have bk : e.length + 0 ≤ _ := lo (f := fun x : List bW => x.length + 0) he
 omega
theorem azw (a : List h4) (cz : a.length ≤ 9223372036854775807 ∧ ∀ y ∈ a, ve y) :
  ∃ r, xK a 1048576 = some r ∧ (decide (r < 0) = false → xT a = some (a.map oX) ∧ yv (a.map oX) (a.map oX) = some true ∧
    tI (a.map oX) ∧ r = 1048576 - (dS nt a : Nat) ∧ 0 ≤ r) := by
 refine ⟨_, OB a 1048576 cz (by omega) (by omega), fun h => ?_⟩
 by_cases ah : dS nt a ≤ 1048576
 ·have pk : dS ky (a.map oX) ≤ 1048576 := by
   rw [wb]; simp only [OD]; exact ah
  refine ⟨OE a ah, OJ _ pk, Pc pk, wa (by omega), by rw [wa (by omega)]; omega⟩
 ·rw [zl (by omega)] at h; simp at h
theorem azx (x y z : Int) : (((x != x) || (y != y)) || (z != z)) = false := by simp
end Go.eR
