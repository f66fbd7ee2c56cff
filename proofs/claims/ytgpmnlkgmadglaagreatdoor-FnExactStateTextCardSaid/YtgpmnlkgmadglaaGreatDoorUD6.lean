/- Part of a proof that a law returns true for every input. No condition. -/
import Derived.Test.YtgpmnlkgmadglaaGreatDoorUD5
import Derived.Test.YtgpmnlkgmadglaaGreatDoorUT
namespace Go.eV
open Go Go.c0
theorem Ol {list : List bm} (h : eQ oJ list ≤ 1048576) : mW list := by
 refine ⟨Nat.le_trans (jT _ _) h, fun d ai => ?_⟩
 have ag := Nat.le_trans (kp (f := oJ) ai) h
 unfold oJ at ag
 refine ⟨by omega, Nat.le_trans (jT nL _) (by omega), fun p ar => ?_⟩
 have bc : nL p ≤ eQ nL d.Body := kp ar
 have ah : nL p ≤ 1048576 := by omega
 clear bc
 unfold nL at ah
 have aI := jT (fun x : List cA => x.length + 0) p.dz
 refine ⟨by omega, by omega, fun e he => ?_⟩
 have a_ : e.length + 0 ≤ _ := kp (f := fun x : List cA => x.length + 0) he
 omega
theorem ayI (a : List iu) (b_ : a.length ≤ 9223372036854775807 ∧ ∀ y ∈ a, uA y) :
  ∃ r, wR a 1048576 = some r ∧ (decide (r < 0) = false → w3 a = some (a.map oI) ∧ xI (a.map oI) (a.map oI) = some true ∧
    mW (a.map oI) ∧ r = 1048576 - (eQ mT a : Nat) ∧ 0 ≤ r) := by
 refine ⟨_, NN a 1048576 b_ (by omega) (by omega), fun h => ?_⟩
 by_cases ad : eQ mT a ≤ 1048576
 ·have mJ : eQ oJ (a.map oI) ≤ 1048576 := by
   rw [q3]; simp only [NQ]; exact ad
  refine ⟨NR a ad, NU _ mJ, Ol mJ, sU (by omega), by rw [sU (by omega)]; omega⟩
 ·rw [u9 (by omega)] at h; simp at h
theorem ayJ (x y z : Int) : (((x != x) || (y != y)) || (z != z)) = false := by simp
end Go.eV
