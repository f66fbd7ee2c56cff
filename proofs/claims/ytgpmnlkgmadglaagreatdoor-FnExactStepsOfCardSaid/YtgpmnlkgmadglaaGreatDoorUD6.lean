/- Part of a proof that a law returns true for every input. No condition. -/
import Derived.Test.YtgpmnlkgmadglaaGreatDoorUD5
import Derived.Test.YtgpmnlkgmadglaaGreatDoorUT
namespace Go.eR
open Go Go.cY
theorem axA {list : List aS} (h : fK lk list ≤ 1048576) : o0 list := by
 refine ⟨Nat.le_trans (nz _ _) h, fun d ai => ?_⟩
 have af := Nat.le_trans (qS (f := lk) ai) h
 unfold lk at af
 refine ⟨by omega, Nat.le_trans (nz kY _) (by omega), fun p aw => ?_⟩
 have bn : kY p ≤ fK kY d.Body := qS aw
 have ag : kY p ≤ 1048576 := by omega
 clear bn
 unfold kY at ag
 have aF := nz (fun x : List ba => x.length + 0) p.bN
 refine ⟨by omega, by omega, fun e he => ?_⟩
 have a_ : e.length + 0 ≤ _ := qS (f := fun x : List ba => x.length + 0) he
 omega
theorem axB (a : List ic) (bF : a.length ≤ 9223372036854775807 ∧ ∀ y ∈ a, t_ y) :
  ∃ r, y9 a 1048576 = some r ∧ (decide (r < 0) = false → sA a = some (a.map oV) ∧ zP (a.map oV) (a.map oV) = some true ∧
    o0 (a.map oV) ∧ r = 1048576 - (fK n7 a : Nat) ∧ 0 ≤ r) := by
 refine ⟨_, awy a 1048576 bF (by omega) (by omega), fun h => ?_⟩
 by_cases ab : fK n7 a ≤ 1048576
 ·have qt : fK lk (a.map oV) ≤ 1048576 := by
   rw [Ay]; simp only [Qw]; exact ab
  refine ⟨awI a ab, awV _ qt, axA qt, Aw (by omega), by rw [Aw (by omega)]; omega⟩
 ·rw [Ax (by omega)] at h; simp at h
end Go.eR
