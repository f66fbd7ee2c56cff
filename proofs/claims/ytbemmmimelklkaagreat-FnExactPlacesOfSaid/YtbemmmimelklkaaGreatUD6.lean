/- Part of a proof that a law returns true for every input. No condition. -/
import Derived.Test.YtbemmmimelklkaaGreatUD5
import Derived.Test.YtbemmmimelklkaaGreatUT
namespace Go.fJ
open Go Go.dg
theorem Np {list : List a9} (h : dm ku list ≤ 1048576) : q7 list := by
 refine ⟨Nat.le_trans (iq _ _) h, fun d al => ?_⟩
 have ai := Nat.le_trans (kN (f := ku) al) h
 unfold ku at ai
 refine ⟨by omega, Nat.le_trans (iq j_ _) (by omega), fun p ax => ?_⟩
 have ba : j_ p ≤ dm j_ d.Body := kN ax
 have aj : j_ p ≤ 1048576 := by omega
 clear ba
 unfold j_ at aj
 have aP := iq (fun x : List bO => x.length + 0) p.cr
 refine ⟨by omega, by omega, fun e he => ?_⟩
 have bb : e.length + 0 ≤ _ := kN (f := fun x : List bO => x.length + 0) he
 omega
theorem awP (a : List h2) (cw : a.length ≤ 9223372036854775807 ∧ ∀ y ∈ a, uE y) :
  ∃ r, wV a 1048576 = some r ∧ (decide (r < 0) = false → w5 a = some (a.map oD) ∧ xJ (a.map oD) (a.map oD) = some true ∧
    q7 (a.map oD) ∧ r = 1048576 - (dm mZ a : Nat) ∧ 0 ≤ r) := by
 refine ⟨_, MM a 1048576 cw (by omega) (by omega), fun h => ?_⟩
 by_cases ah : dm mZ a ≤ 1048576
 ·have o0 : dm ku (a.map oD) ≤ 1048576 := by
   rw [vk]; simp only [MO]; exact ah
  refine ⟨MP a ah, MT _ o0, Np o0, vj (by omega), by rw [vj (by omega)]; omega⟩
 ·rw [yy (by omega)] at h; simp at h
theorem awQ (x y z : Int) : (((x != x) || (y != y)) || (z != z)) = false := by simp
end Go.fJ
