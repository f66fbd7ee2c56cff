/- Part of a proof that a law returns true for every input. No condition. -/
import Derived.Test.YtocllehpepigpaaGreatUD5
import Derived.Test.YtocllehpepigpaaGreatUT
namespace Go.e1
open Go Go.dg
theorem Qc {list : List bk} (h : dn k9 list ≤ 1048576) : oA list := by
 refine ⟨Nat.le_trans (iJ _ _) h, fun d aj => ?_⟩
 have ae := Nat.le_trans (kK (f := k9) aj) h
 unfold k9 at ae
 refine ⟨by omega, Nat.le_trans (iJ kL _) (by omega), fun p az => ?_⟩
 have bf : kL p ≤ dn kL d.Body := kK az
 have ah : kL p ≤ 1048576 := by omega
 clear bf
 unfold kL at ah
 have aH := iJ (fun x : List b6 => x.length + 0) p.cO
 refine ⟨by omega, by omega, fun e he => ?_⟩
 have a6 : e.length + 0 ≤ _ := kK (f := fun x : List b6 => x.length + 0) he
 omega
theorem aDm (a : List iE) (cJ : a.length ≤ 9223372036854775807 ∧ ∀ y ∈ a, vQ y) :
  ∃ r, yg a 1048576 = some r ∧ (decide (r < 0) = false → yr a = some (a.map pw) ∧ y_ (a.map pw) (a.map pw) = some true ∧
    oA (a.map pw) ∧ r = 1048576 - (dn nN a : Nat) ∧ 0 ≤ r) := by
 refine ⟨_, PA a 1048576 cJ (by omega) (by omega), fun h => ?_⟩
 by_cases af : dn nN a ≤ 1048576
 ·have ny : dn k9 (a.map pw) ≤ 1048576 := by
   rw [r0]; simp only [PD]; exact af
  refine ⟨PE a af, PI _ ny, Qc ny, ud (by omega), by rw [ud (by omega)]; omega⟩
 ·rw [wH (by omega)] at h; simp at h
theorem aDn (x y z : Int) : (((x != x) || (y != y)) || (z != z)) = false := by simp
end Go.e1
