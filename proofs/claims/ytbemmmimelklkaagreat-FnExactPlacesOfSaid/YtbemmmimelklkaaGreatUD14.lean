/- Part of a proof that a law returns true for every input. No condition. -/
import Derived.Test.YtbemmmimelklkaaGreatUD8
namespace Go.fJ
open Go Go.dg
def Cu (a : List Int) : Bool := fG (fun i => p0 (a.getD i 0) 0 63) a.length
theorem at3 (a : List Int) (h : a.length ≤ 1048576) : AD a = some (Cu a) := by
 unfold AD
 refine Cm (l := fun m i => sd a m i) _ (fun m => ?_) (fun i ar m => ?_)
 ·simp only [sd, AB]
  rw [fw (Nat.le_refl _)]; rfl
 ·simp only [sd, AB, lL]
  rw [gz ar, lS _ i 0 ar, gy i _ ar (by omega)]
  simp only [cond_true, Option.bind_some]
  show cond (!p0 (a.getD i 0) 0 63) _ _ = _
  cases p0 (a.getD i 0) 0 63 <;> rfl
theorem at4 (a : List Int) (h : a.length ≤ 1048576) : A9 a = some (Cu a) := by
 unfold A9 Fa E_
 rw [vn (n := a.length) (fun i => !p0 (a.getD i 0) 0 63)]
 ·simp only [Option.bind_some, vm, Bool.not_not]; rfl
 ·intro m
  simp only [uQ, A8]
  rw [fw (Nat.le_refl _)]; rfl
 ·intro i ar m
  simp only [uQ, A8]
  rw [gz ar, lS _ i 0 ar, gy i _ ar (by omega)]
  simp only [cond_true, Option.bind_some, E9, xt, jf]
  rfl
end Go.fJ
