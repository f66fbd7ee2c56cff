/- Part of a proof that a law returns true for every input. No condition. -/
import Derived.Test.YtocllehpepigpaaGreatUD8
namespace Go.e1
open Go Go.dg
def D3 (a : List Int) : Bool := fL (fun i => q2 (a.getD i 0) 0 63) a.length
theorem Qd (a : List Int) (h : a.length ≤ 1048576) : yG a = some (D3 a) := by
 unfold yG
 refine zM (l := fun m i => tc a m i) _ (fun m => ?_) (fun i au m => ?_)
 ·simp only [tc, BW]
  rw [fD (Nat.le_refl _)]; rfl
 ·simp only [tc, BW, kF]
  rw [gT au, lV _ i 0 au, gS i _ au (by omega)]
  simp only [cond_true, Option.bind_some]
  show cond (!q2 (a.getD i 0) 0 63) _ _ = _
  cases q2 (a.getD i 0) 0 63 <;> rfl
theorem Qe (a : List Int) (h : a.length ≤ 1048576) : yX a = some (D3 a) := by
 unfold yX GS GR
 rw [uh (n := a.length) (fun i => !q2 (a.getD i 0) 0 63)]
 ·simp only [Option.bind_some, ug, Bool.not_not]; rfl
 ·intro m
  simp only [v_, Cr]
  rw [fD (Nat.le_refl _)]; rfl
 ·intro i au m
  simp only [v_, Cr]
  rw [gT au, lV _ i 0 au, gS i _ au (by omega)]
  simp only [cond_true, Option.bind_some, GQ, yQ, jQ]
  rfl
end Go.e1
