/- Part of a proof that a law returns true for every input. No condition. -/
import Derived.Test.YtbemmmimelklkaaGreatUD8
namespace Go.eR
open Go Go.c5
def DF (a : List Int) : Bool := fJ (fun i => qx (a.getD i 0) 0 63) a.length
theorem awz (a : List Int) (h : a.length ≤ 1048576) : Bz a = some (DF a) := by
 unfold Bz
 refine Dy (l := fun m i => sL a m i) _ (fun m => ?_) (fun i ao m => ?_)
 ·simp only [sL, Bx]
  rw [fa (Nat.le_refl _)]; rfl
 ·simp only [sL, Bx, lz]
  rw [fB ao, l9 _ i 0 ao, fA i _ ao (by omega)]
  simp only [cond_true, Option.bind_some]
  show cond (!qx (a.getD i 0) 0 63) _ _ = _
  cases qx (a.getD i 0) 0 63 <;> rfl
theorem awA (a : List Int) (h : a.length ≤ 1048576) : Ca a = some (DF a) := by
 unfold Ca Gr Gq
 rw [wh (n := a.length) (fun i => !qx (a.getD i 0) 0 63)]
 ·simp only [Option.bind_some, wg, Bool.not_not]; rfl
 ·intro m
  simp only [vw, B_]
  rw [fa (Nat.le_refl _)]; rfl
 ·intro i ao m
  simp only [vw, B_]
  rw [fB ao, l9 _ i 0 ao, fA i _ ao (by omega)]
  simp only [cond_true, Option.bind_some, Gp, yf, jt]
  rfl
end Go.eR
