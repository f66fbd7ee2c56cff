/- Part of a proof that a law returns true for every input. No condition. -/
import Derived.Test.YtbemmmimelklkaaGreatUD8
namespace Go.f_
open Go Go.dk
def B7 (a : List Int) : Bool := fI (fun i => pK (a.getD i 0) 0 63) a.length
theorem at2 (a : List Int) (h : a.length ≤ 1048576) : Aa a = some (B7 a) := by
 unfold Aa
 refine BZ (l := fun m i => rX a m i) _ (fun m => ?_) (fun i au m => ?_)
 ·simp only [rX, z_]
  rw [fH (Nat.le_refl _)]; rfl
 ·simp only [rX, z_, lH]
  rw [gM au, lL _ i 0 au, gL i _ au (by omega)]
  simp only [cond_true, Option.bind_some]
  show cond (!pK (a.getD i 0) 0 63) _ _ = _
  cases pK (a.getD i 0) 0 63 <;> rfl
theorem at3 (a : List Int) (h : a.length ≤ 1048576) : AG a = some (B7 a) := by
 unfold AG EK EJ
 rw [uW (n := a.length) (fun i => !pK (a.getD i 0) 0 63)]
 ·simp only [Option.bind_some, uV, Bool.not_not]; rfl
 ·intro m
  simp only [ux, AF]
  rw [fH (Nat.le_refl _)]; rfl
 ·intro i au m
  simp only [ux, AF]
  rw [gM au, lL _ i 0 au, gL i _ au (by omega)]
  simp only [cond_true, Option.bind_some, EI, wX, jc]
  rfl
end Go.f_
