/- Part of a proof that a law returns true for every input. No condition. -/
import Derived.Test.YtgpmnlkgmadglaaGreatDoorUD8
namespace Go.eV
open Go Go.c0
def vi (a : List Int) : Bool := e9 (fun i => po (a.getD i 0) 0 63) a.length
theorem GG (a : List Int) (h : a.length ≤ 1048576) : xi a = some (vi a) := by
 unfold xi
 refine yi (l := fun m i => si a m i) _ (fun m => ?_) (fun i al m => ?_)
 ·simp only [si, Ai]
  rw [gr (Nat.le_refl _)]; rfl
 ·simp only [si, Ai, ky]
  rw [gb al, lj _ i 0 al, ga i _ al (by omega)]
  simp only [cond_true, Option.bind_some]
  show cond (!po (a.getD i 0) 0 63) _ _ = _
  cases po (a.getD i 0) 0 63 <;> rfl
theorem On (a : List Int) (h : a.length ≤ 1048576) : xy a = some (vi a) := by
 unfold xy E0 EZ
 rw [q7 (n := a.length) (fun i => !po (a.getD i 0) 0 63)]
 ·simp only [Option.bind_some, q6, Bool.not_not]; rfl
 ·intro m
  simp only [uN, AX]
  rw [gr (Nat.le_refl _)]; rfl
 ·intro i al m
  simp only [uN, AX]
  rw [gb al, lj _ i 0 al, ga i _ al (by omega)]
  simp only [cond_true, Option.bind_some, EY, xq, je]
  rfl
end Go.eV
