/- Part of a proof that a law returns true for every input. No condition. -/
import Derived.Test.YtgpmnlkgmadglaaGreatDoorUD8
namespace Go.eR
open Go Go.cY
def xF (a : List Int) : Bool := ik (fun i => oX (a.getD i 0) 0 63) a.length
theorem Q2 (a : List Int) (h : a.length ≤ 1048576) : CC a = some (xF a) := by
 unfold CC
 refine awq (l := fun m i => uf a m i) _ (fun m => ?_) (fun i an m => ?_)
 ·simp only [uf, CB]
  rw [gI (Nat.le_refl _)]; rfl
 ·simp only [uf, CB, lF]
  rw [hx an, Av _ i 0 an, hg i _ an (by omega)]
  simp only [cond_true, Option.bind_some]
  show cond (!oX (a.getD i 0) 0 63) _ _ = _
  cases oX (a.getD i 0) 0 63 <;> rfl
theorem Q3 (a : List Int) (h : a.length ≤ 1048576) : zD a = some (xF a) := by
 unfold zD HJ HI
 rw [AF (n := a.length) (fun i => !oX (a.getD i 0) 0 63)]
 ·simp only [Option.bind_some, AE, Bool.not_not]; rfl
 ·intro m
  simp only [wX, Da]
  rw [gI (Nat.le_refl _)]; rfl
 ·intro i an m
  simp only [wX, Da]
  rw [hx an, Av _ i 0 an, hg i _ an (by omega)]
  simp only [cond_true, Option.bind_some, HH, zw, j4]
  rfl
end Go.eR
