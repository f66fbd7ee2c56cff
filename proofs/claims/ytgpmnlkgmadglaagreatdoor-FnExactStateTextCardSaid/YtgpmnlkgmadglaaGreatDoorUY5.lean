/- Part of a proof that a law returns true for every input. No condition. -/
import Derived.Test.YtgpmnlkgmadglaaGreatDoorUY3
namespace Go.eV
open Go Go.c0
theorem av8 (s : dh) (h : rf s) : Aq s = some (qj s == 0) := by unfold Aq; rw [av4 s h]; rfl
theorem av9 (s : dh) (h : rf s) : A_ s = some (qj s == 0) := by unfold A_; rw [av5 s h]; rfl
theorem av_ {s : dh} (h : (qj s == 0) = true) : kS s.df = true := by
 cases ai : kS s.df
 ·unfold qj at h; rw [ai] at h; simp at h
 ·rfl
end Go.eV
