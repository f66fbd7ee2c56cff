/- Part of a proof that a law returns true for every input. No condition. -/
import Derived.Test.YtjedocbdhlppdaaUC
namespace Go.fg
open Go Go.b1
def lW (a : List UInt8) : Int × Int :=
 if a.length < 3 then (0, 11) else
 if oZ (a.take (a.length - 2)) 65535 ≠ (a.getD (a.length - 2) 0).toNat * 256 + (a.getD (a.length - 1) 0).toNat then (0, 10) else
 if ¬ (1 ≤ (a.getD 0 0).toNat ∧ (a.getD 0 0).toNat ≤ 3) ∨ 6000 < a.length then (0, 9) else ((a.getD 0 0).toNat, 0)
theorem Ap (a : List UInt8) (bs : a.length ≤ 140737488355328) : oF a = some (lW a) := by
 unfold oF lW
 by_cases aw : a.length < 3
 ·have : decide ((a.length : Int) < 3) = true := by simp; omega
  rw [this, if_pos aw]; rfl
 ·have J : decide ((a.length : Int) < 3) = false := by simp; omega
  have aF : IntKind.i64.wrap ((a.length : Int) - 2) = ((a.length - 2 : Nat) : Int) := by rw [gl _ (by omega)]; omega
  have aC : IntKind.i64.wrap ((a.length : Int) - 1) = ((a.length - 1 : Nat) : Int) := by rw [gl _ (by omega)]; omega
  have g0 : cJ a 0 = some (a.getD 0 0) := kp a 0 0 (by omega)
  rw [J, if_neg aw, aF, aC, Ab a _ (by omega), kp a _ 0 (by omega), kp a (a.length - 1) 0 (by omega), g0]
  simp only [cond_false, Option.bind_some]
  rw [vz _ (by simp; omega)]
  have fy := (a.getD (a.length - 2) 0).toNat_lt
  have l2 := (a.getD (a.length - 1) 0).toNat_lt
  have rh := (a.getD 0 0).toNat_lt
  generalize (a.getD (a.length - 2) 0).toNat = p at *
  generalize (a.getD (a.length - 1) 0).toNat = q at *
  generalize (a.getD 0 0).toNat = k at *
  rw [gl ((p : Int) * 256) (by omega), gl _ (by omega)]
  simp only [Option.bind_some, rU]
  by_cases af : oZ (a.take (a.length - 2)) 65535 = (p : Int) * 256 + q
  ·rw [af]
   simp only [bne_self_eq_false, cond_false]
   rw [if_neg (by simp)]
   by_cases ai : (1 ≤ k ∧ k ≤ 3) ∧ ¬ 6000 < a.length
   ·have : (!(decide (1 ≤ (k : Int)) && decide ((k : Int) ≤ 3)) || decide (6000 < (a.length : Int))) = false := by simp; omega
    rw [this, if_neg (by omega)]; rfl
   ·have : (!(decide (1 ≤ (k : Int)) && decide ((k : Int) ≤ 3)) || decide (6000 < (a.length : Int))) = true := by simp; omega
    rw [this, if_pos (by omega)]; rfl
  ·have : (oZ (a.take (a.length - 2)) 65535 != (p : Int) * 256 + q) = true := by simpa using af
   rw [this, if_pos af]; rfl
theorem K_ (a : List UInt8) (bs : a.length ≤ 140737488355328) : r4 a = some (lW a) := by
 rw [← Ap a bs]
 unfold r4 oF
 by_cases aw : a.length < 3
 ·have : decide ((a.length : Int) < 3) = true := by simp; omega
  rw [this]; rfl
 ·have aF : IntKind.i64.wrap ((a.length : Int) - 2) = ((a.length - 2 : Nat) : Int) := by rw [gl _ (by omega)]; omega
  have aC : IntKind.i64.wrap ((a.length : Int) - 1) = ((a.length - 1 : Nat) : Int) := by rw [gl _ (by omega)]; omega
  have g0 : cJ a 0 = some (a.getD 0 0) := kp a 0 0 (by omega)
  rw [aF, aC, Ab a _ (by omega), kp a _ 0 (by omega), kp a (a.length - 1) 0 (by omega), g0]
  simp only [Option.bind_some]
  rw [Ao _ _ (by omega), vz _ (by simp; omega)]
  simp only [Option.bind_some, qm, rU]
  rw [bne_comm]
end Go.fg
