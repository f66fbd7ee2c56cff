/- Part of a proof that a law returns true for every input. No condition. -/
import Derived.Test.YtjedocbdhlppdaaUC
namespace Go.fi
open Go Go.b7
def j1 (a : List UInt8) : Int × Int :=
 if a.length < 3 then (0, 11) else
 if pC (a.take (a.length - 2)) 65535 ≠ (a.getD (a.length - 2) 0).toNat * 256 + (a.getD (a.length - 1) 0).toNat then (0, 10) else
 if ¬ (1 ≤ (a.getD 0 0).toNat ∧ (a.getD 0 0).toNat ≤ 3) ∨ 6000 < a.length then (0, 9) else ((a.getD 0 0).toNat, 0)
theorem wv (a : List UInt8) (bB : a.length ≤ 140737488355328) : nG a = some (j1 a) := by
 unfold nG j1
 by_cases au : a.length < 3
 ·have : decide ((a.length : Int) < 3) = true := by simp; omega
  rw [this, if_pos au]; rfl
 ·have J : decide ((a.length : Int) < 3) = false := by simp; omega
  have aI : IntKind.i64.wrap ((a.length : Int) - 2) = ((a.length - 2 : Nat) : Int) := by rw [eT _ (by omega)]; omega
  have aE : IntKind.i64.wrap ((a.length : Int) - 1) = ((a.length - 1 : Nat) : Int) := by rw [eT _ (by omega)]; omega
  have g0 : cE a 0 = some (a.getD 0 0) := kZ a 0 0 (by omega)
  rw [J, if_neg au, aI, aE, ta a _ (by omega), kZ a _ 0 (by omega), kZ a (a.length - 1) 0 (by omega), g0]
  simp only [cond_false, Option.bind_some]
  rw [wu _ (by simp; omega)]
  have ev := (a.getD (a.length - 2) 0).toNat_lt
  have l2 := (a.getD (a.length - 1) 0).toNat_lt
  have r3 := (a.getD 0 0).toNat_lt
  generalize (a.getD (a.length - 2) 0).toNat = p at *
  generalize (a.getD (a.length - 1) 0).toNat = q at *
  generalize (a.getD 0 0).toNat = k at *
  rw [eT ((p : Int) * 256) (by omega), eT _ (by omega)]
  simp only [Option.bind_some, sB]
  by_cases ag : pC (a.take (a.length - 2)) 65535 = (p : Int) * 256 + q
  ·rw [ag]
   simp only [bne_self_eq_false, cond_false]
   rw [if_neg (by simp)]
   by_cases ah : (1 ≤ k ∧ k ≤ 3) ∧ ¬ 6000 < a.length
   ·have : (!(decide (1 ≤ (k : Int)) && decide ((k : Int) ≤ 3)) || decide (6000 < (a.length : Int))) = false := by simp; omega
    rw [this, if_neg (by omega)]; rfl
   ·have : (!(decide (1 ≤ (k : Int)) && decide ((k : Int) ≤ 3)) || decide (6000 < (a.length : Int))) = true := by simp; omega
    rw [this, if_pos (by omega)]; rfl
  ·have : (pC (a.take (a.length - 2)) 65535 != (p : Int) * 256 + q) = true := by simpa using ag
   rw [this, if_pos ag]; rfl
theorem Bu (a : List UInt8) (bB : a.length ≤ 140737488355328) : sM a = some (j1 a) := by
 rw [← wv a bB]
 unfold sM nG
 by_cases au : a.length < 3
 ·have : decide ((a.length : Int) < 3) = true := by simp; omega
  rw [this]; rfl
 ·have aI : IntKind.i64.wrap ((a.length : Int) - 2) = ((a.length - 2 : Nat) : Int) := by rw [eT _ (by omega)]; omega
  have aE : IntKind.i64.wrap ((a.length : Int) - 1) = ((a.length - 1 : Nat) : Int) := by rw [eT _ (by omega)]; omega
  have g0 : cE a 0 = some (a.getD 0 0) := kZ a 0 0 (by omega)
  rw [aI, aE, ta a _ (by omega), kZ a _ 0 (by omega), kZ a (a.length - 1) 0 (by omega), g0]
  simp only [Option.bind_some]
  rw [Bt _ _ (by omega), wu _ (by simp; omega)]
  simp only [Option.bind_some, qV, sB]
  rw [bne_comm]
end Go.fi
