/- Part of a proof that a law returns true for every input. No condition. -/
import Derived.Test.YtobljppjkklojaaUC
namespace Go.Sh
open Go Go.Fw

/-! The kind of an image. -/
def imageKind (a : List UInt8) : Int × Int :=
  if a.length < 3 then (0, 11) else
  if crc (a.take (a.length - 2)) 65535 ≠ (a.getD (a.length - 2) 0).toNat * 256 + (a.getD (a.length - 1) 0).toNat then (0, 10) else
  if ¬ (1 ≤ (a.getD 0 0).toNat ∧ (a.getD 0 0).toNat ≤ 3) ∨ 6000 < a.length then (0, 9) else ((a.getD 0 0).toNat, 0)

theorem spec_kind (a : List UInt8) (ha : a.length ≤ 140737488355328) : spec_l32Kind a = some (imageKind a) := by
  unfold spec_l32Kind imageKind
  by_cases h3 : a.length < 3
  · have : decide ((a.length : Int) < 3) = true := by simp; omega
    rw [this, if_pos h3]; rfl
  · have hb : decide ((a.length : Int) < 3) = false := by simp; omega
    have e2 : IntKind.i64.wrap ((a.length : Int) - 2) = ((a.length - 2 : Nat) : Int) := by rw [w64 _ (by omega)]; omega
    have e1 : IntKind.i64.wrap ((a.length : Int) - 1) = ((a.length - 1 : Nat) : Int) := by rw [w64 _ (by omega)]; omega
    have g0 : getI a 0 = some (a.getD 0 0) := getI_nat a 0 0 (by omega)
    rw [hb, if_neg h3, e2, e1, subL_take a _ (by omega), getI_nat a _ 0 (by omega), getI_nat a (a.length - 1) 0 (by omega), g0]
    simp only [cond_false, Option.bind_some]
    rw [spec_crc _ (by simp; omega)]
    have l1 := (a.getD (a.length - 2) 0).toNat_lt
    have l2 := (a.getD (a.length - 1) 0).toNat_lt
    have l3 := (a.getD 0 0).toNat_lt
    generalize (a.getD (a.length - 2) 0).toNat = p at *
    generalize (a.getD (a.length - 1) 0).toNat = q at *
    generalize (a.getD 0 0).toNat = k at *
    rw [w64 ((p : Int) * 256) (by omega), w64 _ (by omega)]
    simp only [Option.bind_some, spec_l00In]
    by_cases hc : crc (a.take (a.length - 2)) 65535 = (p : Int) * 256 + q
    · rw [hc]
      simp only [bne_self_eq_false, cond_false]
      rw [if_neg (by simp)]
      by_cases hk : (1 ≤ k ∧ k ≤ 3) ∧ ¬ 6000 < a.length
      · have : (!(decide (1 ≤ (k : Int)) && decide ((k : Int) ≤ 3)) || decide (6000 < (a.length : Int))) = false := by simp; omega
        rw [this, if_neg (by omega)]; rfl
      · have : (!(decide (1 ≤ (k : Int)) && decide ((k : Int) ≤ 3)) || decide (6000 < (a.length : Int))) = true := by simp; omega
        rw [this, if_pos (by omega)]; rfl
    · have : (crc (a.take (a.length - 2)) 65535 != (p : Int) * 256 + q) = true := by simpa using hc
      rw [this, if_pos hc]; rfl

theorem impl_kind (a : List UInt8) (ha : a.length ≤ 140737488355328) : impl_ImageKind a = some (imageKind a) := by
  rw [← spec_kind a ha]
  unfold impl_ImageKind spec_l32Kind
  by_cases h3 : a.length < 3
  · have : decide ((a.length : Int) < 3) = true := by simp; omega
    rw [this]; rfl
  · have e2 : IntKind.i64.wrap ((a.length : Int) - 2) = ((a.length - 2 : Nat) : Int) := by rw [w64 _ (by omega)]; omega
    have e1 : IntKind.i64.wrap ((a.length : Int) - 1) = ((a.length - 1 : Nat) : Int) := by rw [w64 _ (by omega)]; omega
    have g0 : getI a 0 = some (a.getD 0 0) := getI_nat a 0 0 (by omega)
    rw [e2, e1, subL_take a _ (by omega), getI_nat a _ 0 (by omega), getI_nat a (a.length - 1) 0 (by omega), g0]
    simp only [Option.bind_some]
    rw [impl_crc_eq _ _ (by omega), spec_crc _ (by simp; omega)]
    simp only [Option.bind_some, impl_within, spec_l00In]
    rw [bne_comm]

end Go.Sh
