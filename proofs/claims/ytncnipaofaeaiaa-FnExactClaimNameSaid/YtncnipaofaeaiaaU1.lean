/- Part of the proof that the law FnExactClaimName returns true for every input. No condition. -/
import Derived.Test.YtncnipaofaeaiaaP3
import Derived.IntWalk
namespace Go.Sh
open Go Go.Fw

theorem ClaimName_true (a : Int) (ha : -9223372036854775808 ≤ a ∧ a ≤ 9223372036854775807) : laws_FnExactClaimName a = some true := by
  have e1 : impl_ClaimName a = spec_ClaimName a := by
    unfold impl_ClaimName spec_ClaimName impl_index impl_within spec_l00In
    have : impl_ClaimName_c1 = spec_ClaimName_c1 := rfl
    simp only [Option.bind_some, this]
  have hs : ∃ x, spec_ClaimName a = some x := by
    unfold spec_ClaimName spec_l00In
    simp only [Option.bind_some]
    by_cases h : 0 ≤ a ∧ a ≤ 7
    · have h1 : IntKind.i64.wrap ((spec_ClaimName_c1.length : Int) - 1) = 7 := by decide
      have h2 : a.toNat < spec_ClaimName_c1.length := by have : spec_ClaimName_c1.length = 8 := rfl; omega
      rw [getI_some h.1 h2]
      simp [h1, h]
    · have h1 : IntKind.i64.wrap ((spec_ClaimName_c1.length : Int) - 1) = 7 := by decide
      have hb : (!(decide (0 ≤ a) && decide (a ≤ 7))) = true := by simp; omega
      rw [h1, hb]
      exact ⟨_, rfl⟩
  obtain ⟨x, hx⟩ := hs
  unfold laws_FnExactClaimName
  rw [e1, hx]
  simp

end Go.Sh
