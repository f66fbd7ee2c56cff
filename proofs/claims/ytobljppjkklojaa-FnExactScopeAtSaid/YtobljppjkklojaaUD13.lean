/- Part of a proof that a law returns true for every input. No condition. -/
import Derived.Test.YtobljppjkklojaaUD12
namespace Go.Sh
open Go Go.Fw

theorem ScopeAt_key (e : List impl_Definition) (h : smallDs e) (k part : Int) : ∃ r, spec_ScopeAt e k part = some r ∧ impl_ScopeAt e k part = some r := by
  unfold spec_ScopeAt impl_ScopeAt
  obtain ⟨c, c1, c2, c3⟩ := ask_eq e h k part
  rw [c1, c2]
  simp only [Option.bind_some]
  cases hc : c != 0
  · obtain ⟨hv, i, j, rfl, rfl, hi, hj⟩ := c3 hc
    obtain ⟨q1, ps, q2, q3⟩ := scope_both h hv hi hj
    rw [getI_lt e i hi]
    simp only [cond_false, Option.bind_some, q1, q2, q3]
    exact ⟨_, rfl, rfl⟩
  · exact ⟨_, rfl, rfl⟩

theorem ScopeAt_true (a : List laws_Definition) (k part : Int) (ha : a.length ≤ 9223372036854775807 ∧ ∀ y ∈ a, wf_laws_Definition y) : laws_FnExactScopeAt a k part = some true := by
  unfold laws_FnExactScopeAt
  obtain ⟨r, h1, h2⟩ := law_defs a ha
  rw [h1]
  simp only [Option.bind_some]
  cases hr : decide (r < 0)
  · obtain ⟨h3, h4, h5, _⟩ := h2 hr
    obtain ⟨v, v1, v2⟩ := ScopeAt_key _ h5 k part
    simp only [cond_false, h3, Option.bind_some, v1, v2, neI2, h4, Bool.not_true]
  · rfl

end Go.Sh
