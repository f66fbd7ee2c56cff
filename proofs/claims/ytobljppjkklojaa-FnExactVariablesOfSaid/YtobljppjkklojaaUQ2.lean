/- Part of a proof that a law returns true for every input. No condition. -/
import Derived.Test.YtobljppjkklojaaUQ1
import Derived.Test.YtobljppjkklojaaUT
namespace Go.Sh
open Go Go.Fw
theorem VariablesOf_true (a : List laws_Term) (ha : a.length ≤ 9223372036854775807 ∧ ∀ y ∈ a, wf_laws_Term y) : laws_FnExactVariablesOf a = some true := by
 unfold laws_FnExactVariablesOf
 rw [sz_TermS a 1048576 ha (by omega) (by omega)]
 simp only [Option.bind_some]
 by_cases h : a.length + 0 ≤ 1048576
 ·rw [bud_le (by omega)]
  have : decide ((1048576 : Int) - ((a.length + 0 : Nat) : Int) < 0) = false := by simp only [decide_eq_false_iff_not]; omega
  rw [this, cond_false, to_TermS a h]
  simp only [Option.bind_some]
  generalize he : a.map conv_laws_Term = e
  have hl : e.length ≤ 1048576 := by rw [← he]; simp; omega
  obtain ⟨r, h1, h2, h3⟩ : ∃ r : List Int × Int, spec_VariablesOf e = some r ∧ impl_VariablesOf e = some r ∧ r.1.length ≤ 1048576 := by
   unfold spec_VariablesOf impl_VariablesOf
   rw [spec_any e hl, impl_any e hl, spec_names e hl, impl_vars e hl]
   simp only [Option.bind_some]
   cases termsV e 29 60
   ·exact ⟨_, rfl, rfl, by simp⟩
   ·refine ⟨_, rfl, rfl, ?_⟩
    have h4 := insAll_len (lt := ltI) (varsT e) []
    have h5 := varsT_len e
    simp only [List.length_nil] at h4
    show (insAll ltI [] (varsT e)).length ≤ _
    omega
  obtain ⟨x', c, c1, m1⟩ := mk_TermS e 1 (by omega) (by omega)
  obtain ⟨y', d, d1, m2, m3⟩ := mk_Int64S r.1 1 (by omega) (by omega)
  simp only [h1, h2, Option.bind_some, eq_Int64S r.1 (by omega), eq_TermS e (by omega), m1, m2, m3, Bool.not_true, bne_self_eq_false, Bool.or_self, cond_false, dneg (k := 1 + (c : Int)) (by omega), dneg (k := 1 + (d : Int)) (by omega)]
 ·rw [bud_gt (by omega)]; rfl
end Go.Sh
