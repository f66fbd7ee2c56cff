/- Part of a proof that a law returns true for every input. No condition. -/
import Derived.Test.YtobljppjkklojaaUF
namespace Go.Sh
open Go Go.Fw

theorem wfE_size {x : impl_expr} {e : List impl_Term} (h : flatE x = e) (he : e.length ≤ 60) : sizeE x ≤ 60 := by rw [← flatE_len, h]; exact he
theorem impl_any (e : List impl_Term) (he : e.length ≤ 1048576) : impl_termsOk e = some (termsV e 29 60) := by
  unfold impl_termsOk
  rw [impl_valid e 29 60 (by omega) (by omega) he]; rfl
theorem spec_any (e : List impl_Term) (he : e.length ≤ 1048576) : spec_l03Any e = some (termsV e 29 60) := by
  unfold spec_l03Any
  rw [spec_is e 29 60 (by omega) he]; rfl

theorem ConstantOf_true (a : List laws_Term) (ha : a.length ≤ 9223372036854775807 ∧ ∀ y ∈ a, wf_laws_Term y) : laws_FnExactConstantOf a = some true := by
  unfold laws_FnExactConstantOf
  rw [sz_TermS a 1048576 ha (by omega) (by omega)]
  simp only [Option.bind_some]
  by_cases h : a.length + 0 ≤ 1048576
  · rw [bud_le (by omega)]
    have : decide ((1048576 : Int) - ((a.length + 0 : Nat) : Int) < 0) = false := by simp only [decide_eq_false_iff_not]; omega
    rw [this, cond_false, to_TermS a h]
    simp only [Option.bind_some]
    generalize he : a.map conv_laws_Term = e
    have hl : e.length ≤ 1048576 := by rw [← he]; simp; omega
    have key : ∃ r, spec_ConstantOf e = some r ∧ impl_ConstantOf e = some r := by
      unfold spec_ConstantOf impl_ConstantOf
      rw [spec_any e hl, impl_any e hl]
      simp only [Option.bind_some]
      cases hv : termsV e 29 60
      · exact ⟨_, rfl, rfl⟩
      · obtain ⟨x, hw, hx⟩ := isTree hv
        have h60 : e.length ≤ 60 := by
          simp only [termsV, Bool.and_eq_true, decide_eq_true_eq] at hv; omega
        subst hx
        rw [flatE_len] at h60
        rw [spec_fold_spec x hw (by omega), impl_tree_spec x hw]
        simp only [Option.bind_some, Bool.not_true, cond_false]
        rw [exprEta, impl_fold_spec x hw]
        have hg : getI (flatE (foldE x)) 0 = some (foldE x).term := by rw [flatE_cons]; rfl
        simp only [Option.bind_some, hg]
        cases (foldE x).term.Kind != 0
        · exact ⟨_, rfl, rfl⟩
        · exact ⟨_, rfl, rfl⟩
    obtain ⟨r, h1, h2⟩ := key
    rw [h1, h2]
    simp only [Option.bind_some]
    rw [eq_TermS e (by omega)]
    simp
  · rw [bud_gt (by omega)]; rfl

end Go.Sh
