/- Part of a proof that a law returns true for every input. No condition. -/
import Derived.Test.YtobljppjkklojaaUD10
namespace Go.Sh
open Go Go.Fw

theorem PartEnd_key (e : List impl_Definition) (h : smallDs e) (k part : Int) : ∃ r, spec_PartEnd e k part = some r ∧ impl_PartEnd e k part = some r := by
  unfold spec_PartEnd impl_PartEnd
  obtain ⟨c, c1, c2, c3⟩ := ask_eq e h k part
  rw [c1, c2]
  simp only [Option.bind_some]
  cases hc : c != 0
  · obtain ⟨hv, i, j, rfl, rfl, hi, hj⟩ := c3 hc
    obtain ⟨_, _, hd⟩ := defs_get h hv
    obtain ⟨_, hs, _⟩ := hd i hi
    obtain ⟨s1, s2, s3⟩ := shape_end hs
    have hb := (h.2 _ (List.getElem_mem hi)).2.1
    obtain ⟨n, n1, _, _⟩ := endI_one s1 hj
    rw [getI_lt e i hi]
    simp only [cond_false, Option.bind_some]
    rw [spec_end _ hb j n n1, impl_end e[i] hb j (by omega), n1]
    exact ⟨_, rfl, rfl⟩
  · exact ⟨_, rfl, rfl⟩

theorem PartEnd_true (a : List laws_Definition) (k part : Int) (ha : a.length ≤ 9223372036854775807 ∧ ∀ y ∈ a, wf_laws_Definition y) : laws_FnExactPartEnd a k part = some true := by
  unfold laws_FnExactPartEnd
  obtain ⟨r, h1, h2⟩ := law_defs a ha
  rw [h1]
  simp only [Option.bind_some]
  cases hr : decide (r < 0)
  · obtain ⟨h3, h4, h5, _⟩ := h2 hr
    obtain ⟨v, v1, v2⟩ := PartEnd_key _ h5 k part
    simp only [cond_false, h3, Option.bind_some, v1, v2, neI2, h4, Bool.not_true]
  · rfl

end Go.Sh
