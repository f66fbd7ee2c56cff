/- Part of a proof that a law returns true for every input. No condition. -/
import Derived.Test.YtbemmmimelklkaaUQ5
import Derived.Test.YtbemmmimelklkaaUT
namespace Go.Sh
open Go Go.Fw
theorem CallsOf_key (e : List impl_Definition) (h : smallDs e) (k : Int) : ∃ r : List Int × Int, spec_CallsOf e k = some r ∧ impl_CallsOf e k = some r ∧ r.1.length ≤ 1048576 := by
 unfold spec_CallsOf impl_CallsOf
 obtain ⟨c, c1, c2, c3⟩ := ask_eq e h k 0
 rw [c1, c2]
 simp only [Option.bind_some]
 cases hc : c != 0
 ·obtain ⟨_, i, j, rfl, _, hi, _⟩ := c3 hc
  have hb := (h.2 _ (List.getElem_mem hi)).2.1
  rw [getI_lt e i hi]
  simp only [cond_false, Option.bind_some]
  rw [spec_calls _ hb, impl_calls _ hb]
  refine ⟨_, rfl, rfl, ?_⟩
  have h4 := insAll_len (lt := ltI) (callsP e[i].Body) []
  have h5 := callsP_len e[i].Body
  simp only [List.length_nil] at h4
  show (insAll ltI [] (callsP e[i].Body)).length ≤ _
  omega
 ·exact ⟨_, rfl, rfl, by simp⟩
theorem CallsOf_true (a : List laws_Definition) (k : Int) (ha : a.length ≤ 9223372036854775807 ∧ ∀ y ∈ a, wf_laws_Definition y) : laws_FnExactCallsOf a k = some true := by
 unfold laws_FnExactCallsOf
 rw [sz_DefinitionS a 1048576 ha (by omega) (by omega)]
 simp only [Option.bind_some]
 by_cases hs : sizeL size_laws_Definition a ≤ 1048576
 ·rw [bud_le (by omega)]
  have hn : decide ((1048576 : Int) - ((sizeL size_laws_Definition a : Nat) : Int) < 0) = false := by simp only [decide_eq_false_iff_not]; omega
  have hs2 : sizeL size_impl_Definition (a.map conv_laws_Definition) ≤ 1048576 := by
   rw [sizeL_map]; simp only [sc_laws_Definition]; exact hs
  rw [hn, cond_false, to_DefinitionS a hs]
  simp only [Option.bind_some]
  generalize a.map conv_laws_Definition = e at hs2
  obtain ⟨r, h1, h2, h3⟩ := CallsOf_key e (size_small hs2) k
  obtain ⟨x', c, c1, m1⟩ := mk_DefinitionS e 1 (by omega) (by omega)
  obtain ⟨y', d, d1, m2, m3⟩ := mk_Int64S r.1 1 (by omega) (by omega)
  simp only [h1, h2, Option.bind_some, eq_Int64S r.1 (by omega), eq_DefinitionS e hs2, m1, m2, m3, Bool.not_true, bne_self_eq_false, Bool.or_self, cond_false, dneg (k := 1 + (c : Int)) (by omega), dneg (k := 1 + (d : Int)) (by omega)]
 ·rw [bud_gt (by omega)]; rfl
end Go.Sh
