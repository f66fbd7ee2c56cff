/- Part of a proof that a law returns true for every input. No condition. -/
import Derived.Test.YtobljppjkklojaaUD14
import Derived.Test.YtobljppjkklojaaUD12
namespace Go.Sh
open Go Go.Fw

theorem eqBBp (b : Bool) : (!(b == b)) = false := by cases b <;> rfl
theorem point_eq (e : List impl_Definition) (h : smallDs e) (hv : defsV e = true) (p : impl_Point) (hp : p.Values.length ≤ 1048576) : ∃ b, spec_l07Is e p = some b ∧ impl_pointOk e p = some b := by
  unfold spec_l07Is impl_pointOk spec_l00In
  rw [impl_idx _ e.length h.1, w64 ((e.length : Int) - 1) (by have := h.1; omega)]
  simp only [Option.bind_some]
  cases hk : (decide (0 ≤ p.Definition) && decide (p.Definition ≤ (e.length : Int) - 1))
  · exact ⟨false, rfl, rfl⟩
  · simp only [Bool.and_eq_true, decide_eq_true_eq] at hk
    obtain ⟨i, hpi⟩ : ∃ i : Nat, p.Definition = i := ⟨p.Definition.toNat, by omega⟩
    rw [hpi] at hk ⊢
    have hi : i < e.length := by omega
    have hb := (h.2 _ (List.getElem_mem hi)).2.1
    rw [getI_lt e i hi]
    simp only [Bool.not_true, cond_false, Option.bind_some]
    rw [impl_idx _ e[i].Body.length hb, w64 ((e[i].Body.length : Int) - 1) (by omega)]
    simp only [Option.bind_some]
    cases hq : (decide (0 ≤ p.Part) && decide (p.Part ≤ (e[i].Body.length : Int) - 1))
    · exact ⟨false, rfl, rfl⟩
    · simp only [Bool.and_eq_true, decide_eq_true_eq] at hq
      obtain ⟨j, hpj⟩ : ∃ j : Nat, p.Part = j := ⟨p.Part.toNat, by omega⟩
      rw [hpj] at hq ⊢
      have hj : j < e[i].Body.length := by omega
      obtain ⟨q1, ps, q2, q3⟩ := scope_both h hv hi hj
      rw [getI_lt e[i].Body j hj]
      simp only [Bool.not_true, cond_false, Option.bind_some, q1, q2, q3, spec_data _ hp, impl_data _ hp]
      have hne : (e[i].Body[j].Kind != 5) = !(e[i].Body[j].Kind == 5) := rfl
      rw [hne]
      cases e[i].Body[j].Kind == 5
      · simp only [Bool.not_false, cond_true, cond_false]
        cases ((p.Values.length : Int) == (placeAt e[i] j).scope)
        · exact ⟨_, rfl, rfl⟩
        · exact ⟨_, rfl, rfl⟩
      · exact ⟨_, rfl, rfl⟩

theorem ValidPoint_true (a : List laws_Definition) (p : laws_Point) (ha : a.length ≤ 9223372036854775807 ∧ ∀ y ∈ a, wf_laws_Definition y) (hp : wf_laws_Point p) : laws_FnExactValidPoint a p = some true := by
  unfold laws_FnExactValidPoint spec_ValidPoint impl_ValidPoint
  obtain ⟨r, h1, h2⟩ := law_defs a ha
  rw [h1]
  simp only [Option.bind_some]
  cases hr : decide (r < 0)
  · obtain ⟨h3, h4, h5, h6, h7⟩ := h2 hr
    rw [sz_Point p r hp h7 (by omega)]
    simp only [cond_false, Option.bind_some]
    by_cases hs : (size_laws_Point p : Int) ≤ r
    · rw [bud_le hs]
      have hlt : decide (r - (size_laws_Point p : Int) < 0) = false := decide_eq_false (by omega)
      have hs2 : size_laws_Point p ≤ 1048576 := by omega
      rw [hlt, h3, to_Point p hs2]
      simp only [cond_false, Option.bind_some, spec_defs _ h5, impl_defs _ h5]
      have hs3 : size_impl_Point (conv_laws_Point p) ≤ 1048576 := by rw [sc_laws_Point]; exact hs2
      have hpl : (conv_laws_Point p).Values.length ≤ 1048576 := by
        unfold size_impl_Point at hs3; omega
      cases hv : defsV (a.map conv_laws_Definition)
      · simp only [cond_false, Option.bind_some, eqBBp, h4, Bool.not_true, eq_Point _ hs3]
      · obtain ⟨b, b1, b2⟩ := point_eq _ h5 hv (conv_laws_Point p) hpl
        simp only [cond_true, cond_false, Option.bind_some, b1, b2, eqBBp, h4, Bool.not_true, eq_Point _ hs3]
    · rw [bud_gt (by omega)]; rfl
  · rfl

end Go.Sh
