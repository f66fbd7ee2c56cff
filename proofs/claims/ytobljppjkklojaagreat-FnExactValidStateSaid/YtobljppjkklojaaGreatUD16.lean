/- Part of a proof that a law returns true for every input. No condition. -/
import Derived.Test.YtobljppjkklojaaGreatUD14
import Derived.Test.YtobljppjkklojaaGreatUD12
namespace Go.Sh
open Go Go.Fw
theorem point_eq (e : List impl_Definition) (h : smallDs e) (hv : defsV e = true) (p : impl_Point) (hp : p.Values.length ≤ 1048576) : ∃ b, spec_l07Is e p = some b ∧ impl_pointOk e p = some b := by
 unfold spec_l07Is impl_pointOk spec_l00In
 rw [impl_idx _ e.length h.1, w64 ((e.length : Int) - 1) (by have := h.1; omega)]
 simp only [Option.bind_some]
 cases hk : (decide (0 ≤ p.Definition) && decide (p.Definition ≤ (e.length : Int) - 1))
 ·exact ⟨false, rfl, rfl⟩
 ·simp only [Bool.and_eq_true, decide_eq_true_eq] at hk
  obtain ⟨i, hpi⟩ : ∃ i : Nat, p.Definition = i := ⟨p.Definition.toNat, by omega⟩
  rw [hpi] at hk ⊢
  have hi : i < e.length := by omega
  have hb := (h.2 _ (List.getElem_mem hi)).2.1
  rw [getI_lt e i hi]
  simp only [Bool.not_true, cond_false, Option.bind_some]
  rw [impl_idx _ e[i].Body.length hb, w64 ((e[i].Body.length : Int) - 1) (by omega)]
  simp only [Option.bind_some]
  cases hq : (decide (0 ≤ p.Part) && decide (p.Part ≤ (e[i].Body.length : Int) - 1))
  ·exact ⟨false, rfl, rfl⟩
  ·simp only [Bool.and_eq_true, decide_eq_true_eq] at hq
   obtain ⟨j, hpj⟩ : ∃ j : Nat, p.Part = j := ⟨p.Part.toNat, by omega⟩
   rw [hpj] at hq ⊢
   have hj : j < e[i].Body.length := by omega
   obtain ⟨q1, ps, q2, q3⟩ := scope_both h hv hi hj
   rw [getI_lt e[i].Body j hj]
   simp only [Bool.not_true, cond_false, Option.bind_some, q1, q2, q3, spec_data _ hp, impl_data _ hp]
   have hne : (e[i].Body[j].Kind != 5) = !(e[i].Body[j].Kind == 5) := rfl
   rw [hne]
   cases e[i].Body[j].Kind == 5
   ·simp only [Bool.not_false, cond_true, cond_false]
    cases ((p.Values.length : Int) == (placeAt e[i] j).scope)
    ·exact ⟨_, rfl, rfl⟩
    ·exact ⟨_, rfl, rfl⟩
   ·exact ⟨_, rfl, rfl⟩
end Go.Sh
