/- Part of a proof that a law returns true for every input. No condition. -/
import Derived.Test.YtobljppjkklojaaUD5
import Derived.Test.YtobljppjkklojaaUT
namespace Go.Sh
open Go Go.Fw

theorem size_small {list : List impl_Definition} (h : sizeL size_impl_Definition list ≤ 1048576) : smallDs list := by
  refine ⟨Nat.le_trans (sizeL_len _ _) h, fun d hd => ?_⟩
  have h1 := Nat.le_trans (sizeL_mem (f := size_impl_Definition) hd) h
  unfold size_impl_Definition at h1
  refine ⟨by omega, Nat.le_trans (sizeL_len size_impl_Part _) (by omega), fun p hp => ?_⟩
  have h0 : size_impl_Part p ≤ sizeL size_impl_Part d.Body := sizeL_mem hp
  have h2 : size_impl_Part p ≤ 1048576 := by omega
  clear h0
  unfold size_impl_Part at h2
  have h3 := sizeL_len (fun x : List impl_Term => x.length + 0) p.Arguments
  refine ⟨by omega, by omega, fun e he => ?_⟩
  have h4 : e.length + 0 ≤ _ := sizeL_mem (f := fun x : List impl_Term => x.length + 0) he
  omega

/-- The law's own part: sizes, copies, comparisons. -/
theorem law_defs (a : List laws_Definition) (ha : a.length ≤ 9223372036854775807 ∧ ∀ y ∈ a, wf_laws_Definition y) :
    ∃ r, laws_szDefinitionS a 1048576 = some r ∧ (decide (r < 0) = false → laws_toDefinitionS a = some (a.map conv_laws_Definition) ∧ laws_eqDefinitionS (a.map conv_laws_Definition) (a.map conv_laws_Definition) = some true ∧
      smallDs (a.map conv_laws_Definition) ∧ r = 1048576 - (sizeL size_laws_Definition a : Nat) ∧ 0 ≤ r) := by
  refine ⟨_, sz_DefinitionS a 1048576 ha (by omega) (by omega), fun h => ?_⟩
  by_cases hs : sizeL size_laws_Definition a ≤ 1048576
  · have hs2 : sizeL size_impl_Definition (a.map conv_laws_Definition) ≤ 1048576 := by
      rw [sizeL_map]; simp only [sc_laws_Definition]; exact hs
    refine ⟨to_DefinitionS a hs, eq_DefinitionS _ hs2, size_small hs2, bud_le (by omega), by rw [bud_le (by omega)]; omega⟩
  · rw [bud_gt (by omega)] at h; simp at h

theorem neI3 (x y z : Int) : (((x != x) || (y != y)) || (z != z)) = false := by simp

theorem BodyFault_key (e : List impl_Definition) (h : smallDs e) (k : Int) : ∃ r, spec_BodyFault e k = some r ∧ impl_BodyFault e k = some r := by
  unfold spec_BodyFault impl_BodyFault spec_l00In
  by_cases h4 : 4 < e.length
  · have : decide ((4 : Int) < (e.length : Int)) = true := decide_eq_true (by omega)
    rw [this]; exact ⟨_, rfl, rfl⟩
  · have : decide ((4 : Int) < (e.length : Int)) = false := decide_eq_false (by omega)
    rw [this, impl_idx k e.length h.1, w64 ((e.length : Int) - 1) (by omega)]
    simp only [cond_false, Option.bind_some]
    cases hk : (decide (0 ≤ k) && decide (k ≤ (e.length : Int) - 1))
    · exact ⟨_, rfl, rfl⟩
    · simp only [Bool.and_eq_true, decide_eq_true_eq] at hk
      obtain ⟨i, rfl⟩ : ∃ i : Nat, k = i := ⟨k.toNat, by omega⟩
      have hi : i < e.length := by omega
      rw [impl_pars e h.1]
      simp only [Bool.not_true, cond_false, Option.bind_some]
      rw [all_loopO (l := fun m i' => spec_BodyFault_l22 e (i : Int) m i') (n := e.length) (fun j => parOk (e.getD j ⟨[], 0, []⟩))
        ((getI e (i : Int)).bind fun x4 => (spec_l05Body e x4).bind fun x5 => cond (x5.2 == 0) (some (0, 0, 3)) (some (x5.1, x5.2, 0))) (some (0, 0, 2))]
      · show ∃ r, cond (parsOk e) _ _ = _ ∧ cond (!parsOk e) _ _ = _
        cases hp : parsOk e
        · exact ⟨_, rfl, rfl⟩
        · rw [getI_lt e i hi]
          obtain ⟨r, r1, r2, _⟩ := body_eq e (by omega) e[i] (h.2 _ (List.getElem_mem hi)) (pars_get hp i hi)
          simp only [cond_true, cond_false, Bool.not_true, Option.bind_some, r1, r2]
          cases r.2 == 0
          · exact ⟨_, rfl, rfl⟩
          · exact ⟨_, rfl, rfl⟩
      · intro m
        simp only [spec_BodyFault_l22, spec_BodyFault_b22]
        rw [ltF (Nat.le_refl _)]; rfl
      · intro j hj m
        simp only [spec_BodyFault_l22, spec_BodyFault_b22, spec_l00In]
        rw [ltT hj, getI_nat _ j ⟨[], 0, []⟩ hj, wsucc j _ hj (by omega)]
        simp only [cond_true, Option.bind_some]
        show cond (!parOk (e.getD j ⟨[], 0, []⟩)) _ _ = _
        cases parOk (e.getD j ⟨[], 0, []⟩) <;> rfl

end Go.Sh
