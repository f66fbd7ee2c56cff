/- Part of a proof that a law returns true for every input. No condition. -/
import Derived.Test.YtobljppjkklojaaU13
namespace Go.Sh
open Go Go.Fw

/-! The loops of both readers come to an end. -/
def bn1 (b : Bool) : Nat := cond b 1 0
theorem impl_reads (l : List UInt8) (b : Bool) (k : Int) (hl : l.length ≤ 1048576) :
    ∃ (ts : List Int) (l' : List UInt8) (b' : Bool), impl_unpacker_numbers l b k = some (ts, l', b') ∧ ts.length + l'.length ≤ l.length + bn1 b' ∧ l'.length ≤ l.length ∧ (b = true → b' = true) := by
  have key : ∀ n : Nat, ∀ (q : List UInt8) (b0 : Bool) (ts : List Int) (v : Int), q.length ≤ n → ts.length + q.length ≤ 1048577 →
      ∃ (ts' : List Int) (l' : List UInt8) (b' : Bool), (∀ m, n + 1 < m → impl_unpacker_numbers_l8 k m q b0 ts v = some (ts', l', b')) ∧ ts'.length + l'.length ≤ ts.length + q.length + bn1 b' ∧ l'.length ≤ q.length ∧ (b0 = true → b' = true) := by
    intro n
    induction n with
    | zero =>
      intro q b0 ts v hq ht
      cases hc : ((decide (v < k)) && (!b0)) with
      | false =>
        refine ⟨ts, q, b0, fun m hm => ?_, by omega, by omega, id⟩
        obtain ⟨m, rfl⟩ : ∃ j, m = j + 1 := ⟨m - 1, by omega⟩
        simp only [impl_unpacker_numbers_l8, impl_unpacker_numbers_b8, hc, cond_false]
      | true =>
        have hb : b0 = false := by cases b0 <;> simp_all
        subst hb
        obtain ⟨x, q', b1, g1, g2, g3⟩ := impl_read q false
        have hb1 : b1 = true := by rcases g3 with g3 | g3; exact g3; omega
        subst hb1
        refine ⟨ts ++ [x], q', true, fun m hm => ?_, by simp only [List.length_append, List.length_cons, List.length_nil, bn1, cond_true]; omega, g2, fun h => by cases h⟩
        obtain ⟨m, rfl⟩ : ∃ j, m = j + 2 := ⟨m - 2, by omega⟩
        simp only [impl_unpacker_numbers_l8, impl_unpacker_numbers_b8, hc, cond_true, g1, Option.bind_some, Bool.not_true, Bool.and_false, cond_false]
        rw [room_ok (by omega) (by omega)]; rfl
    | succ n ih =>
      intro q b0 ts v hq ht
      cases hc : ((decide (v < k)) && (!b0)) with
      | false =>
        refine ⟨ts, q, b0, fun m hm => ?_, by omega, by omega, id⟩
        obtain ⟨m, rfl⟩ : ∃ j, m = j + 1 := ⟨m - 1, by omega⟩
        simp only [impl_unpacker_numbers_l8, impl_unpacker_numbers_b8, hc, cond_false]
      | true =>
        have hb : b0 = false := by cases b0 <;> simp_all
        subst hb
        obtain ⟨x, q', b1, g1, g2, g3⟩ := impl_read q false
        cases b1 with
        | true =>
          refine ⟨ts ++ [x], q', true, fun m hm => ?_, by simp only [List.length_append, List.length_cons, List.length_nil, bn1, cond_true]; omega, g2, fun h => by cases h⟩
          obtain ⟨m, rfl⟩ : ∃ j, m = j + 2 := ⟨m - 2, by omega⟩
          simp only [impl_unpacker_numbers_l8, impl_unpacker_numbers_b8, hc, cond_true, g1, Option.bind_some, Bool.not_true, Bool.and_false, cond_false]
          rw [room_ok (by omega) (by omega)]; rfl
        | false =>
          have g4 : q'.length < q.length := by rcases g3 with g3 | g3; cases g3; exact g3.2
          obtain ⟨ts', l', b', h1, h2, h3, h4⟩ := ih q' false (ts ++ [x]) (IntKind.i64.wrap (v + 1)) (by omega) (by simp only [List.length_append, List.length_cons, List.length_nil]; omega)
          simp only [List.length_append, List.length_cons, List.length_nil] at h2
          refine ⟨ts', l', b', fun m hm => ?_, by omega, by omega, fun h => by cases h⟩
          obtain ⟨m, rfl⟩ : ∃ j, m = j + 1 := ⟨m - 1, by omega⟩
          simp only [impl_unpacker_numbers_l8, impl_unpacker_numbers_b8, hc, cond_true, g1, Option.bind_some]
          rw [room_ok (by omega) (by omega)]
          exact h1 m (by omega)
  obtain ⟨ts, l', b', h1, h2, h3, h4⟩ := key l.length l b [] 0 (Nat.le_refl _) (by simp; omega)
  simp only [List.length_nil] at h2
  exact ⟨ts, l', b', lim_of (l.length + 2) fun m hm => h1 m (by omega), by omega, h3, h4⟩

theorem sizeL_snoc (e : List impl_Equation) (x : impl_Equation) : sizeL size_impl_Equation (e ++ [x]) = sizeL size_impl_Equation e + 1 + x.Terms.length := by
  have key : ∀ e : List impl_Equation, sumS size_impl_Equation (e ++ [x]) = sumS size_impl_Equation e + x.Terms.length := by
    intro e
    induction e with
    | nil => simp [sumS, size_impl_Equation]
    | cons y e ih => simp only [List.cons_append, sumS, ih]; omega
  unfold sizeL
  rw [key]; simp only [List.length_append, List.length_cons, List.length_nil]; omega

noncomputable def finI (a0 : List UInt8) (e : List impl_Equation) : Option (List impl_Equation × Int) := (impl_EncodeEquations e).bind fun x7 => cond (!(x7 == a0)) (some ([], 9)) (some (e, 0))
theorem impl_decode_ends (a0 : List UInt8) : ∀ n : Nat, ∀ (q : List UInt8) (b0 : Bool) (e : List impl_Equation) (v : Int), q.length ≤ n → sizeL size_impl_Equation e + q.length ≤ 7000 + 3 * bn1 b0 →
    ∃ e', sizeL size_impl_Equation e' ≤ 7010 ∧ ∀ m, n + 1 < m → impl_DecodeEquations_l18 a0 m q b0 e v = finI a0 e' := by
  intro n
  have stop : ∀ (q : List UInt8) (b0 : Bool) (e : List impl_Equation) (v : Int) m, ((decide (0 < v)) && (!b0)) = false → impl_DecodeEquations_l18 a0 (m + 1) q b0 e v = finI a0 e := by
    intro q b0 e v m hc
    simp only [impl_DecodeEquations_l18, impl_DecodeEquations_b18, hc, cond_false, finI]
  have round : ∀ (q : List UInt8) (e : List impl_Equation) (v : Int), ((decide (0 < v)) && (!false)) = true → sizeL size_impl_Equation e + q.length ≤ 7000 →
      ∃ (q' : List UInt8) (b' : Bool) (e' : List impl_Equation), (∀ m, impl_DecodeEquations_l18 a0 (m + 1) q false e v = impl_DecodeEquations_l18 a0 m q' b' e' (IntKind.i64.wrap (v - 1))) ∧ sizeL size_impl_Equation e' + q'.length ≤ 7000 + 3 * bn1 b' ∧ (b' = true ∨ q'.length < q.length) := by
    intro q e v hc hs
    obtain ⟨x4, q1, b1, g1, g2, g3⟩ := impl_read q false
    obtain ⟨x5, q2, b2, h1, h2, h3⟩ := impl_read q1 b1
    obtain ⟨ts, q3, b3, k1, k2, k3, k4⟩ := impl_reads q2 b2 x5 (by omega)
    have hel := sizeL_len size_impl_Equation e
    refine ⟨q3, b3, e ++ [impl_Equation.mk ((Int.tmod x4 2) == 1) ((IntKind.i64.wrap (Int.tdiv x4 2)) == 1) ts], fun m => ?_, ?_, ?_⟩
    · simp only [impl_DecodeEquations_l18, impl_DecodeEquations_b18, hc, cond_true, g1, h1, k1, Option.bind_some]
      rw [room_ok (by omega) (by omega)]; rfl
    · rw [sizeL_snoc]
      simp only
      cases b3 with
      | true => simp only [bn1, cond_true] at k2 ⊢; omega
      | false =>
        simp only [bn1, cond_false] at k2 ⊢
        have e2 : b2 = false := by cases b2; rfl; exact (k4 rfl).symm
        subst e2
        have e1 : b1 = false := by rcases h3 with h3 | h3; cases h3; exact h3.1.symm
        subst e1
        rcases g3 with g3 | g3
        · cases g3
        · omega
    · cases b3 with
      | true => exact .inl rfl
      | false =>
        have e2 : b2 = false := by cases b2; rfl; exact (k4 rfl).symm
        subst e2
        have e1 : b1 = false := by rcases h3 with h3 | h3; cases h3; exact h3.1.symm
        subst e1
        rcases g3 with g3 | g3
        · cases g3
        · exact .inr (by omega)
  have bad : ∀ (q : List UInt8) (e : List impl_Equation) (v : Int) m, impl_DecodeEquations_l18 a0 (m + 1) q true e v = finI a0 e := fun q e v m => stop q true e v m (by simp)
  induction n with
  | zero =>
    intro q b0 e v hq hs
    cases hc : ((decide (0 < v)) && (!b0)) with
    | false =>
      refine ⟨e, by cases b0 <;> simp only [bn1, cond_true, cond_false] at hs <;> omega, fun m hm => ?_⟩
      obtain ⟨m, rfl⟩ : ∃ j, m = j + 1 := ⟨m - 1, by omega⟩
      exact stop _ _ _ _ _ hc
    | true =>
      have hb : b0 = false := by cases b0 <;> simp_all
      subst hb
      obtain ⟨q', b', e', r1, r2, r3⟩ := round q e v hc (by simpa [bn1] using hs)
      have hb1 : b' = true := by rcases r3 with r3 | r3; exact r3; omega
      subst hb1
      refine ⟨e', by simp only [bn1, cond_true] at r2; omega, fun m hm => ?_⟩
      obtain ⟨m, rfl⟩ : ∃ j, m = j + 2 := ⟨m - 2, by omega⟩
      rw [r1, bad]
  | succ n ih =>
    intro q b0 e v hq hs
    cases hc : ((decide (0 < v)) && (!b0)) with
    | false =>
      refine ⟨e, by cases b0 <;> simp only [bn1, cond_true, cond_false] at hs <;> omega, fun m hm => ?_⟩
      obtain ⟨m, rfl⟩ : ∃ j, m = j + 1 := ⟨m - 1, by omega⟩
      exact stop _ _ _ _ _ hc
    | true =>
      have hb : b0 = false := by cases b0 <;> simp_all
      subst hb
      obtain ⟨q', b', e', r1, r2, r3⟩ := round q e v hc (by simpa [bn1] using hs)
      cases b' with
      | true =>
        refine ⟨e', by simp only [bn1, cond_true] at r2; omega, fun m hm => ?_⟩
        obtain ⟨m, rfl⟩ : ∃ j, m = j + 2 := ⟨m - 2, by omega⟩
        rw [r1, bad]
      | false =>
        have hlt : q'.length < q.length := by rcases r3 with r3 | r3; cases r3; exact r3
        obtain ⟨e2, f1, f2⟩ := ih q' false e' (IntKind.i64.wrap (v - 1)) (by omega) r2
        refine ⟨e2, f1, fun m hm => ?_⟩
        obtain ⟨m, rfl⟩ : ∃ j, m = j + 1 := ⟨m - 1, by omega⟩
        rw [r1]
        exact f2 m (by omega)

end Go.Sh
