/- Part of a proof that a law returns true for every input. No condition. -/
import Derived.Test.YtobljppjkklojaaU14
namespace Go.Sh
open Go Go.Fw

theorem spec_reads (a : List UInt8) (ha : a.length ≤ 1048576) (a0 : List UInt8) (x4 : Int × (List UInt8) × Int × Bool) (e : List impl_Equation) (v7 : Int) :
    ∀ n : Nat, ∀ (p : Nat) (b0 : Bool) (ts : List Int) (v : Int), p ≤ a.length → a.length - p ≤ n → ts.length + (a.length - p) ≤ 1048577 →
      ∃ (ts' : List Int) (p' : Nat) (b' : Bool), (∀ (k18 : (List UInt8) → Int → Bool → (List impl_Equation) → Int → Option ((List impl_Equation) × Int)) m, n + 1 < m → spec_DecodeEquations_l35 k18 a0 x4 m a (p : Int) b0 e v7 ts v =
          (room 32 (e.length + 1)).bind fun _ => k18 a (p' : Int) b' (e ++ [impl_Equation.mk ((Int.tmod x4.1 2) == 1) ((IntKind.i64.wrap (Int.tdiv x4.1 2)) == 1) ts']) (IntKind.i64.wrap (v7 - 1))) ∧
        ts'.length + (a.length - p') ≤ ts.length + (a.length - p) + bn1 b' ∧ p ≤ p' ∧ p' ≤ a.length ∧ (b0 = true → b' = true) := by
  intro n
  have stop : ∀ (k18 : (List UInt8) → Int → Bool → (List impl_Equation) → Int → Option ((List impl_Equation) × Int)) (p : Nat) (b0 : Bool) (ts : List Int) (v : Int) m, ((decide (0 < v)) && (!b0)) = false → spec_DecodeEquations_l35 k18 a0 x4 (m + 1) a (p : Int) b0 e v7 ts v =
          (room 32 (e.length + 1)).bind fun _ => k18 a (p : Int) b0 (e ++ [impl_Equation.mk ((Int.tmod x4.1 2) == 1) ((IntKind.i64.wrap (Int.tdiv x4.1 2)) == 1) ts]) (IntKind.i64.wrap (v7 - 1)) := by
    intro k18 p b0 ts v m hc
    simp only [spec_DecodeEquations_l35, spec_DecodeEquations_b35, hc, cond_false]
  have go : ∀ (k18 : (List UInt8) → Int → Bool → (List impl_Equation) → Int → Option ((List impl_Equation) × Int)) (p : Nat) (x : Int) (p' : Nat) (b1 : Bool) (ts : List Int) (v : Int) m, ((decide (0 < v)) && (!false)) = true → ts.length ≤ 1048577 → spec_l32Reader_number a (p : Int) false = some (x, a, (p' : Int), b1) →
      spec_DecodeEquations_l35 k18 a0 x4 (m + 1) a (p : Int) false e v7 ts v = spec_DecodeEquations_l35 k18 a0 x4 m a (p' : Int) b1 e v7 (ts ++ [x]) (IntKind.i64.wrap (v - 1)) := by
    intro k18 p x p' b1 ts v m hc ht g
    simp only [spec_DecodeEquations_l35, spec_DecodeEquations_b35, hc, cond_true, g, Option.bind_some]
    rw [room_ok (by omega) (by omega)]; rfl
  induction n with
  | zero =>
    intro p b0 ts v hp hq ht
    cases hc : ((decide (0 < v)) && (!b0)) with
    | false =>
      refine ⟨ts, p, b0, fun k18 m hm => ?_, by omega, by omega, hp, id⟩
      obtain ⟨m, rfl⟩ : ∃ j, m = j + 1 := ⟨m - 1, by omega⟩
      exact stop _ _ _ _ _ _ hc
    | true =>
      have hb : b0 = false := by cases b0 <;> simp_all
      subst hb
      obtain ⟨x, p', b1, g1, g2, g3, g4⟩ := spec_read a ha false p hp
      have hb1 : b1 = true := by rcases g4 with g4 | g4; exact g4; omega
      subst hb1
      refine ⟨ts ++ [x], p', true, fun k18 m hm => ?_, by simp only [List.length_append, List.length_cons, List.length_nil, bn1, cond_true]; omega, g2, g3, fun h => by cases h⟩
      obtain ⟨m, rfl⟩ : ∃ j, m = j + 2 := ⟨m - 2, by omega⟩
      rw [go k18 p x p' true ts v _ hc (by omega) g1, stop _ _ _ _ _ _ (by simp)]
  | succ n ih =>
    intro p b0 ts v hp hq ht
    cases hc : ((decide (0 < v)) && (!b0)) with
    | false =>
      refine ⟨ts, p, b0, fun k18 m hm => ?_, by omega, by omega, hp, id⟩
      obtain ⟨m, rfl⟩ : ∃ j, m = j + 1 := ⟨m - 1, by omega⟩
      exact stop _ _ _ _ _ _ hc
    | true =>
      have hb : b0 = false := by cases b0 <;> simp_all
      subst hb
      obtain ⟨x, p', b1, g1, g2, g3, g4⟩ := spec_read a ha false p hp
      cases b1 with
      | true =>
        refine ⟨ts ++ [x], p', true, fun k18 m hm => ?_, by simp only [List.length_append, List.length_cons, List.length_nil, bn1, cond_true]; omega, g2, g3, fun h => by cases h⟩
        obtain ⟨m, rfl⟩ : ∃ j, m = j + 2 := ⟨m - 2, by omega⟩
        rw [go k18 p x p' true ts v _ hc (by omega) g1, stop _ _ _ _ _ _ (by simp)]
      | false =>
        have g5 : p < p' := by rcases g4 with g4 | g4; cases g4; exact g4.2
        obtain ⟨ts', p2, b', h1, h2, h3, h4, h5⟩ := ih p' false (ts ++ [x]) (IntKind.i64.wrap (v - 1)) g3 (by omega) (by simp only [List.length_append, List.length_cons, List.length_nil]; omega)
        simp only [List.length_append, List.length_cons, List.length_nil] at h2
        refine ⟨ts', p2, b', fun k18 m hm => ?_, by omega, by omega, h4, fun h => by cases h⟩
        obtain ⟨m, rfl⟩ : ∃ j, m = j + 1 := ⟨m - 1, by omega⟩
        rw [go k18 p x p' false ts v _ hc (by omega) g1]
        exact h1 k18 m (by omega)

noncomputable def finS (a0 : List UInt8) (b : Bool) (e : List impl_Equation) : Option (List impl_Equation × Int) :=
  cond b (some ([], 9)) ((spec_l22Is e).bind fun x7 => cond (!x7) (some ([], 9)) ((spec_l32Equations e).bind fun x8 => cond (!(x8 == a0)) (some ([], 9)) (some (e, 0))))
theorem spec_decode_ends (a0 a : List UInt8) (ha : a.length ≤ 7000) : ∀ n : Nat, ∀ (p : Nat) (b0 : Bool) (e : List impl_Equation) (v : Int), p ≤ a.length → a.length - p ≤ n → sizeL size_impl_Equation e + (a.length - p) ≤ 7000 + 3 * bn1 b0 →
    ∃ e' b', sizeL size_impl_Equation e' ≤ 7010 ∧ ∀ m, n + 1 < m → spec_DecodeEquations_l18 a0 m a (p : Int) b0 e v = finS a0 b' e' := by
  intro n
  have stop : ∀ (p : Nat) (b0 : Bool) (e : List impl_Equation) (v : Int) m, ((decide (0 < v)) && (!b0)) = false → spec_DecodeEquations_l18 a0 (m + 1) a (p : Int) b0 e v = finS a0 b0 e := by
    intro q b0 e v m hc
    simp only [spec_DecodeEquations_l18, spec_DecodeEquations_b18, hc, cond_false, finS]
  have round : ∀ (p : Nat) (e : List impl_Equation) (v : Int), p ≤ a.length → ((decide (0 < v)) && (!false)) = true → sizeL size_impl_Equation e + (a.length - p) ≤ 7000 →
      ∃ (p' : Nat) (b' : Bool) (e' : List impl_Equation), (∀ m, spec_DecodeEquations_l18 a0 (m + 1) a (p : Int) false e v = spec_DecodeEquations_l18 a0 m a (p' : Int) b' e' (IntKind.i64.wrap (v - 1))) ∧ sizeL size_impl_Equation e' + (a.length - p') ≤ 7000 + 3 * bn1 b' ∧ p' ≤ a.length ∧ (b' = true ∨ p < p') := by
    intro p e v hp hc hs
    obtain ⟨x4, p1, b1, g1, g2, g2', g3⟩ := spec_read a (by omega) false p hp
    obtain ⟨x5, p2, b2, h1, h2, h2', h3⟩ := spec_read a (by omega) b1 p1 g2'
    have hel := sizeL_len size_impl_Equation e
    have key := spec_reads a (by omega) a0 (x4, a, (p1 : Int), b1) e v (a.length - p2) p2 b2 [] x5 h2' (Nat.le_refl _) (by simp only [List.length_nil]; omega)
    have key2 : ∃ (ts' : List Int) (p' : Nat) (b' : Bool), (∀ k18, lim (fun n => spec_DecodeEquations_l35 k18 a0 (x4, a, (p1 : Int), b1) n a (p2 : Int) b2 e v [] x5) =
          (room 32 (e.length + 1)).bind fun _ => k18 a (p' : Int) b' (e ++ [impl_Equation.mk ((Int.tmod x4 2) == 1) ((IntKind.i64.wrap (Int.tdiv x4 2)) == 1) ts']) (IntKind.i64.wrap (v - 1))) ∧
        ts'.length + (a.length - p') ≤ (a.length - p2) + bn1 b' ∧ p2 ≤ p' ∧ p' ≤ a.length ∧ (b2 = true → b' = true) := by
      obtain ⟨ts', p', b', k1, k2, k3, k4, k5⟩ := key
      exact ⟨ts', p', b', fun k18 => lim_of (a.length - p2 + 2) fun m hm => k1 k18 m (by omega), by simpa using k2, k3, k4, k5⟩
    obtain ⟨ts, p3, b3, k1, k2, k3, k3', k4⟩ := key2
    refine ⟨p3, b3, e ++ [impl_Equation.mk ((Int.tmod x4 2) == 1) ((IntKind.i64.wrap (Int.tdiv x4 2)) == 1) ts], fun m => ?_, ?_, k3', ?_⟩
    · simp only [spec_DecodeEquations_l18, spec_DecodeEquations_b18, hc, cond_true, g1, h1, Option.bind_some]
      rw [k1, room_ok (by omega) (by omega)]; rfl
    · rw [sizeL_snoc]
      simp only
      cases b3 with
      | true => simp only [bn1, cond_true] at k2 ⊢; omega
      | false =>
        simp only [bn1, cond_false] at k2 ⊢
        have e2 : b2 = false := by cases b2; rfl; exact (k4 rfl).symm
        subst e2
        have e1 : b1 = false := by rcases h3 with h3 | h3; cases h3; exact h3.1.symm
        subst e1
        rcases g3 with g3 | g3
        · cases g3
        · omega
    · cases b3 with
      | true => exact .inl rfl
      | false =>
        have e2 : b2 = false := by cases b2; rfl; exact (k4 rfl).symm
        subst e2
        have e1 : b1 = false := by rcases h3 with h3 | h3; cases h3; exact h3.1.symm
        subst e1
        rcases g3 with g3 | g3
        · cases g3
        · exact .inr (by omega)
  induction n with
  | zero =>
    intro q b0 e v hp hq hs
    cases hc : ((decide (0 < v)) && (!b0)) with
    | false =>
      refine ⟨e, b0, by cases b0 <;> simp only [bn1, cond_true, cond_false] at hs <;> omega, fun m hm => ?_⟩
      obtain ⟨m, rfl⟩ : ∃ j, m = j + 1 := ⟨m - 1, by omega⟩
      exact stop _ _ _ _ _ hc
    | true =>
      have hb : b0 = false := by cases b0 <;> simp_all
      subst hb
      obtain ⟨q', b', e', r1, r2, r2', r3⟩ := round q e v hp hc (by simpa [bn1] using hs)
      have hb1 : b' = true := by rcases r3 with r3 | r3; exact r3; omega
      subst hb1
      refine ⟨e', true, by simp only [bn1, cond_true] at r2; omega, fun m hm => ?_⟩
      obtain ⟨m, rfl⟩ : ∃ j, m = j + 2 := ⟨m - 2, by omega⟩
      rw [r1, stop _ _ _ _ _ (by simp)]
  | succ n ih =>
    intro q b0 e v hp hq hs
    cases hc : ((decide (0 < v)) && (!b0)) with
    | false =>
      refine ⟨e, b0, by cases b0 <;> simp only [bn1, cond_true, cond_false] at hs <;> omega, fun m hm => ?_⟩
      obtain ⟨m, rfl⟩ : ∃ j, m = j + 1 := ⟨m - 1, by omega⟩
      exact stop _ _ _ _ _ hc
    | true =>
      have hb : b0 = false := by cases b0 <;> simp_all
      subst hb
      obtain ⟨q', b', e', r1, r2, r2', r3⟩ := round q e v hp hc (by simpa [bn1] using hs)
      cases b' with
      | true =>
        refine ⟨e', true, by simp only [bn1, cond_true] at r2; omega, fun m hm => ?_⟩
        obtain ⟨m, rfl⟩ : ∃ j, m = j + 2 := ⟨m - 2, by omega⟩
        rw [r1, stop _ _ _ _ _ (by simp)]
      | false =>
        have hlt : q < q' := by rcases r3 with r3 | r3; cases r3; exact r3
        obtain ⟨e2, b2, f1, f2⟩ := ih q' false e' (IntKind.i64.wrap (v - 1)) r2' (by omega) r2
        refine ⟨e2, b2, f1, fun m hm => ?_⟩
        obtain ⟨m, rfl⟩ : ∃ j, m = j + 1 := ⟨m - 1, by omega⟩
        rw [r1]
        exact f2 m (by omega)

end Go.Sh
