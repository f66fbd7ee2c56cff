/- Part of a proof that a law returns true for every input. No condition. -/
import Derived.Test.YtobljppjkklojaaU16
import Derived.Test.YtobljppjkklojaaU2
namespace Go.Sh
open Go Go.Fw

/-! Both decoders answer the same. -/
theorem kind_ok {a : List UInt8} (h : (imageKind a).2 = 0) : 3 ≤ a.length ∧ a.length ≤ 6000 := by
  unfold imageKind at h
  split at h
  · cases h
  · split at h
    · cases h
    · split at h
      · cases h
      · rename_i h1 h2 h3
        omega
def bodyB (a : List UInt8) : List UInt8 := (a.take (a.length - 2)).drop 1
theorem sub_body {a : List UInt8} (h : 3 ≤ a.length) (h2 : a.length ≤ 6000) : subL a 1 (IntKind.i64.wrap ((a.length : Int) - 2)) = some (bodyB a) := by
  rw [w64 _ (by omega)]
  unfold subL
  rw [if_pos (by omega)]
  have e : ((a.length : Int) - 2).toNat = a.length - 2 := by omega
  rw [e]; rfl
noncomputable def restI (a0 : List UInt8) : Option (List impl_Equation × Int) := (impl_unpacker_number (bodyB a0) false).bind fun x3 => lim fun n => impl_DecodeEquations_l18 a0 n x3.2.1 x3.2.2 [] x3.1
noncomputable def restS (a0 : List UInt8) : Option (List impl_Equation × Int) := (spec_l32Reader_number (bodyB a0) 0 false).bind fun x3 => lim fun n => spec_DecodeEquations_l18 a0 n x3.2.1 x3.2.2.1 x3.2.2.2 [] x3.1
theorem impl_dec (a0 : List UInt8) (ha : a0.length ≤ 1048576) : impl_DecodeEquations a0 = if (imageKind a0).2 ≠ 0 then some ([], (imageKind a0).2) else if (imageKind a0).1 ≠ 3 then some ([], 6) else restI a0 := by
  unfold impl_DecodeEquations impl_contents
  rw [impl_kind a0 (by omega)]
  simp only [Option.bind_some]
  by_cases h : (imageKind a0).2 = 0
  · by_cases h3 : (imageKind a0).1 = 3
    · obtain ⟨k1, k2⟩ := kind_ok h
      simp only [h, h3, bne_self_eq_false, cond_false, sub_body k1 k2, Option.bind_some, Option.elim, ne_eq, not_true_eq_false, if_false]
      rfl
    · have e3 : ((imageKind a0).1 != 3) = true := by simp [h3]
      simp only [h, e3, h3, bne_self_eq_false, cond_false, cond_true, Option.bind_some, Option.elim, ne_eq, not_true_eq_false, not_false_eq_true, if_false, if_true]
      rfl
  · have e : ((imageKind a0).2 != 0) = true := by simp [h]
    simp only [h, e, cond_true, Option.bind_some, Option.elim, ne_eq, not_false_eq_true, if_true]
theorem spec_dec (a0 : List UInt8) (ha : a0.length ≤ 1048576) : spec_DecodeEquations a0 = if (imageKind a0).2 ≠ 0 then some ([], (imageKind a0).2) else if (imageKind a0).1 ≠ 3 then some ([], 6) else restS a0 := by
  unfold spec_DecodeEquations spec_l32Open
  rw [spec_kind a0 (by omega)]
  simp only [Option.bind_some]
  by_cases h : (imageKind a0).2 = 0
  · by_cases h3 : (imageKind a0).1 = 3
    · obtain ⟨k1, k2⟩ := kind_ok h
      simp only [h, h3, bne_self_eq_false, cond_false, sub_body k1 k2, Option.bind_some, Option.elim, ne_eq, not_true_eq_false, if_false]
      rfl
    · have e3 : ((imageKind a0).1 != 3) = true := by simp [h3]
      simp only [h, e3, h3, bne_self_eq_false, cond_false, cond_true, Option.bind_some, Option.elim, ne_eq, not_true_eq_false, not_false_eq_true, if_false, if_true]
      rfl
  · have e : ((imageKind a0).2 != 0) = true := by simp [h]
    simp only [h, e, cond_true, Option.bind_some, Option.elim, ne_eq, not_false_eq_true, if_true]

def okE (a0 : List UInt8) (e : List impl_Equation) : Prop := eqsOk e = true ∧ encE e = a0
theorem finI_eq {a0 : List UInt8} (h0 : a0 ≠ []) {e : List impl_Equation} (he : sizeL size_impl_Equation e ≤ 1048576) : (okE a0 e → finI a0 e = some (e, 0)) ∧ (¬ okE a0 e → finI a0 e = some ([], 9)) := by
  unfold finI okE
  rw [impl_encode e he]
  simp only [Option.bind_some]
  cases hok : eqsOk e with
  | false =>
    have : (([] : List UInt8) == a0) = false := by
      simp only [beq_eq_false_iff_ne, ne_eq]; exact fun h => h0 h.symm
    simp [this]
  | true =>
    simp only [if_true, true_and]
    constructor
    · intro h; unfold encE at h; rw [h]; simp
    · intro h
      have : (fin2 ((3 : UInt8) :: (num (e.length : Int) ++ e.flatMap eqBytes)) == a0) = false := by
        simp only [beq_eq_false_iff_ne, ne_eq]; exact h
      rw [this]; rfl
theorem finS_eq {a0 : List UInt8} (b : Bool) {e : List impl_Equation} (he : sizeL size_impl_Equation e ≤ 1048576) : (b = false → okE a0 e → finS a0 b e = some (e, 0)) ∧ (¬ okE a0 e ∨ b = true → finS a0 b e = some ([], 9)) := by
  unfold finS okE
  cases b with
  | true => exact ⟨fun h => (by cases h), fun _ => rfl⟩
  | false =>
    rw [spec_eqs e he]
    simp only [Option.bind_some, cond_false]
    cases hok : eqsOk e with
    | false => exact ⟨fun _ h => (by cases h.1), fun _ => rfl⟩
    | true =>
      rw [spec_enc e he hok]
      simp only [Bool.not_true, cond_false, Option.bind_some, true_and]
      constructor
      · intro _ h; rw [h]; simp
      · intro h
        have : (encE e == a0) = false := by
          simp only [beq_eq_false_iff_ne, ne_eq]
          rcases h with h | h
          · exact h
          · cases h
        rw [this]; rfl

theorem enc_body {a0 : List UInt8} (h0 : a0 ≠ []) {e : List impl_Equation} (h : okE a0 e) : bodyB a0 = toB (e.length : Int) :: e.flatMap eqB1 := by
  obtain ⟨h1, h2⟩ := h
  obtain ⟨g1, g2⟩ := eqsOk_good h1
  unfold encE fin2 at h2
  split at h2
  · exact (h0 h2.symm).elim
  · rw [flats_one e g2, (num_one (n := (e.length : Int)) (by omega) (by omega)).1] at h2
    subst h2
    unfold bodyB
    have : ∀ (w : List UInt8) (x y : UInt8), ((w ++ [x, y]).take ((w ++ [x, y]).length - 2)) = w := by
      intro w x y
      have e : (w ++ [x, y]).length - 2 = w.length := by simp
      rw [e, List.take_left']
      rfl
    rw [this]; rfl

theorem restI_ends {a0 : List UInt8} (h1 : 3 ≤ a0.length) (h2 : a0.length ≤ 6000) : ∃ e, sizeL size_impl_Equation e ≤ 1048576 ∧ restI a0 = finI a0 e := by
  obtain ⟨n, l', b', g1, g2, g3⟩ := impl_read (bodyB a0) false
  have hb : (bodyB a0).length ≤ 6000 := by unfold bodyB; simp only [List.length_drop, List.length_take]; omega
  obtain ⟨e, k1, k2⟩ := impl_decode_ends a0 l'.length l' b' [] n (Nat.le_refl _) (by simp [sizeL, sumS]; omega)
  refine ⟨e, by omega, ?_⟩
  unfold restI
  rw [g1]
  exact lim_of (l'.length + 2) fun m hm => k2 m (by omega)
theorem restS_ends {a0 : List UInt8} (h1 : 3 ≤ a0.length) (h2 : a0.length ≤ 6000) : ∃ e b, sizeL size_impl_Equation e ≤ 1048576 ∧ restS a0 = finS a0 b e := by
  have hb : (bodyB a0).length ≤ 6000 := by unfold bodyB; simp only [List.length_drop, List.length_take]; omega
  obtain ⟨n, p', b', g1, g2, g3, g4⟩ := spec_read (bodyB a0) (by omega) false 0 (by omega)
  obtain ⟨e, b, k1, k2⟩ := spec_decode_ends a0 (bodyB a0) (by omega) (bodyB a0).length p' b' [] n g3 (by omega) (by simp [sizeL, sumS]; omega)
  refine ⟨e, b, by omega, ?_⟩
  unfold restS
  have g1' : spec_l32Reader_number (bodyB a0) 0 false = some (n, bodyB a0, (p' : Int), b') := g1
  rw [g1']
  exact lim_of ((bodyB a0).length + 2) fun m hm => k2 m (by omega)
theorem restI_back {a0 : List UInt8} (h0 : a0 ≠ []) {e : List impl_Equation} (h : okE a0 e) : restI a0 = finI a0 e := by
  obtain ⟨g1, g2⟩ := eqsOk_good h.1
  unfold restI
  rw [enc_body h0 h, impl_one' _ _ _ (by omega) (by omega)]
  refine lim_of (e.length + 1) fun m hm => ?_
  have := impl_back a0 e g1 g2 0 (by omega) m (by omega)
  simpa using this
theorem restS_back {a0 : List UInt8} (h1 : 3 ≤ a0.length) (h2 : a0.length ≤ 6000) {e : List impl_Equation} (h : okE a0 e) : restS a0 = finS a0 false e := by
  obtain ⟨g1, g2⟩ := eqsOk_good h.1
  have h0 : a0 ≠ [] := by rintro rfl; simp at h1
  have hb : (bodyB a0).length ≤ 6000 := by unfold bodyB; simp only [List.length_drop, List.length_take]; omega
  have hd := enc_body h0 h
  obtain ⟨k1, k2⟩ := spec_one' (a := bodyB a0) (p := 0) (n := (e.length : Int)) (r := e.flatMap eqB1) (by omega) false (by omega) (by omega) (by simpa using hd)
  have k1' : spec_l32Reader_number (bodyB a0) 0 false = some ((e.length : Int), bodyB a0, 1, false) := k1
  unfold restS
  rw [k1']
  refine lim_of (e.length + 1) fun m hm => ?_
  have := spec_back a0 (bodyB a0) (by omega) e g1 g2 0 (by omega) 1 m (by omega) (by simpa using k2)
  simpa using this

theorem decode_same (a0 : List UInt8) (ha : a0.length ≤ 1048576) : ∃ r, spec_DecodeEquations a0 = some r ∧ impl_DecodeEquations a0 = some r ∧ sizeL size_impl_Equation r.1 ≤ 1048576 := by
  rw [spec_dec a0 ha, impl_dec a0 ha]
  by_cases h : (imageKind a0).2 = 0
  · by_cases h3 : (imageKind a0).1 = 3
    · obtain ⟨k1, k2⟩ := kind_ok h
      have h0 : a0 ≠ [] := by rintro rfl; simp at k1
      simp only [h, h3, ne_eq, not_true_eq_false, if_false]
      by_cases hE : ∃ e, okE a0 e ∧ sizeL size_impl_Equation e ≤ 1048576
      · obtain ⟨e, he, hs⟩ := hE
        refine ⟨(e, 0), ?_, ?_, hs⟩
        · rw [restS_back k1 k2 he]; exact (finS_eq false hs).1 rfl he
        · rw [restI_back h0 he]; exact (finI_eq h0 hs).1 he
      · refine ⟨([], 9), ?_, ?_, by simp [sizeL, sumS]⟩
        · obtain ⟨e, b, q1, q2⟩ := restS_ends k1 k2
          rw [q2]; exact (finS_eq b q1).2 (.inl fun hk => hE ⟨e, hk, q1⟩)
        · obtain ⟨e, q1, q2⟩ := restI_ends k1 k2
          rw [q2]; exact (finI_eq h0 q1).2 fun hk => hE ⟨e, hk, q1⟩
    · simp only [h, h3, ne_eq, not_true_eq_false, not_false_eq_true, if_false, if_true]
      exact ⟨_, rfl, rfl, by simp [sizeL, sumS]⟩
  · simp only [h, ne_eq, not_false_eq_true, if_true]
    exact ⟨_, rfl, rfl, by simp [sizeL, sumS]⟩

end Go.Sh
