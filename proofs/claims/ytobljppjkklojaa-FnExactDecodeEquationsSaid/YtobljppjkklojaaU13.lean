/- Part of a proof that a law returns true for every input. No condition. -/
import Derived.Test.YtobljppjkklojaaU12
namespace Go.Sh
open Go Go.Fw

/-! Reading numbers: both readers come to an end, and read what was written. -/
theorem u8lt (c : UInt8) : (c.toNat : Int) < 256 := by have := c.toNat_lt; omega
theorem geT {i n : Nat} (h : n ≤ i) : decide ((n : Int) ≤ (i : Int)) = true := by simp; omega
theorem geF {i n : Nat} (h : i < n) : decide ((n : Int) ≤ (i : Int)) = false := by simp; omega

theorem spec_read (a : List UInt8) (ha : a.length ≤ 1048576) (b : Bool) (p : Nat) (hp : p ≤ a.length) :
    ∃ (n : Int) (p' : Nat) (b' : Bool), spec_l32Reader_number a (p : Int) b = some (n, a, (p' : Int), b') ∧ p ≤ p' ∧ p' ≤ a.length ∧ (b' = true ∨ (b' = b ∧ p < p')) := by
  have key : ∀ i : Nat, i ≤ 3 → ∀ (q : Nat) (v w : Int), p ≤ q → q ≤ a.length → ∃ (n : Int) (p' : Nat) (b' : Bool), (∀ m, 3 - i < m → spec_l32Reader_number_l10 a b m (q : Int) v w (i : Int) = some (n, a, (p' : Int), b')) ∧ p ≤ p' ∧ p' ≤ a.length ∧ (b' = true ∨ (b' = b ∧ p < p')) := by
    refine down 3 ?_ ?_
    · intro q v w h1 h2
      refine ⟨0, q, true, fun m hm => ?_, h1, h2, .inl rfl⟩
      obtain ⟨m, rfl⟩ : ∃ j, m = j + 1 := ⟨m - 1, by omega⟩
      rfl
    · intro i hi ih q v w h1 h2
      have hi3 : decide ((i : Int) < 3) = true := by simp; omega
      by_cases hq : q < a.length
      · by_cases hc : ((a[q].toNat : Nat) : Int) < 128
        · refine ⟨IntKind.i64.wrap (v + (IntKind.i64.wrap ((Int.tmod (a[q].toNat : Int) 128) * w))), q + 1, b, fun m hm => ?_, by omega, by omega, .inr ⟨rfl, by omega⟩⟩
          obtain ⟨m, rfl⟩ : ∃ j, m = j + 1 := ⟨m - 1, by omega⟩
          simp only [spec_l32Reader_number_l10, spec_l32Reader_number_b10]
          rw [hi3, geF hq, getI_lt _ q hq, wsucc q _ hq (by omega)]
          simp only [cond_true, cond_false, Option.bind_some]
          rw [decide_eq_true hc, cond_true]
        · obtain ⟨n, p', b', g1, g2, g3, g4⟩ := ih (q + 1) (IntKind.i64.wrap (v + (IntKind.i64.wrap ((Int.tmod (a[q].toNat : Int) 128) * w)))) (IntKind.i64.wrap (w * 128)) (by omega) (by omega)
          refine ⟨n, p', b', fun m hm => ?_, g2, g3, g4⟩
          obtain ⟨m, rfl⟩ : ∃ j, m = j + 1 := ⟨m - 1, by omega⟩
          simp only [spec_l32Reader_number_l10, spec_l32Reader_number_b10]
          rw [hi3, geF hq, getI_lt _ q hq, wsucc q _ hq (by omega), wsucc i 3 hi (by omega)]
          simp only [cond_true, cond_false, Option.bind_some]
          rw [decide_eq_false hc, cond_false]
          exact g1 m (by omega)
      · refine ⟨0, q, true, fun m hm => ?_, h1, h2, .inl rfl⟩
        obtain ⟨m, rfl⟩ : ∃ j, m = j + 1 := ⟨m - 1, by omega⟩
        simp only [spec_l32Reader_number_l10, spec_l32Reader_number_b10]
        rw [hi3, geT (by omega)]; rfl
  obtain ⟨n, p', b', g1, g2, g3, g4⟩ := key 0 (by omega) p 0 1 (by omega) hp
  exact ⟨n, p', b', lim_of 4 fun m hm => g1 m (by omega), g2, g3, g4⟩

theorem impl_read (l : List UInt8) (b : Bool) :
    ∃ (n : Int) (l' : List UInt8) (b' : Bool), impl_unpacker_number l b = some (n, l', b') ∧ l'.length ≤ l.length ∧ (b' = true ∨ (b' = b ∧ l'.length < l.length)) := by
  have key : ∀ i : Nat, i ≤ 4 → ∀ (q : List UInt8) (b0 : Bool) (v w : Int), q.length ≤ l.length → (b0 = true ∨ b0 = b) → ∃ (n : Int) (l' : List UInt8) (b' : Bool), (∀ m, 4 - i < m → impl_unpacker_number_l8 m q b0 v w (i : Int) = some (n, l', b')) ∧ l'.length ≤ l.length ∧ (b' = true ∨ (b' = b ∧ l'.length < l.length)) := by
    refine down 4 ?_ ?_
    · intro q b0 v w h1 _
      refine ⟨0, q, true, fun m hm => ?_, h1, .inl rfl⟩
      obtain ⟨m, rfl⟩ : ∃ j, m = j + 1 := ⟨m - 1, by omega⟩
      rfl
    · intro i hi ih q b0 v w h1 hb
      have hi3 : decide ((i : Int) < 4) = true := by simp; omega
      cases q with
      | nil =>
        refine ⟨IntKind.i64.wrap (v + (IntKind.i64.wrap ((Int.tmod (0 : Int) 128) * w))), [], true, fun m hm => ?_, by simp, .inl rfl⟩
        obtain ⟨m, rfl⟩ : ∃ j, m = j + 1 := ⟨m - 1, by omega⟩
        simp only [impl_unpacker_number_l8, impl_unpacker_number_b8, impl_unpacker_byte]
        rw [hi3]; rfl
      | cons c r =>
        have hne : ((c :: r) == ([] : List UInt8)) = false := rfl
        simp only [List.length_cons] at h1
        by_cases hc : ((c.toNat : Nat) : Int) < 128
        · refine ⟨IntKind.i64.wrap (v + (IntKind.i64.wrap ((Int.tmod (c.toNat : Int) 128) * w))), r, b0, fun m hm => ?_, by omega, ?_⟩
          · obtain ⟨m, rfl⟩ : ∃ j, m = j + 1 := ⟨m - 1, by omega⟩
            simp only [impl_unpacker_number_l8, impl_unpacker_number_b8, impl_unpacker_byte]
            rw [hi3, hne, getI_zero, subL_tail]
            simp only [cond_true, cond_false, Option.bind_some]
            rw [decide_eq_true hc, cond_true]
          · rcases hb with rfl | rfl
            · exact .inl rfl
            · exact .inr ⟨rfl, by omega⟩
        · obtain ⟨n, l', b', g1, g2, g3⟩ := ih r b0 (IntKind.i64.wrap (v + (IntKind.i64.wrap ((Int.tmod (c.toNat : Int) 128) * w)))) (IntKind.i64.wrap (w * 128)) (by omega) hb
          refine ⟨n, l', b', fun m hm => ?_, g2, g3⟩
          obtain ⟨m, rfl⟩ : ∃ j, m = j + 1 := ⟨m - 1, by omega⟩
          simp only [impl_unpacker_number_l8, impl_unpacker_number_b8, impl_unpacker_byte]
          rw [hi3, hne, getI_zero, subL_tail, wsucc i 4 hi (by omega)]
          simp only [cond_true, cond_false, Option.bind_some]
          rw [decide_eq_false hc, cond_false]
          exact g1 m (by omega)
  obtain ⟨n, l', b', g1, g2, g3⟩ := key 0 (by omega) l b 0 1 (by omega) (.inr rfl)
  exact ⟨n, l', b', lim_of 5 fun m hm => g1 m (by omega), g2, g3⟩

theorem one_val (c : UInt8) (hc : ((c.toNat : Nat) : Int) < 128) : IntKind.i64.wrap (0 + (IntKind.i64.wrap ((Int.tmod (c.toNat : Int) 128) * 1))) = (c.toNat : Int) := by
  have h : Int.tmod (c.toNat : Int) 128 = (c.toNat : Int) := Int.tmod_eq_of_lt (by omega) hc
  have e : IntKind.i64.wrap (c.toNat : Int) = (c.toNat : Int) := w64 _ (by omega)
  rw [h, Int.mul_one, e, Int.zero_add, e]

theorem spec_one (a : List UInt8) (ha : a.length ≤ 1048576) (b : Bool) (p : Nat) (hp : p < a.length) (hc : ((a[p].toNat : Nat) : Int) < 128) :
    spec_l32Reader_number a (p : Int) b = some ((a[p].toNat : Int), a, ((p + 1 : Nat) : Int), b) := by
  refine lim_of 1 fun m hm => ?_
  obtain ⟨m, rfl⟩ : ∃ j, m = j + 1 := ⟨m - 1, by omega⟩
  simp only [spec_l32Reader_number_l10, spec_l32Reader_number_b10]
  rw [geF hp, getI_lt _ p hp, wsucc p _ hp (by omega)]
  have h3 : decide ((0 : Int) < 3) = true := by decide
  simp only [h3, cond_true, cond_false, Option.bind_some]
  rw [decide_eq_true hc, cond_true, one_val _ hc]

theorem impl_one (c : UInt8) (r : List UInt8) (b : Bool) (hc : ((c.toNat : Nat) : Int) < 128) : impl_unpacker_number (c :: r) b = some ((c.toNat : Int), r, b) := by
  refine lim_of 1 fun m hm => ?_
  obtain ⟨m, rfl⟩ : ∃ j, m = j + 1 := ⟨m - 1, by omega⟩
  have hne : ((c :: r) == ([] : List UInt8)) = false := rfl
  have h3 : decide ((0 : Int) < 4) = true := by decide
  simp only [impl_unpacker_number_l8, impl_unpacker_number_b8, impl_unpacker_byte]
  rw [h3, hne, getI_zero, subL_tail]
  simp only [cond_true, cond_false, Option.bind_some]
  rw [decide_eq_true hc, cond_true, one_val _ hc]

theorem num_one {n : Int} (h0 : 0 ≤ n) (h : n < 128) : num n = [toB n] ∧ (((toB n).toNat : Nat) : Int) = n := by
  have e : (((toB n).toNat : Nat) : Int) = n := by
    have e1 : IntKind.u8.wrap n = n := by rw [IntKind.wrap_u8]; omega
    unfold toB
    rw [e1, UInt8.toNat_ofNat']
    omega
  refine ⟨?_, e⟩
  unfold num
  unfold numF
  rw [if_neg (by omega)]

end Go.Sh
