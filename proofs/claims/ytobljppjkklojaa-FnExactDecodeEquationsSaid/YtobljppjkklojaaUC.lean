/- Part of a proof that a law returns true for every input. No condition. -/
import Derived.Test.YtobljppjkklojaaP8
import Derived.Test.YtobljppjkklojaaU0
namespace Go.Sh
open Go Go.Fw

/-! The check value. -/
def crc1 (s : Int) : Int := cond (decide (65535 < IntKind.i64.wrap (s * 2))) (bitsOf .xor .i64 (bitsOf .and .i64 (IntKind.i64.wrap (s * 2)) 65535) 4129) (IntKind.i64.wrap (s * 2))
def crcN : Nat → Int → Int
  | 0, s => s
  | k + 1, s => crcN k (crc1 s)
def crcB (s : Int) (c : UInt8) : Int := crcN 8 (bitsOf .xor .i64 s (IntKind.i64.wrap ((c.toNat : Int) * 256)))
def crc (l : List UInt8) (s : Int) : Int := l.foldl crcB s

theorem spec_crc_in (k6 : Int → Int → Option Int) (a : List UInt8) (i : Int) : ∀ (d n : Nat) (s j : Int), j = 8 - d → d ≤ 8 → d < n → spec_l01Crc_l20 k6 a n s i j = k6 (crcN d s) (IntKind.i64.wrap (i + 1)) := by
  intro d
  induction d with
  | zero =>
    intro n s j hj _ hn
    obtain ⟨m, rfl⟩ : ∃ m, n = m + 1 := ⟨n - 1, by omega⟩
    simp only [spec_l01Crc_l20, spec_l01Crc_b20]
    have : decide (j < 8) = false := by simp; omega
    rw [this]; rfl
  | succ d ih =>
    intro n s j hj hd hn
    obtain ⟨m, rfl⟩ : ∃ m, n = m + 1 := ⟨n - 1, by omega⟩
    simp only [spec_l01Crc_l20, spec_l01Crc_b20, spec_l01Crc_k36]
    have h1 : decide (j < 8) = true := by simp; omega
    have h2 : IntKind.i64.wrap (j + 1) = j + 1 := w64 _ (by omega)
    have e : (2 : Int) ^ (min (Int.toNat 1) 64) = 2 := by decide
    rw [h1, h2, e]
    simp only [cond_true]
    rw [ih m _ (j + 1) (by omega) (by omega) (by omega), ih m _ (j + 1) (by omega) (by omega) (by omega)]
    simp only [crcN, crc1]
    cases decide (65535 < IntKind.i64.wrap (s * 2)) <;> rfl

theorem spec_crc_out (a : List UInt8) (ha : a.length ≤ 140737488355328) : ∀ (d n : Nat) (s i : Int), i = a.length - d → d ≤ a.length → d < n → spec_l01Crc_l6 a n s i = some (crc (a.drop i.toNat) s) := by
  intro d
  induction d with
  | zero =>
    intro n s i hi _ hn
    obtain ⟨m, rfl⟩ : ∃ m, n = m + 1 := ⟨n - 1, by omega⟩
    simp only [spec_l01Crc_l6, spec_l01Crc_b6]
    have h1 : decide (i < a.length) = false := by simp; omega
    rw [h1, List.drop_of_length_le (by omega)]; rfl
  | succ d ih =>
    intro n s i hi hd hn
    obtain ⟨m, rfl⟩ : ∃ m, n = m + 1 := ⟨n - 1, by omega⟩
    simp only [spec_l01Crc_l6, spec_l01Crc_b6]
    have h1 : decide (i < a.length) = true := by simp; omega
    have hlt : i.toNat < a.length := by omega
    rw [h1, getI_some (by omega) hlt]
    simp only [cond_true, Option.bind_some]
    rw [lim_of (x := spec_l01Crc_l6 a m (crcB s a[i.toNat]) (i + 1)) 9]
    · rw [ih m _ (i + 1) (by omega) (by omega) (by omega)]
      have : (i + 1).toNat = i.toNat + 1 := by omega
      rw [this, List.drop_eq_getElem_cons hlt]
      rfl
    · intro n hn
      have e : (2 : Int) ^ (min (Int.toNat 8) 64) = 256 := by decide
      rw [e, spec_crc_in _ a i 8 n _ 0 (by omega) (by omega) (by omega), w64 (i + 1) (by omega)]
      rfl

theorem spec_crc (a : List UInt8) (ha : a.length ≤ 140737488355328) (s : Int) : spec_l01Crc a s = some (crc a s) := by
  unfold spec_l01Crc
  refine lim_of (a.length + 1) fun n hn => ?_
  rw [spec_crc_out a ha a.length n s 0 (by omega) (by omega) (by omega)]; rfl

theorem impl_crc_eq (a : List UInt8) (s : Int) (h : 0 ≤ s ∧ s ≤ 65535) : impl_Crc16 a s = spec_l01Crc a s := by
  have e1 : ∀ k n s i j, impl_Crc16_l32 k a n s i j = spec_l01Crc_l20 k a n s i j := by
    intro k n
    induction n with
    | zero => intros; rfl
    | succ n ih =>
      intro s i j
      have e : (2 : Int) ^ (min (Int.toNat 1) 64) = 2 := by decide
      simp only [impl_Crc16_l32, spec_l01Crc_l20, impl_Crc16_b32, spec_l01Crc_b20, impl_Crc16_k48, spec_l01Crc_k36, ih, e]
  have e2 : ∀ n s i, impl_Crc16_l16 a n s i = spec_l01Crc_l6 a n s i := by
    intro n
    induction n with
    | zero => intros; rfl
    | succ n ih =>
      intro s i
      have e : (2 : Int) ^ (min (Int.toNat 8) 64) = 256 := by decide
      have ih' : impl_Crc16_l16 a n = spec_l01Crc_l6 a n := by funext s i; exact ih s i
      simp only [impl_Crc16_l16, spec_l01Crc_l6, impl_Crc16_b16, spec_l01Crc_b6, e1, e, ih']
  unfold impl_Crc16 spec_l01Crc impl_within
  have hb : (decide (0 ≤ s) && decide (s ≤ 65535)) = true := by simp [h]
  simp only [hb, Option.bind_some, Bool.not_true, cond_false, e2]

theorem impl_crc (a : List UInt8) (ha : a.length ≤ 140737488355328) (s : Int) (h : 0 ≤ s ∧ s ≤ 65535) : impl_Crc16 a s = some (crc a s) := (impl_crc_eq a s h).trans (spec_crc a ha s)

end Go.Sh
