/- Part of a proof that a law returns true for every input. No condition. -/
import Derived.Test.YtncnipaofaeaiaaU7
namespace Go.Sh
open Go Go.Fw
set_option linter.unusedSimpArgs false

def findI (a : List impl_Item) (s : List UInt8) : List UInt8 × Int := match a.find? (fun x => x.Name == s) with
  | some x => (x.Image, 0)
  | none => ([], 3)

theorem spec_find (a : List impl_Item) (s : List UInt8) (h : smallI a) : spec_FindItem a s = some (if itemsOk a = true then findI a s else ([], 1)) := by
  unfold spec_FindItem
  rw [spec_items a h]
  simp only [Option.bind_some]
  cases itemsOk a with
  | false => rfl
  | true =>
    simp only [Bool.not_true, cond_false, if_true]
    rw [up_lim (n := a.length) (fun i => some (findI (a.drop i) s))]
    · rfl
    · intro m
      simp only [spec_FindItem_l14, spec_FindItem_b14]
      rw [ltF (Nat.le_refl _)]; simp [findI]
    · intro i hi m ih
      simp only [spec_FindItem_l14, spec_FindItem_b14]
      rw [ltT hi, getI_lt _ i hi, wsucc i _ hi (by have := h.1; omega), ih, drop_cons a i hi]
      simp only [cond_true, Option.bind_some, findI, List.find?_cons]
      cases (a[i].Name == s) <;> rfl

theorem impl_find (a : List impl_Item) (s : List UInt8) (h : smallI a) : impl_FindItem a s = some (if itemsOk a = true then findI a s else ([], 1)) := by
  unfold impl_FindItem
  rw [impl_items a h]
  simp only [Option.bind_some]
  cases ho : itemsOk a with
  | false => rfl
  | true =>
    obtain ⟨hs, _⟩ := sorted_of_ok ho
    simp only [Bool.not_true, cond_false, if_true]
    have mono : ∀ i j, i ≤ j → j < a.length → cmpS (nameAt a j) s < 0 → cmpS (nameAt a i) s < 0 := by
      intro i j hij hj hc
      by_cases e : i = j
      · subst e; exact hc
      · have := sorted_lt hs (j - i - 1) i (by omega)
        rw [show i + (j - i - 1) + 1 = j by omega] at this
        rw [cmpS_lt] at hc ⊢
        exact less_trans _ _ _ this hc
    have hbs : ∃ k : Nat, k ≤ a.length ∧ (∀ j, j < k → cmpS (nameAt a j) s < 0) ∧ (∀ j, k ≤ j → j < a.length → ¬ cmpS (nameAt a j) s < 0) ∧
        slices_BinarySearchFunc_Item_string__impl_compareItems a s = some ((k : Int), decide (k < a.length) && (cmpS (nameAt a k) s == 0)) := by
      obtain ⟨k, k1, k2, k3, k4⟩ := bs_loop a s h.1 a.length 0 a.length (a.length + 1) (by omega) (by omega) (by omega) (by omega) (fun j hj => by omega) (fun j h1 h2 => by omega) mono
      refine ⟨k, k1, k2, k3, lim_of (a.length + 1) fun n hn => ?_⟩
      obtain ⟨k', q1, q2, q3, q4⟩ := bs_loop a s h.1 a.length 0 a.length n (by omega) (by omega) (by omega) (by omega) (fun j hj => by omega) (fun j h1 h2 => by omega) mono
      have : k' = k := by
        rcases Nat.lt_trichotomy k' k with hlt | he | hlt
        · exact absurd (k2 k' hlt) (q3 k' (by omega) (by omega))
        · exact he
        · exact absurd (q2 k hlt) (k3 k (by omega) (by omega))
      subst this
      exact q4
    obtain ⟨k, k1, k2, k3, k4⟩ := hbs
    have nm : ∀ j, (hj : j < a.length) → nameAt a j = a[j].Name := fun j hj => by simp [nameAt, List.getD, hj]
    rw [k4]
    simp only [Option.bind_some]
    by_cases hk : k < a.length ∧ cmpS (nameAt a k) s = 0
    · obtain ⟨hk1, hk2⟩ := hk
      have e : (decide (k < a.length) && (cmpS (nameAt a k) s == 0)) = true := by simp [hk1, hk2]
      rw [e, getI_lt a k hk1]
      have hf : a.find? (fun x => x.Name == s) = some a[k] := by
        rw [List.find?_eq_some_iff_getElem]
        refine ⟨by simpa [← nm k hk1] using (cmpS_eq0 _ _).1 hk2, k, hk1, rfl, fun j hj => ?_⟩
        have := k2 j hj
        have hne : nameAt a j ≠ s := fun e => by rw [(cmpS_eq0 _ _).2 e] at this; omega
        rw [nm j (by omega)] at hne
        simpa using hne
      simp [findI, hf]
    · have e : (decide (k < a.length) && (cmpS (nameAt a k) s == 0)) = false := by
        by_cases h1 : k < a.length
        · have : cmpS (nameAt a k) s ≠ 0 := fun h2 => hk ⟨h1, h2⟩
          simp [h1, this]
        · simp [h1]
      rw [e]
      have hf : a.find? (fun x => x.Name == s) = none := by
        rw [List.find?_eq_none]
        intro x hx
        obtain ⟨j, hj, rfl⟩ := List.getElem_of_mem hx
        have hne : nameAt a j ≠ s := by
          intro e
          have hz := (cmpS_eq0 _ _).2 e
          rcases Nat.lt_trichotomy j k with hlt | he | hlt
          · have := k2 j hlt; omega
          · subst he; exact hk ⟨hj, hz⟩
          · have h1 := sorted_lt hs (j - k - 1) k (by omega)
            rw [show k + (j - k - 1) + 1 = j by omega, e] at h1
            exact k3 k (Nat.le_refl _) (by omega) ((cmpS_lt _ _).2 h1)
        rw [nm j hj] at hne
        simpa using hne
      simp [findI, hf]

theorem FindItem_true (a : List laws_Item) (s : List UInt8) (ha : a.length ≤ 9223372036854775807 ∧ ∀ y ∈ a, wf_laws_Item y) (_hs : s.length ≤ maxLen) : laws_FnExactFindItem a s = some true := by
  unfold laws_FnExactFindItem
  by_cases h : 1048576 < s.length
  · have : decide ((1048576 : Int) < s.length) = true := by simp; omega
    rw [this]; rfl
  · have hd0 : decide ((1048576 : Int) < s.length) = false := by simp; omega
    obtain ⟨r, r1, r2⟩ := sz_items a ha
    rw [hd0, r1]
    simp only [cond_false, Option.bind_some]
    by_cases hr : r < 0
    · have : decide (r < 0) = true := by simpa using hr
      rw [this]; rfl
    · have hd : decide (r < 0) = false := by simpa using hr
      have hs := r2 (by omega)
      rw [hd, to_items a hs.1]
      simp only [cond_false, Option.bind_some]
      rw [spec_find _ _ (small_toI hs), impl_find _ _ (small_toI hs), eq_items _ (small_toI hs).1]
      simp

end Go.Sh
