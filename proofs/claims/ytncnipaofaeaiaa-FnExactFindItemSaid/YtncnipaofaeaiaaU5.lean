/- Part of a proof that a law returns true for every input. No condition. -/
import Derived.Test.YtncnipaofaeaiaaU4
namespace Go.Sh
open Go Go.Fw

theorem sz_item (x : laws_Item) (n : Int) (hx : wf_laws_Item x) (h0 : 0 ≤ n) (hn : n ≤ 1048576) :
    ∃ r, laws_szItem x n = some r ∧ r ≤ n ∧ -1 ≤ r ∧ (0 ≤ r → x.Name.length ≤ 1048576 ∧ x.Image.length ≤ 1048576) := by
  obtain ⟨h1, h2⟩ := hx
  unfold laws_szItem
  rw [w64 (n - x.Name.length) (by omega)]
  by_cases a1 : n - x.Name.length < 0
  · have : decide (n - (x.Name.length : Int) < 0) = true := by simpa using a1
    rw [this]
    exact ⟨-1, rfl, by omega, by omega, by omega⟩
  · have : decide (n - (x.Name.length : Int) < 0) = false := by simpa using a1
    rw [this, w64 (n - x.Name.length - x.Image.length) (by omega)]
    by_cases a2 : n - x.Name.length - x.Image.length < 0
    · have : decide (n - (x.Name.length : Int) - (x.Image.length : Int) < 0) = true := by simpa using a2
      rw [this]
      exact ⟨-1, rfl, by omega, by omega, by omega⟩
    · have : decide (n - (x.Name.length : Int) - (x.Image.length : Int) < 0) = false := by simpa using a2
      rw [this]
      exact ⟨_, rfl, by omega, by omega, by omega⟩

def smallL (a : List laws_Item) : Prop := a.length ≤ 1048576 ∧ ∀ x ∈ a, x.Name.length ≤ 1048576 ∧ x.Image.length ≤ 1048576

theorem sz_items (a : List laws_Item) (ha : a.length ≤ 9223372036854775807 ∧ ∀ y ∈ a, wf_laws_Item y) : ∃ r, laws_szItemS a 1048576 = some r ∧ (0 ≤ r → smallL a) := by
  unfold laws_szItemS
  rw [w64 _ (by omega)]
  by_cases h : (1048576 : Int) - a.length < 0
  · have : decide ((1048576 : Int) - (a.length : Int) < 0) = true := by simpa using h
    rw [this]
    exact ⟨-1, rfl, by omega⟩
  · have : decide ((1048576 : Int) - (a.length : Int) < 0) = false := by simpa using h
    rw [this]
    simp only [cond_false]
    have key : ∀ i, i ≤ a.length → ∀ n : Int, 0 ≤ n → n ≤ 1048576 → ∃ r, (∀ m, a.length - i < m → laws_szItemS_l16 a m n (i : Int) = some r) ∧ (0 ≤ r → ∀ j, i ≤ j → (hj : j < a.length) → a[j].Name.length ≤ 1048576 ∧ a[j].Image.length ≤ 1048576) := by
      refine down a.length ?_ ?_
      · intro n _ _
        refine ⟨n, fun m hm => ?_, fun _ j h1 h2 => by omega⟩
        obtain ⟨k, rfl⟩ : ∃ k, m = k + 1 := ⟨m - 1, by omega⟩
        simp only [laws_szItemS_l16, laws_szItemS_b16]
        rw [ltF (Nat.le_refl _)]; rfl
      · intro i hi ih n h0 hn
        obtain ⟨r, r1, r2, r3, r4⟩ := sz_item a[i] n (ha.2 _ (List.getElem_mem hi)) h0 hn
        by_cases hr : r < 0
        · refine ⟨-1, fun m hm => ?_, fun h => by omega⟩
          obtain ⟨k, rfl⟩ : ∃ k, m = k + 1 := ⟨m - 1, by omega⟩
          simp only [laws_szItemS_l16, laws_szItemS_b16]
          have hd : decide (r < 0) = true := by simpa using hr
          rw [ltT hi, getI_lt _ i hi]
          simp only [cond_true, Option.bind_some, r1, hd]
        · obtain ⟨q, q1, q2⟩ := ih r (by omega) (by omega)
          refine ⟨q, fun m hm => ?_, fun hq j h1 h2 => ?_⟩
          · obtain ⟨k, rfl⟩ : ∃ k, m = k + 1 := ⟨m - 1, by omega⟩
            simp only [laws_szItemS_l16, laws_szItemS_b16]
            have hd : decide (r < 0) = false := by simpa using hr
            rw [ltT hi, getI_lt _ i hi, wsucc i _ hi (by omega)]
            simp only [cond_true, Option.bind_some, r1, hd, cond_false]
            exact q1 k (by omega)
          · by_cases e : j = i
            · subst e; exact r4 (by omega)
            · exact q2 hq j (by omega) h2
    obtain ⟨r, r1, r2⟩ := key 0 (by omega) (1048576 - a.length) (by omega) (by omega)
    refine ⟨r, lim_of (a.length + 1) fun m hm => r1 m (by omega), fun hr => ⟨by omega, fun x hx => ?_⟩⟩
    obtain ⟨j, hj, rfl⟩ := List.getElem_of_mem hx
    exact r2 hr j (by omega) hj

def toI (x : laws_Item) : impl_Item := ⟨x.Name, x.Image⟩

theorem to_items (a : List laws_Item) (h : a.length ≤ 1048576) : laws_toItemS a = some (a.map toI) := by
  unfold laws_toItemS
  have e : mkOk 32 (a.length : Int) = some () := by
    unfold mkOk; rw [if_pos (by omega)]
  rw [e]
  simp only [Option.bind_some]
  have key : ∀ i, i ≤ a.length → ∀ (v : List impl_Item) m, v.length = a.length → a.length - i < m → laws_toItemS_l8 a m v (i : Int) = some (v.take i ++ (a.drop i).map toI) := by
    refine down a.length ?_ ?_
    · intro v m hv hm
      obtain ⟨k, rfl⟩ : ∃ k, m = k + 1 := ⟨m - 1, by omega⟩
      simp only [laws_toItemS_l8, laws_toItemS_b8]
      rw [ltF (Nat.le_refl _)]
      simp [← hv]
    · intro i hi ih v m hv hm
      obtain ⟨k, rfl⟩ : ∃ k, m = k + 1 := ⟨m - 1, by omega⟩
      simp only [laws_toItemS_l8, laws_toItemS_b8]
      rw [ltT hi, getI_lt _ i hi, wsucc i _ hi (by omega)]
      simp only [cond_true, Option.bind_some, laws_toItem]
      rw [getI_lt v i (by omega)]
      simp only [Option.bind_some, Int.toNat_natCast]
      rw [ih _ k (by simp [hv]) (by omega), drop_cons a i hi, List.map_cons, List.take_set, List.take_succ_eq_append_getElem (by omega), List.set_append_right _ _ (by simp; omega)]
      simp [show min i v.length = i by omega, toI]
  rw [lim_of (x := some (a.map toI)) (a.length + 1)]
  intro m hm
  have := key 0 (by omega) (List.replicate (Int.toNat (a.length : Int)) ⟨[], []⟩) m (by simp) (by omega)
  simpa using this

theorem eq_item (x : impl_Item) : laws_eqItem x x = some true := by
  unfold laws_eqItem; simp

theorem eq_items (a : List impl_Item) (h : a.length ≤ 1048576) : laws_eqItemS a a = some true := by
  unfold laws_eqItemS
  have e : ((a.length : Int) != (a.length : Int)) = false := by simp
  rw [e]
  simp only [cond_false]
  rw [up_lim (n := a.length) (fun _ => some true)]
  · intro m
    simp only [laws_eqItemS_l14, laws_eqItemS_b14]
    rw [ltF (Nat.le_refl _)]; rfl
  · intro i hi m ih
    simp only [laws_eqItemS_l14, laws_eqItemS_b14]
    rw [ltT hi, getI_lt _ i hi, wsucc i _ hi (by omega), ih]
    simp only [cond_true, Option.bind_some, eq_item, Bool.not_true, cond_false]

theorem small_toI {a : List laws_Item} (h : smallL a) : smallI (a.map toI) := by
  refine ⟨by simpa using h.1, fun x hx => ?_⟩
  obtain ⟨y, hy, rfl⟩ := List.mem_map.1 hx
  exact h.2 y hy

end Go.Sh
