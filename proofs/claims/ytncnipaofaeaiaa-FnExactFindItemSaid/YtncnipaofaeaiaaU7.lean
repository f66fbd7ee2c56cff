/- Part of a proof that a law returns true for every input. No condition. -/
import Derived.Test.YtncnipaofaeaiaaU6
namespace Go.Sh
open Go Go.Fw

def nameAt (a : List impl_Item) (i : Nat) : List UInt8 := (a.getD i ⟨[], []⟩).Name
def sortedI (a : List impl_Item) : Prop := ∀ i, 0 < i → i < a.length → Op.bytesLess (nameAt a (i - 1)) (nameAt a i) = true

theorem sorted_of_ok {a : List impl_Item} (h : itemsOk a = true) : sortedI a ∧ a.length ≤ 16 := by
  simp only [itemsOk, Bool.and_eq_true, decide_eq_true_eq, allI, List.all_eq_true, List.mem_range'_1] at h
  refine ⟨fun i h0 hi => ?_, h.1⟩
  have := h.2 i (by omega)
  simp only [stepI, Bool.and_eq_true, Bool.or_eq_true, decide_eq_true_eq] at this
  exact this.2.resolve_left (by omega)

theorem sorted_lt {a : List impl_Item} (h : sortedI a) : ∀ d i, i + d + 1 < a.length → Op.bytesLess (nameAt a i) (nameAt a (i + d + 1)) = true := by
  intro d
  induction d with
  | zero => intro i hi; exact h (i + 1) (by omega) hi
  | succ d ih =>
    intro i hi
    have h1 := ih i (by omega)
    have h2 := h (i + (d + 1) + 1) (by omega) hi
    rw [show i + (d + 1) + 1 - 1 = i + d + 1 by omega] at h2
    exact less_trans _ _ _ h1 h2

theorem mid (lo hi : Nat) (h : lo + hi ≤ 1000000000) : IntKind.i64.wrap (Int.fdiv (IntKind.u64.wrap (IntKind.i64.wrap ((lo : Int) + hi))) (2 ^ (min (Int.toNat 1) 64))) = (((lo + hi) / 2 : Nat) : Int) := by
  have e : (2 : Int) ^ (min (Int.toNat 1) 64) = 2 := by decide
  rw [e, w64 ((lo : Int) + hi) (by omega), IntWalk.u64_in _ (by omega), Int.fdiv_eq_ediv_of_nonneg _ (by omega), w64 _ (by omega)]
  omega

theorem cmpItems (x : impl_Item) (s : List UInt8) : impl_compareItems x s = some (cmpS x.Name s) := rfl

/-- The search: the first place whose name isn't before the key. -/
theorem bs_loop (a : List impl_Item) (s : List UInt8) (hl : a.length ≤ 1048576) : ∀ (d lo hi n : Nat), hi - lo ≤ d → lo ≤ hi → hi ≤ a.length → d < n → (∀ j, j < lo → cmpS (nameAt a j) s < 0) → (∀ j, hi ≤ j → j < a.length → ¬ cmpS (nameAt a j) s < 0) →
    (∀ i j, i ≤ j → j < a.length → cmpS (nameAt a j) s < 0 → cmpS (nameAt a i) s < 0) →
    ∃ k : Nat, k ≤ a.length ∧ (∀ j, j < k → cmpS (nameAt a j) s < 0) ∧ (∀ j, k ≤ j → j < a.length → ¬ cmpS (nameAt a j) s < 0) ∧
      slices_BinarySearchFunc_Item_string__impl_compareItems_l8 a s n lo hi = some ((k : Int), decide (k < a.length) && (cmpS (nameAt a k) s == 0)) := by
  intro d
  induction d with
  | zero =>
    intro lo hi n h1 h2 h3 hn hlo hhi _
    obtain ⟨m, rfl⟩ : ∃ m, n = m + 1 := ⟨n - 1, by omega⟩
    have : lo = hi := by omega
    subst this
    refine ⟨lo, h3, hlo, hhi, ?_⟩
    simp only [slices_BinarySearchFunc_Item_string__impl_compareItems_l8, slices_BinarySearchFunc_Item_string__impl_compareItems_b8]
    rw [ltF (Nat.le_refl _)]
    by_cases he : lo < a.length
    · rw [ltT he, getI_nat a lo ⟨[], []⟩ he]
      simp only [cond_false, cond_true, Option.bind_some, cmpItems, he, decide_true, Bool.true_and]
      rfl
    · rw [ltF (by omega)]
      simp [he]
  | succ d ih =>
    intro lo hi n h1 h2 h3 hn hlo hhi hm
    by_cases he : lo = hi
    · subst he; exact ih lo lo n (by omega) (by omega) h3 (by omega) hlo hhi hm
    · obtain ⟨m, rfl⟩ : ∃ m, n = m + 1 := ⟨n - 1, by omega⟩
      simp only [slices_BinarySearchFunc_Item_string__impl_compareItems_l8, slices_BinarySearchFunc_Item_string__impl_compareItems_b8]
      have hmid : (lo + hi) / 2 < a.length := by omega
      rw [ltT (by omega), mid lo hi (by omega), getI_nat a ((lo + hi) / 2) ⟨[], []⟩ hmid, wsucc _ _ hmid (by omega)]
      simp only [cond_true, Option.bind_some, cmpItems]
      by_cases hc : cmpS (nameAt a ((lo + hi) / 2)) s < 0
      · have : decide (cmpS (a.getD ((lo + hi) / 2) ⟨[], []⟩).Name s < 0) = true := by simpa [nameAt] using hc
        rw [this]
        exact ih _ _ m (by omega) (by omega) h3 (by omega) (fun j hj => hm j _ (by omega) hmid hc) hhi hm
      · have : decide (cmpS (a.getD ((lo + hi) / 2) ⟨[], []⟩).Name s < 0) = false := by simpa [nameAt] using hc
        rw [this]
        exact ih _ _ m (by omega) (by omega) (by omega) (by omega) hlo (fun j h4 h5 h6 => hc (hm _ j h4 h5 h6)) hm

end Go.Sh
