/- Part of a proof that a law returns true for every input. No condition. -/
import Derived.Test.YtobljppjkklojaaUG
namespace Go.Sh
open Go Go.Fw
section
variable {α β : Type}
theorem up_row {l : Nat → Int → Option β} (a : List α) (F : List α → Option β) (h0 : ∀ m, l (m + 1) (a.length : Int) = F [])
  (hs : ∀ i (h : i < a.length) m, l m ((i + 1 : Nat) : Int) = F (a.drop (i + 1)) → l (m + 1) (i : Int) = F (a[i] :: a.drop (i + 1))) : lim (fun m => l m 0) = F a := by
 rw [up_lim (n := a.length) (fun i => F (a.drop i))]
 ·simp
 ·intro m; rw [h0, List.drop_of_length_le (Nat.le_refl _)]
 ·intro i hi m ih
  rw [drop_cons a i hi]; exact hs i hi m ih
theorem all_row {l : Nat → Int → Option Bool} (a : List α) (p : α → Bool) (h0 : ∀ m, l (m + 1) (a.length : Int) = some true)
  (hs : ∀ i (h : i < a.length) m, l (m + 1) (i : Int) = cond (p a[i]) (l m ((i + 1 : Nat) : Int)) (some false)) : lim (fun m => l m 0) = some (a.all p) := by
 refine up_row a (fun r => some (r.all p)) h0 fun i h m ih => ?_
 rw [hs i h m, ih, List.all_cons]
 cases p a[i] <;> rfl
def idxL (p : α → Bool) : Nat → List α → Int
 | _, [] => -1
 | i, x :: r => if p x = true then (i : Int) else idxL p (i + 1) r
theorem idxL_ge (p : α → Bool) : ∀ (r : List α) (i : Nat), decide (0 ≤ idxL p i r) = r.any p
 | [], i => by simp [idxL]
 | x :: r, i => by
   simp only [idxL, List.any_cons]
   by_cases h : p x = true
   ·simp [h]
   ·have e : p x = false := by simpa using h
    simp [e, idxL_ge p r (i + 1)]
theorem find_row {l : Nat → Int → Option Int} (a : List α) (p : α → Bool) (h0 : ∀ m, l (m + 1) (a.length : Int) = some (-1))
  (hs : ∀ i (h : i < a.length) m, l (m + 1) (i : Int) = cond (p a[i]) (some (i : Int)) (l m ((i + 1 : Nat) : Int))) : lim (fun m => l m 0) = some (idxL p 0 a) := by
 have key : ∀ i, i ≤ a.length → ∀ m, a.length - i < m → l m (i : Int) = some (idxL p i (a.drop i)) := by
  refine down a.length ?_ ?_
  ·intro m hm
   obtain ⟨m, rfl⟩ : ∃ j, m = j + 1 := ⟨m - 1, by omega⟩
   rw [h0, List.drop_of_length_le (Nat.le_refl _)]; rfl
  ·intro i hi ih m hm
   obtain ⟨m, rfl⟩ : ∃ j, m = j + 1 := ⟨m - 1, by omega⟩
   rw [hs i hi m, ih m (by omega), drop_cons a i hi]
   simp only [idxL]
   cases p a[i] <;> rfl
 refine lim_of (a.length + 1) fun m hm => ?_
 have := key 0 (by omega) m (by omega)
 simpa using this
theorem find_fn {l : Nat → Int → Option Int} {f : α → Option Bool} (a : List α) (p : α → Bool)
  (hstep : ∀ m i, l (m + 1) i = cond (decide (i < (a.length : Int))) ((getI a i).bind fun x => (f x).bind fun y => cond y (some i) (l m (IntKind.i64.wrap (i + 1)))) (some (-1)))
  (hf : ∀ x ∈ a, f x = some (p x)) (ha : a.length ≤ 1099511627776) : lim (fun m => l m 0) = some (idxL p 0 a) := by
 refine find_row a p (fun m => by rw [hstep, ltF (Nat.le_refl _)]; rfl) fun i h m => ?_
 rw [hstep, ltT h, getI_lt _ i h, wsucc i _ h (by omega)]
 simp only [cond_true, Option.bind_some, hf _ (List.getElem_mem h)]
theorem any_not (a : List α) (p : α → Bool) : (a.any fun x => !p x) = !(a.all p) := by
 induction a with
 | nil => rfl
 | cons x r ih => simp only [List.any_cons, List.all_cons, ih]; cases p x <;> simp
end
end Go.Sh
