/- Part of a proof that a law returns true for every input. No condition. -/
import Derived.Test.YtobljppjkklojaaUG
namespace Go.fH
open Go Go.cM
section
variable {α β : Type}
theorem Zk {l : Nat → Int → Option β} (a : List α) (F : List α → Option β) (bp : ∀ m, l (m + 1) (a.length : Int) = F [])
  (U : ∀ i (h : i < a.length) m, l m ((i + 1 : Nat) : Int) = F (a.drop (i + 1)) → l (m + 1) (i : Int) = F (a[i] :: a.drop (i + 1))) : lim (fun m => l m 0) = F a := by
 rw [rm (n := a.length) (fun i => F (a.drop i))]
 ·simp
 ·intro m; rw [bp, List.drop_of_length_le (Nat.le_refl _)]
 ·intro i az m ih
  rw [drop_cons a i az]; exact U i az m ih
theorem zH {l : Nat → Int → Option Bool} (a : List α) (p : α → Bool) (bp : ∀ m, l (m + 1) (a.length : Int) = some true)
  (U : ∀ i (h : i < a.length) m, l (m + 1) (i : Int) = cond (p a[i]) (l m ((i + 1 : Nat) : Int)) (some false)) : lim (fun m => l m 0) = some (a.all p) := by
 refine Zk a (fun r => some (r.all p)) bp fun i h m ih => ?_
 rw [U i h m, ih, List.all_cons]
 cases p a[i] <;> rfl
def ns (p : α → Bool) : Nat → List α → Int
 | _, [] => -1
 | i, x :: r => if p x = true then (i : Int) else ns p (i + 1) r
theorem tt (p : α → Bool) : ∀ (r : List α) (i : Nat), decide (0 ≤ ns p i r) = r.any p
 | [], i => by simp [ns]
 | x :: r, i => by
   simp only [ns, List.any_cons]
   by_cases h : p x = true
   ·simp [h]
   ·have e : p x = false := by simpa using h
    simp [e, tt p r (i + 1)]
theorem FL {l : Nat → Int → Option Int} (a : List α) (p : α → Bool) (bp : ∀ m, l (m + 1) (a.length : Int) = some (-1))
  (U : ∀ i (h : i < a.length) m, l (m + 1) (i : Int) = cond (p a[i]) (some (i : Int)) (l m ((i + 1 : Nat) : Int))) : lim (fun m => l m 0) = some (ns p 0 a) := by
 have key : ∀ i, i ≤ a.length → ∀ m, a.length - i < m → l m (i : Int) = some (ns p i (a.drop i)) := by
  refine down a.length ?_ ?_
  ·intro m hm
   obtain ⟨m, rfl⟩ : ∃ ar, m = ar + 1 := ⟨m - 1, by omega⟩
   rw [bp, List.drop_of_length_le (Nat.le_refl _)]; rfl
  ·intro i az ih m hm
   obtain ⟨m, rfl⟩ : ∃ ar, m = ar + 1 := ⟨m - 1, by omega⟩
   rw [U i az m, ih m (by omega), drop_cons a i az]
   simp only [ns]
   cases p a[i] <;> rfl
 refine h1 (a.length + 1) fun m hm => ?_
 have := key 0 (by omega) m (by omega)
 simpa using this
theorem zI {l : Nat → Int → Option Int} {f : α → Option Bool} (a : List α) (p : α → Bool)
  (i5 : ∀ m i, l (m + 1) i = cond (decide (i < (a.length : Int))) ((cx a i).bind fun x => (f x).bind fun y => cond y (some i) (l m (IntKind.i64.wrap (i + 1)))) (some (-1)))
  (bL : ∀ x ∈ a, f x = some (p x)) (b1 : a.length ≤ 1099511627776) : lim (fun m => l m 0) = some (ns p 0 a) := by
 refine FL a p (fun m => by rw [i5, gI (Nat.le_refl _)]; rfl) fun i h m => ?_
 rw [i5, h0 h, gT _ i h, hZ i _ h (by omega)]
 simp only [cond_true, Option.bind_some, bL _ (List.getElem_mem h)]
theorem zJ (a : List α) (p : α → Bool) : (a.any fun x => !p x) = !(a.all p) := by
 induction a with
 | nil => rfl
 | cons x r ih => simp only [List.any_cons, List.all_cons, ih]; cases p x <;> simp
end
theorem ab7 {S α β : Type} {L : Nat → S → Int → Option β} (a : List α) (f : S → α → S) (tu : S → Prop) (E : S → Option β)
  (bp : ∀ m s, tu s → L (m + 1) s (a.length : Int) = E s)
  (U : ∀ i (h : i < a.length) m s, tu s → tu (f s a[i]) ∧ L (m + 1) s (i : Int) = L m (f s a[i]) ((i + 1 : Nat) : Int)) (s : S) (tv : tu s) :
  lim (fun m => L m s 0) = E (a.foldl f s) := by
 have key : ∀ i, i ≤ a.length → ∀ s m, tu s → a.length - i < m → L m s (i : Int) = E ((a.drop i).foldl f s) := by
  refine down a.length ?_ ?_
  ·intro s m tv hm
   obtain ⟨m, rfl⟩ : ∃ ar, m = ar + 1 := ⟨m - 1, by omega⟩
   rw [bp m s tv, List.drop_of_length_le (Nat.le_refl _)]; rfl
  ·intro i az ih s m tv hm
   obtain ⟨m, rfl⟩ : ∃ ar, m = ar + 1 := ⟨m - 1, by omega⟩
   obtain ⟨aa, ab⟩ := U i az m s tv
   rw [ab, ih _ m aa (by omega), drop_cons a i az]; rfl
 refine h1 (a.length + 1) fun m hm => ?_
 have := key 0 (by omega) s m tv (by omega)
 simpa using this
end Go.fH
