/- Part of a proof that a law returns true for every input. No condition. -/
import Derived.Test.YtbemmmimelklkaaGreatUG
namespace Go.eR
open Go Go.c5
section
variable {α β : Type}
theorem awV {l : Nat → Int → Option β} (a : List α) (F : List α → Option β) (bc : ∀ m, l (m + 1) (a.length : Int) = F [])
  (ah : ∀ i (h : i < a.length) m, l m ((i + 1 : Nat) : Int) = F (a.drop (i + 1)) → l (m + 1) (i : Int) = F (a[i] :: a.drop (i + 1))) : lim (fun m => l m 0) = F a := by
 rw [rD (n := a.length) (fun i => F (a.drop i))]
 ·simp
 ·intro m; rw [bc, List.drop_of_length_le (Nat.le_refl _)]
 ·intro i ao m ih
  rw [drop_cons a i ao]; exact ah i ao m ih
theorem azz {l : Nat → Int → Option Bool} (a : List α) (p : α → Bool) (bc : ∀ m, l (m + 1) (a.length : Int) = some true)
  (ah : ∀ i (h : i < a.length) m, l (m + 1) (i : Int) = cond (p a[i]) (l m ((i + 1 : Nat) : Int)) (some false)) : lim (fun m => l m 0) = some (a.all p) := by
 refine awV a (fun r => some (r.all p)) bc fun i h m ih => ?_
 rw [ah i h m, ih, List.all_cons]
 cases p a[i] <;> rfl
def rQ (p : α → Bool) : Nat → List α → Int
 | _, [] => -1
 | i, x :: r => if p x = true then (i : Int) else rQ p (i + 1) r
theorem Pj (p : α → Bool) : ∀ (r : List α) (i : Nat), decide (0 ≤ rQ p i r) = r.any p
 | [], i => by simp [rQ]
 | x :: r, i => by
   simp only [rQ, List.any_cons]
   by_cases h : p x = true
   ·simp [h]
   ·have e : p x = false := by simpa using h
    simp [e, Pj p r (i + 1)]
theorem Pk {l : Nat → Int → Option Int} (a : List α) (p : α → Bool) (bc : ∀ m, l (m + 1) (a.length : Int) = some (-1))
  (ah : ∀ i (h : i < a.length) m, l (m + 1) (i : Int) = cond (p a[i]) (some (i : Int)) (l m ((i + 1 : Nat) : Int))) : lim (fun m => l m 0) = some (rQ p 0 a) := by
 have key : ∀ i, i ≤ a.length → ∀ m, a.length - i < m → l m (i : Int) = some (rQ p i (a.drop i)) := by
  refine down a.length ?_ ?_
  ·intro m hm
   obtain ⟨m, rfl⟩ : ∃ j, m = j + 1 := ⟨m - 1, by omega⟩
   rw [bc, List.drop_of_length_le (Nat.le_refl _)]; rfl
  ·intro i ao ih m hm
   obtain ⟨m, rfl⟩ : ∃ j, m = j + 1 := ⟨m - 1, by omega⟩
   rw [ah i ao m, ih m (by omega), drop_cons a i ao]
   simp only [rQ]
   cases p a[i] <;> rfl
 refine hP (a.length + 1) fun m hm => ?_
 have := key 0 (by omega) m (by omega)
 simpa using this
theorem azA {l : Nat → Int → Option Int} {f : α → Option Bool} (a : List α) (p : α → Bool)
  (kU : ∀ m i, l (m + 1) i = cond (decide (i < (a.length : Int))) ((bQ a i).bind fun x => (f x).bind fun y => cond y (some i) (l m (IntKind.i64.wrap (i + 1)))) (some (-1)))
  (bJ : ∀ x ∈ a, f x = some (p x)) (cz : a.length ≤ 1099511627776) : lim (fun m => l m 0) = some (rQ p 0 a) := by
 refine Pk a p (fun m => by rw [kU, fa (Nat.le_refl _)]; rfl) fun i h m => ?_
 rw [kU, fB h, gx _ i h, fA i _ h (by omega)]
 simp only [cond_true, Option.bind_some, bJ _ (List.getElem_mem h)]
theorem azB (a : List α) (p : α → Bool) : (a.any fun x => !p x) = !(a.all p) := by
 induction a with
 | nil => rfl
 | cons x r ih => simp only [List.any_cons, List.all_cons, ih]; cases p x <;> simp
end
theorem DI {S α β : Type} {L : Nat → S → Int → Option β} (a : List α) (f : S → α → S) (zv : S → Prop) (E : S → Option β)
  (bc : ∀ m s, zv s → L (m + 1) s (a.length : Int) = E s)
  (ah : ∀ i (h : i < a.length) m s, zv s → zv (f s a[i]) ∧ L (m + 1) s (i : Int) = L m (f s a[i]) ((i + 1 : Nat) : Int)) (s : S) (zw : zv s) :
  lim (fun m => L m s 0) = E (a.foldl f s) := by
 have key : ∀ i, i ≤ a.length → ∀ s m, zv s → a.length - i < m → L m s (i : Int) = E ((a.drop i).foldl f s) := by
  refine down a.length ?_ ?_
  ·intro s m zw hm
   obtain ⟨m, rfl⟩ : ∃ j, m = j + 1 := ⟨m - 1, by omega⟩
   rw [bc m s zw, List.drop_of_length_le (Nat.le_refl _)]; rfl
  ·intro i ao ih s m zw hm
   obtain ⟨m, rfl⟩ : ∃ j, m = j + 1 := ⟨m - 1, by omega⟩
   obtain ⟨af, ai⟩ := ah i ao m s zw
   rw [ai, ih _ m af (by omega), drop_cons a i ao]; rfl
 refine hP (a.length + 1) fun m hm => ?_
 have := key 0 (by omega) s m zw (by omega)
 simpa using this
end Go.eR
