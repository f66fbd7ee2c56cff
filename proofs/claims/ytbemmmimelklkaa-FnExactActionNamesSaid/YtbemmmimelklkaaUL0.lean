/- Part of a proof that a law returns true for every input. No condition. -/
import Derived.Test.YtbemmmimelklkaaUG
namespace Go.eJ
open Go Go.cB
section
variable {α β : Type}
theorem agy {l : Nat → Int → Option β} (a : List α) (F : List α → Option β) (bh : ∀ m, l (m + 1) (a.length : Int) = F [])
  (aa : ∀ i (h : i < a.length) m, l m ((i + 1 : Nat) : Int) = F (a.drop (i + 1)) → l (m + 1) (i : Int) = F (a[i] :: a.drop (i + 1))) : lim (fun m => l m 0) = F a := by
 rw [o8 (n := a.length) (fun i => F (a.drop i))]
 ·simp
 ·intro m; rw [bh, List.drop_of_length_le (Nat.le_refl _)]
 ·intro i ak m ih
  rw [drop_cons a i ak]; exact aa i ak m ih
theorem aiW {l : Nat → Int → Option Bool} (a : List α) (p : α → Bool) (bh : ∀ m, l (m + 1) (a.length : Int) = some true)
  (aa : ∀ i (h : i < a.length) m, l (m + 1) (i : Int) = cond (p a[i]) (l m ((i + 1 : Nat) : Int)) (some false)) : lim (fun m => l m 0) = some (a.all p) := by
 refine agy a (fun r => some (r.all p)) bh fun i h m ih => ?_
 rw [aa i h m, ih, List.all_cons]
 cases p a[i] <;> rfl
def og (p : α → Bool) : Nat → List α → Int
 | _, [] => -1
 | i, x :: r => if p x = true then (i : Int) else og p (i + 1) r
theorem I8 (p : α → Bool) : ∀ (r : List α) (i : Nat), decide (0 ≤ og p i r) = r.any p
 | [], i => by simp [og]
 | x :: r, i => by
   simp only [og, List.any_cons]
   by_cases h : p x = true
   ·simp [h]
   ·have e : p x = false := by simpa using h
    simp [e, I8 p r (i + 1)]
theorem I9 {l : Nat → Int → Option Int} (a : List α) (p : α → Bool) (bh : ∀ m, l (m + 1) (a.length : Int) = some (-1))
  (aa : ∀ i (h : i < a.length) m, l (m + 1) (i : Int) = cond (p a[i]) (some (i : Int)) (l m ((i + 1 : Nat) : Int))) : lim (fun m => l m 0) = some (og p 0 a) := by
 have key : ∀ i, i ≤ a.length → ∀ m, a.length - i < m → l m (i : Int) = some (og p i (a.drop i)) := by
  refine down a.length ?_ ?_
  ·intro m hm
   obtain ⟨m, rfl⟩ : ∃ j, m = j + 1 := ⟨m - 1, by omega⟩
   rw [bh, List.drop_of_length_le (Nat.le_refl _)]; rfl
  ·intro i ak ih m hm
   obtain ⟨m, rfl⟩ : ∃ j, m = j + 1 := ⟨m - 1, by omega⟩
   rw [aa i ak m, ih m (by omega), drop_cons a i ak]
   simp only [og]
   cases p a[i] <;> rfl
 refine ho (a.length + 1) fun m hm => ?_
 have := key 0 (by omega) m (by omega)
 simpa using this
theorem aiX {l : Nat → Int → Option Int} {f : α → Option Bool} (a : List α) (p : α → Bool)
  (jt : ∀ m i, l (m + 1) i = cond (decide (i < (a.length : Int))) ((b5 a i).bind fun x => (f x).bind fun y => cond y (some i) (l m (IntKind.i64.wrap (i + 1)))) (some (-1)))
  (bB : ∀ x ∈ a, f x = some (p x)) (b7 : a.length ≤ 1099511627776) : lim (fun m => l m 0) = some (og p 0 a) := by
 refine I9 a p (fun m => by rw [jt, fQ (Nat.le_refl _)]; rfl) fun i h m => ?_
 rw [jt, gA h, fa _ i h, gz i _ h (by omega)]
 simp only [cond_true, Option.bind_some, bB _ (List.getElem_mem h)]
theorem aiY (a : List α) (p : α → Bool) : (a.any fun x => !p x) = !(a.all p) := by
 induction a with
 | nil => rfl
 | cons x r ih => simp only [List.any_cons, List.all_cons, ih]; cases p x <;> simp
end
theorem aiZ {S α β : Type} {L : Nat → S → Int → Option β} (a : List α) (f : S → α → S) (vG : S → Prop) (E : S → Option β)
  (bh : ∀ m s, vG s → L (m + 1) s (a.length : Int) = E s)
  (aa : ∀ i (h : i < a.length) m s, vG s → vG (f s a[i]) ∧ L (m + 1) s (i : Int) = L m (f s a[i]) ((i + 1 : Nat) : Int)) (s : S) (vH : vG s) :
  lim (fun m => L m s 0) = E (a.foldl f s) := by
 have key : ∀ i, i ≤ a.length → ∀ s m, vG s → a.length - i < m → L m s (i : Int) = E ((a.drop i).foldl f s) := by
  refine down a.length ?_ ?_
  ·intro s m vH hm
   obtain ⟨m, rfl⟩ : ∃ j, m = j + 1 := ⟨m - 1, by omega⟩
   rw [bh m s vH, List.drop_of_length_le (Nat.le_refl _)]; rfl
  ·intro i ak ih s m vH hm
   obtain ⟨m, rfl⟩ : ∃ j, m = j + 1 := ⟨m - 1, by omega⟩
   obtain ⟨ab, af⟩ := aa i ak m s vH
   rw [af, ih _ m ab (by omega), drop_cons a i ak]; rfl
 refine ho (a.length + 1) fun m hm => ?_
 have := key 0 (by omega) s m vH (by omega)
 simpa using this
end Go.eJ
