/- Part of a proof that a law returns true for every input. No condition. -/
import Derived.Test.YtjedocbdhlppdaaUG
namespace Go.gV
open Go Go.dp
section
variable {α β : Type}
theorem ais {l : Nat → Int → Option β} (a : List α) (F : List α → Option β) (bM : ∀ m, l (m + 1) (a.length : Int) = F [])
  (ab : ∀ i (h : i < a.length) m, l m ((i + 1 : Nat) : Int) = F (a.drop (i + 1)) → l (m + 1) (i : Int) = F (a[i] :: a.drop (i + 1))) : cX (fun m => l m 0) = F a := by
 rw [tD (n := a.length) (fun i => F (a.drop i))]
 ·simp
 ·intro m; rw [bM, List.drop_of_length_le (Nat.le_refl _)]
 ·intro i au m ih
  rw [drop_cons a i au]; exact ab i au m ih
theorem Dn {l : Nat → Int → Option Bool} (a : List α) (p : α → Bool) (bM : ∀ m, l (m + 1) (a.length : Int) = some true)
  (ab : ∀ i (h : i < a.length) m, l (m + 1) (i : Int) = cond (p a[i]) (l m ((i + 1 : Nat) : Int)) (some false)) : cX (fun m => l m 0) = some (a.all p) := by
 refine ais a (fun r => some (r.all p)) bM fun i h m ih => ?_
 rw [ab i h m, ih, List.all_cons]
 cases p a[i] <;> rfl
def qp (p : α → Bool) : Nat → List α → Int
 | _, [] => -1
 | i, x :: r => if p x = true then (i : Int) else qp p (i + 1) r
theorem zQ (p : α → Bool) : ∀ (r : List α) (i : Nat), decide (0 ≤ qp p i r) = r.any p
 | [], i => by simp [qp]
 | x :: r, i => by
   simp only [qp, List.any_cons]
   by_cases h : p x = true
   ·simp [h]
   ·have e : p x = false := by simpa using h
    simp [e, zQ p r (i + 1)]
theorem ait {l : Nat → Int → Option Int} (a : List α) (p : α → Bool) (bM : ∀ m, l (m + 1) (a.length : Int) = some (-1))
  (ab : ∀ i (h : i < a.length) m, l (m + 1) (i : Int) = cond (p a[i]) (some (i : Int)) (l m ((i + 1 : Nat) : Int))) : cX (fun m => l m 0) = some (qp p 0 a) := by
 have key : ∀ i, i ≤ a.length → ∀ m, a.length - i < m → l m (i : Int) = some (qp p i (a.drop i)) := by
  refine down a.length ?_ ?_
  ·intro m hm
   obtain ⟨m, rfl⟩ : ∃ aK, m = aK + 1 := ⟨m - 1, by omega⟩
   rw [bM, List.drop_of_length_le (Nat.le_refl _)]; rfl
  ·intro i au ih m hm
   obtain ⟨m, rfl⟩ : ∃ aK, m = aK + 1 := ⟨m - 1, by omega⟩
   rw [ab i au m, ih m (by omega), drop_cons a i au]
   simp only [qp]
   cases p a[i] <;> rfl
 refine i7 (a.length + 1) fun m hm => ?_
 have := key 0 (by omega) m (by omega)
 simpa using this
theorem Dp {l : Nat → Int → Option Int} {f : α → Option Bool} (a : List α) (p : α → Bool)
  (kk : ∀ m i, l (m + 1) i = cond (decide (i < (a.length : Int))) ((cw a i).bind fun x => (f x).bind fun y => cond y (some i) (l m (IntKind.i64.wrap (i + 1)))) (some (-1)))
  (bY : ∀ x ∈ a, f x = some (p x)) (bX : a.length ≤ 1099511627776) : cX (fun m => l m 0) = some (qp p 0 a) := by
 refine ait a p (fun m => by rw [kk, fe (Nat.le_refl _)]; rfl) fun i h m => ?_
 rw [kk, gj h, gE _ i h, gi i _ h (by omega)]
 simp only [cond_true, Option.bind_some, bY _ (List.getElem_mem h)]
theorem Dq (a : List α) (p : α → Bool) : (a.any fun x => !p x) = !(a.all p) := by
 induction a with
 | nil => rfl
 | cons x r ih => simp only [List.any_cons, List.all_cons, ih]; cases p x <;> simp
end
theorem alh {S α β : Type} {L : Nat → S → Int → Option β} (a : List α) (f : S → α → S) (wH : S → Prop) (E : S → Option β)
  (bM : ∀ m s, wH s → L (m + 1) s (a.length : Int) = E s)
  (ab : ∀ i (h : i < a.length) m s, wH s → wH (f s a[i]) ∧ L (m + 1) s (i : Int) = L m (f s a[i]) ((i + 1 : Nat) : Int)) (s : S) (wI : wH s) :
  cX (fun m => L m s 0) = E (a.foldl f s) := by
 have key : ∀ i, i ≤ a.length → ∀ s m, wH s → a.length - i < m → L m s (i : Int) = E ((a.drop i).foldl f s) := by
  refine down a.length ?_ ?_
  ·intro s m wI hm
   obtain ⟨m, rfl⟩ : ∃ aK, m = aK + 1 := ⟨m - 1, by omega⟩
   rw [bM m s wI, List.drop_of_length_le (Nat.le_refl _)]; rfl
  ·intro i au ih s m wI hm
   obtain ⟨m, rfl⟩ : ∃ aK, m = aK + 1 := ⟨m - 1, by omega⟩
   obtain ⟨ag, ah⟩ := ab i au m s wI
   rw [ah, ih _ m ag (by omega), drop_cons a i au]; rfl
 refine i7 (a.length + 1) fun m hm => ?_
 have := key 0 (by omega) s m wI (by omega)
 simpa using this
end Go.gV
