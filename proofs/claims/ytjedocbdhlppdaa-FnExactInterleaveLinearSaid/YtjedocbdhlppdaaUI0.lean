/- Part of a proof that a law returns true for every input. No condition. -/
import Derived.Test.YtjedocbdhlppdaaUL0
namespace Go.gV
open Go Go.dp
theorem l7 {α γ β : Type} {L : Nat → List γ → Int → Option β} (a : List α) (g : α → γ) (b : Nat) (E : List γ → Option β)
  (bM : ∀ m v, v.length ≤ b + a.length → L (m + 1) v (a.length : Int) = E v)
  (ab : ∀ i (h : i < a.length) m v, v.length ≤ b + i → L (m + 1) v (i : Int) = L m (v ++ [g a[i]]) ((i + 1 : Nat) : Int)) (s : List γ) (U : s.length ≤ b) :
  cX (fun m => L m s 0) = E (s ++ a.map g) := by
 have key : ∀ i, i ≤ a.length → ∀ v m, v.length ≤ b + i → a.length - i < m → L m v (i : Int) = E (v ++ (a.drop i).map g) := by
  refine down a.length ?_ ?_
  ·intro v m aQ hm
   obtain ⟨m, rfl⟩ : ∃ aK, m = aK + 1 := ⟨m - 1, by omega⟩
   rw [bM m v aQ, List.drop_of_length_le (Nat.le_refl _)]; simp
  ·intro i au ih v m aQ hm
   obtain ⟨m, rfl⟩ : ∃ aK, m = aK + 1 := ⟨m - 1, by omega⟩
   rw [ab i au m v aQ, ih _ m (by simp only [List.length_append, List.length_cons, List.length_nil]; omega) (by omega), drop_cons a i au]
   simp only [List.map_cons, List.append_assoc, List.cons_append, List.nil_append]
 refine i7 (a.length + 1) fun m hm => ?_
 have := key 0 (by omega) s m (by omega) (by omega)
 simpa using this
def setRow {α : Type} (a : List α) (g : α → α) (i : Nat) : List α := (a.take i).map g ++ a.drop i
theorem Dt {α : Type} (a : List α) (g : α → α) (i : Nat) : (setRow a g i).length = a.length := by
 simp only [setRow, List.length_append, List.length_map, List.length_take, List.length_drop]; omega
theorem aiI {α : Type} (a : List α) (g : α → α) (i : Nat) (h : i < a.length) : cw (setRow a g i) (i : Int) = some a[i] := by
 rw [gE _ i (by rw [Dt]; exact h)]
 congr 1
 simp only [setRow]
 rw [List.getElem_append_right (by simp; omega)]
 simp [Nat.min_eq_left (Nat.le_of_lt h)]
theorem aiJ {α : Type} (a : List α) (g : α → α) (i : Nat) (h : i < a.length) : (setRow a g i).set i (g a[i]) = setRow a g (i + 1) := by
 have e : ((a.take i).map g).length = i := by simp; omega
 simp only [setRow]
 rw [List.set_append_right i _ (by rw [e]; omega), e, Nat.sub_self, drop_cons a i h, List.set_cons_zero, List.take_succ_eq_append_getElem h, List.map_append]
 simp
theorem aiK {α : Type} (a : List α) (g : α → α) : setRow a g 0 = a := by simp [setRow]
theorem aiL {α : Type} (a : List α) (g : α → α) : setRow a g a.length = a.map g := by simp [setRow]
theorem Du {α β : Type} {L : Nat → List α → Int → Option β} (a : List α) (g : α → α) (E : List α → Option β)
  (bM : ∀ m v, v.length = a.length → L (m + 1) v (a.length : Int) = E v)
  (ab : ∀ i (h : i < a.length) m v, v.length = a.length → cw v (i : Int) = some a[i] → L (m + 1) v (i : Int) = L m (v.set i (g a[i])) ((i + 1 : Nat) : Int)) :
  cX (fun m => L m a 0) = E (a.map g) := by
 have key : ∀ i, i ≤ a.length → ∀ m, a.length - i < m → L m (setRow a g i) (i : Int) = E (a.map g) := by
  refine down a.length ?_ ?_
  ·intro m hm
   obtain ⟨m, rfl⟩ : ∃ aK, m = aK + 1 := ⟨m - 1, by omega⟩
   rw [bM m _ (Dt ..), aiL]
  ·intro i au ih m hm
   obtain ⟨m, rfl⟩ : ∃ aK, m = aK + 1 := ⟨m - 1, by omega⟩
   rw [ab i au m _ (Dt ..) (aiI a g i au), aiJ a g i au, ih m (by omega)]
 refine i7 (a.length + 1) fun m hm => ?_
 have := key 0 (by omega) m (by omega)
 simpa [aiK] using this
def m6 {α : Type} (xs : List α) (i : Int) : List (Bool × α) := (xs.take i.toNat).map (fun x => (true, x)) ++ (xs.drop i.toNat).map (fun x => (false, x))
theorem Dv {α : Type} (xs : List α) : xs.map (fun x => (false, x)) = m6 xs 0 := by simp [m6]
theorem Dw {α : Type} (xs : List α) (i : Nat) (h : i < xs.length) : cw (m6 xs (i : Int)) (i : Int) = some (false, xs[i]) := by
 have hl : (m6 xs (i : Int)).length = xs.length := by simp [m6]; omega
 rw [gE _ i (by rw [hl]; exact h)]
 congr 1
 simp only [m6, Int.toNat_natCast]
 rw [List.getElem_append_right (by simp; omega)]
 simp [Nat.min_eq_left (Nat.le_of_lt h)]
theorem Dx {α : Type} (xs : List α) (i : Nat) (h : i < xs.length) : List.set (m6 xs (i : Int)) (Int.toNat (i : Int)) (true, xs[i]) = m6 xs ((i + 1 : Nat) : Int) := by
 have e : ((xs.take i).map fun x => (true, x)).length = i := by simp; omega
 simp only [m6, Int.toNat_natCast]
 rw [List.set_append_right i _ (by rw [e]; omega), e, Nat.sub_self, drop_cons xs i h, List.map_cons, List.set_cons_zero, List.take_succ_eq_append_getElem h, List.map_append]
 simp
end Go.gV
