/- Part of a proof that a law returns true for every input. No condition. -/
import Derived.Test.YtjedocbdhlppdaaFwA
import Derived.IntWalk
namespace Go.gV
open Go Go.dp
theorem hi (n : Int) (h : -9223372036854775808 ≤ n ∧ n ≤ 9223372036854775807) : IntKind.i64.wrap n = n := IntWalk.i64_in n h
theorem ak2 {α : Type} (a : List α) (i : Nat) (d : α) (h : i < a.length) : cw a (i : Int) = some (a.getD i d) := by
 rw [DF (by omega) (by simpa using h)]
 simp [List.getD, h]
theorem gE {α : Type} (a : List α) (i : Nat) (h : i < a.length) : cw a (i : Int) = some a[i] := by
 rw [DF (by omega) (by simpa using h)]; rfl
theorem ak3 {α : Type} (a : List α) (n : Nat) (h : n ≤ a.length) : iD a 0 (n : Int) = some (a.take n) := by
 unfold iD
 rw [if_pos (by omega)]; simp
theorem gi (i n : Nat) (h : i < n) (bh : n ≤ 4611686018427387904) : IntKind.i64.wrap ((i : Int) + 1) = ((i + 1 : Nat) : Int) := by
 rw [hi _ (by omega)]; omega
theorem gj {i n : Nat} (h : i < n) : decide ((i : Int) < (n : Int)) = true := by simp; omega
theorem fe {i n : Nat} (h : n ≤ i) : decide ((i : Int) < (n : Int)) = false := by simp; omega
theorem JW {α : Type} (c : α) (r : List α) : cw (c :: r) 0 = some c := rfl
theorem Dd {n : Nat} (h : 0 < n) : decide ((0 : Int) < (n : Int)) = true := by simp; omega
theorem ah5 : IntKind.i64.wrap (0 + 1) = 1 := by decide
theorem down (n : Nat) {P : Nat → Prop} (bM : P n) (ab : ∀ i, i < n → P (i + 1) → P i) : ∀ i, i ≤ n → P i := by
 have key : ∀ d, d ≤ n → P (n - d) := by
  intro d
  induction d with
  | zero => intro _; exact bM
  | succ d ih =>
    intro ak
    have := ih (by omega)
    refine ab _ (by omega) ?_
    rw [show n - (d + 1) + 1 = n - d by omega]; exact this
 intro i au
 have := key (n - i) (by omega)
 rwa [show n - (n - i) = i by omega] at this
theorem up {β : Type} {l : Nat → Int → Option β} {n : Nat} (F : Nat → Option β) (bM : ∀ m, l (m + 1) (n : Int) = F n)
  (ab : ∀ i, i < n → ∀ m, (l m ((i + 1 : Nat) : Int) = F (i + 1)) → l (m + 1) (i : Int) = F i) : ∀ i, i ≤ n → ∀ m, n - i < m → l m (i : Int) = F i := by
 refine down n ?_ ?_
 ·intro m hm
  obtain ⟨k, rfl⟩ : ∃ k, m = k + 1 := ⟨m - 1, by omega⟩
  exact bM k
 ·intro i au ih m hm
  obtain ⟨k, rfl⟩ : ∃ k, m = k + 1 := ⟨m - 1, by omega⟩
  exact ab i au k (ih k (by omega))
theorem tD {β : Type} {l : Nat → Int → Option β} {n : Nat} (F : Nat → Option β) (bM : ∀ m, l (m + 1) (n : Int) = F n)
  (ab : ∀ i, i < n → ∀ m, (l m ((i + 1 : Nat) : Int) = F (i + 1)) → l (m + 1) (i : Int) = F i) : cX (fun m => l m 0) = F 0 :=
 i7 (n + 1) fun m hm => up F bM ab 0 (by omega) m (by omega)
theorem drop_cons {α : Type} (a : List α) (i : Nat) (h : i < a.length) : a.drop i = a[i] :: a.drop (i + 1) := List.drop_eq_getElem_cons h
end Go.gV
