/- Part of a proof that a law returns true for every input. No condition. -/
import Derived.Test.YtobljppjkklojaaFwA
import Derived.IntWalk
namespace Go.Sh
open Go Go.Fw
theorem w64 (n : Int) (h : -9223372036854775808 ≤ n ∧ n ≤ 9223372036854775807) : IntKind.i64.wrap n = n := IntWalk.i64_in n h
theorem getI_nat {α : Type} (a : List α) (i : Nat) (d : α) (h : i < a.length) : getI a (i : Int) = some (a.getD i d) := by
 rw [getI_some (by omega) (by simpa using h)]
 simp [List.getD, h]
theorem getI_lt {α : Type} (a : List α) (i : Nat) (h : i < a.length) : getI a (i : Int) = some a[i] := by
 rw [getI_some (by omega) (by simpa using h)]; rfl
theorem subL_take {α : Type} (a : List α) (n : Nat) (h : n ≤ a.length) : subL a 0 (n : Int) = some (a.take n) := by
 unfold subL
 rw [if_pos (by omega)]; simp
theorem wsucc (i n : Nat) (h : i < n) (hn : n ≤ 4611686018427387904) : IntKind.i64.wrap ((i : Int) + 1) = ((i + 1 : Nat) : Int) := by
 rw [w64 _ (by omega)]; omega
theorem ltT {i n : Nat} (h : i < n) : decide ((i : Int) < (n : Int)) = true := by simp; omega
theorem ltF {i n : Nat} (h : n ≤ i) : decide ((i : Int) < (n : Int)) = false := by simp; omega
theorem getI_zero {α : Type} (c : α) (r : List α) : getI (c :: r) 0 = some c := rfl
theorem lt0 {n : Nat} (h : 0 < n) : decide ((0 : Int) < (n : Int)) = true := by simp; omega
theorem w01 : IntKind.i64.wrap (0 + 1) = 1 := by decide
theorem down (n : Nat) {P : Nat → Prop} (h0 : P n) (hs : ∀ i, i < n → P (i + 1) → P i) : ∀ i, i ≤ n → P i := by
 have key : ∀ d, d ≤ n → P (n - d) := by
  intro d
  induction d with
  | zero => intro _; exact h0
  | succ d ih =>
    intro hd
    have := ih (by omega)
    refine hs _ (by omega) ?_
    rw [show n - (d + 1) + 1 = n - d by omega]; exact this
 intro i hi
 have := key (n - i) (by omega)
 rwa [show n - (n - i) = i by omega] at this
theorem up {β : Type} {l : Nat → Int → Option β} {n : Nat} (F : Nat → Option β) (h0 : ∀ m, l (m + 1) (n : Int) = F n)
  (hs : ∀ i, i < n → ∀ m, (l m ((i + 1 : Nat) : Int) = F (i + 1)) → l (m + 1) (i : Int) = F i) : ∀ i, i ≤ n → ∀ m, n - i < m → l m (i : Int) = F i := by
 refine down n ?_ ?_
 ·intro m hm
  obtain ⟨k, rfl⟩ : ∃ k, m = k + 1 := ⟨m - 1, by omega⟩
  exact h0 k
 ·intro i hi ih m hm
  obtain ⟨k, rfl⟩ : ∃ k, m = k + 1 := ⟨m - 1, by omega⟩
  exact hs i hi k (ih k (by omega))
theorem up_lim {β : Type} {l : Nat → Int → Option β} {n : Nat} (F : Nat → Option β) (h0 : ∀ m, l (m + 1) (n : Int) = F n)
  (hs : ∀ i, i < n → ∀ m, (l m ((i + 1 : Nat) : Int) = F (i + 1)) → l (m + 1) (i : Int) = F i) : lim (fun m => l m 0) = F 0 :=
 lim_of (n + 1) fun m hm => up F h0 hs 0 (by omega) m (by omega)
theorem drop_cons {α : Type} (a : List α) (i : Nat) (h : i < a.length) : a.drop i = a[i] :: a.drop (i + 1) := List.drop_eq_getElem_cons h
end Go.Sh
