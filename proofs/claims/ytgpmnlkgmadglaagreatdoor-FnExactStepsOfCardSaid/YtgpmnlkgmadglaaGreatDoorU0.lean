/- Part of a proof that a law returns true for every input. No condition. -/
import Derived.Test.YtgpmnlkgmadglaaGreatDoorFwA
import Derived.IntWalk
namespace Go.eR
open Go Go.cY
theorem fW (n : Int) (h : -9223372036854775808 ≤ n ∧ n ≤ 9223372036854775807) : IntKind.i64.wrap n = n := IntWalk.i64_in n h
theorem Av {α : Type} (a : List α) (i : Nat) (d : α) (h : i < a.length) : bP a (i : Int) = some (a.getD i d) := by
 rw [JI (by omega) (by simpa using h)]
 simp [List.getD, h]
theorem fp {α : Type} (a : List α) (i : Nat) (h : i < a.length) : bP a (i : Int) = some a[i] := by
 rw [JI (by omega) (by simpa using h)]; rfl
theorem Qp {α : Type} (a : List α) (n : Nat) (h : n ≤ a.length) : kB a 0 (n : Int) = some (a.take n) := by
 unfold kB
 rw [if_pos (by omega)]; simp
theorem hg (i n : Nat) (h : i < n) (bc : n ≤ 4611686018427387904) : IntKind.i64.wrap ((i : Int) + 1) = ((i + 1 : Nat) : Int) := by
 rw [fW _ (by omega)]; omega
theorem hx {i n : Nat} (h : i < n) : decide ((i : Int) < (n : Int)) = true := by simp; omega
theorem gI {i n : Nat} (h : n ≤ i) : decide ((i : Int) < (n : Int)) = false := by simp; omega
theorem I3 {α : Type} (c : α) (r : List α) : bP (c :: r) 0 = some c := rfl
theorem xq {n : Nat} (h : 0 < n) : decide ((0 : Int) < (n : Int)) = true := by simp; omega
theorem awm : IntKind.i64.wrap (0 + 1) = 1 := by decide
theorem down (n : Nat) {P : Nat → Prop} (bn : P n) (ab : ∀ i, i < n → P (i + 1) → P i) : ∀ i, i ≤ n → P i := by
 have key : ∀ d, d ≤ n → P (n - d) := by
  intro d
  induction d with
  | zero => intro _; exact bn
  | succ d ih =>
    intro ai
    have := ih (by omega)
    refine ab _ (by omega) ?_
    rw [show n - (d + 1) + 1 = n - d by omega]; exact this
 intro i an
 have := key (n - i) (by omega)
 rwa [show n - (n - i) = i by omega] at this
theorem up {β : Type} {l : Nat → Int → Option β} {n : Nat} (F : Nat → Option β) (bn : ∀ m, l (m + 1) (n : Int) = F n)
  (ab : ∀ i, i < n → ∀ m, (l m ((i + 1 : Nat) : Int) = F (i + 1)) → l (m + 1) (i : Int) = F i) : ∀ i, i ≤ n → ∀ m, n - i < m → l m (i : Int) = F i := by
 refine down n ?_ ?_
 ·intro m hm
  obtain ⟨k, rfl⟩ : ∃ k, m = k + 1 := ⟨m - 1, by omega⟩
  exact bn k
 ·intro i an ih m hm
  obtain ⟨k, rfl⟩ : ∃ k, m = k + 1 := ⟨m - 1, by omega⟩
  exact ab i an k (ih k (by omega))
theorem rL {β : Type} {l : Nat → Int → Option β} {n : Nat} (F : Nat → Option β) (bn : ∀ m, l (m + 1) (n : Int) = F n)
  (ab : ∀ i, i < n → ∀ m, (l m ((i + 1 : Nat) : Int) = F (i + 1)) → l (m + 1) (i : Int) = F i) : c2 (fun m => l m 0) = F 0 :=
 hE (n + 1) fun m hm => up F bn ab 0 (by omega) m (by omega)
theorem drop_cons {α : Type} (a : List α) (i : Nat) (h : i < a.length) : a.drop i = a[i] :: a.drop (i + 1) := List.drop_eq_getElem_cons h
end Go.eR
