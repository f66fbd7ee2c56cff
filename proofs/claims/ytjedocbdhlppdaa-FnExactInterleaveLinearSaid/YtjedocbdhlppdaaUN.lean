/- Part of a proof that a law returns true for every input. No condition. -/
import Derived.Test.YtjedocbdhlppdaaUG
namespace Go.gV
open Go Go.dp
theorem qk {α : Type} (d : List α) (x : α) (r : List α) : cw (d ++ x :: r) (d.length : Int) = some x := by
 rw [gE _ _ (by simp)]; simp
theorem zN {α : Type} (d : List α) (x y : α) (r : List α) : List.set (d ++ x :: r) (Int.toNat (d.length : Int)) y = d ++ y :: r := by
 simp
theorem o9 {k : Int} (h : 0 ≤ k) : decide (k < 0) = false := by simp; omega
theorem ql {α : Type} (d : List α) (x : α) (r : List α) : decide ((d.length : Int) < ((d ++ x :: r).length : Int)) = true := by simp; omega
theorem qm {α : Type} {d : List α} (h : d.length ≤ 1099511627776) : IntKind.i64.wrap ((d.length : Int) + 1) = ((d.length + 1 : Nat) : Int) := by rw [hi _ (by omega)]; omega
theorem Dj {α : Type} (f : α → Nat) : ∀ a : List α, e4 (fun x => 64 * (f x + 1)) a = 64 * gY f a
 | [] => rfl
 | x :: r => by
   have := Dj f r
   unfold gY at this ⊢
   simp only [e4, List.length_cons]; omega
theorem Dk {α : Type} (n : Nat) : ∀ a : List α, e4 (fun _ => n) a = n * a.length
 | [] => rfl
 | x :: r => by simp only [e4, Dk n r, List.length_cons, Nat.mul_add]; omega
theorem ale {α : Type} {l : Nat → List α → Int → Int → Option (Int × List α)} (w : α → Nat) (bM : ∀ m (v : List α) k, l (m + 1) v k (v.length : Int) = some (k, v))
  (ab : ∀ x (k : Int), 0 ≤ k → k + w x ≤ 1099511627776 → ∃ cO c, c ≤ w x ∧ ∀ m (d r : List α), d.length ≤ 1099511627776 → l (m + 1) (d ++ x :: r) k (d.length : Int) = l m (d ++ cO :: r) (k + (c : Nat)) ((d.length + 1 : Nat) : Int))
  (a : List α) (k : Int) (aB : 0 ≤ k) (hl : a.length ≤ 1099511627776) (U : k + e4 w a ≤ 1099511627776) : ∃ cN c, c ≤ e4 w a ∧ cX (fun n => l n a k 0) = some (k + (c : Nat), cN) := by
 have key : ∀ (r : List α) (k : Int), 0 ≤ k → k + e4 w r ≤ 1099511627776 → ∃ g8 c, c ≤ e4 w r ∧ ∀ (d : List α) (m : Nat), d.length + r.length ≤ 1099511627776 → r.length < m → l m (d ++ r) k (d.length : Int) = some (k + (c : Nat), d ++ g8) := by
  intro r
  induction r with
  | nil =>
    intro k _ _
    refine ⟨[], 0, Nat.le_refl _, fun d m _ hm => ?_⟩
    obtain ⟨m, rfl⟩ : ∃ aK, m = aK + 1 := ⟨m - 1, by omega⟩
    rw [List.append_nil, bM]; simp
  | cons x r ih =>
    intro k ag ah
    simp only [e4] at ah
    obtain ⟨cO, c, bT, b4⟩ := ab x k ag (by omega)
    obtain ⟨g8, xf, a1, bg⟩ := ih (k + c) (by omega) (by omega)
    refine ⟨cO :: g8, c + xf, by simp only [e4]; omega, fun d m ak hm => ?_⟩
    simp only [List.length_cons] at ak hm
    obtain ⟨m, rfl⟩ : ∃ aK, m = aK + 1 := ⟨m - 1, by omega⟩
    rw [b4 m d r (by omega)]
    have := bg (d ++ [cO]) m (by simp only [List.length_append, List.length_cons, List.length_nil]; omega) (by omega)
    simp only [List.length_append, List.length_cons, List.length_nil, List.append_assoc, List.cons_append, List.nil_append, Nat.zero_add] at this
    rw [this]
    simp only [Option.some.injEq, Prod.mk.injEq, and_true]
    omega
 obtain ⟨cN, c, a1, bg⟩ := key a k aB U
 refine ⟨cN, c, a1, i7 (a.length + 1) fun m hm => ?_⟩
 have := bg [] m (by simpa using hl) (by omega)
 simpa using this
theorem zO {α : Type} {l : Nat → List α → Int → Int → Option (Int × List α)} {hl : List α → Nat → Int → Int → Option Int} (w : α → Nat) (bM : ∀ m (v : List α) k, l (m + 1) v k (v.length : Int) = some (k, v))
  (g6 : ∀ (a : List α) m k, hl a (m + 1) k (a.length : Int) = some k)
  (ab : ∀ x (k : Int), 0 ≤ k → k + w x ≤ 1099511627776 → ∃ cO c, c ≤ w x ∧ ∀ m (d r : List α), d.length ≤ 1099511627776 → l (m + 1) (d ++ x :: r) k (d.length : Int) = l m (d ++ cO :: r) (k + (c : Nat)) ((d.length + 1 : Nat) : Int) ∧
   hl (d ++ cO :: r) (m + 1) k (d.length : Int) = hl (d ++ cO :: r) m (k + (c : Nat)) ((d.length + 1 : Nat) : Int))
  (a : List α) (k : Int) (aB : 0 ≤ k) (J4 : a.length ≤ 1099511627776) (U : k + e4 w a ≤ 1099511627776) : ∃ cN c, c ≤ e4 w a ∧ cX (fun n => l n a k 0) = some (k + (c : Nat), cN) ∧ cX (fun n => hl cN n k 0) = some (k + (c : Nat)) := by
 have key : ∀ (r : List α) (k : Int), 0 ≤ k → k + e4 w r ≤ 1099511627776 → ∃ g8 c, c ≤ e4 w r ∧ g8.length = r.length ∧ ∀ (d : List α) (m : Nat), d.length + r.length ≤ 1099511627776 → r.length < m → l m (d ++ r) k (d.length : Int) = some (k + (c : Nat), d ++ g8) ∧
   hl (d ++ g8) m k (d.length : Int) = some (k + (c : Nat)) := by
  intro r
  induction r with
  | nil =>
    intro k _ _
    refine ⟨[], 0, Nat.le_refl _, rfl, fun d m _ hm => ?_⟩
    obtain ⟨m, rfl⟩ : ∃ aK, m = aK + 1 := ⟨m - 1, by omega⟩
    rw [List.append_nil, bM, g6]; simp
  | cons x r ih =>
    intro k ag ah
    simp only [e4] at ah
    obtain ⟨cO, c, bT, b4⟩ := ab x k ag (by omega)
    obtain ⟨g8, xf, a1, bf, bg⟩ := ih (k + c) (by omega) (by omega)
    refine ⟨cO :: g8, c + xf, by simp only [e4]; omega, by simp only [List.length_cons, bf], fun d m ak hm => ?_⟩
    simp only [List.length_cons] at ak hm
    obtain ⟨m, rfl⟩ : ∃ aK, m = aK + 1 := ⟨m - 1, by omega⟩
    rw [(b4 m d r (by omega)).1, (b4 m d g8 (by omega)).2]
    have := bg (d ++ [cO]) m (by simp only [List.length_append, List.length_cons, List.length_nil]; omega) (by omega)
    simp only [List.length_append, List.length_cons, List.length_nil, List.append_assoc, List.cons_append, List.nil_append, Nat.zero_add] at this
    rw [this.1, this.2]
    simp only [Option.some.injEq, Prod.mk.injEq, and_true]
    exact ⟨by omega, by omega⟩
 obtain ⟨cN, c, a1, bf, bg⟩ := key a k aB U
 refine ⟨cN, c, a1, i7 (a.length + 1) fun m hm => ?_, i7 (a.length + 1) fun m hm => ?_⟩
 ·have := (bg [] m (by simpa using J4) (by omega)).1
  simpa using this
 ·have := (bg [] m (by simpa using J4) (by omega)).2
  simpa using this
end Go.gV
