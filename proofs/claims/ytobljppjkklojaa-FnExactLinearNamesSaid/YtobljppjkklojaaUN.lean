/- Part of a proof that a law returns true for every input. No condition. -/
import Derived.Test.YtobljppjkklojaaUG
namespace Go.fH
open Go Go.cM
theorem rr {α : Type} (d : List α) (x : α) (r : List α) : cx (d ++ x :: r) (d.length : Int) = some x := by
 rw [gT _ _ (by simp)]; simp
theorem tr {α : Type} (d : List α) (x y : α) (r : List α) : List.set (d ++ x :: r) (Int.toNat (d.length : Int)) y = d ++ y :: r := by
 simp
theorem Fs {k : Int} (h : 0 ≤ k) : decide (k < 0) = false := by simp; omega
theorem ru {α : Type} (d : List α) (x : α) (r : List α) : decide ((d.length : Int) < ((d ++ x :: r).length : Int)) = true := by simp; omega
theorem rv {α : Type} {d : List α} (h : d.length ≤ 1099511627776) : IntKind.i64.wrap ((d.length : Int) + 1) = ((d.length + 1 : Nat) : Int) := by rw [gH _ (by omega)]; omega
theorem wB {α : Type} (f : α → Nat) : ∀ a : List α, ef (fun x => 64 * (f x + 1)) a = 64 * c8 f a
 | [] => rfl
 | x :: r => by
   have := wB f r
   unfold c8 at this ⊢
   simp only [ef, List.length_cons]; omega
theorem zG {α : Type} (n : Nat) : ∀ a : List α, ef (fun _ => n) a = n * a.length
 | [] => rfl
 | x :: r => by simp only [ef, zG n r, List.length_cons, Nat.mul_add]; omega
theorem wC {α : Type} {l : Nat → List α → Int → Int → Option (Int × List α)} (w : α → Nat) (bp : ∀ m (v : List α) k, l (m + 1) v k (v.length : Int) = some (k, v))
  (U : ∀ x (k : Int), 0 ≤ k → k + w x ≤ 1099511627776 → ∃ cz c, c ≤ w x ∧ ∀ m (d r : List α), d.length ≤ 1099511627776 → l (m + 1) (d ++ x :: r) k (d.length : Int) = l m (d ++ cz :: r) (k + (c : Nat)) ((d.length + 1 : Nat) : Int))
  (a : List α) (k : Int) (aw : 0 ≤ k) (hl : a.length ≤ 1099511627776) (J : k + ef w a ≤ 1099511627776) : ∃ cf c, c ≤ ef w a ∧ lim (fun n => l n a k 0) = some (k + (c : Nat), cf) := by
 have key : ∀ (r : List α) (k : Int), 0 ≤ k → k + ef w r ≤ 1099511627776 → ∃ g0 c, c ≤ ef w r ∧ ∀ (d : List α) (m : Nat), d.length + r.length ≤ 1099511627776 → r.length < m → l m (d ++ r) k (d.length : Int) = some (k + (c : Nat), d ++ g0) := by
  intro r
  induction r with
  | nil =>
    intro k _ _
    refine ⟨[], 0, Nat.le_refl _, fun d m _ hm => ?_⟩
    obtain ⟨m, rfl⟩ : ∃ ar, m = ar + 1 := ⟨m - 1, by omega⟩
    rw [List.append_nil, bp]; simp
  | cons x r ih =>
    intro k aa ab
    simp only [ef] at ab
    obtain ⟨cz, c, bT, b4⟩ := U x k aa (by omega)
    obtain ⟨g0, uh, aJ, aT⟩ := ih (k + c) (by omega) (by omega)
    refine ⟨cz :: g0, c + uh, by simp only [ef]; omega, fun d m af hm => ?_⟩
    simp only [List.length_cons] at af hm
    obtain ⟨m, rfl⟩ : ∃ ar, m = ar + 1 := ⟨m - 1, by omega⟩
    rw [b4 m d r (by omega)]
    have := aT (d ++ [cz]) m (by simp only [List.length_append, List.length_cons, List.length_nil]; omega) (by omega)
    simp only [List.length_append, List.length_cons, List.length_nil, List.append_assoc, List.cons_append, List.nil_append, Nat.zero_add] at this
    rw [this]
    simp only [Option.some.injEq, Prod.mk.injEq, and_true]
    omega
 obtain ⟨cf, c, aJ, aT⟩ := key a k aw J
 refine ⟨cf, c, aJ, h1 (a.length + 1) fun m hm => ?_⟩
 have := aT [] m (by simpa using hl) (by omega)
 simpa using this
theorem YV {α : Type} {l : Nat → List α → Int → Int → Option (Int × List α)} {hl : List α → Nat → Int → Int → Option Int} (w : α → Nat) (bp : ∀ m (v : List α) k, l (m + 1) v k (v.length : Int) = some (k, v))
  (fQ : ∀ (a : List α) m k, hl a (m + 1) k (a.length : Int) = some k)
  (U : ∀ x (k : Int), 0 ≤ k → k + w x ≤ 1099511627776 → ∃ cz c, c ≤ w x ∧ ∀ m (d r : List α), d.length ≤ 1099511627776 → l (m + 1) (d ++ x :: r) k (d.length : Int) = l m (d ++ cz :: r) (k + (c : Nat)) ((d.length + 1 : Nat) : Int) ∧
   hl (d ++ cz :: r) (m + 1) k (d.length : Int) = hl (d ++ cz :: r) m (k + (c : Nat)) ((d.length + 1 : Nat) : Int))
  (a : List α) (k : Int) (aw : 0 ≤ k) (Ft : a.length ≤ 1099511627776) (J : k + ef w a ≤ 1099511627776) : ∃ cf c, c ≤ ef w a ∧ lim (fun n => l n a k 0) = some (k + (c : Nat), cf) ∧ lim (fun n => hl cf n k 0) = some (k + (c : Nat)) := by
 have key : ∀ (r : List α) (k : Int), 0 ≤ k → k + ef w r ≤ 1099511627776 → ∃ g0 c, c ≤ ef w r ∧ g0.length = r.length ∧ ∀ (d : List α) (m : Nat), d.length + r.length ≤ 1099511627776 → r.length < m → l m (d ++ r) k (d.length : Int) = some (k + (c : Nat), d ++ g0) ∧
   hl (d ++ g0) m k (d.length : Int) = some (k + (c : Nat)) := by
  intro r
  induction r with
  | nil =>
    intro k _ _
    refine ⟨[], 0, Nat.le_refl _, rfl, fun d m _ hm => ?_⟩
    obtain ⟨m, rfl⟩ : ∃ ar, m = ar + 1 := ⟨m - 1, by omega⟩
    rw [List.append_nil, bp, fQ]; simp
  | cons x r ih =>
    intro k aa ab
    simp only [ef] at ab
    obtain ⟨cz, c, bT, b4⟩ := U x k aa (by omega)
    obtain ⟨g0, uh, aJ, bb, aT⟩ := ih (k + c) (by omega) (by omega)
    refine ⟨cz :: g0, c + uh, by simp only [ef]; omega, by simp only [List.length_cons, bb], fun d m af hm => ?_⟩
    simp only [List.length_cons] at af hm
    obtain ⟨m, rfl⟩ : ∃ ar, m = ar + 1 := ⟨m - 1, by omega⟩
    rw [(b4 m d r (by omega)).1, (b4 m d g0 (by omega)).2]
    have := aT (d ++ [cz]) m (by simp only [List.length_append, List.length_cons, List.length_nil]; omega) (by omega)
    simp only [List.length_append, List.length_cons, List.length_nil, List.append_assoc, List.cons_append, List.nil_append, Nat.zero_add] at this
    rw [this.1, this.2]
    simp only [Option.some.injEq, Prod.mk.injEq, and_true]
    exact ⟨by omega, by omega⟩
 obtain ⟨cf, c, aJ, bb, aT⟩ := key a k aw J
 refine ⟨cf, c, aJ, h1 (a.length + 1) fun m hm => ?_, h1 (a.length + 1) fun m hm => ?_⟩
 ·have := (aT [] m (by simpa using Ft) (by omega)).1
  simpa using this
 ·have := (aT [] m (by simpa using Ft) (by omega)).2
  simpa using this
end Go.fH
