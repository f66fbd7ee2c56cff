/- Part of a proof that a law returns true for every input. No condition. -/
import Derived.Test.YtbemmmimelklkaaGreatUG
namespace Go.f_
open Go Go.dk
theorem oe {α : Type} (d : List α) (x : α) (r : List α) : bM (d ++ x :: r) (d.length : Int) = some x := by
 rw [h2 _ _ (by simp)]; simp
theorem pJ {α : Type} (d : List α) (x y : α) (r : List α) : List.set (d ++ x :: r) (Int.toNat (d.length : Int)) y = d ++ y :: r := by
 simp
theorem FM {k : Int} (h : 0 ≤ k) : decide (k < 0) = false := by simp; omega
theorem og {α : Type} (d : List α) (x : α) (r : List α) : decide ((d.length : Int) < ((d ++ x :: r).length : Int)) = true := by simp; omega
theorem oh {α : Type} {d : List α} (h : d.length ≤ 1099511627776) : IntKind.i64.wrap ((d.length : Int) + 1) = ((d.length + 1 : Nat) : Int) := by rw [fQ _ (by omega)]; omega
theorem qK {α : Type} (f : α → Nat) : ∀ a : List α, gD (fun x => 64 * (f x + 1)) a = 64 * de f a
 | [] => rfl
 | x :: r => by
   have := qK f r
   unfold de at this ⊢
   simp only [gD, List.length_cons]; omega
theorem FN {α : Type} (n : Nat) : ∀ a : List α, gD (fun _ => n) a = n * a.length
 | [] => rfl
 | x :: r => by simp only [gD, FN n r, List.length_cons, Nat.mul_add]; omega
theorem sJ {α : Type} {l : Nat → List α → Int → Int → Option (Int × List α)} (w : α → Nat) (a9 : ∀ m (v : List α) k, l (m + 1) v k (v.length : Int) = some (k, v))
  (ah : ∀ x (k : Int), 0 ≤ k → k + w x ≤ 1099511627776 → ∃ cy c, c ≤ w x ∧ ∀ m (d r : List α), d.length ≤ 1099511627776 → l (m + 1) (d ++ x :: r) k (d.length : Int) = l m (d ++ cy :: r) (k + (c : Nat)) ((d.length + 1 : Nat) : Int))
  (a : List α) (k : Int) (aE : 0 ≤ k) (hl : a.length ≤ 1099511627776) (ae : k + gD w a ≤ 1099511627776) : ∃ cR c, c ≤ gD w a ∧ cV (fun n => l n a k 0) = some (k + (c : Nat), cR) := by
 have key : ∀ (r : List α) (k : Int), 0 ≤ k → k + gD w r ≤ 1099511627776 → ∃ iu c, c ≤ gD w r ∧ ∀ (d : List α) (m : Nat), d.length + r.length ≤ 1099511627776 → r.length < m → l m (d ++ r) k (d.length : Int) = some (k + (c : Nat), d ++ iu) := by
  intro r
  induction r with
  | nil =>
    intro k _ _
    refine ⟨[], 0, Nat.le_refl _, fun d m _ hm => ?_⟩
    obtain ⟨m, rfl⟩ : ∃ j, m = j + 1 := ⟨m - 1, by omega⟩
    rw [List.append_nil, a9]; simp
  | cons x r ih =>
    intro k ai aj
    simp only [gD] at aj
    obtain ⟨cy, c, cE, cF⟩ := ah x k ai (by omega)
    obtain ⟨iu, vv, a4, a_⟩ := ih (k + c) (by omega) (by omega)
    refine ⟨cy :: iu, c + vv, by simp only [gD]; omega, fun d m al hm => ?_⟩
    simp only [List.length_cons] at al hm
    obtain ⟨m, rfl⟩ : ∃ j, m = j + 1 := ⟨m - 1, by omega⟩
    rw [cF m d r (by omega)]
    have := a_ (d ++ [cy]) m (by simp only [List.length_append, List.length_cons, List.length_nil]; omega) (by omega)
    simp only [List.length_append, List.length_cons, List.length_nil, List.append_assoc, List.cons_append, List.nil_append, Nat.zero_add] at this
    rw [this]
    simp only [Option.some.injEq, Prod.mk.injEq, and_true]
    omega
 obtain ⟨cR, c, a4, a_⟩ := key a k aE ae
 refine ⟨cR, c, a4, iS (a.length + 1) fun m hm => ?_⟩
 have := a_ [] m (by simpa using hl) (by omega)
 simpa using this
theorem Mj {α : Type} {l : Nat → List α → Int → Int → Option (Int × List α)} {hl : List α → Nat → Int → Int → Option Int} (w : α → Nat) (a9 : ∀ m (v : List α) k, l (m + 1) v k (v.length : Int) = some (k, v))
  (hF : ∀ (a : List α) m k, hl a (m + 1) k (a.length : Int) = some k)
  (ah : ∀ x (k : Int), 0 ≤ k → k + w x ≤ 1099511627776 → ∃ cy c, c ≤ w x ∧ ∀ m (d r : List α), d.length ≤ 1099511627776 → l (m + 1) (d ++ x :: r) k (d.length : Int) = l m (d ++ cy :: r) (k + (c : Nat)) ((d.length + 1 : Nat) : Int) ∧
   hl (d ++ cy :: r) (m + 1) k (d.length : Int) = hl (d ++ cy :: r) m (k + (c : Nat)) ((d.length + 1 : Nat) : Int))
  (a : List α) (k : Int) (aE : 0 ≤ k) (Mk : a.length ≤ 1099511627776) (ae : k + gD w a ≤ 1099511627776) : ∃ cR c, c ≤ gD w a ∧ cV (fun n => l n a k 0) = some (k + (c : Nat), cR) ∧ cV (fun n => hl cR n k 0) = some (k + (c : Nat)) := by
 have key : ∀ (r : List α) (k : Int), 0 ≤ k → k + gD w r ≤ 1099511627776 → ∃ iu c, c ≤ gD w r ∧ iu.length = r.length ∧ ∀ (d : List α) (m : Nat), d.length + r.length ≤ 1099511627776 → r.length < m → l m (d ++ r) k (d.length : Int) = some (k + (c : Nat), d ++ iu) ∧
   hl (d ++ iu) m k (d.length : Int) = some (k + (c : Nat)) := by
  intro r
  induction r with
  | nil =>
    intro k _ _
    refine ⟨[], 0, Nat.le_refl _, rfl, fun d m _ hm => ?_⟩
    obtain ⟨m, rfl⟩ : ∃ j, m = j + 1 := ⟨m - 1, by omega⟩
    rw [List.append_nil, a9, hF]; simp
  | cons x r ih =>
    intro k ai aj
    simp only [gD] at aj
    obtain ⟨cy, c, cE, cF⟩ := ah x k ai (by omega)
    obtain ⟨iu, vv, a4, a2, a_⟩ := ih (k + c) (by omega) (by omega)
    refine ⟨cy :: iu, c + vv, by simp only [gD]; omega, by simp only [List.length_cons, a2], fun d m al hm => ?_⟩
    simp only [List.length_cons] at al hm
    obtain ⟨m, rfl⟩ : ∃ j, m = j + 1 := ⟨m - 1, by omega⟩
    rw [(cF m d r (by omega)).1, (cF m d iu (by omega)).2]
    have := a_ (d ++ [cy]) m (by simp only [List.length_append, List.length_cons, List.length_nil]; omega) (by omega)
    simp only [List.length_append, List.length_cons, List.length_nil, List.append_assoc, List.cons_append, List.nil_append, Nat.zero_add] at this
    rw [this.1, this.2]
    simp only [Option.some.injEq, Prod.mk.injEq, and_true]
    exact ⟨by omega, by omega⟩
 obtain ⟨cR, c, a4, a2, a_⟩ := key a k aE ae
 refine ⟨cR, c, a4, iS (a.length + 1) fun m hm => ?_, iS (a.length + 1) fun m hm => ?_⟩
 ·have := (a_ [] m (by simpa using Mk) (by omega)).1
  simpa using this
 ·have := (a_ [] m (by simpa using Mk) (by omega)).2
  simpa using this
end Go.f_
