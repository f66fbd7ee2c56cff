/- Part of a proof that a law returns true for every input. No condition. -/
import Derived.Test.YtocllehpepigpaaGreatUG
namespace Go.e1
open Go Go.dg
theorem pn {α : Type} (d : List α) (x : α) (r : List α) : bK (d ++ x :: r) (d.length : Int) = some x := by
 rw [hW _ _ (by simp)]; simp
theorem q0 {α : Type} (d : List α) (x y : α) (r : List α) : List.set (d ++ x :: r) (Int.toNat (d.length : Int)) y = d ++ y :: r := by
 simp
theorem H7 {k : Int} (h : 0 ≤ k) : decide (k < 0) = false := by simp; omega
theorem po {α : Type} (d : List α) (x : α) (r : List α) : decide ((d.length : Int) < ((d ++ x :: r).length : Int)) = true := by simp; omega
theorem pq {α : Type} {d : List α} (h : d.length ≤ 1099511627776) : IntKind.i64.wrap ((d.length : Int) + 1) = ((d.length + 1 : Nat) : Int) := by rw [fK _ (by omega)]; omega
theorem r3 {α : Type} (f : α → Nat) : ∀ a : List α, gp (fun x => 64 * (f x + 1)) a = 64 * dn f a
 | [] => rfl
 | x :: r => by
   have := r3 f r
   unfold dn at this ⊢
   simp only [gp, List.length_cons]; omega
theorem H8 {α : Type} (n : Nat) : ∀ a : List α, gp (fun _ => n) a = n * a.length
 | [] => rfl
 | x :: r => by simp only [gp, H8 n r, List.length_cons, Nat.mul_add]; omega
theorem uj {α : Type} {l : Nat → List α → Int → Int → Option (Int × List α)} (w : α → Nat) (bf : ∀ m (v : List α) k, l (m + 1) v k (v.length : Int) = some (k, v))
  (af : ∀ x (k : Int), 0 ≤ k → k + w x ≤ 1099511627776 → ∃ cA c, c ≤ w x ∧ ∀ m (d r : List α), d.length ≤ 1099511627776 → l (m + 1) (d ++ x :: r) k (d.length : Int) = l m (d ++ cA :: r) (k + (c : Nat)) ((d.length + 1 : Nat) : Int))
  (a : List α) (k : Int) (aA : 0 ≤ k) (hl : a.length ≤ 1099511627776) (ad : k + gp w a ≤ 1099511627776) : ∃ da c, c ≤ gp w a ∧ lim (fun n => l n a k 0) = some (k + (c : Nat), da) := by
 have key : ∀ (r : List α) (k : Int), 0 ≤ k → k + gp w r ≤ 1099511627776 → ∃ h9 c, c ≤ gp w r ∧ ∀ (d : List α) (m : Nat), d.length + r.length ≤ 1099511627776 → r.length < m → l m (d ++ r) k (d.length : Int) = some (k + (c : Nat), d ++ h9) := by
  intro r
  induction r with
  | nil =>
    intro k _ _
    refine ⟨[], 0, Nat.le_refl _, fun d m _ hm => ?_⟩
    obtain ⟨m, rfl⟩ : ∃ j, m = j + 1 := ⟨m - 1, by omega⟩
    rw [List.append_nil, bf]; simp
  | cons x r ih =>
    intro k ae ah
    simp only [gp] at ah
    obtain ⟨cA, c, cD, cz⟩ := af x k ae (by omega)
    obtain ⟨h9, xq, aU, ba⟩ := ih (k + c) (by omega) (by omega)
    refine ⟨cA :: h9, c + xq, by simp only [gp]; omega, fun d m aj hm => ?_⟩
    simp only [List.length_cons] at aj hm
    obtain ⟨m, rfl⟩ : ∃ j, m = j + 1 := ⟨m - 1, by omega⟩
    rw [cz m d r (by omega)]
    have := ba (d ++ [cA]) m (by simp only [List.length_append, List.length_cons, List.length_nil]; omega) (by omega)
    simp only [List.length_append, List.length_cons, List.length_nil, List.append_assoc, List.cons_append, List.nil_append, Nat.zero_add] at this
    rw [this]
    simp only [Option.some.injEq, Prod.mk.injEq, and_true]
    omega
 obtain ⟨da, c, aU, ba⟩ := key a k aA ad
 refine ⟨da, c, aU, i1 (a.length + 1) fun m hm => ?_⟩
 have := ba [] m (by simpa using hl) (by omega)
 simpa using this
theorem Py {α : Type} {l : Nat → List α → Int → Int → Option (Int × List α)} {hl : List α → Nat → Int → Int → Option Int} (w : α → Nat) (bf : ∀ m (v : List α) k, l (m + 1) v k (v.length : Int) = some (k, v))
  (h8 : ∀ (a : List α) m k, hl a (m + 1) k (a.length : Int) = some k)
  (af : ∀ x (k : Int), 0 ≤ k → k + w x ≤ 1099511627776 → ∃ cA c, c ≤ w x ∧ ∀ m (d r : List α), d.length ≤ 1099511627776 → l (m + 1) (d ++ x :: r) k (d.length : Int) = l m (d ++ cA :: r) (k + (c : Nat)) ((d.length + 1 : Nat) : Int) ∧
   hl (d ++ cA :: r) (m + 1) k (d.length : Int) = hl (d ++ cA :: r) m (k + (c : Nat)) ((d.length + 1 : Nat) : Int))
  (a : List α) (k : Int) (aA : 0 ≤ k) (Pz : a.length ≤ 1099511627776) (ad : k + gp w a ≤ 1099511627776) : ∃ da c, c ≤ gp w a ∧ lim (fun n => l n a k 0) = some (k + (c : Nat), da) ∧ lim (fun n => hl da n k 0) = some (k + (c : Nat)) := by
 have key : ∀ (r : List α) (k : Int), 0 ≤ k → k + gp w r ≤ 1099511627776 → ∃ h9 c, c ≤ gp w r ∧ h9.length = r.length ∧ ∀ (d : List α) (m : Nat), d.length + r.length ≤ 1099511627776 → r.length < m → l m (d ++ r) k (d.length : Int) = some (k + (c : Nat), d ++ h9) ∧
   hl (d ++ h9) m k (d.length : Int) = some (k + (c : Nat)) := by
  intro r
  induction r with
  | nil =>
    intro k _ _
    refine ⟨[], 0, Nat.le_refl _, rfl, fun d m _ hm => ?_⟩
    obtain ⟨m, rfl⟩ : ∃ j, m = j + 1 := ⟨m - 1, by omega⟩
    rw [List.append_nil, bf, h8]; simp
  | cons x r ih =>
    intro k ae ah
    simp only [gp] at ah
    obtain ⟨cA, c, cD, cz⟩ := af x k ae (by omega)
    obtain ⟨h9, xq, aU, aW, ba⟩ := ih (k + c) (by omega) (by omega)
    refine ⟨cA :: h9, c + xq, by simp only [gp]; omega, by simp only [List.length_cons, aW], fun d m aj hm => ?_⟩
    simp only [List.length_cons] at aj hm
    obtain ⟨m, rfl⟩ : ∃ j, m = j + 1 := ⟨m - 1, by omega⟩
    rw [(cz m d r (by omega)).1, (cz m d h9 (by omega)).2]
    have := ba (d ++ [cA]) m (by simp only [List.length_append, List.length_cons, List.length_nil]; omega) (by omega)
    simp only [List.length_append, List.length_cons, List.length_nil, List.append_assoc, List.cons_append, List.nil_append, Nat.zero_add] at this
    rw [this.1, this.2]
    simp only [Option.some.injEq, Prod.mk.injEq, and_true]
    exact ⟨by omega, by omega⟩
 obtain ⟨da, c, aU, aW, ba⟩ := key a k aA ad
 refine ⟨da, c, aU, i1 (a.length + 1) fun m hm => ?_, i1 (a.length + 1) fun m hm => ?_⟩
 ·have := (ba [] m (by simpa using Pz) (by omega)).1
  simpa using this
 ·have := (ba [] m (by simpa using Pz) (by omega)).2
  simpa using this
end Go.e1
