/- Part of a proof that a law returns true for every input. No condition. -/
import Derived.Test.YtbemmmimelklkaaGreatUG
namespace Go.fJ
open Go Go.dg
theorem ox {α : Type} (d : List α) (x : α) (r : List α) : bI (d ++ x :: r) (d.length : Int) = some x := by
 rw [hD _ _ (by simp)]; simp
theorem pZ {α : Type} (d : List α) (x y : α) (r : List α) : List.set (d ++ x :: r) (Int.toNat (d.length : Int)) y = d ++ y :: r := by
 simp
theorem F9 {k : Int} (h : 0 ≤ k) : decide (k < 0) = false := by simp; omega
theorem oy {α : Type} (d : List α) (x : α) (r : List α) : decide ((d.length : Int) < ((d ++ x :: r).length : Int)) = true := by simp; omega
theorem oz {α : Type} {d : List α} (h : d.length ≤ 1099511627776) : IntKind.i64.wrap ((d.length : Int) + 1) = ((d.length + 1 : Nat) : Int) := by rw [fY _ (by omega)]; omega
theorem q1 {α : Type} (f : α → Nat) : ∀ a : List α, gA (fun x => 64 * (f x + 1)) a = 64 * dm f a
 | [] => rfl
 | x :: r => by
   have := q1 f r
   unfold dm at this ⊢
   simp only [gA, List.length_cons]; omega
theorem F_ {α : Type} (n : Nat) : ∀ a : List α, gA (fun _ => n) a = n * a.length
 | [] => rfl
 | x :: r => by simp only [gA, F_ n r, List.length_cons, Nat.mul_add]; omega
theorem s5 {α : Type} {l : Nat → List α → Int → Int → Option (Int × List α)} (w : α → Nat) (ba : ∀ m (v : List α) k, l (m + 1) v k (v.length : Int) = some (k, v))
  (ah : ∀ x (k : Int), 0 ≤ k → k + w x ≤ 1099511627776 → ∃ cz c, c ≤ w x ∧ ∀ m (d r : List α), d.length ≤ 1099511627776 → l (m + 1) (d ++ x :: r) k (d.length : Int) = l m (d ++ cz :: r) (k + (c : Nat)) ((d.length + 1 : Nat) : Int))
  (a : List α) (k : Int) (aE : 0 ≤ k) (hl : a.length ≤ 1099511627776) (ae : k + gA w a ≤ 1099511627776) : ∃ cS c, c ≤ gA w a ∧ cO (fun n => l n a k 0) = some (k + (c : Nat), cS) := by
 have key : ∀ (r : List α) (k : Int), 0 ≤ k → k + gA w r ≤ 1099511627776 → ∃ iz c, c ≤ gA w r ∧ ∀ (d : List α) (m : Nat), d.length + r.length ≤ 1099511627776 → r.length < m → l m (d ++ r) k (d.length : Int) = some (k + (c : Nat), d ++ iz) := by
  intro r
  induction r with
  | nil =>
    intro k _ _
    refine ⟨[], 0, Nat.le_refl _, fun d m _ hm => ?_⟩
    obtain ⟨m, rfl⟩ : ∃ j, m = j + 1 := ⟨m - 1, by omega⟩
    rw [List.append_nil, ba]; simp
  | cons x r ih =>
    intro k ai aj
    simp only [gA] at aj
    obtain ⟨cz, c, cv, cE⟩ := ah x k ai (by omega)
    obtain ⟨iz, vX, a4, a_⟩ := ih (k + c) (by omega) (by omega)
    refine ⟨cz :: iz, c + vX, by simp only [gA]; omega, fun d m al hm => ?_⟩
    simp only [List.length_cons] at al hm
    obtain ⟨m, rfl⟩ : ∃ j, m = j + 1 := ⟨m - 1, by omega⟩
    rw [cE m d r (by omega)]
    have := a_ (d ++ [cz]) m (by simp only [List.length_append, List.length_cons, List.length_nil]; omega) (by omega)
    simp only [List.length_append, List.length_cons, List.length_nil, List.append_assoc, List.cons_append, List.nil_append, Nat.zero_add] at this
    rw [this]
    simp only [Option.some.injEq, Prod.mk.injEq, and_true]
    omega
 obtain ⟨cS, c, a4, a_⟩ := key a k aE ae
 refine ⟨cS, c, a4, ir (a.length + 1) fun m hm => ?_⟩
 have := a_ [] m (by simpa using hl) (by omega)
 simpa using this
theorem MK {α : Type} {l : Nat → List α → Int → Int → Option (Int × List α)} {hl : List α → Nat → Int → Int → Option Int} (w : α → Nat) (ba : ∀ m (v : List α) k, l (m + 1) v k (v.length : Int) = some (k, v))
  (hG : ∀ (a : List α) m k, hl a (m + 1) k (a.length : Int) = some k)
  (ah : ∀ x (k : Int), 0 ≤ k → k + w x ≤ 1099511627776 → ∃ cz c, c ≤ w x ∧ ∀ m (d r : List α), d.length ≤ 1099511627776 → l (m + 1) (d ++ x :: r) k (d.length : Int) = l m (d ++ cz :: r) (k + (c : Nat)) ((d.length + 1 : Nat) : Int) ∧
   hl (d ++ cz :: r) (m + 1) k (d.length : Int) = hl (d ++ cz :: r) m (k + (c : Nat)) ((d.length + 1 : Nat) : Int))
  (a : List α) (k : Int) (aE : 0 ≤ k) (ML : a.length ≤ 1099511627776) (ae : k + gA w a ≤ 1099511627776) : ∃ cS c, c ≤ gA w a ∧ cO (fun n => l n a k 0) = some (k + (c : Nat), cS) ∧ cO (fun n => hl cS n k 0) = some (k + (c : Nat)) := by
 have key : ∀ (r : List α) (k : Int), 0 ≤ k → k + gA w r ≤ 1099511627776 → ∃ iz c, c ≤ gA w r ∧ iz.length = r.length ∧ ∀ (d : List α) (m : Nat), d.length + r.length ≤ 1099511627776 → r.length < m → l m (d ++ r) k (d.length : Int) = some (k + (c : Nat), d ++ iz) ∧
   hl (d ++ iz) m k (d.length : Int) = some (k + (c : Nat)) := by
  intro r
  induction r with
  | nil =>
    intro k _ _
    refine ⟨[], 0, Nat.le_refl _, rfl, fun d m _ hm => ?_⟩
    obtain ⟨m, rfl⟩ : ∃ j, m = j + 1 := ⟨m - 1, by omega⟩
    rw [List.append_nil, ba, hG]; simp
  | cons x r ih =>
    intro k ai aj
    simp only [gA] at aj
    obtain ⟨cz, c, cv, cE⟩ := ah x k ai (by omega)
    obtain ⟨iz, vX, a4, a3, a_⟩ := ih (k + c) (by omega) (by omega)
    refine ⟨cz :: iz, c + vX, by simp only [gA]; omega, by simp only [List.length_cons, a3], fun d m al hm => ?_⟩
    simp only [List.length_cons] at al hm
    obtain ⟨m, rfl⟩ : ∃ j, m = j + 1 := ⟨m - 1, by omega⟩
    rw [(cE m d r (by omega)).1, (cE m d iz (by omega)).2]
    have := a_ (d ++ [cz]) m (by simp only [List.length_append, List.length_cons, List.length_nil]; omega) (by omega)
    simp only [List.length_append, List.length_cons, List.length_nil, List.append_assoc, List.cons_append, List.nil_append, Nat.zero_add] at this
    rw [this.1, this.2]
    simp only [Option.some.injEq, Prod.mk.injEq, and_true]
    exact ⟨by omega, by omega⟩
 obtain ⟨cS, c, a4, a3, a_⟩ := key a k aE ae
 refine ⟨cS, c, a4, ir (a.length + 1) fun m hm => ?_, ir (a.length + 1) fun m hm => ?_⟩
 ·have := (a_ [] m (by simpa using ML) (by omega)).1
  simpa using this
 ·have := (a_ [] m (by simpa using ML) (by omega)).2
  simpa using this
end Go.fJ
