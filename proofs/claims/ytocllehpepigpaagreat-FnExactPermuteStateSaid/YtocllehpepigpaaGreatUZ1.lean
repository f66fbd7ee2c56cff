/- Part of a proof that a law returns true for every input. No condition. -/
import Derived.Test.YtocllehpepigpaaGreatUQ
import Derived.Test.YtocllehpepigpaaGreatUG
namespace Go.e1
open Go Go.dg
def nP (n : Nat) (x : Int) : Bool := decide (0 ≤ x) && decide (x < (n : Int))
def rb (n : Nat) : List Bool → List Int → Bool
 | _, [] => true
 | v, x :: r => nP n x && (!(v.getD x.toNat false) && rb n (v.set x.toNat true) r)
theorem Qq (n : Nat) : ∀ (r : List Int) (v : List Bool), v.length = n → (rb n v r = true ↔ (∀ x ∈ r, nP n x = true ∧ v.getD x.toNat false = false) ∧ r.Nodup) := by
 intro r
 induction r with
 | nil => intro v _; simp [rb]
 | cons x r ih =>
   intro v aQ
   simp only [rb, Bool.and_eq_true, Bool.not_eq_true']
   rw [ih (v.set x.toNat true) (by simpa using aQ)]
   constructor
   ·rintro ⟨ae, ah, aH, a6⟩
    have aq : x.toNat < n := by
     simp only [nP, Bool.and_eq_true, decide_eq_true_eq] at ae; omega
    refine ⟨fun y bl => ?_, List.nodup_cons.2 ⟨fun hm => ?_, a6⟩⟩
    ·rcases List.mem_cons.1 bl with rfl | bl
     ·exact ⟨ae, ah⟩
     ·obtain ⟨bc, bA⟩ := aH y bl
      refine ⟨bc, ?_⟩
      simp only [List.getD_eq_getElem?_getD, List.getElem?_set] at bA ⊢
      split at bA
      ·rw [if_pos (by omega)] at bA; simp at bA
      ·exact bA
    ·have := (aH x hm).2
     simp only [List.getD_eq_getElem?_getD, List.getElem?_set] at this
     rw [if_pos trivial, if_pos (by omega)] at this
     simp at this
   ·rintro ⟨ae, ah⟩
    obtain ⟨bc, bA⟩ := List.nodup_cons.1 ah
    obtain ⟨ca, cy⟩ := ae x (by simp)
    refine ⟨ca, cy, fun y bl => ?_, bA⟩
    obtain ⟨fR, gW⟩ := ae y (by simp [bl])
    refine ⟨fR, ?_⟩
    simp only [nP, Bool.and_eq_true, decide_eq_true_eq] at ca fR
    have dL : x.toNat ≠ y.toNat := by
     intro e
     have : x = y := by omega
     exact bc (this ▸ bl)
    simp only [List.getD_eq_getElem?_getD, List.getElem?_set] at gW ⊢
    rw [if_neg dL]; exact gW
def lW (k : Nat) : Nat → List Int
 | 0 => []
 | m + 1 => (k : Int) :: lW (k + 1) m
theorem Qr : ∀ m k, (lW k m).length = m
 | 0, _ => rfl
 | m + 1, k => by simp only [lW, List.length_cons, Qr m]
theorem Iw : ∀ m k (x : Int), x ∈ lW k m ↔ (k : Int) ≤ x ∧ x < ((k + m : Nat) : Int)
 | 0, k, x => by simp [lW]
 | m + 1, k, x => by
   simp only [lW, List.mem_cons, Iw m]
   omega
theorem aAM : ∀ m k, kP (fun a b : Int => decide (a < b)) (lW k m)
 | 0, _ => List.Pairwise.nil
 | m + 1, k => List.Pairwise.cons (fun x aq => by have := (Iw m _ x).1 aq; simp; omega) (aAM m _)
theorem Qs : ∀ (l : List Int) (k : Nat), kP (fun a b : Int => decide (a < b)) l → (∀ x ∈ l, (k : Int) ≤ x ∧ x < ((k + l.length : Nat) : Int)) → l = lW k l.length
 | [], _, _, _ => rfl
 | x :: l, k, h, ad => by
   obtain ⟨ae, ah⟩ := List.pairwise_cons.1 h
   have aAN : ∀ (l : List Int) (b : Int), kP (fun a b : Int => decide (a < b)) l → (∀ y ∈ l, b < y) → ∀ y ∈ l.getLast?, b + l.length ≤ y := by
    intro l
    induction l with
    | nil => intro b _ _ y bl; simp at bl
    | cons z l ih =>
      intro b aZ ad y bl
      obtain ⟨dK, bj⟩ := List.pairwise_cons.1 aZ
      cases l with
      | nil =>
        simp at bl; subst bl
        have := ad z (by simp)
        simp; omega
      | cons u l =>
        have := ih z bj (fun y bl => by simpa using dK y bl) y (by simpa using bl)
        have b8 := ad z (by simp)
        simp only [List.length_cons] at this ⊢
        omega
   have aq : x = (k : Int) := by
    have aA := ad x (by simp)
    cases l with
    | nil => simp at aA; omega
    | cons u l =>
      have aAO : ∃ y, (u :: l).getLast? = some y := ⟨_, List.getLast?_eq_some_getLast (by simp)⟩
      obtain ⟨y, bl⟩ := aAO
      have aH := aAN (u :: l) x ah (fun y bl => by simpa using ae y bl) y (by rw [bl]; rfl)
      have a6 := (ad y (by simp [List.mem_of_getLast? bl])).2
      simp only [List.length_cons] at aH a6
      omega
   subst aq
   simp only [List.length_cons, lW]
   have := Qs l (k + 1) ah (fun y bl => by
    have := ae y bl
    have bN := (ad y (by simp [bl])).2
    simp only [decide_eq_true_eq, List.length_cons] at this bN
    omega)
   rw [← this]
end Go.e1
