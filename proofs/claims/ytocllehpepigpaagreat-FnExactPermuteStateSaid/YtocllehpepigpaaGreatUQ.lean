/- Part of a proof that a law returns true for every input. No condition. -/
import Derived.Test.YtocllehpepigpaaGreatUG
namespace Go.e1
open Go Go.dg
section
variable {α : Type}
structure Ord (lt : α → α → Bool) : Prop where
 zV : ∀ a, lt a a = false
 se : ∀ a b c, lt a b = true → lt b c = true → lt a c = true
 wS : ∀ a b, lt a b = true ∨ a = b ∨ lt b a = true
def kP (lt : α → α → Bool) (l : List α) : Prop := l.Pairwise (fun a b => lt a b = true)
variable {lt : α → α → Bool}
theorem Qm (h : Ord lt) : ∀ {l m : List α}, kP lt l → kP lt m → (∀ x, x ∈ l ↔ x ∈ m) → l = m
 | [], [], _, _, _ => rfl
 | [], y :: m, _, _, e => by have := (e y).2 (by simp); simp at this
 | x :: l, [], _, _, e => by have := (e x).1 (by simp); simp at this
 | x :: l, y :: m, hl, hm, e => by
   have k_ := List.pairwise_cons.1 hl
   have o2 := List.pairwise_cons.1 hm
   have aAI : x = y := by
    have ae := (e x).1 (by simp)
    have ah := (e y).2 (by simp)
    rcases List.mem_cons.1 ae with ae | ae
    ·exact ae
    ·rcases List.mem_cons.1 ah with ah | ah
     ·exact ah.symm
     ·have := h.se _ _ _ (o2.1 x ae) (k_.1 y ah)
      rw [h.zV] at this; cases this
   subst aAI
   have : l = m := Qm h k_.2 o2.2 fun z => by
    have := e z
    constructor
    ·intro b8
     have dL : z ≠ x := fun fQ => by have := k_.1 z b8; rw [fQ, h.zV] at this; cases this
     rcases List.mem_cons.1 (this.1 (by simp [b8])) with aH | aH
     ·exact (dL aH).elim
     ·exact aH
    ·intro b8
     have dL : z ≠ x := fun fQ => by have := o2.1 z b8; rw [fQ, h.zV] at this; cases this
     rcases List.mem_cons.1 (this.2 (by simp [b8])) with aH | aH
     ·exact (dL aH).elim
     ·exact aH
   rw [this]
variable [DecidableEq α]
def ins (lt : α → α → Bool) (x : α) : List α → List α
 | [] => [x]
 | y :: r => if lt x y = true then x :: y :: r else if x = y then y :: r else y :: ins lt x r
theorem uz (x y : α) : ∀ l : List α, y ∈ ins lt x l ↔ y = x ∨ y ∈ l
 | [] => by simp [ins]
 | z :: r => by
   simp only [ins]
   split
   ·simp
   ·split
    ·rename_i h; subst h; simp
    ·have := uz x y r
     simp only [List.mem_cons, this]
     constructor
     ·rintro (h | h | h)
      ·exact .inr (.inl h)
      ·exact .inl h
      ·exact .inr (.inr h)
     ·rintro (h | h | h)
      ·exact .inr (.inl h)
      ·exact .inl h
      ·exact .inr (.inr h)
theorem Qn (x : α) : ∀ l : List α, (ins lt x l).length ≤ l.length + 1
 | [] => by simp [ins]
 | z :: r => by
   have := Qn x r
   simp only [ins]
   split
   ·simp
   ·split <;> simp only [List.length_cons] <;> omega
theorem Ir (h : Ord lt) (x : α) : ∀ l : List α, kP lt l → kP lt (ins lt x l)
 | [], _ => by simp [ins, kP]
 | y :: r, hl => by
   unfold kP at hl ⊢
   have k_ := List.pairwise_cons.1 hl
   simp only [ins]
   split
   ·rename_i aq
    refine List.pairwise_cons.2 ⟨fun z b8 => ?_, hl⟩
    rcases List.mem_cons.1 b8 with rfl | b8
    ·exact aq
    ·exact h.se _ _ _ aq (k_.1 z b8)
   ·split
    ·exact hl
    ·rename_i ae ah
     refine List.pairwise_cons.2 ⟨fun z b8 => ?_, Ir h x r k_.2⟩
     rcases (uz x z r).1 b8 with rfl | b8
     ·rcases h.wS y z with e | e | e
      ·exact e
      ·exact (ah e.symm).elim
      ·exact (ae e).elim
     ·exact k_.1 z b8
def j_ (lt : α → α → Bool) (o l : List α) : List α := l.foldl (fun o x => ins lt x o) o
theorem Is (h : Ord lt) : ∀ (l o : List α), kP lt o → kP lt (j_ lt o l)
 | [], _, b_ => b_
 | x :: l, o, b_ => Is h l _ (Ir h x o b_)
theorem It (y : α) : ∀ (l o : List α), y ∈ j_ lt o l ↔ y ∈ o ∨ y ∈ l
 | [], o => by simp [j_]
 | x :: l, o => by
   have := It y l (ins lt x o)
   simp only [j_, List.foldl_cons] at this ⊢
   rw [this, uz]
   simp only [List.mem_cons]
   constructor
   ·rintro ((h | h) | h)
    ·exact .inr (.inl h)
    ·exact .inl h
    ·exact .inr (.inr h)
   ·rintro (h | h | h)
    ·exact .inl (.inr h)
    ·exact .inl (.inl h)
    ·exact .inr h
theorem Iu : ∀ (l o : List α), (j_ lt o l).length ≤ o.length + l.length
 | [], o => by simp [j_]
 | x :: l, o => by
   have ae := Iu l (ins lt x o)
   have ah := Qn (lt := lt) x o
   simp only [j_, List.foldl_cons, List.length_cons] at ae ⊢
   omega
theorem Qo (h : Ord lt) : ∀ (l : List α) (p : α), l.Pairwise (fun a b => lt b a = false) → (∀ x ∈ l, lt x p = false) →
  kP lt (lC (some p) l) ∧ ∀ x, x ∈ lC (some p) l ↔ x ∈ l ∧ x ≠ p
 | [], p, _, _ => by simp [lC, kP]
 | y :: r, p, hl, az => by
   have k_ := List.pairwise_cons.1 hl
   obtain ⟨mg, kQ⟩ := Qo h r y k_.2 k_.1
   simp only [lC]
   by_cases e : p = y
   ·rw [if_pos (congrArg some e)]
    subst e
    refine ⟨mg, fun x => ?_⟩
    rw [kQ x]
    simp only [List.mem_cons]
    constructor
    ·rintro ⟨ae, ah⟩; exact ⟨.inr ae, ah⟩
    ·rintro ⟨ae | ae, ah⟩
     ·exact (ah ae).elim
     ·exact ⟨ae, ah⟩
   ·rw [if_neg (fun fQ => e (Option.some.inj fQ))]
    have Qp : lt p y = true := by
     rcases h.wS p y with aU | aU | aU
     ·exact aU
     ·exact (e aU).elim
     ·rw [az y (by simp)] at aU; cases aU
    refine ⟨List.pairwise_cons.2 ⟨fun x aq => ?_, mg⟩, fun x => ?_⟩
    ·obtain ⟨ae, ah⟩ := (kQ x).1 aq
     rcases h.wS y x with aU | aU | aU
     ·exact aU
     ·exact (ah aU.symm).elim
     ·rw [k_.1 x ae] at aU; cases aU
    ·simp only [List.mem_cons, kQ x]
     constructor
     ·rintro (ae | ⟨ae, ah⟩)
      ·subst ae; exact ⟨.inl rfl, fun fQ => e fQ.symm⟩
      ·refine ⟨.inr ae, fun fQ => ?_⟩
       subst fQ
       rw [k_.1 x ae] at Qp; cases Qp
     ·rintro ⟨ae | ae, ah⟩
      ·exact .inl ae
      ·by_cases ba : x = y
       ·exact .inl ba
       ·exact .inr ⟨ae, ba⟩
theorem aAJ (h : Ord lt) (l : List α) (hl : l.Pairwise (fun a b => lt b a = false)) : kP lt (lC none l) ∧ ∀ x, x ∈ lC none l ↔ x ∈ l := by
 cases l with
 | nil => simp [lC, kP]
 | cons y r =>
   have k_ := List.pairwise_cons.1 hl
   obtain ⟨mg, kQ⟩ := Qo h r y k_.2 k_.1
   simp only [lC]
   rw [if_neg (by simp)]
   refine ⟨List.pairwise_cons.2 ⟨fun x aq => ?_, mg⟩, fun x => ?_⟩
   ·obtain ⟨ae, ah⟩ := (kQ x).1 aq
    rcases h.wS y x with aU | aU | aU
    ·exact aU
    ·exact (ah aU.symm).elim
    ·rw [k_.1 x ae] at aU; cases aU
   ·simp only [List.mem_cons, kQ x]
    constructor
    ·rintro (ae | ⟨ae, _⟩)
     ·exact .inl ae
     ·exact .inr ae
    ·rintro (ae | ae)
     ·exact .inl ae
     ·by_cases ba : x = y
      ·exact .inl ba
      ·exact .inr ⟨ae, ba⟩
theorem aAK (h : Ord lt) {le : α → α → Bool} (hle : ∀ a b, le a b = !lt b a) (l : List α) : lC none (l.mergeSort le) = j_ lt [] l := by
 have af : (l.mergeSort le).Pairwise (fun a b => lt b a = false) := by
  have := List.pairwise_mergeSort (le := le) (fun a b c ae ah => by
   rw [hle] at ae ah ⊢
   simp only [Bool.not_eq_true'] at ae ah ⊢
   cases e : lt c a with
   | false => rfl
   | true =>
     rcases h.wS a b with aU | aU | aU
     ·have := h.se _ _ _ e aU; rw [ah] at this; cases this
     ·subst aU; rw [ah] at e; cases e
     ·rw [ae] at aU; cases aU) (fun a b => by
   rw [hle, hle]
   cases aU : lt b a with
   | false => rfl
   | true =>
     cases ba : lt a b with
     | false => rfl
     | true => have := h.se _ _ _ aU ba; rw [h.zV] at this; cases this) l
  refine this.imp fun {a b} lb => ?_
  rw [hle] at lb; simpa using lb
 obtain ⟨mg, kQ⟩ := aAJ h _ af
 refine Qm h mg (Is h l [] (by simp [kP])) fun x => ?_
 rw [kQ, It, List.mem_mergeSort]
 simp
end
theorem Iv : Ord (fun a b : Int => decide (a < b)) where
 zV := fun a => by simp
 se := fun a b c ae ah => by simp at ae ah ⊢; omega
 wS := fun a b => by simp; omega
theorem aAL (a b : Int) : decide (a ≤ b) = !decide (b < a) := by
 by_cases h : a ≤ b
 ·have : ¬ b < a := by omega
  simp [h, this]
 ·have : b < a := by omega
  simp [h, this]
abbrev aDp : Int → Int → Bool := fun a b => decide (a < b)
end Go.e1
