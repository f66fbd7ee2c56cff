/- Part of a proof that a law returns true for every input. No condition. -/
import Derived.Test.YtobljppjkklojaaUG
namespace Go.Sh
open Go Go.Fw
section
variable {α : Type}
structure Ord (lt : α → α → Bool) : Prop where
 irr : ∀ a, lt a a = false
 tr : ∀ a b c, lt a b = true → lt b c = true → lt a c = true
 tot : ∀ a b, lt a b = true ∨ a = b ∨ lt b a = true
def Rise (lt : α → α → Bool) (l : List α) : Prop := l.Pairwise (fun a b => lt a b = true)
variable {lt : α → α → Bool}
theorem rise_eq (h : Ord lt) : ∀ {l m : List α}, Rise lt l → Rise lt m → (∀ x, x ∈ l ↔ x ∈ m) → l = m
 | [], [], _, _, _ => rfl
 | [], y :: m, _, _, e => by have := (e y).2 (by simp); simp at this
 | x :: l, [], _, _, e => by have := (e x).1 (by simp); simp at this
 | x :: l, y :: m, hl, hm, e => by
   have hl' := List.pairwise_cons.1 hl
   have hm' := List.pairwise_cons.1 hm
   have hxy : x = y := by
    have h1 := (e x).1 (by simp)
    have h2 := (e y).2 (by simp)
    rcases List.mem_cons.1 h1 with h1 | h1
    ·exact h1
    ·rcases List.mem_cons.1 h2 with h2 | h2
     ·exact h2.symm
     ·have := h.tr _ _ _ (hm'.1 x h1) (hl'.1 y h2)
      rw [h.irr] at this; cases this
   subst hxy
   have : l = m := rise_eq h hl'.2 hm'.2 fun z => by
    have := e z
    constructor
    ·intro hz
     have hne : z ≠ x := fun e' => by have := hl'.1 z hz; rw [e', h.irr] at this; cases this
     rcases List.mem_cons.1 (this.1 (by simp [hz])) with h3 | h3
     ·exact (hne h3).elim
     ·exact h3
    ·intro hz
     have hne : z ≠ x := fun e' => by have := hm'.1 z hz; rw [e', h.irr] at this; cases this
     rcases List.mem_cons.1 (this.2 (by simp [hz])) with h3 | h3
     ·exact (hne h3).elim
     ·exact h3
   rw [this]
variable [DecidableEq α]
def ins (lt : α → α → Bool) (x : α) : List α → List α
 | [] => [x]
 | y :: r => if lt x y = true then x :: y :: r else if x = y then y :: r else y :: ins lt x r
theorem ins_mem (x y : α) : ∀ l : List α, y ∈ ins lt x l ↔ y = x ∨ y ∈ l
 | [] => by simp [ins]
 | z :: r => by
   simp only [ins]
   split
   ·simp
   ·split
    ·rename_i h; subst h; simp
    ·have := ins_mem x y r
     simp only [List.mem_cons, this]
     constructor
     ·rintro (h | h | h)
      ·exact .inr (.inl h)
      ·exact .inl h
      ·exact .inr (.inr h)
     ·rintro (h | h | h)
      ·exact .inr (.inl h)
      ·exact .inl h
      ·exact .inr (.inr h)
theorem ins_len (x : α) : ∀ l : List α, (ins lt x l).length ≤ l.length + 1
 | [] => by simp [ins]
 | z :: r => by
   have := ins_len x r
   simp only [ins]
   split
   ·simp
   ·split <;> simp only [List.length_cons] <;> omega
theorem ins_rise (h : Ord lt) (x : α) : ∀ l : List α, Rise lt l → Rise lt (ins lt x l)
 | [], _ => by simp [ins, Rise]
 | y :: r, hl => by
   unfold Rise at hl ⊢
   have hl' := List.pairwise_cons.1 hl
   simp only [ins]
   split
   ·rename_i hx
    refine List.pairwise_cons.2 ⟨fun z hz => ?_, hl⟩
    rcases List.mem_cons.1 hz with rfl | hz
    ·exact hx
    ·exact h.tr _ _ _ hx (hl'.1 z hz)
   ·split
    ·exact hl
    ·rename_i h1 h2
     refine List.pairwise_cons.2 ⟨fun z hz => ?_, ins_rise h x r hl'.2⟩
     rcases (ins_mem x z r).1 hz with rfl | hz
     ·rcases h.tot y z with e | e | e
      ·exact e
      ·exact (h2 e.symm).elim
      ·exact (h1 e).elim
     ·exact hl'.1 z hz
def insAll (lt : α → α → Bool) (o l : List α) : List α := l.foldl (fun o x => ins lt x o) o
theorem insAll_rise (h : Ord lt) : ∀ (l o : List α), Rise lt o → Rise lt (insAll lt o l)
 | [], _, ho => ho
 | x :: l, o, ho => insAll_rise h l _ (ins_rise h x o ho)
theorem insAll_mem (y : α) : ∀ (l o : List α), y ∈ insAll lt o l ↔ y ∈ o ∨ y ∈ l
 | [], o => by simp [insAll]
 | x :: l, o => by
   have := insAll_mem y l (ins lt x o)
   simp only [insAll, List.foldl_cons] at this ⊢
   rw [this, ins_mem]
   simp only [List.mem_cons]
   constructor
   ·rintro ((h | h) | h)
    ·exact .inr (.inl h)
    ·exact .inl h
    ·exact .inr (.inr h)
   ·rintro (h | h | h)
    ·exact .inl (.inr h)
    ·exact .inl (.inl h)
    ·exact .inr h
theorem insAll_len : ∀ (l o : List α), (insAll lt o l).length ≤ o.length + l.length
 | [], o => by simp [insAll]
 | x :: l, o => by
   have h1 := insAll_len l (ins lt x o)
   have h2 := ins_len (lt := lt) x o
   simp only [insAll, List.foldl_cons, List.length_cons] at h1 ⊢
   omega
theorem cpt_some (h : Ord lt) : ∀ (l : List α) (p : α), l.Pairwise (fun a b => lt b a = false) → (∀ x ∈ l, lt x p = false) →
  Rise lt (cpt (some p) l) ∧ ∀ x, x ∈ cpt (some p) l ↔ x ∈ l ∧ x ≠ p
 | [], p, _, _ => by simp [cpt, Rise]
 | y :: r, p, hl, hp => by
   have hl' := List.pairwise_cons.1 hl
   obtain ⟨i1, i2⟩ := cpt_some h r y hl'.2 hl'.1
   simp only [cpt]
   by_cases e : p = y
   ·rw [if_pos (congrArg some e)]
    subst e
    refine ⟨i1, fun x => ?_⟩
    rw [i2 x]
    simp only [List.mem_cons]
    constructor
    ·rintro ⟨h1, h2⟩; exact ⟨.inr h1, h2⟩
    ·rintro ⟨h1 | h1, h2⟩
     ·exact (h2 h1).elim
     ·exact ⟨h1, h2⟩
   ·rw [if_neg (fun e' => e (Option.some.inj e'))]
    have hpy : lt p y = true := by
     rcases h.tot p y with e1 | e1 | e1
     ·exact e1
     ·exact (e e1).elim
     ·rw [hp y (by simp)] at e1; cases e1
    refine ⟨List.pairwise_cons.2 ⟨fun x hx => ?_, i1⟩, fun x => ?_⟩
    ·obtain ⟨h1, h2⟩ := (i2 x).1 hx
     rcases h.tot y x with e1 | e1 | e1
     ·exact e1
     ·exact (h2 e1.symm).elim
     ·rw [hl'.1 x h1] at e1; cases e1
    ·simp only [List.mem_cons, i2 x]
     constructor
     ·rintro (h1 | ⟨h1, h2⟩)
      ·subst h1; exact ⟨.inl rfl, fun e' => e e'.symm⟩
      ·refine ⟨.inr h1, fun e' => ?_⟩
       subst e'
       rw [hl'.1 x h1] at hpy; cases hpy
     ·rintro ⟨h1 | h1, h2⟩
      ·exact .inl h1
      ·by_cases e2 : x = y
       ·exact .inl e2
       ·exact .inr ⟨h1, e2⟩
theorem cpt_none (h : Ord lt) (l : List α) (hl : l.Pairwise (fun a b => lt b a = false)) : Rise lt (cpt none l) ∧ ∀ x, x ∈ cpt none l ↔ x ∈ l := by
 cases l with
 | nil => simp [cpt, Rise]
 | cons y r =>
   have hl' := List.pairwise_cons.1 hl
   obtain ⟨i1, i2⟩ := cpt_some h r y hl'.2 hl'.1
   simp only [cpt]
   rw [if_neg (by simp)]
   refine ⟨List.pairwise_cons.2 ⟨fun x hx => ?_, i1⟩, fun x => ?_⟩
   ·obtain ⟨h1, h2⟩ := (i2 x).1 hx
    rcases h.tot y x with e1 | e1 | e1
    ·exact e1
    ·exact (h2 e1.symm).elim
    ·rw [hl'.1 x h1] at e1; cases e1
   ·simp only [List.mem_cons, i2 x]
    constructor
    ·rintro (h1 | ⟨h1, _⟩)
     ·exact .inl h1
     ·exact .inr h1
    ·rintro (h1 | h1)
     ·exact .inl h1
     ·by_cases e2 : x = y
      ·exact .inl e2
      ·exact .inr ⟨h1, e2⟩
theorem sort_ins (h : Ord lt) {le : α → α → Bool} (hle : ∀ a b, le a b = !lt b a) (l : List α) : cpt none (l.mergeSort le) = insAll lt [] l := by
 have hs : (l.mergeSort le).Pairwise (fun a b => lt b a = false) := by
  have := List.pairwise_mergeSort (le := le) (fun a b c h1 h2 => by
   rw [hle] at h1 h2 ⊢
   simp only [Bool.not_eq_true'] at h1 h2 ⊢
   cases e : lt c a with
   | false => rfl
   | true =>
     rcases h.tot a b with e1 | e1 | e1
     ·have := h.tr _ _ _ e e1; rw [h2] at this; cases this
     ·subst e1; rw [h2] at e; cases e
     ·rw [h1] at e1; cases e1) (fun a b => by
   rw [hle, hle]
   cases e1 : lt b a with
   | false => rfl
   | true =>
     cases e2 : lt a b with
     | false => rfl
     | true => have := h.tr _ _ _ e1 e2; rw [h.irr] at this; cases this) l
  refine this.imp fun {a b} hab => ?_
  rw [hle] at hab; simpa using hab
 obtain ⟨i1, i2⟩ := cpt_none h _ hs
 refine rise_eq h i1 (insAll_rise h l [] (by simp [Rise])) fun x => ?_
 rw [i2, insAll_mem, List.mem_mergeSort]
 simp
end
theorem ordI : Ord (fun a b : Int => decide (a < b)) where
 irr := fun a => by simp
 tr := fun a b c h1 h2 => by simp at h1 h2 ⊢; omega
 tot := fun a b => by simp; omega
theorem leI (a b : Int) : decide (a ≤ b) = !decide (b < a) := by
 by_cases h : a ≤ b
 ·have : ¬ b < a := by omega
  simp [h, this]
 ·have : b < a := by omega
  simp [h, this]
abbrev ltI : Int → Int → Bool := fun a b => decide (a < b)
end Go.Sh
