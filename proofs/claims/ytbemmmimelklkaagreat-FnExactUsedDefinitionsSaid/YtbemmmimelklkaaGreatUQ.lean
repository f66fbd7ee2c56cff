/- Part of a proof that a law returns true for every input. No condition. -/
import Derived.Test.YtbemmmimelklkaaGreatUG
namespace Go.eR
open Go Go.c5
section
variable {α : Type}
structure Ord (lt : α → α → Bool) : Prop where
 zx : ∀ a, lt a a = false
 rU : ∀ a b c, lt a b = true → lt b c = true → lt a c = true
 wx : ∀ a b, lt a b = true ∨ a = b ∨ lt b a = true
def kV (lt : α → α → Bool) (l : List α) : Prop := l.Pairwise (fun a b => lt a b = true)
variable {lt : α → α → Bool}
theorem DJ (h : Ord lt) : ∀ {l m : List α}, kV lt l → kV lt m → (∀ x, x ∈ l ↔ x ∈ m) → l = m
 | [], [], _, _, _ => rfl
 | [], y :: m, _, _, e => by have := (e y).2 (by simp); simp at this
 | x :: l, [], _, _, e => by have := (e x).1 (by simp); simp at this
 | x :: l, y :: m, hl, hm, e => by
   have kz := List.pairwise_cons.1 hl
   have ox := List.pairwise_cons.1 hm
   have HH : x = y := by
    have af := (e x).1 (by simp)
    have ai := (e y).2 (by simp)
    rcases List.mem_cons.1 af with af | af
    ·exact af
    ·rcases List.mem_cons.1 ai with ai | ai
     ·exact ai.symm
     ·have := h.rU _ _ _ (ox.1 x af) (kz.1 y ai)
      rw [h.zx] at this; cases this
   subst HH
   have : l = m := DJ h kz.2 ox.2 fun z => by
    have := e z
    constructor
    ·intro bY
     have dB : z ≠ x := fun fv => by have := kz.1 z bY; rw [fv, h.zx] at this; cases this
     rcases List.mem_cons.1 (this.1 (by simp [bY])) with aN | aN
     ·exact (dB aN).elim
     ·exact aN
    ·intro bY
     have dB : z ≠ x := fun fv => by have := ox.1 z bY; rw [fv, h.zx] at this; cases this
     rcases List.mem_cons.1 (this.2 (by simp [bY])) with aN | aN
     ·exact (dB aN).elim
     ·exact aN
   rw [this]
variable [DecidableEq α]
def ins (lt : α → α → Bool) (x : α) : List α → List α
 | [] => [x]
 | y :: r => if lt x y = true then x :: y :: r else if x = y then y :: r else y :: ins lt x r
theorem DK (x y : α) : ∀ l : List α, y ∈ ins lt x l ↔ y = x ∨ y ∈ l
 | [] => by simp [ins]
 | z :: r => by
   simp only [ins]
   split
   ·simp
   ·split
    ·rename_i h; subst h; simp
    ·have := DK x y r
     simp only [List.mem_cons, this]
     constructor
     ·rintro (h | h | h)
      ·exact .inr (.inl h)
      ·exact .inl h
      ·exact .inr (.inr h)
     ·rintro (h | h | h)
      ·exact .inr (.inl h)
      ·exact .inl h
      ·exact .inr (.inr h)
theorem HI (x : α) : ∀ l : List α, (ins lt x l).length ≤ l.length + 1
 | [] => by simp [ins]
 | z :: r => by
   have := HI x r
   simp only [ins]
   split
   ·simp
   ·split <;> simp only [List.length_cons] <;> omega
theorem HJ (h : Ord lt) (x : α) : ∀ l : List α, kV lt l → kV lt (ins lt x l)
 | [], _ => by simp [ins, kV]
 | y :: r, hl => by
   unfold kV at hl ⊢
   have kz := List.pairwise_cons.1 hl
   simp only [ins]
   split
   ·rename_i aq
    refine List.pairwise_cons.2 ⟨fun z bY => ?_, hl⟩
    rcases List.mem_cons.1 bY with rfl | bY
    ·exact aq
    ·exact h.rU _ _ _ aq (kz.1 z bY)
   ·split
    ·exact hl
    ·rename_i af ai
     refine List.pairwise_cons.2 ⟨fun z bY => ?_, HJ h x r kz.2⟩
     rcases (DK x z r).1 bY with rfl | bY
     ·rcases h.wx y z with e | e | e
      ·exact e
      ·exact (ai e.symm).elim
      ·exact (af e).elim
     ·exact kz.1 z bY
def hX (lt : α → α → Bool) (o l : List α) : List α := l.foldl (fun o x => ins lt x o) o
theorem DL (h : Ord lt) : ∀ (l o : List α), kV lt o → kV lt (hX lt o l)
 | [], _, cl => cl
 | x :: l, o, cl => DL h l _ (HJ h x o cl)
theorem pL (y : α) : ∀ (l o : List α), y ∈ hX lt o l ↔ y ∈ o ∨ y ∈ l
 | [], o => by simp [hX]
 | x :: l, o => by
   have := pL y l (ins lt x o)
   simp only [hX, List.foldl_cons] at this ⊢
   rw [this, DK]
   simp only [List.mem_cons]
   constructor
   ·rintro ((h | h) | h)
    ·exact .inr (.inl h)
    ·exact .inl h
    ·exact .inr (.inr h)
   ·rintro (h | h | h)
    ·exact .inl (.inr h)
    ·exact .inl (.inl h)
    ·exact .inr h
theorem awW : ∀ (l o : List α), (hX lt o l).length ≤ o.length + l.length
 | [], o => by simp [hX]
 | x :: l, o => by
   have af := awW l (ins lt x o)
   have ai := HI (lt := lt) x o
   simp only [hX, List.foldl_cons, List.length_cons] at af ⊢
   omega
theorem Pl (h : Ord lt) : ∀ (l : List α) (p : α), l.Pairwise (fun a b => lt b a = false) → (∀ x ∈ l, lt x p = false) →
  kV lt (kX (some p) l) ∧ ∀ x, x ∈ kX (some p) l ↔ x ∈ l ∧ x ≠ p
 | [], p, _, _ => by simp [kX, kV]
 | y :: r, p, hl, aA => by
   have kz := List.pairwise_cons.1 hl
   obtain ⟨n4, l_⟩ := Pl h r y kz.2 kz.1
   simp only [kX]
   by_cases e : p = y
   ·rw [if_pos (congrArg some e)]
    subst e
    refine ⟨n4, fun x => ?_⟩
    rw [l_ x]
    simp only [List.mem_cons]
    constructor
    ·rintro ⟨af, ai⟩; exact ⟨.inr af, ai⟩
    ·rintro ⟨af | af, ai⟩
     ·exact (ai af).elim
     ·exact ⟨af, ai⟩
   ·rw [if_neg (fun fv => e (Option.some.inj fv))]
    have Pm : lt p y = true := by
     rcases h.wx p y with a1 | a1 | a1
     ·exact a1
     ·exact (e a1).elim
     ·rw [aA y (by simp)] at a1; cases a1
    refine ⟨List.pairwise_cons.2 ⟨fun x aq => ?_, n4⟩, fun x => ?_⟩
    ·obtain ⟨af, ai⟩ := (l_ x).1 aq
     rcases h.wx y x with a1 | a1 | a1
     ·exact a1
     ·exact (ai a1.symm).elim
     ·rw [kz.1 x af] at a1; cases a1
    ·simp only [List.mem_cons, l_ x]
     constructor
     ·rintro (af | ⟨af, ai⟩)
      ·subst af; exact ⟨.inl rfl, fun fv => e fv.symm⟩
      ·refine ⟨.inr af, fun fv => ?_⟩
       subst fv
       rw [kz.1 x af] at Pm; cases Pm
     ·rintro ⟨af | af, ai⟩
      ·exact .inl af
      ·by_cases bh : x = y
       ·exact .inl bh
       ·exact .inr ⟨af, bh⟩
theorem awX (h : Ord lt) (l : List α) (hl : l.Pairwise (fun a b => lt b a = false)) : kV lt (kX none l) ∧ ∀ x, x ∈ kX none l ↔ x ∈ l := by
 cases l with
 | nil => simp [kX, kV]
 | cons y r =>
   have kz := List.pairwise_cons.1 hl
   obtain ⟨n4, l_⟩ := Pl h r y kz.2 kz.1
   simp only [kX]
   rw [if_neg (by simp)]
   refine ⟨List.pairwise_cons.2 ⟨fun x aq => ?_, n4⟩, fun x => ?_⟩
   ·obtain ⟨af, ai⟩ := (l_ x).1 aq
    rcases h.wx y x with a1 | a1 | a1
    ·exact a1
    ·exact (ai a1.symm).elim
    ·rw [kz.1 x af] at a1; cases a1
   ·simp only [List.mem_cons, l_ x]
    constructor
    ·rintro (af | ⟨af, _⟩)
     ·exact .inl af
     ·exact .inr af
    ·rintro (af | af)
     ·exact .inl af
     ·by_cases bh : x = y
      ·exact .inl bh
      ·exact .inr ⟨af, bh⟩
theorem Pn (h : Ord lt) {le : α → α → Bool} (hle : ∀ a b, le a b = !lt b a) (l : List α) : kX none (l.mergeSort le) = hX lt [] l := by
 have ah : (l.mergeSort le).Pairwise (fun a b => lt b a = false) := by
  have := List.pairwise_mergeSort (le := le) (fun a b c af ai => by
   rw [hle] at af ai ⊢
   simp only [Bool.not_eq_true'] at af ai ⊢
   cases e : lt c a with
   | false => rfl
   | true =>
     rcases h.wx a b with a1 | a1 | a1
     ·have := h.rU _ _ _ e a1; rw [ai] at this; cases this
     ·subst a1; rw [ai] at e; cases e
     ·rw [af] at a1; cases a1) (fun a b => by
   rw [hle, hle]
   cases a1 : lt b a with
   | false => rfl
   | true =>
     cases bh : lt a b with
     | false => rfl
     | true => have := h.rU _ _ _ a1 bh; rw [h.zx] at this; cases this) l
  refine this.imp fun {a b} kB => ?_
  rw [hle] at kB; simpa using kB
 obtain ⟨n4, l_⟩ := awX h _ ah
 refine DJ h n4 (DL h l [] (by simp [kV])) fun x => ?_
 rw [l_, pL, List.mem_mergeSort]
 simp
end
theorem tM : Ord (fun a b : Int => decide (a < b)) where
 zx := fun a => by simp
 rU := fun a b c af ai => by simp at af ai ⊢; omega
 wx := fun a b => by simp; omega
theorem Po (a b : Int) : decide (a ≤ b) = !decide (b < a) := by
 by_cases h : a ≤ b
 ·have : ¬ b < a := by omega
  simp [h, this]
 ·have : b < a := by omega
  simp [h, this]
abbrev hr : Int → Int → Bool := fun a b => decide (a < b)
end Go.eR
