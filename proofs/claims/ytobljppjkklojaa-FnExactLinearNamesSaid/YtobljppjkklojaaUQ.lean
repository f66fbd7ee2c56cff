/- Part of a proof that a law returns true for every input. No condition. -/
import Derived.Test.YtobljppjkklojaaUG
namespace Go.fH
open Go Go.cM
section
variable {α : Type}
structure Ord (lt : α → α → Bool) : Prop where
 oe : ∀ a, lt a a = false
 mq : ∀ a b c, lt a b = true → lt b c = true → lt a c = true
 og : ∀ a b, lt a b = true ∨ a = b ∨ lt b a = true
def jP (lt : α → α → Bool) (l : List α) : Prop := l.Pairwise (fun a b => lt a b = true)
variable {lt : α → α → Bool}
theorem zM (h : Ord lt) : ∀ {l m : List α}, jP lt l → jP lt m → (∀ x, x ∈ l ↔ x ∈ m) → l = m
 | [], [], _, _, _ => rfl
 | [], y :: m, _, _, e => by have := (e y).2 (by simp); simp at this
 | x :: l, [], _, _, e => by have := (e x).1 (by simp); simp at this
 | x :: l, y :: m, hl, hm, e => by
   have jQ := List.pairwise_cons.1 hl
   have jB := List.pairwise_cons.1 hm
   have rA : x = y := by
    have aa := (e x).1 (by simp)
    have ab := (e y).2 (by simp)
    rcases List.mem_cons.1 aa with aa | aa
    ·exact aa
    ·rcases List.mem_cons.1 ab with ab | ab
     ·exact ab.symm
     ·have := h.mq _ _ _ (jB.1 x aa) (jQ.1 y ab)
      rw [h.oe] at this; cases this
   subst rA
   have : l = m := zM h jQ.2 jB.2 fun z => by
    have := e z
    constructor
    ·intro bw
     have cZ : z ≠ x := fun eC => by have := jQ.1 z bw; rw [eC, h.oe] at this; cases this
     rcases List.mem_cons.1 (this.1 (by simp [bw])) with aE | aE
     ·exact (cZ aE).elim
     ·exact aE
    ·intro bw
     have cZ : z ≠ x := fun eC => by have := jB.1 z bw; rw [eC, h.oe] at this; cases this
     rcases List.mem_cons.1 (this.2 (by simp [bw])) with aE | aE
     ·exact (cZ aE).elim
     ·exact aE
   rw [this]
variable [DecidableEq α]
def ins (lt : α → α → Bool) (x : α) : List α → List α
 | [] => [x]
 | y :: r => if lt x y = true then x :: y :: r else if x = y then y :: r else y :: ins lt x r
theorem wG (x y : α) : ∀ l : List α, y ∈ ins lt x l ↔ y = x ∨ y ∈ l
 | [] => by simp [ins]
 | z :: r => by
   simp only [ins]
   split
   ·simp
   ·split
    ·rename_i h; subst h; simp
    ·have := wG x y r
     simp only [List.mem_cons, this]
     constructor
     ·rintro (h | h | h)
      ·exact .inr (.inl h)
      ·exact .inl h
      ·exact .inr (.inr h)
     ·rintro (h | h | h)
      ·exact .inr (.inl h)
      ·exact .inl h
      ·exact .inr (.inr h)
theorem zN (x : α) : ∀ l : List α, (ins lt x l).length ≤ l.length + 1
 | [] => by simp [ins]
 | z :: r => by
   have := zN x r
   simp only [ins]
   split
   ·simp
   ·split <;> simp only [List.length_cons] <;> omega
theorem wH (h : Ord lt) (x : α) : ∀ l : List α, jP lt l → jP lt (ins lt x l)
 | [], _ => by simp [ins, jP]
 | y :: r, hl => by
   unfold jP at hl ⊢
   have jQ := List.pairwise_cons.1 hl
   simp only [ins]
   split
   ·rename_i ai
    refine List.pairwise_cons.2 ⟨fun z bw => ?_, hl⟩
    rcases List.mem_cons.1 bw with rfl | bw
    ·exact ai
    ·exact h.mq _ _ _ ai (jQ.1 z bw)
   ·split
    ·exact hl
    ·rename_i aa ab
     refine List.pairwise_cons.2 ⟨fun z bw => ?_, wH h x r jQ.2⟩
     rcases (wG x z r).1 bw with rfl | bw
     ·rcases h.og y z with e | e | e
      ·exact e
      ·exact (ab e.symm).elim
      ·exact (aa e).elim
     ·exact jQ.1 z bw
def i6 (lt : α → α → Bool) (o l : List α) : List α := l.foldl (fun o x => ins lt x o) o
theorem FU (h : Ord lt) : ∀ (l o : List α), jP lt o → jP lt (i6 lt o l)
 | [], _, bP => bP
 | x :: l, o, bP => FU h l _ (wH h x o bP)
theorem FV (y : α) : ∀ (l o : List α), y ∈ i6 lt o l ↔ y ∈ o ∨ y ∈ l
 | [], o => by simp [i6]
 | x :: l, o => by
   have := FV y l (ins lt x o)
   simp only [i6, List.foldl_cons] at this ⊢
   rw [this, wG]
   simp only [List.mem_cons]
   constructor
   ·rintro ((h | h) | h)
    ·exact .inr (.inl h)
    ·exact .inl h
    ·exact .inr (.inr h)
   ·rintro (h | h | h)
    ·exact .inl (.inr h)
    ·exact .inl (.inl h)
    ·exact .inr h
theorem FW : ∀ (l o : List α), (i6 lt o l).length ≤ o.length + l.length
 | [], o => by simp [i6]
 | x :: l, o => by
   have aa := FW l (ins lt x o)
   have ab := zN (lt := lt) x o
   simp only [i6, List.foldl_cons, List.length_cons] at aa ⊢
   omega
theorem FX (h : Ord lt) : ∀ (l : List α) (p : α), l.Pairwise (fun a b => lt b a = false) → (∀ x ∈ l, lt x p = false) →
  jP lt (i7 (some p) l) ∧ ∀ x, x ∈ i7 (some p) l ↔ x ∈ l ∧ x ≠ p
 | [], p, _, _ => by simp [i7, jP]
 | y :: r, p, hl, ao => by
   have jQ := List.pairwise_cons.1 hl
   obtain ⟨lT, ka⟩ := FX h r y jQ.2 jQ.1
   simp only [i7]
   by_cases e : p = y
   ·rw [if_pos (congrArg some e)]
    subst e
    refine ⟨lT, fun x => ?_⟩
    rw [ka x]
    simp only [List.mem_cons]
    constructor
    ·rintro ⟨aa, ab⟩; exact ⟨.inr aa, ab⟩
    ·rintro ⟨aa | aa, ab⟩
     ·exact (ab aa).elim
     ·exact ⟨aa, ab⟩
   ·rw [if_neg (fun eC => e (Option.some.inj eC))]
    have FY : lt p y = true := by
     rcases h.og p y with aJ | aJ | aJ
     ·exact aJ
     ·exact (e aJ).elim
     ·rw [ao y (by simp)] at aJ; cases aJ
    refine ⟨List.pairwise_cons.2 ⟨fun x ai => ?_, lT⟩, fun x => ?_⟩
    ·obtain ⟨aa, ab⟩ := (ka x).1 ai
     rcases h.og y x with aJ | aJ | aJ
     ·exact aJ
     ·exact (ab aJ.symm).elim
     ·rw [jQ.1 x aa] at aJ; cases aJ
    ·simp only [List.mem_cons, ka x]
     constructor
     ·rintro (aa | ⟨aa, ab⟩)
      ·subst aa; exact ⟨.inl rfl, fun eC => e eC.symm⟩
      ·refine ⟨.inr aa, fun eC => ?_⟩
       subst eC
       rw [jQ.1 x aa] at FY; cases FY
     ·rintro ⟨aa | aa, ab⟩
      ·exact .inl aa
      ·by_cases aT : x = y
       ·exact .inl aT
       ·exact .inr ⟨aa, aT⟩
theorem ZE (h : Ord lt) (l : List α) (hl : l.Pairwise (fun a b => lt b a = false)) : jP lt (i7 none l) ∧ ∀ x, x ∈ i7 none l ↔ x ∈ l := by
 cases l with
 | nil => simp [i7, jP]
 | cons y r =>
   have jQ := List.pairwise_cons.1 hl
   obtain ⟨lT, ka⟩ := FX h r y jQ.2 jQ.1
   simp only [i7]
   rw [if_neg (by simp)]
   refine ⟨List.pairwise_cons.2 ⟨fun x ai => ?_, lT⟩, fun x => ?_⟩
   ·obtain ⟨aa, ab⟩ := (ka x).1 ai
    rcases h.og y x with aJ | aJ | aJ
    ·exact aJ
    ·exact (ab aJ.symm).elim
    ·rw [jQ.1 x aa] at aJ; cases aJ
   ·simp only [List.mem_cons, ka x]
    constructor
    ·rintro (aa | ⟨aa, _⟩)
     ·exact .inl aa
     ·exact .inr aa
    ·rintro (aa | aa)
     ·exact .inl aa
     ·by_cases aT : x = y
      ·exact .inl aT
      ·exact .inr ⟨aa, aT⟩
theorem ZF (h : Ord lt) {le : α → α → Bool} (hle : ∀ a b, le a b = !lt b a) (l : List α) : i7 none (l.mergeSort le) = i6 lt [] l := by
 have U : (l.mergeSort le).Pairwise (fun a b => lt b a = false) := by
  have := List.pairwise_mergeSort (le := le) (fun a b c aa ab => by
   rw [hle] at aa ab ⊢
   simp only [Bool.not_eq_true'] at aa ab ⊢
   cases e : lt c a with
   | false => rfl
   | true =>
     rcases h.og a b with aJ | aJ | aJ
     ·have := h.mq _ _ _ e aJ; rw [ab] at this; cases this
     ·subst aJ; rw [ab] at e; cases e
     ·rw [aa] at aJ; cases aJ) (fun a b => by
   rw [hle, hle]
   cases aJ : lt b a with
   | false => rfl
   | true =>
     cases aT : lt a b with
     | false => rfl
     | true => have := h.mq _ _ _ aJ aT; rw [h.oe] at this; cases this) l
  refine this.imp fun {a b} iT => ?_
  rw [hle] at iT; simpa using iT
 obtain ⟨lT, ka⟩ := ZE h _ U
 refine zM h lT (FU h l [] (by simp [jP])) fun x => ?_
 rw [ka, FV, List.mem_mergeSort]
 simp
end
theorem acb : Ord (fun a b : Int => decide (a < b)) where
 oe := fun a => by simp
 mq := fun a b c aa ab => by simp at aa ab ⊢; omega
 og := fun a b => by simp; omega
theorem acd (a b : Int) : decide (a ≤ b) = !decide (b < a) := by
 by_cases h : a ≤ b
 ·have : ¬ b < a := by omega
  simp [h, this]
 ·have : b < a := by omega
  simp [h, this]
abbrev ace : Int → Int → Bool := fun a b => decide (a < b)
end Go.fH
