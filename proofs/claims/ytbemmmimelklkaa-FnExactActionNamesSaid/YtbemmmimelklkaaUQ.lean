/- Part of a proof that a law returns true for every input. No condition. -/
import Derived.Test.YtbemmmimelklkaaUG
namespace Go.eJ
open Go Go.cB
section
variable {α : Type}
structure Ord (lt : α → α → Bool) : Prop where
 pf : ∀ a, lt a a = false
 m3 : ∀ a b c, lt a b = true → lt b c = true → lt a c = true
 pg : ∀ a b, lt a b = true ∨ a = b ∨ lt b a = true
def kg (lt : α → α → Bool) (l : List α) : Prop := l.Pairwise (fun a b => lt a b = true)
variable {lt : α → α → Bool}
theorem CM (h : Ord lt) : ∀ {l m : List α}, kg lt l → kg lt m → (∀ x, x ∈ l ↔ x ∈ m) → l = m
 | [], [], _, _, _ => rfl
 | [], y :: m, _, _, e => by have := (e y).2 (by simp); simp at this
 | x :: l, [], _, _, e => by have := (e x).1 (by simp); simp at this
 | x :: l, y :: m, hl, hm, e => by
   have jc := List.pairwise_cons.1 hl
   have j4 := List.pairwise_cons.1 hm
   have sQ : x = y := by
    have ab := (e x).1 (by simp)
    have af := (e y).2 (by simp)
    rcases List.mem_cons.1 ab with ab | ab
    ·exact ab
    ·rcases List.mem_cons.1 af with af | af
     ·exact af.symm
     ·have := h.m3 _ _ _ (j4.1 x ab) (jc.1 y af)
      rw [h.pf] at this; cases this
   subst sQ
   have : l = m := CM h jc.2 j4.2 fun z => by
    have := e z
    constructor
    ·intro bG
     have cV : z ≠ x := fun ei => by have := jc.1 z bG; rw [ei, h.pf] at this; cases this
     rcases List.mem_cons.1 (this.1 (by simp [bG])) with aF | aF
     ·exact (cV aF).elim
     ·exact aF
    ·intro bG
     have cV : z ≠ x := fun ei => by have := j4.1 z bG; rw [ei, h.pf] at this; cases this
     rcases List.mem_cons.1 (this.2 (by simp [bG])) with aF | aF
     ·exact (cV aF).elim
     ·exact aF
   rw [this]
variable [DecidableEq α]
def ins (lt : α → α → Bool) (x : α) : List α → List α
 | [] => [x]
 | y :: r => if lt x y = true then x :: y :: r else if x = y then y :: r else y :: ins lt x r
theorem y2 (x y : α) : ∀ l : List α, y ∈ ins lt x l ↔ y = x ∨ y ∈ l
 | [] => by simp [ins]
 | z :: r => by
   simp only [ins]
   split
   ·simp
   ·split
    ·rename_i h; subst h; simp
    ·have := y2 x y r
     simp only [List.mem_cons, this]
     constructor
     ·rintro (h | h | h)
      ·exact .inr (.inl h)
      ·exact .inl h
      ·exact .inr (.inr h)
     ·rintro (h | h | h)
      ·exact .inr (.inl h)
      ·exact .inl h
      ·exact .inr (.inr h)
theorem CN (x : α) : ∀ l : List α, (ins lt x l).length ≤ l.length + 1
 | [] => by simp [ins]
 | z :: r => by
   have := CN x r
   simp only [ins]
   split
   ·simp
   ·split <;> simp only [List.length_cons] <;> omega
theorem y3 (h : Ord lt) (x : α) : ∀ l : List α, kg lt l → kg lt (ins lt x l)
 | [], _ => by simp [ins, kg]
 | y :: r, hl => by
   unfold kg at hl ⊢
   have jc := List.pairwise_cons.1 hl
   simp only [ins]
   split
   ·rename_i au
    refine List.pairwise_cons.2 ⟨fun z bG => ?_, hl⟩
    rcases List.mem_cons.1 bG with rfl | bG
    ·exact au
    ·exact h.m3 _ _ _ au (jc.1 z bG)
   ·split
    ·exact hl
    ·rename_i ab af
     refine List.pairwise_cons.2 ⟨fun z bG => ?_, y3 h x r jc.2⟩
     rcases (y2 x z r).1 bG with rfl | bG
     ·rcases h.pg y z with e | e | e
      ·exact e
      ·exact (af e.symm).elim
      ·exact (ab e).elim
     ·exact jc.1 z bG
def ju (lt : α → α → Bool) (o l : List α) : List α := l.foldl (fun o x => ins lt x o) o
theorem I_ (h : Ord lt) : ∀ (l o : List α), kg lt o → kg lt (ju lt o l)
 | [], _, bU => bU
 | x :: l, o, bU => I_ h l _ (y3 h x o bU)
theorem Ja (y : α) : ∀ (l o : List α), y ∈ ju lt o l ↔ y ∈ o ∨ y ∈ l
 | [], o => by simp [ju]
 | x :: l, o => by
   have := Ja y l (ins lt x o)
   simp only [ju, List.foldl_cons] at this ⊢
   rw [this, y2]
   simp only [List.mem_cons]
   constructor
   ·rintro ((h | h) | h)
    ·exact .inr (.inl h)
    ·exact .inl h
    ·exact .inr (.inr h)
   ·rintro (h | h | h)
    ·exact .inl (.inr h)
    ·exact .inl (.inl h)
    ·exact .inr h
theorem agz : ∀ (l o : List α), (ju lt o l).length ≤ o.length + l.length
 | [], o => by simp [ju]
 | x :: l, o => by
   have ab := agz l (ins lt x o)
   have af := CN (lt := lt) x o
   simp only [ju, List.foldl_cons, List.length_cons] at ab ⊢
   omega
theorem Jb (h : Ord lt) : ∀ (l : List α) (p : α), l.Pairwise (fun a b => lt b a = false) → (∀ x ∈ l, lt x p = false) →
  kg lt (jv (some p) l) ∧ ∀ x, x ∈ jv (some p) l ↔ x ∈ l ∧ x ≠ p
 | [], p, _, _ => by simp [jv, kg]
 | y :: r, p, hl, an => by
   have jc := List.pairwise_cons.1 hl
   obtain ⟨mj, kC⟩ := Jb h r y jc.2 jc.1
   simp only [jv]
   by_cases e : p = y
   ·rw [if_pos (congrArg some e)]
    subst e
    refine ⟨mj, fun x => ?_⟩
    rw [kC x]
    simp only [List.mem_cons]
    constructor
    ·rintro ⟨ab, af⟩; exact ⟨.inr ab, af⟩
    ·rintro ⟨ab | ab, af⟩
     ·exact (af ab).elim
     ·exact ⟨ab, af⟩
   ·rw [if_neg (fun ei => e (Option.some.inj ei))]
    have Jc : lt p y = true := by
     rcases h.pg p y with aJ | aJ | aJ
     ·exact aJ
     ·exact (e aJ).elim
     ·rw [an y (by simp)] at aJ; cases aJ
    refine ⟨List.pairwise_cons.2 ⟨fun x au => ?_, mj⟩, fun x => ?_⟩
    ·obtain ⟨ab, af⟩ := (kC x).1 au
     rcases h.pg y x with aJ | aJ | aJ
     ·exact aJ
     ·exact (af aJ.symm).elim
     ·rw [jc.1 x ab] at aJ; cases aJ
    ·simp only [List.mem_cons, kC x]
     constructor
     ·rintro (ab | ⟨ab, af⟩)
      ·subst ab; exact ⟨.inl rfl, fun ei => e ei.symm⟩
      ·refine ⟨.inr ab, fun ei => ?_⟩
       subst ei
       rw [jc.1 x ab] at Jc; cases Jc
     ·rintro ⟨ab | ab, af⟩
      ·exact .inl ab
      ·by_cases aP : x = y
       ·exact .inl aP
       ·exact .inr ⟨ab, aP⟩
theorem agA (h : Ord lt) (l : List α) (hl : l.Pairwise (fun a b => lt b a = false)) : kg lt (jv none l) ∧ ∀ x, x ∈ jv none l ↔ x ∈ l := by
 cases l with
 | nil => simp [jv, kg]
 | cons y r =>
   have jc := List.pairwise_cons.1 hl
   obtain ⟨mj, kC⟩ := Jb h r y jc.2 jc.1
   simp only [jv]
   rw [if_neg (by simp)]
   refine ⟨List.pairwise_cons.2 ⟨fun x au => ?_, mj⟩, fun x => ?_⟩
   ·obtain ⟨ab, af⟩ := (kC x).1 au
    rcases h.pg y x with aJ | aJ | aJ
    ·exact aJ
    ·exact (af aJ.symm).elim
    ·rw [jc.1 x ab] at aJ; cases aJ
   ·simp only [List.mem_cons, kC x]
    constructor
    ·rintro (ab | ⟨ab, _⟩)
     ·exact .inl ab
     ·exact .inr ab
    ·rintro (ab | ab)
     ·exact .inl ab
     ·by_cases aP : x = y
      ·exact .inl aP
      ·exact .inr ⟨ab, aP⟩
theorem agB (h : Ord lt) {le : α → α → Bool} (hle : ∀ a b, le a b = !lt b a) (l : List α) : jv none (l.mergeSort le) = ju lt [] l := by
 have aa : (l.mergeSort le).Pairwise (fun a b => lt b a = false) := by
  have := List.pairwise_mergeSort (le := le) (fun a b c ab af => by
   rw [hle] at ab af ⊢
   simp only [Bool.not_eq_true'] at ab af ⊢
   cases e : lt c a with
   | false => rfl
   | true =>
     rcases h.pg a b with aJ | aJ | aJ
     ·have := h.m3 _ _ _ e aJ; rw [af] at this; cases this
     ·subst aJ; rw [af] at e; cases e
     ·rw [ab] at aJ; cases aJ) (fun a b => by
   rw [hle, hle]
   cases aJ : lt b a with
   | false => rfl
   | true =>
     cases aP : lt a b with
     | false => rfl
     | true => have := h.m3 _ _ _ aJ aP; rw [h.pf] at this; cases this) l
  refine this.imp fun {a b} je => ?_
  rw [hle] at je; simpa using je
 obtain ⟨mj, kC⟩ := agA h _ aa
 refine CM h mj (I_ h l [] (by simp [kg])) fun x => ?_
 rw [kC, Ja, List.mem_mergeSort]
 simp
end
theorem ai0 : Ord (fun a b : Int => decide (a < b)) where
 pf := fun a => by simp
 m3 := fun a b c ab af => by simp at ab af ⊢; omega
 pg := fun a b => by simp; omega
theorem ai1 (a b : Int) : decide (a ≤ b) = !decide (b < a) := by
 by_cases h : a ≤ b
 ·have : ¬ b < a := by omega
  simp [h, this]
 ·have : b < a := by omega
  simp [h, this]
abbrev ai2 : Int → Int → Bool := fun a b => decide (a < b)
end Go.eJ
