/- Part of a proof that a law returns true for every input. No condition. -/
import Derived.Test.YtbemmmimelklkaaGreatUL0
import Derived.Test.YtbemmmimelklkaaGreatUQ
namespace Go.eR
open Go Go.c5
def Pp (B : List Int) (C : Int → List Int) (M : Int → Prop) : Prop := (∀ x ∈ B, M x) ∧ ∀ x, M x → ∀ y ∈ C x, M y
def pM (B : List Int) (C : Int → List Int) (x : Int) : Prop := ∀ M : Int → Prop, Pp B C M → M x
theorem DM (B : List Int) (C : Int → List Int) : Pp B C (pM B C) := ⟨fun x aq M qG => qG.1 x aq, fun x aq y bD M qG => qG.2 x (aq M qG) y bD⟩
def tN (S vs : List Int) : List Int := vs.foldl (fun S v => if v ∈ S then S else S ++ [v]) S
theorem Pq (S : List Int) (v : Int) (vs : List Int) : tN S (v :: vs) = tN (if v ∈ S then S else S ++ [v]) vs := rfl
theorem Pr : ∀ (vs S : List Int) (x : Int), x ∈ tN S vs ↔ x ∈ S ∨ x ∈ vs
 | [], S, x => by simp [tN]
 | v :: vs, S, x => by
   rw [Pq, Pr vs]
   split
   ·rename_i h
    simp only [List.mem_cons]
    constructor
    ·rintro (af | af)
     ·exact .inl af
     ·exact .inr (.inr af)
    ·rintro (af | af | af)
     ·exact .inl af
     ·subst af; exact .inl h
     ·exact .inr af
   ·simp only [List.mem_append, List.mem_cons, List.not_mem_nil, or_false]
    constructor
    ·rintro ((af | af) | af)
     ·exact .inl af
     ·exact .inr (.inl af)
     ·exact .inr (.inr af)
    ·rintro (af | af | af)
     ·exact .inl (.inl af)
     ·exact .inl (.inr af)
     ·exact .inr af
theorem Ps : ∀ (vs S : List Int), S <+: tN S vs
 | [], S => List.prefix_refl S
 | v :: vs, S => by
   rw [Pq]
   refine List.IsPrefix.trans ?_ (Ps vs _)
   split
   ·exact List.prefix_refl S
   ·exact List.prefix_append ..
theorem HK : ∀ (n : Nat) (S : List Int), S.Nodup → (∀ x ∈ S, 0 ≤ x ∧ x < (n : Int)) → S.length ≤ n
 | 0, S, _, h => by
   cases S with
   | nil => exact Nat.le_refl _
   | cons x r => have := h x (by simp); omega
 | n + 1, S, ak, h => by
   have af : (S.erase (n : Int)).length ≤ n := HK n _ (ak.erase _) fun x aq => by
    have Pt := (ak.mem_erase_iff).1 aq
    have := h x Pt.2
    have := Pt.1
    omega
   by_cases hm : (n : Int) ∈ S
   ·rw [List.length_erase_of_mem hm] at af; omega
   ·rw [List.erase_of_not_mem hm] at af; omega
theorem HL {l : List Int} (h : kV hr l) : l.Nodup := List.Pairwise.imp (fun {a b} h => by simp at h; omega) h
structure kW (n : Nat) (B : List Int) (C : Int → List Int) (S : List Int) : Prop where
 ex : ∃ T, S = B ++ T ∧ T.Nodup
 rg : ∀ x ∈ S, (0 ≤ x ∧ x < (n : Int)) ∧ pM B C x
theorem kW.len {n : Nat} {B S : List Int} {C : Int → List Int} (h : kW n B C S) : S.length ≤ B.length + n := by
 obtain ⟨T, rfl, kC⟩ := h.ex
 have := HK n T kC fun x aq => (h.rg x (by simp [aq])).1
 rw [List.length_append]; omega
theorem kW.one {n : Nat} {B S : List Int} {C : Int → List Int} (h : kW n B C S) (v : Int) (aR : (0 ≤ v ∧ v < (n : Int)) ∧ pM B C v) : kW n B C (if v ∈ S then S else S ++ [v]) := by
 split
 ·exact h
 ·rename_i bl
  obtain ⟨T, rfl, kC⟩ := h.ex
  refine ⟨⟨T ++ [v], by simp, ?_⟩, fun x aq => ?_⟩
  ·rw [List.nodup_append]
   refine ⟨kC, by simp, fun a cz b ad => ?_⟩
   have : b = v := by simpa using ad
   subst this
   exact fun e => bl (by simp [← e, cz])
  ·rcases List.mem_append.1 aq with af | af
   ·exact h.rg x af
   ·have : x = v := by simpa using af
    subst this; exact aR
theorem kW.add {n : Nat} {B : List Int} {C : Int → List Int} : ∀ (vs : List Int) {S : List Int}, kW n B C S → (∀ v ∈ vs, (0 ≤ v ∧ v < (n : Int)) ∧ pM B C v) → kW n B C (tN S vs)
 | [], S, h, _ => h
 | v :: vs, S, h, aR => kW.add vs (h.one v (aR v (by simp))) fun w hw => aR w (by simp [hw])
end Go.eR
