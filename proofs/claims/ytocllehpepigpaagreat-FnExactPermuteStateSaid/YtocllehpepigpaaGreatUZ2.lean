/- Part of a proof that a law returns true for every input. No condition. -/
import Derived.Test.YtocllehpepigpaaGreatUZ1
import Derived.Test.YtocllehpepigpaaGreatP5
namespace Go.e1
open Go Go.dg
section
abbrev iK : Int → Int → Bool := fun a b => decide (a < b)
theorem Qt (x : Int) : ∀ l : List Int, kP iK l → x ∈ l → (ins iK x l).length = l.length
 | [], _, h => by simp at h
 | y :: r, aZ, h => by
   obtain ⟨dK, bj⟩ := List.pairwise_cons.1 aZ
   simp only [ins]
   by_cases ae : iK x y = true
   ·exfalso
    rcases List.mem_cons.1 h with rfl | h
    ·simp [iK] at ae
    ·have := dK x h
     simp only [iK, decide_eq_true_eq] at ae this
     omega
   ·rw [if_neg ae]
    by_cases ah : x = y
    ·rw [if_pos ah]
    ·rw [if_neg ah]
     have aq : x ∈ r := by
      rcases List.mem_cons.1 h with h | h
      ·exact (ah h).elim
      ·exact h
     simp only [List.length_cons, Qt x r bj aq]
theorem Qu (x : Int) : ∀ l : List Int, x ∉ l → (ins iK x l).length = l.length + 1
 | [], _ => rfl
 | y :: r, h => by
   simp only [List.mem_cons, not_or] at h
   simp only [ins]
   by_cases ae : iK x y = true
   ·rw [if_pos ae]; rfl
   ·rw [if_neg ae, if_neg h.1]
    simp only [List.length_cons, Qu x r h.2]
theorem Qv : ∀ (l o : List Int), kP iK o → ((j_ iK o l).length = o.length + l.length ↔ l.Nodup ∧ ∀ x ∈ l, x ∉ o)
 | [], o, _ => by simp [j_]
 | x :: l, o, b_ => by
   have e : j_ iK o (x :: l) = j_ iK (ins iK x o) l := rfl
   have au := Qv l (ins iK x o) (Ir Iv x o b_)
   have hl := Iu (lt := iK) l (ins iK x o)
   rw [e]
   simp only [List.length_cons, List.nodup_cons, List.mem_cons]
   by_cases aq : x ∈ o
   ·have := Qt x o b_ aq
    constructor
    ·intro h; omega
    ·rintro ⟨_, h⟩; exact (h x (.inl rfl) aq).elim
   ·have ae := Qu x o aq
    rw [show o.length + (l.length + 1) = (ins iK x o).length + l.length by omega, au]
    constructor
    ·rintro ⟨ah, aH⟩
     refine ⟨⟨fun hm => aH x hm ((uz x x o).2 (.inl rfl)), ah⟩, ?_⟩
     rintro y (rfl | bl)
     ·exact aq
     ·exact fun hm => aH y bl ((uz x y o).2 (.inr hm))
    ·rintro ⟨⟨ah, aH⟩, a6⟩
     refine ⟨aH, fun y bl hm => ?_⟩
     rcases (uz x y o).1 hm with rfl | hm
     ·exact ah bl
     ·exact a6 y (.inr bl) hm
end
theorem Qw (a : List Int) : j_ iK [] a = lW 0 a.length ↔ rb a.length (List.replicate a.length false) a = true := by
 have aZ := Is Iv a [] (by simp [kP])
 have hm : ∀ y, y ∈ j_ iK [] a ↔ y ∈ a := fun y => by rw [It]; simp
 have a_ := Qv a [] (by simp [kP])
 rw [Qq _ _ _ (by simp)]
 have bF : ∀ k : Nat, (List.replicate a.length false).getD k false = false := fun k => by
  simp only [List.getD_eq_getElem?_getD, List.getElem?_replicate]
  split <;> rfl
 constructor
 ·intro h
  have hl : (j_ iK [] a).length = a.length := by rw [h, Qr]
  obtain ⟨ae, _⟩ := a_.1 (by simpa using hl)
  refine ⟨fun x aq => ⟨?_, bF _⟩, ae⟩
  have := (hm x).2 aq
  rw [h, Iw] at this
  simp only [nP, Bool.and_eq_true, decide_eq_true_eq]; omega
 ·rintro ⟨ae, ah⟩
  have hl : (j_ iK [] a).length = a.length := by
   have := a_.2 ⟨ah, fun _ _ h => by cases h⟩
   simpa using this
  have := Qs _ 0 aZ (fun x aq => by
   have := (ae x ((hm x).1 aq)).1
   simp only [nP, Bool.and_eq_true, decide_eq_true_eq] at this
   rw [hl]; omega)
  rw [hl] at this; exact this
noncomputable def pB (a : List Int) (n : Nat) : Bool := decide (a.length = n) && rb n (List.replicate n false) a
theorem aAP (a : List Int) (n : Nat) (cJ : a.length ≤ 1048576) (a_ : n ≤ 1048576) : B9 a (n : Int) = some (pB a n) := by
 unfold B9 pB
 by_cases h : a.length = n
 ·have ae : ((a.length : Int) != (n : Int)) = false := by simp [h]
  rw [ae]
  simp only [cond_false]
  rw [pk 1 a_ (by omega)]
  simp only [Option.bind_some, Int.toNat_natCast, h, decide_true, Bool.true_and]
  have key : ∀ d m (v : List Bool) (i : Nat), i + d = a.length → d < m → v.length = n → th a (n : Int) m v (i : Int) = some (rb n v (a.drop i)) := by
   intro d
   induction d with
   | zero =>
     intro m v i au hm aQ
     obtain ⟨m, rfl⟩ : ∃ k, m = k + 1 := ⟨m - 1, by omega⟩
     simp only [th, B8]
     rw [fD (by omega), List.drop_of_length_le (by omega)]; rfl
   | succ d ih =>
     intro m v i au hm aQ
     obtain ⟨m, rfl⟩ : ∃ k, m = k + 1 := ⟨m - 1, by omega⟩
     have e7 : i < a.length := by omega
     simp only [th, B8]
     rw [gT e7, hW a i e7, drop_cons a i e7]
     simp only [cond_true, Option.bind_some, rb, kF]
     rw [fK ((n : Int) - 1) (by omega)]
     have zU : (decide ((0 : Int) ≤ a[i]) && decide (a[i] ≤ (n : Int) - 1)) = nP n a[i] := by
      unfold nP
      congr 1
      exact decide_eq_decide.2 (by omega)
     rw [zU]
     cases aq : nP n a[i] with
     | false => rfl
     | true =>
       simp only [nP, Bool.and_eq_true, decide_eq_true_eq] at aq
       have aA : a[i].toNat < v.length := by omega
       simp only [Bool.not_true, cond_false, Bool.true_and]
       rw [zW (by omega) aA]
       simp only [Option.bind_some, List.getD_eq_getElem?_getD, List.getElem?_eq_getElem aA, Option.getD_some]
       cases v[a[i].toNat] with
       | true => rfl
       | false =>
         simp only [cond_false, Bool.not_false, Bool.true_and]
         rw [gS i _ e7 (by omega)]
         exact ih m _ (i + 1) (by omega) (by omega) (by simpa using aQ)
  exact i1 (a.length + 1) fun m hm => key a.length m _ 0 (by omega) (by omega) (by simp)
 ·have ae : ((a.length : Int) != (n : Int)) = true := by simp; omega
  rw [ae]
  simp [h]
end Go.e1
