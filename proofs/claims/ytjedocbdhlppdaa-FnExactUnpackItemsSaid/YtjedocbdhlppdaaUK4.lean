/- Part of a proof that a law returns true for every input. No condition. -/
import Derived.Test.YtjedocbdhlppdaaUT
import Derived.Test.YtjedocbdhlppdaaUK3
namespace Go.fi
open Go Go.b7
def k3 (a : List UInt8) : Nat → List a6 → Nat → Option (List a6 × Int)
 | 0, _, _ => none
 | m + 1, L, i => if i < a.length then (match hz (a.drop i) with
     | none => some ([], 9)
     | some (x, n) => if L.length = 16 then some ([], 9) else k3 a m (L ++ [x]) (i + n))
   else if lR L = true ∧ [80, 65] ++ L.flatMap gE = a then some (L, 0) else some ([], 9)
theorem BG {t : List UInt8} {x : a6} {n : Nat} (h : hz t = some (x, n)) : n ≤ t.length ∧ x.Name.length ≤ t.length ∧ x.bx.length ≤ t.length := by
 unfold hz at h
 split at h
 ·rename_i c d r
  split at h
  ·split at h
   ·rename_i e f q bR
    split at h
    ·rename_i aO
     cases h
     have := rn bR
     simp only [List.length_cons, List.length_take]
     omega
    ·cases h
   ·cases h
  ·cases h
 ·cases h
theorem BH {L : List a6} (h : ky L) {x : a6} (an : x.Name.length ≤ 1048576 ∧ x.bx.length ≤ 1048576) (iO : L.length ≤ 16) : ky (L ++ [x]) := by
 refine ⟨by simp; omega, fun y a8 => ?_⟩
 rcases List.mem_append.1 a8 with a8 | a8
 ·exact h.2 y a8
 ·rw [List.mem_singleton.1 a8]; exact an
theorem BI {n : Nat} (h : n ≤ 1048576) : room 32 n = some () := by unfold room; rw [if_pos (by omega)]
theorem N0 (a : List UInt8) (bB : a.length ≤ 1048576) : ∀ (m : Nat) (L : List a6) (i : Nat), ky L → L.length ≤ 16 → i ≤ a.length → pf a m L (i : Int) = k3 a m L i := by
 intro m
 induction m with
 | zero => intros; rfl
 | succ m ih =>
   intro L i R iO ax
   simp only [pf, vK, k3]
   by_cases h : i < a.length
   ·rw [k1 h, if_pos h]
    obtain ⟨x, n, b, e, hm⟩ := NS a i bB ax
    rw [e]
    simp only [cond_true, Option.bind_some]
    cases aD : hz (a.drop i) with
    | none => rw [aD] at hm; rw [hm]; rfl
    | some y =>
      obtain ⟨y, k⟩ := y
      rw [aD] at hm
      obtain ⟨rfl, rfl, rfl⟩ := hm
      have hl := BG aD
      rw [List.length_drop] at hl
      simp only [Bool.not_true, Bool.false_or]
      by_cases mN : L.length = 16
      ·have : ((L.length : Int) == 16) = true := by simp [mN]
       rw [this, if_pos mN]; rfl
      ·have : ((L.length : Int) == 16) = false := by simp; omega
       rw [this, if_neg mN, BI (by omega)]
       simp only [cond_false, Option.bind_some]
       exact ih _ _ (BH R ⟨by omega, by omega⟩ iO) (by simp; omega) (by omega)
   ·rw [j0 (by omega), if_neg h, NM L R]
    simp only [cond_false, Option.bind_some]
    cases ah : lR L with
    | false => simp
    | true =>
      rw [NP L R]
      simp only [Option.bind_some, Bool.not_true, cond_false, true_and]
      by_cases he : [80, 65] ++ L.flatMap gE = a
      ·rw [if_pos he, show ([80, 65] ++ L.flatMap gE == a) = true by simpa using he]; rfl
      ·rw [if_neg he, show ([80, 65] ++ L.flatMap gE == a) = false by simpa using he]; rfl
theorem N1 (a : List UInt8) (bB : a.length ≤ 1048576) (aa : 2 ≤ a.length) : ∀ (m : Nat) (L : List a6) (i : Nat), ky L → L.length ≤ 16 → i ≤ a.length → po a m L (i : Int) = k3 a m L i := by
 intro m
 induction m with
 | zero => intros; rfl
 | succ m ih =>
   intro L i R iO ax
   simp only [po, vP, k3]
   by_cases h : i < a.length
   ·rw [k1 h, if_pos h, BF a i ax]
    simp only [cond_true, Option.bind_some]
    obtain ⟨x, n, b, e, hm⟩ := NY (a.drop i) (by rw [List.length_drop]; omega)
    rw [e]
    simp only [Option.bind_some]
    cases aD : hz (a.drop i) with
    | none => rw [aD] at hm; rw [hm]; rfl
    | some y =>
      obtain ⟨y, k⟩ := y
      rw [aD] at hm
      obtain ⟨rfl, rfl, rfl⟩ := hm
      have hl := BG aD
      rw [List.length_drop] at hl
      simp only [Bool.not_true, Bool.false_or]
      by_cases mN : L.length = 16
      ·have : ((L.length : Int) == 16) = true := by simp [mN]
       rw [this, if_pos mN]; rfl
      ·have : ((L.length : Int) == 16) = false := by simp; omega
       rw [this, if_neg mN, BI (by omega)]
       simp only [cond_false, Option.bind_some]
       rw [eT ((i : Int) + (k : Int)) (by omega)]
       exact ih _ _ (BH R ⟨by omega, by omega⟩ iO) (by simp; omega) (by omega)
   ·rw [j0 (by omega), if_neg h, NQ L R]
    simp only [cond_false, Option.bind_some]
    cases ah : lR L with
    | false =>
      have : (([] : List UInt8) == a) = false := by
       cases a with
       | nil => simp at aa
       | cons c r => rfl
      simp [this]
    | true =>
      simp only [if_true, true_and]
      by_cases he : [80, 65] ++ L.flatMap gE = a
      ·rw [if_pos he, show ([80, 65] ++ L.flatMap gE == a) = true by simpa using he]; rfl
      ·rw [if_neg he, show ([80, 65] ++ L.flatMap gE == a) = false by simpa using he]; rfl
theorem BJ (a : List UInt8) : ∀ (m fa : Nat) (L : List a6) (i : Nat), L.length ≤ 16 → 16 - L.length < m → 16 - L.length < fa → k3 a m L i = k3 a fa L i := by
 intro m
 induction m with
 | zero => intros; omega
 | succ m ih =>
   intro fa L i iO U aa
   obtain ⟨fa, rfl⟩ : ∃ k, fa = k + 1 := ⟨fa - 1, by omega⟩
   simp only [k3]
   split
   ·split
    ·rfl
    ·split
     ·rfl
     ·rename_i x n _ cu
      exact ih _ _ _ (by simp; omega) (by simp; omega) (by simp; omega)
   ·rfl
theorem N2 (a : List UInt8) : ∀ (m : Nat) (L : List a6) (i : Nat), L.length ≤ 16 → 16 - L.length < m → ∃ r, k3 a m L i = some r ∧ (r.1 = [] ∨ [80, 65] ++ r.1.flatMap gE = a) := by
 intro m
 induction m with
 | zero => intros; omega
 | succ m ih =>
   intro L i iO U
   simp only [k3]
   split
   ·split
    ·exact ⟨_, rfl, .inl rfl⟩
    ·split
     ·exact ⟨_, rfl, .inl rfl⟩
     ·exact ih _ _ (by simp; omega) (by simp; omega)
   ·split
    ·rename_i h
     exact ⟨_, rfl, .inr h.2⟩
    ·exact ⟨_, rfl, .inl rfl⟩
theorem BK : ∀ L : List a6, hb iB L ≤ (L.flatMap gE).length
 | [] => by simp [hb, eD]
 | x :: L => by
   have := BK L
   rw [List.flatMap_cons, List.length_append, BB]
   simp only [hb, eD, List.length_cons, iB] at this ⊢
   omega
theorem N3 (a : List UInt8) (bB : a.length ≤ 1048576) : ∃ r, sI a = some r ∧ qX a = some r ∧ hb iB r.1 ≤ 1048576 := by
 unfold sI qX
 by_cases aa : a.length < 2
 ·have : decide ((a.length : Int) < 2) = true := by simp; omega
  rw [this]
  exact ⟨_, rfl, rfl, by simp [hb, eD]⟩
 ·have : decide ((a.length : Int) < 2) = false := by simp; omega
  rw [this]
  simp only [cond_false]
  obtain ⟨r, aD, ak⟩ := N2 a 17 [] 2 (by simp) (by simp)
  have BL : ky ([] : List a6) := ⟨by simp, fun x an => by cases an⟩
  refine ⟨r, i1 17 fun n aO => ?_, i1 17 fun n aO => ?_, ?_⟩
  ·exact (N0 a bB n [] 2 BL (by simp) (by omega)).trans ((BJ a n 17 [] 2 (by simp) (by simp; omega) (by simp)).trans aD)
  ·exact (N1 a bB (by omega) n [] 2 BL (by simp) (by omega)).trans ((BJ a n 17 [] 2 (by simp) (by simp; omega) (by simp)).trans aD)
  ·rcases ak with h | h
   ·rw [h]; simp [hb, eD]
   ·have U := BK r.1
    have au := congrArg List.length h
    rw [List.length_append] at au
    omega
theorem Nd (a : List UInt8) : vQ a = some true := by
 unfold vQ
 by_cases h : 1048576 < a.length
 ·have : decide ((1048576 : Int) < (a.length : Int)) = true := by simp; omega
  rw [this]; rfl
 ·have : decide ((1048576 : Int) < (a.length : Int)) = false := by simp; omega
  rw [this]
  obtain ⟨r, aE, aI, R⟩ := N3 a (by omega)
  obtain ⟨bW, c, ag, dY, e3⟩ := NH r.1 1 (by omega) (by omega)
  have oi : decide ((1 : Int) + (c : Int) < 0) = false := by simp; omega
  simp only [cond_false, aE, aI, Option.bind_some, NG r.1 R, dY, e3, oi, bne_self_eq_false, Bool.not_true, Bool.or_self]
end Go.fi
