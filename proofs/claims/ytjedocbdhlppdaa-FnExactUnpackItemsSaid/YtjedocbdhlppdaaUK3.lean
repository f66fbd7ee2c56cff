/- Part of a proof that a law returns true for every input. No condition. -/
import Derived.Test.YtjedocbdhlppdaaUK1
namespace Go.fi
open Go Go.b7
def hz (t : List UInt8) : Option (a6 × Nat) := match t with
 | c :: d :: r => if c.toNat = 35 then (match r.drop d.toNat with
     | e :: f :: q => if iC (r.take d.toNat) = true ∧ e.toNat * 256 + f.toNat ≤ q.length ∧ (j1 (q.take (e.toNat * 256 + f.toNat))).2 = 0 then some (⟨r.take d.toNat, q.take (e.toNat * 256 + f.toNat)⟩, d.toNat + 4 + (e.toNat * 256 + f.toNat)) else none
     | _ => none) else none
 | _ => none
theorem td {a t : List UInt8} {i k : Nat} {x : UInt8} (aG : a.drop i = t) (ah : t[k]? = some x) {ay : Int} (bP : ay = ((i + k : Nat) : Int)) : cE a ay = some x := by
 subst bP aG
 unfold cE
 rw [if_pos (by omega)]
 rw [List.getElem?_drop] at ah
 exact ah
theorem BE {a t : List UInt8} {i k n : Nat} (aG : a.drop i = t) (ah : k + n ≤ t.length) (hl : t ≠ []) {bY ax : Int} (U : bY = ((i + k : Nat) : Int)) (aa : ax = ((i + k + n : Nat) : Int)) : eh a bY ax = some ((t.drop k).take n) := by
 subst U aa aG
 have hlen : i < a.length := by
  rcases Nat.lt_or_ge i a.length with h | h
  ·exact h
  ·exact (hl (List.drop_of_length_le h)).elim
 rw [List.length_drop] at ah
 unfold eh
 rw [if_pos (by omega)]
 simp only [Int.toNat_natCast, List.drop_drop]
 rw [List.drop_take]
 congr 2
 omega
theorem NR {s : List UInt8} (h : iC s = true) : s.length ≤ 10 := by
 unfold iC at h
 simp only [Bool.and_eq_true, decide_eq_true_eq] at h
 exact h.1
theorem rn {r : List UInt8} {n : Nat} {e f : UInt8} {q : List UInt8} (h : r.drop n = e :: f :: q) : r.length = n + 2 + q.length := by
 have := congrArg List.length h
 simp only [List.length_drop, List.length_cons] at this
 omega
theorem NS (a : List UInt8) (i : Nat) (bB : a.length ≤ 1048576) (ax : i ≤ a.length) : ∃ x n b, sC a (i : Int) = some (x, n, b) ∧
  (match hz (a.drop i) with | some (y, m) => x = y ∧ n = ((i + m : Nat) : Int) ∧ b = true | none => b = false) := by
 have hlen := List.length_drop (i := i) (l := a)
 unfold sC
 rw [eT ((i : Int) + 2) (by omega)]
 generalize aG : a.drop i = t at hlen
 match t, aG, hlen with
 | [], aG, hlen =>
   have U : decide ((a.length : Int) < (i : Int) + 2) = true := by simp at hlen ⊢; omega
   rw [U]
   exact ⟨_, _, _, rfl, rfl⟩
 | [c], aG, hlen =>
   have U : decide ((a.length : Int) < (i : Int) + 2) = true := by simp at hlen ⊢; omega
   rw [U]
   exact ⟨_, _, _, rfl, rfl⟩
 | c :: d :: r, aG, hlen =>
   have hl : a.length = i + 2 + r.length := by simp only [List.length_cons] at hlen; omega
   have U : decide ((a.length : Int) < (i : Int) + 2) = false := by simp; omega
   have NT : d.toNat < 256 := d.toNat_lt
   rw [U, td aG (k := 0) rfl (by omega)]
   simp only [cond_false, Option.bind_some]
   by_cases ag : c.toNat = 35
   ·have aa : ((c.toNat : Int) != 35) = false := by simp [ag]
    rw [aa, eT ((i : Int) + 1) (by omega), td aG (k := 1) rfl (by omega)]
    simp only [cond_false, Option.bind_some]
    rw [eT ((i : Int) + 2 + (d.toNat : Int)) (by omega), eT ((i : Int) + 2 + (d.toNat : Int) + 2) (by omega)]
    simp only [hz, ag, if_true]
    by_cases eK : 10 < d.toNat
    ·have au : decide ((10 : Int) < (d.toNat : Int)) = true := by simp; omega
     rw [au]
     refine ⟨_, _, _, rfl, ?_⟩
     split
     ·rename_i heq
      split at heq
      ·rename_i e f q bR
       split at heq
       ·rename_i aO
        have := NR aO.1
        rw [List.length_take, rn bR] at this
        omega
       ·cases heq
      ·cases heq
     ·rfl
    ·have au : decide ((10 : Int) < (d.toNat : Int)) = false := by simp; omega
     rw [au, Bool.false_or]
     by_cases aD : r.length < d.toNat + 2
     ·have aK : decide ((a.length : Int) < (i : Int) + 2 + (d.toNat : Int) + 2) = true := by simp; omega
      rw [aK]
      refine ⟨_, _, _, rfl, ?_⟩
      split
      ·rename_i heq
       split at heq
       ·rename_i e f q bR
        have := rn bR
        omega
       ·cases heq
      ·rfl
     ·have aK : decide ((a.length : Int) < (i : Int) + 2 + (d.toNat : Int) + 2) = false := by simp; omega
      rw [aK]
      obtain ⟨e, f, q, bR⟩ : ∃ e f q, r.drop d.toNat = e :: f :: q := by
       have rp := List.length_drop (i := d.toNat) (l := r)
       match an : r.drop d.toNat, rp with
       | [], rp => simp at rp; omega
       | [_], rp => simp at rp; omega
       | e :: f :: q, _ => exact ⟨e, f, q, rfl⟩
      have NU := rn bR
      have qz : a.drop (i + 2 + d.toNat) = e :: f :: q := by
       rw [show i + 2 + d.toNat = i + (2 + d.toNat) by omega, ← List.drop_drop, aG, ← bR, ← List.drop_drop]; rfl
      simp only [cond_false]
      rw [BE aG (k := 2) (n := d.toNat) (by simp only [List.length_cons]; omega) (by simp) (by omega) (by omega), eT ((i : Int) + 2 + (d.toNat : Int) + 1) (by omega),
       td qz (k := 0) rfl (by omega), td qz (k := 1) rfl (by omega)]
      simp only [Option.bind_some]
      have aE : ((c :: d :: r).drop 2).take d.toNat = r.take d.toNat := rfl
      rw [aE, Bv, bR]
      simp only [Option.bind_some]
      have NV : e.toNat < 256 := e.toNat_lt
      have NW : f.toNat < 256 := f.toNat_lt
      rw [eT ((e.toNat : Int) * 256) (by omega), eT ((e.toNat : Int) * 256 + (f.toNat : Int)) (by omega), eT ((i : Int) + 2 + (d.toNat : Int) + 2 + ((e.toNat : Int) * 256 + (f.toNat : Int))) (by omega)]
      cases aO : iC (r.take d.toNat) with
      | false => exact ⟨_, _, _, rfl, by simp⟩
      | true =>
        simp only [Bool.not_true, Bool.false_or]
        by_cases R : q.length < e.toNat * 256 + f.toNat
        ·have a1 : decide ((a.length : Int) < (i : Int) + 2 + (d.toNat : Int) + 2 + ((e.toNat : Int) * 256 + (f.toNat : Int))) = true := by simp; omega
         rw [a1]
         refine ⟨_, _, _, rfl, ?_⟩
         rw [if_neg (by omega)]
        ·have a1 : decide ((a.length : Int) < (i : Int) + 2 + (d.toNat : Int) + 2 + ((e.toNat : Int) * 256 + (f.toNat : Int))) = false := by simp; omega
         rw [a1, BE qz (k := 2) (n := e.toNat * 256 + f.toNat) (by simp only [List.length_cons]; omega) (by simp) (by omega) (by omega)]
         simp only [cond_false, Option.bind_some]
         have aI : ((e :: f :: q).drop 2).take (e.toNat * 256 + f.toNat) = q.take (e.toNat * 256 + f.toNat) := rfl
         rw [aI, wv _ (by rw [List.length_take]; omega)]
         simp only [Option.bind_some]
         refine ⟨_, _, _, rfl, ?_⟩
         by_cases ah : (j1 (q.take (e.toNat * 256 + f.toNat))).2 = 0
         ·rw [if_pos ⟨trivial, by omega, ah⟩]
          refine ⟨rfl, by omega, by simp [ah]⟩
         ·rw [if_neg (fun h => ah h.2.2)]
          simp [ah]
   ·have aa : ((c.toNat : Int) != 35) = true := by simp; omega
    rw [aa]
    refine ⟨_, _, _, rfl, ?_⟩
    simp only [hz, ag, if_false]
theorem wy (b : Bool) : mG [] b = some (0, [], true) := rfl
theorem te (c : UInt8) (r : List UInt8) (b : Bool) : mG (c :: r) b = some ((c.toNat : Int), r, b) := by
 unfold mG
 have h : (c :: r == ([] : List UInt8)) = false := rfl
 rw [h]
 have aa : eh (c :: r) 1 ((c :: r).length : Int) = some r := by
  unfold eh
  rw [if_pos (by simp only [List.length_cons]; omega)]
  simp
 simp only [cond_false, wq, Option.bind_some, aa]
theorem BF {α : Type} (a : List α) (n : Nat) (h : n ≤ a.length) : eh a (n : Int) (a.length : Int) = some (a.drop n) := by
 unfold eh
 rw [if_pos (by omega)]; simp
theorem NX (x : List UInt8) (h : x.length ≤ 140737488355328) : pk x = some ((j1 x).2 == 0) := by
 unfold pk
 rw [Bu x h]; rfl
theorem NY (t : List UInt8) (aG : t.length ≤ 1048576) : ∃ x n b, sN t = some (x, n, b) ∧
  (match hz t with | some (y, m) => x = y ∧ n = (m : Int) ∧ b = true | none => b = false) := by
 unfold sN
 match t, aG with
 | [], _ => exact ⟨_, _, _, rfl, rfl⟩
 | [c], _ =>
   rw [te]
   simp only [Option.bind_some, wy]
   by_cases ag : c.toNat = 35
   ·have aa : ((c.toNat : Int) != 35) = false := by simp [ag]
    rw [aa]
    exact ⟨_, _, _, rfl, rfl⟩
   ·have aa : ((c.toNat : Int) != 35) = true := by simp; omega
    rw [aa]
    exact ⟨_, _, _, rfl, rfl⟩
 | c :: d :: r, aG =>
   simp only [List.length_cons] at aG
   simp only [te, Option.bind_some]
   have NT : d.toNat < 256 := d.toNat_lt
   by_cases ag : c.toNat = 35
   ·have aa : ((c.toNat : Int) != 35) = false := by simp [ag]
    rw [aa, Bool.false_or]
    simp only [hz, ag, if_true]
    by_cases aD : r.length < d.toNat
    ·have au : decide ((r.length : Int) < (d.toNat : Int)) = true := by simp; omega
     rw [au]
     refine ⟨_, _, _, rfl, ?_⟩
     rw [List.drop_of_length_le (by omega)]
    ·have au : decide ((r.length : Int) < (d.toNat : Int)) = false := by simp; omega
     rw [au, ta r _ (by omega), BF r _ (by omega)]
     simp only [cond_false, Option.bind_some]
     match bR : r.drop d.toNat with
     | [] => simp only [wy, Option.bind_some, Bool.true_or, cond_true]; exact ⟨_, _, _, rfl, rfl⟩
     | [e] => simp only [te, wy, Option.bind_some, Bool.true_or, cond_true]; exact ⟨_, _, _, rfl, rfl⟩
     | e :: f :: q =>
       have NU := rn bR
       have NV : e.toNat < 256 := e.toNat_lt
       have NW : f.toNat < 256 := f.toNat_lt
       simp only [te, Option.bind_some, Bool.false_or, List.length_cons]
       rw [eT ((e.toNat : Int) * 256) (by omega), eT ((e.toNat : Int) * 256 + (f.toNat : Int)) (by omega)]
       have NZ : (e.toNat : Int) * 256 + (f.toNat : Int) = ((e.toNat * 256 + f.toNat : Nat) : Int) := by omega
       rw [NZ]
       by_cases R : q.length < e.toNat * 256 + f.toNat
       ·have a1 : decide ((q.length : Int) < ((e.toNat * 256 + f.toNat : Nat) : Int)) = true := by simp only [decide_eq_true_eq]; omega
        rw [a1, if_neg (by omega)]
        exact ⟨_, _, _, rfl, rfl⟩
       ·have a1 : decide ((q.length : Int) < ((e.toNat * 256 + f.toNat : Nat) : Int)) = false := by simp only [decide_eq_false_iff_not]; omega
        rw [a1, ta q _ (by omega), Bw _ (by rw [List.length_take]; omega), eT (((r.length + 1 + 1 : Nat) : Int) - (q.length : Int)) (by omega), eT _ (by omega)]
        simp only [cond_false, Option.bind_some]
        cases aO : iC (r.take d.toNat) with
        | false =>
          simp only [Bool.false_eq_true, false_and, if_false, cond_false]
          exact ⟨_, _, _, rfl, rfl⟩
        | true =>
          rw [NX _ (by rw [List.length_take]; omega)]
          simp only [cond_true, Option.bind_some]
          refine ⟨_, _, _, rfl, ?_⟩
          by_cases ah : (j1 (q.take (e.toNat * 256 + f.toNat))).2 = 0
          ·rw [if_pos ⟨trivial, by omega, ah⟩]
           exact ⟨rfl, by omega, by simp [ah]⟩
          ·rw [if_neg (fun h => ah h.2.2)]
           simp [ah]
   ·have aa : ((c.toNat : Int) != 35) = true := by simp; omega
    rw [aa, Bool.true_or]
    refine ⟨_, _, _, rfl, ?_⟩
    simp only [hz, ag, if_false]
end Go.fi
