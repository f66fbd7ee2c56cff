/- Part of a proof that a law returns true for every input. No condition. -/
import Derived.Test.YtobljppjkklojaaUO
import Derived.Test.YtobljppjkklojaaUL0
import Derived.Test.YtobljppjkklojaaUQ
import Derived.Test.YtobljppjkklojaaP19
namespace Go.fH
open Go Go.cM
abbrev eG : List UInt8 → List UInt8 → Bool := Op.bytesLess
theorem F1 : ∀ (a b c : List UInt8), eG a b = true → eG b c = true → eG a c = true
 | [], [], c, h, _ => by simp [eG, Op.bytesLess] at h
 | [], _ :: _, [], _, h => by simp [eG, Op.bytesLess] at h
 | [], _ :: _, _ :: _, _, _ => by simp [eG, Op.bytesLess]
 | _ :: _, [], c, h, _ => by simp [eG, Op.bytesLess] at h
 | _ :: _, _ :: _, [], _, h => by simp [eG, Op.bytesLess] at h
 | x :: a, y :: b, z :: c, aa, ab => by
   have ih := F1 a b c
   simp only [eG, Op.bytesLess, Bool.or_eq_true, Bool.and_eq_true, decide_eq_true_eq, beq_iff_eq] at aa ab ih ⊢
   rcases aa with aa | ⟨rfl, aa⟩
   ·rcases ab with ab | ⟨rfl, ab⟩
    ·exact .inl (UInt8.lt_trans aa ab)
    ·exact .inl aa
   ·rcases ab with ab | ⟨rfl, ab⟩
    ·exact .inl ab
    ·exact .inr ⟨rfl, ih aa ab⟩
theorem nt : Ord eG where
 oe := ZG
 mq := F1
 og := fun a b => by
  have := FZ a b
  cases h : Op.bytesLess a b
  ·rw [h] at this
   simp only [Bool.not_false, Bool.true_eq, Bool.or_eq_true, beq_iff_eq] at this
   rcases this with h | h
   ·exact .inr (.inr h)
   ·exact .inr (.inl h.symm)
  ·exact .inl h
theorem F2 : ∀ a b : List UInt8, decide (a < b) = eG a b
 | [], [] => by simp [eG, Op.bytesLess]
 | [], _ :: _ => by simp [eG, Op.bytesLess]
 | _ :: _, [] => by simp [eG, Op.bytesLess]
 | x :: a, y :: b => by
   have ih := F2 a b
   simp only [eG, Op.bytesLess] at ih ⊢
   by_cases rA : x < y
   ·simp [rA, List.cons_lt_cons_iff]
   ·by_cases sx : y < x
    ·have cZ : x ≠ y := fun e => by subst e; exact absurd sx (UInt8.lt_irrefl _)
     simp [rA, sx, cZ, List.cons_lt_cons_iff]
    ·have e : x = y := UInt8.le_antisymm (UInt8.not_lt.1 sx) (UInt8.not_lt.1 rA)
     subst e
     simp [rA, List.cons_lt_cons_iff, ih]
theorem ZH (a b : List UInt8) : decide (a ≤ b) = !eG b a := by
 rw [← F2 b a, Bool.eq_iff_iff]
 simp only [decide_eq_true_eq, Bool.not_eq_true', decide_eq_false_iff_not, List.not_lt]
theorem zO {α : Type} (x y : α) (B : List α) : ∀ A : List α, (A ++ y :: B).set A.length x = A ++ x :: B
 | [] => rfl
 | a :: A => by simp only [List.cons_append, List.length_cons, List.set_cons_succ, zO x y B A]
theorem F3 {α : Type} (A : List α) (y : α) (B : List α) {k : Nat} (h : k = A.length) : cx (A ++ y :: B) (k : Int) = some y := by
 subst h
 rw [gT _ A.length (by simp)]
 simp
def k8 : List UInt8 := [116, 97, 117]
def rB (x : List UInt8) : List (List UInt8) → List (List UInt8)
 | [] => [x]
 | y :: r => if eG y x = true then y :: rB x r else x :: y :: r
theorem F4 (x : List UInt8) : ∀ dW : List (List UInt8), x ∉ dW → jP eG dW → rB x dW = ins eG x dW
 | [], _, _ => rfl
 | y :: r, ai, hO => by
   have ih := F4 x r (fun h => ai (by simp [h])) (List.Pairwise.tail hO)
   simp only [rB, ins]
   have cZ : ¬ x = y := fun e => ai (by simp [e])
   rcases nt.og x y with h | h | h
   ·have ab : ¬ eG y x = true := fun ab => by
     have := nt.mq _ _ _ h ab
     rw [nt.oe] at this; cases this
    rw [if_neg ab, if_pos h]
   ·exact absurd h cZ
   ·have ab : ¬ eG x y = true := fun ab => by
     have := nt.mq _ _ _ h ab
     rw [nt.oe] at this; cases this
    rw [if_pos h, if_neg ab, if_neg cZ, ih]
theorem ZI (x : List UInt8) (dW : List (List UInt8)) (ai : x ∈ dW) (hO : jP eG dW) : ins eG x dW = dW :=
 zM nt (wH nt x dW hO) hO fun y => by
  rw [wG]
  exact ⟨fun h => h.elim (fun e => e ▸ ai) id, .inr⟩
theorem ZJ (v : List (List UInt8)) (x : List UInt8) (h : v.length ≤ 4194304) : ve v x = some (ns (fun y => y == x) 0 v) := by
 unfold ve
 refine FL v (fun y => y == x) (fun m => ?_) fun i az m => ?_
 ·simp only [q0, vd]
  rw [gI (Nat.le_refl _)]; rfl
 ·simp only [q0, vd]
  rw [h0 az, gT _ i az, hZ i _ az (by omega)]
  rfl
section
variable (a : List (List UInt8)) (i : Nat) (az : i < a.length) (hl : a.length ≤ 1048576) (K : List (List UInt8) → Int → Option (List (List UInt8)))
include az hl
theorem F5 (v : List (List UInt8)) (at_ : Nat) (aG : v.length ≤ 2097152) : ∀ (ar : Nat) (y : List UInt8) (m : Nat), at_ + ar ≤ v.length → ar < m →
  mh K a m (v.take (at_ + ar) ++ y :: v.drop (at_ + ar)) (i : Int) (at_ : Int) ((at_ + ar : Nat) : Int) = K (v.take at_ ++ a[i] :: v.drop at_) ((i + 1 : Nat) : Int)
 | 0, y, m, cc, hm => by
   obtain ⟨m, rfl⟩ : ∃ ar, m = ar + 1 := ⟨m - 1, by omega⟩
   have hlen : (v.take at_).length = at_ := by rw [List.length_take]; omega
   simp only [mh, sM, sL, Nat.add_zero]
   rw [gI (Nat.le_refl _), gT _ i az, F3 _ y _ (k := at_) hlen.symm, hZ i _ az (by omega)]
   simp only [cond_false, Option.bind_some, Int.toNat_natCast]
   have := zO a[i] y (v.drop at_) (v.take at_)
   rw [hlen] at this
   rw [this]
 | ar + 1, y, m, cc, hm => by
   obtain ⟨m, rfl⟩ : ∃ ar, m = ar + 1 := ⟨m - 1, by omega⟩
   have aw : at_ + ar < v.length := by omega
   have hlen : (v.take (at_ + (ar + 1))).length = at_ + (ar + 1) := by rw [List.length_take]; omega
   have ih := F5 v at_ aG ar v[at_ + ar] m (by omega) (by omega)
   simp only [mh, sM]
   rw [h0 (by omega), YS (at_ + (ar + 1)) (by omega) (by omega), show at_ + (ar + 1) - 1 = at_ + ar by omega, F3 _ y _ (k := at_ + (ar + 1)) hlen.symm]
   have bH : cx (v.take (at_ + (ar + 1)) ++ y :: v.drop (at_ + (ar + 1))) ((at_ + ar : Nat) : Int) = some v[at_ + ar] := by
    rw [gT _ (at_ + ar) (by rw [List.length_append, hlen]; omega)]
    rw [List.getElem_append_left (by omega), List.getElem_take]
   rw [bH]
   simp only [cond_true, Option.bind_some, Int.toNat_natCast]
   have U := zO v[at_ + ar] y (v.drop (at_ + (ar + 1))) (v.take (at_ + (ar + 1)))
   rw [hlen] at U
   rw [U]
   have aJ : v.take (at_ + (ar + 1)) = v.take (at_ + ar) ++ [v[at_ + ar]] := by
    rw [show at_ + (ar + 1) = (at_ + ar) + 1 by omega, List.take_add_one, List.getElem?_eq_getElem aw]; rfl
   have aT : v.drop (at_ + ar) = v[at_ + ar] :: v.drop (at_ + (ar + 1)) := drop_cons v (at_ + ar) aw
   have bb : v.take (at_ + (ar + 1)) ++ v[at_ + ar] :: v.drop (at_ + (ar + 1)) = v.take (at_ + ar) ++ v[at_ + ar] :: v.drop (at_ + ar) := by
    rw [aJ, List.append_assoc, ← aT]; rfl
   rw [bb]
   exact ih
theorem F6 (v : List (List UInt8)) (at_ : Nat) (b1 : at_ ≤ v.length) (aG : v.length ≤ 2097152) :
  lim (fun n => mh K a n (v ++ [([] : List UInt8)]) (i : Int) (at_ : Int) (IntKind.i64.wrap (((v ++ [([] : List UInt8)]).length : Int) - 1))) = K (v.take at_ ++ a[i] :: v.drop at_) ((i + 1 : Nat) : Int) := by
 have hw : IntKind.i64.wrap (((v ++ [([] : List UInt8)]).length : Int) - 1) = (v.length : Int) := by
  rw [List.length_append, List.length_cons, List.length_nil, gH _ (by omega)]; omega
 rw [hw]
 refine h1 (v.length + 1) fun m hm => ?_
 have := F5 a i az hl K v at_ aG (v.length - at_) [] m (by omega) (by omega)
 rw [show at_ + (v.length - at_) = v.length by omega, List.take_length, List.drop_length] at this
 exact this
theorem ZK (v : List (List UInt8)) (aG : v.length ≤ 2097152) (aa : 1 ≤ v.length) :
  lim (fun n => nV K a n v (i : Int) 1) = K (v.take 1 ++ rB a[i] (v.drop 1)) ((i + 1 : Nat) : Int) := by
 have key : ∀ ar, ar ≤ v.length → ∀ m, v.length - ar < m → nV K a m v (i : Int) (ar : Int) = K (v.take ar ++ rB a[i] (v.drop ar)) ((i + 1 : Nat) : Int) := by
  refine down v.length ?_ ?_
  ·intro m hm
   obtain ⟨m, rfl⟩ : ∃ ar, m = ar + 1 := ⟨m - 1, by omega⟩
   simp only [nV, vf]
   rw [gI (Nat.le_refl _), rq (by omega) (by omega)]
   simp only [cond_false, Option.bind_some]
   rw [F6 a i az hl K v v.length (Nat.le_refl _) aG, List.drop_length]
   rfl
  ·intro ar cc ih m hm
   obtain ⟨m, rfl⟩ : ∃ ar, m = ar + 1 := ⟨m - 1, by omega⟩
   simp only [nV, vf]
   rw [h0 cc, gT _ ar cc, gT _ i az, rq (by omega) (by omega), hZ ar _ cc (by omega)]
   simp only [cond_true, Option.bind_some]
   rw [F6 a i az hl K v ar (by omega) aG, ih m (by omega), drop_cons v ar cc]
   simp only [rB]
   cases J : Op.bytesLess v[ar] a[i]
   ·rw [if_neg (by rw [show eG v[ar] a[i] = false from J]; decide)]
    rfl
   ·rw [if_pos (show eG v[ar] a[i] = true from J)]
    simp only [cond_true]
    congr 1
    rw [List.take_add_one, List.getElem?_eq_getElem cc, List.append_assoc]
    rfl
 refine h1 (v.length + 1) fun m hm => ?_
 exact key 1 aa m (by omega)
end
def kz (x : List UInt8) : Bool := !(x == k8)
theorem ZL (a : List (List UInt8)) (hl : a.length ≤ 1048576) : vh a = some (k8 :: i6 eG [] (a.filter kz)) := by
 unfold vh
 have key : ∀ i, i ≤ a.length → ∀ (dW : List (List UInt8)) m, jP eG dW → dW.length ≤ i → a.length - i < m → jo a m (k8 :: dW) (i : Int) = some (k8 :: i6 eG dW ((a.drop i).filter kz)) := by
  refine down a.length ?_ ?_
  ·intro dW m hO ZM hm
   obtain ⟨m, rfl⟩ : ∃ ar, m = ar + 1 := ⟨m - 1, by omega⟩
   simp only [jo, vg]
   rw [gI (Nat.le_refl _), List.drop_of_length_le (Nat.le_refl _)]
   rfl
  ·intro i az ih dW m hO ZM hm
   obtain ⟨m, rfl⟩ : ∃ ar, m = ar + 1 := ⟨m - 1, by omega⟩
   simp only [jo, vg, sL]
   rw [h0 az, gT _ i az, hZ i _ az (by omega)]
   simp only [cond_true, Option.bind_some]
   rw [ZJ _ _ (by simp only [List.length_cons]; omega)]
   simp only [Option.bind_some]
   rw [tt, ZK a i az hl _ (k8 :: dW) (by simp only [List.length_cons]; omega) (by simp), drop_cons a i az, List.filter_cons]
   simp only [List.take_succ_cons, List.take_zero, List.drop_succ_cons, List.drop_zero, List.cons_append, List.nil_append]
   have acf := zN (lt := eG) a[i] dW
   by_cases aP : a[i] = k8
   ·have aJ : ((k8 :: dW).any fun y => y == a[i]) = true := by simp [aP]
    have aT : kz a[i] = false := by unfold kz; simp [aP]
    rw [aJ, aT, cond_true]
    exact ih dW m hO (by omega) (by omega)
   ·have aT : kz a[i] = true := by unfold kz; simp [aP]
    rw [aT]
    by_cases jB : a[i] ∈ dW
    ·have aJ : ((k8 :: dW).any fun y => y == a[i]) = true := by
      rw [List.any_eq_true]; exact ⟨a[i], by simp [jB], by simp⟩
     rw [aJ, cond_true, ih dW m hO (by omega) (by omega)]
     show _ = some (k8 :: i6 eG (ins eG a[i] dW) _)
     rw [ZI _ dW jB hO]
    ·have aJ : ((k8 :: dW).any fun y => y == a[i]) = false := by
      rw [Bool.eq_false_iff]
      intro aj
      obtain ⟨y, bC, ZN⟩ := List.any_eq_true.1 aj
      have : y = a[i] := by simpa using ZN
      subst this
      rcases List.mem_cons.1 bC with h | h
      ·exact aP h
      ·exact jB h
     rw [aJ, cond_false, F4 _ dW jB hO, ih (ins eG a[i] dW) m (wH nt _ dW hO) (by omega) (by omega)]
     rfl
 refine h1 (a.length + 1) fun m hm => ?_
 have := key 0 (by omega) [] m List.Pairwise.nil (by simp) (by omega)
 simpa [k8] using this
theorem F7 (x : List UInt8) : ∀ dW : List (List UInt8), c8 List.length (ins eG x dW) ≤ x.length + 1 + c8 List.length dW
 | [] => by simp [ins, c8, ef]; omega
 | y :: r => by
   have ih := F7 x r
   simp only [ins]
   split
   ·simp only [c8, ef, List.length_cons]; omega
   ·split
    ·omega
    ·simp only [c8, ef, List.length_cons] at ih ⊢; omega
theorem F8 : ∀ (l dW : List (List UInt8)), c8 List.length (i6 eG dW l) ≤ c8 List.length l + c8 List.length dW
 | [], dW => by simp [i6, c8, ef]
 | x :: l, dW => by
   have aa := F8 l (ins eG x dW)
   have ab := F7 x dW
   have e : i6 eG dW (x :: l) = i6 eG (ins eG x dW) l := rfl
   rw [e]
   have aT : c8 List.length (x :: l) = x.length + 1 + c8 List.length l := by simp only [c8, ef, List.length_cons]; omega
   omega
theorem F9 (p : List UInt8 → Bool) : ∀ l : List (List UInt8), c8 List.length (l.filter p) ≤ c8 List.length l
 | [] => Nat.le_refl _
 | x :: l => by
   have ih := F9 p l
   have aT : ∀ m : List (List UInt8), c8 List.length (x :: m) = x.length + 1 + c8 List.length m := fun m => by simp only [c8, ef, List.length_cons]; omega
   rw [List.filter_cons]
   split
   ·rw [aT, aT]; omega
   ·rw [aT]; omega
def lP (l : List (List UInt8)) : List (List UInt8) := i6 eG [] (l.filter kz)
theorem ZO (l : List (List UInt8)) : c8 List.length (lP l) ≤ c8 List.length l := by
 have aa := F8 (l.filter kz) []
 have ab := F9 kz l
 have aE : c8 List.length ([] : List (List UInt8)) = 0 := rfl
 unfold lP; omega
theorem ZP (l : List (List UInt8)) : gU (k8 :: lP l) 1 (((k8 :: lP l).length : Nat) : Int) = some (lP l) := YU _ _
end Go.fH
