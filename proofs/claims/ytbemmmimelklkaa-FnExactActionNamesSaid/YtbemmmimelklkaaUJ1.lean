/- Part of a proof that a law returns true for every input. No condition. -/
import Derived.Test.YtbemmmimelklkaaUO
import Derived.Test.YtbemmmimelklkaaUL0
import Derived.Test.YtbemmmimelklkaaUQ
import Derived.Test.YtbemmmimelklkaaP4
namespace Go.eJ
open Go Go.cB
abbrev fb : List UInt8 → List UInt8 → Bool := Op.bytesLess
theorem Je : ∀ (a b c : List UInt8), fb a b = true → fb b c = true → fb a c = true
 | [], [], c, h, _ => by simp [fb, Op.bytesLess] at h
 | [], _ :: _, [], _, h => by simp [fb, Op.bytesLess] at h
 | [], _ :: _, _ :: _, _, _ => by simp [fb, Op.bytesLess]
 | _ :: _, [], c, h, _ => by simp [fb, Op.bytesLess] at h
 | _ :: _, _ :: _, [], _, h => by simp [fb, Op.bytesLess] at h
 | x :: a, y :: b, z :: c, ab, af => by
   have ih := Je a b c
   simp only [fb, Op.bytesLess, Bool.or_eq_true, Bool.and_eq_true, decide_eq_true_eq, beq_iff_eq] at ab af ih ⊢
   rcases ab with ab | ⟨rfl, ab⟩
   ·rcases af with af | ⟨rfl, af⟩
    ·exact .inl (UInt8.lt_trans ab af)
    ·exact .inl ab
   ·rcases af with af | ⟨rfl, af⟩
    ·exact .inl af
    ·exact .inr ⟨rfl, ih ab af⟩
theorem oh : Ord fb where
 pf := agC
 m3 := Je
 pg := fun a b => by
  have := Jd a b
  cases h : Op.bytesLess a b
  ·rw [h] at this
   simp only [Bool.not_false, Bool.true_eq, Bool.or_eq_true, beq_iff_eq] at this
   rcases this with h | h
   ·exact .inr (.inr h)
   ·exact .inr (.inl h.symm)
  ·exact .inl h
theorem Jf : ∀ a b : List UInt8, decide (a < b) = fb a b
 | [], [] => by simp [fb, Op.bytesLess]
 | [], _ :: _ => by simp [fb, Op.bytesLess]
 | _ :: _, [] => by simp [fb, Op.bytesLess]
 | x :: a, y :: b => by
   have ih := Jf a b
   simp only [fb, Op.bytesLess] at ih ⊢
   by_cases sQ : x < y
   ·simp [sQ, List.cons_lt_cons_iff]
   ·by_cases tP : y < x
    ·have cV : x ≠ y := fun e => by subst e; exact absurd tP (UInt8.lt_irrefl _)
     simp [sQ, tP, cV, List.cons_lt_cons_iff]
    ·have e : x = y := UInt8.le_antisymm (UInt8.not_lt.1 tP) (UInt8.not_lt.1 sQ)
     subst e
     simp [sQ, List.cons_lt_cons_iff, ih]
theorem agD (a b : List UInt8) : decide (a ≤ b) = !fb b a := by
 rw [← Jf b a, Bool.eq_iff_iff]
 simp only [decide_eq_true_eq, Bool.not_eq_true', decide_eq_false_iff_not, List.not_lt]
theorem CO {α : Type} (x y : α) (B : List α) : ∀ A : List α, (A ++ y :: B).set A.length x = A ++ x :: B
 | [] => rfl
 | a :: A => by simp only [List.cons_append, List.length_cons, List.set_cons_succ, CO x y B A]
theorem Jg {α : Type} (A : List α) (y : α) (B : List α) {k : Nat} (h : k = A.length) : b5 (A ++ y :: B) (k : Int) = some y := by
 subst h
 rw [fa _ A.length (by simp)]
 simp
def lC : List UInt8 := [116, 97, 117]
def sR (x : List UInt8) : List (List UInt8) → List (List UInt8)
 | [] => [x]
 | y :: r => if fb y x = true then y :: sR x r else x :: y :: r
theorem Jh (x : List UInt8) : ∀ ee : List (List UInt8), x ∉ ee → kg fb ee → sR x ee = ins fb x ee
 | [], _, _ => rfl
 | y :: r, au, h5 => by
   have ih := Jh x r (fun h => au (by simp [h])) (List.Pairwise.tail h5)
   simp only [sR, ins]
   have cV : ¬ x = y := fun e => au (by simp [e])
   rcases oh.pg x y with h | h | h
   ·have af : ¬ fb y x = true := fun af => by
     have := oh.m3 _ _ _ h af
     rw [oh.pf] at this; cases this
    rw [if_neg af, if_pos h]
   ·exact absurd h cV
   ·have af : ¬ fb x y = true := fun af => by
     have := oh.m3 _ _ _ h af
     rw [oh.pf] at this; cases this
    rw [if_pos h, if_neg af, if_neg cV, ih]
theorem agE (x : List UInt8) (ee : List (List UInt8)) (au : x ∈ ee) (h5 : kg fb ee) : ins fb x ee = ee :=
 CM oh (y3 oh x ee h5) h5 fun y => by
  rw [y2]
  exact ⟨fun h => h.elim (fun e => e ▸ au) id, .inr⟩
theorem agF (v : List (List UInt8)) (x : List UInt8) (h : v.length ≤ 4194304) : xE v x = some (og (fun y => y == x) 0 v) := by
 unfold xE
 refine I9 v (fun y => y == x) (fun m => ?_) fun i ak m => ?_
 ·simp only [se, xD]
  rw [fQ (Nat.le_refl _)]; rfl
 ·simp only [se, xD]
  rw [gA ak, fa _ i ak, gz i _ ak (by omega)]
  rfl
section
variable (a : List (List UInt8)) (i : Nat) (ak : i < a.length) (hl : a.length ≤ 1048576) (K : List (List UInt8) → Int → Option (List (List UInt8)))
include ak hl
theorem Ji (v : List (List UInt8)) (at_ : Nat) (aK : v.length ≤ 2097152) : ∀ (j : Nat) (y : List UInt8) (m : Nat), at_ + j ≤ v.length → j < m →
  mP K a m (v.take (at_ + j) ++ y :: v.drop (at_ + j)) (i : Int) (at_ : Int) ((at_ + j : Nat) : Int) = K (v.take at_ ++ a[i] :: v.drop at_) ((i + 1 : Nat) : Int)
 | 0, y, m, bS, hm => by
   obtain ⟨m, rfl⟩ : ∃ j, m = j + 1 := ⟨m - 1, by omega⟩
   have hlen : (v.take at_).length = at_ := by rw [List.length_take]; omega
   simp only [mP, uv, uu, Nat.add_zero]
   rw [fQ (Nat.le_refl _), fa _ i ak, Jg _ y _ (k := at_) hlen.symm, gz i _ ak (by omega)]
   simp only [cond_false, Option.bind_some, Int.toNat_natCast]
   have := CO a[i] y (v.drop at_) (v.take at_)
   rw [hlen] at this
   rw [this]
 | j + 1, y, m, bS, hm => by
   obtain ⟨m, rfl⟩ : ∃ j, m = j + 1 := ⟨m - 1, by omega⟩
   have ay : at_ + j < v.length := by omega
   have hlen : (v.take (at_ + (j + 1))).length = at_ + (j + 1) := by rw [List.length_take]; omega
   have ih := Ji v at_ aK j v[at_ + j] m (by omega) (by omega)
   simp only [mP, uv]
   rw [gA (by omega), Iv (at_ + (j + 1)) (by omega) (by omega), show at_ + (j + 1) - 1 = at_ + j by omega, Jg _ y _ (k := at_ + (j + 1)) hlen.symm]
   have bO : b5 (v.take (at_ + (j + 1)) ++ y :: v.drop (at_ + (j + 1))) ((at_ + j : Nat) : Int) = some v[at_ + j] := by
    rw [fa _ (at_ + j) (by rw [List.length_append, hlen]; omega)]
    rw [List.getElem_append_left (by omega), List.getElem_take]
   rw [bO]
   simp only [cond_true, Option.bind_some, Int.toNat_natCast]
   have aa := CO v[at_ + j] y (v.drop (at_ + (j + 1))) (v.take (at_ + (j + 1)))
   rw [hlen] at aa
   rw [aa]
   have aJ : v.take (at_ + (j + 1)) = v.take (at_ + j) ++ [v[at_ + j]] := by
    rw [show at_ + (j + 1) = (at_ + j) + 1 by omega, List.take_add_one, List.getElem?_eq_getElem ay]; rfl
   have aP : v.drop (at_ + j) = v[at_ + j] :: v.drop (at_ + (j + 1)) := drop_cons v (at_ + j) ay
   have a_ : v.take (at_ + (j + 1)) ++ v[at_ + j] :: v.drop (at_ + (j + 1)) = v.take (at_ + j) ++ v[at_ + j] :: v.drop (at_ + j) := by
    rw [aJ, List.append_assoc, ← aP]; rfl
   rw [a_]
   exact ih
theorem Jj (v : List (List UInt8)) (at_ : Nat) (b7 : at_ ≤ v.length) (aK : v.length ≤ 2097152) :
  lim (fun n => mP K a n (v ++ [([] : List UInt8)]) (i : Int) (at_ : Int) (IntKind.i64.wrap (((v ++ [([] : List UInt8)]).length : Int) - 1))) = K (v.take at_ ++ a[i] :: v.drop at_) ((i + 1 : Nat) : Int) := by
 have hw : IntKind.i64.wrap (((v ++ [([] : List UInt8)]).length : Int) - 1) = (v.length : Int) := by
  rw [List.length_append, List.length_cons, List.length_nil, gh _ (by omega)]; omega
 rw [hw]
 refine ho (v.length + 1) fun m hm => ?_
 have := Ji a i ak hl K v at_ aK (v.length - at_) [] m (by omega) (by omega)
 rw [show at_ + (v.length - at_) = v.length by omega, List.take_length, List.drop_length] at this
 exact this
theorem agG (v : List (List UInt8)) (aK : v.length ≤ 2097152) (ab : 1 ≤ v.length) :
  lim (fun n => o3 K a n v (i : Int) 1) = K (v.take 1 ++ sR a[i] (v.drop 1)) ((i + 1 : Nat) : Int) := by
 have key : ∀ j, j ≤ v.length → ∀ m, v.length - j < m → o3 K a m v (i : Int) (j : Int) = K (v.take j ++ sR a[i] (v.drop j)) ((i + 1 : Nat) : Int) := by
  refine down v.length ?_ ?_
  ·intro m hm
   obtain ⟨m, rfl⟩ : ∃ j, m = j + 1 := ⟨m - 1, by omega⟩
   simp only [o3, xF]
   rw [fQ (Nat.le_refl _), yT (by omega) (by omega)]
   simp only [cond_false, Option.bind_some]
   rw [Jj a i ak hl K v v.length (Nat.le_refl _) aK, List.drop_length]
   rfl
  ·intro j bS ih m hm
   obtain ⟨m, rfl⟩ : ∃ j, m = j + 1 := ⟨m - 1, by omega⟩
   simp only [o3, xF]
   rw [gA bS, fa _ j bS, fa _ i ak, yT (by omega) (by omega), gz j _ bS (by omega)]
   simp only [cond_true, Option.bind_some]
   rw [Jj a i ak hl K v j (by omega) aK, ih m (by omega), drop_cons v j bS]
   simp only [sR]
   cases U : Op.bytesLess v[j] a[i]
   ·rw [if_neg (by rw [show fb v[j] a[i] = false from U]; decide)]
    rfl
   ·rw [if_pos (show fb v[j] a[i] = true from U)]
    simp only [cond_true]
    congr 1
    rw [List.take_add_one, List.getElem?_eq_getElem bS, List.append_assoc]
    rfl
 refine ho (v.length + 1) fun m hm => ?_
 exact key 1 ab m (by omega)
end
def mg (x : List UInt8) : Bool := !(x == lC)
theorem agH (a : List (List UInt8)) (hl : a.length ≤ 1048576) : xH a = some (lC :: ju fb [] (a.filter mg)) := by
 unfold xH
 have key : ∀ i, i ≤ a.length → ∀ (ee : List (List UInt8)) m, kg fb ee → ee.length ≤ i → a.length - i < m → jP a m (lC :: ee) (i : Int) = some (lC :: ju fb ee ((a.drop i).filter mg)) := by
  refine down a.length ?_ ?_
  ·intro ee m h5 agI hm
   obtain ⟨m, rfl⟩ : ∃ j, m = j + 1 := ⟨m - 1, by omega⟩
   simp only [jP, xG]
   rw [fQ (Nat.le_refl _), List.drop_of_length_le (Nat.le_refl _)]
   rfl
  ·intro i ak ih ee m h5 agI hm
   obtain ⟨m, rfl⟩ : ∃ j, m = j + 1 := ⟨m - 1, by omega⟩
   simp only [jP, xG, uu]
   rw [gA ak, fa _ i ak, gz i _ ak (by omega)]
   simp only [cond_true, Option.bind_some]
   rw [agF _ _ (by simp only [List.length_cons]; omega)]
   simp only [Option.bind_some]
   rw [I8, agG a i ak hl _ (lC :: ee) (by simp only [List.length_cons]; omega) (by simp), drop_cons a i ak, List.filter_cons]
   simp only [List.take_succ_cons, List.take_zero, List.drop_succ_cons, List.drop_zero, List.cons_append, List.nil_append]
   have ai3 := CN (lt := fb) a[i] ee
   by_cases aZ : a[i] = lC
   ·have aJ : ((lC :: ee).any fun y => y == a[i]) = true := by simp [aZ]
    have aP : mg a[i] = false := by unfold mg; simp [aZ]
    rw [aJ, aP, cond_true]
    exact ih ee m h5 (by omega) (by omega)
   ·have aP : mg a[i] = true := by unfold mg; simp [aZ]
    rw [aP]
    by_cases j4 : a[i] ∈ ee
    ·have aJ : ((lC :: ee).any fun y => y == a[i]) = true := by
      rw [List.any_eq_true]; exact ⟨a[i], by simp [j4], by simp⟩
     rw [aJ, cond_true, ih ee m h5 (by omega) (by omega)]
     show _ = some (lC :: ju fb (ins fb a[i] ee) _)
     rw [agE _ ee j4 h5]
    ·have aJ : ((lC :: ee).any fun y => y == a[i]) = false := by
      rw [Bool.eq_false_iff]
      intro al
      obtain ⟨y, bC, agJ⟩ := List.any_eq_true.1 al
      have : y = a[i] := by simpa using agJ
      subst this
      rcases List.mem_cons.1 bC with h | h
      ·exact aZ h
      ·exact j4 h
     rw [aJ, cond_false, Jh _ ee j4 h5, ih (ins fb a[i] ee) m (y3 oh _ ee h5) (by omega) (by omega)]
     rfl
 refine ho (a.length + 1) fun m hm => ?_
 have := key 0 (by omega) [] m List.Pairwise.nil (by simp) (by omega)
 simpa [lC] using this
theorem Jk (x : List UInt8) : ∀ ee : List (List UInt8), cT List.length (ins fb x ee) ≤ x.length + 1 + cT List.length ee
 | [] => by simp [ins, cT, e1]; omega
 | y :: r => by
   have ih := Jk x r
   simp only [ins]
   split
   ·simp only [cT, e1, List.length_cons]; omega
   ·split
    ·omega
    ·simp only [cT, e1, List.length_cons] at ih ⊢; omega
theorem Jl : ∀ (l ee : List (List UInt8)), cT List.length (ju fb ee l) ≤ cT List.length l + cT List.length ee
 | [], ee => by simp [ju, cT, e1]
 | x :: l, ee => by
   have ab := Jl l (ins fb x ee)
   have af := Jk x ee
   have e : ju fb ee (x :: l) = ju fb (ins fb x ee) l := rfl
   rw [e]
   have aP : cT List.length (x :: l) = x.length + 1 + cT List.length l := by simp only [cT, e1, List.length_cons]; omega
   omega
theorem Jm (p : List UInt8 → Bool) : ∀ l : List (List UInt8), cT List.length (l.filter p) ≤ cT List.length l
 | [] => Nat.le_refl _
 | x :: l => by
   have ih := Jm p l
   have aP : ∀ m : List (List UInt8), cT List.length (x :: m) = x.length + 1 + cT List.length m := fun m => by simp only [cT, e1, List.length_cons]; omega
   rw [List.filter_cons]
   split
   ·rw [aP, aP]; omega
   ·rw [aP]; omega
def m1 (l : List (List UInt8)) : List (List UInt8) := ju fb [] (l.filter mg)
theorem agK (l : List (List UInt8)) : cT List.length (m1 l) ≤ cT List.length l := by
 have ab := Jl (l.filter mg) []
 have af := Jm mg l
 have aF : cT List.length ([] : List (List UInt8)) = 0 := rfl
 unfold m1; omega
theorem agL (l : List (List UInt8)) : hS (lC :: m1 l) 1 (((lC :: m1 l).length : Nat) : Int) = some (m1 l) := afl _ _
end Go.eJ
