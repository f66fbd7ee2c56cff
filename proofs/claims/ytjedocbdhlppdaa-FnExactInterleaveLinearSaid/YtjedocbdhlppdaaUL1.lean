/- Part of a proof that a law returns true for every input. No condition. -/
import Derived.Test.YtjedocbdhlppdaaUA
import Derived.Test.YtjedocbdhlppdaaUB
import Derived.Test.YtjedocbdhlppdaaUL0
namespace Go.gV
open Go Go.dp
def nP (p : Int) (s : List Int) : Int := s.foldl (fun p n => IntKind.i64.wrap (p * IntKind.i64.wrap (n + 1))) p
def r0 (v : Int) : Bool := decide (v ≤ 4096)
def nQ (s : List Int) : Bool := decide (s.length ≤ 8) && (s.all (fun n => h7 n 1 7) && r0 (nP 1 s))
def o_ : List UInt8 := [116, 97, 117]
def qq (s : List UInt8) : Bool := rZ s && !(s == o_)
def l6 (es : List (List aA)) (v : Int) : Bool := es.all fun e => kH e v 60
def mA (x : aY) (p : Int) : Bool :=
 nQ x.bo && (kH x.Guard (p + x.bo.length) 60 && ((x.Next.length : Int) == p && ((if x.Name = o_ then decide (x.bH.length = 0) else qq x.Name && decide (x.bH.length ≤ 2)) &&
  (l6 x.bH (p + x.bo.length) && l6 x.Next (p + x.bo.length)))))
def qs (s : List Int) (p : Int) : Bool := (s.length : Int) == p && s.all (fun n => h7 n 0 63)
def jC (l : bc) : Bool := h7 l.aV 0 21 && (qs l.Start l.aV && (decide (l.bG.length ≤ 60) && l.bG.all fun x => mA x l.aV))
theorem Kn (p : Int) : nP p [] = p := rfl
theorem Ko (p n : Int) (s : List Int) : nP p (n :: s) = nP (IntKind.i64.wrap (p * IntKind.i64.wrap (n + 1))) s := rfl
theorem wJ (n cW au : Int) : (decide (cW ≤ n) && decide (n ≤ au)) = h7 n cW au := rfl
theorem Kp : ∀ (s : List Int) (p : Int), s.all (fun n => h7 n 1 7) = true → 1 ≤ p → p * 8 ^ s.length ≤ 1099511627776 → 1 ≤ nP p s
 | [], p, _, h, _ => h
 | n :: s, p, bX, h, U => by
   simp only [List.all_cons, Bool.and_eq_true, h7, decide_eq_true_eq] at bX
   obtain ⟨⟨ag, ah⟩, aM⟩ := bX
   have a1 : IntKind.i64.wrap (n + 1) = n + 1 := hi _ (by omega)
   have aiu : (1 : Int) ≤ 8 ^ s.length := by
    have : (0 : Int) < 8 ^ s.length := Int.pow_pos (by decide)
    omega
   have aiv : p * 8 * 8 ^ s.length ≤ 1099511627776 := by
    have : p * 8 * 8 ^ s.length = p * 8 ^ (n :: s).length := by rw [List.length_cons, Int.pow_succ, Int.mul_assoc, Int.mul_comm 8]
    rw [this]; exact U
   have hle : p * (n + 1) ≤ p * 8 := Int.mul_le_mul_of_nonneg_left (by omega) (by omega)
   have ali : p * 8 * 1 ≤ p * 8 * 8 ^ s.length := Int.mul_le_mul_of_nonneg_left aiu (by omega)
   have sd : p * 1 ≤ p * (n + 1) := Int.mul_le_mul_of_nonneg_left (by omega) (by omega)
   have bg : IntKind.i64.wrap (p * (n + 1)) = p * (n + 1) := hi _ (by omega)
   simp only [nP, List.foldl_cons, a1, bg]
   refine Kp s (p * (n + 1)) (by simpa [h7] using aM) (by omega) ?_
   exact Int.le_trans (Int.mul_le_mul_of_nonneg_right hle (by omega)) aiv
def zR (v : Int) (s : List Int) : Int := cond (s.all fun n => h7 n 1 7) (cond (r0 (nP v s)) (nP v s) 0) 0
theorem aiw (v : Int) : decide (4096 < v) = !r0 v := by
 unfold r0
 by_cases h : v ≤ 4096
 ·have : ¬ 4096 < v := by omega
  simp [h, this]
 ·have : 4096 < v := by omega
  simp [h, this]
theorem aix (s : List Int) (h : s.length ≤ 1048576) : ∃ n, x4 s = some n ∧ (n == 0) = !nQ s := by
 unfold x4
 by_cases eB : s.length ≤ 8
 ·have d : decide ((8 : Int) < (s.length : Int)) = false := by simp only [decide_eq_false_iff_not]; omega
  rw [d, cond_false]
  have key : ∀ i, i ≤ s.length → ∀ (v : Int) m, s.length - i < m → rb s m v (i : Int) = some (zR v (s.drop i)) := by
   refine down s.length ?_ ?_
   ·intro v m hm
    obtain ⟨m, rfl⟩ : ∃ aK, m = aK + 1 := ⟨m - 1, by omega⟩
    simp only [rb, x3]
    rw [fe (Nat.le_refl _), List.drop_of_length_le (Nat.le_refl _), aiw]
    simp only [zR, List.all_nil, cond_true, cond_false, Kn]
    cases r0 v <;> rfl
   ·intro i au ih v m hm
    obtain ⟨m, rfl⟩ : ∃ aK, m = aK + 1 := ⟨m - 1, by omega⟩
    simp only [rb, x3, nC]
    rw [gj au, gE _ i au, gi i _ au (by omega), drop_cons s i au]
    simp only [cond_true, Option.bind_some]
    rw [ih _ m (by omega)]
    simp only [wJ, zR, List.all_cons, Ko]
    cases h7 s[i] 1 7
    ·rfl
    ·rfl
  refine ⟨_, i7 (s.length + 1) fun m hm => by have := key 0 (by omega) 1 m (by omega); simpa using this, ?_⟩
  unfold nQ zR
  have d8 : decide (s.length ≤ 8) = true := by simpa using eB
  rw [d8, Bool.true_and]
  cases bX : s.all (fun n => h7 n 1 7)
  ·rfl
  ·have ay := Kp s 1 bX (by omega) (by
    have : ∀ k : Nat, k ≤ 8 → (8 : Int) ^ k ≤ 16777216 := by decide
    have := this s.length eB
    omega)
   cases hw : r0 (nP 1 s)
   ·rfl
   ·have : (nP 1 s == 0) = false := by simp; omega
    simpa using this
 ·have d : decide ((8 : Int) < (s.length : Int)) = true := by simp only [decide_eq_true_eq]; omega
  rw [d, cond_true]
  refine ⟨0, rfl, ?_⟩
  unfold nQ
  have d8 : decide (s.length ≤ 8) = false := by simpa using eB
  rw [d8]; rfl
theorem aiy (x : aY) (h : x.bo.length ≤ 1048576) : yp x = some (nQ x.bo) := by
 unfold yp
 have key : ∀ i, i ≤ x.bo.length → ∀ (v : Int) m, x.bo.length - i < m → rm x m v (i : Int) = some ((x.bo.drop i).all (fun n => h7 n 1 7) && (decide (x.bo.length ≤ 8) && r0 (nP v (x.bo.drop i)))) := by
  refine down x.bo.length ?_ ?_
  ·intro v m hm
   obtain ⟨m, rfl⟩ : ∃ aK, m = aK + 1 := ⟨m - 1, by omega⟩
   simp only [rm, yo]
   rw [fe (Nat.le_refl _), List.drop_of_length_le (Nat.le_refl _)]
   have : decide ((x.bo.length : Int) ≤ 8) = decide (x.bo.length ≤ 8) := by
    by_cases h : x.bo.length ≤ 8
    ·have bN : (x.bo.length : Int) ≤ 8 := by omega
     simp [h, bN]
    ·have bN : ¬ (x.bo.length : Int) ≤ 8 := by omega
     simp [h, bN]
   rw [this]
   simp only [cond_false, List.all_nil, Bool.true_and, Kn]
   rfl
  ·intro i au ih v m hm
   obtain ⟨m, rfl⟩ : ∃ aK, m = aK + 1 := ⟨m - 1, by omega⟩
   simp only [rm, yo, mn]
   rw [gj au, gE _ i au, gi i _ au (by omega), drop_cons x.bo i au]
   simp only [cond_true, Option.bind_some, List.all_cons]
   rw [ih _ m (by omega)]
   simp only [wJ, Ko]
   cases h7 x.bo[i] 1 7 <;> simp
 refine i7 (x.bo.length + 1) fun m hm => ?_
 have := key 0 (by omega) 1 m (by omega)
 rw [List.drop_zero] at this
 refine this.trans ?_
 unfold nQ
 cases x.bo.all (fun n => h7 n 1 7) <;> simp
theorem Kq (es : List (List aA)) (v : Int) (aQ : -1000000 ≤ v ∧ v ≤ 1000000) (h : es.length ≤ 1048576) (he : ∀ e ∈ es, e.length ≤ 1048576) : rf es v = some (l6 es v) := by
 unfold rf l6
 refine Dn es (fun e => kH e v 60) (fun m => ?_) fun i au m => ?_
 ·simp only [th, x7]; rw [fe (Nat.le_refl _)]; rfl
 ·simp only [th, x7]
  rw [gj au, gE _ i au, gi i _ au (by omega)]
  simp only [cond_true, Option.bind_some, Km _ v 60 aQ (he _ (List.getElem_mem au))]
  cases kH es[i] v 60 <;> rfl
theorem aiz (s : List UInt8) : x_ s = some (qq s) := by
 unfold x_; rw [aiq]; rfl
theorem aiA (s : List UInt8) (ab : s.length ≤ 140737488355328) : vl s = some (qq s) := by
 unfold vl; rw [air s ab]; rfl
def ou (e : List (List aA)) : Prop := e.length ≤ 1048576 ∧ ∀ t ∈ e, t.length ≤ 1048576
def wK (x : aY) : Prop := x.bo.length ≤ 1048576 ∧ x.Guard.length ≤ 1048576 ∧ x.Name.length ≤ 1048576 ∧ ou x.bH ∧ ou x.Next
def k5 (l : bc) : Prop := l.Start.length ≤ 1048576 ∧ l.bG.length ≤ 1048576 ∧ ∀ x ∈ l.bG, wK x
def alj (x : aY) : Bool := if x.Name = o_ then decide (x.bH.length = 0) else qq x.Name && decide (x.bH.length ≤ 2)
theorem Kr {s : List UInt8} (h : s = o_) : (s == ([116, 97, 117] : List UInt8)) = true := by subst h; rfl
theorem Ks {s : List UInt8} (h : s ≠ o_) : (s == ([116, 97, 117] : List UInt8)) = false := by simpa [o_] using h
theorem aiB (x : aY) (p : Int) (ay : 0 ≤ p ∧ p ≤ 21) (aw : wK x) : ya x p = some (mA x p) := by
 obtain ⟨ag, ah, aM, bd, bI⟩ := aw
 unfold ya mA
 obtain ⟨n, a1, bg⟩ := aix x.bo ag
 rw [a1]
 simp only [Option.bind_some, bg]
 cases ab : nQ x.bo
 ·rfl
 ·have eB : x.bo.length ≤ 8 := by simp only [nQ, Bool.and_eq_true, decide_eq_true_eq] at ab; exact ab.1
  have hw : IntKind.i64.wrap (p + (x.bo.length : Int)) = p + (x.bo.length : Int) := hi (p + (x.bo.length : Int)) ⟨by omega, by omega⟩
  simp only [hw, Km x.Guard (p + (x.bo.length : Int)) 60 (by omega) ah, Kq x.bH (p + (x.bo.length : Int)) (by omega) bd.1 bd.2, Kq x.Next (p + (x.bo.length : Int)) (by omega) bI.1 bI.2, aiz, Option.bind_some, Bool.not_true, cond_false, Bool.true_and]
  cases kH x.Guard (p + (x.bo.length : Int)) 60
  ·rfl
  ·cases bh : (x.Next.length : Int) == p
   ·have : ((x.Next.length : Int) != p) = true := by simp only [bne, bh]; rfl
    rw [this]; rfl
   ·have : ((x.Next.length : Int) != p) = false := by simp only [bne, bh]; rfl
    rw [this]
    simp only [Bool.not_true, Bool.or_self, cond_false, Bool.true_and]
    by_cases a3 : x.Name = o_
    ·rw [Kr a3, if_pos a3]
     simp only [cond_true, Bool.not_true, cond_false]
     by_cases bX : x.bH.length = 0
     ·have d1 : decide ((0 : Int) < (x.bH.length : Int)) = false := by simp only [decide_eq_false_iff_not]; omega
      have d2 : decide ((2 : Int) < (x.bH.length : Int)) = false := by simp only [decide_eq_false_iff_not]; omega
      have d3 : decide (x.bH.length = 0) = true := by simpa using bX
      rw [d1, d2, d3]
      cases l6 x.bH (p + (x.bo.length : Int)) <;> cases l6 x.Next (p + (x.bo.length : Int)) <;> rfl
     ·have d1 : decide ((0 : Int) < (x.bH.length : Int)) = true := by simp only [decide_eq_true_eq]; omega
      have d3 : decide (x.bH.length = 0) = false := by simpa using bX
      rw [d1, d3]; rfl
    ·rw [Ks a3, if_neg a3]
     simp only [Bool.not_false, cond_true, cond_false]
     cases qq x.Name
     ·rfl
     ·by_cases bX : x.bH.length ≤ 2
      ·have d2 : decide ((2 : Int) < (x.bH.length : Int)) = false := by simp only [decide_eq_false_iff_not]; omega
       have d3 : decide (x.bH.length ≤ 2) = true := by simpa using bX
       rw [d2, d3]
       cases l6 x.bH (p + (x.bo.length : Int)) <;> cases l6 x.Next (p + (x.bo.length : Int)) <;> rfl
      ·have d2 : decide ((2 : Int) < (x.bH.length : Int)) = true := by simp only [decide_eq_true_eq]; omega
       have d3 : decide (x.bH.length ≤ 2) = false := by simpa using bX
       rw [d2, d3]; rfl
theorem aiC (s : List Int) (p : Int) (h : s.length ≤ 1048576) : x2 s p = some (qs s p) := by
 unfold x2 qs
 have e : x1 s = some (s.all fun n => h7 n 0 63) := by
  unfold x1
  refine Dn s (fun n => h7 n 0 63) (fun m => ?_) fun i au m => ?_
  ·simp only [tg, x0]; rw [fe (Nat.le_refl _)]; rfl
  ·simp only [tg, x0, nC]
   rw [gj au, gE _ i au, gi i _ au (by omega)]
   simp only [cond_true, Option.bind_some, wJ]
   cases h7 s[i] 0 63 <;> rfl
 rw [e]
 cases (s.length : Int) == p <;> rfl
theorem Dr (l : bc) (h : k5 l) : tk l = some (jC l) := by
 unfold tk jC nC
 simp only [Option.bind_some, wJ]
 rw [aiC _ _ h.1]
 simp only [Option.bind_some]
 cases ay : h7 l.aV 0 21
 ·rfl
 ·cases qs l.Start l.aV
  ·rfl
  ·simp only [Bool.not_true, cond_false, Bool.false_or, Bool.true_and]
   have dP : 0 ≤ l.aV ∧ l.aV ≤ 21 := by simpa [h7] using ay
   by_cases wL : l.bG.length ≤ 60
   ·have d1 : decide ((60 : Int) < (l.bG.length : Int)) = false := by simp only [decide_eq_false_iff_not]; omega
    have d2 : decide (l.bG.length ≤ 60) = true := by simpa using wL
    rw [d1, d2, cond_false, Bool.true_and]
    refine Dn l.bG (fun x => mA x l.aV) (fun m => ?_) fun i au m => ?_
    ·simp only [tj, yb]; rw [fe (Nat.le_refl _)]; rfl
    ·simp only [tj, yb]
     rw [gj au, gE _ i au, gi i _ au (by omega)]
     simp only [cond_true, Option.bind_some, aiB _ _ dP (h.2.2 _ (List.getElem_mem au))]
     cases mA l.bG[i] l.aV <;> rfl
   ·have d1 : decide ((60 : Int) < (l.bG.length : Int)) = true := by simp only [decide_eq_true_eq]; omega
    have d2 : decide (l.bG.length ≤ 60) = false := by simpa using wL
    rw [d1, d2]; rfl
end Go.gV
