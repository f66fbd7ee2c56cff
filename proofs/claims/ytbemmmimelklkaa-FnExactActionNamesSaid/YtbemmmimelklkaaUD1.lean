/- Part of a proof that a law returns true for every input. No condition. -/
import Derived.Test.YtbemmmimelklkaaUA
import Derived.Test.YtbemmmimelklkaaUB
namespace Go.eJ
open Go Go.cB
def dI (p : bn) : Nat := if p.Kind = 1 ∨ p.Kind = 3 ∨ p.Kind = 4 then 1 else if p.Kind = 2 then 2 else 0
theorem sN (p : bn) : dI p ≤ 2 := by unfold dI; split <;> (try split) <;> omega
theorem II (p : bn) (K : Bool → Option Int) (i2 : ∀ b, K b = cond b (some 1) (cond (p.Kind == 2) (some 2) (some 0))) :
  cond (p.Kind == 1) (K true) (cond (p.Kind == 3) (K true) (K (p.Kind == 4))) = some (dI p : Int) := by
 simp only [i2, dI]
 by_cases ab : p.Kind = 1
 ·simp [ab]
 ·by_cases aF : p.Kind = 3
  ·simp [aF]
  ·by_cases bb : p.Kind = 4
   ·simp [bb]
   ·by_cases af : p.Kind = 2
    ·simp [af]
    ·have aJ : (p.Kind == 1) = false := by simpa using ab
     have a_ : (p.Kind == 3) = false := by simpa using aF
     have cD : (p.Kind == 4) = false := by simpa using bb
     have aP : (p.Kind == 2) = false := by simpa using af
     simp [aJ, a_, cD, aP, ab, aF, bb, af]
theorem IJ (p : bn) : uh p = some (dI p : Int) := by
 unfold uh
 exact II p (ug p) fun _ => rfl
theorem IK (p : bn) : uz p = some (dI p : Int) := by
 unfold uz
 exact II p (uy p) fun _ => rfl
def o_ : List bn → Nat → Bool
 | [], k => k == 0
 | p :: r, k => !(k == 0) && o_ r (k + dI p - 1)
def de : List bn → Nat → Option Nat
 | [], 0 => some 0
 | [], _ + 1 => none
 | _ :: _, 0 => some 0
 | p :: r, k + 1 => (de r (k + dI p)).map (· + 1)
theorem vD (l : List bn) : de l 0 = some 0 := by cases l <;> rfl
theorem mZ {p : bn} {r : List bn} {a k : Nat} : de (p :: r) (a + 1) = some k ↔ ∃ cE, de r (a + dI p) = some cE ∧ k = cE + 1 := by
 simp only [de, Option.map_eq_some_iff]
 constructor
 ·rintro ⟨cE, h, rfl⟩; exact ⟨cE, h, rfl⟩
 ·rintro ⟨cE, h, rfl⟩; exact ⟨cE, h, rfl⟩
theorem qV : ∀ {l : List bn} {a k : Nat}, de l a = some k → a ≤ k ∧ k ≤ l.length
 | [], 0, k, h => by simp only [de, Option.some.injEq] at h; subst h; simp
 | [], a + 1, k, h => by simp [de] at h
 | _ :: _, 0, k, h => by simp only [de, Option.some.injEq] at h; subst h; simp
 | p :: r, a + 1, k, h => by
   obtain ⟨cE, bq, rfl⟩ := mZ.1 h
   have := qV bq
   simp only [List.length_cons]; omega
theorem CD : ∀ (l : List bn) (k : Nat), o_ l k = (de l k == some l.length)
 | [], 0 => rfl
 | [], k + 1 => rfl
 | p :: r, 0 => rfl
 | p :: r, k + 1 => by
   have e : k + 1 + dI p - 1 = k + dI p := by omega
   simp only [o_, e, CD r (k + dI p)]
   have fC : (k + 1 == 0) = false := rfl
   rw [fC]
   simp only [Bool.not_false, Bool.true_and, de]
   cases de r (k + dI p) with
   | none => rfl
   | some n => simp
theorem afS : ∀ {l : List bn} {a b k : Nat}, de l a = some k → de l (a + b) = (de (l.drop k) b).map (k + ·)
 | [], 0, b, k, h => by
   simp only [de, Option.some.injEq] at h; subst h
   rw [Nat.zero_add, List.drop_zero]; cases de [] b <;> simp
 | [], a + 1, b, k, h => by simp [de] at h
 | p :: r, 0, b, k, h => by
   simp only [de, Option.some.injEq] at h; subst h
   rw [Nat.zero_add, List.drop_zero]; cases de (p :: r) b <;> simp
 | p :: r, a + 1, b, k, h => by
   obtain ⟨cE, bq, rfl⟩ := mZ.1 h
   rw [show a + 1 + b = (a + b) + 1 by omega]
   simp only [de, List.drop_succ_cons]
   rw [show a + b + dI p = (a + dI p) + b by omega, afS bq]
   cases de (r.drop cE) b <;> simp; omega
theorem vE : ∀ {l : List bn} {a b k : Nat}, de l (a + b) = some k → ∃ bN b6, de l a = some bN ∧ de (l.drop bN) b = some b6 ∧ k = bN + b6
 | l, 0, b, k, h => ⟨0, k, vD l, by simpa using h, by omega⟩
 | [], a + 1, b, k, h => by rw [show a + 1 + b = (a + b) + 1 by omega] at h; simp [de] at h
 | p :: r, a + 1, b, k, h => by
   rw [show a + 1 + b = (a + b) + 1 by omega] at h
   obtain ⟨cE, bq, rfl⟩ := mZ.1 h
   rw [show a + b + dI p = (a + dI p) + b by omega] at bq
   obtain ⟨bN, b6, ab, af, rfl⟩ := vE bq
   exact ⟨bN + 1, b6, mZ.2 ⟨bN, ab, rfl⟩, by simpa using af, by omega⟩
theorem IL : ∀ {l : List bn} {a k : Nat}, de l a = some k → ∀ i, i < k → ∃ m, 1 ≤ m ∧ de (l.drop i) m = some (k - i)
 | [], 0, k, h, i, ak => by simp only [de, Option.some.injEq] at h; omega
 | [], a + 1, k, h, i, ak => by simp [de] at h
 | _ :: _, 0, k, h, i, ak => by simp only [de, Option.some.injEq] at h; omega
 | p :: r, a + 1, k, h, i, ak => by
   cases i with
   | zero => exact ⟨a + 1, by omega, by simpa using h⟩
   | succ i =>
     obtain ⟨cE, bq, rfl⟩ := mZ.1 h
     obtain ⟨m, ab, af⟩ := IL bq i (by omega)
     exact ⟨m, ab, by simp only [List.drop_succ_cons]; rw [af]; congr 1; omega⟩
theorem afT {l : List bn} {a k i : Nat} (h : de l a = some k) (ak : i < k) : ∃ e, de (l.drop i) 1 = some e ∧ i + e ≤ k ∧ 1 ≤ e := by
 obtain ⟨m, ab, af⟩ := IL h i ak
 obtain ⟨m, rfl⟩ : ∃ j, m = 1 + j := ⟨m - 1, by omega⟩
 obtain ⟨bN, b6, aF, bb, bV⟩ := vE af
 have := qV aF
 exact ⟨bN, aF, by omega, by omega⟩
theorem CE {k a : Nat} (ay : 1 ≤ k) (pt : k ≤ 100000000) (b7 : a ≤ 2) : IntKind.i64.wrap ((k : Int) + IntKind.i64.wrap ((a : Int) - 1)) = ((k + a - 1 : Nat) : Int) := by
 rw [gh ((a : Int) - 1) (by omega), gh _ (by omega)]; omega
theorem afU (e : List bn) (he : e.length ≤ 1048576) : xn e = some ((decide (1 ≤ e.length) && decide (e.length ≤ 20)) && o_ e 1) := by
 unfold xn
 by_cases hm : 1 ≤ e.length ∧ e.length ≤ 20
 ·have d1 : (((e.length : Int) == 0) || decide ((20 : Int) < (e.length : Int))) = false := by
   rw [Bool.or_eq_false_iff, beq_eq_false_iff_ne, decide_eq_false_iff_not]; omega
  have d2 : (decide (1 ≤ e.length) && decide (e.length ≤ 20)) = true := by simp; omega
  rw [d1, d2, cond_false, Bool.true_and]
  have key : ∀ i, i ≤ e.length → ∀ (k : Nat) m, k ≤ 1 + 2 * i → e.length - i < m → qg e m (k : Int) (i : Int) = some (o_ (e.drop i) k) := by
   refine down e.length ?_ ?_
   ·intro k m _ hm
    obtain ⟨m, rfl⟩ : ∃ j, m = j + 1 := ⟨m - 1, by omega⟩
    simp only [qg, xm]
    rw [fQ (Nat.le_refl _), List.drop_of_length_le (Nat.le_refl _), sM]; rfl
   ·intro i ak ih k m ay hm
    obtain ⟨m, rfl⟩ : ∃ j, m = j + 1 := ⟨m - 1, by omega⟩
    simp only [qg, xm]
    rw [gA ak, fa _ i ak, gz i _ ak (by omega), drop_cons e i ak, sM]
    simp only [cond_true, Option.bind_some, IJ, o_]
    by_cases bh : k = 0
    ·subst bh; rfl
    ·have U : (k == 0) = false := by simpa using bh
     have b7 := sN e[i]
     rw [U, CE (by omega) (by omega) b7, ih _ m (by omega) (by omega)]
     simp only [cond_false, Bool.not_false, Bool.true_and]
  refine ho (e.length + 1) fun m hm => ?_
  have := key 0 (by omega) 1 m (by omega) (by omega)
  simpa using this
 ·have d1 : (((e.length : Int) == 0) || decide ((20 : Int) < (e.length : Int))) = true := by
   by_cases h : e.length = 0
   ·simp [h]
   ·have : decide ((20 : Int) < (e.length : Int)) = true := by simp; omega
    rw [this, Bool.or_true]
  have d2 : (decide (1 ≤ e.length) && decide (e.length ≤ 20)) = false := by
   rw [Bool.and_eq_false_iff, decide_eq_false_iff_not, decide_eq_false_iff_not]; omega
  rw [d1, d2]; rfl
def ny (i : Nat) : Option Nat → Int
 | none => -1
 | some n => ((i + n : Nat) : Int)
theorem afV (d : aV) (ah : d.Body.length ≤ 1048576) (k7 : Nat) (bh : k7 ≤ d.Body.length) : xQ d (k7 : Int) = some (ny k7 (de (d.Body.drop k7) 1)) := by
 unfold xQ
 have key : ∀ i, i ≤ d.Body.length → ∀ (k : Nat) m, k ≤ 1 + 2 * i → d.Body.length - i < m → qn d m (i : Int) (k : Int) = some (ny i (de (d.Body.drop i) k)) := by
  refine down d.Body.length ?_ ?_
  ·intro k m _ hm
   obtain ⟨m, rfl⟩ : ∃ j, m = j + 1 := ⟨m - 1, by omega⟩
   simp only [qn, xP]
   rw [List.drop_of_length_le (Nat.le_refl _)]
   cases k with
   | zero => rw [yS]; simp [de, ny]
   | succ k =>
     rw [sG (Nat.succ_pos k)]
     have : decide ((d.Body.length : Int) ≤ (d.Body.length : Int)) = true := by simp
     rw [this]; rfl
  ·intro i ak ih k m ay hm
   obtain ⟨m, rfl⟩ : ∃ j, m = j + 1 := ⟨m - 1, by omega⟩
   simp only [qn, xP]
   cases k with
   | zero => rw [yS, vD]; simp [ny]
   | succ k =>
     have d1 : decide ((d.Body.length : Int) ≤ (i : Int)) = false := by simp; omega
     rw [sG (Nat.succ_pos k), d1, fa _ i ak, gz i _ ak (by omega), drop_cons _ i ak]
     simp only [cond_true, cond_false, Option.bind_some, IK]
     have b7 := sN d.Body[i]
     rw [CE (by omega) (by omega) b7, ih _ m (by omega) (by omega), show k + 1 + dI d.Body[i] - 1 = k + dI d.Body[i] by omega]
     simp only [de]
     cases de (d.Body.drop (i + 1)) (k + dI d.Body[i]) with
     | none => rfl
     | some n => simp only [Option.map_some, ny]; congr 2; omega
 refine ho (d.Body.length + 1) fun m hm => ?_
 refine down d.Body.length (P := fun _ => True) trivial (fun _ _ _ => trivial) 0 (Nat.zero_le _) |> fun _ => ?_
 have bN := key k7 bh 1 m (by omega) (by omega)
 simpa using bN
theorem afW (b : List bn) (U : b.length ≤ 1048576) (k7 n : Nat) (h : de (b.drop k7) 1 = some n) : xq b (k7 : Int) = some ((k7 + n : Nat) : Int) := by
 unfold xq
 have bh : k7 < b.length := by
  have := qV h
  rw [List.length_drop] at this; omega
 have key : ∀ i, i ≤ b.length → ∀ (k n : Nat) m, k ≤ 1 + 2 * i → b.length - i < m → de (b.drop i) k = some n → qh b m (i : Int) (k : Int) = some ((i + n : Nat) : Int) := by
  refine down b.length ?_ ?_
  ·intro k n m _ hm he
   obtain ⟨m, rfl⟩ : ∃ j, m = j + 1 := ⟨m - 1, by omega⟩
   simp only [qh, xp]
   rw [List.drop_of_length_le (Nat.le_refl _)] at he
   cases k with
   | zero => rw [yS]; simp only [de, Option.some.injEq] at he; subst he; simp
   | succ k => simp [de] at he
  ·intro i ak ih k n m ay hm he
   obtain ⟨m, rfl⟩ : ∃ j, m = j + 1 := ⟨m - 1, by omega⟩
   simp only [qh, xp]
   cases k with
   | zero => rw [vD] at he; cases he; rw [yS]; simp
   | succ k =>
     rw [drop_cons _ i ak] at he
     obtain ⟨zX, lg, rfl⟩ := mZ.1 he
     rw [sG (Nat.succ_pos k), fa _ i ak, gz i _ ak (by omega)]
     simp only [cond_true, Option.bind_some, IJ]
     have b7 := sN b[i]
     rw [CE (by omega) (by omega) b7, show k + 1 + dI b[i] - 1 = k + dI b[i] by omega, ih _ zX m (by omega) (by omega) lg]
     congr 2; omega
 refine ho (b.length + 1) fun m hm => ?_
 have bN := key k7 (by omega) 1 n m (by omega) (by omega) h
 simpa using bN
end Go.eJ
