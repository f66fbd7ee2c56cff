/- Part of a proof that a law returns true for every input. No condition. -/
import Derived.Test.YtgpmnlkgmadglaaGreatDoorUA
import Derived.Test.YtgpmnlkgmadglaaGreatDoorUB
namespace Go.eR
open Go Go.cY
def dF (p : bs) : Nat := if p.Kind = 1 ∨ p.Kind = 3 ∨ p.Kind = 4 then 1 else if p.Kind = 2 then 2 else 0
theorem xA (p : bs) : dF p ≤ 2 := by unfold dF; split <;> (try split) <;> omega
theorem QE (p : bs) (K : Bool → Option Int) (kr : ∀ b, K b = cond b (some 1) (cond (p.Kind == 2) (some 2) (some 0))) :
  cond (p.Kind == 1) (K true) (cond (p.Kind == 3) (K true) (K (p.Kind == 4))) = some (dF p : Int) := by
 simp only [kr, dF]
 by_cases af : p.Kind = 1
 ·simp [af]
 ·by_cases aF : p.Kind = 3
  ·simp [aF]
  ·by_cases a_ : p.Kind = 4
   ·simp [a_]
   ·by_cases ag : p.Kind = 2
    ·simp [ag]
    ·have aN : (p.Kind == 1) = false := by simpa using af
     have aT : (p.Kind == 3) = false := by simpa using aF
     have b2 : (p.Kind == 4) = false := by simpa using a_
     have aZ : (p.Kind == 2) = false := by simpa using ag
     simp [aN, aT, b2, aZ, af, aF, a_, ag]
theorem QF (p : bs) : zf p = some (dF p : Int) := by
 unfold zf
 exact QE p (ze p) fun _ => rfl
theorem QG (p : bs) : zt p = some (dF p : Int) := by
 unfold zt
 exact QE p (zs p) fun _ => rfl
def s5 : List bs → Nat → Bool
 | [], k => k == 0
 | p :: r, k => !(k == 0) && s5 r (k + dF p - 1)
def et : List bs → Nat → Option Nat
 | [], 0 => some 0
 | [], _ + 1 => none
 | _ :: _, 0 => some 0
 | p :: r, k + 1 => (et r (k + dF p)).map (· + 1)
theorem vd (l : List bs) : et l 0 = some 0 := by cases l <;> rfl
theorem oZ {p : bs} {r : List bs} {a k : Nat} : et (p :: r) (a + 1) = some k ↔ ∃ cL, et r (a + dF p) = some cL ∧ k = cL + 1 := by
 simp only [et, Option.map_eq_some_iff]
 constructor
 ·rintro ⟨cL, h, rfl⟩; exact ⟨cL, h, rfl⟩
 ·rintro ⟨cL, h, rfl⟩; exact ⟨cL, h, rfl⟩
theorem qV : ∀ {l : List bs} {a k : Nat}, et l a = some k → a ≤ k ∧ k ≤ l.length
 | [], 0, k, h => by simp only [et, Option.some.injEq] at h; subst h; simp
 | [], a + 1, k, h => by simp [et] at h
 | _ :: _, 0, k, h => by simp only [et, Option.some.injEq] at h; subst h; simp
 | p :: r, a + 1, k, h => by
   obtain ⟨cL, bE, rfl⟩ := oZ.1 h
   have := qV bE
   simp only [List.length_cons]; omega
theorem I_ : ∀ (l : List bs) (k : Nat), s5 l k = (et l k == some l.length)
 | [], 0 => rfl
 | [], k + 1 => rfl
 | p :: r, 0 => rfl
 | p :: r, k + 1 => by
   have e : k + 1 + dF p - 1 = k + dF p := by omega
   simp only [s5, e, I_ r (k + dF p)]
   have gh : (k + 1 == 0) = false := rfl
   rw [gh]
   simp only [Bool.not_false, Bool.true_and, et]
   cases et r (k + dF p) with
   | none => rfl
   | some n => simp
theorem xB : ∀ {l : List bs} {a b k : Nat}, et l (a + b) = some k → ∃ bt b0, et l a = some bt ∧ et (l.drop bt) b = some b0 ∧ k = bt + b0
 | l, 0, b, k, h => ⟨0, k, vd l, by simpa using h, by omega⟩
 | [], a + 1, b, k, h => by rw [show a + 1 + b = (a + b) + 1 by omega] at h; simp [et] at h
 | p :: r, a + 1, b, k, h => by
   rw [show a + 1 + b = (a + b) + 1 by omega] at h
   obtain ⟨cL, bE, rfl⟩ := oZ.1 h
   rw [show a + b + dF p = (a + dF p) + b by omega] at bE
   obtain ⟨bt, b0, af, ag, rfl⟩ := xB bE
   exact ⟨bt + 1, b0, oZ.2 ⟨bt, af, rfl⟩, by simpa using ag, by omega⟩
theorem QH : ∀ {l : List bs} {a k : Nat}, et l a = some k → ∀ i, i < k → ∃ m, 1 ≤ m ∧ et (l.drop i) m = some (k - i)
 | [], 0, k, h, i, an => by simp only [et, Option.some.injEq] at h; omega
 | [], a + 1, k, h, i, an => by simp [et] at h
 | _ :: _, 0, k, h, i, an => by simp only [et, Option.some.injEq] at h; omega
 | p :: r, a + 1, k, h, i, an => by
   cases i with
   | zero => exact ⟨a + 1, by omega, by simpa using h⟩
   | succ i =>
     obtain ⟨cL, bE, rfl⟩ := oZ.1 h
     obtain ⟨m, af, ag⟩ := QH bE i (by omega)
     exact ⟨m, af, by simp only [List.drop_succ_cons]; rw [ag]; congr 1; omega⟩
theorem aw8 {l : List bs} {a k i : Nat} (h : et l a = some k) (an : i < k) : ∃ e, et (l.drop i) 1 = some e ∧ i + e ≤ k ∧ 1 ≤ e := by
 obtain ⟨m, af, ag⟩ := QH h i an
 obtain ⟨m, rfl⟩ : ∃ j, m = 1 + j := ⟨m - 1, by omega⟩
 obtain ⟨bt, b0, aF, a_, bI⟩ := xB ag
 have := qV aF
 exact ⟨bt, aF, by omega, by omega⟩
theorem Ja {k a : Nat} (ar : 1 ≤ k) (pe : k ≤ 100000000) (bF : a ≤ 2) : IntKind.i64.wrap ((k : Int) + IntKind.i64.wrap ((a : Int) - 1)) = ((k + a - 1 : Nat) : Int) := by
 rw [fW ((a : Int) - 1) (by omega), fW _ (by omega)]; omega
theorem aw9 (e : List bs) (he : e.length ≤ 1048576) : Co e = some ((decide (1 ≤ e.length) && decide (e.length ≤ 20)) && s5 e 1) := by
 unfold Co
 by_cases hm : 1 ≤ e.length ∧ e.length ≤ 20
 ·have d1 : (((e.length : Int) == 0) || decide ((20 : Int) < (e.length : Int))) = false := by
   rw [Bool.or_eq_false_iff, beq_eq_false_iff_ne, decide_eq_false_iff_not]; omega
  have d2 : (decide (1 ≤ e.length) && decide (e.length ≤ 20)) = true := by simp; omega
  rw [d1, d2, cond_false, Bool.true_and]
  have key : ∀ i, i ≤ e.length → ∀ (k : Nat) m, k ≤ 1 + 2 * i → e.length - i < m → ub e m (k : Int) (i : Int) = some (s5 (e.drop i) k) := by
   refine down e.length ?_ ?_
   ·intro k m _ hm
    obtain ⟨m, rfl⟩ : ∃ j, m = j + 1 := ⟨m - 1, by omega⟩
    simp only [ub, Cn]
    rw [gI (Nat.le_refl _), List.drop_of_length_le (Nat.le_refl _), xz]; rfl
   ·intro i an ih k m ar hm
    obtain ⟨m, rfl⟩ : ∃ j, m = j + 1 := ⟨m - 1, by omega⟩
    simp only [ub, Cn]
    rw [hx an, fp _ i an, hg i _ an (by omega), drop_cons e i an, xz]
    simp only [cond_true, Option.bind_some, QF, s5]
    by_cases bn : k = 0
    ·subst bn; rfl
    ·have aa : (k == 0) = false := by simpa using bn
     have bF := xA e[i]
     rw [aa, Ja (by omega) (by omega) bF, ih _ m (by omega) (by omega)]
     simp only [cond_false, Bool.not_false, Bool.true_and]
  refine hE (e.length + 1) fun m hm => ?_
  have := key 0 (by omega) 1 m (by omega) (by omega)
  simpa using this
 ·have d1 : (((e.length : Int) == 0) || decide ((20 : Int) < (e.length : Int))) = true := by
   by_cases h : e.length = 0
   ·simp [h]
   ·have : decide ((20 : Int) < (e.length : Int)) = true := by simp; omega
    rw [this, Bool.or_true]
  have d2 : (decide (1 ≤ e.length) && decide (e.length ≤ 20)) = false := by
   rw [Bool.and_eq_false_iff, decide_eq_false_iff_not, decide_eq_false_iff_not]; omega
  rw [d1, d2]; rfl
def pY (i : Nat) : Option Nat → Int
 | none => -1
 | some n => ((i + n : Nat) : Int)
theorem QI (d : aS) (ai : d.Body.length ≤ 1048576) (i0 : Nat) (bn : i0 ≤ d.Body.length) : zu d (i0 : Int) = some (pY i0 (et (d.Body.drop i0) 1)) := by
 unfold zu
 have key : ∀ i, i ≤ d.Body.length → ∀ (k : Nat) m, k ≤ 1 + 2 * i → d.Body.length - i < m → uw d m (i : Int) (k : Int) = some (pY i (et (d.Body.drop i) k)) := by
  refine down d.Body.length ?_ ?_
  ·intro k m _ hm
   obtain ⟨m, rfl⟩ : ∃ j, m = j + 1 := ⟨m - 1, by omega⟩
   simp only [uw, CZ]
   rw [List.drop_of_length_le (Nat.le_refl _)]
   cases k with
   | zero => rw [Ep]; simp [et, pY]
   | succ k =>
     rw [xq (Nat.succ_pos k)]
     have : decide ((d.Body.length : Int) ≤ (d.Body.length : Int)) = true := by simp
     rw [this]; rfl
  ·intro i an ih k m ar hm
   obtain ⟨m, rfl⟩ : ∃ j, m = j + 1 := ⟨m - 1, by omega⟩
   simp only [uw, CZ]
   cases k with
   | zero => rw [Ep, vd]; simp [pY]
   | succ k =>
     have d1 : decide ((d.Body.length : Int) ≤ (i : Int)) = false := by simp; omega
     rw [xq (Nat.succ_pos k), d1, fp _ i an, hg i _ an (by omega), drop_cons _ i an]
     simp only [cond_true, cond_false, Option.bind_some, QG]
     have bF := xA d.Body[i]
     rw [Ja (by omega) (by omega) bF, ih _ m (by omega) (by omega), show k + 1 + dF d.Body[i] - 1 = k + dF d.Body[i] by omega]
     simp only [et]
     cases et (d.Body.drop (i + 1)) (k + dF d.Body[i]) with
     | none => rfl
     | some n => simp only [Option.map_some, pY]; congr 2; omega
 refine hE (d.Body.length + 1) fun m hm => ?_
 refine down d.Body.length (P := fun _ => True) trivial (fun _ _ _ => trivial) 0 (Nat.zero_le _) |> fun _ => ?_
 have bt := key i0 bn 1 m (by omega) (by omega)
 simpa using bt
theorem QJ (b : List bs) (aa : b.length ≤ 1048576) (i0 n : Nat) (h : et (b.drop i0) 1 = some n) : zh b (i0 : Int) = some ((i0 + n : Nat) : Int) := by
 unfold zh
 have bn : i0 < b.length := by
  have := qV h
  rw [List.length_drop] at this; omega
 have key : ∀ i, i ≤ b.length → ∀ (k n : Nat) m, k ≤ 1 + 2 * i → b.length - i < m → et (b.drop i) k = some n → uc b m (i : Int) (k : Int) = some ((i + n : Nat) : Int) := by
  refine down b.length ?_ ?_
  ·intro k n m _ hm he
   obtain ⟨m, rfl⟩ : ∃ j, m = j + 1 := ⟨m - 1, by omega⟩
   simp only [uc, Cq]
   rw [List.drop_of_length_le (Nat.le_refl _)] at he
   cases k with
   | zero => rw [Ep]; simp only [et, Option.some.injEq] at he; subst he; simp
   | succ k => simp [et] at he
  ·intro i an ih k n m ar hm he
   obtain ⟨m, rfl⟩ : ∃ j, m = j + 1 := ⟨m - 1, by omega⟩
   simp only [uc, Cq]
   cases k with
   | zero => rw [vd] at he; cases he; rw [Ep]; simp
   | succ k =>
     rw [drop_cons _ i an] at he
     obtain ⟨FK, nN, rfl⟩ := oZ.1 he
     rw [xq (Nat.succ_pos k), fp _ i an, hg i _ an (by omega)]
     simp only [cond_true, Option.bind_some, QF]
     have bF := xA b[i]
     rw [Ja (by omega) (by omega) bF, show k + 1 + dF b[i] - 1 = k + dF b[i] by omega, ih _ FK m (by omega) (by omega) nN]
     congr 2; omega
 refine hE (b.length + 1) fun m hm => ?_
 have bt := key i0 (by omega) 1 n m (by omega) (by omega) h
 simpa using bt
end Go.eR
