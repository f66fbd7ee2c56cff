/- Part of a proof that a law returns true for every input. No condition. -/
import Derived.Test.YtocllehpepigpaaGreatUA
import Derived.Test.YtocllehpepigpaaGreatUB
namespace Go.e1
open Go Go.dg
def eR (p : bJ) : Nat := if p.Kind = 1 ∨ p.Kind = 3 ∨ p.Kind = 4 then 1 else if p.Kind = 2 then 2 else 0
theorem wP (p : bJ) : eR p ≤ 2 := by unfold eR; split <;> (try split) <;> omega
theorem PR (p : bJ) (K : Bool → Option Int) (jN : ∀ b, K b = cond b (some 1) (cond (p.Kind == 2) (some 2) (some 0))) :
  cond (p.Kind == 1) (K true) (cond (p.Kind == 3) (K true) (K (p.Kind == 4))) = some (eR p : Int) := by
 simp only [jN, eR]
 by_cases ae : p.Kind = 1
 ·simp [ae]
 ·by_cases aH : p.Kind = 3
  ·simp [aH]
  ·by_cases a6 : p.Kind = 4
   ·simp [a6]
   ·by_cases ah : p.Kind = 2
    ·simp [ah]
    ·have aU : (p.Kind == 1) = false := by simpa using ae
     have aW : (p.Kind == 3) = false := by simpa using aH
     have cS : (p.Kind == 4) = false := by simpa using a6
     have ba : (p.Kind == 2) = false := by simpa using ah
     simp [aU, aW, cS, ba, ae, aH, a6, ah]
theorem PS (p : bJ) : yy p = some (eR p : Int) := by
 unfold yy
 exact PR p (yx p) fun _ => rfl
theorem PT (p : bJ) : yP p = some (eR p : Int) := by
 unfold yP
 exact PR p (yO p) fun _ => rfl
def r6 : List bJ → Nat → Bool
 | [], k => k == 0
 | p :: r, k => !(k == 0) && r6 r (k + eR p - 1)
def eE : List bJ → Nat → Option Nat
 | [], 0 => some 0
 | [], _ + 1 => none
 | _ :: _, 0 => some 0
 | p :: r, k + 1 => (eE r (k + eR p)).map (· + 1)
theorem zO (l : List bJ) : eE l 0 = some 0 := by cases l <;> rfl
theorem py {p : bJ} {r : List bJ} {a k : Nat} : eE (p :: r) (a + 1) = some k ↔ ∃ dA, eE r (a + eR p) = some dA ∧ k = dA + 1 := by
 simp only [eE, Option.map_eq_some_iff]
 constructor
 ·rintro ⟨dA, h, rfl⟩; exact ⟨dA, h, rfl⟩
 ·rintro ⟨dA, h, rfl⟩; exact ⟨dA, h, rfl⟩
theorem uq : ∀ {l : List bJ} {a k : Nat}, eE l a = some k → a ≤ k ∧ k ≤ l.length
 | [], 0, k, h => by simp only [eE, Option.some.injEq] at h; subst h; simp
 | [], a + 1, k, h => by simp [eE] at h
 | _ :: _, 0, k, h => by simp only [eE, Option.some.injEq] at h; subst h; simp
 | p :: r, a + 1, k, h => by
   obtain ⟨dA, bP, rfl⟩ := py.1 h
   have := uq bP
   simp only [List.length_cons]; omega
theorem Ic : ∀ (l : List bJ) (k : Nat), r6 l k = (eE l k == some l.length)
 | [], 0 => rfl
 | [], k + 1 => rfl
 | p :: r, 0 => rfl
 | p :: r, k + 1 => by
   have e : k + 1 + eR p - 1 = k + eR p := by omega
   simp only [r6, e, Ic r (k + eR p)]
   have g4 : (k + 1 == 0) = false := rfl
   rw [g4]
   simp only [Bool.not_false, Bool.true_and, eE]
   cases eE r (k + eR p) with
   | none => rfl
   | some n => simp
theorem azH : ∀ {l : List bJ} {a b k : Nat}, eE l a = some k → eE l (a + b) = (eE (l.drop k) b).map (k + ·)
 | [], 0, b, k, h => by
   simp only [eE, Option.some.injEq] at h; subst h
   rw [Nat.zero_add, List.drop_zero]; cases eE [] b <;> simp
 | [], a + 1, b, k, h => by simp [eE] at h
 | p :: r, 0, b, k, h => by
   simp only [eE, Option.some.injEq] at h; subst h
   rw [Nat.zero_add, List.drop_zero]; cases eE (p :: r) b <;> simp
 | p :: r, a + 1, b, k, h => by
   obtain ⟨dA, bP, rfl⟩ := py.1 h
   rw [show a + 1 + b = (a + b) + 1 by omega]
   simp only [eE, List.drop_succ_cons]
   rw [show a + b + eR p = (a + eR p) + b by omega, azH bP]
   cases eE (r.drop dA) b <;> simp; omega
theorem zP : ∀ {l : List bJ} {a b k : Nat}, eE l (a + b) = some k → ∃ ca cy, eE l a = some ca ∧ eE (l.drop ca) b = some cy ∧ k = ca + cy
 | l, 0, b, k, h => ⟨0, k, zO l, by simpa using h, by omega⟩
 | [], a + 1, b, k, h => by rw [show a + 1 + b = (a + b) + 1 by omega] at h; simp [eE] at h
 | p :: r, a + 1, b, k, h => by
   rw [show a + 1 + b = (a + b) + 1 by omega] at h
   obtain ⟨dA, bP, rfl⟩ := py.1 h
   rw [show a + b + eR p = (a + eR p) + b by omega] at bP
   obtain ⟨ca, cy, ae, ah, rfl⟩ := zP bP
   exact ⟨ca + 1, cy, py.2 ⟨ca, ae, rfl⟩, by simpa using ah, by omega⟩
theorem PU : ∀ {l : List bJ} {a k : Nat}, eE l a = some k → ∀ i, i < k → ∃ m, 1 ≤ m ∧ eE (l.drop i) m = some (k - i)
 | [], 0, k, h, i, au => by simp only [eE, Option.some.injEq] at h; omega
 | [], a + 1, k, h, i, au => by simp [eE] at h
 | _ :: _, 0, k, h, i, au => by simp only [eE, Option.some.injEq] at h; omega
 | p :: r, a + 1, k, h, i, au => by
   cases i with
   | zero => exact ⟨a + 1, by omega, by simpa using h⟩
   | succ i =>
     obtain ⟨dA, bP, rfl⟩ := py.1 h
     obtain ⟨m, ae, ah⟩ := PU bP i (by omega)
     exact ⟨m, ae, by simp only [List.drop_succ_cons]; rw [ah]; congr 1; omega⟩
theorem azI {l : List bJ} {a k i : Nat} (h : eE l a = some k) (au : i < k) : ∃ e, eE (l.drop i) 1 = some e ∧ i + e ≤ k ∧ 1 ≤ e := by
 obtain ⟨m, ae, ah⟩ := PU h i au
 obtain ⟨m, rfl⟩ : ∃ j, m = 1 + j := ⟨m - 1, by omega⟩
 obtain ⟨ca, cy, aH, a6, bN⟩ := zP ah
 have := uq aH
 exact ⟨ca, aH, by omega, by omega⟩
theorem Ie {k a : Nat} (aA : 1 ≤ k) (oG : k ≤ 100000000) (cJ : a ≤ 2) : IntKind.i64.wrap ((k : Int) + IntKind.i64.wrap ((a : Int) - 1)) = ((k + a - 1 : Nat) : Int) := by
 rw [fK ((a : Int) - 1) (by omega), fK _ (by omega)]; omega
theorem azJ (e : List bJ) (he : e.length ≤ 1048576) : BI e = some ((decide (1 ≤ e.length) && decide (e.length ≤ 20)) && r6 e 1) := by
 unfold BI
 by_cases hm : 1 ≤ e.length ∧ e.length ≤ 20
 ·have d1 : (((e.length : Int) == 0) || decide ((20 : Int) < (e.length : Int))) = false := by
   rw [Bool.or_eq_false_iff, beq_eq_false_iff_ne, decide_eq_false_iff_not]; omega
  have d2 : (decide (1 ≤ e.length) && decide (e.length ≤ 20)) = true := by simp; omega
  rw [d1, d2, cond_false, Bool.true_and]
  have key : ∀ i, i ≤ e.length → ∀ (k : Nat) m, k ≤ 1 + 2 * i → e.length - i < m → s6 e m (k : Int) (i : Int) = some (r6 (e.drop i) k) := by
   refine down e.length ?_ ?_
   ·intro k m _ hm
    obtain ⟨m, rfl⟩ : ∃ j, m = j + 1 := ⟨m - 1, by omega⟩
    simp only [s6, BH]
    rw [fD (Nat.le_refl _), List.drop_of_length_le (Nat.le_refl _), wO]; rfl
   ·intro i au ih k m aA hm
    obtain ⟨m, rfl⟩ : ∃ j, m = j + 1 := ⟨m - 1, by omega⟩
    simp only [s6, BH]
    rw [gT au, hW _ i au, gS i _ au (by omega), drop_cons e i au, wO]
    simp only [cond_true, Option.bind_some, PS, r6]
    by_cases bf : k = 0
    ·subst bf; rfl
    ·have ad : (k == 0) = false := by simpa using bf
     have cJ := wP e[i]
     rw [ad, Ie (by omega) (by omega) cJ, ih _ m (by omega) (by omega)]
     simp only [cond_false, Bool.not_false, Bool.true_and]
  refine i1 (e.length + 1) fun m hm => ?_
  have := key 0 (by omega) 1 m (by omega) (by omega)
  simpa using this
 ·have d1 : (((e.length : Int) == 0) || decide ((20 : Int) < (e.length : Int))) = true := by
   by_cases h : e.length = 0
   ·simp [h]
   ·have : decide ((20 : Int) < (e.length : Int)) = true := by simp; omega
    rw [this, Bool.or_true]
  have d2 : (decide (1 ≤ e.length) && decide (e.length ≤ 20)) = false := by
   rw [Bool.and_eq_false_iff, decide_eq_false_iff_not, decide_eq_false_iff_not]; omega
  rw [d1, d2]; rfl
def qa (i : Nat) : Option Nat → Int
 | none => -1
 | some n => ((i + n : Nat) : Int)
theorem azK (d : bk) (aj : d.Body.length ≤ 1048576) (kR : Nat) (bf : kR ≤ d.Body.length) : Cg d (kR : Int) = some (qa kR (eE (d.Body.drop kR) 1)) := by
 unfold Cg
 have key : ∀ i, i ≤ d.Body.length → ∀ (k : Nat) m, k ≤ 1 + 2 * i → d.Body.length - i < m → ti d m (i : Int) (k : Int) = some (qa i (eE (d.Body.drop i) k)) := by
  refine down d.Body.length ?_ ?_
  ·intro k m _ hm
   obtain ⟨m, rfl⟩ : ∃ j, m = j + 1 := ⟨m - 1, by omega⟩
   simp only [ti, Cf]
   rw [List.drop_of_length_le (Nat.le_refl _)]
   cases k with
   | zero => rw [ui]; simp [eE, qa]
   | succ k =>
     rw [wG (Nat.succ_pos k)]
     have : decide ((d.Body.length : Int) ≤ (d.Body.length : Int)) = true := by simp
     rw [this]; rfl
  ·intro i au ih k m aA hm
   obtain ⟨m, rfl⟩ : ∃ j, m = j + 1 := ⟨m - 1, by omega⟩
   simp only [ti, Cf]
   cases k with
   | zero => rw [ui, zO]; simp [qa]
   | succ k =>
     have d1 : decide ((d.Body.length : Int) ≤ (i : Int)) = false := by simp; omega
     rw [wG (Nat.succ_pos k), d1, hW _ i au, gS i _ au (by omega), drop_cons _ i au]
     simp only [cond_true, cond_false, Option.bind_some, PT]
     have cJ := wP d.Body[i]
     rw [Ie (by omega) (by omega) cJ, ih _ m (by omega) (by omega), show k + 1 + eR d.Body[i] - 1 = k + eR d.Body[i] by omega]
     simp only [eE]
     cases eE (d.Body.drop (i + 1)) (k + eR d.Body[i]) with
     | none => rfl
     | some n => simp only [Option.map_some, qa]; congr 2; omega
 refine i1 (d.Body.length + 1) fun m hm => ?_
 refine down d.Body.length (P := fun _ => True) trivial (fun _ _ _ => trivial) 0 (Nat.zero_le _) |> fun _ => ?_
 have ca := key kR bf 1 m (by omega) (by omega)
 simpa using ca
theorem azL (b : List bJ) (ad : b.length ≤ 1048576) (kR n : Nat) (h : eE (b.drop kR) 1 = some n) : BL b (kR : Int) = some ((kR + n : Nat) : Int) := by
 unfold BL
 have bf : kR < b.length := by
  have := uq h
  rw [List.length_drop] at this; omega
 have key : ∀ i, i ≤ b.length → ∀ (k n : Nat) m, k ≤ 1 + 2 * i → b.length - i < m → eE (b.drop i) k = some n → s7 b m (i : Int) (k : Int) = some ((i + n : Nat) : Int) := by
  refine down b.length ?_ ?_
  ·intro k n m _ hm he
   obtain ⟨m, rfl⟩ : ∃ j, m = j + 1 := ⟨m - 1, by omega⟩
   simp only [s7, BK]
   rw [List.drop_of_length_le (Nat.le_refl _)] at he
   cases k with
   | zero => rw [ui]; simp only [eE, Option.some.injEq] at he; subst he; simp
   | succ k => simp [eE] at he
  ·intro i au ih k n m aA hm he
   obtain ⟨m, rfl⟩ : ∃ j, m = j + 1 := ⟨m - 1, by omega⟩
   simp only [s7, BK]
   cases k with
   | zero => rw [zO] at he; cases he; rw [ui]; simp
   | succ k =>
     rw [drop_cons _ i au] at he
     obtain ⟨EZ, nt, rfl⟩ := py.1 he
     rw [wG (Nat.succ_pos k), hW _ i au, gS i _ au (by omega)]
     simp only [cond_true, Option.bind_some, PS]
     have cJ := wP b[i]
     rw [Ie (by omega) (by omega) cJ, show k + 1 + eR b[i] - 1 = k + eR b[i] by omega, ih _ EZ m (by omega) (by omega) nt]
     congr 2; omega
 refine i1 (b.length + 1) fun m hm => ?_
 have ca := key kR (by omega) 1 n m (by omega) (by omega) h
 simpa using ca
end Go.e1
