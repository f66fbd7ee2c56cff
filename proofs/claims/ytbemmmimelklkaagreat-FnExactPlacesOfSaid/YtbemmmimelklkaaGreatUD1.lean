/- Part of a proof that a law returns true for every input. No condition. -/
import Derived.Test.YtbemmmimelklkaaGreatUA
import Derived.Test.YtbemmmimelklkaaGreatUB
namespace Go.fJ
open Go Go.dg
def eE (p : bx) : Nat := if p.Kind = 1 ∨ p.Kind = 3 ∨ p.Kind = 4 then 1 else if p.Kind = 2 then 2 else 0
theorem vw (p : bx) : eE p ≤ 2 := by unfold eE; split <;> (try split) <;> omega
theorem M1 (p : bx) (K : Bool → Option Int) (jc : ∀ b, K b = cond b (some 1) (cond (p.Kind == 2) (some 2) (some 0))) :
  cond (p.Kind == 1) (K true) (cond (p.Kind == 3) (K true) (K (p.Kind == 4))) = some (eE p : Int) := by
 simp only [jc, eE]
 by_cases ai : p.Kind = 1
 ·simp [ai]
 ·by_cases aP : p.Kind = 3
  ·simp [aP]
  ·by_cases bb : p.Kind = 4
   ·simp [bb]
   ·by_cases aj : p.Kind = 2
    ·simp [aj]
    ·have a4 : (p.Kind == 1) = false := by simpa using ai
     have a3 : (p.Kind == 3) = false := by simpa using aP
     have c1 : (p.Kind == 4) = false := by simpa using bb
     have a_ : (p.Kind == 2) = false := by simpa using aj
     simp [a4, a3, c1, a_, ai, aP, bb, aj]
theorem M3 (p : bx) : xa p = some (eE p : Int) := by
 unfold xa
 exact M1 p (w_ p) fun _ => rfl
theorem M4 (p : bx) : xq p = some (eE p : Int) := by
 unfold xq
 exact M1 p (xp p) fun _ => rfl
def q4 : List bx → Nat → Bool
 | [], k => k == 0
 | p :: r, k => !(k == 0) && q4 r (k + eE p - 1)
def eg : List bx → Nat → Option Nat
 | [], 0 => some 0
 | [], _ + 1 => none
 | _ :: _, 0 => some 0
 | p :: r, k + 1 => (eg r (k + eE p)).map (· + 1)
theorem yA (l : List bx) : eg l 0 = some 0 := by cases l <;> rfl
theorem oF {p : bx} {r : List bx} {a k : Nat} : eg (p :: r) (a + 1) = some k ↔ ∃ dd, eg r (a + eE p) = some dd ∧ k = dd + 1 := by
 simp only [eg, Option.map_eq_some_iff]
 constructor
 ·rintro ⟨dd, h, rfl⟩; exact ⟨dd, h, rfl⟩
 ·rintro ⟨dd, h, rfl⟩; exact ⟨dd, h, rfl⟩
theorem s9 : ∀ {l : List bx} {a k : Nat}, eg l a = some k → a ≤ k ∧ k ≤ l.length
 | [], 0, k, h => by simp only [eg, Option.some.injEq] at h; subst h; simp
 | [], a + 1, k, h => by simp [eg] at h
 | _ :: _, 0, k, h => by simp only [eg, Option.some.injEq] at h; subst h; simp
 | p :: r, a + 1, k, h => by
   obtain ⟨dd, bB, rfl⟩ := oF.1 h
   have := s9 bB
   simp only [List.length_cons]; omega
theorem Gb : ∀ (l : List bx) (k : Nat), q4 l k = (eg l k == some l.length)
 | [], 0 => rfl
 | [], k + 1 => rfl
 | p :: r, 0 => rfl
 | p :: r, k + 1 => by
   have e : k + 1 + eE p - 1 = k + eE p := by omega
   simp only [q4, e, Gb r (k + eE p)]
   have gu : (k + 1 == 0) = false := rfl
   rw [gu]
   simp only [Bool.not_false, Bool.true_and, eg]
   cases eg r (k + eE p) with
   | none => rfl
   | some n => simp
theorem atr : ∀ {l : List bx} {a b k : Nat}, eg l a = some k → eg l (a + b) = (eg (l.drop k) b).map (k + ·)
 | [], 0, b, k, h => by
   simp only [eg, Option.some.injEq] at h; subst h
   rw [Nat.zero_add, List.drop_zero]; cases eg [] b <;> simp
 | [], a + 1, b, k, h => by simp [eg] at h
 | p :: r, 0, b, k, h => by
   simp only [eg, Option.some.injEq] at h; subst h
   rw [Nat.zero_add, List.drop_zero]; cases eg (p :: r) b <;> simp
 | p :: r, a + 1, b, k, h => by
   obtain ⟨dd, bB, rfl⟩ := oF.1 h
   rw [show a + 1 + b = (a + b) + 1 by omega]
   simp only [eg, List.drop_succ_cons]
   rw [show a + b + eE p = (a + eE p) + b by omega, atr bB]
   cases eg (r.drop dd) b <;> simp; omega
theorem yB : ∀ {l : List bx} {a b k : Nat}, eg l (a + b) = some k → ∃ b8 cu, eg l a = some b8 ∧ eg (l.drop b8) b = some cu ∧ k = b8 + cu
 | l, 0, b, k, h => ⟨0, k, yA l, by simpa using h, by omega⟩
 | [], a + 1, b, k, h => by rw [show a + 1 + b = (a + b) + 1 by omega] at h; simp [eg] at h
 | p :: r, a + 1, b, k, h => by
   rw [show a + 1 + b = (a + b) + 1 by omega] at h
   obtain ⟨dd, bB, rfl⟩ := oF.1 h
   rw [show a + b + eE p = (a + eE p) + b by omega] at bB
   obtain ⟨b8, cu, ai, aj, rfl⟩ := yB bB
   exact ⟨b8 + 1, cu, oF.2 ⟨b8, ai, rfl⟩, by simpa using aj, by omega⟩
theorem M5 : ∀ {l : List bx} {a k : Nat}, eg l a = some k → ∀ i, i < k → ∃ m, 1 ≤ m ∧ eg (l.drop i) m = some (k - i)
 | [], 0, k, h, i, ar => by simp only [eg, Option.some.injEq] at h; omega
 | [], a + 1, k, h, i, ar => by simp [eg] at h
 | _ :: _, 0, k, h, i, ar => by simp only [eg, Option.some.injEq] at h; omega
 | p :: r, a + 1, k, h, i, ar => by
   cases i with
   | zero => exact ⟨a + 1, by omega, by simpa using h⟩
   | succ i =>
     obtain ⟨dd, bB, rfl⟩ := oF.1 h
     obtain ⟨m, ai, aj⟩ := M5 bB i (by omega)
     exact ⟨m, ai, by simp only [List.drop_succ_cons]; rw [aj]; congr 1; omega⟩
theorem ats {l : List bx} {a k i : Nat} (h : eg l a = some k) (ar : i < k) : ∃ e, eg (l.drop i) 1 = some e ∧ i + e ≤ k ∧ 1 ≤ e := by
 obtain ⟨m, ai, aj⟩ := M5 h i ar
 obtain ⟨m, rfl⟩ : ∃ j, m = 1 + j := ⟨m - 1, by omega⟩
 obtain ⟨b8, cu, aP, bb, b5⟩ := yB aj
 have := s9 aP
 exact ⟨b8, aP, by omega, by omega⟩
theorem Gc {k a : Nat} (aE : 1 ≤ k) (rh : k ≤ 100000000) (cw : a ≤ 2) : IntKind.i64.wrap ((k : Int) + IntKind.i64.wrap ((a : Int) - 1)) = ((k + a - 1 : Nat) : Int) := by
 rw [fY ((a : Int) - 1) (by omega), fY _ (by omega)]; omega
theorem att (e : List bx) (he : e.length ≤ 1048576) : An e = some ((decide (1 ≤ e.length) && decide (e.length ≤ 20)) && q4 e 1) := by
 unfold An
 by_cases hm : 1 ≤ e.length ∧ e.length ≤ 20
 ·have d1 : (((e.length : Int) == 0) || decide ((20 : Int) < (e.length : Int))) = false := by
   rw [Bool.or_eq_false_iff, beq_eq_false_iff_ne, decide_eq_false_iff_not]; omega
  have d2 : (decide (1 ≤ e.length) && decide (e.length ≤ 20)) = true := by simp; omega
  rw [d1, d2, cond_false, Bool.true_and]
  have key : ∀ i, i ≤ e.length → ∀ (k : Nat) m, k ≤ 1 + 2 * i → e.length - i < m → r7 e m (k : Int) (i : Int) = some (q4 (e.drop i) k) := by
   refine down e.length ?_ ?_
   ·intro k m _ hm
    obtain ⟨m, rfl⟩ : ∃ j, m = j + 1 := ⟨m - 1, by omega⟩
    simp only [r7, Am]
    rw [fw (Nat.le_refl _), List.drop_of_length_le (Nat.le_refl _), vv]; rfl
   ·intro i ar ih k m aE hm
    obtain ⟨m, rfl⟩ : ∃ j, m = j + 1 := ⟨m - 1, by omega⟩
    simp only [r7, Am]
    rw [gz ar, hD _ i ar, gy i _ ar (by omega), drop_cons e i ar, vv]
    simp only [cond_true, Option.bind_some, M3, q4]
    by_cases ba : k = 0
    ·subst ba; rfl
    ·have ae : (k == 0) = false := by simpa using ba
     have cw := vw e[i]
     rw [ae, Gc (by omega) (by omega) cw, ih _ m (by omega) (by omega)]
     simp only [cond_false, Bool.not_false, Bool.true_and]
  refine ir (e.length + 1) fun m hm => ?_
  have := key 0 (by omega) 1 m (by omega) (by omega)
  simpa using this
 ·have d1 : (((e.length : Int) == 0) || decide ((20 : Int) < (e.length : Int))) = true := by
   by_cases h : e.length = 0
   ·simp [h]
   ·have : decide ((20 : Int) < (e.length : Int)) = true := by simp; omega
    rw [this, Bool.or_true]
  have d2 : (decide (1 ≤ e.length) && decide (e.length ≤ 20)) = false := by
   rw [Bool.and_eq_false_iff, decide_eq_false_iff_not, decide_eq_false_iff_not]; omega
  rw [d1, d2]; rfl
def pj (i : Nat) : Option Nat → Int
 | none => -1
 | some n => ((i + n : Nat) : Int)
theorem atu (d : a9) (al : d.Body.length ≤ 1048576) (ke : Nat) (ba : ke ≤ d.Body.length) : AX d (ke : Int) = some (pj ke (eg (d.Body.drop ke) 1)) := by
 unfold AX
 have key : ∀ i, i ≤ d.Body.length → ∀ (k : Nat) m, k ≤ 1 + 2 * i → d.Body.length - i < m → si d m (i : Int) (k : Int) = some (pj i (eg (d.Body.drop i) k)) := by
  refine down d.Body.length ?_ ?_
  ·intro k m _ hm
   obtain ⟨m, rfl⟩ : ∃ j, m = j + 1 := ⟨m - 1, by omega⟩
   simp only [si, AW]
   rw [List.drop_of_length_le (Nat.le_refl _)]
   cases k with
   | zero => rw [s4]; simp [eg, pj]
   | succ k =>
     rw [vi (Nat.succ_pos k)]
     have : decide ((d.Body.length : Int) ≤ (d.Body.length : Int)) = true := by simp
     rw [this]; rfl
  ·intro i ar ih k m aE hm
   obtain ⟨m, rfl⟩ : ∃ j, m = j + 1 := ⟨m - 1, by omega⟩
   simp only [si, AW]
   cases k with
   | zero => rw [s4, yA]; simp [pj]
   | succ k =>
     have d1 : decide ((d.Body.length : Int) ≤ (i : Int)) = false := by simp; omega
     rw [vi (Nat.succ_pos k), d1, hD _ i ar, gy i _ ar (by omega), drop_cons _ i ar]
     simp only [cond_true, cond_false, Option.bind_some, M4]
     have cw := vw d.Body[i]
     rw [Gc (by omega) (by omega) cw, ih _ m (by omega) (by omega), show k + 1 + eE d.Body[i] - 1 = k + eE d.Body[i] by omega]
     simp only [eg]
     cases eg (d.Body.drop (i + 1)) (k + eE d.Body[i]) with
     | none => rfl
     | some n => simp only [Option.map_some, pj]; congr 2; omega
 refine ir (d.Body.length + 1) fun m hm => ?_
 refine down d.Body.length (P := fun _ => True) trivial (fun _ _ _ => trivial) 0 (Nat.zero_le _) |> fun _ => ?_
 have b8 := key ke ba 1 m (by omega) (by omega)
 simpa using b8
theorem atv (b : List bx) (ae : b.length ≤ 1048576) (ke n : Nat) (h : eg (b.drop ke) 1 = some n) : Aq b (ke : Int) = some ((ke + n : Nat) : Int) := by
 unfold Aq
 have ba : ke < b.length := by
  have := s9 h
  rw [List.length_drop] at this; omega
 have key : ∀ i, i ≤ b.length → ∀ (k n : Nat) m, k ≤ 1 + 2 * i → b.length - i < m → eg (b.drop i) k = some n → r8 b m (i : Int) (k : Int) = some ((i + n : Nat) : Int) := by
  refine down b.length ?_ ?_
  ·intro k n m _ hm he
   obtain ⟨m, rfl⟩ : ∃ j, m = j + 1 := ⟨m - 1, by omega⟩
   simp only [r8, Ap]
   rw [List.drop_of_length_le (Nat.le_refl _)] at he
   cases k with
   | zero => rw [s4]; simp only [eg, Option.some.injEq] at he; subst he; simp
   | succ k => simp [eg] at he
  ·intro i ar ih k n m aE hm he
   obtain ⟨m, rfl⟩ : ∃ j, m = j + 1 := ⟨m - 1, by omega⟩
   simp only [r8, Ap]
   cases k with
   | zero => rw [yA] at he; cases he; rw [s4]; simp
   | succ k =>
     rw [drop_cons _ i ar] at he
     obtain ⟨Dr, mG, rfl⟩ := oF.1 he
     rw [vi (Nat.succ_pos k), hD _ i ar, gy i _ ar (by omega)]
     simp only [cond_true, Option.bind_some, M3]
     have cw := vw b[i]
     rw [Gc (by omega) (by omega) cw, show k + 1 + eE b[i] - 1 = k + eE b[i] by omega, ih _ Dr m (by omega) (by omega) mG]
     congr 2; omega
 refine ir (b.length + 1) fun m hm => ?_
 have b8 := key ke (by omega) 1 n m (by omega) (by omega) h
 simpa using b8
end Go.fJ
