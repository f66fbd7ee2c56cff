/- Part of a proof that a law returns true for every input. No condition. -/
import Derived.Test.YtbemmmimelklkaaGreatUA
import Derived.Test.YtbemmmimelklkaaGreatUB
namespace Go.f_
open Go Go.dk
def ew (p : bz) : Nat := if p.Kind = 1 ∨ p.Kind = 3 ∨ p.Kind = 4 then 1 else if p.Kind = 2 then 2 else 0
theorem u3 (p : bz) : ew p ≤ 2 := by unfold ew; split <;> (try split) <;> omega
theorem MA (p : bz) (K : Bool → Option Int) (i_ : ∀ b, K b = cond b (some 1) (cond (p.Kind == 2) (some 2) (some 0))) :
  cond (p.Kind == 1) (K true) (cond (p.Kind == 3) (K true) (K (p.Kind == 4))) = some (ew p : Int) := by
 simp only [i_, ew]
 by_cases ai : p.Kind = 1
 ·simp [ai]
 ·by_cases aQ : p.Kind = 3
  ·simp [aQ]
  ·by_cases bd : p.Kind = 4
   ·simp [bd]
   ·by_cases aj : p.Kind = 2
    ·simp [aj]
    ·have a4 : (p.Kind == 1) = false := by simpa using ai
     have a2 : (p.Kind == 3) = false := by simpa using aQ
     have c1 : (p.Kind == 4) = false := by simpa using bd
     have a_ : (p.Kind == 2) = false := by simpa using aj
     simp [a4, a2, c1, a_, ai, aQ, bd, aj]
theorem MB (p : bz) : wI p = some (ew p : Int) := by
 unfold wI
 exact MA p (wH p) fun _ => rfl
theorem MC (p : bz) : wW p = some (ew p : Int) := by
 unfold wW
 exact MA p (wV p) fun _ => rfl
def qN : List bz → Nat → Bool
 | [], k => k == 0
 | p :: r, k => !(k == 0) && qN r (k + ew p - 1)
def en : List bz → Nat → Option Nat
 | [], 0 => some 0
 | [], _ + 1 => none
 | _ :: _, 0 => some 0
 | p :: r, k + 1 => (en r (k + ew p)).map (· + 1)
theorem x9 (l : List bz) : en l 0 = some 0 := by cases l <;> rfl
theorem oq {p : bz} {r : List bz} {a k : Nat} : en (p :: r) (a + 1) = some k ↔ ∃ df, en r (a + ew p) = some df ∧ k = df + 1 := by
 simp only [en, Option.map_eq_some_iff]
 constructor
 ·rintro ⟨df, h, rfl⟩; exact ⟨df, h, rfl⟩
 ·rintro ⟨df, h, rfl⟩; exact ⟨df, h, rfl⟩
theorem sN : ∀ {l : List bz} {a k : Nat}, en l a = some k → a ≤ k ∧ k ≤ l.length
 | [], 0, k, h => by simp only [en, Option.some.injEq] at h; subst h; simp
 | [], a + 1, k, h => by simp [en] at h
 | _ :: _, 0, k, h => by simp only [en, Option.some.injEq] at h; subst h; simp
 | p :: r, a + 1, k, h => by
   obtain ⟨df, bD, rfl⟩ := oq.1 h
   have := sN bD
   simp only [List.length_cons]; omega
theorem FP : ∀ (l : List bz) (k : Nat), qN l k = (en l k == some l.length)
 | [], 0 => rfl
 | [], k + 1 => rfl
 | p :: r, 0 => rfl
 | p :: r, k + 1 => by
   have e : k + 1 + ew p - 1 = k + ew p := by omega
   simp only [qN, e, FP r (k + ew p)]
   have gu : (k + 1 == 0) = false := rfl
   rw [gu]
   simp only [Bool.not_false, Bool.true_and, en]
   cases en r (k + ew p) with
   | none => rfl
   | some n => simp
theorem ato : ∀ {l : List bz} {a b k : Nat}, en l a = some k → en l (a + b) = (en (l.drop k) b).map (k + ·)
 | [], 0, b, k, h => by
   simp only [en, Option.some.injEq] at h; subst h
   rw [Nat.zero_add, List.drop_zero]; cases en [] b <;> simp
 | [], a + 1, b, k, h => by simp [en] at h
 | p :: r, 0, b, k, h => by
   simp only [en, Option.some.injEq] at h; subst h
   rw [Nat.zero_add, List.drop_zero]; cases en (p :: r) b <;> simp
 | p :: r, a + 1, b, k, h => by
   obtain ⟨df, bD, rfl⟩ := oq.1 h
   rw [show a + 1 + b = (a + b) + 1 by omega]
   simp only [en, List.drop_succ_cons]
   rw [show a + b + ew p = (a + ew p) + b by omega, ato bD]
   cases en (r.drop df) b <;> simp; omega
theorem x_ : ∀ {l : List bz} {a b k : Nat}, en l (a + b) = some k → ∃ b5 cu, en l a = some b5 ∧ en (l.drop b5) b = some cu ∧ k = b5 + cu
 | l, 0, b, k, h => ⟨0, k, x9 l, by simpa using h, by omega⟩
 | [], a + 1, b, k, h => by rw [show a + 1 + b = (a + b) + 1 by omega] at h; simp [en] at h
 | p :: r, a + 1, b, k, h => by
   rw [show a + 1 + b = (a + b) + 1 by omega] at h
   obtain ⟨df, bD, rfl⟩ := oq.1 h
   rw [show a + b + ew p = (a + ew p) + b by omega] at bD
   obtain ⟨b5, cu, ai, aj, rfl⟩ := x_ bD
   exact ⟨b5 + 1, cu, oq.2 ⟨b5, ai, rfl⟩, by simpa using aj, by omega⟩
theorem MD : ∀ {l : List bz} {a k : Nat}, en l a = some k → ∀ i, i < k → ∃ m, 1 ≤ m ∧ en (l.drop i) m = some (k - i)
 | [], 0, k, h, i, au => by simp only [en, Option.some.injEq] at h; omega
 | [], a + 1, k, h, i, au => by simp [en] at h
 | _ :: _, 0, k, h, i, au => by simp only [en, Option.some.injEq] at h; omega
 | p :: r, a + 1, k, h, i, au => by
   cases i with
   | zero => exact ⟨a + 1, by omega, by simpa using h⟩
   | succ i =>
     obtain ⟨df, bD, rfl⟩ := oq.1 h
     obtain ⟨m, ai, aj⟩ := MD bD i (by omega)
     exact ⟨m, ai, by simp only [List.drop_succ_cons]; rw [aj]; congr 1; omega⟩
theorem atp {l : List bz} {a k i : Nat} (h : en l a = some k) (au : i < k) : ∃ e, en (l.drop i) 1 = some e ∧ i + e ≤ k ∧ 1 ≤ e := by
 obtain ⟨m, ai, aj⟩ := MD h i au
 obtain ⟨m, rfl⟩ : ∃ j, m = 1 + j := ⟨m - 1, by omega⟩
 obtain ⟨b5, cu, aQ, bd, b3⟩ := x_ aj
 have := sN aQ
 exact ⟨b5, aQ, by omega, by omega⟩
theorem FQ {k a : Nat} (aE : 1 ≤ k) (qW : k ≤ 100000000) (cw : a ≤ 2) : IntKind.i64.wrap ((k : Int) + IntKind.i64.wrap ((a : Int) - 1)) = ((k + a - 1 : Nat) : Int) := by
 rw [fQ ((a : Int) - 1) (by omega), fQ _ (by omega)]; omega
theorem atq (e : List bz) (he : e.length ≤ 1048576) : zW e = some ((decide (1 ≤ e.length) && decide (e.length ≤ 20)) && qN e 1) := by
 unfold zW
 by_cases hm : 1 ≤ e.length ∧ e.length ≤ 20
 ·have d1 : (((e.length : Int) == 0) || decide ((20 : Int) < (e.length : Int))) = false := by
   rw [Bool.or_eq_false_iff, beq_eq_false_iff_ne, decide_eq_false_iff_not]; omega
  have d2 : (decide (1 ≤ e.length) && decide (e.length ≤ 20)) = true := by simp; omega
  rw [d1, d2, cond_false, Bool.true_and]
  have key : ∀ i, i ≤ e.length → ∀ (k : Nat) m, k ≤ 1 + 2 * i → e.length - i < m → rQ e m (k : Int) (i : Int) = some (qN (e.drop i) k) := by
   refine down e.length ?_ ?_
   ·intro k m _ hm
    obtain ⟨m, rfl⟩ : ∃ j, m = j + 1 := ⟨m - 1, by omega⟩
    simp only [rQ, zV]
    rw [fH (Nat.le_refl _), List.drop_of_length_le (Nat.le_refl _), u2]; rfl
   ·intro i au ih k m aE hm
    obtain ⟨m, rfl⟩ : ∃ j, m = j + 1 := ⟨m - 1, by omega⟩
    simp only [rQ, zV]
    rw [gM au, h2 _ i au, gL i _ au (by omega), drop_cons e i au, u2]
    simp only [cond_true, Option.bind_some, MB, qN]
    by_cases a9 : k = 0
    ·subst a9; rfl
    ·have ae : (k == 0) = false := by simpa using a9
     have cw := u3 e[i]
     rw [ae, FQ (by omega) (by omega) cw, ih _ m (by omega) (by omega)]
     simp only [cond_false, Bool.not_false, Bool.true_and]
  refine iS (e.length + 1) fun m hm => ?_
  have := key 0 (by omega) 1 m (by omega) (by omega)
  simpa using this
 ·have d1 : (((e.length : Int) == 0) || decide ((20 : Int) < (e.length : Int))) = true := by
   by_cases h : e.length = 0
   ·simp [h]
   ·have : decide ((20 : Int) < (e.length : Int)) = true := by simp; omega
    rw [this, Bool.or_true]
  have d2 : (decide (1 ≤ e.length) && decide (e.length ≤ 20)) = false := by
   rw [Bool.and_eq_false_iff, decide_eq_false_iff_not, decide_eq_false_iff_not]; omega
  rw [d1, d2]; rfl
def o6 (i : Nat) : Option Nat → Int
 | none => -1
 | some n => ((i + n : Nat) : Int)
theorem atr (d : bb) (al : d.Body.length ≤ 1048576) (j8 : Nat) (a9 : j8 ≤ d.Body.length) : As d (j8 : Int) = some (o6 j8 (en (d.Body.drop j8) 1)) := by
 unfold As
 have key : ∀ i, i ≤ d.Body.length → ∀ (k : Nat) m, k ≤ 1 + 2 * i → d.Body.length - i < m → r2 d m (i : Int) (k : Int) = some (o6 i (en (d.Body.drop i) k)) := by
  refine down d.Body.length ?_ ?_
  ·intro k m _ hm
   obtain ⟨m, rfl⟩ : ∃ j, m = j + 1 := ⟨m - 1, by omega⟩
   simp only [r2, Ar]
   rw [List.drop_of_length_le (Nat.le_refl _)]
   cases k with
   | zero => rw [sI]; simp [en, o6]
   | succ k =>
     rw [uT (Nat.succ_pos k)]
     have : decide ((d.Body.length : Int) ≤ (d.Body.length : Int)) = true := by simp
     rw [this]; rfl
  ·intro i au ih k m aE hm
   obtain ⟨m, rfl⟩ : ∃ j, m = j + 1 := ⟨m - 1, by omega⟩
   simp only [r2, Ar]
   cases k with
   | zero => rw [sI, x9]; simp [o6]
   | succ k =>
     have d1 : decide ((d.Body.length : Int) ≤ (i : Int)) = false := by simp; omega
     rw [uT (Nat.succ_pos k), d1, h2 _ i au, gL i _ au (by omega), drop_cons _ i au]
     simp only [cond_true, cond_false, Option.bind_some, MC]
     have cw := u3 d.Body[i]
     rw [FQ (by omega) (by omega) cw, ih _ m (by omega) (by omega), show k + 1 + ew d.Body[i] - 1 = k + ew d.Body[i] by omega]
     simp only [en]
     cases en (d.Body.drop (i + 1)) (k + ew d.Body[i]) with
     | none => rfl
     | some n => simp only [Option.map_some, o6]; congr 2; omega
 refine iS (d.Body.length + 1) fun m hm => ?_
 refine down d.Body.length (P := fun _ => True) trivial (fun _ _ _ => trivial) 0 (Nat.zero_le _) |> fun _ => ?_
 have b5 := key j8 a9 1 m (by omega) (by omega)
 simpa using b5
theorem ats (b : List bz) (ae : b.length ≤ 1048576) (j8 n : Nat) (h : en (b.drop j8) 1 = some n) : zZ b (j8 : Int) = some ((j8 + n : Nat) : Int) := by
 unfold zZ
 have a9 : j8 < b.length := by
  have := sN h
  rw [List.length_drop] at this; omega
 have key : ∀ i, i ≤ b.length → ∀ (k n : Nat) m, k ≤ 1 + 2 * i → b.length - i < m → en (b.drop i) k = some n → rR b m (i : Int) (k : Int) = some ((i + n : Nat) : Int) := by
  refine down b.length ?_ ?_
  ·intro k n m _ hm he
   obtain ⟨m, rfl⟩ : ∃ j, m = j + 1 := ⟨m - 1, by omega⟩
   simp only [rR, zY]
   rw [List.drop_of_length_le (Nat.le_refl _)] at he
   cases k with
   | zero => rw [sI]; simp only [en, Option.some.injEq] at he; subst he; simp
   | succ k => simp [en] at he
  ·intro i au ih k n m aE hm he
   obtain ⟨m, rfl⟩ : ∃ j, m = j + 1 := ⟨m - 1, by omega⟩
   simp only [rR, zY]
   cases k with
   | zero => rw [x9] at he; cases he; rw [sI]; simp
   | succ k =>
     rw [drop_cons _ i au] at he
     obtain ⟨C2, mw, rfl⟩ := oq.1 he
     rw [uT (Nat.succ_pos k), h2 _ i au, gL i _ au (by omega)]
     simp only [cond_true, Option.bind_some, MB]
     have cw := u3 b[i]
     rw [FQ (by omega) (by omega) cw, show k + 1 + ew b[i] - 1 = k + ew b[i] by omega, ih _ C2 m (by omega) (by omega) mw]
     congr 2; omega
 refine iS (b.length + 1) fun m hm => ?_
 have b5 := key j8 (by omega) 1 n m (by omega) (by omega) h
 simpa using b5
end Go.f_
