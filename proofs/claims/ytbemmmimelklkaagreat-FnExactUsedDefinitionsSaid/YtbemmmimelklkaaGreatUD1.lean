/- Part of a proof that a law returns true for every input. No condition. -/
import Derived.Test.YtbemmmimelklkaaGreatUA
import Derived.Test.YtbemmmimelklkaaGreatUB
namespace Go.eR
open Go Go.c5
def e5 (p : bE) : Nat := if p.Kind = 1 ∨ p.Kind = 3 ∨ p.Kind = 4 then 1 else if p.Kind = 2 then 2 else 0
theorem wt (p : bE) : e5 p ≤ 2 := by unfold e5; split <;> (try split) <;> omega
theorem OR (p : bE) (K : Bool → Option Int) (jq : ∀ b, K b = cond b (some 1) (cond (p.Kind == 2) (some 2) (some 0))) :
  cond (p.Kind == 1) (K true) (cond (p.Kind == 3) (K true) (K (p.Kind == 4))) = some (e5 p : Int) := by
 simp only [jq, e5]
 by_cases af : p.Kind = 1
 ·simp [af]
 ·by_cases aN : p.Kind = 3
  ·simp [aN]
  ·by_cases bk : p.Kind = 4
   ·simp [bk]
   ·by_cases ai : p.Kind = 2
    ·simp [ai]
    ·have a1 : (p.Kind == 1) = false := by simpa using af
     have a8 : (p.Kind == 3) = false := by simpa using aN
     have c6 : (p.Kind == 4) = false := by simpa using bk
     have bh : (p.Kind == 2) = false := by simpa using ai
     simp [a1, a8, c6, bh, af, aN, bk, ai]
theorem OS (p : bE) : xZ p = some (e5 p : Int) := by
 unfold xZ
 exact OR p (xY p) fun _ => rfl
theorem OT (p : bE) : ye p = some (e5 p : Int) := by
 unfold ye
 exact OR p (yd p) fun _ => rfl
def rK : List bE → Nat → Bool
 | [], k => k == 0
 | p :: r, k => !(k == 0) && rK r (k + e5 p - 1)
def ej : List bE → Nat → Option Nat
 | [], 0 => some 0
 | [], _ + 1 => none
 | _ :: _, 0 => some 0
 | p :: r, k + 1 => (ej r (k + e5 p)).map (· + 1)
theorem zo (l : List bE) : ej l 0 = some 0 := by cases l <;> rfl
theorem oZ {p : bE} {r : List bE} {a k : Nat} : ej (p :: r) (a + 1) = some k ↔ ∃ dm, ej r (a + e5 p) = some dm ∧ k = dm + 1 := by
 simp only [ej, Option.map_eq_some_iff]
 constructor
 ·rintro ⟨dm, h, rfl⟩; exact ⟨dm, h, rfl⟩
 ·rintro ⟨dm, h, rfl⟩; exact ⟨dm, h, rfl⟩
theorem tG : ∀ {l : List bE} {a k : Nat}, ej l a = some k → a ≤ k ∧ k ≤ l.length
 | [], 0, k, h => by simp only [ej, Option.some.injEq] at h; subst h; simp
 | [], a + 1, k, h => by simp [ej] at h
 | _ :: _, 0, k, h => by simp only [ej, Option.some.injEq] at h; subst h; simp
 | p :: r, a + 1, k, h => by
   obtain ⟨dm, bM, rfl⟩ := oZ.1 h
   have := tG bM
   simp only [List.length_cons]; omega
theorem Hw : ∀ (l : List bE) (k : Nat), rK l k = (ej l k == some l.length)
 | [], 0 => rfl
 | [], k + 1 => rfl
 | p :: r, 0 => rfl
 | p :: r, k + 1 => by
   have e : k + 1 + e5 p - 1 = k + e5 p := by omega
   simp only [rK, e, Hw r (k + e5 p)]
   have gB : (k + 1 == 0) = false := rfl
   rw [gB]
   simp only [Bool.not_false, Bool.true_and, ej]
   cases ej r (k + e5 p) with
   | none => rfl
   | some n => simp
theorem avW : ∀ {l : List bE} {a b k : Nat}, ej l a = some k → ej l (a + b) = (ej (l.drop k) b).map (k + ·)
 | [], 0, b, k, h => by
   simp only [ej, Option.some.injEq] at h; subst h
   rw [Nat.zero_add, List.drop_zero]; cases ej [] b <;> simp
 | [], a + 1, b, k, h => by simp [ej] at h
 | p :: r, 0, b, k, h => by
   simp only [ej, Option.some.injEq] at h; subst h
   rw [Nat.zero_add, List.drop_zero]; cases ej (p :: r) b <;> simp
 | p :: r, a + 1, b, k, h => by
   obtain ⟨dm, bM, rfl⟩ := oZ.1 h
   rw [show a + 1 + b = (a + b) + 1 by omega]
   simp only [ej, List.drop_succ_cons]
   rw [show a + b + e5 p = (a + e5 p) + b by omega, avW bM]
   cases ej (r.drop dm) b <;> simp; omega
theorem zp : ∀ {l : List bE} {a b k : Nat}, ej l (a + b) = some k → ∃ cf cB, ej l a = some cf ∧ ej (l.drop cf) b = some cB ∧ k = cf + cB
 | l, 0, b, k, h => ⟨0, k, zo l, by simpa using h, by omega⟩
 | [], a + 1, b, k, h => by rw [show a + 1 + b = (a + b) + 1 by omega] at h; simp [ej] at h
 | p :: r, a + 1, b, k, h => by
   rw [show a + 1 + b = (a + b) + 1 by omega] at h
   obtain ⟨dm, bM, rfl⟩ := oZ.1 h
   rw [show a + b + e5 p = (a + e5 p) + b by omega] at bM
   obtain ⟨cf, cB, af, ai, rfl⟩ := zp bM
   exact ⟨cf + 1, cB, oZ.2 ⟨cf, af, rfl⟩, by simpa using ai, by omega⟩
theorem OU : ∀ {l : List bE} {a k : Nat}, ej l a = some k → ∀ i, i < k → ∃ m, 1 ≤ m ∧ ej (l.drop i) m = some (k - i)
 | [], 0, k, h, i, ao => by simp only [ej, Option.some.injEq] at h; omega
 | [], a + 1, k, h, i, ao => by simp [ej] at h
 | _ :: _, 0, k, h, i, ao => by simp only [ej, Option.some.injEq] at h; omega
 | p :: r, a + 1, k, h, i, ao => by
   cases i with
   | zero => exact ⟨a + 1, by omega, by simpa using h⟩
   | succ i =>
     obtain ⟨dm, bM, rfl⟩ := oZ.1 h
     obtain ⟨m, af, ai⟩ := OU bM i (by omega)
     exact ⟨m, af, by simp only [List.drop_succ_cons]; rw [ai]; congr 1; omega⟩
theorem avX {l : List bE} {a k i : Nat} (h : ej l a = some k) (ao : i < k) : ∃ e, ej (l.drop i) 1 = some e ∧ i + e ≤ k ∧ 1 ≤ e := by
 obtain ⟨m, af, ai⟩ := OU h i ao
 obtain ⟨m, rfl⟩ : ∃ j, m = 1 + j := ⟨m - 1, by omega⟩
 obtain ⟨cf, cB, aN, bk, cc⟩ := zp ai
 have := tG aN
 exact ⟨cf, aN, by omega, by omega⟩
theorem Hx {k a : Nat} (aD : 1 ≤ k) (r0 : k ≤ 100000000) (cz : a ≤ 2) : IntKind.i64.wrap ((k : Int) + IntKind.i64.wrap ((a : Int) - 1)) = ((k + a - 1 : Nat) : Int) := by
 rw [fU ((a : Int) - 1) (by omega), fU _ (by omega)]; omega
theorem avY (e : List bE) (he : e.length ≤ 1048576) : x0 e = some ((decide (1 ≤ e.length) && decide (e.length ≤ 20)) && rK e 1) := by
 unfold x0
 by_cases hm : 1 ≤ e.length ∧ e.length ≤ 20
 ·have d1 : (((e.length : Int) == 0) || decide ((20 : Int) < (e.length : Int))) = false := by
   rw [Bool.or_eq_false_iff, beq_eq_false_iff_ne, decide_eq_false_iff_not]; omega
  have d2 : (decide (1 ≤ e.length) && decide (e.length ≤ 20)) = true := by simp; omega
  rw [d1, d2, cond_false, Bool.true_and]
  have key : ∀ i, i ≤ e.length → ∀ (k : Nat) m, k ≤ 1 + 2 * i → e.length - i < m → sG e m (k : Int) (i : Int) = some (rK (e.drop i) k) := by
   refine down e.length ?_ ?_
   ·intro k m _ hm
    obtain ⟨m, rfl⟩ : ∃ j, m = j + 1 := ⟨m - 1, by omega⟩
    simp only [sG, Bj]
    rw [fa (Nat.le_refl _), List.drop_of_length_le (Nat.le_refl _), wq]; rfl
   ·intro i ao ih k m aD hm
    obtain ⟨m, rfl⟩ : ∃ j, m = j + 1 := ⟨m - 1, by omega⟩
    simp only [sG, Bj]
    rw [fB ao, gx _ i ao, fA i _ ao (by omega), drop_cons e i ao, wq]
    simp only [cond_true, Option.bind_some, OS, rK]
    by_cases bc : k = 0
    ·subst bc; rfl
    ·have ad : (k == 0) = false := by simpa using bc
     have cz := wt e[i]
     rw [ad, Hx (by omega) (by omega) cz, ih _ m (by omega) (by omega)]
     simp only [cond_false, Bool.not_false, Bool.true_and]
  refine hP (e.length + 1) fun m hm => ?_
  have := key 0 (by omega) 1 m (by omega) (by omega)
  simpa using this
 ·have d1 : (((e.length : Int) == 0) || decide ((20 : Int) < (e.length : Int))) = true := by
   by_cases h : e.length = 0
   ·simp [h]
   ·have : decide ((20 : Int) < (e.length : Int)) = true := by simp; omega
    rw [this, Bool.or_true]
  have d2 : (decide (1 ≤ e.length) && decide (e.length ≤ 20)) = false := by
   rw [Bool.and_eq_false_iff, decide_eq_false_iff_not, decide_eq_false_iff_not]; omega
  rw [d1, d2]; rfl
def pI (i : Nat) : Option Nat → Int
 | none => -1
 | some n => ((i + n : Nat) : Int)
theorem avZ (d : bg) (ak : d.Body.length ≤ 1048576) (kg : Nat) (bc : kg ≤ d.Body.length) : BX d (kg : Int) = some (pI kg (ej (d.Body.drop kg) 1)) := by
 unfold BX
 have key : ∀ i, i ≤ d.Body.length → ∀ (k : Nat) m, k ≤ 1 + 2 * i → d.Body.length - i < m → sR d m (i : Int) (k : Int) = some (pI i (ej (d.Body.drop i) k)) := by
  refine down d.Body.length ?_ ?_
  ·intro k m _ hm
   obtain ⟨m, rfl⟩ : ∃ j, m = j + 1 := ⟨m - 1, by omega⟩
   simp only [sR, BW]
   rw [List.drop_of_length_le (Nat.le_refl _)]
   cases k with
   | zero => rw [tz]; simp [ej, pI]
   | succ k =>
     rw [v_ (Nat.succ_pos k)]
     have : decide ((d.Body.length : Int) ≤ (d.Body.length : Int)) = true := by simp
     rw [this]; rfl
  ·intro i ao ih k m aD hm
   obtain ⟨m, rfl⟩ : ∃ j, m = j + 1 := ⟨m - 1, by omega⟩
   simp only [sR, BW]
   cases k with
   | zero => rw [tz, zo]; simp [pI]
   | succ k =>
     have d1 : decide ((d.Body.length : Int) ≤ (i : Int)) = false := by simp; omega
     rw [v_ (Nat.succ_pos k), d1, gx _ i ao, fA i _ ao (by omega), drop_cons _ i ao]
     simp only [cond_true, cond_false, Option.bind_some, OT]
     have cz := wt d.Body[i]
     rw [Hx (by omega) (by omega) cz, ih _ m (by omega) (by omega), show k + 1 + e5 d.Body[i] - 1 = k + e5 d.Body[i] by omega]
     simp only [ej]
     cases ej (d.Body.drop (i + 1)) (k + e5 d.Body[i]) with
     | none => rfl
     | some n => simp only [Option.map_some, pI]; congr 2; omega
 refine hP (d.Body.length + 1) fun m hm => ?_
 refine down d.Body.length (P := fun _ => True) trivial (fun _ _ _ => trivial) 0 (Nat.zero_le _) |> fun _ => ?_
 have cf := key kg bc 1 m (by omega) (by omega)
 simpa using cf
theorem av0 (b : List bE) (ad : b.length ≤ 1048576) (kg n : Nat) (h : ej (b.drop kg) 1 = some n) : Bn b (kg : Int) = some ((kg + n : Nat) : Int) := by
 unfold Bn
 have bc : kg < b.length := by
  have := tG h
  rw [List.length_drop] at this; omega
 have key : ∀ i, i ≤ b.length → ∀ (k n : Nat) m, k ≤ 1 + 2 * i → b.length - i < m → ej (b.drop i) k = some n → sH b m (i : Int) (k : Int) = some ((i + n : Nat) : Int) := by
  refine down b.length ?_ ?_
  ·intro k n m _ hm he
   obtain ⟨m, rfl⟩ : ∃ j, m = j + 1 := ⟨m - 1, by omega⟩
   simp only [sH, Bm]
   rw [List.drop_of_length_le (Nat.le_refl _)] at he
   cases k with
   | zero => rw [tz]; simp only [ej, Option.some.injEq] at he; subst he; simp
   | succ k => simp [ej] at he
  ·intro i ao ih k n m aD hm he
   obtain ⟨m, rfl⟩ : ∃ j, m = j + 1 := ⟨m - 1, by omega⟩
   simp only [sH, Bm]
   cases k with
   | zero => rw [zo] at he; cases he; rw [tz]; simp
   | succ k =>
     rw [drop_cons _ i ao] at he
     obtain ⟨EG, mY, rfl⟩ := oZ.1 he
     rw [v_ (Nat.succ_pos k), gx _ i ao, fA i _ ao (by omega)]
     simp only [cond_true, Option.bind_some, OS]
     have cz := wt b[i]
     rw [Hx (by omega) (by omega) cz, show k + 1 + e5 b[i] - 1 = k + e5 b[i] by omega, ih _ EG m (by omega) (by omega) mY]
     congr 2; omega
 refine hP (b.length + 1) fun m hm => ?_
 have cf := key kg (by omega) 1 n m (by omega) (by omega) h
 simpa using cf
end Go.eR
