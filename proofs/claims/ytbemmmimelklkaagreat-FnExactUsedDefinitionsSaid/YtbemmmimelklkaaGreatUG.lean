/- Part of a proof that a law returns true for every input. No condition. -/
import Derived.Test.YtbemmmimelklkaaGreatU0
namespace Go.eR
open Go Go.c5
def hO (n : Int) (s : Nat) : Int := if (s : Int) ≤ n then n - s else -1
theorem wa {n : Int} {s : Nat} (h : (s : Int) ≤ n) : hO n s = n - s := if_pos h
theorem zl {n : Int} {s : Nat} (h : n < s) : hO n s = -1 := if_neg (by omega)
theorem au4 {n : Int} (h : 0 ≤ n) : hO n 0 = n := by rw [wa (by simpa using h)]; simp
theorem qs {f : Option Int} {k : Int → Option Int} {n : Int} {s t : Nat} (bJ : f = some (hO n s)) (aD : (s : Int) ≤ n → k (n - s) = some (hO (n - s) t)) :
  (f.bind fun x => cond (decide (x < 0)) (some (-1)) (k x)) = some (hO n (s + t)) := by
 rw [bJ]
 simp only [Option.bind_some]
 by_cases h : (s : Int) ≤ n
 ·rw [wa h]
  have : decide (n - (s : Int) < 0) = false := by simp; omega
  rw [this, cond_false, aD h]
  congr 1
  unfold hO
  by_cases ai : (t : Int) ≤ n - s
  ·rw [if_pos ai, if_pos (by omega)]; omega
  ·rw [if_neg ai, if_neg (by omega)]
 ·rw [zl (by omega)]
  have : decide ((-1 : Int) < 0) = true := by decide
  rw [this, cond_true, zl (by omega)]
theorem mL {K : Option Int} {n : Int} {s t : Nat} (ah : s ≤ 9223372036854775807) (bc : 0 ≤ n) (bl : n ≤ 1048576) (aD : (s : Int) ≤ n → K = some (hO (n - s) t)) :
  cond (decide (IntKind.i64.wrap (n - (s : Int)) < 0)) (some (-1)) K = some (hO n (s + t)) := by
 rw [fU _ (by omega)]
 by_cases h : (s : Int) ≤ n
 ·have : decide (n - (s : Int) < 0) = false := by simp; omega
  rw [this, cond_false, aD h]
  congr 1
  unfold hO
  by_cases ai : (t : Int) ≤ n - s
  ·rw [if_pos ai, if_pos (by omega)]; omega
  ·rw [if_neg ai, if_neg (by omega)]
 ·have : decide (n - (s : Int) < 0) = true := by simp; omega
  rw [this, cond_true, zl (by omega)]
theorem rE {n : Int} (h : 0 ≤ n) : some n = some (hO n 0) := by rw [au4 h]
def g4 {α : Type} (f : α → Nat) : List α → Nat
 | [] => 0
 | x :: r => f x + g4 f r
theorem Ou {α : Type} {f : α → Nat} : ∀ {l : List α} {x : α}, x ∈ l → f x ≤ g4 f l
 | y :: r, x, h => by
   simp only [g4]
   rcases List.mem_cons.1 h with rfl | h
   ·omega
   ·have := Ou (f := f) h; omega
theorem Ov {α β : Type} {f : β → Nat} {g : α → β} : ∀ l : List α, g4 f (l.map g) = g4 (fun x => f (g x)) l
 | [] => rfl
 | x :: r => by simp only [List.map_cons, g4, Ov r]
def dS {α : Type} (f : α → Nat) (l : List α) : Nat := l.length + g4 f l
theorem wb {α β : Type} (f : β → Nat) (g : α → β) (l : List α) : dS f (l.map g) = dS (fun x => f (g x)) l := by simp only [dS, List.length_map, Ov]
theorem i2 {α : Type} (f : α → Nat) (l : List α) : l.length ≤ dS f l := Nat.le_add_right _ _
theorem lo {α : Type} {f : α → Nat} {l : List α} {x : α} (h : x ∈ l) : f x ≤ dS f l := Nat.le_trans (Ou h) (Nat.le_add_left _ _)
theorem Ow {α : Type} {l : Nat → Int → Int → Option Int} {B : α → Int → (Int → Option Int) → Option Int} (sz : α → Nat) (a : List α)
  (kU : ∀ m n i, l (m + 1) n i = cond (decide (i < (a.length : Int))) ((bQ a i).bind fun x => B x n fun y => l m y (IntKind.i64.wrap (i + 1))) (some n))
  (bJ : ∀ x ∈ a, ∀ (n : Int) (k : Int → Option Int) (t : Nat), 0 ≤ n → n ≤ 1048576 → ((sz x : Int) ≤ n → k (n - sz x) = some (hO (n - sz x) t)) → B x n k = some (hO n (sz x + t)))
  (cz : a.length ≤ 1048576) (n : Int) (bc : 0 ≤ n) (bl : n ≤ 1048576) : lim (fun m => l m n 0) = some (hO n (g4 sz a)) := by
 have key : ∀ i, i ≤ a.length → ∀ n : Int, 0 ≤ n → n ≤ 1048576 → ∀ m, a.length - i < m → l m n (i : Int) = some (hO n (g4 sz (a.drop i))) := by
  refine down a.length ?_ ?_
  ·intro n bc _ m hm
   obtain ⟨k, rfl⟩ : ∃ k, m = k + 1 := ⟨m - 1, by omega⟩
   rw [kU, fa (Nat.le_refl _), cond_false, List.drop_of_length_le (Nat.le_refl _)]
   exact rE bc
  ·intro i ao ih n bc bl m hm
   obtain ⟨k, rfl⟩ : ∃ k, m = k + 1 := ⟨m - 1, by omega⟩
   rw [kU, fB ao, cond_true, gx _ i ao, fA i _ ao (by omega), drop_cons a i ao]
   simp only [Option.bind_some, g4]
   exact bJ _ (List.getElem_mem ao) n _ _ bc bl fun h => ih _ (by omega) (by omega) k (by omega)
 refine hP (a.length + 1) fun m hm => ?_
 have := key 0 (by omega) n bc bl m (by omega)
 simpa using this
theorem zm {α : Type} {l : Nat → Int → Int → Option Int} {f : α → Int → Option Int} (sz : α → Nat) (a : List α)
  (kU : ∀ m n i, l (m + 1) n i = cond (decide (i < (a.length : Int))) ((bQ a i).bind fun x => (f x n).bind fun y => cond (decide (y < 0)) (some (-1)) (l m y (IntKind.i64.wrap (i + 1)))) (some n))
  (bJ : ∀ x ∈ a, ∀ n : Int, 0 ≤ n → n ≤ 1048576 → f x n = some (hO n (sz x))) (cz : a.length ≤ 1048576) (n : Int) (bc : 0 ≤ n) (bl : n ≤ 1048576) : lim (fun m => l m n 0) = some (hO n (g4 sz a)) :=
 Ow (B := fun x n k => (f x n).bind fun y => cond (decide (y < 0)) (some (-1)) (k y)) sz a kU (fun x aq n _ _ bc bl aD => qs (bJ x aq n bc bl) aD) cz n bc bl
theorem au5 {l : Nat → Int → Int → Option Int} (a : List (List UInt8))
  (kU : ∀ m n i, l (m + 1) n i = cond (decide (i < (a.length : Int))) ((bQ a i).bind fun x => cond (decide (IntKind.i64.wrap (n - (x.length : Int)) < 0)) (some (-1)) (l m (IntKind.i64.wrap (n - (x.length : Int))) (IntKind.i64.wrap (i + 1)))) (some n))
  (bJ : ∀ x ∈ a, x.length ≤ 9223372036854775807) (cz : a.length ≤ 1048576) (n : Int) (bc : 0 ≤ n) (bl : n ≤ 1048576) : lim (fun m => l m n 0) = some (hO n (g4 List.length a)) :=
 Ow (B := fun x n k => cond (decide (IntKind.i64.wrap (n - (x.length : Int)) < 0)) (some (-1)) (k (IntKind.i64.wrap (n - (x.length : Int))))) List.length a (by intro m n i; rw [kU]) (by
  intro x aq n k t bc bl aD
  have hl := bJ x aq
  refine mL hl bc bl fun h => ?_
  have e : IntKind.i64.wrap (n - (x.length : Int)) = n - (x.length : Int) := fU _ (by omega)
  rw [e]
  exact aD h) cz n bc bl
theorem rF {α β : Type} {l : Nat → List β → Int → Option (List β)} {f : α → Option β} (g : α → β) (a : List α) (z : β)
  (kU : ∀ m v i, l (m + 1) v i = cond (decide (i < (a.length : Int))) ((bQ a i).bind fun x => (f x).bind fun y => (bQ v i).bind fun _ => l m (List.set v (Int.toNat i) y) (IntKind.i64.wrap (i + 1))) (some v))
  (bJ : ∀ x ∈ a, f x = some (g x)) (cz : a.length ≤ 1048576) : lim (fun m => l m (List.replicate (Int.toNat (a.length : Int)) z) 0) = some (a.map g) := by
 have key : ∀ i, i ≤ a.length → ∀ (v : List β) m, v.length = a.length → a.length - i < m → l m v (i : Int) = some (v.take i ++ (a.drop i).map g) := by
  refine down a.length ?_ ?_
  ·intro v m aR hm
   obtain ⟨k, rfl⟩ : ∃ k, m = k + 1 := ⟨m - 1, by omega⟩
   rw [kU, fa (Nat.le_refl _)]
   simp [← aR]
  ·intro i ao ih v m aR hm
   obtain ⟨k, rfl⟩ : ∃ k, m = k + 1 := ⟨m - 1, by omega⟩
   rw [kU, fB ao, gx _ i ao, fA i _ ao (by omega)]
   simp only [cond_true, Option.bind_some, bJ _ (List.getElem_mem ao)]
   rw [gx v i (by omega)]
   simp only [Option.bind_some, Int.toNat_natCast]
   rw [ih _ k (by simp [aR]) (by omega), drop_cons a i ao, List.map_cons, List.take_set, List.take_succ_eq_append_getElem (by omega), List.set_append_right _ _ (by simp; omega)]
   simp [show min i v.length = i by omega]
 refine hP (a.length + 1) fun m hm => ?_
 have := key 0 (by omega) (List.replicate (Int.toNat (a.length : Int)) z) m (by simp) (by omega)
 simpa using this
theorem qt (b : Nat) {n : Nat} (h : n ≤ 1048576) (ad : b ≤ 4096) : mP b (n : Int) = some () := by
 have af : b * n ≤ 4096 * 1048576 := Nat.mul_le_mul ad h
 have ai : ((b : Int) * (n : Int)) = ((b * n : Nat) : Int) := by simp
 unfold mP
 rw [if_pos ⟨by omega, by rw [ai]; omega, by omega⟩]
theorem wc {α : Type} {l : Nat → Int → Option Bool} {f : α → α → Option Bool} (a : List α)
  (kU : ∀ m i, l (m + 1) i = cond (decide (i < (a.length : Int))) ((bQ a i).bind fun x => (bQ a i).bind fun y => (f x y).bind fun z => cond (!z) (some false) (l m (IntKind.i64.wrap (i + 1)))) (some true))
  (bJ : ∀ x ∈ a, f x x = some true) (cz : a.length ≤ 1048576) : lim (fun m => l m 0) = some true := by
 rw [rD (n := a.length) (fun _ => some true)]
 ·intro m
  rw [kU, fa (Nat.le_refl _)]; rfl
 ·intro i ao m ih
  rw [kU, fB ao, gx _ i ao, fA i _ ao (by omega), ih]
  simp only [cond_true, Option.bind_some, bJ _ (List.getElem_mem ao), Bool.not_true, cond_false]
theorem Ox {α : Type} {d : α → α → Bool} {l : Nat → Int → Option Bool} (a : List α)
  (kU : ∀ m i, l (m + 1) i = cond (decide (i < (a.length : Int))) ((bQ a i).bind fun x => (bQ a i).bind fun y => cond (d x y) (some false) (l m (IntKind.i64.wrap (i + 1)))) (some true))
  (ak : ∀ x, d x x = false) (cz : a.length ≤ 1048576) : lim (fun m => l m 0) = some true := by
 rw [rD (n := a.length) (fun _ => some true)]
 ·intro m
  rw [kU, fa (Nat.le_refl _)]; rfl
 ·intro i ao m ih
  rw [kU, fB ao, gx _ i ao, fA i _ ao (by omega), ih]
  simp only [cond_true, Option.bind_some, ak, cond_false]
theorem tw (x : Int) : (x != x) = false := by simp
theorem tx (x : List UInt8) : (!(x == x)) = false := by simp
theorem we (x : Bool) : (!(x == x)) = false := by simp
theorem rG (n : Nat) : ((n : Int) != (n : Int)) = false := by simp
def fJ (p : Nat → Bool) (n : Nat) : Bool := (List.range n).all p
theorem oT {p : Nat → Bool} {n : Nat} : fJ p n = true ↔ ∀ i, i < n → p i = true := by simp [fJ]
theorem azq {p q : Nat → Bool} {n : Nat} (h : ∀ i, i < n → p i = q i) : fJ p n = fJ q n := by
 rw [Bool.eq_iff_iff, oT, oT]
 exact ⟨fun aA i ao => by rw [← h i ao]; exact aA i ao, fun aA i ao => by rw [h i ao]; exact aA i ao⟩
theorem Dy {l : Nat → Int → Option Bool} {n : Nat} (p : Nat → Bool) (bc : ∀ m, l (m + 1) (n : Int) = some true)
  (ah : ∀ i, i < n → ∀ m, l (m + 1) (i : Int) = cond (p i) (l m ((i + 1 : Nat) : Int)) (some false)) : lim (fun m => l m 0) = some (fJ p n) := by
 rw [rD (n := n) (fun i => some ((List.range' i (n - i)).all p))]
 ·simp [fJ, List.range_eq_range']
 ·intro m; rw [bc]; simp
 ·intro i ao m ih
  rw [ah i ao, ih, show n - i = (n - (i + 1)) + 1 by omega, List.range'_succ]
  cases aA : p i <;> simp [aA]
def pG (p : Nat → Bool) : Nat → Nat → Int
 | _, 0 => -1
 | i, k + 1 => if p i = true then (i : Int) else pG p (i + 1) k
theorem Oy {p : Nat → Bool} : ∀ (k i : Nat), (∀ j, i ≤ j → j < i + k → p j = false) → pG p i k = -1
 | 0, _, _ => rfl
 | k + 1, i, h => by
   simp only [pG, h i (Nat.le_refl _) (by omega)]
   exact Oy k (i + 1) fun j af ai => h j (by omega) (by omega)
theorem Oz {p : Nat → Bool} : ∀ (k i j : Nat), i ≤ j → j < i + k → p j = true → 0 ≤ pG p i k
 | 0, i, j, af, ai, _ => by omega
 | k + 1, i, j, af, ai, aN => by
   simp only [pG]
   split
   ·omega
   ·rename_i h
    refine Oz k (i + 1) j ?_ (by omega) aN
    rcases Nat.lt_or_ge i j with h | h
    ·exact h
    ·have : i = j := by omega
     subst this; exact absurd aN (by assumption)
theorem wg (p : Nat → Bool) (n : Nat) : decide (0 ≤ pG p 0 n) = !(fJ (fun i => !p i) n) := by
 by_cases h : ∃ j, j < n ∧ p j = true
 ·obtain ⟨j, af, ai⟩ := h
  have aN := Oz n 0 j (Nat.zero_le _) (by omega) ai
  have bk : fJ (fun i => !p i) n = false := by
   rw [Bool.eq_false_iff]; intro k2
   have := oT.1 k2 j af
   simp [ai] at this
  rw [bk]; simpa using aN
 ·have aN : ∀ j, j < n → p j = false := fun j b_ => by
   cases aA : p j
   ·rfl
   ·exact absurd ⟨j, b_, aA⟩ h
  rw [Oy n 0 fun j _ ai => aN j (by omega)]
  have bk : fJ (fun i => !p i) n = true := oT.2 fun i ao => by simp [aN i ao]
  rw [bk]; rfl
theorem wh {l : Nat → Int → Option Int} {n : Nat} (p : Nat → Bool) (bc : ∀ m, l (m + 1) (n : Int) = some (-1))
  (ah : ∀ i, i < n → ∀ m, l (m + 1) (i : Int) = cond (p i) (some (i : Int)) (l m ((i + 1 : Nat) : Int))) : lim (fun m => l m 0) = some (pG p 0 n) := by
 rw [rD (n := n) (fun i => some (pG p i (n - i)))]
 ·simp
 ·intro m; rw [bc]; simp [pG]
 ·intro i ao m ih
  rw [ah i ao, ih, show n - i = (n - (i + 1)) + 1 by omega]
  cases aA : p i <;> simp [aA, pG]
theorem zn (i : Nat) (h : 0 < i) (bl : i ≤ 4611686018427387904) : IntKind.i64.wrap ((i : Int) - 1) = ((i - 1 : Nat) : Int) := by
 rw [fU _ (by omega)]; omega
theorem tz : decide ((0 : Int) < ((0 : Nat) : Int)) = false := by decide
theorem Ht {i : Nat} (h : i ≠ 0) : decide ((0 : Int) < (i : Int)) = true := by simp; omega
def au6 (b : Bool) : Int := cond b 1 0
theorem azr (b : Bool) : (cond b (some 1) (some 0) : Option Int) = some (au6 b) := by cases b <;> rfl
theorem azs {α : Type} (x : α) (l : List α) : jH (x :: l) 1 (((x :: l).length : Nat) : Int) = some l := by
 unfold jH
 rw [if_pos (by simp only [List.length_cons]; omega)]
 simp
theorem azt {α : Type} (a b c : List α) {i j : Int} (ao : i = (a.length : Int)) (b_ : j = ((a.length + b.length : Nat) : Int)) : jH (a ++ (b ++ c)) i j = some b := by
 unfold jH
 have a1 : i.toNat = a.length := by omega
 have bh : j.toNat = a.length + b.length := by omega
 rw [if_pos (by simp only [List.length_append]; omega), a1, bh, ← List.append_assoc, List.take_left' (by simp), List.drop_left' rfl]
theorem tA {b n : Nat} (h : n * b ≤ 140737488355328) (ai : n ≤ 9223372036854775807) : room b n = some () := by unfold room; rw [if_pos ⟨h, ai⟩]
end Go.eR
