/- Part of a proof that a law returns true for every input. No condition. -/
import Derived.Test.YtocllehpepigpaaGreatU0
namespace Go.e1
open Go Go.dg
def hX (n : Int) (s : Nat) : Int := if (s : Int) ≤ n then n - s else -1
theorem ud {n : Int} {s : Nat} (h : (s : Int) ≤ n) : hX n s = n - s := if_pos h
theorem wH {n : Int} {s : Nat} (h : n < s) : hX n s = -1 := if_neg (by omega)
theorem ayM {n : Int} (h : 0 ≤ n) : hX n 0 = n := by rw [ud (by simpa using h)]; simp
theorem p7 {f : Option Int} {k : Int → Option Int} {n : Int} {s t : Nat} (bF : f = some (hX n s)) (aA : (s : Int) ≤ n → k (n - s) = some (hX (n - s) t)) :
  (f.bind fun x => cond (decide (x < 0)) (some (-1)) (k x)) = some (hX n (s + t)) := by
 rw [bF]
 simp only [Option.bind_some]
 by_cases h : (s : Int) ≤ n
 ·rw [ud h]
  have : decide (n - (s : Int) < 0) = false := by simp; omega
  rw [this, cond_false, aA h]
  congr 1
  unfold hX
  by_cases ah : (t : Int) ≤ n - s
  ·rw [if_pos ah, if_pos (by omega)]; omega
  ·rw [if_neg ah, if_neg (by omega)]
 ·rw [wH (by omega)]
  have : decide ((-1 : Int) < 0) = true := by decide
  rw [this, cond_true, wH (by omega)]
theorem mH {K : Option Int} {n : Int} {s t : Nat} (af : s ≤ 9223372036854775807) (bf : 0 ≤ n) (a_ : n ≤ 1048576) (aA : (s : Int) ≤ n → K = some (hX (n - s) t)) :
  cond (decide (IntKind.i64.wrap (n - (s : Int)) < 0)) (some (-1)) K = some (hX n (s + t)) := by
 rw [fK _ (by omega)]
 by_cases h : (s : Int) ≤ n
 ·have : decide (n - (s : Int) < 0) = false := by simp; omega
  rw [this, cond_false, aA h]
  congr 1
  unfold hX
  by_cases ah : (t : Int) ≤ n - s
  ·rw [if_pos ah, if_pos (by omega)]; omega
  ·rw [if_neg ah, if_neg (by omega)]
 ·have : decide (n - (s : Int) < 0) = true := by simp; omega
  rw [this, cond_true, wH (by omega)]
theorem qX {n : Int} (h : 0 ≤ n) : some n = some (hX n 0) := by rw [ayM h]
def gp {α : Type} (f : α → Nat) : List α → Nat
 | [] => 0
 | x :: r => f x + gp f r
theorem Pt {α : Type} {f : α → Nat} : ∀ {l : List α} {x : α}, x ∈ l → f x ≤ gp f l
 | y :: r, x, h => by
   simp only [gp]
   rcases List.mem_cons.1 h with rfl | h
   ·omega
   ·have := Pt (f := f) h; omega
theorem H5 {α β : Type} {f : β → Nat} {g : α → β} : ∀ l : List α, gp f (l.map g) = gp (fun x => f (g x)) l
 | [] => rfl
 | x :: r => by simp only [List.map_cons, gp, H5 r]
def dn {α : Type} (f : α → Nat) (l : List α) : Nat := l.length + gp f l
theorem r0 {α β : Type} (f : β → Nat) (g : α → β) (l : List α) : dn f (l.map g) = dn (fun x => f (g x)) l := by simp only [dn, List.length_map, H5]
theorem iJ {α : Type} (f : α → Nat) (l : List α) : l.length ≤ dn f l := Nat.le_add_right _ _
theorem kK {α : Type} {f : α → Nat} {l : List α} {x : α} (h : x ∈ l) : f x ≤ dn f l := Nat.le_trans (Pt h) (Nat.le_add_left _ _)
theorem Pu {α : Type} {l : Nat → Int → Int → Option Int} {B : α → Int → (Int → Option Int) → Option Int} (sz : α → Nat) (a : List α)
  (lB : ∀ m n i, l (m + 1) n i = cond (decide (i < (a.length : Int))) ((bK a i).bind fun x => B x n fun y => l m y (IntKind.i64.wrap (i + 1))) (some n))
  (bF : ∀ x ∈ a, ∀ (n : Int) (k : Int → Option Int) (t : Nat), 0 ≤ n → n ≤ 1048576 → ((sz x : Int) ≤ n → k (n - sz x) = some (hX (n - sz x) t)) → B x n k = some (hX n (sz x + t)))
  (cJ : a.length ≤ 1048576) (n : Int) (bf : 0 ≤ n) (a_ : n ≤ 1048576) : lim (fun m => l m n 0) = some (hX n (gp sz a)) := by
 have key : ∀ i, i ≤ a.length → ∀ n : Int, 0 ≤ n → n ≤ 1048576 → ∀ m, a.length - i < m → l m n (i : Int) = some (hX n (gp sz (a.drop i))) := by
  refine down a.length ?_ ?_
  ·intro n bf _ m hm
   obtain ⟨k, rfl⟩ : ∃ k, m = k + 1 := ⟨m - 1, by omega⟩
   rw [lB, fD (Nat.le_refl _), cond_false, List.drop_of_length_le (Nat.le_refl _)]
   exact qX bf
  ·intro i au ih n bf a_ m hm
   obtain ⟨k, rfl⟩ : ∃ k, m = k + 1 := ⟨m - 1, by omega⟩
   rw [lB, gT au, cond_true, hW _ i au, gS i _ au (by omega), drop_cons a i au]
   simp only [Option.bind_some, gp]
   exact bF _ (List.getElem_mem au) n _ _ bf a_ fun h => ih _ (by omega) (by omega) k (by omega)
 refine i1 (a.length + 1) fun m hm => ?_
 have := key 0 (by omega) n bf a_ m (by omega)
 simpa using this
theorem wI {α : Type} {l : Nat → Int → Int → Option Int} {f : α → Int → Option Int} (sz : α → Nat) (a : List α)
  (lB : ∀ m n i, l (m + 1) n i = cond (decide (i < (a.length : Int))) ((bK a i).bind fun x => (f x n).bind fun y => cond (decide (y < 0)) (some (-1)) (l m y (IntKind.i64.wrap (i + 1)))) (some n))
  (bF : ∀ x ∈ a, ∀ n : Int, 0 ≤ n → n ≤ 1048576 → f x n = some (hX n (sz x))) (cJ : a.length ≤ 1048576) (n : Int) (bf : 0 ≤ n) (a_ : n ≤ 1048576) : lim (fun m => l m n 0) = some (hX n (gp sz a)) :=
 Pu (B := fun x n k => (f x n).bind fun y => cond (decide (y < 0)) (some (-1)) (k y)) sz a lB (fun x aq n _ _ bf a_ aA => p7 (bF x aq n bf a_) aA) cJ n bf a_
theorem ayN {l : Nat → Int → Int → Option Int} (a : List (List UInt8))
  (lB : ∀ m n i, l (m + 1) n i = cond (decide (i < (a.length : Int))) ((bK a i).bind fun x => cond (decide (IntKind.i64.wrap (n - (x.length : Int)) < 0)) (some (-1)) (l m (IntKind.i64.wrap (n - (x.length : Int))) (IntKind.i64.wrap (i + 1)))) (some n))
  (bF : ∀ x ∈ a, x.length ≤ 9223372036854775807) (cJ : a.length ≤ 1048576) (n : Int) (bf : 0 ≤ n) (a_ : n ≤ 1048576) : lim (fun m => l m n 0) = some (hX n (gp List.length a)) :=
 Pu (B := fun x n k => cond (decide (IntKind.i64.wrap (n - (x.length : Int)) < 0)) (some (-1)) (k (IntKind.i64.wrap (n - (x.length : Int))))) List.length a (by intro m n i; rw [lB]) (by
  intro x aq n k t bf a_ aA
  have hl := bF x aq
  refine mH hl bf a_ fun h => ?_
  have e : IntKind.i64.wrap (n - (x.length : Int)) = n - (x.length : Int) := fK _ (by omega)
  rw [e]
  exact aA h) cJ n bf a_
theorem qY {α β : Type} {l : Nat → List β → Int → Option (List β)} {f : α → Option β} (g : α → β) (a : List α) (z : β)
  (lB : ∀ m v i, l (m + 1) v i = cond (decide (i < (a.length : Int))) ((bK a i).bind fun x => (f x).bind fun y => (bK v i).bind fun _ => l m (List.set v (Int.toNat i) y) (IntKind.i64.wrap (i + 1))) (some v))
  (bF : ∀ x ∈ a, f x = some (g x)) (cJ : a.length ≤ 1048576) : lim (fun m => l m (List.replicate (Int.toNat (a.length : Int)) z) 0) = some (a.map g) := by
 have key : ∀ i, i ≤ a.length → ∀ (v : List β) m, v.length = a.length → a.length - i < m → l m v (i : Int) = some (v.take i ++ (a.drop i).map g) := by
  refine down a.length ?_ ?_
  ·intro v m aQ hm
   obtain ⟨k, rfl⟩ : ∃ k, m = k + 1 := ⟨m - 1, by omega⟩
   rw [lB, fD (Nat.le_refl _)]
   simp [← aQ]
  ·intro i au ih v m aQ hm
   obtain ⟨k, rfl⟩ : ∃ k, m = k + 1 := ⟨m - 1, by omega⟩
   rw [lB, gT au, hW _ i au, gS i _ au (by omega)]
   simp only [cond_true, Option.bind_some, bF _ (List.getElem_mem au)]
   rw [hW v i (by omega)]
   simp only [Option.bind_some, Int.toNat_natCast]
   rw [ih _ k (by simp [aQ]) (by omega), drop_cons a i au, List.map_cons, List.take_set, List.take_succ_eq_append_getElem (by omega), List.set_append_right _ _ (by simp; omega)]
   simp [show min i v.length = i by omega]
 refine i1 (a.length + 1) fun m hm => ?_
 have := key 0 (by omega) (List.replicate (Int.toNat (a.length : Int)) z) m (by simp) (by omega)
 simpa using this
theorem pk (b : Nat) {n : Nat} (h : n ≤ 1048576) (ad : b ≤ 4096) : mf b (n : Int) = some () := by
 have ae : b * n ≤ 4096 * 1048576 := Nat.mul_le_mul ad h
 have ah : ((b : Int) * (n : Int)) = ((b * n : Nat) : Int) := by simp
 unfold mf
 rw [if_pos ⟨by omega, by rw [ah]; omega, by omega⟩]
theorem ue {α : Type} {l : Nat → Int → Option Bool} {f : α → α → Option Bool} (a : List α)
  (lB : ∀ m i, l (m + 1) i = cond (decide (i < (a.length : Int))) ((bK a i).bind fun x => (bK a i).bind fun y => (f x y).bind fun z => cond (!z) (some false) (l m (IntKind.i64.wrap (i + 1)))) (some true))
  (bF : ∀ x ∈ a, f x x = some true) (cJ : a.length ≤ 1048576) : lim (fun m => l m 0) = some true := by
 rw [uc (n := a.length) (fun _ => some true)]
 ·intro m
  rw [lB, fD (Nat.le_refl _)]; rfl
 ·intro i au m ih
  rw [lB, gT au, hW _ i au, gS i _ au (by omega), ih]
  simp only [cond_true, Option.bind_some, bF _ (List.getElem_mem au), Bool.not_true, cond_false]
theorem Pv {α : Type} {d : α → α → Bool} {l : Nat → Int → Option Bool} (a : List α)
  (lB : ∀ m i, l (m + 1) i = cond (decide (i < (a.length : Int))) ((bK a i).bind fun x => (bK a i).bind fun y => cond (d x y) (some false) (l m (IntKind.i64.wrap (i + 1)))) (some true))
  (aj : ∀ x, d x x = false) (cJ : a.length ≤ 1048576) : lim (fun m => l m 0) = some true := by
 rw [uc (n := a.length) (fun _ => some true)]
 ·intro m
  rw [lB, fD (Nat.le_refl _)]; rfl
 ·intro i au m ih
  rw [lB, gT au, hW _ i au, gS i _ au (by omega), ih]
  simp only [cond_true, Option.bind_some, aj, cond_false]
theorem r1 (x : Int) : (x != x) = false := by simp
theorem r2 (x : List UInt8) : (!(x == x)) = false := by simp
theorem uf (x : Bool) : (!(x == x)) = false := by simp
theorem qZ (n : Nat) : ((n : Int) != (n : Int)) = false := by simp
def fL (p : Nat → Bool) (n : Nat) : Bool := (List.range n).all p
theorem p8 {p : Nat → Bool} {n : Nat} : fL p n = true ↔ ∀ i, i < n → p i = true := by simp [fL]
theorem aDf {p q : Nat → Bool} {n : Nat} (h : ∀ i, i < n → p i = q i) : fL p n = fL q n := by
 rw [Bool.eq_iff_iff, p8, p8]
 exact ⟨fun az i au => by rw [← h i au]; exact az i au, fun az i au => by rw [h i au]; exact az i au⟩
theorem zM {l : Nat → Int → Option Bool} {n : Nat} (p : Nat → Bool) (bf : ∀ m, l (m + 1) (n : Int) = some true)
  (af : ∀ i, i < n → ∀ m, l (m + 1) (i : Int) = cond (p i) (l m ((i + 1 : Nat) : Int)) (some false)) : lim (fun m => l m 0) = some (fL p n) := by
 rw [uc (n := n) (fun i => some ((List.range' i (n - i)).all p))]
 ·simp [fL, List.range_eq_range']
 ·intro m; rw [bf]; simp
 ·intro i au m ih
  rw [af i au, ih, show n - i = (n - (i + 1)) + 1 by omega, List.range'_succ]
  cases az : p i <;> simp [az]
def p9 (p : Nat → Bool) : Nat → Nat → Int
 | _, 0 => -1
 | i, k + 1 => if p i = true then (i : Int) else p9 p (i + 1) k
theorem Pw {p : Nat → Bool} : ∀ (k i : Nat), (∀ j, i ≤ j → j < i + k → p j = false) → p9 p i k = -1
 | 0, _, _ => rfl
 | k + 1, i, h => by
   simp only [p9, h i (Nat.le_refl _) (by omega)]
   exact Pw k (i + 1) fun j ae ah => h j (by omega) (by omega)
theorem Px {p : Nat → Bool} : ∀ (k i j : Nat), i ≤ j → j < i + k → p j = true → 0 ≤ p9 p i k
 | 0, i, j, ae, ah, _ => by omega
 | k + 1, i, j, ae, ah, aH => by
   simp only [p9]
   split
   ·omega
   ·rename_i h
    refine Px k (i + 1) j ?_ (by omega) aH
    rcases Nat.lt_or_ge i j with h | h
    ·exact h
    ·have : i = j := by omega
     subst this; exact absurd aH (by assumption)
theorem ug (p : Nat → Bool) (n : Nat) : decide (0 ≤ p9 p 0 n) = !(fL (fun i => !p i) n) := by
 by_cases h : ∃ j, j < n ∧ p j = true
 ·obtain ⟨j, ae, ah⟩ := h
  have aH := Px n 0 j (Nat.zero_le _) (by omega) ah
  have a6 : fL (fun i => !p i) n = false := by
   rw [Bool.eq_false_iff]; intro kT
   have := p8.1 kT j ae
   simp [ah] at this
  rw [a6]; simpa using aH
 ·have aH : ∀ j, j < n → p j = false := fun j cH => by
   cases az : p j
   ·rfl
   ·exact absurd ⟨j, cH, az⟩ h
  rw [Pw n 0 fun j _ ah => aH j (by omega)]
  have a6 : fL (fun i => !p i) n = true := p8.2 fun i au => by simp [aH i au]
  rw [a6]; rfl
theorem uh {l : Nat → Int → Option Int} {n : Nat} (p : Nat → Bool) (bf : ∀ m, l (m + 1) (n : Int) = some (-1))
  (af : ∀ i, i < n → ∀ m, l (m + 1) (i : Int) = cond (p i) (some (i : Int)) (l m ((i + 1 : Nat) : Int))) : lim (fun m => l m 0) = some (p9 p 0 n) := by
 rw [uc (n := n) (fun i => some (p9 p i (n - i)))]
 ·simp
 ·intro m; rw [bf]; simp [p9]
 ·intro i au m ih
  rw [af i au, ih, show n - i = (n - (i + 1)) + 1 by omega]
  cases az : p i <;> simp [az, p9]
theorem zN (i : Nat) (h : 0 < i) (a_ : i ≤ 4611686018427387904) : IntKind.i64.wrap ((i : Int) - 1) = ((i - 1 : Nat) : Int) := by
 rw [fK _ (by omega)]; omega
theorem ui : decide ((0 : Int) < ((0 : Nat) : Int)) = false := by decide
theorem H6 {i : Nat} (h : i ≠ 0) : decide ((0 : Int) < (i : Int)) = true := by simp; omega
def ayO (b : Bool) : Int := cond b 1 0
theorem aDg (b : Bool) : (cond b (some 1) (some 0) : Option Int) = some (ayO b) := by cases b <;> rfl
theorem aDh {α : Type} (x : α) (l : List α) : ka (x :: l) 1 (((x :: l).length : Nat) : Int) = some l := by
 unfold ka
 rw [if_pos (by simp only [List.length_cons]; omega)]
 simp
theorem aDi {α : Type} (a b c : List α) {i j : Int} (au : i = (a.length : Int)) (cH : j = ((a.length + b.length : Nat) : Int)) : ka (a ++ (b ++ c)) i j = some b := by
 unfold ka
 have aU : i.toNat = a.length := by omega
 have ba : j.toNat = a.length + b.length := by omega
 rw [if_pos (by simp only [List.length_append]; omega), aU, ba, ← List.append_assoc, List.take_left' (by simp), List.drop_left' rfl]
theorem aDj {b n : Nat} (h : n * b ≤ 140737488355328) (ah : n ≤ 9223372036854775807) : room b n = some () := by unfold room; rw [if_pos ⟨h, ah⟩]
end Go.e1
