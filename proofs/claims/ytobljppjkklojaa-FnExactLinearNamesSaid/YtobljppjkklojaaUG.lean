/- Part of a proof that a law returns true for every input. No condition. -/
import Derived.Test.YtobljppjkklojaaU0
namespace Go.fH
open Go Go.cM
def hD (n : Int) (s : Nat) : Int := if (s : Int) ≤ n then n - s else -1
theorem zD {n : Int} {s : Nat} (h : (s : Int) ≤ n) : hD n s = n - s := if_pos h
theorem wu {n : Int} {s : Nat} (h : n < s) : hD n s = -1 := if_neg (by omega)
theorem YR {n : Int} (h : 0 ≤ n) : hD n 0 = n := by rw [zD (by simpa using h)]; simp
theorem pE {f : Option Int} {k : Int → Option Int} {n : Int} {s t : Nat} (bL : f = some (hD n s)) (aw : (s : Int) ≤ n → k (n - s) = some (hD (n - s) t)) :
  (f.bind fun x => cond (decide (x < 0)) (some (-1)) (k x)) = some (hD n (s + t)) := by
 rw [bL]
 simp only [Option.bind_some]
 by_cases h : (s : Int) ≤ n
 ·rw [zD h]
  have : decide (n - (s : Int) < 0) = false := by simp; omega
  rw [this, cond_false, aw h]
  congr 1
  unfold hD
  by_cases ab : (t : Int) ≤ n - s
  ·rw [if_pos ab, if_pos (by omega)]; omega
  ·rw [if_neg ab, if_neg (by omega)]
 ·rw [wu (by omega)]
  have : decide ((-1 : Int) < 0) = true := by decide
  rw [this, cond_true, wu (by omega)]
theorem rn {K : Option Int} {n : Int} {s t : Nat} (U : s ≤ 9223372036854775807) (bp : 0 ≤ n) (bh : n ≤ 1048576) (aw : (s : Int) ≤ n → K = some (hD (n - s) t)) :
  cond (decide (IntKind.i64.wrap (n - (s : Int)) < 0)) (some (-1)) K = some (hD n (s + t)) := by
 rw [gH _ (by omega)]
 by_cases h : (s : Int) ≤ n
 ·have : decide (n - (s : Int) < 0) = false := by simp; omega
  rw [this, cond_false, aw h]
  congr 1
  unfold hD
  by_cases ab : (t : Int) ≤ n - s
  ·rw [if_pos ab, if_pos (by omega)]; omega
  ·rw [if_neg ab, if_neg (by omega)]
 ·have : decide (n - (s : Int) < 0) = true := by simp; omega
  rw [this, cond_true, wu (by omega)]
theorem tp {n : Int} (h : 0 ≤ n) : some n = some (hD n 0) := by rw [YR h]
def ef {α : Type} (f : α → Nat) : List α → Nat
 | [] => 0
 | x :: r => f x + ef f r
theorem Fi {α : Type} {f : α → Nat} : ∀ {l : List α} {x : α}, x ∈ l → f x ≤ ef f l
 | y :: r, x, h => by
   simp only [ef]
   rcases List.mem_cons.1 h with rfl | h
   ·omega
   ·have := Fi (f := f) h; omega
theorem Fj {α β : Type} {f : β → Nat} {g : α → β} : ∀ l : List α, ef f (l.map g) = ef (fun x => f (g x)) l
 | [] => rfl
 | x :: r => by simp only [List.map_cons, ef, Fj r]
def c8 {α : Type} (f : α → Nat) (l : List α) : Nat := l.length + ef f l
theorem Fk {α β : Type} (f : β → Nat) (g : α → β) (l : List α) : c8 f (l.map g) = c8 (fun x => f (g x)) l := by simp only [c8, List.length_map, Fj]
theorem mR {α : Type} (f : α → Nat) (l : List α) : l.length ≤ c8 f l := Nat.le_add_right _ _
theorem rp {α : Type} {f : α → Nat} {l : List α} {x : α} (h : x ∈ l) : f x ≤ c8 f l := Nat.le_trans (Fi h) (Nat.le_add_left _ _)
theorem Fl {α : Type} {l : Nat → Int → Int → Option Int} {B : α → Int → (Int → Option Int) → Option Int} (sz : α → Nat) (a : List α)
  (i5 : ∀ m n i, l (m + 1) n i = cond (decide (i < (a.length : Int))) ((cx a i).bind fun x => B x n fun y => l m y (IntKind.i64.wrap (i + 1))) (some n))
  (bL : ∀ x ∈ a, ∀ (n : Int) (k : Int → Option Int) (t : Nat), 0 ≤ n → n ≤ 1048576 → ((sz x : Int) ≤ n → k (n - sz x) = some (hD (n - sz x) t)) → B x n k = some (hD n (sz x + t)))
  (b1 : a.length ≤ 1048576) (n : Int) (bp : 0 ≤ n) (bh : n ≤ 1048576) : lim (fun m => l m n 0) = some (hD n (ef sz a)) := by
 have key : ∀ i, i ≤ a.length → ∀ n : Int, 0 ≤ n → n ≤ 1048576 → ∀ m, a.length - i < m → l m n (i : Int) = some (hD n (ef sz (a.drop i))) := by
  refine down a.length ?_ ?_
  ·intro n bp _ m hm
   obtain ⟨k, rfl⟩ : ∃ k, m = k + 1 := ⟨m - 1, by omega⟩
   rw [i5, gI (Nat.le_refl _), cond_false, List.drop_of_length_le (Nat.le_refl _)]
   exact tp bp
  ·intro i az ih n bp bh m hm
   obtain ⟨k, rfl⟩ : ∃ k, m = k + 1 := ⟨m - 1, by omega⟩
   rw [i5, h0 az, cond_true, gT _ i az, hZ i _ az (by omega), drop_cons a i az]
   simp only [Option.bind_some, ef]
   exact bL _ (List.getElem_mem az) n _ _ bp bh fun h => ih _ (by omega) (by omega) k (by omega)
 refine h1 (a.length + 1) fun m hm => ?_
 have := key 0 (by omega) n bp bh m (by omega)
 simpa using this
theorem Fm {α : Type} {l : Nat → Int → Int → Option Int} {f : α → Int → Option Int} (sz : α → Nat) (a : List α)
  (i5 : ∀ m n i, l (m + 1) n i = cond (decide (i < (a.length : Int))) ((cx a i).bind fun x => (f x n).bind fun y => cond (decide (y < 0)) (some (-1)) (l m y (IntKind.i64.wrap (i + 1)))) (some n))
  (bL : ∀ x ∈ a, ∀ n : Int, 0 ≤ n → n ≤ 1048576 → f x n = some (hD n (sz x))) (b1 : a.length ≤ 1048576) (n : Int) (bp : 0 ≤ n) (bh : n ≤ 1048576) : lim (fun m => l m n 0) = some (hD n (ef sz a)) :=
 Fl (B := fun x n k => (f x n).bind fun y => cond (decide (y < 0)) (some (-1)) (k y)) sz a i5 (fun x ai n _ _ bp bh aw => pE (bL x ai n bp bh) aw) b1 n bp bh
theorem abW {l : Nat → Int → Int → Option Int} (a : List (List UInt8))
  (i5 : ∀ m n i, l (m + 1) n i = cond (decide (i < (a.length : Int))) ((cx a i).bind fun x => cond (decide (IntKind.i64.wrap (n - (x.length : Int)) < 0)) (some (-1)) (l m (IntKind.i64.wrap (n - (x.length : Int))) (IntKind.i64.wrap (i + 1)))) (some n))
  (bL : ∀ x ∈ a, x.length ≤ 9223372036854775807) (b1 : a.length ≤ 1048576) (n : Int) (bp : 0 ≤ n) (bh : n ≤ 1048576) : lim (fun m => l m n 0) = some (hD n (ef List.length a)) :=
 Fl (B := fun x n k => cond (decide (IntKind.i64.wrap (n - (x.length : Int)) < 0)) (some (-1)) (k (IntKind.i64.wrap (n - (x.length : Int))))) List.length a (by intro m n i; rw [i5]) (by
  intro x ai n k t bp bh aw
  have hl := bL x ai
  refine rn hl bp bh fun h => ?_
  have e : IntKind.i64.wrap (n - (x.length : Int)) = n - (x.length : Int) := gH _ (by omega)
  rw [e]
  exact aw h) b1 n bp bh
theorem wv {α β : Type} {l : Nat → List β → Int → Option (List β)} {f : α → Option β} (g : α → β) (a : List α) (z : β)
  (i5 : ∀ m v i, l (m + 1) v i = cond (decide (i < (a.length : Int))) ((cx a i).bind fun x => (f x).bind fun y => (cx v i).bind fun _ => l m (List.set v (Int.toNat i) y) (IntKind.i64.wrap (i + 1))) (some v))
  (bL : ∀ x ∈ a, f x = some (g x)) (b1 : a.length ≤ 1048576) : lim (fun m => l m (List.replicate (Int.toNat (a.length : Int)) z) 0) = some (a.map g) := by
 have key : ∀ i, i ≤ a.length → ∀ (v : List β) m, v.length = a.length → a.length - i < m → l m v (i : Int) = some (v.take i ++ (a.drop i).map g) := by
  refine down a.length ?_ ?_
  ·intro v m aG hm
   obtain ⟨k, rfl⟩ : ∃ k, m = k + 1 := ⟨m - 1, by omega⟩
   rw [i5, gI (Nat.le_refl _)]
   simp [← aG]
  ·intro i az ih v m aG hm
   obtain ⟨k, rfl⟩ : ∃ k, m = k + 1 := ⟨m - 1, by omega⟩
   rw [i5, h0 az, gT _ i az, hZ i _ az (by omega)]
   simp only [cond_true, Option.bind_some, bL _ (List.getElem_mem az)]
   rw [gT v i (by omega)]
   simp only [Option.bind_some, Int.toNat_natCast]
   rw [ih _ k (by simp [aG]) (by omega), drop_cons a i az, List.map_cons, List.take_set, List.take_succ_eq_append_getElem (by omega), List.set_append_right _ _ (by simp; omega)]
   simp [show min i v.length = i by omega]
 refine h1 (a.length + 1) fun m hm => ?_
 have := key 0 (by omega) (List.replicate (Int.toNat (a.length : Int)) z) m (by simp) (by omega)
 simpa using this
theorem wx (b : Nat) {n : Nat} (h : n ≤ 1048576) (J : b ≤ 4096) : lQ b (n : Int) = some () := by
 have aa : b * n ≤ 4096 * 1048576 := Nat.mul_le_mul J h
 have ab : ((b : Int) * (n : Int)) = ((b * n : Nat) : Int) := by simp
 unfold lQ
 rw [if_pos ⟨by omega, by rw [ab]; omega, by omega⟩]
theorem zE {α : Type} {l : Nat → Int → Option Bool} {f : α → α → Option Bool} (a : List α)
  (i5 : ∀ m i, l (m + 1) i = cond (decide (i < (a.length : Int))) ((cx a i).bind fun x => (cx a i).bind fun y => (f x y).bind fun z => cond (!z) (some false) (l m (IntKind.i64.wrap (i + 1)))) (some true))
  (bL : ∀ x ∈ a, f x x = some true) (b1 : a.length ≤ 1048576) : lim (fun m => l m 0) = some true := by
 rw [rm (n := a.length) (fun _ => some true)]
 ·intro m
  rw [i5, gI (Nat.le_refl _)]; rfl
 ·intro i az m ih
  rw [i5, h0 az, gT _ i az, hZ i _ az (by omega), ih]
  simp only [cond_true, Option.bind_some, bL _ (List.getElem_mem az), Bool.not_true, cond_false]
theorem Fo {α : Type} {d : α → α → Bool} {l : Nat → Int → Option Bool} (a : List α)
  (i5 : ∀ m i, l (m + 1) i = cond (decide (i < (a.length : Int))) ((cx a i).bind fun x => (cx a i).bind fun y => cond (d x y) (some false) (l m (IntKind.i64.wrap (i + 1)))) (some true))
  (af : ∀ x, d x x = false) (b1 : a.length ≤ 1048576) : lim (fun m => l m 0) = some true := by
 rw [rm (n := a.length) (fun _ => some true)]
 ·intro m
  rw [i5, gI (Nat.le_refl _)]; rfl
 ·intro i az m ih
  rw [i5, h0 az, gT _ i az, hZ i _ az (by omega), ih]
  simp only [cond_true, Option.bind_some, af, cond_false]
theorem wy (x : Int) : (x != x) = false := by simp
theorem wz (x : List UInt8) : (!(x == x)) = false := by simp
theorem zF (x : Bool) : (!(x == x)) = false := by simp
theorem tq (n : Nat) : ((n : Int) != (n : Int)) = false := by simp
def nr (p : Nat → Bool) (n : Nat) : Bool := (List.range n).all p
theorem wA {p : Nat → Bool} {n : Nat} : nr p n = true ↔ ∀ i, i < n → p i = true := by simp [nr]
theorem abX {p q : Nat → Bool} {n : Nat} (h : ∀ i, i < n → p i = q i) : nr p n = nr q n := by
 rw [Bool.eq_iff_iff, wA, wA]
 exact ⟨fun ao i az => by rw [← h i az]; exact ao i az, fun ao i az => by rw [h i az]; exact ao i az⟩
theorem abY {l : Nat → Int → Option Bool} {n : Nat} (p : Nat → Bool) (bp : ∀ m, l (m + 1) (n : Int) = some true)
  (U : ∀ i, i < n → ∀ m, l (m + 1) (i : Int) = cond (p i) (l m ((i + 1 : Nat) : Int)) (some false)) : lim (fun m => l m 0) = some (nr p n) := by
 rw [rm (n := n) (fun i => some ((List.range' i (n - i)).all p))]
 ·simp [nr, List.range_eq_range']
 ·intro m; rw [bp]; simp
 ·intro i az m ih
  rw [U i az, ih, show n - i = (n - (i + 1)) + 1 by omega, List.range'_succ]
  cases ao : p i <;> simp [ao]
def mS (p : Nat → Bool) : Nat → Nat → Int
 | _, 0 => -1
 | i, k + 1 => if p i = true then (i : Int) else mS p (i + 1) k
theorem Fp {p : Nat → Bool} : ∀ (k i : Nat), (∀ ar, i ≤ ar → ar < i + k → p ar = false) → mS p i k = -1
 | 0, _, _ => rfl
 | k + 1, i, h => by
   simp only [mS, h i (Nat.le_refl _) (by omega)]
   exact Fp k (i + 1) fun ar aa ab => h ar (by omega) (by omega)
theorem Fq {p : Nat → Bool} : ∀ (k i ar : Nat), i ≤ ar → ar < i + k → p ar = true → 0 ≤ mS p i k
 | 0, i, ar, aa, ab, _ => by omega
 | k + 1, i, ar, aa, ab, aE => by
   simp only [mS]
   split
   ·omega
   ·rename_i h
    refine Fq k (i + 1) ar ?_ (by omega) aE
    rcases Nat.lt_or_ge i ar with h | h
    ·exact h
    ·have : i = ar := by omega
     subst this; exact absurd aE (by assumption)
theorem abZ (p : Nat → Bool) (n : Nat) : decide (0 ≤ mS p 0 n) = !(nr (fun i => !p i) n) := by
 by_cases h : ∃ ar, ar < n ∧ p ar = true
 ·obtain ⟨ar, aa, ab⟩ := h
  have aE := Fq n 0 ar (Nat.zero_le _) (by omega) ab
  have aZ : nr (fun i => !p i) n = false := by
   rw [Bool.eq_false_iff]; intro kd
   have := wA.1 kd ar aa
   simp [ab] at this
  rw [aZ]; simpa using aE
 ·have aE : ∀ ar, ar < n → p ar = false := fun ar cc => by
   cases ao : p ar
   ·rfl
   ·exact absurd ⟨ar, cc, ao⟩ h
  rw [Fp n 0 fun ar _ ab => aE ar (by omega)]
  have aZ : nr (fun i => !p i) n = true := wA.2 fun i az => by simp [aE i az]
  rw [aZ]; rfl
theorem ab0 {l : Nat → Int → Option Int} {n : Nat} (p : Nat → Bool) (bp : ∀ m, l (m + 1) (n : Int) = some (-1))
  (U : ∀ i, i < n → ∀ m, l (m + 1) (i : Int) = cond (p i) (some (i : Int)) (l m ((i + 1 : Nat) : Int))) : lim (fun m => l m 0) = some (mS p 0 n) := by
 rw [rm (n := n) (fun i => some (mS p i (n - i)))]
 ·simp
 ·intro m; rw [bp]; simp [mS]
 ·intro i az m ih
  rw [U i az, ih, show n - i = (n - (i + 1)) + 1 by omega]
  cases ao : p i <;> simp [ao, mS]
theorem YS (i : Nat) (h : 0 < i) (bh : i ≤ 4611686018427387904) : IntKind.i64.wrap ((i : Int) - 1) = ((i - 1 : Nat) : Int) := by
 rw [gH _ (by omega)]; omega
theorem ab1 : decide ((0 : Int) < ((0 : Nat) : Int)) = false := by decide
theorem ab2 {i : Nat} (h : i ≠ 0) : decide ((0 : Int) < (i : Int)) = true := by simp; omega
def YT (b : Bool) : Int := cond b 1 0
theorem ab3 (b : Bool) : (cond b (some 1) (some 0) : Option Int) = some (YT b) := by cases b <;> rfl
theorem YU {α : Type} (x : α) (l : List α) : gU (x :: l) 1 (((x :: l).length : Nat) : Int) = some l := by
 unfold gU
 rw [if_pos (by simp only [List.length_cons]; omega)]
 simp
theorem ab4 {α : Type} (a b c : List α) {i ar : Int} (az : i = (a.length : Int)) (cc : ar = ((a.length + b.length : Nat) : Int)) : gU (a ++ (b ++ c)) i ar = some b := by
 unfold gU
 have aJ : i.toNat = a.length := by omega
 have aT : ar.toNat = a.length + b.length := by omega
 rw [if_pos (by simp only [List.length_append]; omega), aJ, aT, ← List.append_assoc, List.take_left' (by simp), List.drop_left' rfl]
theorem rq {b n : Nat} (h : n * b ≤ 140737488355328) (ab : n ≤ 9223372036854775807) : room b n = some () := by unfold room; rw [if_pos ⟨h, ab⟩]
end Go.fH
