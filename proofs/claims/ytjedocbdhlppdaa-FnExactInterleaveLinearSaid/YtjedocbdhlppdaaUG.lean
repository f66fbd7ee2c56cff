/- Part of a proof that a law returns true for every input. No condition. -/
import Derived.Test.YtjedocbdhlppdaaU0
namespace Go.gV
open Go Go.dp
def iU (n : Int) (s : Nat) : Int := if (s : Int) ≤ n then n - s else -1
theorem zH {n : Int} {s : Nat} (h : (s : Int) ≤ n) : iU n s = n - s := if_pos h
theorem wF {n : Int} {s : Nat} (h : n < s) : iU n s = -1 := if_neg (by omega)
theorem ah6 {n : Int} (h : 0 ≤ n) : iU n 0 = n := by rw [zH (by simpa using h)]; simp
theorem rV {f : Option Int} {k : Int → Option Int} {n : Int} {s t : Nat} (bY : f = some (iU n s)) (aB : (s : Int) ≤ n → k (n - s) = some (iU (n - s) t)) :
  (f.bind fun x => cond (decide (x < 0)) (some (-1)) (k x)) = some (iU n (s + t)) := by
 rw [bY]
 simp only [Option.bind_some]
 by_cases h : (s : Int) ≤ n
 ·rw [zH h]
  have : decide (n - (s : Int) < 0) = false := by simp; omega
  rw [this, cond_false, aB h]
  congr 1
  unfold iU
  by_cases ah : (t : Int) ≤ n - s
  ·rw [if_pos ah, if_pos (by omega)]; omega
  ·rw [if_neg ah, if_neg (by omega)]
 ·rw [wF (by omega)]
  have : decide ((-1 : Int) < 0) = true := by decide
  rw [this, cond_true, wF (by omega)]
theorem tE {K : Option Int} {n : Int} {s t : Nat} (ab : s ≤ 9223372036854775807) (bM : 0 ≤ n) (bh : n ≤ 1048576) (aB : (s : Int) ≤ n → K = some (iU (n - s) t)) :
  cond (decide (IntKind.i64.wrap (n - (s : Int)) < 0)) (some (-1)) K = some (iU n (s + t)) := by
 rw [hi _ (by omega)]
 by_cases h : (s : Int) ≤ n
 ·have : decide (n - (s : Int) < 0) = false := by simp; omega
  rw [this, cond_false, aB h]
  congr 1
  unfold iU
  by_cases ah : (t : Int) ≤ n - s
  ·rw [if_pos ah, if_pos (by omega)]; omega
  ·rw [if_neg ah, if_neg (by omega)]
 ·have : decide (n - (s : Int) < 0) = true := by simp; omega
  rw [this, cond_true, wF (by omega)]
theorem wG {n : Int} (h : 0 ≤ n) : some n = some (iU n 0) := by rw [ah6 h]
def e4 {α : Type} (f : α → Nat) : List α → Nat
 | [] => 0
 | x :: r => f x + e4 f r
theorem JX {α : Type} {f : α → Nat} : ∀ {l : List α} {x : α}, x ∈ l → f x ≤ e4 f l
 | y :: r, x, h => by
   simp only [e4]
   rcases List.mem_cons.1 h with rfl | h
   ·omega
   ·have := JX (f := f) h; omega
theorem JY {α β : Type} {f : β → Nat} {g : α → β} : ∀ l : List α, e4 f (l.map g) = e4 (fun x => f (g x)) l
 | [] => rfl
 | x :: r => by simp only [List.map_cons, e4, JY r]
def gY {α : Type} (f : α → Nat) (l : List α) : Nat := l.length + e4 f l
theorem JZ {α β : Type} (f : β → Nat) (g : α → β) (l : List α) : gY f (l.map g) = gY (fun x => f (g x)) l := by simp only [gY, List.length_map, JY]
theorem qj {α : Type} (f : α → Nat) (l : List α) : l.length ≤ gY f l := Nat.le_add_right _ _
theorem tF {α : Type} {f : α → Nat} {l : List α} {x : α} (h : x ∈ l) : f x ≤ gY f l := Nat.le_trans (JX h) (Nat.le_add_left _ _)
theorem J0 {α : Type} {l : Nat → Int → Int → Option Int} {B : α → Int → (Int → Option Int) → Option Int} (sz : α → Nat) (a : List α)
  (kk : ∀ m n i, l (m + 1) n i = cond (decide (i < (a.length : Int))) ((cw a i).bind fun x => B x n fun y => l m y (IntKind.i64.wrap (i + 1))) (some n))
  (bY : ∀ x ∈ a, ∀ (n : Int) (k : Int → Option Int) (t : Nat), 0 ≤ n → n ≤ 1048576 → ((sz x : Int) ≤ n → k (n - sz x) = some (iU (n - sz x) t)) → B x n k = some (iU n (sz x + t)))
  (bX : a.length ≤ 1048576) (n : Int) (bM : 0 ≤ n) (bh : n ≤ 1048576) : cX (fun m => l m n 0) = some (iU n (e4 sz a)) := by
 have key : ∀ i, i ≤ a.length → ∀ n : Int, 0 ≤ n → n ≤ 1048576 → ∀ m, a.length - i < m → l m n (i : Int) = some (iU n (e4 sz (a.drop i))) := by
  refine down a.length ?_ ?_
  ·intro n bM _ m hm
   obtain ⟨k, rfl⟩ : ∃ k, m = k + 1 := ⟨m - 1, by omega⟩
   rw [kk, fe (Nat.le_refl _), cond_false, List.drop_of_length_le (Nat.le_refl _)]
   exact wG bM
  ·intro i au ih n bM bh m hm
   obtain ⟨k, rfl⟩ : ∃ k, m = k + 1 := ⟨m - 1, by omega⟩
   rw [kk, gj au, cond_true, gE _ i au, gi i _ au (by omega), drop_cons a i au]
   simp only [Option.bind_some, e4]
   exact bY _ (List.getElem_mem au) n _ _ bM bh fun h => ih _ (by omega) (by omega) k (by omega)
 refine i7 (a.length + 1) fun m hm => ?_
 have := key 0 (by omega) n bM bh m (by omega)
 simpa using this
theorem J1 {α : Type} {l : Nat → Int → Int → Option Int} {f : α → Int → Option Int} (sz : α → Nat) (a : List α)
  (kk : ∀ m n i, l (m + 1) n i = cond (decide (i < (a.length : Int))) ((cw a i).bind fun x => (f x n).bind fun y => cond (decide (y < 0)) (some (-1)) (l m y (IntKind.i64.wrap (i + 1)))) (some n))
  (bY : ∀ x ∈ a, ∀ n : Int, 0 ≤ n → n ≤ 1048576 → f x n = some (iU n (sz x))) (bX : a.length ≤ 1048576) (n : Int) (bM : 0 ≤ n) (bh : n ≤ 1048576) : cX (fun m => l m n 0) = some (iU n (e4 sz a)) :=
 J0 (B := fun x n k => (f x n).bind fun y => cond (decide (y < 0)) (some (-1)) (k y)) sz a kk (fun x aw n _ _ bM bh aB => rV (bY x aw n bM bh) aB) bX n bM bh
theorem ak4 {l : Nat → Int → Int → Option Int} (a : List (List UInt8))
  (kk : ∀ m n i, l (m + 1) n i = cond (decide (i < (a.length : Int))) ((cw a i).bind fun x => cond (decide (IntKind.i64.wrap (n - (x.length : Int)) < 0)) (some (-1)) (l m (IntKind.i64.wrap (n - (x.length : Int))) (IntKind.i64.wrap (i + 1)))) (some n))
  (bY : ∀ x ∈ a, x.length ≤ 9223372036854775807) (bX : a.length ≤ 1048576) (n : Int) (bM : 0 ≤ n) (bh : n ≤ 1048576) : cX (fun m => l m n 0) = some (iU n (e4 List.length a)) :=
 J0 (B := fun x n k => cond (decide (IntKind.i64.wrap (n - (x.length : Int)) < 0)) (some (-1)) (k (IntKind.i64.wrap (n - (x.length : Int))))) List.length a (by intro m n i; rw [kk]) (by
  intro x aw n k t bM bh aB
  have hl := bY x aw
  refine tE hl bM bh fun h => ?_
  have e : IntKind.i64.wrap (n - (x.length : Int)) = n - (x.length : Int) := hi _ (by omega)
  rw [e]
  exact aB h) bX n bM bh
theorem zI {α β : Type} {l : Nat → List β → Int → Option (List β)} {f : α → Option β} (g : α → β) (a : List α) (z : β)
  (kk : ∀ m v i, l (m + 1) v i = cond (decide (i < (a.length : Int))) ((cw a i).bind fun x => (f x).bind fun y => (cw v i).bind fun _ => l m (List.set v (Int.toNat i) y) (IntKind.i64.wrap (i + 1))) (some v))
  (bY : ∀ x ∈ a, f x = some (g x)) (bX : a.length ≤ 1048576) : cX (fun m => l m (List.replicate (Int.toNat (a.length : Int)) z) 0) = some (a.map g) := by
 have key : ∀ i, i ≤ a.length → ∀ (v : List β) m, v.length = a.length → a.length - i < m → l m v (i : Int) = some (v.take i ++ (a.drop i).map g) := by
  refine down a.length ?_ ?_
  ·intro v m aQ hm
   obtain ⟨k, rfl⟩ : ∃ k, m = k + 1 := ⟨m - 1, by omega⟩
   rw [kk, fe (Nat.le_refl _)]
   simp [← aQ]
  ·intro i au ih v m aQ hm
   obtain ⟨k, rfl⟩ : ∃ k, m = k + 1 := ⟨m - 1, by omega⟩
   rw [kk, gj au, gE _ i au, gi i _ au (by omega)]
   simp only [cond_true, Option.bind_some, bY _ (List.getElem_mem au)]
   rw [gE v i (by omega)]
   simp only [Option.bind_some, Int.toNat_natCast]
   rw [ih _ k (by simp [aQ]) (by omega), drop_cons a i au, List.map_cons, List.take_set, List.take_succ_eq_append_getElem (by omega), List.set_append_right _ _ (by simp; omega)]
   simp [show min i v.length = i by omega]
 refine i7 (a.length + 1) fun m hm => ?_
 have := key 0 (by omega) (List.replicate (Int.toNat (a.length : Int)) z) m (by simp) (by omega)
 simpa using this
theorem zJ (b : Nat) {n : Nat} (h : n ≤ 1048576) (U : b ≤ 4096) : lG b (n : Int) = some () := by
 have ag : b * n ≤ 4096 * 1048576 := Nat.mul_le_mul U h
 have ah : ((b : Int) * (n : Int)) = ((b * n : Nat) : Int) := by simp
 unfold lG
 rw [if_pos ⟨by omega, by rw [ah]; omega, by omega⟩]
theorem Dg {α : Type} {l : Nat → Int → Option Bool} {f : α → α → Option Bool} (a : List α)
  (kk : ∀ m i, l (m + 1) i = cond (decide (i < (a.length : Int))) ((cw a i).bind fun x => (cw a i).bind fun y => (f x y).bind fun z => cond (!z) (some false) (l m (IntKind.i64.wrap (i + 1)))) (some true))
  (bY : ∀ x ∈ a, f x x = some true) (bX : a.length ≤ 1048576) : cX (fun m => l m 0) = some true := by
 rw [tD (n := a.length) (fun _ => some true)]
 ·intro m
  rw [kk, fe (Nat.le_refl _)]; rfl
 ·intro i au m ih
  rw [kk, gj au, gE _ i au, gi i _ au (by omega), ih]
  simp only [cond_true, Option.bind_some, bY _ (List.getElem_mem au), Bool.not_true, cond_false]
theorem ah7 {α : Type} {d : α → α → Bool} {l : Nat → Int → Option Bool} (a : List α)
  (kk : ∀ m i, l (m + 1) i = cond (decide (i < (a.length : Int))) ((cw a i).bind fun x => (cw a i).bind fun y => cond (d x y) (some false) (l m (IntKind.i64.wrap (i + 1)))) (some true))
  (ak : ∀ x, d x x = false) (bX : a.length ≤ 1048576) : cX (fun m => l m 0) = some true := by
 rw [tD (n := a.length) (fun _ => some true)]
 ·intro m
  rw [kk, fe (Nat.le_refl _)]; rfl
 ·intro i au m ih
  rw [kk, gj au, gE _ i au, gi i _ au (by omega), ih]
  simp only [cond_true, Option.bind_some, ak, cond_false]
theorem zK (x : Int) : (x != x) = false := by simp
theorem Dh (x : List UInt8) : (!(x == x)) = false := by simp
theorem Di (x : Bool) : (!(x == x)) = false := by simp
theorem zL (n : Nat) : ((n : Int) != (n : Int)) = false := by simp
def o8 (p : Nat → Bool) (n : Nat) : Bool := (List.range n).all p
theorem zM {p : Nat → Bool} {n : Nat} : o8 p n = true ↔ ∀ i, i < n → p i = true := by simp [o8]
theorem ak5 {p q : Nat → Bool} {n : Nat} (h : ∀ i, i < n → p i = q i) : o8 p n = o8 q n := by
 rw [Bool.eq_iff_iff, zM, zM]
 exact ⟨fun ay i au => by rw [← h i au]; exact ay i au, fun ay i au => by rw [h i au]; exact ay i au⟩
theorem ak6 {l : Nat → Int → Option Bool} {n : Nat} (p : Nat → Bool) (bM : ∀ m, l (m + 1) (n : Int) = some true)
  (ab : ∀ i, i < n → ∀ m, l (m + 1) (i : Int) = cond (p i) (l m ((i + 1 : Nat) : Int)) (some false)) : cX (fun m => l m 0) = some (o8 p n) := by
 rw [tD (n := n) (fun i => some ((List.range' i (n - i)).all p))]
 ·simp [o8, List.range_eq_range']
 ·intro m; rw [bM]; simp
 ·intro i au m ih
  rw [ab i au, ih, show n - i = (n - (i + 1)) + 1 by omega, List.range'_succ]
  cases ay : p i <;> simp [ay]
def ot (p : Nat → Bool) : Nat → Nat → Int
 | _, 0 => -1
 | i, k + 1 => if p i = true then (i : Int) else ot p (i + 1) k
theorem J2 {p : Nat → Bool} : ∀ (k i : Nat), (∀ aK, i ≤ aK → aK < i + k → p aK = false) → ot p i k = -1
 | 0, _, _ => rfl
 | k + 1, i, h => by
   simp only [ot, h i (Nat.le_refl _) (by omega)]
   exact J2 k (i + 1) fun aK ag ah => h aK (by omega) (by omega)
theorem J3 {p : Nat → Bool} : ∀ (k i aK : Nat), i ≤ aK → aK < i + k → p aK = true → 0 ≤ ot p i k
 | 0, i, aK, ag, ah, _ => by omega
 | k + 1, i, aK, ag, ah, aM => by
   simp only [ot]
   split
   ·omega
   ·rename_i h
    refine J3 k (i + 1) aK ?_ (by omega) aM
    rcases Nat.lt_or_ge i aK with h | h
    ·exact h
    ·have : i = aK := by omega
     subst this; exact absurd aM (by assumption)
theorem ak7 (p : Nat → Bool) (n : Nat) : decide (0 ≤ ot p 0 n) = !(o8 (fun i => !p i) n) := by
 by_cases h : ∃ aK, aK < n ∧ p aK = true
 ·obtain ⟨aK, ag, ah⟩ := h
  have aM := J3 n 0 aK (Nat.zero_le _) (by omega) ah
  have bd : o8 (fun i => !p i) n = false := by
   rw [Bool.eq_false_iff]; intro kJ
   have := zM.1 kJ aK ag
   simp [ah] at this
  rw [bd]; simpa using aM
 ·have aM : ∀ aK, aK < n → p aK = false := fun aK cS => by
   cases ay : p aK
   ·rfl
   ·exact absurd ⟨aK, cS, ay⟩ h
  rw [J2 n 0 fun aK _ ah => aM aK (by omega)]
  have bd : o8 (fun i => !p i) n = true := zM.2 fun i au => by simp [aM i au]
  rw [bd]; rfl
theorem ak8 {l : Nat → Int → Option Int} {n : Nat} (p : Nat → Bool) (bM : ∀ m, l (m + 1) (n : Int) = some (-1))
  (ab : ∀ i, i < n → ∀ m, l (m + 1) (i : Int) = cond (p i) (some (i : Int)) (l m ((i + 1 : Nat) : Int))) : cX (fun m => l m 0) = some (ot p 0 n) := by
 rw [tD (n := n) (fun i => some (ot p i (n - i)))]
 ·simp
 ·intro m; rw [bM]; simp [ot]
 ·intro i au m ih
  rw [ab i au, ih, show n - i = (n - (i + 1)) + 1 by omega]
  cases ay : p i <;> simp [ay, ot]
theorem ak9 (i : Nat) (h : 0 < i) (bh : i ≤ 4611686018427387904) : IntKind.i64.wrap ((i : Int) - 1) = ((i - 1 : Nat) : Int) := by
 rw [hi _ (by omega)]; omega
theorem ak_ : decide ((0 : Int) < ((0 : Nat) : Int)) = false := by decide
theorem ala {i : Nat} (h : i ≠ 0) : decide ((0 : Int) < (i : Int)) = true := by simp; omega
def ah8 (b : Bool) : Int := cond b 1 0
theorem alb (b : Bool) : (cond b (some 1) (some 0) : Option Int) = some (ah8 b) := by cases b <;> rfl
theorem alc {α : Type} (x : α) (l : List α) : iD (x :: l) 1 (((x :: l).length : Nat) : Int) = some l := by
 unfold iD
 rw [if_pos (by simp only [List.length_cons]; omega)]
 simp
theorem ald {α : Type} (a b c : List α) {i aK : Int} (au : i = (a.length : Int)) (cS : aK = ((a.length + b.length : Nat) : Int)) : iD (a ++ (b ++ c)) i aK = some b := by
 unfold iD
 have a1 : i.toNat = a.length := by omega
 have bg : aK.toNat = a.length + b.length := by omega
 rw [if_pos (by simp only [List.length_append]; omega), a1, bg, ← List.append_assoc, List.take_left' (by simp), List.drop_left' rfl]
theorem iV {b n : Nat} (h : n * b ≤ 140737488355328) (ah : n ≤ 9223372036854775807) : room b n = some () := by unfold room; rw [if_pos ⟨h, ah⟩]
end Go.gV
