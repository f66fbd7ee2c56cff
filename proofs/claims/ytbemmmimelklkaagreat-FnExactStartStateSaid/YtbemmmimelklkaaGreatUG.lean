/- Part of a proof that a law returns true for every input. No condition. -/
import Derived.Test.YtbemmmimelklkaaGreatU0
namespace Go.f_
open Go Go.dk
def hJ (n : Int) (s : Nat) : Int := if (s : Int) ≤ n then n - s else -1
theorem uU {n : Int} {s : Nat} (h : (s : Int) ≤ n) : hJ n s = n - s := if_pos h
theorem x6 {n : Int} {s : Nat} (h : n < s) : hJ n s = -1 := if_neg (by omega)
theorem asu {n : Int} (h : 0 ≤ n) : hJ n 0 = n := by rw [uU (by simpa using h)]; simp
theorem pG {f : Option Int} {k : Int → Option Int} {n : Int} {s t : Nat} (bH : f = some (hJ n s)) (aE : (s : Int) ≤ n → k (n - s) = some (hJ (n - s) t)) :
  (f.bind fun x => cond (decide (x < 0)) (some (-1)) (k x)) = some (hJ n (s + t)) := by
 rw [bH]
 simp only [Option.bind_some]
 by_cases h : (s : Int) ≤ n
 ·rw [uU h]
  have : decide (n - (s : Int) < 0) = false := by simp; omega
  rw [this, cond_false, aE h]
  congr 1
  unfold hJ
  by_cases aj : (t : Int) ≤ n - s
  ·rw [if_pos aj, if_pos (by omega)]; omega
  ·rw [if_neg aj, if_neg (by omega)]
 ·rw [x6 (by omega)]
  have : decide ((-1 : Int) < 0) = true := by decide
  rw [this, cond_true, x6 (by omega)]
theorem mg {K : Option Int} {n : Int} {s t : Nat} (ah : s ≤ 9223372036854775807) (a9 : 0 ≤ n) (bg : n ≤ 1048576) (aE : (s : Int) ≤ n → K = some (hJ (n - s) t)) :
  cond (decide (IntKind.i64.wrap (n - (s : Int)) < 0)) (some (-1)) K = some (hJ n (s + t)) := by
 rw [fQ _ (by omega)]
 by_cases h : (s : Int) ≤ n
 ·have : decide (n - (s : Int) < 0) = false := by simp; omega
  rw [this, cond_false, aE h]
  congr 1
  unfold hJ
  by_cases aj : (t : Int) ≤ n - s
  ·rw [if_pos aj, if_pos (by omega)]; omega
  ·rw [if_neg aj, if_neg (by omega)]
 ·have : decide (n - (s : Int) < 0) = true := by simp; omega
  rw [this, cond_true, x6 (by omega)]
theorem qG {n : Int} (h : 0 ≤ n) : some n = some (hJ n 0) := by rw [asu h]
def gD {α : Type} (f : α → Nat) : List α → Nat
 | [] => 0
 | x :: r => f x + gD f r
theorem Md {α : Type} {f : α → Nat} : ∀ {l : List α} {x : α}, x ∈ l → f x ≤ gD f l
 | y :: r, x, h => by
   simp only [gD]
   rcases List.mem_cons.1 h with rfl | h
   ·omega
   ·have := Md (f := f) h; omega
theorem Me {α β : Type} {f : β → Nat} {g : α → β} : ∀ l : List α, gD f (l.map g) = gD (fun x => f (g x)) l
 | [] => rfl
 | x :: r => by simp only [List.map_cons, gD, Me r]
def de {α : Type} (f : α → Nat) (l : List α) : Nat := l.length + gD f l
theorem sF {α β : Type} (f : β → Nat) (g : α → β) (l : List α) : de f (l.map g) = de (fun x => f (g x)) l := by simp only [de, List.length_map, Me]
theorem ik {α : Type} (f : α → Nat) (l : List α) : l.length ≤ de f l := Nat.le_add_right _ _
theorem kG {α : Type} {f : α → Nat} {l : List α} {x : α} (h : x ∈ l) : f x ≤ de f l := Nat.le_trans (Md h) (Nat.le_add_left _ _)
theorem Mf {α : Type} {l : Nat → Int → Int → Option Int} {B : α → Int → (Int → Option Int) → Option Int} (sz : α → Nat) (a : List α)
  (lM : ∀ m n i, l (m + 1) n i = cond (decide (i < (a.length : Int))) ((bM a i).bind fun x => B x n fun y => l m y (IntKind.i64.wrap (i + 1))) (some n))
  (bH : ∀ x ∈ a, ∀ (n : Int) (k : Int → Option Int) (t : Nat), 0 ≤ n → n ≤ 1048576 → ((sz x : Int) ≤ n → k (n - sz x) = some (hJ (n - sz x) t)) → B x n k = some (hJ n (sz x + t)))
  (cw : a.length ≤ 1048576) (n : Int) (a9 : 0 ≤ n) (bg : n ≤ 1048576) : cV (fun m => l m n 0) = some (hJ n (gD sz a)) := by
 have key : ∀ i, i ≤ a.length → ∀ n : Int, 0 ≤ n → n ≤ 1048576 → ∀ m, a.length - i < m → l m n (i : Int) = some (hJ n (gD sz (a.drop i))) := by
  refine down a.length ?_ ?_
  ·intro n a9 _ m hm
   obtain ⟨k, rfl⟩ : ∃ k, m = k + 1 := ⟨m - 1, by omega⟩
   rw [lM, fH (Nat.le_refl _), cond_false, List.drop_of_length_le (Nat.le_refl _)]
   exact qG a9
  ·intro i au ih n a9 bg m hm
   obtain ⟨k, rfl⟩ : ∃ k, m = k + 1 := ⟨m - 1, by omega⟩
   rw [lM, gM au, cond_true, h2 _ i au, gL i _ au (by omega), drop_cons a i au]
   simp only [Option.bind_some, gD]
   exact bH _ (List.getElem_mem au) n _ _ a9 bg fun h => ih _ (by omega) (by omega) k (by omega)
 refine iS (a.length + 1) fun m hm => ?_
 have := key 0 (by omega) n a9 bg m (by omega)
 simpa using this
theorem x7 {α : Type} {l : Nat → Int → Int → Option Int} {f : α → Int → Option Int} (sz : α → Nat) (a : List α)
  (lM : ∀ m n i, l (m + 1) n i = cond (decide (i < (a.length : Int))) ((bM a i).bind fun x => (f x n).bind fun y => cond (decide (y < 0)) (some (-1)) (l m y (IntKind.i64.wrap (i + 1)))) (some n))
  (bH : ∀ x ∈ a, ∀ n : Int, 0 ≤ n → n ≤ 1048576 → f x n = some (hJ n (sz x))) (cw : a.length ≤ 1048576) (n : Int) (a9 : 0 ≤ n) (bg : n ≤ 1048576) : cV (fun m => l m n 0) = some (hJ n (gD sz a)) :=
 Mf (B := fun x n k => (f x n).bind fun y => cond (decide (y < 0)) (some (-1)) (k y)) sz a lM (fun x aC n _ _ a9 bg aE => pG (bH x aC n a9 bg) aE) cw n a9 bg
theorem asv {l : Nat → Int → Int → Option Int} (a : List (List UInt8))
  (lM : ∀ m n i, l (m + 1) n i = cond (decide (i < (a.length : Int))) ((bM a i).bind fun x => cond (decide (IntKind.i64.wrap (n - (x.length : Int)) < 0)) (some (-1)) (l m (IntKind.i64.wrap (n - (x.length : Int))) (IntKind.i64.wrap (i + 1)))) (some n))
  (bH : ∀ x ∈ a, x.length ≤ 9223372036854775807) (cw : a.length ≤ 1048576) (n : Int) (a9 : 0 ≤ n) (bg : n ≤ 1048576) : cV (fun m => l m n 0) = some (hJ n (gD List.length a)) :=
 Mf (B := fun x n k => cond (decide (IntKind.i64.wrap (n - (x.length : Int)) < 0)) (some (-1)) (k (IntKind.i64.wrap (n - (x.length : Int))))) List.length a (by intro m n i; rw [lM]) (by
  intro x aC n k t a9 bg aE
  have hl := bH x aC
  refine mg hl a9 bg fun h => ?_
  have e : IntKind.i64.wrap (n - (x.length : Int)) = n - (x.length : Int) := fQ _ (by omega)
  rw [e]
  exact aE h) cw n a9 bg
theorem qH {α β : Type} {l : Nat → List β → Int → Option (List β)} {f : α → Option β} (g : α → β) (a : List α) (z : β)
  (lM : ∀ m v i, l (m + 1) v i = cond (decide (i < (a.length : Int))) ((bM a i).bind fun x => (f x).bind fun y => (bM v i).bind fun _ => l m (List.set v (Int.toNat i) y) (IntKind.i64.wrap (i + 1))) (some v))
  (bH : ∀ x ∈ a, f x = some (g x)) (cw : a.length ≤ 1048576) : cV (fun m => l m (List.replicate (Int.toNat (a.length : Int)) z) 0) = some (a.map g) := by
 have key : ∀ i, i ≤ a.length → ∀ (v : List β) m, v.length = a.length → a.length - i < m → l m v (i : Int) = some (v.take i ++ (a.drop i).map g) := by
  refine down a.length ?_ ?_
  ·intro v m a3 hm
   obtain ⟨k, rfl⟩ : ∃ k, m = k + 1 := ⟨m - 1, by omega⟩
   rw [lM, fH (Nat.le_refl _)]
   simp [← a3]
  ·intro i au ih v m a3 hm
   obtain ⟨k, rfl⟩ : ∃ k, m = k + 1 := ⟨m - 1, by omega⟩
   rw [lM, gM au, h2 _ i au, gL i _ au (by omega)]
   simp only [cond_true, Option.bind_some, bH _ (List.getElem_mem au)]
   rw [h2 v i (by omega)]
   simp only [Option.bind_some, Int.toNat_natCast]
   rw [ih _ k (by simp [a3]) (by omega), drop_cons a i au, List.map_cons, List.take_set, List.take_succ_eq_append_getElem (by omega), List.set_append_right _ _ (by simp; omega)]
   simp [show min i v.length = i by omega]
 refine iS (a.length + 1) fun m hm => ?_
 have := key 0 (by omega) (List.replicate (Int.toNat (a.length : Int)) z) m (by simp) (by omega)
 simpa using this
theorem pH (b : Nat) {n : Nat} (h : n ≤ 1048576) (ae : b ≤ 4096) : mj b (n : Int) = some () := by
 have ai : b * n ≤ 4096 * 1048576 := Nat.mul_le_mul ae h
 have aj : ((b : Int) * (n : Int)) = ((b * n : Nat) : Int) := by simp
 unfold mj
 rw [if_pos ⟨by omega, by rw [aj]; omega, by omega⟩]
theorem sG {α : Type} {l : Nat → Int → Option Bool} {f : α → α → Option Bool} (a : List α)
  (lM : ∀ m i, l (m + 1) i = cond (decide (i < (a.length : Int))) ((bM a i).bind fun x => (bM a i).bind fun y => (f x y).bind fun z => cond (!z) (some false) (l m (IntKind.i64.wrap (i + 1)))) (some true))
  (bH : ∀ x ∈ a, f x x = some true) (cw : a.length ≤ 1048576) : cV (fun m => l m 0) = some true := by
 rw [sE (n := a.length) (fun _ => some true)]
 ·intro m
  rw [lM, fH (Nat.le_refl _)]; rfl
 ·intro i au m ih
  rw [lM, gM au, h2 _ i au, gL i _ au (by omega), ih]
  simp only [cond_true, Option.bind_some, bH _ (List.getElem_mem au), Bool.not_true, cond_false]
theorem Mg {α : Type} {d : α → α → Bool} {l : Nat → Int → Option Bool} (a : List α)
  (lM : ∀ m i, l (m + 1) i = cond (decide (i < (a.length : Int))) ((bM a i).bind fun x => (bM a i).bind fun y => cond (d x y) (some false) (l m (IntKind.i64.wrap (i + 1)))) (some true))
  (al : ∀ x, d x x = false) (cw : a.length ≤ 1048576) : cV (fun m => l m 0) = some true := by
 rw [sE (n := a.length) (fun _ => some true)]
 ·intro m
  rw [lM, fH (Nat.le_refl _)]; rfl
 ·intro i au m ih
  rw [lM, gM au, h2 _ i au, gL i _ au (by omega), ih]
  simp only [cond_true, Option.bind_some, al, cond_false]
theorem qI (x : Int) : (x != x) = false := by simp
theorem qJ (x : List UInt8) : (!(x == x)) = false := by simp
theorem sH (x : Bool) : (!(x == x)) = false := by simp
theorem pI (n : Nat) : ((n : Int) != (n : Int)) = false := by simp
def fI (p : Nat → Bool) (n : Nat) : Bool := (List.range n).all p
theorem o3 {p : Nat → Bool} {n : Nat} : fI p n = true ↔ ∀ i, i < n → p i = true := by simp [fI]
theorem awA {p q : Nat → Bool} {n : Nat} (h : ∀ i, i < n → p i = q i) : fI p n = fI q n := by
 rw [Bool.eq_iff_iff, o3, o3]
 exact ⟨fun ax i au => by rw [← h i au]; exact ax i au, fun ax i au => by rw [h i au]; exact ax i au⟩
theorem BZ {l : Nat → Int → Option Bool} {n : Nat} (p : Nat → Bool) (a9 : ∀ m, l (m + 1) (n : Int) = some true)
  (ah : ∀ i, i < n → ∀ m, l (m + 1) (i : Int) = cond (p i) (l m ((i + 1 : Nat) : Int)) (some false)) : cV (fun m => l m 0) = some (fI p n) := by
 rw [sE (n := n) (fun i => some ((List.range' i (n - i)).all p))]
 ·simp [fI, List.range_eq_range']
 ·intro m; rw [a9]; simp
 ·intro i au m ih
  rw [ah i au, ih, show n - i = (n - (i + 1)) + 1 by omega, List.range'_succ]
  cases ax : p i <;> simp [ax]
def o4 (p : Nat → Bool) : Nat → Nat → Int
 | _, 0 => -1
 | i, k + 1 => if p i = true then (i : Int) else o4 p (i + 1) k
theorem Mh {p : Nat → Bool} : ∀ (k i : Nat), (∀ j, i ≤ j → j < i + k → p j = false) → o4 p i k = -1
 | 0, _, _ => rfl
 | k + 1, i, h => by
   simp only [o4, h i (Nat.le_refl _) (by omega)]
   exact Mh k (i + 1) fun j ai aj => h j (by omega) (by omega)
theorem Mi {p : Nat → Bool} : ∀ (k i j : Nat), i ≤ j → j < i + k → p j = true → 0 ≤ o4 p i k
 | 0, i, j, ai, aj, _ => by omega
 | k + 1, i, j, ai, aj, aQ => by
   simp only [o4]
   split
   ·omega
   ·rename_i h
    refine Mi k (i + 1) j ?_ (by omega) aQ
    rcases Nat.lt_or_ge i j with h | h
    ·exact h
    ·have : i = j := by omega
     subst this; exact absurd aQ (by assumption)
theorem uV (p : Nat → Bool) (n : Nat) : decide (0 ≤ o4 p 0 n) = !(fI (fun i => !p i) n) := by
 by_cases h : ∃ j, j < n ∧ p j = true
 ·obtain ⟨j, ai, aj⟩ := h
  have aQ := Mi n 0 j (Nat.zero_le _) (by omega) aj
  have bd : fI (fun i => !p i) n = false := by
   rw [Bool.eq_false_iff]; intro kL
   have := o3.1 kL j ai
   simp [aj] at this
  rw [bd]; simpa using aQ
 ·have aQ : ∀ j, j < n → p j = false := fun j cJ => by
   cases ax : p j
   ·rfl
   ·exact absurd ⟨j, cJ, ax⟩ h
  rw [Mh n 0 fun j _ aj => aQ j (by omega)]
  have bd : fI (fun i => !p i) n = true := o3.2 fun i au => by simp [aQ i au]
  rw [bd]; rfl
theorem uW {l : Nat → Int → Option Int} {n : Nat} (p : Nat → Bool) (a9 : ∀ m, l (m + 1) (n : Int) = some (-1))
  (ah : ∀ i, i < n → ∀ m, l (m + 1) (i : Int) = cond (p i) (some (i : Int)) (l m ((i + 1 : Nat) : Int))) : cV (fun m => l m 0) = some (o4 p 0 n) := by
 rw [sE (n := n) (fun i => some (o4 p i (n - i)))]
 ·simp
 ·intro m; rw [a9]; simp [o4]
 ·intro i au m ih
  rw [ah i au, ih, show n - i = (n - (i + 1)) + 1 by omega]
  cases ax : p i <;> simp [ax, o4]
theorem x8 (i : Nat) (h : 0 < i) (bg : i ≤ 4611686018427387904) : IntKind.i64.wrap ((i : Int) - 1) = ((i - 1 : Nat) : Int) := by
 rw [fQ _ (by omega)]; omega
theorem sI : decide ((0 : Int) < ((0 : Nat) : Int)) = false := by decide
theorem FL {i : Nat} (h : i ≠ 0) : decide ((0 : Int) < (i : Int)) = true := by simp; omega
def asw (b : Bool) : Int := cond b 1 0
theorem awB (b : Bool) : (cond b (some 1) (some 0) : Option Int) = some (asw b) := by cases b <;> rfl
theorem awC {α : Type} (x : α) (l : List α) : js (x :: l) 1 (((x :: l).length : Nat) : Int) = some l := by
 unfold js
 rw [if_pos (by simp only [List.length_cons]; omega)]
 simp
theorem awD {α : Type} (a b c : List α) {i j : Int} (au : i = (a.length : Int)) (cJ : j = ((a.length + b.length : Nat) : Int)) : js (a ++ (b ++ c)) i j = some b := by
 unfold js
 have a4 : i.toNat = a.length := by omega
 have a_ : j.toNat = a.length + b.length := by omega
 rw [if_pos (by simp only [List.length_append]; omega), a4, a_, ← List.append_assoc, List.take_left' (by simp), List.drop_left' rfl]
theorem B0 {b n : Nat} (h : n * b ≤ 140737488355328) (aj : n ≤ 9223372036854775807) : room b n = some () := by unfold room; rw [if_pos ⟨h, aj⟩]
end Go.f_
