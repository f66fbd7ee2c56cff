/- Part of a proof that a law returns true for every input. No condition. -/
import Derived.Test.YtbemmmimelklkaaGreatU0
namespace Go.fJ
open Go Go.dg
def hM (n : Int) (s : Nat) : Int := if (s : Int) ≤ n then n - s else -1
theorem vj {n : Int} {s : Nat} (h : (s : Int) ≤ n) : hM n s = n - s := if_pos h
theorem yy {n : Int} {s : Nat} (h : n < s) : hM n s = -1 := if_neg (by omega)
theorem asy {n : Int} (h : 0 ≤ n) : hM n 0 = n := by rw [vj (by simpa using h)]; simp
theorem pW {f : Option Int} {k : Int → Option Int} {n : Int} {s t : Nat} (bF : f = some (hM n s)) (aE : (s : Int) ≤ n → k (n - s) = some (hM (n - s) t)) :
  (f.bind fun x => cond (decide (x < 0)) (some (-1)) (k x)) = some (hM n (s + t)) := by
 rw [bF]
 simp only [Option.bind_some]
 by_cases h : (s : Int) ≤ n
 ·rw [vj h]
  have : decide (n - (s : Int) < 0) = false := by simp; omega
  rw [this, cond_false, aE h]
  congr 1
  unfold hM
  by_cases aj : (t : Int) ≤ n - s
  ·rw [if_pos aj, if_pos (by omega)]; omega
  ·rw [if_neg aj, if_neg (by omega)]
 ·rw [yy (by omega)]
  have : decide ((-1 : Int) < 0) = true := by decide
  rw [this, cond_true, yy (by omega)]
theorem mr {K : Option Int} {n : Int} {s t : Nat} (ah : s ≤ 9223372036854775807) (ba : 0 ≤ n) (bd : n ≤ 1048576) (aE : (s : Int) ≤ n → K = some (hM (n - s) t)) :
  cond (decide (IntKind.i64.wrap (n - (s : Int)) < 0)) (some (-1)) K = some (hM n (s + t)) := by
 rw [fY _ (by omega)]
 by_cases h : (s : Int) ≤ n
 ·have : decide (n - (s : Int) < 0) = false := by simp; omega
  rw [this, cond_false, aE h]
  congr 1
  unfold hM
  by_cases aj : (t : Int) ≤ n - s
  ·rw [if_pos aj, if_pos (by omega)]; omega
  ·rw [if_neg aj, if_neg (by omega)]
 ·have : decide (n - (s : Int) < 0) = true := by simp; omega
  rw [this, cond_true, yy (by omega)]
theorem qZ {n : Int} (h : 0 ≤ n) : some n = some (hM n 0) := by rw [asy h]
def gA {α : Type} (f : α → Nat) : List α → Nat
 | [] => 0
 | x :: r => f x + gA f r
theorem ME {α : Type} {f : α → Nat} : ∀ {l : List α} {x : α}, x ∈ l → f x ≤ gA f l
 | y :: r, x, h => by
   simp only [gA]
   rcases List.mem_cons.1 h with rfl | h
   ·omega
   ·have := ME (f := f) h; omega
theorem MF {α β : Type} {f : β → Nat} {g : α → β} : ∀ l : List α, gA f (l.map g) = gA (fun x => f (g x)) l
 | [] => rfl
 | x :: r => by simp only [List.map_cons, gA, MF r]
def dm {α : Type} (f : α → Nat) (l : List α) : Nat := l.length + gA f l
theorem vk {α β : Type} (f : β → Nat) (g : α → β) (l : List α) : dm f (l.map g) = dm (fun x => f (g x)) l := by simp only [dm, List.length_map, MF]
theorem iq {α : Type} (f : α → Nat) (l : List α) : l.length ≤ dm f l := Nat.le_add_right _ _
theorem kN {α : Type} {f : α → Nat} {l : List α} {x : α} (h : x ∈ l) : f x ≤ dm f l := Nat.le_trans (ME h) (Nat.le_add_left _ _)
theorem MG {α : Type} {l : Nat → Int → Int → Option Int} {B : α → Int → (Int → Option Int) → Option Int} (sz : α → Nat) (a : List α)
  (lT : ∀ m n i, l (m + 1) n i = cond (decide (i < (a.length : Int))) ((bI a i).bind fun x => B x n fun y => l m y (IntKind.i64.wrap (i + 1))) (some n))
  (bF : ∀ x ∈ a, ∀ (n : Int) (k : Int → Option Int) (t : Nat), 0 ≤ n → n ≤ 1048576 → ((sz x : Int) ≤ n → k (n - sz x) = some (hM (n - sz x) t)) → B x n k = some (hM n (sz x + t)))
  (cw : a.length ≤ 1048576) (n : Int) (ba : 0 ≤ n) (bd : n ≤ 1048576) : cO (fun m => l m n 0) = some (hM n (gA sz a)) := by
 have key : ∀ i, i ≤ a.length → ∀ n : Int, 0 ≤ n → n ≤ 1048576 → ∀ m, a.length - i < m → l m n (i : Int) = some (hM n (gA sz (a.drop i))) := by
  refine down a.length ?_ ?_
  ·intro n ba _ m hm
   obtain ⟨k, rfl⟩ : ∃ k, m = k + 1 := ⟨m - 1, by omega⟩
   rw [lT, fw (Nat.le_refl _), cond_false, List.drop_of_length_le (Nat.le_refl _)]
   exact qZ ba
  ·intro i ar ih n ba bd m hm
   obtain ⟨k, rfl⟩ : ∃ k, m = k + 1 := ⟨m - 1, by omega⟩
   rw [lT, gz ar, cond_true, hD _ i ar, gy i _ ar (by omega), drop_cons a i ar]
   simp only [Option.bind_some, gA]
   exact bF _ (List.getElem_mem ar) n _ _ ba bd fun h => ih _ (by omega) (by omega) k (by omega)
 refine ir (a.length + 1) fun m hm => ?_
 have := key 0 (by omega) n ba bd m (by omega)
 simpa using this
theorem yz {α : Type} {l : Nat → Int → Int → Option Int} {f : α → Int → Option Int} (sz : α → Nat) (a : List α)
  (lT : ∀ m n i, l (m + 1) n i = cond (decide (i < (a.length : Int))) ((bI a i).bind fun x => (f x n).bind fun y => cond (decide (y < 0)) (some (-1)) (l m y (IntKind.i64.wrap (i + 1)))) (some n))
  (bF : ∀ x ∈ a, ∀ n : Int, 0 ≤ n → n ≤ 1048576 → f x n = some (hM n (sz x))) (cw : a.length ≤ 1048576) (n : Int) (ba : 0 ≤ n) (bd : n ≤ 1048576) : cO (fun m => l m n 0) = some (hM n (gA sz a)) :=
 MG (B := fun x n k => (f x n).bind fun y => cond (decide (y < 0)) (some (-1)) (k y)) sz a lT (fun x aA n _ _ ba bd aE => pW (bF x aA n ba bd) aE) cw n ba bd
theorem asz {l : Nat → Int → Int → Option Int} (a : List (List UInt8))
  (lT : ∀ m n i, l (m + 1) n i = cond (decide (i < (a.length : Int))) ((bI a i).bind fun x => cond (decide (IntKind.i64.wrap (n - (x.length : Int)) < 0)) (some (-1)) (l m (IntKind.i64.wrap (n - (x.length : Int))) (IntKind.i64.wrap (i + 1)))) (some n))
  (bF : ∀ x ∈ a, x.length ≤ 9223372036854775807) (cw : a.length ≤ 1048576) (n : Int) (ba : 0 ≤ n) (bd : n ≤ 1048576) : cO (fun m => l m n 0) = some (hM n (gA List.length a)) :=
 MG (B := fun x n k => cond (decide (IntKind.i64.wrap (n - (x.length : Int)) < 0)) (some (-1)) (k (IntKind.i64.wrap (n - (x.length : Int))))) List.length a (by intro m n i; rw [lT]) (by
  intro x aA n k t ba bd aE
  have hl := bF x aA
  refine mr hl ba bd fun h => ?_
  have e : IntKind.i64.wrap (n - (x.length : Int)) = n - (x.length : Int) := fY _ (by omega)
  rw [e]
  exact aE h) cw n ba bd
theorem q0 {α β : Type} {l : Nat → List β → Int → Option (List β)} {f : α → Option β} (g : α → β) (a : List α) (z : β)
  (lT : ∀ m v i, l (m + 1) v i = cond (decide (i < (a.length : Int))) ((bI a i).bind fun x => (f x).bind fun y => (bI v i).bind fun _ => l m (List.set v (Int.toNat i) y) (IntKind.i64.wrap (i + 1))) (some v))
  (bF : ∀ x ∈ a, f x = some (g x)) (cw : a.length ≤ 1048576) : cO (fun m => l m (List.replicate (Int.toNat (a.length : Int)) z) 0) = some (a.map g) := by
 have key : ∀ i, i ≤ a.length → ∀ (v : List β) m, v.length = a.length → a.length - i < m → l m v (i : Int) = some (v.take i ++ (a.drop i).map g) := by
  refine down a.length ?_ ?_
  ·intro v m a2 hm
   obtain ⟨k, rfl⟩ : ∃ k, m = k + 1 := ⟨m - 1, by omega⟩
   rw [lT, fw (Nat.le_refl _)]
   simp [← a2]
  ·intro i ar ih v m a2 hm
   obtain ⟨k, rfl⟩ : ∃ k, m = k + 1 := ⟨m - 1, by omega⟩
   rw [lT, gz ar, hD _ i ar, gy i _ ar (by omega)]
   simp only [cond_true, Option.bind_some, bF _ (List.getElem_mem ar)]
   rw [hD v i (by omega)]
   simp only [Option.bind_some, Int.toNat_natCast]
   rw [ih _ k (by simp [a2]) (by omega), drop_cons a i ar, List.map_cons, List.take_set, List.take_succ_eq_append_getElem (by omega), List.set_append_right _ _ (by simp; omega)]
   simp [show min i v.length = i by omega]
 refine ir (a.length + 1) fun m hm => ?_
 have := key 0 (by omega) (List.replicate (Int.toNat (a.length : Int)) z) m (by simp) (by omega)
 simpa using this
theorem pX (b : Nat) {n : Nat} (h : n ≤ 1048576) (ae : b ≤ 4096) : mx b (n : Int) = some () := by
 have ai : b * n ≤ 4096 * 1048576 := Nat.mul_le_mul ae h
 have aj : ((b : Int) * (n : Int)) = ((b * n : Nat) : Int) := by simp
 unfold mx
 rw [if_pos ⟨by omega, by rw [aj]; omega, by omega⟩]
theorem sZ {α : Type} {l : Nat → Int → Option Bool} {f : α → α → Option Bool} (a : List α)
  (lT : ∀ m i, l (m + 1) i = cond (decide (i < (a.length : Int))) ((bI a i).bind fun x => (bI a i).bind fun y => (f x y).bind fun z => cond (!z) (some false) (l m (IntKind.i64.wrap (i + 1)))) (some true))
  (bF : ∀ x ∈ a, f x x = some true) (cw : a.length ≤ 1048576) : cO (fun m => l m 0) = some true := by
 rw [sY (n := a.length) (fun _ => some true)]
 ·intro m
  rw [lT, fw (Nat.le_refl _)]; rfl
 ·intro i ar m ih
  rw [lT, gz ar, hD _ i ar, gy i _ ar (by omega), ih]
  simp only [cond_true, Option.bind_some, bF _ (List.getElem_mem ar), Bool.not_true, cond_false]
theorem MH {α : Type} {d : α → α → Bool} {l : Nat → Int → Option Bool} (a : List α)
  (lT : ∀ m i, l (m + 1) i = cond (decide (i < (a.length : Int))) ((bI a i).bind fun x => (bI a i).bind fun y => cond (d x y) (some false) (l m (IntKind.i64.wrap (i + 1)))) (some true))
  (al : ∀ x, d x x = false) (cw : a.length ≤ 1048576) : cO (fun m => l m 0) = some true := by
 rw [sY (n := a.length) (fun _ => some true)]
 ·intro m
  rw [lT, fw (Nat.le_refl _)]; rfl
 ·intro i ar m ih
  rw [lT, gz ar, hD _ i ar, gy i _ ar (by omega), ih]
  simp only [cond_true, Option.bind_some, al, cond_false]
theorem s0 (x : Int) : (x != x) = false := by simp
theorem s3 (x : List UInt8) : (!(x == x)) = false := by simp
theorem vl (x : Bool) : (!(x == x)) = false := by simp
theorem pY (n : Nat) : ((n : Int) != (n : Int)) = false := by simp
def fG (p : Nat → Bool) (n : Nat) : Bool := (List.range n).all p
theorem pf {p : Nat → Bool} {n : Nat} : fG p n = true ↔ ∀ i, i < n → p i = true := by simp [fG]
theorem awJ {p q : Nat → Bool} {n : Nat} (h : ∀ i, i < n → p i = q i) : fG p n = fG q n := by
 rw [Bool.eq_iff_iff, pf, pf]
 exact ⟨fun ax i ar => by rw [← h i ar]; exact ax i ar, fun ax i ar => by rw [h i ar]; exact ax i ar⟩
theorem Cm {l : Nat → Int → Option Bool} {n : Nat} (p : Nat → Bool) (ba : ∀ m, l (m + 1) (n : Int) = some true)
  (ah : ∀ i, i < n → ∀ m, l (m + 1) (i : Int) = cond (p i) (l m ((i + 1 : Nat) : Int)) (some false)) : cO (fun m => l m 0) = some (fG p n) := by
 rw [sY (n := n) (fun i => some ((List.range' i (n - i)).all p))]
 ·simp [fG, List.range_eq_range']
 ·intro m; rw [ba]; simp
 ·intro i ar m ih
  rw [ah i ar, ih, show n - i = (n - (i + 1)) + 1 by omega, List.range'_succ]
  cases ax : p i <;> simp [ax]
def pg (p : Nat → Bool) : Nat → Nat → Int
 | _, 0 => -1
 | i, k + 1 => if p i = true then (i : Int) else pg p (i + 1) k
theorem MI {p : Nat → Bool} : ∀ (k i : Nat), (∀ j, i ≤ j → j < i + k → p j = false) → pg p i k = -1
 | 0, _, _ => rfl
 | k + 1, i, h => by
   simp only [pg, h i (Nat.le_refl _) (by omega)]
   exact MI k (i + 1) fun j ai aj => h j (by omega) (by omega)
theorem MJ {p : Nat → Bool} : ∀ (k i j : Nat), i ≤ j → j < i + k → p j = true → 0 ≤ pg p i k
 | 0, i, j, ai, aj, _ => by omega
 | k + 1, i, j, ai, aj, aP => by
   simp only [pg]
   split
   ·omega
   ·rename_i h
    refine MJ k (i + 1) j ?_ (by omega) aP
    rcases Nat.lt_or_ge i j with h | h
    ·exact h
    ·have : i = j := by omega
     subst this; exact absurd aP (by assumption)
theorem vm (p : Nat → Bool) (n : Nat) : decide (0 ≤ pg p 0 n) = !(fG (fun i => !p i) n) := by
 by_cases h : ∃ j, j < n ∧ p j = true
 ·obtain ⟨j, ai, aj⟩ := h
  have aP := MJ n 0 j (Nat.zero_le _) (by omega) aj
  have bb : fG (fun i => !p i) n = false := by
   rw [Bool.eq_false_iff]; intro kS
   have := pf.1 kS j ai
   simp [aj] at this
  rw [bb]; simpa using aP
 ·have aP : ∀ j, j < n → p j = false := fun j cx => by
   cases ax : p j
   ·rfl
   ·exact absurd ⟨j, cx, ax⟩ h
  rw [MI n 0 fun j _ aj => aP j (by omega)]
  have bb : fG (fun i => !p i) n = true := pf.2 fun i ar => by simp [aP i ar]
  rw [bb]; rfl
theorem vn {l : Nat → Int → Option Int} {n : Nat} (p : Nat → Bool) (ba : ∀ m, l (m + 1) (n : Int) = some (-1))
  (ah : ∀ i, i < n → ∀ m, l (m + 1) (i : Int) = cond (p i) (some (i : Int)) (l m ((i + 1 : Nat) : Int))) : cO (fun m => l m 0) = some (pg p 0 n) := by
 rw [sY (n := n) (fun i => some (pg p i (n - i)))]
 ·simp
 ·intro m; rw [ba]; simp [pg]
 ·intro i ar m ih
  rw [ah i ar, ih, show n - i = (n - (i + 1)) + 1 by omega]
  cases ax : p i <;> simp [ax, pg]
theorem vo (i : Nat) (h : 0 < i) (bd : i ≤ 4611686018427387904) : IntKind.i64.wrap ((i : Int) - 1) = ((i - 1 : Nat) : Int) := by
 rw [fY _ (by omega)]; omega
theorem s4 : decide ((0 : Int) < ((0 : Nat) : Int)) = false := by decide
theorem F8 {i : Nat} (h : i ≠ 0) : decide ((0 : Int) < (i : Int)) = true := by simp; omega
def asA (b : Bool) : Int := cond b 1 0
theorem awK (b : Bool) : (cond b (some 1) (some 0) : Option Int) = some (asA b) := by cases b <;> rfl
theorem awL {α : Type} (x : α) (l : List α) : jx (x :: l) 1 (((x :: l).length : Nat) : Int) = some l := by
 unfold jx
 rw [if_pos (by simp only [List.length_cons]; omega)]
 simp
theorem awM {α : Type} (a b c : List α) {i j : Int} (ar : i = (a.length : Int)) (cx : j = ((a.length + b.length : Nat) : Int)) : jx (a ++ (b ++ c)) i j = some b := by
 unfold jx
 have a4 : i.toNat = a.length := by omega
 have a_ : j.toNat = a.length + b.length := by omega
 rw [if_pos (by simp only [List.length_append]; omega), a4, a_, ← List.append_assoc, List.take_left' (by simp), List.drop_left' rfl]
theorem Cn {b n : Nat} (h : n * b ≤ 140737488355328) (aj : n ≤ 9223372036854775807) : room b n = some () := by unfold room; rw [if_pos ⟨h, aj⟩]
end Go.fJ
