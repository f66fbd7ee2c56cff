/- Part of a proof that a law returns true for every input. No condition. -/
import Derived.Test.YtgpmnlkgmadglaaGreatDoorU0
namespace Go.eV
open Go Go.c0
def hB (n : Int) (s : Nat) : Int := if (s : Int) ≤ n then n - s else -1
theorem sU {n : Int} {s : Nat} (h : (s : Int) ≤ n) : hB n s = n - s := if_pos h
theorem u9 {n : Int} {s : Nat} (h : n < s) : hB n s = -1 := if_neg (by omega)
theorem aum {n : Int} (h : 0 ≤ n) : hB n 0 = n := by rw [sU (by simpa using h)]; simp
theorem pk {f : Option Int} {k : Int → Option Int} {n : Int} {s t : Nat} (br : f = some (hB n s)) (az : (s : Int) ≤ n → k (n - s) = some (hB (n - s) t)) :
  (f.bind fun x => cond (decide (x < 0)) (some (-1)) (k x)) = some (hB n (s + t)) := by
 rw [br]
 simp only [Option.bind_some]
 by_cases h : (s : Int) ≤ n
 ·rw [sU h]
  have : decide (n - (s : Int) < 0) = false := by simp; omega
  rw [this, cond_false, az h]
  congr 1
  unfold hB
  by_cases ah : (t : Int) ≤ n - s
  ·rw [if_pos ah, if_pos (by omega)]; omega
  ·rw [if_neg ah, if_neg (by omega)]
 ·rw [u9 (by omega)]
  have : decide ((-1 : Int) < 0) = true := by decide
  rw [this, cond_true, u9 (by omega)]
theorem l0 {K : Option Int} {n : Int} {s t : Nat} (ad : s ≤ 9223372036854775807) (bc : 0 ≤ n) (aY : n ≤ 1048576) (az : (s : Int) ≤ n → K = some (hB (n - s) t)) :
  cond (decide (IntKind.i64.wrap (n - (s : Int)) < 0)) (some (-1)) K = some (hB n (s + t)) := by
 rw [hg _ (by omega)]
 by_cases h : (s : Int) ≤ n
 ·have : decide (n - (s : Int) < 0) = false := by simp; omega
  rw [this, cond_false, az h]
  congr 1
  unfold hB
  by_cases ah : (t : Int) ≤ n - s
  ·rw [if_pos ah, if_pos (by omega)]; omega
  ·rw [if_neg ah, if_neg (by omega)]
 ·have : decide (n - (s : Int) < 0) = true := by simp; omega
  rw [this, cond_true, u9 (by omega)]
theorem p9 {n : Int} (h : 0 ≤ n) : some n = some (hB n 0) := by rw [aum h]
def iG {α : Type} (f : α → Nat) : List α → Nat
 | [] => 0
 | x :: r => f x + iG f r
theorem NF {α : Type} {f : α → Nat} : ∀ {l : List α} {x : α}, x ∈ l → f x ≤ iG f l
 | y :: r, x, h => by
   simp only [iG]
   rcases List.mem_cons.1 h with rfl | h
   ·omega
   ·have := NF (f := f) h; omega
theorem NG {α β : Type} {f : β → Nat} {g : α → β} : ∀ l : List α, iG f (l.map g) = iG (fun x => f (g x)) l
 | [] => rfl
 | x :: r => by simp only [List.map_cons, iG, NG r]
def eQ {α : Type} (f : α → Nat) (l : List α) : Nat := l.length + iG f l
theorem q3 {α β : Type} (f : β → Nat) (g : α → β) (l : List α) : eQ f (l.map g) = eQ (fun x => f (g x)) l := by simp only [eQ, List.length_map, NG]
theorem jT {α : Type} (f : α → Nat) (l : List α) : l.length ≤ eQ f l := Nat.le_add_right _ _
theorem kp {α : Type} {f : α → Nat} {l : List α} {x : α} (h : x ∈ l) : f x ≤ eQ f l := Nat.le_trans (NF h) (Nat.le_add_left _ _)
theorem NH {α : Type} {l : Nat → Int → Int → Option Int} {B : α → Int → (Int → Option Int) → Option Int} (sz : α → Nat) (a : List α)
  (l1 : ∀ m n i, l (m + 1) n i = cond (decide (i < (a.length : Int))) ((bH a i).bind fun x => B x n fun y => l m y (IntKind.i64.wrap (i + 1))) (some n))
  (br : ∀ x ∈ a, ∀ (n : Int) (k : Int → Option Int) (t : Nat), 0 ≤ n → n ≤ 1048576 → ((sz x : Int) ≤ n → k (n - sz x) = some (hB (n - sz x) t)) → B x n k = some (hB n (sz x + t)))
  (b_ : a.length ≤ 1048576) (n : Int) (bc : 0 ≤ n) (aY : n ≤ 1048576) : cZ (fun m => l m n 0) = some (hB n (iG sz a)) := by
 have key : ∀ i, i ≤ a.length → ∀ n : Int, 0 ≤ n → n ≤ 1048576 → ∀ m, a.length - i < m → l m n (i : Int) = some (hB n (iG sz (a.drop i))) := by
  refine down a.length ?_ ?_
  ·intro n bc _ m hm
   obtain ⟨k, rfl⟩ : ∃ k, m = k + 1 := ⟨m - 1, by omega⟩
   rw [l1, gr (Nat.le_refl _), cond_false, List.drop_of_length_le (Nat.le_refl _)]
   exact p9 bc
  ·intro i al ih n bc aY m hm
   obtain ⟨k, rfl⟩ : ∃ k, m = k + 1 := ⟨m - 1, by omega⟩
   rw [l1, gb al, cond_true, gG _ i al, ga i _ al (by omega), drop_cons a i al]
   simp only [Option.bind_some, iG]
   exact br _ (List.getElem_mem al) n _ _ bc aY fun h => ih _ (by omega) (by omega) k (by omega)
 refine iH (a.length + 1) fun m hm => ?_
 have := key 0 (by omega) n bc aY m (by omega)
 simpa using this
theorem u_ {α : Type} {l : Nat → Int → Int → Option Int} {f : α → Int → Option Int} (sz : α → Nat) (a : List α)
  (l1 : ∀ m n i, l (m + 1) n i = cond (decide (i < (a.length : Int))) ((bH a i).bind fun x => (f x n).bind fun y => cond (decide (y < 0)) (some (-1)) (l m y (IntKind.i64.wrap (i + 1)))) (some n))
  (br : ∀ x ∈ a, ∀ n : Int, 0 ≤ n → n ≤ 1048576 → f x n = some (hB n (sz x))) (b_ : a.length ≤ 1048576) (n : Int) (bc : 0 ≤ n) (aY : n ≤ 1048576) : cZ (fun m => l m n 0) = some (hB n (iG sz a)) :=
 NH (B := fun x n k => (f x n).bind fun y => cond (decide (y < 0)) (some (-1)) (k y)) sz a l1 (fun x aq n _ _ bc aY az => pk (br x aq n bc aY) az) b_ n bc aY
theorem aun {l : Nat → Int → Int → Option Int} (a : List (List UInt8))
  (l1 : ∀ m n i, l (m + 1) n i = cond (decide (i < (a.length : Int))) ((bH a i).bind fun x => cond (decide (IntKind.i64.wrap (n - (x.length : Int)) < 0)) (some (-1)) (l m (IntKind.i64.wrap (n - (x.length : Int))) (IntKind.i64.wrap (i + 1)))) (some n))
  (br : ∀ x ∈ a, x.length ≤ 9223372036854775807) (b_ : a.length ≤ 1048576) (n : Int) (bc : 0 ≤ n) (aY : n ≤ 1048576) : cZ (fun m => l m n 0) = some (hB n (iG List.length a)) :=
 NH (B := fun x n k => cond (decide (IntKind.i64.wrap (n - (x.length : Int)) < 0)) (some (-1)) (k (IntKind.i64.wrap (n - (x.length : Int))))) List.length a (by intro m n i; rw [l1]) (by
  intro x aq n k t bc aY az
  have aR := br x aq
  refine l0 aR bc aY fun h => ?_
  have e : IntKind.i64.wrap (n - (x.length : Int)) = n - (x.length : Int) := hg _ (by omega)
  rw [e]
  exact az h) b_ n bc aY
theorem p_ {α β : Type} {l : Nat → List β → Int → Option (List β)} {f : α → Option β} (g : α → β) (a : List α) (z : β)
  (l1 : ∀ m v i, l (m + 1) v i = cond (decide (i < (a.length : Int))) ((bH a i).bind fun x => (f x).bind fun y => (bH v i).bind fun _ => l m (List.set v (Int.toNat i) y) (IntKind.i64.wrap (i + 1))) (some v))
  (br : ∀ x ∈ a, f x = some (g x)) (b_ : a.length ≤ 1048576) : cZ (fun m => l m (List.replicate (Int.toNat (a.length : Int)) z) 0) = some (a.map g) := by
 have key : ∀ i, i ≤ a.length → ∀ (v : List β) m, v.length = a.length → a.length - i < m → l m v (i : Int) = some (v.take i ++ (a.drop i).map g) := by
  refine down a.length ?_ ?_
  ·intro v m aN hm
   obtain ⟨k, rfl⟩ : ∃ k, m = k + 1 := ⟨m - 1, by omega⟩
   rw [l1, gr (Nat.le_refl _)]
   simp [← aN]
  ·intro i al ih v m aN hm
   obtain ⟨k, rfl⟩ : ∃ k, m = k + 1 := ⟨m - 1, by omega⟩
   rw [l1, gb al, gG _ i al, ga i _ al (by omega)]
   simp only [cond_true, Option.bind_some, br _ (List.getElem_mem al)]
   rw [gG v i (by omega)]
   simp only [Option.bind_some, Int.toNat_natCast]
   rw [ih _ k (by simp [aN]) (by omega), drop_cons a i al, List.map_cons, List.take_set, List.take_succ_eq_append_getElem (by omega), List.set_append_right _ _ (by simp; omega)]
   simp [show min i v.length = i by omega]
 refine iH (a.length + 1) fun m hm => ?_
 have := key 0 (by omega) (List.replicate (Int.toNat (a.length : Int)) z) m (by simp) (by omega)
 simpa using this
theorem oE (b : Nat) {n : Nat} (h : n ≤ 1048576) (ab : b ≤ 4096) : lA b (n : Int) = some () := by
 have ag : b * n ≤ 4096 * 1048576 := Nat.mul_le_mul ab h
 have ah : ((b : Int) * (n : Int)) = ((b * n : Nat) : Int) := by simp
 unfold lA
 rw [if_pos ⟨by omega, by rw [ah]; omega, by omega⟩]
theorem sV {α : Type} {l : Nat → Int → Option Bool} {f : α → α → Option Bool} (a : List α)
  (l1 : ∀ m i, l (m + 1) i = cond (decide (i < (a.length : Int))) ((bH a i).bind fun x => (bH a i).bind fun y => (f x y).bind fun z => cond (!z) (some false) (l m (IntKind.i64.wrap (i + 1)))) (some true))
  (br : ∀ x ∈ a, f x x = some true) (b_ : a.length ≤ 1048576) : cZ (fun m => l m 0) = some true := by
 rw [sT (n := a.length) (fun _ => some true)]
 ·intro m
  rw [l1, gr (Nat.le_refl _)]; rfl
 ·intro i al m ih
  rw [l1, gb al, gG _ i al, ga i _ al (by omega), ih]
  simp only [cond_true, Option.bind_some, br _ (List.getElem_mem al), Bool.not_true, cond_false]
theorem NI {α : Type} {d : α → α → Bool} {l : Nat → Int → Option Bool} (a : List α)
  (l1 : ∀ m i, l (m + 1) i = cond (decide (i < (a.length : Int))) ((bH a i).bind fun x => (bH a i).bind fun y => cond (d x y) (some false) (l m (IntKind.i64.wrap (i + 1)))) (some true))
  (ai : ∀ x, d x x = false) (b_ : a.length ≤ 1048576) : cZ (fun m => l m 0) = some true := by
 rw [sT (n := a.length) (fun _ => some true)]
 ·intro m
  rw [l1, gr (Nat.le_refl _)]; rfl
 ·intro i al m ih
  rw [l1, gb al, gG _ i al, ga i _ al (by omega), ih]
  simp only [cond_true, Option.bind_some, ai, cond_false]
theorem q4 (x : Int) : (x != x) = false := by simp
theorem q5 (x : List UInt8) : (!(x == x)) = false := by simp
theorem sW (x : Bool) : (!(x == x)) = false := by simp
theorem qa (n : Nat) : ((n : Int) != (n : Int)) = false := by simp
def e9 (p : Nat → Bool) (n : Nat) : Bool := (List.range n).all p
theorem nK {p : Nat → Bool} {n : Nat} : e9 p n = true ↔ ∀ i, i < n → p i = true := by simp [e9]
theorem ayv {p q : Nat → Bool} {n : Nat} (h : ∀ i, i < n → p i = q i) : e9 p n = e9 q n := by
 rw [Bool.eq_iff_iff, nK, nK]
 exact ⟨fun ar i al => by rw [← h i al]; exact ar i al, fun ar i al => by rw [h i al]; exact ar i al⟩
theorem yi {l : Nat → Int → Option Bool} {n : Nat} (p : Nat → Bool) (bc : ∀ m, l (m + 1) (n : Int) = some true)
  (ad : ∀ i, i < n → ∀ m, l (m + 1) (i : Int) = cond (p i) (l m ((i + 1 : Nat) : Int)) (some false)) : cZ (fun m => l m 0) = some (e9 p n) := by
 rw [sT (n := n) (fun i => some ((List.range' i (n - i)).all p))]
 ·simp [e9, List.range_eq_range']
 ·intro m; rw [bc]; simp
 ·intro i al m ih
  rw [ad i al, ih, show n - i = (n - (i + 1)) + 1 by omega, List.range'_succ]
  cases ar : p i <;> simp [ar]
def pn (p : Nat → Bool) : Nat → Nat → Int
 | _, 0 => -1
 | i, k + 1 => if p i = true then (i : Int) else pn p (i + 1) k
theorem NJ {p : Nat → Bool} : ∀ (k i : Nat), (∀ j, i ≤ j → j < i + k → p j = false) → pn p i k = -1
 | 0, _, _ => rfl
 | k + 1, i, h => by
   simp only [pn, h i (Nat.le_refl _) (by omega)]
   exact NJ k (i + 1) fun j ag ah => h j (by omega) (by omega)
theorem NK {p : Nat → Bool} : ∀ (k i j : Nat), i ≤ j → j < i + k → p j = true → 0 ≤ pn p i k
 | 0, i, j, ag, ah, _ => by omega
 | k + 1, i, j, ag, ah, aI => by
   simp only [pn]
   split
   ·omega
   ·rename_i h
    refine NK k (i + 1) j ?_ (by omega) aI
    rcases Nat.lt_or_ge i j with h | h
    ·exact h
    ·have : i = j := by omega
     subst this; exact absurd aI (by assumption)
theorem q6 (p : Nat → Bool) (n : Nat) : decide (0 ≤ pn p 0 n) = !(e9 (fun i => !p i) n) := by
 by_cases h : ∃ j, j < n ∧ p j = true
 ·obtain ⟨j, ag, ah⟩ := h
  have aI := NK n 0 j (Nat.zero_le _) (by omega) ah
  have a_ : e9 (fun i => !p i) n = false := by
   rw [Bool.eq_false_iff]; intro jW
   have := nK.1 jW j ag
   simp [ah] at this
  rw [a_]; simpa using aI
 ·have aI : ∀ j, j < n → p j = false := fun j b3 => by
   cases ar : p j
   ·rfl
   ·exact absurd ⟨j, b3, ar⟩ h
  rw [NJ n 0 fun j _ ah => aI j (by omega)]
  have a_ : e9 (fun i => !p i) n = true := nK.2 fun i al => by simp [aI i al]
  rw [a_]; rfl
theorem q7 {l : Nat → Int → Option Int} {n : Nat} (p : Nat → Bool) (bc : ∀ m, l (m + 1) (n : Int) = some (-1))
  (ad : ∀ i, i < n → ∀ m, l (m + 1) (i : Int) = cond (p i) (some (i : Int)) (l m ((i + 1 : Nat) : Int))) : cZ (fun m => l m 0) = some (pn p 0 n) := by
 rw [sT (n := n) (fun i => some (pn p i (n - i)))]
 ·simp
 ·intro m; rw [bc]; simp [pn]
 ·intro i al m ih
  rw [ad i al, ih, show n - i = (n - (i + 1)) + 1 by omega]
  cases ar : p i <;> simp [ar, pn]
theorem yj (i : Nat) (h : 0 < i) (aY : i ≤ 4611686018427387904) : IntKind.i64.wrap ((i : Int) - 1) = ((i - 1 : Nat) : Int) := by
 rw [hg _ (by omega)]; omega
theorem sX : decide ((0 : Int) < ((0 : Nat) : Int)) = false := by decide
theorem Gs {i : Nat} (h : i ≠ 0) : decide ((0 : Int) < (i : Int)) = true := by simp; omega
def auo (b : Bool) : Int := cond b 1 0
theorem ayw (b : Bool) : (cond b (some 1) (some 0) : Option Int) = some (auo b) := by cases b <;> rfl
theorem ayx {α : Type} (x : α) (l : List α) : jU (x :: l) 1 (((x :: l).length : Nat) : Int) = some l := by
 unfold jU
 rw [if_pos (by simp only [List.length_cons]; omega)]
 simp
theorem ayy {α : Type} (a b c : List α) {i j : Int} (al : i = (a.length : Int)) (b3 : j = ((a.length + b.length : Nat) : Int)) : jU (a ++ (b ++ c)) i j = some b := by
 unfold jU
 have aS : i.toNat = a.length := by omega
 have aX : j.toNat = a.length + b.length := by omega
 rw [if_pos (by simp only [List.length_append]; omega), aS, aX, ← List.append_assoc, List.take_left' (by simp), List.drop_left' rfl]
theorem NL {b n : Nat} (h : n * b ≤ 140737488355328) (ah : n ≤ 9223372036854775807) : room b n = some () := by unfold room; rw [if_pos ⟨h, ah⟩]
end Go.eV
