/- Part of a proof that a law returns true for every input. No condition. -/
import Derived.Test.YtgpmnlkgmadglaaGreatDoorU0
namespace Go.eR
open Go Go.cY
def jz (n : Int) (s : Nat) : Int := if (s : Int) ≤ n then n - s else -1
theorem Aw {n : Int} {s : Nat} (h : (s : Int) ≤ n) : jz n s = n - s := if_pos h
theorem Ax {n : Int} {s : Nat} (h : n < s) : jz n s = -1 := if_neg (by omega)
theorem awn {n : Int} (h : 0 ≤ n) : jz n 0 = n := by rw [Aw (by simpa using h)]; simp
theorem Eo {f : Option Int} {k : Int → Option Int} {n : Int} {s t : Nat} (bz : f = some (jz n s)) (ar : (s : Int) ≤ n → k (n - s) = some (jz (n - s) t)) :
  (f.bind fun x => cond (decide (x < 0)) (some (-1)) (k x)) = some (jz n (s + t)) := by
 rw [bz]
 simp only [Option.bind_some]
 by_cases h : (s : Int) ≤ n
 ·rw [Aw h]
  have : decide (n - (s : Int) < 0) = false := by simp; omega
  rw [this, cond_false, ar h]
  congr 1
  unfold jz
  by_cases ag : (t : Int) ≤ n - s
  ·rw [if_pos ag, if_pos (by omega)]; omega
  ·rw [if_neg ag, if_neg (by omega)]
 ·rw [Ax (by omega)]
  have : decide ((-1 : Int) < 0) = true := by decide
  rw [this, cond_true, Ax (by omega)]
theorem vb {K : Option Int} {n : Int} {s t : Nat} (ab : s ≤ 9223372036854775807) (bn : 0 ≤ n) (bc : n ≤ 1048576) (ar : (s : Int) ≤ n → K = some (jz (n - s) t)) :
  cond (decide (IntKind.i64.wrap (n - (s : Int)) < 0)) (some (-1)) K = some (jz n (s + t)) := by
 rw [fW _ (by omega)]
 by_cases h : (s : Int) ≤ n
 ·have : decide (n - (s : Int) < 0) = false := by simp; omega
  rw [this, cond_false, ar h]
  congr 1
  unfold jz
  by_cases ag : (t : Int) ≤ n - s
  ·rw [if_pos ag, if_pos (by omega)]; omega
  ·rw [if_neg ag, if_neg (by omega)]
 ·have : decide (n - (s : Int) < 0) = true := by simp; omega
  rw [this, cond_true, Ax (by omega)]
theorem xr {n : Int} (h : 0 ≤ n) : some n = some (jz n 0) := by rw [awn h]
def hz {α : Type} (f : α → Nat) : List α → Nat
 | [] => 0
 | x :: r => f x + hz f r
theorem Qq {α : Type} {f : α → Nat} : ∀ {l : List α} {x : α}, x ∈ l → f x ≤ hz f l
 | y :: r, x, h => by
   simp only [hz]
   rcases List.mem_cons.1 h with rfl | h
   ·omega
   ·have := Qq (f := f) h; omega
theorem Qr {α β : Type} {f : β → Nat} {g : α → β} : ∀ l : List α, hz f (l.map g) = hz (fun x => f (g x)) l
 | [] => rfl
 | x :: r => by simp only [List.map_cons, hz, Qr r]
def fK {α : Type} (f : α → Nat) (l : List α) : Nat := l.length + hz f l
theorem Ay {α β : Type} (f : β → Nat) (g : α → β) (l : List α) : fK f (l.map g) = fK (fun x => f (g x)) l := by simp only [fK, List.length_map, Qr]
theorem nz {α : Type} (f : α → Nat) (l : List α) : l.length ≤ fK f l := Nat.le_add_right _ _
theorem qS {α : Type} {f : α → Nat} {l : List α} {x : α} (h : x ∈ l) : f x ≤ fK f l := Nat.le_trans (Qq h) (Nat.le_add_left _ _)
theorem awo {α : Type} {l : Nat → Int → Int → Option Int} {B : α → Int → (Int → Option Int) → Option Int} (sz : α → Nat) (a : List α)
  (n6 : ∀ m n i, l (m + 1) n i = cond (decide (i < (a.length : Int))) ((bP a i).bind fun x => B x n fun y => l m y (IntKind.i64.wrap (i + 1))) (some n))
  (bz : ∀ x ∈ a, ∀ (n : Int) (k : Int → Option Int) (t : Nat), 0 ≤ n → n ≤ 1048576 → ((sz x : Int) ≤ n → k (n - sz x) = some (jz (n - sz x) t)) → B x n k = some (jz n (sz x + t)))
  (bF : a.length ≤ 1048576) (n : Int) (bn : 0 ≤ n) (bc : n ≤ 1048576) : c2 (fun m => l m n 0) = some (jz n (hz sz a)) := by
 have key : ∀ i, i ≤ a.length → ∀ n : Int, 0 ≤ n → n ≤ 1048576 → ∀ m, a.length - i < m → l m n (i : Int) = some (jz n (hz sz (a.drop i))) := by
  refine down a.length ?_ ?_
  ·intro n bn _ m hm
   obtain ⟨k, rfl⟩ : ∃ k, m = k + 1 := ⟨m - 1, by omega⟩
   rw [n6, gI (Nat.le_refl _), cond_false, List.drop_of_length_le (Nat.le_refl _)]
   exact xr bn
  ·intro i an ih n bn bc m hm
   obtain ⟨k, rfl⟩ : ∃ k, m = k + 1 := ⟨m - 1, by omega⟩
   rw [n6, hx an, cond_true, fp _ i an, hg i _ an (by omega), drop_cons a i an]
   simp only [Option.bind_some, hz]
   exact bz _ (List.getElem_mem an) n _ _ bn bc fun h => ih _ (by omega) (by omega) k (by omega)
 refine hE (a.length + 1) fun m hm => ?_
 have := key 0 (by omega) n bn bc m (by omega)
 simpa using this
theorem I4 {α : Type} {l : Nat → Int → Int → Option Int} {f : α → Int → Option Int} (sz : α → Nat) (a : List α)
  (n6 : ∀ m n i, l (m + 1) n i = cond (decide (i < (a.length : Int))) ((bP a i).bind fun x => (f x n).bind fun y => cond (decide (y < 0)) (some (-1)) (l m y (IntKind.i64.wrap (i + 1)))) (some n))
  (bz : ∀ x ∈ a, ∀ n : Int, 0 ≤ n → n ≤ 1048576 → f x n = some (jz n (sz x))) (bF : a.length ≤ 1048576) (n : Int) (bn : 0 ≤ n) (bc : n ≤ 1048576) : c2 (fun m => l m n 0) = some (jz n (hz sz a)) :=
 awo (B := fun x n k => (f x n).bind fun y => cond (decide (y < 0)) (some (-1)) (k y)) sz a n6 (fun x aq n _ _ bn bc ar => Eo (bz x aq n bn bc) ar) bF n bn bc
theorem Az {α β : Type} {l : Nat → List β → Int → Option (List β)} {f : α → Option β} (g : α → β) (a : List α) (z : β)
  (n6 : ∀ m v i, l (m + 1) v i = cond (decide (i < (a.length : Int))) ((bP a i).bind fun x => (f x).bind fun y => (bP v i).bind fun _ => l m (List.set v (Int.toNat i) y) (IntKind.i64.wrap (i + 1))) (some v))
  (bz : ∀ x ∈ a, f x = some (g x)) (bF : a.length ≤ 1048576) : c2 (fun m => l m (List.replicate (Int.toNat (a.length : Int)) z) 0) = some (a.map g) := by
 have key : ∀ i, i ≤ a.length → ∀ (v : List β) m, v.length = a.length → a.length - i < m → l m v (i : Int) = some (v.take i ++ (a.drop i).map g) := by
  refine down a.length ?_ ?_
  ·intro v m aK hm
   obtain ⟨k, rfl⟩ : ∃ k, m = k + 1 := ⟨m - 1, by omega⟩
   rw [n6, gI (Nat.le_refl _)]
   simp [← aK]
  ·intro i an ih v m aK hm
   obtain ⟨k, rfl⟩ : ∃ k, m = k + 1 := ⟨m - 1, by omega⟩
   rw [n6, hx an, fp _ i an, hg i _ an (by omega)]
   simp only [cond_true, Option.bind_some, bz _ (List.getElem_mem an)]
   rw [fp v i (by omega)]
   simp only [Option.bind_some, Int.toNat_natCast]
   rw [ih _ k (by simp [aK]) (by omega), drop_cons a i an, List.map_cons, List.take_set, List.take_succ_eq_append_getElem (by omega), List.set_append_right _ _ (by simp; omega)]
   simp [show min i v.length = i by omega]
 refine hE (a.length + 1) fun m hm => ?_
 have := key 0 (by omega) (List.replicate (Int.toNat (a.length : Int)) z) m (by simp) (by omega)
 simpa using this
theorem vc (b : Nat) {n : Nat} (h : n ≤ 1048576) (aa : b ≤ 4096) : o9 b (n : Int) = some () := by
 have af : b * n ≤ 4096 * 1048576 := Nat.mul_le_mul aa h
 have ag : ((b : Int) * (n : Int)) = ((b * n : Nat) : Int) := by simp
 unfold o9
 rw [if_pos ⟨by omega, by rw [ag]; omega, by omega⟩]
theorem AA {α : Type} {l : Nat → Int → Option Bool} {f : α → α → Option Bool} (a : List α)
  (n6 : ∀ m i, l (m + 1) i = cond (decide (i < (a.length : Int))) ((bP a i).bind fun x => (bP a i).bind fun y => (f x y).bind fun z => cond (!z) (some false) (l m (IntKind.i64.wrap (i + 1)))) (some true))
  (bz : ∀ x ∈ a, f x x = some true) (bF : a.length ≤ 1048576) : c2 (fun m => l m 0) = some true := by
 rw [rL (n := a.length) (fun _ => some true)]
 ·intro m
  rw [n6, gI (Nat.le_refl _)]; rfl
 ·intro i an m ih
  rw [n6, hx an, fp _ i an, hg i _ an (by omega), ih]
  simp only [cond_true, Option.bind_some, bz _ (List.getElem_mem an), Bool.not_true, cond_false]
theorem awp {α : Type} {d : α → α → Bool} {l : Nat → Int → Option Bool} (a : List α)
  (n6 : ∀ m i, l (m + 1) i = cond (decide (i < (a.length : Int))) ((bP a i).bind fun x => (bP a i).bind fun y => cond (d x y) (some false) (l m (IntKind.i64.wrap (i + 1)))) (some true))
  (ai : ∀ x, d x x = false) (bF : a.length ≤ 1048576) : c2 (fun m => l m 0) = some true := by
 rw [rL (n := a.length) (fun _ => some true)]
 ·intro m
  rw [n6, gI (Nat.le_refl _)]; rfl
 ·intro i an m ih
  rw [n6, hx an, fp _ i an, hg i _ an (by omega), ih]
  simp only [cond_true, Option.bind_some, ai, cond_false]
theorem xt (x : Int) : (x != x) = false := by simp
theorem AB (x : List UInt8) : (!(x == x)) = false := by simp
theorem AD (x : Bool) : (!(x == x)) = false := by simp
theorem xu (n : Nat) : ((n : Int) != (n : Int)) = false := by simp
def ik (p : Nat → Bool) (n : Nat) : Bool := (List.range n).all p
theorem pW {p : Nat → Bool} {n : Nat} : ik p n = true ↔ ∀ i, i < n → p i = true := by simp [ik]
theorem awq {l : Nat → Int → Option Bool} {n : Nat} (p : Nat → Bool) (bn : ∀ m, l (m + 1) (n : Int) = some true)
  (ab : ∀ i, i < n → ∀ m, l (m + 1) (i : Int) = cond (p i) (l m ((i + 1 : Nat) : Int)) (some false)) : c2 (fun m => l m 0) = some (ik p n) := by
 rw [rL (n := n) (fun i => some ((List.range' i (n - i)).all p))]
 ·simp [ik, List.range_eq_range']
 ·intro m; rw [bn]; simp
 ·intro i an m ih
  rw [ab i an, ih, show n - i = (n - (i + 1)) + 1 by omega, List.range'_succ]
  cases aw : p i <;> simp [aw]
def qT (p : Nat → Bool) : Nat → Nat → Int
 | _, 0 => -1
 | i, k + 1 => if p i = true then (i : Int) else qT p (i + 1) k
theorem Qs {p : Nat → Bool} : ∀ (k i : Nat), (∀ j, i ≤ j → j < i + k → p j = false) → qT p i k = -1
 | 0, _, _ => rfl
 | k + 1, i, h => by
   simp only [qT, h i (Nat.le_refl _) (by omega)]
   exact Qs k (i + 1) fun j af ag => h j (by omega) (by omega)
theorem Qt {p : Nat → Bool} : ∀ (k i j : Nat), i ≤ j → j < i + k → p j = true → 0 ≤ qT p i k
 | 0, i, j, af, ag, _ => by omega
 | k + 1, i, j, af, ag, aF => by
   simp only [qT]
   split
   ·omega
   ·rename_i h
    refine Qt k (i + 1) j ?_ (by omega) aF
    rcases Nat.lt_or_ge i j with h | h
    ·exact h
    ·have : i = j := by omega
     subst this; exact absurd aF (by assumption)
theorem AE (p : Nat → Bool) (n : Nat) : decide (0 ≤ qT p 0 n) = !(ik (fun i => !p i) n) := by
 by_cases h : ∃ j, j < n ∧ p j = true
 ·obtain ⟨j, af, ag⟩ := h
  have aF := Qt n 0 j (Nat.zero_le _) (by omega) ag
  have a_ : ik (fun i => !p i) n = false := by
   rw [Bool.eq_false_iff]; intro ko
   have := pW.1 ko j af
   simp [ag] at this
  rw [a_]; simpa using aF
 ·have aF : ∀ j, j < n → p j = false := fun j bw => by
   cases aw : p j
   ·rfl
   ·exact absurd ⟨j, bw, aw⟩ h
  rw [Qs n 0 fun j _ ag => aF j (by omega)]
  have a_ : ik (fun i => !p i) n = true := pW.2 fun i an => by simp [aF i an]
  rw [a_]; rfl
theorem AF {l : Nat → Int → Option Int} {n : Nat} (p : Nat → Bool) (bn : ∀ m, l (m + 1) (n : Int) = some (-1))
  (ab : ∀ i, i < n → ∀ m, l (m + 1) (i : Int) = cond (p i) (some (i : Int)) (l m ((i + 1 : Nat) : Int))) : c2 (fun m => l m 0) = some (qT p 0 n) := by
 rw [rL (n := n) (fun i => some (qT p i (n - i)))]
 ·simp
 ·intro m; rw [bn]; simp [qT]
 ·intro i an m ih
  rw [ab i an, ih, show n - i = (n - (i + 1)) + 1 by omega]
  cases aw : p i <;> simp [aw, qT]
theorem awr (i : Nat) (h : 0 < i) (bc : i ≤ 4611686018427387904) : IntKind.i64.wrap ((i : Int) - 1) = ((i - 1 : Nat) : Int) := by
 rw [fW _ (by omega)]; omega
theorem Ep : decide ((0 : Int) < ((0 : Nat) : Int)) = false := by decide
def rM (b : Bool) : Int := cond b 1 0
theorem Er (b : Bool) : (cond b (some 1) (some 0) : Option Int) = some (rM b) := by cases b <;> rfl
theorem aws {α : Type} (x : α) (l : List α) : kB (x :: l) 1 (((x :: l).length : Nat) : Int) = some l := by
 unfold kB
 rw [if_pos (by simp only [List.length_cons]; omega)]
 simp
theorem qU {b n : Nat} (h : n * b ≤ 140737488355328) (ag : n ≤ 9223372036854775807) : room b n = some () := by unfold room; rw [if_pos ⟨h, ag⟩]
end Go.eR
