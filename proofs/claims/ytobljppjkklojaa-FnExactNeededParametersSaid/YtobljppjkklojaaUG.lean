/- Part of a proof that a law returns true for every input. No condition. -/
import Derived.Test.YtobljppjkklojaaU0
namespace Go.Sh
open Go Go.Fw
def bud (n : Int) (s : Nat) : Int := if (s : Int) ≤ n then n - s else -1
theorem bud_le {n : Int} {s : Nat} (h : (s : Int) ≤ n) : bud n s = n - s := if_pos h
theorem bud_gt {n : Int} {s : Nat} (h : n < s) : bud n s = -1 := if_neg (by omega)
theorem bud_0 {n : Int} (h : 0 ≤ n) : bud n 0 = n := by rw [bud_le (by simpa using h)]; simp
theorem st_call {f : Option Int} {k : Int → Option Int} {n : Int} {s t : Nat} (hf : f = some (bud n s)) (hk : (s : Int) ≤ n → k (n - s) = some (bud (n - s) t)) :
  (f.bind fun x => cond (decide (x < 0)) (some (-1)) (k x)) = some (bud n (s + t)) := by
 rw [hf]
 simp only [Option.bind_some]
 by_cases h : (s : Int) ≤ n
 ·rw [bud_le h]
  have : decide (n - (s : Int) < 0) = false := by simp; omega
  rw [this, cond_false, hk h]
  congr 1
  unfold bud
  by_cases h2 : (t : Int) ≤ n - s
  ·rw [if_pos h2, if_pos (by omega)]; omega
  ·rw [if_neg h2, if_neg (by omega)]
 ·rw [bud_gt (by omega)]
  have : decide ((-1 : Int) < 0) = true := by decide
  rw [this, cond_true, bud_gt (by omega)]
theorem st_len {K : Option Int} {n : Int} {s t : Nat} (hs : s ≤ 9223372036854775807) (h0 : 0 ≤ n) (hn : n ≤ 1048576) (hk : (s : Int) ≤ n → K = some (bud (n - s) t)) :
  cond (decide (IntKind.i64.wrap (n - (s : Int)) < 0)) (some (-1)) K = some (bud n (s + t)) := by
 rw [w64 _ (by omega)]
 by_cases h : (s : Int) ≤ n
 ·have : decide (n - (s : Int) < 0) = false := by simp; omega
  rw [this, cond_false, hk h]
  congr 1
  unfold bud
  by_cases h2 : (t : Int) ≤ n - s
  ·rw [if_pos h2, if_pos (by omega)]; omega
  ·rw [if_neg h2, if_neg (by omega)]
 ·have : decide (n - (s : Int) < 0) = true := by simp; omega
  rw [this, cond_true, bud_gt (by omega)]
theorem st_end {n : Int} (h : 0 ≤ n) : some n = some (bud n 0) := by rw [bud_0 h]
def sumS {α : Type} (f : α → Nat) : List α → Nat
 | [] => 0
 | x :: r => f x + sumS f r
theorem sumS_mem {α : Type} {f : α → Nat} : ∀ {l : List α} {x : α}, x ∈ l → f x ≤ sumS f l
 | y :: r, x, h => by
   simp only [sumS]
   rcases List.mem_cons.1 h with rfl | h
   ·omega
   ·have := sumS_mem (f := f) h; omega
theorem sumS_map {α β : Type} {f : β → Nat} {g : α → β} : ∀ l : List α, sumS f (l.map g) = sumS (fun x => f (g x)) l
 | [] => rfl
 | x :: r => by simp only [List.map_cons, sumS, sumS_map r]
def sizeL {α : Type} (f : α → Nat) (l : List α) : Nat := l.length + sumS f l
theorem sizeL_map {α β : Type} (f : β → Nat) (g : α → β) (l : List α) : sizeL f (l.map g) = sizeL (fun x => f (g x)) l := by simp only [sizeL, List.length_map, sumS_map]
theorem sizeL_len {α : Type} (f : α → Nat) (l : List α) : l.length ≤ sizeL f l := Nat.le_add_right _ _
theorem sizeL_mem {α : Type} {f : α → Nat} {l : List α} {x : α} (h : x ∈ l) : f x ≤ sizeL f l := Nat.le_trans (sumS_mem h) (Nat.le_add_left _ _)
theorem sz_loopB {α : Type} {l : Nat → Int → Int → Option Int} {B : α → Int → (Int → Option Int) → Option Int} (sz : α → Nat) (a : List α)
  (hstep : ∀ m n i, l (m + 1) n i = cond (decide (i < (a.length : Int))) ((getI a i).bind fun x => B x n fun y => l m y (IntKind.i64.wrap (i + 1))) (some n))
  (hf : ∀ x ∈ a, ∀ (n : Int) (k : Int → Option Int) (t : Nat), 0 ≤ n → n ≤ 1048576 → ((sz x : Int) ≤ n → k (n - sz x) = some (bud (n - sz x) t)) → B x n k = some (bud n (sz x + t)))
  (ha : a.length ≤ 1048576) (n : Int) (h0 : 0 ≤ n) (hn : n ≤ 1048576) : lim (fun m => l m n 0) = some (bud n (sumS sz a)) := by
 have key : ∀ i, i ≤ a.length → ∀ n : Int, 0 ≤ n → n ≤ 1048576 → ∀ m, a.length - i < m → l m n (i : Int) = some (bud n (sumS sz (a.drop i))) := by
  refine down a.length ?_ ?_
  ·intro n h0 _ m hm
   obtain ⟨k, rfl⟩ : ∃ k, m = k + 1 := ⟨m - 1, by omega⟩
   rw [hstep, ltF (Nat.le_refl _), cond_false, List.drop_of_length_le (Nat.le_refl _)]
   exact st_end h0
  ·intro i hi ih n h0 hn m hm
   obtain ⟨k, rfl⟩ : ∃ k, m = k + 1 := ⟨m - 1, by omega⟩
   rw [hstep, ltT hi, cond_true, getI_lt _ i hi, wsucc i _ hi (by omega), drop_cons a i hi]
   simp only [Option.bind_some, sumS]
   exact hf _ (List.getElem_mem hi) n _ _ h0 hn fun h => ih _ (by omega) (by omega) k (by omega)
 refine lim_of (a.length + 1) fun m hm => ?_
 have := key 0 (by omega) n h0 hn m (by omega)
 simpa using this
theorem sz_loop {α : Type} {l : Nat → Int → Int → Option Int} {f : α → Int → Option Int} (sz : α → Nat) (a : List α)
  (hstep : ∀ m n i, l (m + 1) n i = cond (decide (i < (a.length : Int))) ((getI a i).bind fun x => (f x n).bind fun y => cond (decide (y < 0)) (some (-1)) (l m y (IntKind.i64.wrap (i + 1)))) (some n))
  (hf : ∀ x ∈ a, ∀ n : Int, 0 ≤ n → n ≤ 1048576 → f x n = some (bud n (sz x))) (ha : a.length ≤ 1048576) (n : Int) (h0 : 0 ≤ n) (hn : n ≤ 1048576) : lim (fun m => l m n 0) = some (bud n (sumS sz a)) :=
 sz_loopB (B := fun x n k => (f x n).bind fun y => cond (decide (y < 0)) (some (-1)) (k y)) sz a hstep (fun x hx n _ _ h0 hn hk => st_call (hf x hx n h0 hn) hk) ha n h0 hn
theorem sz_strs {l : Nat → Int → Int → Option Int} (a : List (List UInt8))
  (hstep : ∀ m n i, l (m + 1) n i = cond (decide (i < (a.length : Int))) ((getI a i).bind fun x => cond (decide (IntKind.i64.wrap (n - (x.length : Int)) < 0)) (some (-1)) (l m (IntKind.i64.wrap (n - (x.length : Int))) (IntKind.i64.wrap (i + 1)))) (some n))
  (hf : ∀ x ∈ a, x.length ≤ 9223372036854775807) (ha : a.length ≤ 1048576) (n : Int) (h0 : 0 ≤ n) (hn : n ≤ 1048576) : lim (fun m => l m n 0) = some (bud n (sumS List.length a)) :=
 sz_loopB (B := fun x n k => cond (decide (IntKind.i64.wrap (n - (x.length : Int)) < 0)) (some (-1)) (k (IntKind.i64.wrap (n - (x.length : Int))))) List.length a (by intro m n i; rw [hstep]) (by
  intro x hx n k t h0 hn hk
  have hl := hf x hx
  refine st_len hl h0 hn fun h => ?_
  have e : IntKind.i64.wrap (n - (x.length : Int)) = n - (x.length : Int) := w64 _ (by omega)
  rw [e]
  exact hk h) ha n h0 hn
theorem to_loop {α β : Type} {l : Nat → List β → Int → Option (List β)} {f : α → Option β} (g : α → β) (a : List α) (z : β)
  (hstep : ∀ m v i, l (m + 1) v i = cond (decide (i < (a.length : Int))) ((getI a i).bind fun x => (f x).bind fun y => (getI v i).bind fun _ => l m (List.set v (Int.toNat i) y) (IntKind.i64.wrap (i + 1))) (some v))
  (hf : ∀ x ∈ a, f x = some (g x)) (ha : a.length ≤ 1048576) : lim (fun m => l m (List.replicate (Int.toNat (a.length : Int)) z) 0) = some (a.map g) := by
 have key : ∀ i, i ≤ a.length → ∀ (v : List β) m, v.length = a.length → a.length - i < m → l m v (i : Int) = some (v.take i ++ (a.drop i).map g) := by
  refine down a.length ?_ ?_
  ·intro v m hv hm
   obtain ⟨k, rfl⟩ : ∃ k, m = k + 1 := ⟨m - 1, by omega⟩
   rw [hstep, ltF (Nat.le_refl _)]
   simp [← hv]
  ·intro i hi ih v m hv hm
   obtain ⟨k, rfl⟩ : ∃ k, m = k + 1 := ⟨m - 1, by omega⟩
   rw [hstep, ltT hi, getI_lt _ i hi, wsucc i _ hi (by omega)]
   simp only [cond_true, Option.bind_some, hf _ (List.getElem_mem hi)]
   rw [getI_lt v i (by omega)]
   simp only [Option.bind_some, Int.toNat_natCast]
   rw [ih _ k (by simp [hv]) (by omega), drop_cons a i hi, List.map_cons, List.take_set, List.take_succ_eq_append_getElem (by omega), List.set_append_right _ _ (by simp; omega)]
   simp [show min i v.length = i by omega]
 refine lim_of (a.length + 1) fun m hm => ?_
 have := key 0 (by omega) (List.replicate (Int.toNat (a.length : Int)) z) m (by simp) (by omega)
 simpa using this
theorem mkOk_small (b : Nat) {n : Nat} (h : n ≤ 1048576) (hb : b ≤ 4096) : mkOk b (n : Int) = some () := by
 have h1 : b * n ≤ 4096 * 1048576 := Nat.mul_le_mul hb h
 have h2 : ((b : Int) * (n : Int)) = ((b * n : Nat) : Int) := by simp
 unfold mkOk
 rw [if_pos ⟨by omega, by rw [h2]; omega, by omega⟩]
theorem eq_loop {α : Type} {l : Nat → Int → Option Bool} {f : α → α → Option Bool} (a : List α)
  (hstep : ∀ m i, l (m + 1) i = cond (decide (i < (a.length : Int))) ((getI a i).bind fun x => (getI a i).bind fun y => (f x y).bind fun z => cond (!z) (some false) (l m (IntKind.i64.wrap (i + 1)))) (some true))
  (hf : ∀ x ∈ a, f x x = some true) (ha : a.length ≤ 1048576) : lim (fun m => l m 0) = some true := by
 rw [up_lim (n := a.length) (fun _ => some true)]
 ·intro m
  rw [hstep, ltF (Nat.le_refl _)]; rfl
 ·intro i hi m ih
  rw [hstep, ltT hi, getI_lt _ i hi, wsucc i _ hi (by omega), ih]
  simp only [cond_true, Option.bind_some, hf _ (List.getElem_mem hi), Bool.not_true, cond_false]
theorem eq_loopS {α : Type} {d : α → α → Bool} {l : Nat → Int → Option Bool} (a : List α)
  (hstep : ∀ m i, l (m + 1) i = cond (decide (i < (a.length : Int))) ((getI a i).bind fun x => (getI a i).bind fun y => cond (d x y) (some false) (l m (IntKind.i64.wrap (i + 1)))) (some true))
  (hd : ∀ x, d x x = false) (ha : a.length ≤ 1048576) : lim (fun m => l m 0) = some true := by
 rw [up_lim (n := a.length) (fun _ => some true)]
 ·intro m
  rw [hstep, ltF (Nat.le_refl _)]; rfl
 ·intro i hi m ih
  rw [hstep, ltT hi, getI_lt _ i hi, wsucc i _ hi (by omega), ih]
  simp only [cond_true, Option.bind_some, hd, cond_false]
theorem neI (x : Int) : (x != x) = false := by simp
theorem neS (x : List UInt8) : (!(x == x)) = false := by simp
theorem neB (x : Bool) : (!(x == x)) = false := by simp
theorem neL (n : Nat) : ((n : Int) != (n : Int)) = false := by simp
def allN (p : Nat → Bool) (n : Nat) : Bool := (List.range n).all p
theorem allN_iff {p : Nat → Bool} {n : Nat} : allN p n = true ↔ ∀ i, i < n → p i = true := by simp [allN]
theorem allN_congr {p q : Nat → Bool} {n : Nat} (h : ∀ i, i < n → p i = q i) : allN p n = allN q n := by
 rw [Bool.eq_iff_iff, allN_iff, allN_iff]
 exact ⟨fun hp i hi => by rw [← h i hi]; exact hp i hi, fun hp i hi => by rw [h i hi]; exact hp i hi⟩
theorem all_loop {l : Nat → Int → Option Bool} {n : Nat} (p : Nat → Bool) (h0 : ∀ m, l (m + 1) (n : Int) = some true)
  (hs : ∀ i, i < n → ∀ m, l (m + 1) (i : Int) = cond (p i) (l m ((i + 1 : Nat) : Int)) (some false)) : lim (fun m => l m 0) = some (allN p n) := by
 rw [up_lim (n := n) (fun i => some ((List.range' i (n - i)).all p))]
 ·simp [allN, List.range_eq_range']
 ·intro m; rw [h0]; simp
 ·intro i hi m ih
  rw [hs i hi, ih, show n - i = (n - (i + 1)) + 1 by omega, List.range'_succ]
  cases hp : p i <;> simp [hp]
def findN (p : Nat → Bool) : Nat → Nat → Int
 | _, 0 => -1
 | i, k + 1 => if p i = true then (i : Int) else findN p (i + 1) k
theorem findN_neg {p : Nat → Bool} : ∀ (k i : Nat), (∀ j, i ≤ j → j < i + k → p j = false) → findN p i k = -1
 | 0, _, _ => rfl
 | k + 1, i, h => by
   simp only [findN, h i (Nat.le_refl _) (by omega)]
   exact findN_neg k (i + 1) fun j h1 h2 => h j (by omega) (by omega)
theorem findN_pos {p : Nat → Bool} : ∀ (k i j : Nat), i ≤ j → j < i + k → p j = true → 0 ≤ findN p i k
 | 0, i, j, h1, h2, _ => by omega
 | k + 1, i, j, h1, h2, h3 => by
   simp only [findN]
   split
   ·omega
   ·rename_i h
    refine findN_pos k (i + 1) j ?_ (by omega) h3
    rcases Nat.lt_or_ge i j with h | h
    ·exact h
    ·have : i = j := by omega
     subst this; exact absurd h3 (by assumption)
theorem findN_ge (p : Nat → Bool) (n : Nat) : decide (0 ≤ findN p 0 n) = !(allN (fun i => !p i) n) := by
 by_cases h : ∃ j, j < n ∧ p j = true
 ·obtain ⟨j, h1, h2⟩ := h
  have h3 := findN_pos n 0 j (Nat.zero_le _) (by omega) h2
  have h4 : allN (fun i => !p i) n = false := by
   rw [Bool.eq_false_iff]; intro hh
   have := allN_iff.1 hh j h1
   simp [h2] at this
  rw [h4]; simpa using h3
 ·have h3 : ∀ j, j < n → p j = false := fun j hj => by
   cases hp : p j
   ·rfl
   ·exact absurd ⟨j, hj, hp⟩ h
  rw [findN_neg n 0 fun j _ h2 => h3 j (by omega)]
  have h4 : allN (fun i => !p i) n = true := allN_iff.2 fun i hi => by simp [h3 i hi]
  rw [h4]; rfl
theorem find_loop {l : Nat → Int → Option Int} {n : Nat} (p : Nat → Bool) (h0 : ∀ m, l (m + 1) (n : Int) = some (-1))
  (hs : ∀ i, i < n → ∀ m, l (m + 1) (i : Int) = cond (p i) (some (i : Int)) (l m ((i + 1 : Nat) : Int))) : lim (fun m => l m 0) = some (findN p 0 n) := by
 rw [up_lim (n := n) (fun i => some (findN p i (n - i)))]
 ·simp
 ·intro m; rw [h0]; simp [findN]
 ·intro i hi m ih
  rw [hs i hi, ih, show n - i = (n - (i + 1)) + 1 by omega]
  cases hp : p i <;> simp [hp, findN]
theorem wpredG (i : Nat) (h : 0 < i) (hn : i ≤ 4611686018427387904) : IntKind.i64.wrap ((i : Int) - 1) = ((i - 1 : Nat) : Int) := by
 rw [w64 _ (by omega)]; omega
theorem lt0F : decide ((0 : Int) < ((0 : Nat) : Int)) = false := by decide
theorem ge0T {i : Nat} (h : i ≠ 0) : decide ((0 : Int) < (i : Int)) = true := by simp; omega
def tv (b : Bool) : Int := cond b 1 0
theorem tv_some (b : Bool) : (cond b (some 1) (some 0) : Option Int) = some (tv b) := by cases b <;> rfl
theorem subL_tail {α : Type} (x : α) (l : List α) : subL (x :: l) 1 (((x :: l).length : Nat) : Int) = some l := by
 unfold subL
 rw [if_pos (by simp only [List.length_cons]; omega)]
 simp
theorem subL_cut {α : Type} (a b c : List α) {i j : Int} (hi : i = (a.length : Int)) (hj : j = ((a.length + b.length : Nat) : Int)) : subL (a ++ (b ++ c)) i j = some b := by
 unfold subL
 have e1 : i.toNat = a.length := by omega
 have e2 : j.toNat = a.length + b.length := by omega
 rw [if_pos (by simp only [List.length_append]; omega), e1, e2, ← List.append_assoc, List.take_left' (by simp), List.drop_left' rfl]
theorem room_ok {b n : Nat} (h : n * b ≤ 140737488355328) (h2 : n ≤ 9223372036854775807) : room b n = some () := by unfold room; rw [if_pos ⟨h, h2⟩]
end Go.Sh
