/- Part of a proof that a law returns true for every input. No condition. -/
import Derived.Test.YtjedocbdhlppdaaU0
namespace Go.fi
open Go Go.b7
def ha (n : Int) (s : Nat) : Int := if (s : Int) ≤ n then n - s else -1
theorem Be {n : Int} {s : Nat} (h : (s : Int) ≤ n) : ha n s = n - s := if_pos h
theorem wt {n : Int} {s : Nat} (h : n < s) : ha n s = -1 := if_neg (by omega)
theorem Nq {n : Int} (h : 0 ≤ n) : ha n 0 = n := by rw [Be (by simpa using h)]; simp
theorem Nr {f : Option Int} {k : Int → Option Int} {n : Int} {s t : Nat} (bo : f = some (ha n s)) (ah : (s : Int) ≤ n → k (n - s) = some (ha (n - s) t)) :
  (f.bind fun x => cond (decide (x < 0)) (some (-1)) (k x)) = some (ha n (s + t)) := by
 rw [bo]
 simp only [Option.bind_some]
 by_cases h : (s : Int) ≤ n
 ·rw [Be h]
  have : decide (n - (s : Int) < 0) = false := by simp; omega
  rw [this, cond_false, ah h]
  congr 1
  unfold ha
  by_cases aa : (t : Int) ≤ n - s
  ·rw [if_pos aa, if_pos (by omega)]; omega
  ·rw [if_neg aa, if_neg (by omega)]
 ·rw [wt (by omega)]
  have : decide ((-1 : Int) < 0) = true := by decide
  rw [this, cond_true, wt (by omega)]
theorem Ns {K : Option Int} {n : Int} {s t : Nat} (R : s ≤ 9223372036854775807) (bz : 0 ≤ n) (aO : n ≤ 1048576) (ah : (s : Int) ≤ n → K = some (ha (n - s) t)) :
  cond (decide (IntKind.i64.wrap (n - (s : Int)) < 0)) (some (-1)) K = some (ha n (s + t)) := by
 rw [eT _ (by omega)]
 by_cases h : (s : Int) ≤ n
 ·have : decide (n - (s : Int) < 0) = false := by simp; omega
  rw [this, cond_false, ah h]
  congr 1
  unfold ha
  by_cases aa : (t : Int) ≤ n - s
  ·rw [if_pos aa, if_pos (by omega)]; omega
  ·rw [if_neg aa, if_neg (by omega)]
 ·have : decide (n - (s : Int) < 0) = true := by simp; omega
  rw [this, cond_true, wt (by omega)]
theorem Nt {n : Int} (h : 0 ≤ n) : some n = some (ha n 0) := by rw [Nq h]
def eD {α : Type} (f : α → Nat) : List α → Nat
 | [] => 0
 | x :: r => f x + eD f r
theorem Bf {α : Type} {f : α → Nat} : ∀ {l : List α} {x : α}, x ∈ l → f x ≤ eD f l
 | y :: r, x, h => by
   simp only [eD]
   rcases List.mem_cons.1 h with rfl | h
   ·omega
   ·have := Bf (f := f) h; omega
theorem Bg {α β : Type} {f : β → Nat} {g : α → β} : ∀ l : List α, eD f (l.map g) = eD (fun x => f (g x)) l
 | [] => rfl
 | x :: r => by simp only [List.map_cons, eD, Bg r]
def hb {α : Type} (f : α → Nat) (l : List α) : Nat := l.length + eD f l
theorem O_ {α β : Type} (f : β → Nat) (g : α → β) (l : List α) : hb f (l.map g) = hb (fun x => f (g x)) l := by simp only [hb, List.length_map, Bg]
theorem Bh {α : Type} (f : α → Nat) (l : List α) : l.length ≤ hb f l := Nat.le_add_right _ _
theorem Nu {α : Type} {f : α → Nat} {l : List α} {x : α} (h : x ∈ l) : f x ≤ hb f l := Nat.le_trans (Bf h) (Nat.le_add_left _ _)
theorem Bi {α : Type} {l : Nat → Int → Int → Option Int} {B : α → Int → (Int → Option Int) → Option Int} (sz : α → Nat) (a : List α)
  (hc : ∀ m n i, l (m + 1) n i = cond (decide (i < (a.length : Int))) ((cE a i).bind fun x => B x n fun y => l m y (IntKind.i64.wrap (i + 1))) (some n))
  (bo : ∀ x ∈ a, ∀ (n : Int) (k : Int → Option Int) (t : Nat), 0 ≤ n → n ≤ 1048576 → ((sz x : Int) ≤ n → k (n - sz x) = some (ha (n - sz x) t)) → B x n k = some (ha n (sz x + t)))
  (bB : a.length ≤ 1048576) (n : Int) (bz : 0 ≤ n) (aO : n ≤ 1048576) : eo (fun m => l m n 0) = some (ha n (eD sz a)) := by
 have key : ∀ i, i ≤ a.length → ∀ n : Int, 0 ≤ n → n ≤ 1048576 → ∀ m, a.length - i < m → l m n (i : Int) = some (ha n (eD sz (a.drop i))) := by
  refine down a.length ?_ ?_
  ·intro n bz _ m hm
   obtain ⟨k, rfl⟩ : ∃ k, m = k + 1 := ⟨m - 1, by omega⟩
   rw [hc, j0 (Nat.le_refl _), cond_false, List.drop_of_length_le (Nat.le_refl _)]
   exact Nt bz
  ·intro i ax ih n bz aO m hm
   obtain ⟨k, rfl⟩ : ∃ k, m = k + 1 := ⟨m - 1, by omega⟩
   rw [hc, k1 ax, cond_true, mL _ i ax, mM i _ ax (by omega), drop_cons a i ax]
   simp only [Option.bind_some, eD]
   exact bo _ (List.getElem_mem ax) n _ _ bz aO fun h => ih _ (by omega) (by omega) k (by omega)
 refine i1 (a.length + 1) fun m hm => ?_
 have := key 0 (by omega) n bz aO m (by omega)
 simpa using this
theorem Pa {α : Type} {l : Nat → Int → Int → Option Int} {f : α → Int → Option Int} (sz : α → Nat) (a : List α)
  (hc : ∀ m n i, l (m + 1) n i = cond (decide (i < (a.length : Int))) ((cE a i).bind fun x => (f x n).bind fun y => cond (decide (y < 0)) (some (-1)) (l m y (IntKind.i64.wrap (i + 1)))) (some n))
  (bo : ∀ x ∈ a, ∀ n : Int, 0 ≤ n → n ≤ 1048576 → f x n = some (ha n (sz x))) (bB : a.length ≤ 1048576) (n : Int) (bz : 0 ≤ n) (aO : n ≤ 1048576) : eo (fun m => l m n 0) = some (ha n (eD sz a)) :=
 Bi (B := fun x n k => (f x n).bind fun y => cond (decide (y < 0)) (some (-1)) (k y)) sz a hc (fun x an n _ _ bz aO ah => Nr (bo x an n bz aO) ah) bB n bz aO
theorem Pb {l : Nat → Int → Int → Option Int} (a : List (List UInt8))
  (hc : ∀ m n i, l (m + 1) n i = cond (decide (i < (a.length : Int))) ((cE a i).bind fun x => cond (decide (IntKind.i64.wrap (n - (x.length : Int)) < 0)) (some (-1)) (l m (IntKind.i64.wrap (n - (x.length : Int))) (IntKind.i64.wrap (i + 1)))) (some n))
  (bo : ∀ x ∈ a, x.length ≤ 9223372036854775807) (bB : a.length ≤ 1048576) (n : Int) (bz : 0 ≤ n) (aO : n ≤ 1048576) : eo (fun m => l m n 0) = some (ha n (eD List.length a)) :=
 Bi (B := fun x n k => cond (decide (IntKind.i64.wrap (n - (x.length : Int)) < 0)) (some (-1)) (k (IntKind.i64.wrap (n - (x.length : Int))))) List.length a (by intro m n i; rw [hc]) (by
  intro x an n k t bz aO ah
  have hl := bo x an
  refine Ns hl bz aO fun h => ?_
  have e : IntKind.i64.wrap (n - (x.length : Int)) = n - (x.length : Int) := eT _ (by omega)
  rw [e]
  exact ah h) bB n bz aO
theorem Pc {α β : Type} {l : Nat → List β → Int → Option (List β)} {f : α → Option β} (g : α → β) (a : List α) (z : β)
  (hc : ∀ m v i, l (m + 1) v i = cond (decide (i < (a.length : Int))) ((cE a i).bind fun x => (f x).bind fun y => (cE v i).bind fun _ => l m (List.set v (Int.toNat i) y) (IntKind.i64.wrap (i + 1))) (some v))
  (bo : ∀ x ∈ a, f x = some (g x)) (bB : a.length ≤ 1048576) : eo (fun m => l m (List.replicate (Int.toNat (a.length : Int)) z) 0) = some (a.map g) := by
 have key : ∀ i, i ≤ a.length → ∀ (v : List β) m, v.length = a.length → a.length - i < m → l m v (i : Int) = some (v.take i ++ (a.drop i).map g) := by
  refine down a.length ?_ ?_
  ·intro v m aC hm
   obtain ⟨k, rfl⟩ : ∃ k, m = k + 1 := ⟨m - 1, by omega⟩
   rw [hc, j0 (Nat.le_refl _)]
   simp [← aC]
  ·intro i ax ih v m aC hm
   obtain ⟨k, rfl⟩ : ∃ k, m = k + 1 := ⟨m - 1, by omega⟩
   rw [hc, k1 ax, mL _ i ax, mM i _ ax (by omega)]
   simp only [cond_true, Option.bind_some, bo _ (List.getElem_mem ax)]
   rw [mL v i (by omega)]
   simp only [Option.bind_some, Int.toNat_natCast]
   rw [ih _ k (by simp [aC]) (by omega), drop_cons a i ax, List.map_cons, List.take_set, List.take_succ_eq_append_getElem (by omega), List.set_append_right _ _ (by simp; omega)]
   simp [show min i v.length = i by omega]
 refine i1 (a.length + 1) fun m hm => ?_
 have := key 0 (by omega) (List.replicate (Int.toNat (a.length : Int)) z) m (by simp) (by omega)
 simpa using this
theorem Pd (b : Nat) {n : Nat} (h : n ≤ 1048576) (J : b ≤ 4096) : wz b (n : Int) = some () := by
 have U : b * n ≤ 4096 * 1048576 := Nat.mul_le_mul J h
 have aa : ((b : Int) * (n : Int)) = ((b * n : Nat) : Int) := by simp
 unfold wz
 rw [if_pos ⟨by omega, by rw [aa]; omega, by omega⟩]
theorem Nv {α : Type} {l : Nat → Int → Option Bool} {f : α → α → Option Bool} (a : List α)
  (hc : ∀ m i, l (m + 1) i = cond (decide (i < (a.length : Int))) ((cE a i).bind fun x => (cE a i).bind fun y => (f x y).bind fun z => cond (!z) (some false) (l m (IntKind.i64.wrap (i + 1)))) (some true))
  (bo : ∀ x ∈ a, f x x = some true) (bB : a.length ≤ 1048576) : eo (fun m => l m 0) = some true := by
 rw [nZ (n := a.length) (fun _ => some true)]
 ·intro m
  rw [hc, j0 (Nat.le_refl _)]; rfl
 ·intro i ax m ih
  rw [hc, k1 ax, mL _ i ax, mM i _ ax (by omega), ih]
  simp only [cond_true, Option.bind_some, bo _ (List.getElem_mem ax), Bool.not_true, cond_false]
theorem Pe {α : Type} {d : α → α → Bool} {l : Nat → Int → Option Bool} (a : List α)
  (hc : ∀ m i, l (m + 1) i = cond (decide (i < (a.length : Int))) ((cE a i).bind fun x => (cE a i).bind fun y => cond (d x y) (some false) (l m (IntKind.i64.wrap (i + 1)))) (some true))
  (ab : ∀ x, d x x = false) (bB : a.length ≤ 1048576) : eo (fun m => l m 0) = some true := by
 rw [nZ (n := a.length) (fun _ => some true)]
 ·intro m
  rw [hc, j0 (Nat.le_refl _)]; rfl
 ·intro i ax m ih
  rw [hc, k1 ax, mL _ i ax, mM i _ ax (by omega), ih]
  simp only [cond_true, Option.bind_some, ab, cond_false]
theorem Nw (x : Int) : (x != x) = false := by simp
theorem Nx (x : List UInt8) : (!(x == x)) = false := by simp
theorem Ny (x : Bool) : (!(x == x)) = false := by simp
theorem Nz (n : Nat) : ((n : Int) != (n : Int)) = false := by simp
def lQ (p : Nat → Bool) (n : Nat) : Bool := (List.range n).all p
theorem tb {p : Nat → Bool} {n : Nat} : lQ p n = true ↔ ∀ i, i < n → p i = true := by simp [lQ]
theorem Pf {p q : Nat → Bool} {n : Nat} (h : ∀ i, i < n → p i = q i) : lQ p n = lQ q n := by
 rw [Bool.eq_iff_iff, tb, tb]
 exact ⟨fun ak i ax => by rw [← h i ax]; exact ak i ax, fun ak i ax => by rw [h i ax]; exact ak i ax⟩
theorem Pg {l : Nat → Int → Option Bool} {n : Nat} (p : Nat → Bool) (bz : ∀ m, l (m + 1) (n : Int) = some true)
  (R : ∀ i, i < n → ∀ m, l (m + 1) (i : Int) = cond (p i) (l m ((i + 1 : Nat) : Int)) (some false)) : eo (fun m => l m 0) = some (lQ p n) := by
 rw [nZ (n := n) (fun i => some ((List.range' i (n - i)).all p))]
 ·simp [lQ, List.range_eq_range']
 ·intro m; rw [bz]; simp
 ·intro i ax m ih
  rw [R i ax, ih, show n - i = (n - (i + 1)) + 1 by omega, List.range'_succ]
  cases ak : p i <;> simp [ak]
def k2 (p : Nat → Bool) : Nat → Nat → Int
 | _, 0 => -1
 | i, k + 1 => if p i = true then (i : Int) else k2 p (i + 1) k
theorem Bj {p : Nat → Bool} : ∀ (k i : Nat), (∀ ay, i ≤ ay → ay < i + k → p ay = false) → k2 p i k = -1
 | 0, _, _ => rfl
 | k + 1, i, h => by
   simp only [k2, h i (Nat.le_refl _) (by omega)]
   exact Bj k (i + 1) fun ay U aa => h ay (by omega) (by omega)
theorem Bk {p : Nat → Bool} : ∀ (k i ay : Nat), i ≤ ay → ay < i + k → p ay = true → 0 ≤ k2 p i k
 | 0, i, ay, U, aa, _ => by omega
 | k + 1, i, ay, U, aa, au => by
   simp only [k2]
   split
   ·omega
   ·rename_i h
    refine Bk k (i + 1) ay ?_ (by omega) au
    rcases Nat.lt_or_ge i ay with h | h
    ·exact h
    ·have : i = ay := by omega
     subst this; exact absurd au (by assumption)
theorem Ph (p : Nat → Bool) (n : Nat) : decide (0 ≤ k2 p 0 n) = !(lQ (fun i => !p i) n) := by
 by_cases h : ∃ ay, ay < n ∧ p ay = true
 ·obtain ⟨ay, U, aa⟩ := h
  have au := Bk n 0 ay (Nat.zero_le _) (by omega) aa
  have aK : lQ (fun i => !p i) n = false := by
   rw [Bool.eq_false_iff]; intro hF
   have := tb.1 hF ay U
   simp [aa] at this
  rw [aK]; simpa using au
 ·have au : ∀ ay, ay < n → p ay = false := fun ay bP => by
   cases ak : p ay
   ·rfl
   ·exact absurd ⟨ay, bP, ak⟩ h
  rw [Bj n 0 fun ay _ aa => au ay (by omega)]
  have aK : lQ (fun i => !p i) n = true := tb.2 fun i ax => by simp [au i ax]
  rw [aK]; rfl
theorem Pj {l : Nat → Int → Option Int} {n : Nat} (p : Nat → Bool) (bz : ∀ m, l (m + 1) (n : Int) = some (-1))
  (R : ∀ i, i < n → ∀ m, l (m + 1) (i : Int) = cond (p i) (some (i : Int)) (l m ((i + 1 : Nat) : Int))) : eo (fun m => l m 0) = some (k2 p 0 n) := by
 rw [nZ (n := n) (fun i => some (k2 p i (n - i)))]
 ·simp
 ·intro m; rw [bz]; simp [k2]
 ·intro i ax m ih
  rw [R i ax, ih, show n - i = (n - (i + 1)) + 1 by omega]
  cases ak : p i <;> simp [ak, k2]
theorem Pk (i : Nat) (h : 0 < i) (aO : i ≤ 4611686018427387904) : IntKind.i64.wrap ((i : Int) - 1) = ((i - 1 : Nat) : Int) := by
 rw [eT _ (by omega)]; omega
theorem Pl : decide ((0 : Int) < ((0 : Nat) : Int)) = false := by decide
theorem Pm {i : Nat} (h : i ≠ 0) : decide ((0 : Int) < (i : Int)) = true := by simp; omega
def NA (b : Bool) : Int := cond b 1 0
theorem Pn (b : Bool) : (cond b (some 1) (some 0) : Option Int) = some (NA b) := by cases b <;> rfl
theorem Po {α : Type} (x : α) (l : List α) : eh (x :: l) 1 (((x :: l).length : Nat) : Int) = some l := by
 unfold eh
 rw [if_pos (by simp only [List.length_cons]; omega)]
 simp
theorem Pp {α : Type} (a b c : List α) {i ay : Int} (ax : i = (a.length : Int)) (bP : ay = ((a.length + b.length : Nat) : Int)) : eh (a ++ (b ++ c)) i ay = some b := by
 unfold eh
 have aE : i.toNat = a.length := by omega
 have aI : ay.toNat = a.length + b.length := by omega
 rw [if_pos (by simp only [List.length_append]; omega), aE, aI, ← List.append_assoc, List.take_left' (by simp), List.drop_left' rfl]
theorem Pq {b n : Nat} (h : n * b ≤ 140737488355328) (aa : n ≤ 9223372036854775807) : room b n = some () := by unfold room; rw [if_pos ⟨h, aa⟩]
end Go.fi
