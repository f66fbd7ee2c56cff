/- Part of a proof that a law returns true for every input. No condition. -/
import Derived.Test.YtbemmmimelklkaaU0
namespace Go.eJ
open Go Go.cB
def hQ (n : Int) (s : Nat) : Int := if (s : Int) ≤ n then n - s else -1
theorem vw {n : Int} {s : Nat} (h : (s : Int) ≤ n) : hQ n s = n - s := if_pos h
theorem vx {n : Int} {s : Nat} (h : n < s) : hQ n s = -1 := if_neg (by omega)
theorem afi {n : Int} (h : 0 ≤ n) : hQ n 0 = n := by rw [vw (by simpa using h)]; simp
theorem Cw {f : Option Int} {k : Int → Option Int} {n : Int} {s t : Nat} (bB : f = some (hQ n s)) (ay : (s : Int) ≤ n → k (n - s) = some (hQ (n - s) t)) :
  (f.bind fun x => cond (decide (x < 0)) (some (-1)) (k x)) = some (hQ n (s + t)) := by
 rw [bB]
 simp only [Option.bind_some]
 by_cases h : (s : Int) ≤ n
 ·rw [vw h]
  have : decide (n - (s : Int) < 0) = false := by simp; omega
  rw [this, cond_false, ay h]
  congr 1
  unfold hQ
  by_cases af : (t : Int) ≤ n - s
  ·rw [if_pos af, if_pos (by omega)]; omega
  ·rw [if_neg af, if_neg (by omega)]
 ·rw [vx (by omega)]
  have : decide ((-1 : Int) < 0) = true := by decide
  rw [this, cond_true, vx (by omega)]
theorem qR {K : Option Int} {n : Int} {s t : Nat} (aa : s ≤ 9223372036854775807) (bh : 0 ≤ n) (bl : n ≤ 1048576) (ay : (s : Int) ≤ n → K = some (hQ (n - s) t)) :
  cond (decide (IntKind.i64.wrap (n - (s : Int)) < 0)) (some (-1)) K = some (hQ n (s + t)) := by
 rw [gh _ (by omega)]
 by_cases h : (s : Int) ≤ n
 ·have : decide (n - (s : Int) < 0) = false := by simp; omega
  rw [this, cond_false, ay h]
  congr 1
  unfold hQ
  by_cases af : (t : Int) ≤ n - s
  ·rw [if_pos af, if_pos (by omega)]; omega
  ·rw [if_neg af, if_neg (by omega)]
 ·have : decide (n - (s : Int) < 0) = true := by simp; omega
  rw [this, cond_true, vx (by omega)]
theorem yN {n : Int} (h : 0 ≤ n) : some n = some (hQ n 0) := by rw [afi h]
def e1 {α : Type} (f : α → Nat) : List α → Nat
 | [] => 0
 | x :: r => f x + e1 f r
theorem Iq {α : Type} {f : α → Nat} : ∀ {l : List α} {x : α}, x ∈ l → f x ≤ e1 f l
 | y :: r, x, h => by
   simp only [e1]
   rcases List.mem_cons.1 h with rfl | h
   ·omega
   ·have := Iq (f := f) h; omega
theorem Ir {α β : Type} {f : β → Nat} {g : α → β} : ∀ l : List α, e1 f (l.map g) = e1 (fun x => f (g x)) l
 | [] => rfl
 | x :: r => by simp only [List.map_cons, e1, Ir r]
def cT {α : Type} (f : α → Nat) (l : List α) : Nat := l.length + e1 f l
theorem yO {α β : Type} (f : β → Nat) (g : α → β) (l : List α) : cT f (l.map g) = cT (fun x => f (g x)) l := by simp only [cT, List.length_map, Ir]
theorem k3 {α : Type} (f : α → Nat) (l : List α) : l.length ≤ cT f l := Nat.le_add_right _ _
theorem nv {α : Type} {f : α → Nat} {l : List α} {x : α} (h : x ∈ l) : f x ≤ cT f l := Nat.le_trans (Iq h) (Nat.le_add_left _ _)
theorem Is {α : Type} {l : Nat → Int → Int → Option Int} {B : α → Int → (Int → Option Int) → Option Int} (sz : α → Nat) (a : List α)
  (jt : ∀ m n i, l (m + 1) n i = cond (decide (i < (a.length : Int))) ((b5 a i).bind fun x => B x n fun y => l m y (IntKind.i64.wrap (i + 1))) (some n))
  (bB : ∀ x ∈ a, ∀ (n : Int) (k : Int → Option Int) (t : Nat), 0 ≤ n → n ≤ 1048576 → ((sz x : Int) ≤ n → k (n - sz x) = some (hQ (n - sz x) t)) → B x n k = some (hQ n (sz x + t)))
  (b7 : a.length ≤ 1048576) (n : Int) (bh : 0 ≤ n) (bl : n ≤ 1048576) : lim (fun m => l m n 0) = some (hQ n (e1 sz a)) := by
 have key : ∀ i, i ≤ a.length → ∀ n : Int, 0 ≤ n → n ≤ 1048576 → ∀ m, a.length - i < m → l m n (i : Int) = some (hQ n (e1 sz (a.drop i))) := by
  refine down a.length ?_ ?_
  ·intro n bh _ m hm
   obtain ⟨k, rfl⟩ : ∃ k, m = k + 1 := ⟨m - 1, by omega⟩
   rw [jt, fQ (Nat.le_refl _), cond_false, List.drop_of_length_le (Nat.le_refl _)]
   exact yN bh
  ·intro i ak ih n bh bl m hm
   obtain ⟨k, rfl⟩ : ∃ k, m = k + 1 := ⟨m - 1, by omega⟩
   rw [jt, gA ak, cond_true, fa _ i ak, gz i _ ak (by omega), drop_cons a i ak]
   simp only [Option.bind_some, e1]
   exact bB _ (List.getElem_mem ak) n _ _ bh bl fun h => ih _ (by omega) (by omega) k (by omega)
 refine ho (a.length + 1) fun m hm => ?_
 have := key 0 (by omega) n bh bl m (by omega)
 simpa using this
theorem Cx {α : Type} {l : Nat → Int → Int → Option Int} {f : α → Int → Option Int} (sz : α → Nat) (a : List α)
  (jt : ∀ m n i, l (m + 1) n i = cond (decide (i < (a.length : Int))) ((b5 a i).bind fun x => (f x n).bind fun y => cond (decide (y < 0)) (some (-1)) (l m y (IntKind.i64.wrap (i + 1)))) (some n))
  (bB : ∀ x ∈ a, ∀ n : Int, 0 ≤ n → n ≤ 1048576 → f x n = some (hQ n (sz x))) (b7 : a.length ≤ 1048576) (n : Int) (bh : 0 ≤ n) (bl : n ≤ 1048576) : lim (fun m => l m n 0) = some (hQ n (e1 sz a)) :=
 Is (B := fun x n k => (f x n).bind fun y => cond (decide (y < 0)) (some (-1)) (k y)) sz a jt (fun x au n _ _ bh bl ay => Cw (bB x au n bh bl) ay) b7 n bh bl
theorem aiJ {l : Nat → Int → Int → Option Int} (a : List (List UInt8))
  (jt : ∀ m n i, l (m + 1) n i = cond (decide (i < (a.length : Int))) ((b5 a i).bind fun x => cond (decide (IntKind.i64.wrap (n - (x.length : Int)) < 0)) (some (-1)) (l m (IntKind.i64.wrap (n - (x.length : Int))) (IntKind.i64.wrap (i + 1)))) (some n))
  (bB : ∀ x ∈ a, x.length ≤ 9223372036854775807) (b7 : a.length ≤ 1048576) (n : Int) (bh : 0 ≤ n) (bl : n ≤ 1048576) : lim (fun m => l m n 0) = some (hQ n (e1 List.length a)) :=
 Is (B := fun x n k => cond (decide (IntKind.i64.wrap (n - (x.length : Int)) < 0)) (some (-1)) (k (IntKind.i64.wrap (n - (x.length : Int))))) List.length a (by intro m n i; rw [jt]) (by
  intro x au n k t bh bl ay
  have hl := bB x au
  refine qR hl bh bl fun h => ?_
  have e : IntKind.i64.wrap (n - (x.length : Int)) = n - (x.length : Int) := gh _ (by omega)
  rw [e]
  exact ay h) b7 n bh bl
theorem yP {α β : Type} {l : Nat → List β → Int → Option (List β)} {f : α → Option β} (g : α → β) (a : List α) (z : β)
  (jt : ∀ m v i, l (m + 1) v i = cond (decide (i < (a.length : Int))) ((b5 a i).bind fun x => (f x).bind fun y => (b5 v i).bind fun _ => l m (List.set v (Int.toNat i) y) (IntKind.i64.wrap (i + 1))) (some v))
  (bB : ∀ x ∈ a, f x = some (g x)) (b7 : a.length ≤ 1048576) : lim (fun m => l m (List.replicate (Int.toNat (a.length : Int)) z) 0) = some (a.map g) := by
 have key : ∀ i, i ≤ a.length → ∀ (v : List β) m, v.length = a.length → a.length - i < m → l m v (i : Int) = some (v.take i ++ (a.drop i).map g) := by
  refine down a.length ?_ ?_
  ·intro v m aK hm
   obtain ⟨k, rfl⟩ : ∃ k, m = k + 1 := ⟨m - 1, by omega⟩
   rw [jt, fQ (Nat.le_refl _)]
   simp [← aK]
  ·intro i ak ih v m aK hm
   obtain ⟨k, rfl⟩ : ∃ k, m = k + 1 := ⟨m - 1, by omega⟩
   rw [jt, gA ak, fa _ i ak, gz i _ ak (by omega)]
   simp only [cond_true, Option.bind_some, bB _ (List.getElem_mem ak)]
   rw [fa v i (by omega)]
   simp only [Option.bind_some, Int.toNat_natCast]
   rw [ih _ k (by simp [aK]) (by omega), drop_cons a i ak, List.map_cons, List.take_set, List.take_succ_eq_append_getElem (by omega), List.set_append_right _ _ (by simp; omega)]
   simp [show min i v.length = i by omega]
 refine ho (a.length + 1) fun m hm => ?_
 have := key 0 (by omega) (List.replicate (Int.toNat (a.length : Int)) z) m (by simp) (by omega)
 simpa using this
theorem vy (b : Nat) {n : Nat} (h : n ≤ 1048576) (U : b ≤ 4096) : nA b (n : Int) = some () := by
 have ab : b * n ≤ 4096 * 1048576 := Nat.mul_le_mul U h
 have af : ((b : Int) * (n : Int)) = ((b * n : Nat) : Int) := by simp
 unfold nA
 rw [if_pos ⟨by omega, by rw [af]; omega, by omega⟩]
theorem yQ {α : Type} {l : Nat → Int → Option Bool} {f : α → α → Option Bool} (a : List α)
  (jt : ∀ m i, l (m + 1) i = cond (decide (i < (a.length : Int))) ((b5 a i).bind fun x => (b5 a i).bind fun y => (f x y).bind fun z => cond (!z) (some false) (l m (IntKind.i64.wrap (i + 1)))) (some true))
  (bB : ∀ x ∈ a, f x x = some true) (b7 : a.length ≤ 1048576) : lim (fun m => l m 0) = some true := by
 rw [o8 (n := a.length) (fun _ => some true)]
 ·intro m
  rw [jt, fQ (Nat.le_refl _)]; rfl
 ·intro i ak m ih
  rw [jt, gA ak, fa _ i ak, gz i _ ak (by omega), ih]
  simp only [cond_true, Option.bind_some, bB _ (List.getElem_mem ak), Bool.not_true, cond_false]
theorem afj {α : Type} {d : α → α → Bool} {l : Nat → Int → Option Bool} (a : List α)
  (jt : ∀ m i, l (m + 1) i = cond (decide (i < (a.length : Int))) ((b5 a i).bind fun x => (b5 a i).bind fun y => cond (d x y) (some false) (l m (IntKind.i64.wrap (i + 1)))) (some true))
  (ah : ∀ x, d x x = false) (b7 : a.length ≤ 1048576) : lim (fun m => l m 0) = some true := by
 rw [o8 (n := a.length) (fun _ => some true)]
 ·intro m
  rw [jt, fQ (Nat.le_refl _)]; rfl
 ·intro i ak m ih
  rw [jt, gA ak, fa _ i ak, gz i _ ak (by omega), ih]
  simp only [cond_true, Option.bind_some, ah, cond_false]
theorem Cy (x : Int) : (x != x) = false := by simp
theorem yR (x : List UInt8) : (!(x == x)) = false := by simp
theorem Cz (x : Bool) : (!(x == x)) = false := by simp
theorem vz (n : Nat) : ((n : Int) != (n : Int)) = false := by simp
def gP (p : Nat → Bool) (n : Nat) : Bool := (List.range n).all p
theorem nw {p : Nat → Bool} {n : Nat} : gP p n = true ↔ ∀ i, i < n → p i = true := by simp [gP]
theorem aiK {p q : Nat → Bool} {n : Nat} (h : ∀ i, i < n → p i = q i) : gP p n = gP q n := by
 rw [Bool.eq_iff_iff, nw, nw]
 exact ⟨fun an i ak => by rw [← h i ak]; exact an i ak, fun an i ak => by rw [h i ak]; exact an i ak⟩
theorem aiL {l : Nat → Int → Option Bool} {n : Nat} (p : Nat → Bool) (bh : ∀ m, l (m + 1) (n : Int) = some true)
  (aa : ∀ i, i < n → ∀ m, l (m + 1) (i : Int) = cond (p i) (l m ((i + 1 : Nat) : Int)) (some false)) : lim (fun m => l m 0) = some (gP p n) := by
 rw [o8 (n := n) (fun i => some ((List.range' i (n - i)).all p))]
 ·simp [gP, List.range_eq_range']
 ·intro m; rw [bh]; simp
 ·intro i ak m ih
  rw [aa i ak, ih, show n - i = (n - (i + 1)) + 1 by omega, List.range'_succ]
  cases an : p i <;> simp [an]
def nx (p : Nat → Bool) : Nat → Nat → Int
 | _, 0 => -1
 | i, k + 1 => if p i = true then (i : Int) else nx p (i + 1) k
theorem It {p : Nat → Bool} : ∀ (k i : Nat), (∀ j, i ≤ j → j < i + k → p j = false) → nx p i k = -1
 | 0, _, _ => rfl
 | k + 1, i, h => by
   simp only [nx, h i (Nat.le_refl _) (by omega)]
   exact It k (i + 1) fun j ab af => h j (by omega) (by omega)
theorem Iu {p : Nat → Bool} : ∀ (k i j : Nat), i ≤ j → j < i + k → p j = true → 0 ≤ nx p i k
 | 0, i, j, ab, af, _ => by omega
 | k + 1, i, j, ab, af, aF => by
   simp only [nx]
   split
   ·omega
   ·rename_i h
    refine Iu k (i + 1) j ?_ (by omega) aF
    rcases Nat.lt_or_ge i j with h | h
    ·exact h
    ·have : i = j := by omega
     subst this; exact absurd aF (by assumption)
theorem CA (p : Nat → Bool) (n : Nat) : decide (0 ≤ nx p 0 n) = !(gP (fun i => !p i) n) := by
 by_cases h : ∃ j, j < n ∧ p j = true
 ·obtain ⟨j, ab, af⟩ := h
  have aF := Iu n 0 j (Nat.zero_le _) (by omega) af
  have bb : gP (fun i => !p i) n = false := by
   rw [Bool.eq_false_iff]; intro jz
   have := nw.1 jz j ab
   simp [af] at this
  rw [bb]; simpa using aF
 ·have aF : ∀ j, j < n → p j = false := fun j bS => by
   cases an : p j
   ·rfl
   ·exact absurd ⟨j, bS, an⟩ h
  rw [It n 0 fun j _ af => aF j (by omega)]
  have bb : gP (fun i => !p i) n = true := nw.2 fun i ak => by simp [aF i ak]
  rw [bb]; rfl
theorem CB {l : Nat → Int → Option Int} {n : Nat} (p : Nat → Bool) (bh : ∀ m, l (m + 1) (n : Int) = some (-1))
  (aa : ∀ i, i < n → ∀ m, l (m + 1) (i : Int) = cond (p i) (some (i : Int)) (l m ((i + 1 : Nat) : Int))) : lim (fun m => l m 0) = some (nx p 0 n) := by
 rw [o8 (n := n) (fun i => some (nx p i (n - i)))]
 ·simp
 ·intro m; rw [bh]; simp [nx]
 ·intro i ak m ih
  rw [aa i ak, ih, show n - i = (n - (i + 1)) + 1 by omega]
  cases an : p i <;> simp [an, nx]
theorem Iv (i : Nat) (h : 0 < i) (bl : i ≤ 4611686018427387904) : IntKind.i64.wrap ((i : Int) - 1) = ((i - 1 : Nat) : Int) := by
 rw [gh _ (by omega)]; omega
theorem yS : decide ((0 : Int) < ((0 : Nat) : Int)) = false := by decide
theorem aiM {i : Nat} (h : i ≠ 0) : decide ((0 : Int) < (i : Int)) = true := by simp; omega
def afk (b : Bool) : Int := cond b 1 0
theorem aiN (b : Bool) : (cond b (some 1) (some 0) : Option Int) = some (afk b) := by cases b <;> rfl
theorem afl {α : Type} (x : α) (l : List α) : hS (x :: l) 1 (((x :: l).length : Nat) : Int) = some l := by
 unfold hS
 rw [if_pos (by simp only [List.length_cons]; omega)]
 simp
theorem aiO {α : Type} (a b c : List α) {i j : Int} (ak : i = (a.length : Int)) (bS : j = ((a.length + b.length : Nat) : Int)) : hS (a ++ (b ++ c)) i j = some b := by
 unfold hS
 have aJ : i.toNat = a.length := by omega
 have aP : j.toNat = a.length + b.length := by omega
 rw [if_pos (by simp only [List.length_append]; omega), aJ, aP, ← List.append_assoc, List.take_left' (by simp), List.drop_left' rfl]
theorem yT {b n : Nat} (h : n * b ≤ 140737488355328) (af : n ≤ 9223372036854775807) : room b n = some () := by unfold room; rw [if_pos ⟨h, af⟩]
end Go.eJ
