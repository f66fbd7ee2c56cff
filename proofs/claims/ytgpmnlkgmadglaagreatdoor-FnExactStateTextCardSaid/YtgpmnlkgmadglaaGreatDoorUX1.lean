/- Part of a proof that a law returns true for every input. No condition. -/
import Derived.Test.YtgpmnlkgmadglaaGreatDoorUY9
namespace Go.eV
open Go Go.c0
theorem join_one (x s : List UInt8) : jF [x] s = x := by simp [jF, List.intercalate, List.intersperse]
theorem join_cons (x y : List UInt8) (r : List (List UInt8)) (s : List UInt8) : jF (x :: y :: r) s = x ++ (s ++ jF (y :: r) s) := by simp [jF, List.intercalate, List.intersperse]
theorem Oy (s : List UInt8) : ∀ (l : List (List UInt8)) (y : List UInt8), l ≠ [] → jF (l ++ [y]) s = jF l s ++ (s ++ y)
 | [], _, h => (h rfl).elim
 | [x], y, _ => by rw [List.singleton_append, join_cons, join_one, join_one]
 | x :: z :: r, y, _ => by
   rw [List.cons_append, List.cons_append, join_cons, join_cons, ← List.cons_append, Oy s (z :: r) y (by simp)]
   simp only [List.append_assoc]
theorem yq (c : UInt8) (k : Nat) : ∀ l : List (List UInt8), (∀ x ∈ l, x.length ≤ k) → (jF l [c]).length ≤ l.length * (k + 1)
 | [], _ => by simp [jF, List.intercalate, List.intersperse]
 | [x], h => by rw [join_one]; have := h x (by simp); simp only [List.length_cons, List.length_nil]; omega
 | x :: y :: r, h => by
   rw [join_cons]
   have ag := h x (by simp)
   have ah := yq c k (y :: r) fun z b6 => h z (by simp [b6])
   simp only [List.length_append, List.length_cons, List.length_nil, Nat.add_mul] at ah ⊢
   omega
theorem Oz {α : Type} {L : Nat → List UInt8 → Int → Option (List UInt8)} (a : List α) (t : α → List UInt8) (c : UInt8) (k : Nat) (az : ∀ x ∈ a, (t x).length ≤ k)
  (bc : ∀ m v, L (m + 1) v (a.length : Int) = some v)
  (ad : ∀ i (h : i < a.length) m v, v.length ≤ i * (k + 1) → L (m + 1) v (i : Int) = L m ((if i = 0 then v else v ++ [c]) ++ t a[i]) ((i + 1 : Nat) : Int)) : cZ (fun m => L m [] 0) = some (jF (a.map t) [c]) := by
 have key : ∀ i, i ≤ a.length → ∀ m, a.length - i < m → L m (jF ((a.take i).map t) [c]) (i : Int) = some (jF (a.map t) [c]) := by
  refine down a.length ?_ ?_
  ·intro m hm
   obtain ⟨m, rfl⟩ : ∃ j, m = j + 1 := ⟨m - 1, by omega⟩
   rw [bc, List.take_length]
  ·intro i al ih m hm
   obtain ⟨m, rfl⟩ : ∃ j, m = j + 1 := ⟨m - 1, by omega⟩
   have aR : (jF ((a.take i).map t) [c]).length ≤ i * (k + 1) := by
    have := yq c k ((a.take i).map t) fun x aq => by
     obtain ⟨y, bt, rfl⟩ := List.mem_map.1 aq
     exact az y (List.mem_of_mem_take bt)
    rwa [List.length_map, List.length_take, Nat.min_eq_left (Nat.le_of_lt al)] at this
   rw [ad i al m _ aR, ← ih m (by omega)]
   congr 1
   rw [List.take_succ_eq_append_getElem al, List.map_append, List.map_cons, List.map_nil]
   by_cases h : i = 0
   ·subst h
    rw [if_pos rfl, List.take_zero, List.map_nil, List.nil_append, join_one]
    rfl
   ·rw [if_neg h, Oy _ _ _ (by simp; exact ⟨h, by intro e; subst e; simp at al⟩), List.append_assoc]
 refine iH (a.length + 1) fun m hm => ?_
 have := key 0 (by omega) m (by omega)
 simpa [jF, List.intercalate, List.intersperse] using this
theorem awc : ∀ d : Fin 10, oN (IntKind.i64.wrap (48 + ((d : Nat) : Int))) = UInt8.ofNat (48 + d) := by decide
theorem awd (n : Nat) (h : n < 10) : oN (IntKind.i64.wrap (48 + (n : Int))) = UInt8.ofNat (48 + n) := awc ⟨n, h⟩
theorem awe (a : UInt8) : qR [a] = some [a] := by
 unfold qR
 refine iH 2 fun m hm => ?_
 obtain ⟨m, rfl⟩ : ∃ j, m = j + 2 := ⟨m - 2, by omega⟩
 rfl
theorem awf (a b : UInt8) : qR [a, b] = some [b, a] := by
 unfold qR
 refine iH 3 fun m hm => ?_
 obtain ⟨m, rfl⟩ : ∃ j, m = j + 3 := ⟨m - 3, by omega⟩
 rfl
theorem OA (a : Int) (m : Nat) (v : List UInt8) (n : Nat) (aY : n ≠ 0) (ayL : n < 1000) (aN : v.length ≤ 10) : pd a (m + 1) v (n : Int) = pd a m (v ++ [UInt8.ofNat (48 + n % 10)]) ((n / 10 : Nat) : Int) := by
 simp only [pd, Av, At]
 have aS : ((n : Int) != 0) = true := by simp; omega
 have aX : Int.tmod (n : Int) 10 = ((n % 10 : Nat) : Int) := rfl
 have aQ : decide (((n % 10 : Nat) : Int) < 0) = false := by simp only [decide_eq_false_iff_not]; omega
 have ca : Int.tdiv (n : Int) 10 = ((n / 10 : Nat) : Int) := rfl
 rw [aS, aX, aQ, ca, awd (n % 10) (by omega), hg ((n / 10 : Nat) : Int) (by omega), NL (by omega) (by omega)]
 rfl
theorem OB (a : Int) (b_ : 0 ≤ a) (m : Nat) (v : List UInt8) : pd a (m + 1) v 0 = qR v := by
 simp only [pd, Av]
 have e : decide (a < 0) = false := by simp only [decide_eq_false_iff_not]; omega
 rw [e]; rfl
theorem OC (n : Nat) (h : n < 100) : uI (n : Int) = some (l4 n) := by
 unfold uI
 by_cases bc : n = 0
 ·subst bc; rfl
 have e : ((n : Int) == 0) = false := by simp; omega
 rw [e, cond_false]
 refine iH 3 fun m hm => ?_
 obtain ⟨m, rfl⟩ : ∃ j, m = j + 3 := ⟨m - 3, by omega⟩
 rw [OA _ _ _ n bc (by omega) (by simp)]
 by_cases ag : n < 10
 ·have aS : n / 10 = 0 := by omega
  have aX : n % 10 = n := by omega
  rw [aS, aX]
  rw [show (((0 : Nat) : Int)) = 0 from rfl, OB _ (by omega), List.nil_append, awe, l4, if_pos ag]
 ·rw [OA _ _ _ (n / 10) (by omega) (by omega) (by simp)]
  have aS : n / 10 / 10 = 0 := by omega
  have aX : n / 10 % 10 = n / 10 := by omega
  rw [aS, aX]
  rw [show (((0 : Nat) : Int)) = 0 from rfl, OB _ (by omega), List.nil_append, List.singleton_append, awf, l4, if_neg ag]
theorem OD (n : Nat) (h : n < 100) : uR (n : Int) = some (l4 n) := by
 unfold uR xD
 rw [if_pos ⟨by omega, by omega, rfl⟩]; rfl
theorem Cn (n : Nat) : (l4 n).length ≤ 2 := by unfold l4; split <;> simp
theorem awg {α γ β : Type} {L : Nat → List γ → Int → Option β} (a : List α) (t : α → γ) (w : List γ) (hw : w.length = a.length) (E : List γ → Option β)
  (bc : ∀ m v, L (m + 1) v (a.length : Int) = E v)
  (ad : ∀ i (h : i < a.length) m v, v.length = a.length → L (m + 1) v (i : Int) = L m (v.set i (t a[i])) ((i + 1 : Nat) : Int)) : cZ (fun m => L m w 0) = E (a.map t) := by
 have key : ∀ i, i ≤ a.length → ∀ m, a.length - i < m → L m ((a.take i).map t ++ w.drop i) (i : Int) = E (a.map t) := by
  refine down a.length ?_ ?_
  ·intro m hm
   obtain ⟨m, rfl⟩ : ∃ j, m = j + 1 := ⟨m - 1, by omega⟩
   rw [bc, List.take_length, List.drop_of_length_le (by omega), List.append_nil]
  ·intro i al ih m hm
   obtain ⟨m, rfl⟩ : ∃ j, m = j + 1 := ⟨m - 1, by omega⟩
   have e : ((a.take i).map t).length = i := by simp; omega
   rw [ad i al m _ (by simp only [List.length_append, e, List.length_drop]; omega), ← ih m (by omega)]
   congr 1
   rw [List.set_append_right i _ (by rw [e]; omega), e, Nat.sub_self, drop_cons w i (by omega), List.set_cons_zero, List.take_succ_eq_append_getElem al, List.map_append]
   simp
 refine iH (a.length + 1) fun m hm => ?_
 have := key 0 (by omega) m (by omega)
 simpa using this
def pt (n : Int) : List UInt8 := l4 n.toNat
theorem Co (n : Int) : (pt n).length ≤ 2 := Cn _
def pv (a : List Int) : List UInt8 := if a = [] then [45] else jF (a.map pt) [44]
theorem GK (a : List Int) : (pv a).length ≤ a.length * 3 + 1 := by
 unfold pv
 split
 ·simp
 ·have := yq 44 2 (a.map pt) fun x aq => by
   obtain ⟨y, _, rfl⟩ := List.mem_map.1 aq
   exact Co y
  rw [List.length_map] at this; omega
theorem awh {x : Int} (h : 0 ≤ x ∧ x ≤ 63) : uI x = some (pt x) := by
 have := OC x.toNat (by omega)
 rwa [Int.toNat_of_nonneg h.1] at this
theorem awi {x : Int} (h : 0 ≤ x ∧ x ≤ 63) : uR x = some (pt x) := by
 have := OD x.toNat (by omega)
 rwa [Int.toNat_of_nonneg h.1] at this
theorem awj (a : List Int) (h : a.length ≤ 64) (aN : ∀ x ∈ a, 0 ≤ x ∧ x ≤ 63) : Ay a = some (pv a) := by
 unfold Ay pv
 by_cases b_ : a = []
 ·subst b_; rfl
 have e : ((a.length : Int) == 0) = false := by
  have : a.length ≠ 0 := fun h => b_ (List.length_eq_zero_iff.1 h)
  simp; exact b_
 rw [e, cond_false, if_neg b_]
 refine Oz (L := qS a) a pt 44 2 (fun x _ => Co x) (fun m v => ?_) (fun i al m v aR => ?_)
 ·simp only [qS, Ax]; rw [gr (Nat.le_refl _)]; rfl
 ·simp only [qS, Ax, Aw]
  have aq := Co a[i]
  have ok : ∀ n, n ≤ 1048576 → kE n = some () := fun n aY => by unfold kE; rw [if_pos (by omega)]
  rw [gb al, gG _ i al, ga i _ al (by omega), ok _ (by omega)]
  simp only [cond_true, Option.bind_some]
  rw [awh (aN _ (List.getElem_mem al))]
  simp only [Option.bind_some]
  by_cases bc : i = 0
  ·subst bc
   rw [if_pos rfl, show decide ((0 : Int) < ((0 : Nat) : Int)) = false from by decide, cond_false, ok _ (by omega)]
   rfl
  ·rw [if_neg bc, show decide ((0 : Int) < (i : Int)) = true from by simp; omega, cond_true, ok _ (by simp only [List.length_append, List.length_cons, List.length_nil]; omega)]
   rfl
theorem awk (a : List Int) (h : a.length ≤ 64) (aN : ∀ x ∈ a, 0 ≤ x ∧ x ≤ 63) : Bd a = some true := by
 unfold Bd Fa E_
 have e : decide ((a.length : Int) ≤ 64) = true := by simp; omega
 rw [e, cond_true]
 have := q7 (n := a.length) (l := sy a) (fun _ => false) (fun m => ?_) (fun i al m => ?_)
 ·rw [this]
  simp only [Option.bind_some, q6]
  have : e9 (fun _ => !false) a.length = true := by simp [e9]
  rw [this]; rfl
 ·simp only [sy, Bc]
  rw [gr (Nat.le_refl _)]; rfl
 ·have aq := aN _ (List.getElem_mem al)
  simp only [sy, Bc, E9, je]
  rw [gb al, gG _ i al, ga i _ al (by omega)]
  simp only [cond_true, Option.bind_some, show decide (-1000000000000 ≤ a[i]) = true from by simp; omega, show decide (a[i] ≤ 1000000000000) = true from by simp; omega, Bool.and_self, Bool.not_true, cond_false]
theorem awl (a : List Int) (h : a.length ≤ 64) (aN : ∀ x ∈ a, 0 ≤ x ∧ x ≤ 63) : Bf a = some (pv a) := by
 unfold Bf pv
 rw [awk a h aN]
 simp only [Option.bind_some, Bool.not_true, cond_false]
 by_cases b_ : a = []
 ·subst b_; rfl
 have e : ((a.length : Int) == 0) = false := by
  have : a.length ≠ 0 := fun h => b_ (List.length_eq_zero_iff.1 h)
  simp; exact b_
 rw [e, cond_false, if_neg b_]
 unfold Fb
 rw [oE 16 (by omega) (by omega)]
 simp only [Option.bind_some, Int.toNat_natCast]
 have b3 : strings_Join (a.map pt) [44] = some (jF (a.map pt) [44]) := by
  unfold strings_Join
  have := yq 44 2 (a.map pt) fun x aq => by
   obtain ⟨y, _, rfl⟩ := List.mem_map.1 aq
   exact Co y
  rw [List.length_map] at this
  rw [if_pos ⟨by rw [List.length_map]; omega, by omega⟩]
 rw [awg (L := sA a [44]) a pt (List.replicate a.length []) (by simp) (fun v => (strings_Join v [44]).bind fun bW => some bW) (fun m v => ?_) (fun i al m v aR => ?_), b3]
 ·rfl
 ·simp only [sA, Be]; rw [gr (Nat.le_refl _)]; rfl
 ·simp only [sA, Be]
  rw [gb al, gG _ i al, ga i _ al (by omega), gG v i (by omega)]
  simp only [cond_true, Option.bind_some]
  rw [awi (aN _ (List.getElem_mem al))]
  simp only [Option.bind_some, Int.toNat_natCast]
end Go.eV
