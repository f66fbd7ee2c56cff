/- Part of a proof that a law returns true for every input. No condition. -/
import Derived.Test.YtgpmnlkgmadglaaGreatDoorUD12
namespace Go.eR
open Go Go.cY
theorem join_one (x s : List UInt8) : jR [x] s = x := by simp [jR, List.intercalate, List.intersperse]
theorem join_cons (x y : List UInt8) (r : List (List UInt8)) (s : List UInt8) : jR (x :: y :: r) s = x ++ (s ++ jR (y :: r) s) := by simp [jR, List.intercalate, List.intersperse]
theorem Q5 (s : List UInt8) : ∀ (l : List (List UInt8)) (y : List UInt8), l ≠ [] → jR (l ++ [y]) s = jR l s ++ (s ++ y)
 | [], _, h => (h rfl).elim
 | [x], y, _ => by rw [List.singleton_append, join_cons, join_one, join_one]
 | x :: z :: r, y, _ => by
   rw [List.cons_append, List.cons_append, join_cons, join_cons, ← List.cons_append, Q5 s (z :: r) y (by simp)]
   simp only [List.append_assoc]
theorem EC (c : UInt8) (k : Nat) : ∀ l : List (List UInt8), (∀ x ∈ l, x.length ≤ k) → (jR l [c]).length ≤ l.length * (k + 1)
 | [], _ => by simp [jR, List.intercalate, List.intersperse]
 | [x], h => by rw [join_one]; have := h x (by simp); simp only [List.length_cons, List.length_nil]; omega
 | x :: y :: r, h => by
   rw [join_cons]
   have af := h x (by simp)
   have ag := EC c k (y :: r) fun z bS => h z (by simp [bS])
   simp only [List.length_append, List.length_cons, List.length_nil, Nat.add_mul] at ag ⊢
   omega
theorem axH {α : Type} {L : Nat → List UInt8 → Int → Option (List UInt8)} (a : List α) (t : α → List UInt8) (c : UInt8) (k : Nat) (ar : ∀ x ∈ a, (t x).length ≤ k)
  (bn : ∀ m v, L (m + 1) v (a.length : Int) = some v)
  (ab : ∀ i (h : i < a.length) m v, v.length ≤ i * (k + 1) → L (m + 1) v (i : Int) = L m ((if i = 0 then v else v ++ [c]) ++ t a[i]) ((i + 1 : Nat) : Int)) : c2 (fun m => L m [] 0) = some (jR (a.map t) [c]) := by
 have key : ∀ i, i ≤ a.length → ∀ m, a.length - i < m → L m (jR ((a.take i).map t) [c]) (i : Int) = some (jR (a.map t) [c]) := by
  refine down a.length ?_ ?_
  ·intro m hm
   obtain ⟨m, rfl⟩ : ∃ j, m = j + 1 := ⟨m - 1, by omega⟩
   rw [bn, List.take_length]
  ·intro i an ih m hm
   obtain ⟨m, rfl⟩ : ∃ j, m = j + 1 := ⟨m - 1, by omega⟩
   have hl : (jR ((a.take i).map t) [c]).length ≤ i * (k + 1) := by
    have := EC c k ((a.take i).map t) fun x aq => by
     obtain ⟨y, hy, rfl⟩ := List.mem_map.1 aq
     exact ar y (List.mem_of_mem_take hy)
    rwa [List.length_map, List.length_take, Nat.min_eq_left (Nat.le_of_lt an)] at this
   rw [ab i an m _ hl, ← ih m (by omega)]
   congr 1
   rw [List.take_succ_eq_append_getElem an, List.map_append, List.map_cons, List.map_nil]
   by_cases h : i = 0
   ·subst h
    rw [if_pos rfl, List.take_zero, List.map_nil, List.nil_append, join_one]
    rfl
   ·rw [if_neg h, Q5 _ _ _ (by simp; exact ⟨h, by intro e; subst e; simp at an⟩), List.append_assoc]
 refine hE (a.length + 1) fun m hm => ?_
 have := key 0 (by omega) m (by omega)
 simpa [jR, List.intercalate, List.intersperse] using this
theorem axI : ∀ d : Fin 10, mx (IntKind.i64.wrap (48 + ((d : Nat) : Int))) = UInt8.ofNat (48 + d) := by decide
theorem axJ (n : Nat) (h : n < 10) : mx (IntKind.i64.wrap (48 + (n : Int))) = UInt8.ofNat (48 + n) := axI ⟨n, h⟩
theorem axK (a : UInt8) : sE [a] = some [a] := by
 unfold sE
 refine hE 2 fun m hm => ?_
 obtain ⟨m, rfl⟩ : ∃ j, m = j + 2 := ⟨m - 2, by omega⟩
 rfl
theorem axL (a b : UInt8) : sE [a, b] = some [b, a] := by
 unfold sE
 refine hE 3 fun m hm => ?_
 obtain ⟨m, rfl⟩ : ∃ j, m = j + 3 := ⟨m - 3, by omega⟩
 rfl
theorem Q6 (a : Int) (m : Nat) (v : List UInt8) (n : Nat) (bc : n ≠ 0) (aAA : n < 1000) (aK : v.length ≤ 10) : qH a (m + 1) v (n : Int) = qH a m (v ++ [UInt8.ofNat (48 + n % 10)]) ((n / 10 : Nat) : Int) := by
 simp only [qH, CJ, CH]
 have aN : ((n : Int) != 0) = true := by simp; omega
 have aZ : Int.tmod (n : Int) 10 = ((n % 10 : Nat) : Int) := rfl
 have aT : decide (((n % 10 : Nat) : Int) < 0) = false := by simp only [decide_eq_false_iff_not]; omega
 have b2 : Int.tdiv (n : Int) 10 = ((n / 10 : Nat) : Int) := rfl
 rw [aN, aZ, aT, b2, axJ (n % 10) (by omega), fW ((n / 10 : Nat) : Int) (by omega), qU (by omega) (by omega)]
 rfl
theorem Q7 (a : Int) (bF : 0 ≤ a) (m : Nat) (v : List UInt8) : qH a (m + 1) v 0 = sE v := by
 simp only [qH, CJ]
 have e : decide (a < 0) = false := by simp only [decide_eq_false_iff_not]; omega
 rw [e]; rfl
theorem axM (n : Nat) (h : n < 100) : zo (n : Int) = some (jS n) := by
 unfold zo
 by_cases bn : n = 0
 ·subst bn; rfl
 have e : ((n : Int) == 0) = false := by simp; omega
 rw [e, cond_false]
 refine hE 3 fun m hm => ?_
 obtain ⟨m, rfl⟩ : ∃ j, m = j + 3 := ⟨m - 3, by omega⟩
 rw [Q6 _ _ _ n bn (by omega) (by simp)]
 by_cases af : n < 10
 ·have aN : n / 10 = 0 := by omega
  have aZ : n % 10 = n := by omega
  rw [aN, aZ]
  rw [show (((0 : Nat) : Int)) = 0 from rfl, Q7 _ (by omega), List.nil_append, axK, jS, if_pos af]
 ·rw [Q6 _ _ _ (n / 10) (by omega) (by omega) (by simp)]
  have aN : n / 10 / 10 = 0 := by omega
  have aZ : n / 10 % 10 = n / 10 := by omega
  rw [aN, aZ]
  rw [show (((0 : Nat) : Int)) = 0 from rfl, Q7 _ (by omega), List.nil_append, List.singleton_append, axL, jS, if_neg af]
theorem Jj (n : Nat) (h : n < 100) : uE (n : Int) = some (jS n) := by
 unfold uE zF
 rw [if_pos ⟨by omega, by omega, rfl⟩]; rfl
theorem Jk (n : Nat) : (jS n).length ≤ 2 := by unfold jS; split <;> simp
theorem axN {α γ β : Type} {L : Nat → List γ → Int → Option β} (a : List α) (t : α → γ) (w : List γ) (hw : w.length = a.length) (E : List γ → Option β)
  (bn : ∀ m v, L (m + 1) v (a.length : Int) = E v)
  (ab : ∀ i (h : i < a.length) m v, v.length = a.length → L (m + 1) v (i : Int) = L m (v.set i (t a[i])) ((i + 1 : Nat) : Int)) : c2 (fun m => L m w 0) = E (a.map t) := by
 have key : ∀ i, i ≤ a.length → ∀ m, a.length - i < m → L m ((a.take i).map t ++ w.drop i) (i : Int) = E (a.map t) := by
  refine down a.length ?_ ?_
  ·intro m hm
   obtain ⟨m, rfl⟩ : ∃ j, m = j + 1 := ⟨m - 1, by omega⟩
   rw [bn, List.take_length, List.drop_of_length_le (by omega), List.append_nil]
  ·intro i an ih m hm
   obtain ⟨m, rfl⟩ : ∃ j, m = j + 1 := ⟨m - 1, by omega⟩
   have e : ((a.take i).map t).length = i := by simp; omega
   rw [ab i an m _ (by simp only [List.length_append, e, List.length_drop]; omega), ← ih m (by omega)]
   congr 1
   rw [List.set_append_right i _ (by rw [e]; omega), e, Nat.sub_self, drop_cons w i (by omega), List.set_cons_zero, List.take_succ_eq_append_getElem an, List.map_append]
   simp
 refine hE (a.length + 1) fun m hm => ?_
 have := key 0 (by omega) m (by omega)
 simpa using this
def ll (n : Int) : List UInt8 := jS n.toNat
theorem ED (n : Int) : (ll n).length ≤ 2 := Jk _
def mv (a : List Int) : List UInt8 := if a = [] then [45] else jR (a.map ll) [44]
theorem EE (a : List Int) : (mv a).length ≤ a.length * 3 + 1 := by
 unfold mv
 split
 ·simp
 ·have := EC 44 2 (a.map ll) fun x aq => by
   obtain ⟨y, _, rfl⟩ := List.mem_map.1 aq
   exact ED y
  rw [List.length_map] at this; omega
theorem axO {x : Int} (h : 0 ≤ x ∧ x ≤ 63) : zo x = some (ll x) := by
 have := axM x.toNat (by omega)
 rwa [Int.toNat_of_nonneg h.1] at this
theorem axP {x : Int} (h : 0 ≤ x ∧ x ≤ 63) : uE x = some (ll x) := by
 have := Jj x.toNat (by omega)
 rwa [Int.toNat_of_nonneg h.1] at this
theorem axQ (a : List Int) (h : a.length ≤ 64) (aK : ∀ x ∈ a, 0 ≤ x ∧ x ≤ 63) : CM a = some (mv a) := by
 unfold CM mv
 by_cases bF : a = []
 ·subst bF; rfl
 have e : ((a.length : Int) == 0) = false := by
  have : a.length ≠ 0 := fun h => bF (List.length_eq_zero_iff.1 h)
  simp; exact bF
 rw [e, cond_false, if_neg bF]
 refine axH (L := sF a) a ll 44 2 (fun x _ => ED x) (fun m v => ?_) (fun i an m v hl => ?_)
 ·simp only [sF, CL]; rw [gI (Nat.le_refl _)]; rfl
 ·simp only [sF, CL, CK]
  have aq := ED a[i]
  have ok : ∀ n, n ≤ 1048576 → iF n = some () := fun n bc => by unfold iF; rw [if_pos (by omega)]
  rw [hx an, fp _ i an, hg i _ an (by omega), ok _ (by omega)]
  simp only [cond_true, Option.bind_some]
  rw [axO (aK _ (List.getElem_mem an))]
  simp only [Option.bind_some]
  by_cases bn : i = 0
  ·subst bn
   rw [if_pos rfl, show decide ((0 : Int) < ((0 : Nat) : Int)) = false from by decide, cond_false, ok _ (by omega)]
   rfl
  ·rw [if_neg bn, show decide ((0 : Int) < (i : Int)) = true from by simp; omega, cond_true, ok _ (by simp only [List.length_append, List.length_cons, List.length_nil]; omega)]
   rfl
theorem Q8 (a : List Int) (h : a.length ≤ 64) (aK : ∀ x ∈ a, 0 ≤ x ∧ x ≤ 63) : Dj a = some true := by
 unfold Dj HR HQ
 have e : decide ((a.length : Int) ≤ 64) = true := by simp; omega
 rw [e, cond_true]
 have := AF (n := a.length) (l := uG a) (fun _ => false) (fun m => ?_) (fun i an m => ?_)
 ·rw [this]
  simp only [Option.bind_some, AE]
  have : ik (fun _ => !false) a.length = true := by simp [ik]
  rw [this]; rfl
 ·simp only [uG, Di]
  rw [gI (Nat.le_refl _)]; rfl
 ·have aq := aK _ (List.getElem_mem an)
  simp only [uG, Di, HP, j4]
  rw [hx an, fp _ i an, hg i _ an (by omega)]
  simp only [cond_true, Option.bind_some, show decide (-1000000000000 ≤ a[i]) = true from by simp; omega, show decide (a[i] ≤ 1000000000000) = true from by simp; omega, Bool.and_self, Bool.not_true, cond_false]
theorem Q9 (a : List Int) (h : a.length ≤ 64) (aK : ∀ x ∈ a, 0 ≤ x ∧ x ≤ 63) : zH a = some (mv a) := by
 unfold zH mv
 rw [Q8 a h aK]
 simp only [Option.bind_some, Bool.not_true, cond_false]
 by_cases bF : a = []
 ·subst bF; rfl
 have e : ((a.length : Int) == 0) = false := by
  have : a.length ≠ 0 := fun h => bF (List.length_eq_zero_iff.1 h)
  simp; exact bF
 rw [e, cond_false, if_neg bF]
 unfold w2
 rw [vc 16 (by omega) (by omega)]
 simp only [Option.bind_some, Int.toNat_natCast]
 have bw : strings_Join (a.map ll) [44] = some (jR (a.map ll) [44]) := by
  unfold strings_Join
  have := EC 44 2 (a.map ll) fun x aq => by
   obtain ⟨y, _, rfl⟩ := List.mem_map.1 aq
   exact ED y
  rw [List.length_map] at this
  rw [if_pos ⟨by rw [List.length_map]; omega, by omega⟩]
 rw [axN (L := uF a [44]) a ll (List.replicate a.length []) (by simp) (fun v => (strings_Join v [44]).bind fun bl => some bl) (fun m v => ?_) (fun i an m v hl => ?_), bw]
 ·rfl
 ·simp only [uF, Dg]; rw [gI (Nat.le_refl _)]; rfl
 ·simp only [uF, Dg]
  rw [hx an, fp _ i an, hg i _ an (by omega), fp v i (by omega)]
  simp only [cond_true, Option.bind_some]
  rw [axP (aK _ (List.getElem_mem an))]
  simp only [Option.bind_some, Int.toNat_natCast]
end Go.eR
