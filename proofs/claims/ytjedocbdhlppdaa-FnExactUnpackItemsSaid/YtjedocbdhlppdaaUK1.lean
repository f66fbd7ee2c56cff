/- Part of a proof that a law returns true for every input. No condition. -/
import Derived.Test.YtjedocbdhlppdaaU4
namespace Go.fi
open Go Go.b7
theorem rm {n : Nat} (h : n ≤ 9223372036854775807) : eU n = some () := by unfold eU; rw [if_pos h]
def gE (x : a6) : List UInt8 := (((([35] : List UInt8) ++ [(c0 (x.Name.length : Int))]) ++ x.Name) ++ [(c0 (IntKind.i64.wrap (Int.tdiv (x.bx.length : Int) 256))), (c0 (Int.tmod (x.bx.length : Int) 256))]) ++ x.bx
theorem BB (x : a6) : (gE x).length = x.Name.length + x.bx.length + 4 := by
 simp only [gE, List.length_append, List.length_cons, List.length_nil]; omega
theorem BC {α : Type} (x : a6) (h : x.Name.length ≤ 1048576 ∧ x.bx.length ≤ 1048576) (K : Option α) :
  ((eU (1 + 1)).bind fun _ => (eU ((([35] : List UInt8) ++ [(c0 (x.Name.length : Int))]).length + x.Name.length)).bind fun _ => (eU (((([35] : List UInt8) ++ [(c0 (x.Name.length : Int))]) ++ x.Name).length + 2)).bind fun _ => (eU ((((([35] : List UInt8) ++ [(c0 (x.Name.length : Int))]) ++ x.Name) ++ [(c0 (IntKind.i64.wrap (Int.tdiv (x.bx.length : Int) 256))), (c0 (Int.tmod (x.bx.length : Int) 256))]).length + x.bx.length)).bind fun _ => K) = K := by
 rw [rm (by omega), rm (by simp only [List.length_append, List.length_cons, List.length_nil]; omega), rm (by simp only [List.length_append, List.length_cons, List.length_nil]; omega), rm (by simp only [List.length_append, List.length_cons, List.length_nil]; omega)]
 rfl
theorem NO (x : a6) (h : x.Name.length ≤ 1048576 ∧ x.bx.length ≤ 1048576) : sF x = some (gE x) := BC x h _
theorem BD {l : Nat → List UInt8 → Int → Option (List UInt8)} {B : a6 → List UInt8 → (List UInt8 → Option (List UInt8)) → Option (List UInt8)} (a : List a6) (h : ky a)
  (hc : ∀ m v i, l (m + 1) v i = cond (decide (i < (a.length : Int))) ((cE a i).bind fun x => B x v fun y => l m y (IntKind.i64.wrap (i + 1))) (some v))
  (ej : ∀ x v k, x.Name.length ≤ 1048576 ∧ x.bx.length ≤ 1048576 → v.length + (gE x).length ≤ 140737488355328 → B x v k = k (v ++ gE x)) :
  eo (fun m => l m [80, 65] 0) = some ([80, 65] ++ a.flatMap gE) := by
 have key : ∀ d m (v : List UInt8) (i : Nat), i + d = a.length → d < m → v.length ≤ i * 2097160 + 2 → l m v (i : Int) = some (v ++ (a.drop i).flatMap gE) := by
  intro d
  induction d with
  | zero =>
    intro m v i ax hm _
    obtain ⟨m, rfl⟩ : ∃ k, m = k + 1 := ⟨m - 1, by omega⟩
    rw [hc, List.drop_of_length_le (by omega)]
    have : decide ((i : Int) < a.length) = false := by simp; omega
    rw [this]; simp
  | succ d ih =>
    intro m v i ax hm aC
    obtain ⟨m, rfl⟩ : ∃ k, m = k + 1 := ⟨m - 1, by omega⟩
    have cK : i < a.length := by omega
    have bB := h.1
    have an := h.2 a[i] (List.getElem_mem cK)
    have U : decide ((i : Int) < a.length) = true := by simp; omega
    have hl := BB a[i]
    rw [hc, U, rq (by omega) (by simpa using cK)]
    simp only [cond_true, Option.bind_some, Int.toNat_natCast]
    rw [ej _ _ _ an (by omega), eT ((i : Int) + 1) (by omega)]
    have := ih m (v ++ gE a[i]) (i + 1) (by omega) (by omega) (by rw [List.length_append]; omega)
    rw [show ((i : Int) + 1) = ((i + 1 : Nat) : Int) by omega, this, List.drop_eq_getElem_cons cK, List.flatMap_cons, List.append_assoc]
 refine i1 (a.length + 1) fun n aO => ?_
 exact key a.length n [80, 65] 0 (by omega) (by omega) (by simp)
theorem NP (a : List a6) (h : ky a) : sH a = some ([80, 65] ++ a.flatMap gE) := by
 unfold sH
 refine BD (B := fun x v k => (sF x).bind fun aQ => (eU (v.length + aQ.length)).bind fun _ => k (v ++ aQ)) a h (fun m v i => rfl) fun x v k an hl => ?_
 simp only [NO x an, Option.bind_some]
 rw [rm (by omega)]; rfl
theorem NQ (a : List a6) (h : ky a) : sR a = some (if lR a then [80, 65] ++ a.flatMap gE else []) := by
 unfold sR
 rw [NN a h]
 simp only [Option.bind_some]
 cases lR a
 ·rfl
 ·simp only [Bool.not_true, cond_false, if_true]
  have hw : ∀ u v : List UInt8, u.length + v.length ≤ 140737488355328 → mI u v = some (u ++ v) := fun u v h => by
   unfold mI; rw [if_pos h]
  rw [hw _ _ (by simp)]
  simp only [Option.bind_some, List.nil_append]
  refine BD (B := fun x v k => (eU (1 + 1)).bind fun _ => (eU ((([35] : List UInt8) ++ [(c0 (x.Name.length : Int))]).length + x.Name.length)).bind fun _ => (eU (((([35] : List UInt8) ++ [(c0 (x.Name.length : Int))]) ++ x.Name).length + 2)).bind fun _ => (eU ((((([35] : List UInt8) ++ [(c0 (x.Name.length : Int))]) ++ x.Name) ++ [(c0 (IntKind.i64.wrap (Int.tdiv (x.bx.length : Int) 256))), (c0 (Int.tmod (x.bx.length : Int) 256))]).length + x.bx.length)).bind fun _ => (mI v (gE x)).bind k) a h (fun m v i => rfl) fun x v k an hl => ?_
  rw [BC x an, hw v _ hl]; rfl
end Go.fi
