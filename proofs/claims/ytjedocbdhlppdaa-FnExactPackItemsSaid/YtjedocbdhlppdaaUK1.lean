/- Part of a proof that a law returns true for every input. No condition. -/
import Derived.Test.YtjedocbdhlppdaaU5
namespace Go.fg
open Go Go.b1
theorem qG {n : Nat} (h : n ≤ 9223372036854775807) : fD n = some () := by unfold fD; rw [if_pos h]
def ji (x : bS) : List UInt8 := (((([35] : List UInt8) ++ [(cX (x.Name.length : Int))]) ++ x.Name) ++ [(cX (IntKind.i64.wrap (Int.tdiv (x.bp.length : Int) 256))), (cX (Int.tmod (x.bp.length : Int) 256))]) ++ x.bp
theorem Lk (x : bS) : (ji x).length = x.Name.length + x.bp.length + 4 := by
 simp only [ji, List.length_append, List.length_cons, List.length_nil]; omega
theorem Au {α : Type} (x : bS) (h : x.Name.length ≤ 1048576 ∧ x.bp.length ≤ 1048576) (K : Option α) :
  ((fD (1 + 1)).bind fun _ => (fD ((([35] : List UInt8) ++ [(cX (x.Name.length : Int))]).length + x.Name.length)).bind fun _ => (fD (((([35] : List UInt8) ++ [(cX (x.Name.length : Int))]) ++ x.Name).length + 2)).bind fun _ => (fD ((((([35] : List UInt8) ++ [(cX (x.Name.length : Int))]) ++ x.Name) ++ [(cX (IntKind.i64.wrap (Int.tdiv (x.bp.length : Int) 256))), (cX (Int.tmod (x.bp.length : Int) 256))]).length + x.bp.length)).bind fun _ => K) = K := by
 rw [qG (by omega), qG (by simp only [List.length_append, List.length_cons, List.length_nil]; omega), qG (by simp only [List.length_append, List.length_cons, List.length_nil]; omega), qG (by simp only [List.length_append, List.length_cons, List.length_nil]; omega)]
 rfl
theorem Ll (x : bS) (h : x.Name.length ≤ 1048576 ∧ x.bp.length ≤ 1048576) : rX x = some (ji x) := Au x h _
theorem Av {l : Nat → List UInt8 → Int → Option (List UInt8)} {B : bS → List UInt8 → (List UInt8 → Option (List UInt8)) → Option (List UInt8)} (a : List bS) (h : lY a)
  (gK : ∀ m v i, l (m + 1) v i = cond (decide (i < (a.length : Int))) ((cJ a i).bind fun x => B x v fun y => l m y (IntKind.i64.wrap (i + 1))) (some v))
  (dW : ∀ x v k, x.Name.length ≤ 1048576 ∧ x.bp.length ≤ 1048576 → v.length + (ji x).length ≤ 140737488355328 → B x v k = k (v ++ ji x)) :
  eR (fun m => l m [80, 65] 0) = some ([80, 65] ++ a.flatMap ji) := by
 have key : ∀ d m (v : List UInt8) (i : Nat), i + d = a.length → d < m → v.length ≤ i * 2097160 + 2 → l m v (i : Int) = some (v ++ (a.drop i).flatMap ji) := by
  intro d
  induction d with
  | zero =>
    intro m v i ax hm _
    obtain ⟨m, rfl⟩ : ∃ k, m = k + 1 := ⟨m - 1, by omega⟩
    rw [gK, List.drop_of_length_le (by omega)]
    have : decide ((i : Int) < a.length) = false := by simp; omega
    rw [this]; simp
  | succ d ih =>
    intro m v i ax hm aA
    obtain ⟨m, rfl⟩ : ∃ k, m = k + 1 := ⟨m - 1, by omega⟩
    have cx : i < a.length := by omega
    have bs := h.1
    have aj := h.2 a[i] (List.getElem_mem cx)
    have U : decide ((i : Int) < a.length) = true := by simp; omega
    have aI := Lk a[i]
    rw [gK, U, qH (by omega) (by simpa using cx)]
    simp only [cond_true, Option.bind_some, Int.toNat_natCast]
    rw [dW _ _ _ aj (by omega), gl ((i : Int) + 1) (by omega)]
    have := ih m (v ++ ji a[i]) (i + 1) (by omega) (by omega) (by rw [List.length_append]; omega)
    rw [show ((i : Int) + 1) = ((i + 1 : Nat) : Int) by omega, this, List.drop_eq_getElem_cons cx, List.flatMap_cons, List.append_assoc]
 refine kt (a.length + 1) fun n aL => ?_
 exact key a.length n [80, 65] 0 (by omega) (by omega) (by simp)
theorem Lm (a : List bS) (h : lY a) : rZ a = some ([80, 65] ++ a.flatMap ji) := by
 unfold rZ
 refine Av (B := fun x v k => (rX x).bind fun bZ => (fD (v.length + bZ.length)).bind fun _ => k (v ++ bZ)) a h (fun m v i => rfl) fun x v k aj aI => ?_
 simp only [Ll x aj, Option.bind_some]
 rw [qG (by omega)]; rfl
theorem Ln (a : List bS) (h : lY a) : r8 a = some (if lX a then [80, 65] ++ a.flatMap ji else []) := by
 unfold r8
 rw [Le a h]
 simp only [Option.bind_some]
 cases lX a
 ·rfl
 ·simp only [Bool.not_true, cond_false, if_true]
  have hw : ∀ u v : List UInt8, u.length + v.length ≤ 140737488355328 → lO u v = some (u ++ v) := fun u v h => by
   unfold lO; rw [if_pos h]
  rw [hw _ _ (by simp)]
  simp only [Option.bind_some, List.nil_append]
  refine Av (B := fun x v k => (fD (1 + 1)).bind fun _ => (fD ((([35] : List UInt8) ++ [(cX (x.Name.length : Int))]).length + x.Name.length)).bind fun _ => (fD (((([35] : List UInt8) ++ [(cX (x.Name.length : Int))]) ++ x.Name).length + 2)).bind fun _ => (fD ((((([35] : List UInt8) ++ [(cX (x.Name.length : Int))]) ++ x.Name) ++ [(cX (IntKind.i64.wrap (Int.tdiv (x.bp.length : Int) 256))), (cX (Int.tmod (x.bp.length : Int) 256))]).length + x.bp.length)).bind fun _ => (lO v (ji x)).bind k) a h (fun m v i => rfl) fun x v k aj aI => ?_
  rw [Au x aj, hw v _ aI]; rfl
theorem Lo (a : List bS) (h : lY a) : r0 a = some (if lX a then [80, 65] ++ a.flatMap ji else []) := by
 unfold r0
 rw [Ld a h]
 simp only [Option.bind_some]
 cases lX a
 ·rfl
 ·rw [Lm a h]; rfl
end Go.fg
