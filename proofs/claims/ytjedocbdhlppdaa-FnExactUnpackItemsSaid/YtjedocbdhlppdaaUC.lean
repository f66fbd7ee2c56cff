/- Part of a proof that a law returns true for every input. No condition. -/
import Derived.Test.YtjedocbdhlppdaaP4
import Derived.Test.YtjedocbdhlppdaaU0
namespace Go.fi
open Go Go.b7
def Br (s : Int) : Int := cond (decide (65535 < IntKind.i64.wrap (s * 2))) (bitsOf .xor .i64 (bitsOf .and .i64 (IntKind.i64.wrap (s * 2)) 65535) 4129) (IntKind.i64.wrap (s * 2))
def tc : Nat → Int → Int
 | 0, s => s
 | k + 1, s => tc k (Br s)
def Bs (s : Int) (c : UInt8) : Int := tc 8 (bitsOf .xor .i64 s (IntKind.i64.wrap ((c.toNat : Int) * 256)))
def pC (l : List UInt8) (s : Int) : Int := l.foldl Bs s
theorem NI (c4 : Int → Int → Option Int) (a : List UInt8) (i : Int) : ∀ (d n : Nat) (s ay : Int), ay = 8 - d → d ≤ 8 → d < n → kW c4 a n s i ay = c4 (tc d s) (IntKind.i64.wrap (i + 1)) := by
 intro d
 induction d with
 | zero =>
   intro n s ay bP _ aO
   obtain ⟨m, rfl⟩ : ∃ m, n = m + 1 := ⟨n - 1, by omega⟩
   simp only [kW, qR]
   have : decide (ay < 8) = false := by simp; omega
   rw [this]; rfl
 | succ d ih =>
   intro n s ay bP ab aO
   obtain ⟨m, rfl⟩ : ∃ m, n = m + 1 := ⟨n - 1, by omega⟩
   simp only [kW, qR, qQ]
   have U : decide (ay < 8) = true := by simp; omega
   have aa : IntKind.i64.wrap (ay + 1) = ay + 1 := eT _ (by omega)
   rw [U, aa]
   simp only [cond_true]
   rw [ih m _ (ay + 1) (by omega) (by omega) (by omega), ih m _ (ay + 1) (by omega) (by omega) (by omega)]
   simp only [tc, Br]
   cases decide (65535 < IntKind.i64.wrap (s * 2)) <;> rfl
theorem NJ (a : List UInt8) (bB : a.length ≤ 140737488355328) : ∀ (d n : Nat) (s i : Int), i = a.length - d → d ≤ a.length → d < n → hW a n s i = some (pC (a.drop i.toNat) s) := by
 intro d
 induction d with
 | zero =>
   intro n s i ax _ aO
   obtain ⟨m, rfl⟩ : ∃ m, n = m + 1 := ⟨n - 1, by omega⟩
   simp only [hW, qS]
   have U : decide (i < a.length) = false := by simp; omega
   rw [U, List.drop_of_length_le (by omega)]; rfl
 | succ d ih =>
   intro n s i ax ab aO
   obtain ⟨m, rfl⟩ : ∃ m, n = m + 1 := ⟨n - 1, by omega⟩
   simp only [hW, qS]
   have U : decide (i < a.length) = true := by simp; omega
   have cK : i.toNat < a.length := by omega
   rw [U, rq (by omega) cK]
   simp only [cond_true, Option.bind_some]
   rw [i1 (x := hW a m (Bs s a[i.toNat]) (i + 1)) 9]
   ·rw [ih m _ (i + 1) (by omega) (by omega) (by omega)]
    have : (i + 1).toNat = i.toNat + 1 := by omega
    rw [this, List.drop_eq_getElem_cons cK]
    rfl
   ·intro n aO
    rw [NI _ a i 8 n _ 0 (by omega) (by omega) (by omega), eT (i + 1) (by omega)]
    rfl
theorem wu (a : List UInt8) (bB : a.length ≤ 140737488355328) (s : Int) : pd a s = some (pC a s) := by
 unfold pd
 refine i1 (a.length + 1) fun n aO => ?_
 rw [NJ a bB a.length n s 0 (by omega) (by omega) (by omega)]; rfl
theorem Bt (a : List UInt8) (s : Int) (h : 0 ≤ s ∧ s ≤ 65535) : qW a s = pd a s := by
 have aE : ∀ k n s i ay, nH k a n s i ay = kW k a n s i ay := by
  intro k n
  induction n with
  | zero => intros; rfl
  | succ n ih =>
    intro s i ay
    simp only [nH, kW, vM, qR, sK, qQ, ih]
 have aI : ∀ n s i, jU a n s i = hW a n s i := by
  intro n
  induction n with
  | zero => intros; rfl
  | succ n ih =>
    intro s i
    have NK : jU a n = hW a n := by funext s i; exact ih s i
    simp only [jU, hW, vN, qS, aE, NK]
 unfold qW pd qV
 have J : (decide (0 ≤ s) && decide (s ≤ 65535)) = true := by simp [h]
 simp only [J, Option.bind_some, Bool.not_true, cond_false, aI]
theorem Pt (a : List UInt8) (bB : a.length ≤ 140737488355328) (s : Int) (h : 0 ≤ s ∧ s ≤ 65535) : qW a s = some (pC a s) := (Bt a s h).trans (wu a bB s)
end Go.fi
