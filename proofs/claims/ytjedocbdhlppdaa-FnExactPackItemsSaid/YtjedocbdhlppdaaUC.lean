/- Part of a proof that a law returns true for every input. No condition. -/
import Derived.Test.YtjedocbdhlppdaaP3
import Derived.Test.YtjedocbdhlppdaaU0
namespace Go.fg
open Go Go.b1
def Am (s : Int) : Int := cond (decide (65535 < IntKind.i64.wrap (s * 2))) (bitsOf .xor .i64 (bitsOf .and .i64 (IntKind.i64.wrap (s * 2)) 65535) 4129) (IntKind.i64.wrap (s * 2))
def sq : Nat → Int → Int
 | 0, s => s
 | k + 1, s => sq k (Am s)
def An (s : Int) (c : UInt8) : Int := sq 8 (bitsOf .xor .i64 s (IntKind.i64.wrap ((c.toNat : Int) * 256)))
def oZ (l : List UInt8) (s : Int) : Int := l.foldl An s
theorem K7 (c0 : Int → Int → Option Int) (a : List UInt8) (i : Int) : ∀ (d n : Nat) (s ay : Int), ay = 8 - d → d ≤ 8 → d < n → kh c0 a n s i ay = c0 (sq d s) (IntKind.i64.wrap (i + 1)) := by
 intro d
 induction d with
 | zero =>
   intro n s ay bx _ aL
   obtain ⟨m, rfl⟩ : ∃ m, n = m + 1 := ⟨n - 1, by omega⟩
   simp only [kh, qj]
   have : decide (ay < 8) = false := by simp; omega
   rw [this]; rfl
 | succ d ih =>
   intro n s ay bx ab aL
   obtain ⟨m, rfl⟩ : ∃ m, n = m + 1 := ⟨n - 1, by omega⟩
   simp only [kh, qj, qi]
   have U : decide (ay < 8) = true := by simp; omega
   have aa : IntKind.i64.wrap (ay + 1) = ay + 1 := gl _ (by omega)
   rw [U, aa]
   simp only [cond_true]
   rw [ih m _ (ay + 1) (by omega) (by omega) (by omega), ih m _ (ay + 1) (by omega) (by omega) (by omega)]
   simp only [sq, Am]
   cases decide (65535 < IntKind.i64.wrap (s * 2)) <;> rfl
theorem K8 (a : List UInt8) (bs : a.length ≤ 140737488355328) : ∀ (d n : Nat) (s i : Int), i = a.length - d → d ≤ a.length → d < n → ho a n s i = some (oZ (a.drop i.toNat) s) := by
 intro d
 induction d with
 | zero =>
   intro n s i ax _ aL
   obtain ⟨m, rfl⟩ : ∃ m, n = m + 1 := ⟨n - 1, by omega⟩
   simp only [ho, qk]
   have U : decide (i < a.length) = false := by simp; omega
   rw [U, List.drop_of_length_le (by omega)]; rfl
 | succ d ih =>
   intro n s i ax ab aL
   obtain ⟨m, rfl⟩ : ∃ m, n = m + 1 := ⟨n - 1, by omega⟩
   simp only [ho, qk]
   have U : decide (i < a.length) = true := by simp; omega
   have cx : i.toNat < a.length := by omega
   rw [U, qH (by omega) cx]
   simp only [cond_true, Option.bind_some]
   rw [kt (x := ho a m (An s a[i.toNat]) (i + 1)) 9]
   ·rw [ih m _ (i + 1) (by omega) (by omega) (by omega)]
    have : (i + 1).toNat = i.toNat + 1 := by omega
    rw [this, List.drop_eq_getElem_cons cx]
    rfl
   ·intro n aL
    rw [K7 _ a i 8 n _ 0 (by omega) (by omega) (by omega), gl (i + 1) (by omega)]
    rfl
theorem vz (a : List UInt8) (bs : a.length ≤ 140737488355328) (s : Int) : oE a s = some (oZ a s) := by
 unfold oE
 refine kt (a.length + 1) fun n aL => ?_
 rw [K8 a bs a.length n s 0 (by omega) (by omega) (by omega)]; rfl
theorem Ao (a : List UInt8) (s : Int) (h : 0 ≤ s ∧ s ≤ 65535) : qn a s = oE a s := by
 have aC : ∀ k n s i ay, mW k a n s i ay = kh k a n s i ay := by
  intro k n
  induction n with
  | zero => intros; rfl
  | succ n ih =>
    intro s i ay
    simp only [mW, kh, u1, qj, r2, qi, ih]
 have aF : ∀ n s i, jb a n s i = ho a n s i := by
  intro n
  induction n with
  | zero => intros; rfl
  | succ n ih =>
    intro s i
    have K9 : jb a n = ho a n := by funext s i; exact ih s i
    simp only [jb, ho, u2, qk, aC, K9]
 unfold qn oE qm
 have J : (decide (0 ≤ s) && decide (s ≤ 65535)) = true := by simp [h]
 simp only [J, Option.bind_some, Bool.not_true, cond_false, aF]
theorem ML (a : List UInt8) (bs : a.length ≤ 140737488355328) (s : Int) (h : 0 ≤ s ∧ s ≤ 65535) : qn a s = some (oZ a s) := (Ao a s h).trans (vz a bs s)
end Go.fg
