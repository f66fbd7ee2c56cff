/- Part of a proof that a law returns true for every input. No condition. -/
import Derived.Test.YtjedocbdhlppdaaU4
namespace Go.fg
open Go Go.b1
theorem Lf (x : dL) (n : Int) (aj : lL x) (bk : 0 ≤ n) (aL : n ≤ 1048576) :
  ∃ r, mT x n = some r ∧ r ≤ n ∧ -1 ≤ r ∧ (0 ≤ r → x.Name.length ≤ 1048576 ∧ x.bp.length ≤ 1048576) := by
 obtain ⟨U, aa⟩ := aj
 unfold mT
 rw [gl (n - x.Name.length) (by omega)]
 by_cases bh : n - x.Name.length < 0
 ·have : decide (n - (x.Name.length : Int) < 0) = true := by simpa using bh
  rw [this]
  exact ⟨-1, rfl, by omega, by omega, by omega⟩
 ·have : decide (n - (x.Name.length : Int) < 0) = false := by simpa using bh
  rw [this, gl (n - x.Name.length - x.bp.length) (by omega)]
  by_cases a2 : n - x.Name.length - x.bp.length < 0
  ·have : decide (n - (x.Name.length : Int) - (x.bp.length : Int) < 0) = true := by simpa using a2
   rw [this]
   exact ⟨-1, rfl, by omega, by omega, by omega⟩
  ·have : decide (n - (x.Name.length : Int) - (x.bp.length : Int) < 0) = false := by simpa using a2
   rw [this]
   exact ⟨_, rfl, by omega, by omega, by omega⟩
def At (a : List dL) : Prop := a.length ≤ 1048576 ∧ ∀ x ∈ a, x.Name.length ≤ 1048576 ∧ x.bp.length ≤ 1048576
theorem Lg (a : List dL) (bs : a.length ≤ 9223372036854775807 ∧ ∀ y ∈ a, lL y) : ∃ r, oy a 1048576 = some r ∧ (0 ≤ r → At a) := by
 unfold oy
 rw [gl _ (by omega)]
 by_cases h : (1048576 : Int) - a.length < 0
 ·have : decide ((1048576 : Int) - (a.length : Int) < 0) = true := by simpa using h
  rw [this]
  exact ⟨-1, rfl, by omega⟩
 ·have : decide ((1048576 : Int) - (a.length : Int) < 0) = false := by simpa using h
  rw [this]
  simp only [cond_false]
  have key : ∀ i, i ≤ a.length → ∀ n : Int, 0 ≤ n → n ≤ 1048576 → ∃ r, (∀ m, a.length - i < m → lM a m n (i : Int) = some r) ∧ (0 ≤ r → ∀ ay, i ≤ ay → (bx : ay < a.length) → a[ay].Name.length ≤ 1048576 ∧ a[ay].bp.length ≤ 1048576) := by
   refine down a.length ?_ ?_
   ·intro n _ _
    refine ⟨n, fun m hm => ?_, fun _ ay U aa => by omega⟩
    obtain ⟨k, rfl⟩ : ∃ k, m = k + 1 := ⟨m - 1, by omega⟩
    simp only [lM, qg]
    rw [jV (Nat.le_refl _)]; rfl
   ·intro i ax ih n bk aL
    obtain ⟨r, c5, cr, fP, fQ⟩ := Lf a[i] n (bs.2 _ (List.getElem_mem ax)) bk aL
    by_cases aB : r < 0
    ·refine ⟨-1, fun m hm => ?_, fun h => by omega⟩
     obtain ⟨k, rfl⟩ : ∃ k, m = k + 1 := ⟨m - 1, by omega⟩
     simp only [lM, qg]
     have ab : decide (r < 0) = true := by simpa using aB
     rw [jg ax, jf _ i ax]
     simp only [cond_true, Option.bind_some, c5, ab]
    ·obtain ⟨q, eP, ee⟩ := ih r (by omega) (by omega)
     refine ⟨q, fun m hm => ?_, fun bR ay U aa => ?_⟩
     ·obtain ⟨k, rfl⟩ : ∃ k, m = k + 1 := ⟨m - 1, by omega⟩
      simp only [lM, qg]
      have ab : decide (r < 0) = false := by simpa using aB
      rw [jg ax, jf _ i ax, jU i _ ax (by omega)]
      simp only [cond_true, Option.bind_some, c5, ab, cond_false]
      exact eP k (by omega)
     ·by_cases e : ay = i
      ·subst e; exact fQ (by omega)
      ·exact ee bR ay (by omega) aa
  obtain ⟨r, c5, cr⟩ := key 0 (by omega) (1048576 - a.length) (by omega) (by omega)
  refine ⟨r, kt (a.length + 1) fun m hm => c5 m (by omega), fun aB => ⟨by omega, fun x aj => ?_⟩⟩
  obtain ⟨ay, bx, rfl⟩ := List.getElem_of_mem aj
  exact cr aB ay (by omega) bx
def qF (x : dL) : bS := ⟨x.Name, x.bp⟩
theorem Lh (a : List dL) (h : a.length ≤ 1048576) : lN a = some (a.map qF) := by
 unfold lN
 have e : lZ 32 (a.length : Int) = some () := by
  unfold lZ; rw [if_pos (by omega)]
 rw [e]
 simp only [Option.bind_some]
 have key : ∀ i, i ≤ a.length → ∀ (v : List bS) m, v.length = a.length → a.length - i < m → mU a m v (i : Int) = some (v.take i ++ (a.drop i).map qF) := by
  refine down a.length ?_ ?_
  ·intro v m aA hm
   obtain ⟨k, rfl⟩ : ∃ k, m = k + 1 := ⟨m - 1, by omega⟩
   simp only [mU, rQ]
   rw [jV (Nat.le_refl _)]
   simp [← aA]
  ·intro i ax ih v m aA hm
   obtain ⟨k, rfl⟩ : ∃ k, m = k + 1 := ⟨m - 1, by omega⟩
   simp only [mU, rQ]
   rw [jg ax, jf _ i ax, jU i _ ax (by omega)]
   simp only [cond_true, Option.bind_some, oz]
   rw [jf v i (by omega)]
   simp only [Option.bind_some, Int.toNat_natCast]
   rw [ih _ k (by simp [aA]) (by omega), drop_cons a i ax, List.map_cons, List.take_set, List.take_succ_eq_append_getElem (by omega), List.set_append_right _ _ (by simp; omega)]
   simp [show min i v.length = i by omega, qF]
 rw [kt (x := some (a.map qF)) (a.length + 1)]
 intro m hm
 have := key 0 (by omega) (List.replicate (Int.toNat (a.length : Int)) ⟨[], []⟩) m (by simp) (by omega)
 simpa using this
theorem Li (x : bS) : mX x x = some true := by
 unfold mX; simp
theorem Lj (a : List bS) (h : a.length ≤ 1048576) : oM a a = some true := by
 unfold oM
 have e : ((a.length : Int) != (a.length : Int)) = false := by simp
 rw [e]
 simp only [cond_false]
 rw [lU (n := a.length) (fun _ => some true)]
 ·intro m
  simp only [oL, r9]
  rw [jV (Nat.le_refl _)]; rfl
 ·intro i ax m ih
  simp only [oL, r9]
  rw [jg ax, jf _ i ax, jU i _ ax (by omega), ih]
  simp only [cond_true, Option.bind_some, Li, Bool.not_true, cond_false]
theorem vB {a : List dL} (h : At a) : lY (a.map qF) := by
 refine ⟨by simpa using h.1, fun x aj => ?_⟩
 obtain ⟨y, aY, rfl⟩ := List.mem_map.1 aj
 exact h.2 y aY
end Go.fg
