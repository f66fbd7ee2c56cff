/- Part of a proof that a law returns true for every input. No condition. -/
import Derived.Test.YtjedocbdhlppdaaP4
import Derived.Test.YtjedocbdhlppdaaUN
namespace Go.fi
open Go Go.b7
set_option linter.unusedSimpArgs false
def iB (x : a6) : Nat := (x.Name.length + (x.bx.length + 0))
theorem NF (x : a6) (h : (iB x) ≤ 1048576) : qY x x = some true := by
 unfold qY
 unfold iB at h
 simp only [Nw, Nx, Ny, cond_false, Option.bind_some, Bool.not_true]
theorem NG (x : List a6) (h : (hb iB x) ≤ 1048576) : qZ x x = some true := by
 unfold qZ
 have hl : x.length ≤ 1048576 := Nat.le_trans (Bh _ _) h
 rw [Nz, cond_false]
 exact Nv (f := qY) x (fun _ _ => rfl) (fun y a8 => NF y (Nat.le_trans (Nu (f := iB) a8) h)) hl
theorem Bq (k : Int) (bz : 0 ≤ k) (J : k ≤ 1099511627776) : ∃ t, nI k = some t := by
 have key : ∀ (n : Nat) (k : Int), 0 ≤ k → k ≤ n → n ≤ 1099511627776 → ∀ t : List UInt8, t.length + n ≤ 1099511627776 → ∃ r, ∀ m, n < m → mJ m k t = some r := by
  intro n
  induction n with
  | zero =>
    intro k U aa au t aG
    refine ⟨[109] ++ t, fun m hm => ?_⟩
    obtain ⟨m, rfl⟩ : ∃ ay, m = ay + 1 := ⟨m - 1, by omega⟩
    simp only [mJ, q0]
    rw [show decide (0 < k) = false by simp; omega, cond_false, show eU (1 + t.length) = some () by unfold eU; rw [if_pos (by omega)]]
    rfl
  | succ n ih =>
    intro k U aa au t aG
    by_cases ah : 0 < k
    ·have ab : Int.tdiv k 10 = k / 10 := Int.tdiv_eq_ediv_of_nonneg U
     have hw : IntKind.i64.wrap (Int.tdiv k 10) = k / 10 := by rw [ab]; exact eT _ (by omega)
     obtain ⟨r, aD⟩ := ih (k / 10) (by omega) (by omega) (by omega) ([(c0 (IntKind.i64.wrap (48 + (Int.tmod k 10))))] ++ t) (by simp only [List.length_append, List.length_cons, List.length_nil]; omega)
     refine ⟨r, fun m hm => ?_⟩
     obtain ⟨m, rfl⟩ : ∃ ay, m = ay + 1 := ⟨m - 1, by omega⟩
     simp only [mJ, q0]
     rw [show decide (0 < k) = true by simp; omega, cond_true, show eU (1 + t.length) = some () by unfold eU; rw [if_pos (by omega)]]
     simp only [Option.bind_some, hw]
     exact aD m (by omega)
    ·refine ⟨[109] ++ t, fun m hm => ?_⟩
     obtain ⟨m, rfl⟩ : ∃ ay, m = ay + 1 := ⟨m - 1, by omega⟩
     simp only [mJ, q0]
     rw [show decide (0 < k) = false by simp; omega, cond_false, show eU (1 + t.length) = some () by unfold eU; rw [if_pos (by omega)]]
     rfl
 unfold nI
 by_cases ah : k ≤ 0
 ·exact ⟨_, by rw [show decide (k ≤ 0) = true by simpa using ah]; rfl⟩
 ·obtain ⟨r, aD⟩ := key k.toNat k bz (by omega) (by omega) [] (by simp only [List.length_nil]; omega)
  exact ⟨r, by rw [show decide (k ≤ 0) = false by simp; omega, cond_false]; exact i1 (k.toNat + 1) fun m hm => aD m (by omega)⟩
theorem NH (x : List a6) (k : Int) (bz : 0 ≤ k) (J : k + 64 * (hb iB x) ≤ 1099511627776) : ∃ (bW : List a6) (c : Nat), c ≤ 64 * (hb iB x) ∧ sU x k = some (k + (c : Int), bW) ∧ q1 bW k = some (k + (c : Int)) := by
 unfold sU q1
 have e : eD (fun x => 64 * ((iB x) + 1)) x = 64 * hb iB x := Bo iB x
 have hl : x.length ≤ hb iB x := Bh _ _
 obtain ⟨bW, c, U, aa, au⟩ := ND (l := nJ) (hl := nK) (fun x => 64 * ((iB x) + 1)) (fun m v k => by simp only [nJ, sT]; rw [j0 (Nat.le_refl _)]; rfl) (fun a m k => by simp only [nK, sV]; rw [j0 (Nat.le_refl _)]; rfl) (fun x k bz J => by
  simp only [iB] at J ⊢
  obtain ⟨s1, t1⟩ := Bq k (by omega) (by omega)
  have iS : IntKind.i64.wrap (k + 1) = k + 1 := eT _ (by omega)
  obtain ⟨s2, t2⟩ := Bq (k + 1) (by omega) (by omega)
  have il : IntKind.i64.wrap ((k + 1) + 1) = (k + 1) + 1 := eT _ (by omega)
  refine ⟨(a6.mk s1 s2), 1 + 1, by omega, fun m d r ab => ⟨?_, ?_⟩⟩
  ·simp only [nJ, sT]
   rw [Bm]
   simp only [cond_true, Bl, NB, Option.bind_some, t1, iS, t2, il]
   rw [Bn ab]
   rw [show (((k + 1) + 1) : Int) = k + ((1 + 1 : Nat) : Int) by omega]
  ·simp only [nK, sV]
   rw [Bm]
   simp only [cond_true, cond_false, Bl, Option.bind_some, bne_self_eq_false, beq_self_eq_true, Bool.not_true, t1, iS, t2, il]
   rw [Bn ab]
   rw [show (((k + 1) + 1) : Int) = k + ((1 + 1 : Nat) : Int) by omega]) x k bz (by omega) (by omega)
 exact ⟨bW, c, by omega, aa, au⟩
end Go.fi
