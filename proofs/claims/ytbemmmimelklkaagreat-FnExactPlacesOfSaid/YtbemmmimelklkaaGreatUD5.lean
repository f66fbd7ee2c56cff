/- Part of a proof that a law returns true for every input. No condition. -/
import Derived.Test.YtbemmmimelklkaaGreatUD4
namespace Go.fJ
open Go Go.dg
theorem tb {β : Type} {l : Nat → Int → Option β} {n : Nat} (p : Nat → Bool) (oG bad : Option β) (ba : ∀ m, l (m + 1) (n : Int) = oG)
  (ah : ∀ i, i < n → ∀ m, l (m + 1) (i : Int) = cond (p i) (l m ((i + 1 : Nat) : Int)) bad) : cO (fun m => l m 0) = cond (fG p n) oG bad := by
 rw [sY (n := n) (fun i => cond ((List.range' i (n - i)).all p) oG bad)]
 ·simp [fG, List.range_eq_range']
 ·intro m; rw [ba]; simp
 ·intro i ar m ih
  rw [ah i ar, ih, show n - i = (n - (i + 1)) + 1 by omega, List.range'_succ]
  cases ax : p i <;> simp [ax]
def Nm (d : a9) : Prop := d.Name.length ≤ 1048576 ∧ d.Body.length ≤ 1048576 ∧ ∀ p ∈ d.Body, yC p
def p3 (b : List bx) : Bool := (decide (1 ≤ b.length) && decide (b.length ≤ 20)) && q4 b 1
theorem yD {b : List bx} (h : p3 b = true) : eg b 1 = some b.length ∧ 1 ≤ b.length ∧ b.length ≤ 20 := by
 simp only [p3, Gb, Bool.and_eq_true, decide_eq_true_eq, beq_iff_eq] at h
 exact ⟨h.2, h.1.1, h.1.2⟩
def oH (d : a9) (i : Nat) : cg := (gb d.Body [⟨d.cZ, false⟩]).getD i ⟨0, false⟩
theorem Gh (d : a9) (h : p3 d.Body = true) (ax : 0 ≤ d.cZ ∧ d.cZ ≤ 3) (i : Nat) (ar : i < d.Body.length) :
  uJ d (i : Int) = some (oH d i).scope ∧ 0 ≤ (oH d i).scope ∧ (oH d i).scope ≤ 29 ∧
   (oH d i).behind = ta d.Body i ∧
   (gb d.Body [⟨d.cZ, false⟩])[i]? = some (oH d i) := by
 obtain ⟨ai, aj, aP⟩ := yD h
 obtain ⟨s, pl, a4, a_, a3⟩ := Nh d.Body [⟨d.cZ, false⟩] d.Body.length ai i ar
 have ah : s = ⟨d.cZ, false⟩ := by
  simp only [q5, ai] at a4
  rw [if_pos ar] at a4
  exact (Option.some.inj a4).symm
 subst ah
 have fV : oH d i = pl := by unfold oH; rw [List.getD_eq_getElem?_getD, a_]; rfl
 have ay := Nc d.Body i
 simp only at a3
 refine ⟨?_, ?_, ?_, ?_, ?_⟩
 ·rw [atG d (by omega) ai (by omega) i ar, fV, a3]
 ·rw [fV, a3]; omega
 ·rw [fV, a3]; omega
 ·rw [fV]
  exact atL d.Body ⟨d.cZ, false⟩ rfl i pl a_
 ·rw [fV]; exact a_
theorem atX (list : List a9) (hl : list.length ≤ 4) (d : a9) (al : Nm d) (ax : 0 ≤ d.cZ ∧ d.cZ ≤ 3) :
  ∃ r, sb list d = some r ∧ xz list d = some r ∧ 0 ≤ r.2 ∧ (r.2 = 0 → p3 d.Body = true) := by
 unfold sb xz jf
 rw [att _ al.2.1]
 have Gi := atu d al.2.1 0 (Nat.zero_le _)
 rw [show ((0 : Nat) : Int) = 0 from rfl, List.drop_zero] at Gi
 simp only [Option.bind_some]
 have mD : decide ((1 : Int) ≤ (d.Body.length : Int)) = decide (1 ≤ d.Body.length) := decide_eq_decide.2 (by omega)
 have lY : decide ((d.Body.length : Int) ≤ 20) = decide (d.Body.length ≤ 20) := decide_eq_decide.2 (by omega)
 rw [mD, lY]
 show ∃ r, cond (!p3 d.Body) _ _ = _ ∧ _
 cases ah : p3 d.Body
 ·refine ⟨(0, 1), rfl, ?_, by decide, fun h => by cases h⟩
  cases ay : (decide (1 ≤ d.Body.length) && decide (d.Body.length ≤ 20))
  ·rfl
  ·rw [Gi]
   have hw : q4 d.Body 1 = false := by
    unfold p3 at ah; rw [ay, Bool.true_and] at ah; exact ah
   have : (pj 0 (eg d.Body 1) != (d.Body.length : Int)) = true := by
    rw [Gb] at hw
    cases he : eg d.Body 1 with
    | none => simp only [pj, bne_iff_ne]; omega
    | some n =>
      rw [he] at hw
      have eb : n ≠ d.Body.length := fun e => by simp [e] at hw
      simp only [pj, bne_iff_ne]; omega
   simp only [Bool.not_true, cond_false, Option.bind_some, this, cond_true]
 ·obtain ⟨ai, aj, aP⟩ := yD ah
  have ay : (decide (1 ≤ d.Body.length) && decide (d.Body.length ≤ 20)) = true := by simp; omega
  have eb : (pj 0 (some d.Body.length) != (d.Body.length : Int)) = false := by simp [pj]
  rw [ay, Gi, ai]
  simp only [Bool.not_true, cond_false, Option.bind_some, eb]
  rw [Nb d al.2.1 ai ax.1 (by omega)]
  simp only [Option.bind_some]
  have key : ∀ i, i ≤ d.Body.length → ∃ r : Int × Int, (∀ m, d.Body.length - i < m → qN list d m (i : Int) = some r) ∧
    (∀ m, d.Body.length - i < m → qQ list d (gb d.Body [⟨d.cZ, false⟩]) m (i : Int) = some r) ∧ 0 ≤ r.2 := by
   refine down d.Body.length ⟨(0, 0), fun m hm => ?_, fun m hm => ?_, by decide⟩ ?_
   ·obtain ⟨m, rfl⟩ : ∃ j, m = j + 1 := ⟨m - 1, by omega⟩
    simp only [qN, xh]
    rw [fw (Nat.le_refl _)]; rfl
   ·obtain ⟨m, rfl⟩ : ∃ j, m = j + 1 := ⟨m - 1, by omega⟩
    simp only [qQ, xy]
    rw [fw (Nat.le_refl _)]; rfl
   ·rintro i ar ⟨r, dV, eS, h8⟩
    obtain ⟨iP, bn, dX, b9, dD⟩ := Gh d ah ax i ar
    obtain ⟨v, v1, v2, tO⟩ := atQ list hl d i ar aP (al.2.2 _ (List.getElem_mem ar)) (oH d i) iP ⟨bn, dX⟩ b9
    have b6 : bI (gb d.Body [⟨d.cZ, false⟩]) (i : Int) = some (oH d i) := by
     unfold bI; rw [if_pos (by omega)]; exact dD
    by_cases a2 : v = 0
    ·subst a2
     refine ⟨r, fun m hm => ?_, fun m hm => ?_, h8⟩
     ·obtain ⟨m, rfl⟩ : ∃ j, m = j + 1 := ⟨m - 1, by omega⟩
      simp only [qN, xh]
      rw [gz ar, v1, gy i _ ar (by omega), ← dV m (by omega)]; rfl
     ·obtain ⟨m, rfl⟩ : ∃ j, m = j + 1 := ⟨m - 1, by omega⟩
      simp only [qQ, xy]
      rw [gz ar, hD _ i ar, b6]
      simp only [cond_true, Option.bind_some, v2]
      rw [gy i _ ar (by omega), ← eS m (by omega)]; rfl
    ·have EN : decide (0 < v) = true := decide_eq_true (by omega)
     have Cs : (v != 0) = true := by simpa using a2
     refine ⟨((i : Int), v), fun m hm => ?_, fun m hm => ?_, tO⟩
     ·obtain ⟨m, rfl⟩ : ∃ j, m = j + 1 := ⟨m - 1, by omega⟩
      simp only [qN, xh]
      rw [gz ar, v1]
      simp only [cond_true, Option.bind_some, EN]
     ·obtain ⟨m, rfl⟩ : ∃ j, m = j + 1 := ⟨m - 1, by omega⟩
      simp only [qQ, xy]
      rw [gz ar, hD _ i ar, b6]
      simp only [cond_true, Option.bind_some, v2, Cs]
  obtain ⟨r, dV, eS, h8⟩ := key 0 (Nat.zero_le _)
  refine ⟨r, ir (d.Body.length + 1) fun m hm => dV m (by omega), ir (d.Body.length + 1) fun m hm => eS m (by omega), h8, fun _ => trivial⟩
def p4 (d : a9) : Bool := decide (0 ≤ d.cZ) && decide (d.cZ ≤ 3)
def vx (list : List a9) : Bool := fG (fun i => p4 (list.getD i ⟨[], 0, []⟩)) list.length
theorem Nn {list : List a9} (h : vx list = true) (i : Nat) (ar : i < list.length) : 0 ≤ list[i].cZ ∧ list[i].cZ ≤ 3 := by
 have := pf.1 h i ar
 have e : list.getD i ⟨[], 0, []⟩ = list[i] := by simp [List.getD, ar]
 rw [e] at this
 simpa [p4] using this
theorem atY (list : List a9) (hl : list.length ≤ 1048576) : AS list = some (vx list) := by
 unfold AS EZ EY
 rw [vn (n := list.length) (fun i => !p4 (list.getD i ⟨[], 0, []⟩))]
 ·simp only [Option.bind_some, vm, Bool.not_not]; rfl
 ·intro m
  simp only [uM, AR]
  rw [fw (Nat.le_refl _)]; rfl
 ·intro i ar m
  simp only [uM, AR]
  rw [gz ar, lS _ i ⟨[], 0, []⟩ ar, gy i _ ar (by omega)]
  simp only [cond_true, Option.bind_some, EX, jf]
  rfl
def q7 (list : List a9) : Prop := list.length ≤ 1048576 ∧ ∀ d ∈ list, Nm d
end Go.fJ
