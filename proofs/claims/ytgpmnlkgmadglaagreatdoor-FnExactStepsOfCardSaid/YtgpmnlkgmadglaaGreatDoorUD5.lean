/- Part of a proof that a law returns true for every input. No condition. -/
import Derived.Test.YtgpmnlkgmadglaaGreatDoorUD4
namespace Go.eR
open Go Go.cY
theorem Ey {β : Type} {l : Nat → Int → Option β} {n : Nat} (p : Nat → Bool) (lM bad : Option β) (bn : ∀ m, l (m + 1) (n : Int) = lM)
  (ab : ∀ i, i < n → ∀ m, l (m + 1) (i : Int) = cond (p i) (l m ((i + 1 : Nat) : Int)) bad) : c2 (fun m => l m 0) = cond (ik p n) lM bad := by
 rw [rL (n := n) (fun i => cond ((List.range' i (n - i)).all p) lM bad)]
 ·simp [ik, List.range_eq_range']
 ·intro m; rw [bn]; simp
 ·intro i an m ih
  rw [ab i an, ih, show n - i = (n - (i + 1)) + 1 by omega, List.range'_succ]
  cases aw : p i <;> simp [aw]
def QZ (d : aS) : Prop := d.Name.length ≤ 1048576 ∧ d.Body.length ≤ 1048576 ∧ ∀ p ∈ d.Body, vf p
def rP (b : List bs) : Bool := (decide (1 ≤ b.length) && decide (b.length ≤ 20)) && s5 b 1
theorem xD {b : List bs} (h : rP b = true) : et b 1 = some b.length ∧ 1 ≤ b.length ∧ b.length ≤ 20 := by
 simp only [rP, I_, Bool.and_eq_true, decide_eq_true_eq, beq_iff_eq] at h
 exact ⟨h.2, h.1.1, h.1.2⟩
def il (d : aS) (i : Nat) : cn := (gl d.Body [⟨d.c_, false⟩]).getD i ⟨0, false⟩
theorem Ez (d : aS) (h : rP d.Body = true) (aw : 0 ≤ d.c_ ∧ d.c_ ≤ 3) (i : Nat) (an : i < d.Body.length) :
  rr d (i : Int) = some (il d i).scope ∧ 0 ≤ (il d i).scope ∧ (il d i).scope ≤ 29 ∧
   (il d i).behind = Je d.Body i ∧
   (gl d.Body [⟨d.c_, false⟩])[i]? = some (il d i) := by
 obtain ⟨af, ag, aF⟩ := xD h
 obtain ⟨s, pl, aN, aZ, aT⟩ := QT d.Body [⟨d.c_, false⟩] d.Body.length af i an
 have ab : s = ⟨d.c_, false⟩ := by
  simp only [s6, af] at aN
  rw [if_pos an] at aN
  exact (Option.some.inj aN).symm
 subst ab
 have eK : il d i = pl := by unfold il; rw [List.getD_eq_getElem?_getD, aZ]; rfl
 have ao := QP d.Body i
 simp only at aT
 refine ⟨?_, ?_, ?_, ?_, ?_⟩
 ·rw [axj d (by omega) af (by omega) i an, eK, aT]
 ·rw [eK, aT]; omega
 ·rw [eK, aT]; omega
 ·rw [eK]
  exact axo d.Body ⟨d.c_, false⟩ rfl i pl aZ
 ·rw [eK]; exact aZ
theorem axy (list : List aS) (hl : list.length ≤ 4) (d : aS) (ai : QZ d) (aw : 0 ≤ d.c_ ∧ d.c_ ≤ 3) :
  ∃ r, ry list d = some r ∧ zC list d = some r ∧ 0 ≤ r.2 ∧ (r.2 = 0 → rP d.Body = true) := by
 unfold ry zC j4
 rw [aw9 _ ai.2.1]
 have Jg := QI d ai.2.1 0 (Nat.zero_le _)
 rw [show ((0 : Nat) : Int) = 0 from rfl, List.drop_zero] at Jg
 simp only [Option.bind_some]
 have mJ : decide ((1 : Int) ≤ (d.Body.length : Int)) = decide (1 ≤ d.Body.length) := decide_eq_decide.2 (by omega)
 have kb : decide ((d.Body.length : Int) ≤ 20) = decide (d.Body.length ≤ 20) := decide_eq_decide.2 (by omega)
 rw [mJ, kb]
 show ∃ r, cond (!rP d.Body) _ _ = _ ∧ _
 cases ab : rP d.Body
 ·refine ⟨(0, 1), rfl, ?_, by decide, fun h => by cases h⟩
  cases ao : (decide (1 ≤ d.Body.length) && decide (d.Body.length ≤ 20))
  ·rfl
  ·rw [Jg]
   have hw : s5 d.Body 1 = false := by
    unfold rP at ab; rw [ao, Bool.true_and] at ab; exact ab
   have : (pY 0 (et d.Body 1) != (d.Body.length : Int)) = true := by
    rw [I_] at hw
    cases he : et d.Body 1 with
    | none => simp only [pY, bne_iff_ne]; omega
    | some n =>
      rw [he] at hw
      have dC : n ≠ d.Body.length := fun e => by simp [e] at hw
      simp only [pY, bne_iff_ne]; omega
   simp only [Bool.not_true, cond_false, Option.bind_some, this, cond_true]
 ·obtain ⟨af, ag, aF⟩ := xD ab
  have ao : (decide (1 ≤ d.Body.length) && decide (d.Body.length ≤ 20)) = true := by simp; omega
  have dC : (pY 0 (some d.Body.length) != (d.Body.length : Int)) = false := by simp [pY]
  rw [ao, Jg, af]
  simp only [Bool.not_true, cond_false, Option.bind_some, dC]
  rw [QO d ai.2.1 af aw.1 (by omega)]
  simp only [Option.bind_some]
  have key : ∀ i, i ≤ d.Body.length → ∃ r : Int × Int, (∀ m, d.Body.length - i < m → qG list d m (i : Int) = some r) ∧
    (∀ m, d.Body.length - i < m → sI list d (gl d.Body [⟨d.c_, false⟩]) m (i : Int) = some r) ∧ 0 ≤ r.2 := by
   refine down d.Body.length ⟨(0, 0), fun m hm => ?_, fun m hm => ?_, by decide⟩ ?_
   ·obtain ⟨m, rfl⟩ : ∃ j, m = j + 1 := ⟨m - 1, by omega⟩
    simp only [qG, wP]
    rw [gI (Nat.le_refl _)]; rfl
   ·obtain ⟨m, rfl⟩ : ∃ j, m = j + 1 := ⟨m - 1, by omega⟩
    simp only [sI, zB]
    rw [gI (Nat.le_refl _)]; rfl
   ·rintro i an ⟨r, dR, br, dQ⟩
    obtain ⟨gC, f_, hO, hP, mh⟩ := Ez d ab aw i an
    obtain ⟨v, v1, v2, v3⟩ := QX list hl d i an aF (ai.2.2 _ (List.getElem_mem an)) (il d i) gC ⟨f_, hO⟩ hP
    have bA : bP (gl d.Body [⟨d.c_, false⟩]) (i : Int) = some (il d i) := by
     unfold bP; rw [if_pos (by omega)]; exact mh
    by_cases aK : v = 0
    ·subst aK
     refine ⟨r, fun m hm => ?_, fun m hm => ?_, dQ⟩
     ·obtain ⟨m, rfl⟩ : ∃ j, m = j + 1 := ⟨m - 1, by omega⟩
      simp only [qG, wP]
      rw [hx an, v1, hg i _ an (by omega), ← dR m (by omega)]; rfl
     ·obtain ⟨m, rfl⟩ : ∃ j, m = j + 1 := ⟨m - 1, by omega⟩
      simp only [sI, zB]
      rw [hx an, fp _ i an, bA]
      simp only [cond_true, Option.bind_some, v2]
      rw [hg i _ an (by omega), ← br m (by omega)]; rfl
    ·have yZ : decide (0 < v) = true := decide_eq_true (by omega)
     have vg : (v != 0) = true := by simpa using aK
     refine ⟨((i : Int), v), fun m hm => ?_, fun m hm => ?_, v3⟩
     ·obtain ⟨m, rfl⟩ : ∃ j, m = j + 1 := ⟨m - 1, by omega⟩
      simp only [qG, wP]
      rw [hx an, v1]
      simp only [cond_true, Option.bind_some, yZ]
     ·obtain ⟨m, rfl⟩ : ∃ j, m = j + 1 := ⟨m - 1, by omega⟩
      simp only [sI, zB]
      rw [hx an, fp _ i an, bA]
      simp only [cond_true, Option.bind_some, v2, vg]
  obtain ⟨r, dR, br, dQ⟩ := key 0 (Nat.zero_le _)
  refine ⟨r, hE (d.Body.length + 1) fun m hm => dR m (by omega), hE (d.Body.length + 1) fun m hm => br m (by omega), dQ, fun _ => trivial⟩
def rQ (d : aS) : Bool := decide (0 ≤ d.c_) && decide (d.c_ ≤ 3)
def xE (list : List aS) : Bool := ik (fun i => rQ (list.getD i ⟨[], 0, []⟩)) list.length
theorem Q0 {list : List aS} (h : xE list = true) (i : Nat) (an : i < list.length) : 0 ≤ list[i].c_ ∧ list[i].c_ ≤ 3 := by
 have := pW.1 h i an
 have e : list.getD i ⟨[], 0, []⟩ = list[i] := by simp [List.getD, an]
 rw [e] at this
 simpa [rQ] using this
theorem axz (list : List aS) (hl : list.length ≤ 1048576) : CW list = some (xE list) := by
 unfold CW Hy Hx
 rw [AF (n := list.length) (fun i => !rQ (list.getD i ⟨[], 0, []⟩))]
 ·simp only [Option.bind_some, AE, Bool.not_not]; rfl
 ·intro m
  simp only [wT, CV]
  rw [gI (Nat.le_refl _)]; rfl
 ·intro i an m
  simp only [wT, CV]
  rw [hx an, Av _ i ⟨[], 0, []⟩ an, hg i _ an (by omega)]
  simp only [cond_true, Option.bind_some, Hw, j4]
  rfl
def o0 (list : List aS) : Prop := list.length ≤ 1048576 ∧ ∀ d ∈ list, QZ d
end Go.eR
