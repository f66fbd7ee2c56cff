/- Part of a proof that a law returns true for every input. No condition. -/
import Derived.Test.YtgpmnlkgmadglaaGreatDoorUD4
namespace Go.eV
open Go Go.c0
theorem s5 {β : Type} {l : Nat → Int → Option β} {n : Nat} (p : Nat → Bool) (oL bad : Option β) (bc : ∀ m, l (m + 1) (n : Int) = oL)
  (ad : ∀ i, i < n → ∀ m, l (m + 1) (i : Int) = cond (p i) (l m ((i + 1 : Nat) : Int)) bad) : cZ (fun m => l m 0) = cond (e9 p n) oL bad := by
 rw [sT (n := n) (fun i => cond ((List.range' i (n - i)).all p) oL bad)]
 ·simp [e9, List.range_eq_range']
 ·intro m; rw [bc]; simp
 ·intro i al m ih
  rw [ad i al, ih, show n - i = (n - (i + 1)) + 1 by omega, List.range'_succ]
  cases ar : p i <;> simp [ar]
def Oj (d : bm) : Prop := d.Name.length ≤ 1048576 ∧ d.Body.length ≤ 1048576 ∧ ∀ p ∈ d.Body, ym p
def qe (b : List b7) : Bool := (decide (1 ≤ b.length) && decide (b.length ≤ 20)) && ra b 1
theorem Cg {b : List b7} (h : qe b = true) : ee b 1 = some b.length ∧ 1 ≤ b.length ∧ b.length ≤ 20 := by
 simp only [qe, Gu, Bool.and_eq_true, decide_eq_true_eq, beq_iff_eq] at h
 exact ⟨h.2, h.1.1, h.1.2⟩
def mV (d : bm) (i : Nat) : cm := (gO d.Body [⟨d.dL, false⟩]).getD i ⟨0, false⟩
theorem GB (d : bm) (h : qe d.Body = true) (ar : 0 ≤ d.dL ∧ d.dL ≤ 3) (i : Nat) (al : i < d.Body.length) :
  qM d (i : Int) = some (mV d i).scope ∧ 0 ≤ (mV d i).scope ∧ (mV d i).scope ≤ 29 ∧
   (mV d i).behind = Gz d.Body i ∧
   (gO d.Body [⟨d.dL, false⟩])[i]? = some (mV d i) := by
 obtain ⟨ag, ah, aI⟩ := Cg h
 obtain ⟨s, pl, aS, aX, aQ⟩ := Of d.Body [⟨d.dL, false⟩] d.Body.length ag i al
 have ad : s = ⟨d.dL, false⟩ := by
  simp only [rb, ag] at aS
  rw [if_pos al] at aS
  exact (Option.some.inj aS).symm
 subst ad
 have fT : mV d i = pl := by unfold mV; rw [List.getD_eq_getElem?_getD, aX]; rfl
 have aw := Ob d.Body i
 simp only at aQ
 refine ⟨?_, ?_, ?_, ?_, ?_⟩
 ·rw [avt d (by omega) ag (by omega) i al, fT, aQ]
 ·rw [fT, aQ]; omega
 ·rw [fT, aQ]; omega
 ·rw [fT]
  exact avy d.Body ⟨d.dL, false⟩ rfl i pl aX
 ·rw [fT]; exact aX
theorem avJ (list : List bm) (aR : list.length ≤ 4) (d : bm) (ai : Oj d) (ar : 0 ≤ d.dL ∧ d.dL ≤ 3) :
  ∃ r, sf list d = some r ∧ xx list d = some r ∧ 0 ≤ r.2 ∧ (r.2 = 0 → qe d.Body = true) := by
 unfold sf xx je
 rw [avg _ ai.2.1]
 have GC := avh d ai.2.1 0 (Nat.zero_le _)
 rw [show ((0 : Nat) : Int) = 0 from rfl, List.drop_zero] at GC
 simp only [Option.bind_some]
 have mD : decide ((1 : Int) ≤ (d.Body.length : Int)) = decide (1 ≤ d.Body.length) := decide_eq_decide.2 (by omega)
 have l9 : decide ((d.Body.length : Int) ≤ 20) = decide (d.Body.length ≤ 20) := decide_eq_decide.2 (by omega)
 rw [mD, l9]
 show ∃ r, cond (!qe d.Body) _ _ = _ ∧ _
 cases ad : qe d.Body
 ·refine ⟨(0, 1), rfl, ?_, by decide, fun h => by cases h⟩
  cases aw : (decide (1 ≤ d.Body.length) && decide (d.Body.length ≤ 20))
  ·rfl
  ·rw [GC]
   have hw : ra d.Body 1 = false := by
    unfold qe at ad; rw [aw, Bool.true_and] at ad; exact ad
   have : (pq 0 (ee d.Body 1) != (d.Body.length : Int)) = true := by
    rw [Gu] at hw
    cases he : ee d.Body 1 with
    | none => simp only [pq, bne_iff_ne]; omega
    | some n =>
      rw [he] at hw
      have dQ : n ≠ d.Body.length := fun e => by simp [e] at hw
      simp only [pq, bne_iff_ne]; omega
   simp only [Bool.not_true, cond_false, Option.bind_some, this, cond_true]
 ·obtain ⟨ag, ah, aI⟩ := Cg ad
  have aw : (decide (1 ≤ d.Body.length) && decide (d.Body.length ≤ 20)) = true := by simp; omega
  have dQ : (pq 0 (some d.Body.length) != (d.Body.length : Int)) = false := by simp [pq]
  rw [aw, GC, ag]
  simp only [Bool.not_true, cond_false, Option.bind_some, dQ]
  rw [Oa d ai.2.1 ag ar.1 (by omega)]
  simp only [Option.bind_some]
  have key : ∀ i, i ≤ d.Body.length → ∃ r : Int × Int, (∀ m, d.Body.length - i < m → qO list d m (i : Int) = some r) ∧
    (∀ m, d.Body.length - i < m → qW list d (gO d.Body [⟨d.dL, false⟩]) m (i : Int) = some r) ∧ 0 ≤ r.2 := by
   refine down d.Body.length ⟨(0, 0), fun m hm => ?_, fun m hm => ?_, by decide⟩ ?_
   ·obtain ⟨m, rfl⟩ : ∃ j, m = j + 1 := ⟨m - 1, by omega⟩
    simp only [qO, xh]
    rw [gr (Nat.le_refl _)]; rfl
   ·obtain ⟨m, rfl⟩ : ∃ j, m = j + 1 := ⟨m - 1, by omega⟩
    simp only [qW, xw]
    rw [gr (Nat.le_refl _)]; rfl
   ·rintro i al ⟨r, dB, bg, dm⟩
    obtain ⟨gM, gJ, iK, ik, nb⟩ := GB d ad ar i al
    obtain ⟨v, v1, v2, v3⟩ := avD list aR d i al aI (ai.2.2 _ (List.getElem_mem al)) (mV d i) gM ⟨gJ, iK⟩ ik
    have bT : bH (gO d.Body [⟨d.dL, false⟩]) (i : Int) = some (mV d i) := by
     unfold bH; rw [if_pos (by omega)]; exact nb
    by_cases aN : v = 0
    ·subst aN
     refine ⟨r, fun m hm => ?_, fun m hm => ?_, dm⟩
     ·obtain ⟨m, rfl⟩ : ∃ j, m = j + 1 := ⟨m - 1, by omega⟩
      simp only [qO, xh]
      rw [gb al, v1, ga i _ al (by omega), ← dB m (by omega)]; rfl
     ·obtain ⟨m, rfl⟩ : ∃ j, m = j + 1 := ⟨m - 1, by omega⟩
      simp only [qW, xw]
      rw [gb al, gG _ i al, bT]
      simp only [cond_true, Option.bind_some, v2]
      rw [ga i _ al (by omega), ← bg m (by omega)]; rfl
    ·have Ex : decide (0 < v) = true := decide_eq_true (by omega)
     have Ch : (v != 0) = true := by simpa using aN
     refine ⟨((i : Int), v), fun m hm => ?_, fun m hm => ?_, v3⟩
     ·obtain ⟨m, rfl⟩ : ∃ j, m = j + 1 := ⟨m - 1, by omega⟩
      simp only [qO, xh]
      rw [gb al, v1]
      simp only [cond_true, Option.bind_some, Ex]
     ·obtain ⟨m, rfl⟩ : ∃ j, m = j + 1 := ⟨m - 1, by omega⟩
      simp only [qW, xw]
      rw [gb al, gG _ i al, bT]
      simp only [cond_true, Option.bind_some, v2, Ch]
  obtain ⟨r, dB, bg, dm⟩ := key 0 (Nat.zero_le _)
  refine ⟨r, iH (d.Body.length + 1) fun m hm => dB m (by omega), iH (d.Body.length + 1) fun m hm => bg m (by omega), dm, fun _ => trivial⟩
def qf (d : bm) : Bool := decide (0 ≤ d.dL) && decide (d.dL ≤ 3)
def vh (list : List bm) : Bool := e9 (fun i => qf (list.getD i ⟨[], 0, []⟩)) list.length
theorem Ok {list : List bm} (h : vh list = true) (i : Nat) (al : i < list.length) : 0 ≤ list[i].dL ∧ list[i].dL ≤ 3 := by
 have := nK.1 h i al
 have e : list.getD i ⟨[], 0, []⟩ = list[i] := by simp [List.getD, al]
 rw [e] at this
 simpa [qf] using this
theorem avK (list : List bm) (aR : list.length ≤ 1048576) : AF list = some (vh list) := by
 unfold AF EN EM
 rw [q7 (n := list.length) (fun i => !qf (list.getD i ⟨[], 0, []⟩))]
 ·simp only [Option.bind_some, q6, Bool.not_not]; rfl
 ·intro m
  simp only [uJ, AE]
  rw [gr (Nat.le_refl _)]; rfl
 ·intro i al m
  simp only [uJ, AE]
  rw [gb al, lj _ i ⟨[], 0, []⟩ al, ga i _ al (by omega)]
  simp only [cond_true, Option.bind_some, EL, je]
  rfl
def mW (list : List bm) : Prop := list.length ≤ 1048576 ∧ ∀ d ∈ list, Oj d
end Go.eV
