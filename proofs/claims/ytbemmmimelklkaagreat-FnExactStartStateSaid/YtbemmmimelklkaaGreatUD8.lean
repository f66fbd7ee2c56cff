/- Part of a proof that a law returns true for every input. No condition. -/
import Derived.Test.YtbemmmimelklkaaGreatUD6
namespace Go.f_
open Go Go.dk
def jM (e : List bb) (i : Nat) : List UInt8 := (e.getD i ⟨[], 0, []⟩).Name
theorem pQ {e : List bb} {i : Nat} (au : i < e.length) : e.getD i ⟨[], 0, []⟩ = e[i] := by simp [List.getD, au]
def ou (e : List bb) (i : Nat) : Bool := fI (fun j => !(jM e j == jM e i)) i
noncomputable def nx (e : List bb) (i : Nat) : Bool := match rV e (e.getD i ⟨[], 0, []⟩) with
 | some r => r.2 == 0
 | none => false
noncomputable def ov (e : List bb) : Bool := ((decide (1 ≤ e.length) && decide (e.length ≤ 4)) && fI (fun i => (j6 (jM e i) && pP (e.getD i ⟨[], 0, []⟩)) && ou e i) e.length) && fI (nx e) e.length
theorem FY {e : List bb} (h : sP e) (bd : e.length ≤ 4) (ax : u5 e = true) {i : Nat} (au : i < e.length) :
  ∃ r, rV e e[i] = some r ∧ w4 e e[i] = some r ∧ decide (0 < r.2) = !(nx e i) ∧ (r.2 != 0) = !(nx e i) ∧ (nx e i = true → pN e[i].Body = true ∧ r.2 = 0) := by
 obtain ⟨r, dX, eS, h6, jQ⟩ := atW e bd e[i] (h.2 _ (List.getElem_mem au)) (MV ax i au)
 have ae : nx e i = (r.2 == 0) := by unfold nx; rw [pQ au, dX]
 refine ⟨r, dX, eS, ?_, ?_, fun kL => ?_⟩
 ·rw [ae]
  by_cases a9 : r.2 = 0
  ·rw [a9]; rfl
  ·have a4 : (r.2 == 0) = false := by simpa using a9
   rw [a4]; exact decide_eq_true (by omega)
 ·rw [ae]; rfl
 ·rw [ae] at kL
  have a9 : r.2 = 0 := by simpa using kL
  exact ⟨jQ a9, a9⟩
theorem pR {p q : Nat → Bool} {n : Nat} : fI (fun i => p i && q i) n = (fI p n && fI q n) := by
 rw [Bool.eq_iff_iff, Bool.and_eq_true, o3, o3, o3]
 constructor
 ·intro h; exact ⟨fun i au => ((Bool.and_eq_true _ _).mp (h i au)).1, fun i au => ((Bool.and_eq_true _ _).mp (h i au)).2⟩
 ·rintro ⟨ai, aj⟩ i au; rw [ai i au, aj i au]; rfl
theorem atY (e : List bb) (h : sP e) : z9 e = some (ov e) := by
 unfold z9 ov
 by_cases hl : 1 ≤ e.length ∧ e.length ≤ 4
 ·have d1 : (((e.length : Int) == 0) || decide ((4 : Int) < (e.length : Int))) = false := by
   rw [Bool.or_eq_false_iff, beq_eq_false_iff_ne, decide_eq_false_iff_not]; omega
  have d2 : (decide (1 ≤ e.length) && decide (e.length ≤ 4)) = true := by simp; omega
  rw [d1, d2, cond_false, Bool.true_and]
  rw [sO (l := fun m i => nn e m i) (n := e.length) (fun i => (j6 (jM e i) && pP (e.getD i ⟨[], 0, []⟩)) && ou e i) (cV fun n => qv e n 0) (some false)]
  ·cases cw : fI (fun i => (j6 (jM e i) && pP (e.getD i ⟨[], 0, []⟩)) && ou e i) e.length
   ·rfl
   ·have ax : u5 e = true := by
     rw [pR, pR, Bool.and_eq_true, Bool.and_eq_true] at cw
     exact cw.1.2
    rw [cond_true, Bool.true_and]
    rw [sO (l := fun m i => qv e m i) (n := e.length) (nx e) (some true) (some false)]
    ·cases fI (nx e) e.length <;> rfl
    ·intro m
     simp only [qv, z7]
     rw [fH (Nat.le_refl _)]; rfl
    ·intro i au m
     obtain ⟨r, dX, _, h6, _⟩ := FY h hl.2 ax au
     simp only [qv, z7]
     rw [gM au, h2 _ i au, gL i _ au (by omega)]
     simp only [cond_true, Option.bind_some, dX, h6]
     cases nx e i <;> rfl
  ·intro m
   simp only [nn, z8]
   rw [fH (Nat.le_refl _)]; rfl
  ·intro i au m
   simp only [nn, z8]
   rw [gM au, h2 _ i au]
   simp only [cond_true, Option.bind_some, FO, lH]
   rw [sO (l := fun hU j => rW (nn e m) e hU (i : Int) j) (n := i) (fun j => !(jM e j == jM e i)) (nn e m ((i + 1 : Nat) : Int)) (some false)]
   ·have a4 : jM e i = e[i].Name := by unfold jM; rw [pQ au]
    rw [← a4, pQ au]
    show cond (!j6 (jM e i)) _ (cond (!pP e[i]) _ (cond (ou e i) _ _)) = _
    cases j6 (jM e i) <;> cases pP e[i] <;> cases ou e i <;> rfl
   ·intro hU
    simp only [rW, z6]
    rw [fH (Nat.le_refl _), gL i _ au (by omega)]; rfl
   ·intro j cJ hU
    have B6 : j < e.length := by omega
    simp only [rW, z6]
    rw [gM cJ, h2 _ j B6, h2 _ i au, gL j _ cJ (by omega)]
    simp only [cond_true, Option.bind_some, jM, pQ au, pQ B6]
    cases e[j].Name == e[i].Name <;> rfl
 ·have d1 : (((e.length : Int) == 0) || decide ((4 : Int) < (e.length : Int))) = true := by
   by_cases a9 : e.length = 0
   ·simp [a9]
   ·have : decide ((4 : Int) < (e.length : Int)) = true := decide_eq_true (by omega)
    rw [this, Bool.or_true]
  have d2 : (decide (1 ≤ e.length) && decide (e.length ≤ 4)) = false := by
   rw [Bool.and_eq_false_iff, decide_eq_false_iff_not, decide_eq_false_iff_not]; omega
  rw [d1, d2]; rfl
theorem atZ (e : List bb) (i : Nat) (au : i < e.length) (bd : e.length ≤ 4) : ((js e 0 (i : Int)).bind fun br => (Aq br e[i].Name).bind fun b4 => some (decide (0 ≤ b4))) = some (!(ou e i)) := by
 rw [Mb e i (by omega)]
 simp only [Option.bind_some]
 unfold Aq EB
 have hlen : (e.take i).length = i := by rw [List.length_take]; omega
 rw [uW (n := i) (fun j => jM e j == jM e i)]
 ·simp only [Option.bind_some, uV]; rfl
 ·intro m
  simp only [uu, Ap]
  rw [hlen, fH (Nat.le_refl _)]; rfl
 ·intro j cJ m
  have B6 : j < e.length := by omega
  simp only [uu, Ap]
  rw [hlen, gM cJ, h2 _ j (by omega), gL j _ cJ (by omega)]
  have : (e.take i)[j]'(by omega) = e[j] := by simp
  simp only [cond_true, Option.bind_some, EA, this, jM, pQ au, pQ B6]
theorem at0 (e : List bb) (h : sP e) : AE e = some (ov e) := by
 unfold AE jc ov
 have mr : decide ((1 : Int) ≤ (e.length : Int)) = decide (1 ≤ e.length) := decide_eq_decide.2 (by omega)
 have lQ : decide ((e.length : Int) ≤ 4) = decide (e.length ≤ 4) := decide_eq_decide.2 (by omega)
 simp only [Option.bind_some]
 rw [mr, lQ]
 cases hl : (decide (1 ≤ e.length) && decide (e.length ≤ 4))
 ·rfl
 ·have MX : 1 ≤ e.length ∧ e.length ≤ 4 := by simpa using hl
  rw [atX e h.1]
  simp only [Bool.not_true, cond_false, Option.bind_some, Bool.true_and]
  have at1 : fI (fun i => (j6 (jM e i) && pP (e.getD i ⟨[], 0, []⟩)) && ou e i) e.length = ((fI (fun i => j6 (jM e i)) e.length && u5 e) && fI (ou e) e.length) := by
   rw [pR, pR]; rfl
  rw [at1]
  cases ax : u5 e
  ·simp
  ·simp only [Bool.not_true, cond_false, Bool.and_true]
   rw [sO (l := fun m i => r6 e m i) (n := e.length) (fun i => (j6 (jM e i) && ou e i) && nx e i) (some true) (some false)]
   ·rw [pR, pR]
    cases ((fI (fun i => j6 (jM e i)) e.length && fI (fun i => ou e i) e.length) && fI (fun i => nx e i) e.length) <;> rfl
   ·intro m
    simp only [r6, AD]
    rw [fH (Nat.le_refl _)]; rfl
   ·intro i au m
    obtain ⟨r, _, eS, _, jQ, _⟩ := FY h MX.2 ax au
    have bg := atZ e i au MX.2
    have awI := (h.2 _ (List.getElem_mem au)).1
    simp only [r6, AD]
    rw [gM au, h2 _ i au, gL i _ au (by omega)]
    simp only [cond_true, Option.bind_some, Mz _ (show e[i].Name.length ≤ 140737488355328 by omega), jM, pQ au]
    cases j6 e[i].Name
    ·rfl
    ·simp only [Bool.not_true, cond_false, Bool.true_and]
     rw [Mb e i (by omega)] at bg ⊢
     simp only [Option.bind_some] at bg ⊢
     obtain ⟨v, a3, B5⟩ := aO bg
     rw [a3]
     simp only [Option.some.injEq] at B5
     simp only [Option.bind_some, B5, eS, jQ]
     cases ou e i <;> cases nx e i <;> rfl
theorem awJ {e : List bb} (h : sP e) (a3 : ov e = true) : 1 ≤ e.length ∧ e.length ≤ 4 ∧ ∀ i (au : i < e.length), (0 ≤ e[i].dc ∧ e[i].dc ≤ 3) ∧ pN e[i].Body = true ∧ j6 e[i].Name = true ∧
  ∃ r, rV e e[i] = some r ∧ r.2 = 0 := by
 unfold ov at a3
 rw [Bool.and_eq_true, Bool.and_eq_true, Bool.and_eq_true, decide_eq_true_eq, decide_eq_true_eq, pR, pR, Bool.and_eq_true, Bool.and_eq_true] at a3
 obtain ⟨⟨⟨ai, aj⟩, ⟨aQ, bd⟩, b3⟩, cG⟩ := a3
 refine ⟨ai, aj, fun i au => ?_⟩
 obtain ⟨r, dX, _, _, _, Cx⟩ := FY h aj bd au
 obtain ⟨s1, s2⟩ := Cx (o3.1 cG i au)
 have bg := o3.1 aQ i au
 rw [jM, pQ au] at bg
 exact ⟨MV bd i au, s1, bg, r, dX, s2⟩
end Go.f_
