/- Part of a proof that a law returns true for every input. No condition. -/
import Derived.Test.YtgpmnlkgmadglaaGreatDoorUD6
namespace Go.eV
open Go Go.c0
def j8 (e : List bm) (i : Nat) : List UInt8 := (e.getD i ⟨[], 0, []⟩).Name
theorem qg {e : List bm} {i : Nat} (al : i < e.length) : e.getD i ⟨[], 0, []⟩ = e[i] := by simp [List.getD, al]
def oM (e : List bm) (i : Nat) : Bool := e9 (fun j => !(j8 e j == j8 e i)) i
noncomputable def nP (e : List bm) (i : Nat) : Bool := match sf e (e.getD i ⟨[], 0, []⟩) with
 | some r => r.2 == 0
 | none => false
noncomputable def kS (e : List bm) : Bool := ((decide (1 ≤ e.length) && decide (e.length ≤ 4)) && e9 (fun i => (j7 (j8 e i) && qf (e.getD i ⟨[], 0, []⟩)) && oM e i) e.length) && e9 (nP e) e.length
theorem GD {e : List bm} (h : mW e) (a_ : e.length ≤ 4) (ar : vh e = true) {i : Nat} (al : i < e.length) :
  ∃ r, sf e e[i] = some r ∧ xx e e[i] = some r ∧ decide (0 < r.2) = !(nP e i) ∧ (r.2 != 0) = !(nP e i) ∧ (nP e i = true → qe e[i].Body = true ∧ r.2 = 0) := by
 obtain ⟨r, dB, bg, dm, ch⟩ := avJ e a_ e[i] (h.2 _ (List.getElem_mem al)) (Ok ar i al)
 have ab : nP e i = (r.2 == 0) := by unfold nP; rw [qg al, dB]
 refine ⟨r, dB, bg, ?_, ?_, fun jW => ?_⟩
 ·rw [ab]
  by_cases bc : r.2 = 0
  ·rw [bc]; rfl
  ·have aS : (r.2 == 0) = false := by simpa using bc
   rw [aS]; exact decide_eq_true (by omega)
 ·rw [ab]; rfl
 ·rw [ab] at jW
  have bc : r.2 = 0 := by simpa using jW
  exact ⟨ch bc, bc⟩
theorem qh {p q : Nat → Bool} {n : Nat} : e9 (fun i => p i && q i) n = (e9 p n && e9 q n) := by
 rw [Bool.eq_iff_iff, Bool.and_eq_true, nK, nK, nK]
 constructor
 ·intro h; exact ⟨fun i al => ((Bool.and_eq_true _ _).mp (h i al)).1, fun i al => ((Bool.and_eq_true _ _).mp (h i al)).2⟩
 ·rintro ⟨ag, ah⟩ i al; rw [ag i al, ah i al]; rfl
theorem avL (e : List bm) (h : mW e) : Ah e = some (kS e) := by
 unfold Ah kS
 by_cases aR : 1 ≤ e.length ∧ e.length ≤ 4
 ·have d1 : (((e.length : Int) == 0) || decide ((4 : Int) < (e.length : Int))) = false := by
   rw [Bool.or_eq_false_iff, beq_eq_false_iff_ne, decide_eq_false_iff_not]; omega
  have d2 : (decide (1 ≤ e.length) && decide (e.length ≤ 4)) = true := by simp; omega
  rw [d1, d2, cond_false, Bool.true_and]
  rw [s5 (l := fun m i => nB e m i) (n := e.length) (fun i => (j7 (j8 e i) && qf (e.getD i ⟨[], 0, []⟩)) && oM e i) (cZ fun n => qP e n 0) (some false)]
  ·cases b_ : e9 (fun i => (j7 (j8 e i) && qf (e.getD i ⟨[], 0, []⟩)) && oM e i) e.length
   ·rfl
   ·have ar : vh e = true := by
     rw [qh, qh, Bool.and_eq_true, Bool.and_eq_true] at b_
     exact b_.1.2
    rw [cond_true, Bool.true_and]
    rw [s5 (l := fun m i => qP e m i) (n := e.length) (nP e) (some true) (some false)]
    ·cases e9 (nP e) e.length <;> rfl
    ·intro m
     simp only [qP, Af]
     rw [gr (Nat.le_refl _)]; rfl
    ·intro i al m
     obtain ⟨r, dB, _, dm, _⟩ := GD h aR.2 ar al
     simp only [qP, Af]
     rw [gb al, gG _ i al, ga i _ al (by omega)]
     simp only [cond_true, Option.bind_some, dB, dm]
     cases nP e i <;> rfl
  ·intro m
   simp only [nB, Ag]
   rw [gr (Nat.le_refl _)]; rfl
  ·intro i al m
   simp only [nB, Ag]
   rw [gb al, gG _ i al]
   simp only [cond_true, Option.bind_some, Gt, ky]
   rw [s5 (l := fun ij j => sg (nB e m) e ij (i : Int) j) (n := i) (fun j => !(j8 e j == j8 e i)) (nB e m ((i + 1 : Nat) : Int)) (some false)]
   ·have aS : j8 e i = e[i].Name := by unfold j8; rw [qg al]
    rw [← aS, qg al]
    show cond (!j7 (j8 e i)) _ (cond (!qf e[i]) _ (cond (oM e i) _ _)) = _
    cases j7 (j8 e i) <;> cases qf e[i] <;> cases oM e i <;> rfl
   ·intro ij
    simp only [sg, Ae]
    rw [gr (Nat.le_refl _), ga i _ al (by omega)]; rfl
   ·intro j b3 ij
    have Ci : j < e.length := by omega
    simp only [sg, Ae]
    rw [gb b3, gG _ j Ci, gG _ i al, ga j _ b3 (by omega)]
    simp only [cond_true, Option.bind_some, j8, qg al, qg Ci]
    cases e[j].Name == e[i].Name <;> rfl
 ·have d1 : (((e.length : Int) == 0) || decide ((4 : Int) < (e.length : Int))) = true := by
   by_cases bc : e.length = 0
   ·simp [bc]
   ·have : decide ((4 : Int) < (e.length : Int)) = true := decide_eq_true (by omega)
    rw [this, Bool.or_true]
  have d2 : (decide (1 ≤ e.length) && decide (e.length ≤ 4)) = false := by
   rw [Bool.and_eq_false_iff, decide_eq_false_iff_not, decide_eq_false_iff_not]; omega
  rw [d1, d2]; rfl
theorem avM (e : List bm) (i : Nat) (al : i < e.length) (a_ : e.length ≤ 4) : ((jU e 0 (i : Int)).bind fun cf => (AH cf e[i].Name).bind fun cO => some (decide (0 ≤ cO))) = some (!(oM e i)) := by
 rw [NC e i (by omega)]
 simp only [Option.bind_some]
 unfold AH ER
 have hlen : (e.take i).length = i := by rw [List.length_take]; omega
 rw [q7 (n := i) (fun j => j8 e j == j8 e i)]
 ·simp only [Option.bind_some, q6]; rfl
 ·intro m
  simp only [uK, AG]
  rw [hlen, gr (Nat.le_refl _)]; rfl
 ·intro j b3 m
  have Ci : j < e.length := by omega
  simp only [uK, AG]
  rw [hlen, gb b3, gG _ j (by omega), ga j _ b3 (by omega)]
  have : (e.take i)[j]'(by omega) = e[j] := by simp
  simp only [cond_true, Option.bind_some, EP, this, j8, qg al, qg Ci]
theorem avN (e : List bm) (h : mW e) : AW e = some (kS e) := by
 unfold AW je kS
 have mD : decide ((1 : Int) ≤ (e.length : Int)) = decide (1 ≤ e.length) := decide_eq_decide.2 (by omega)
 have l9 : decide ((e.length : Int) ≤ 4) = decide (e.length ≤ 4) := decide_eq_decide.2 (by omega)
 simp only [Option.bind_some]
 rw [mD, l9]
 cases aR : (decide (1 ≤ e.length) && decide (e.length ≤ 4))
 ·rfl
 ·have Om : 1 ≤ e.length ∧ e.length ≤ 4 := by simpa using aR
  rw [avK e h.1]
  simp only [Bool.not_true, cond_false, Option.bind_some, Bool.true_and]
  have avO : e9 (fun i => (j7 (j8 e i) && qf (e.getD i ⟨[], 0, []⟩)) && oM e i) e.length = ((e9 (fun i => j7 (j8 e i)) e.length && vh e) && e9 (oM e) e.length) := by
   rw [qh, qh]; rfl
  rw [avO]
  cases ar : vh e
  ·simp
  ·simp only [Bool.not_true, cond_false, Bool.and_true]
   rw [s5 (l := fun m i => sv e m i) (n := e.length) (fun i => (j7 (j8 e i) && oM e i) && nP e i) (some true) (some false)]
   ·rw [qh, qh]
    cases ((e9 (fun i => j7 (j8 e i)) e.length && e9 (fun i => oM e i) e.length) && e9 (fun i => nP e i) e.length) <;> rfl
   ·intro m
    simp only [sv, AV]
    rw [gr (Nat.le_refl _)]; rfl
   ·intro i al m
    obtain ⟨r, _, bg, _, ch, _⟩ := GD h Om.2 ar al
    have aY := avM e i al Om.2
    have ayK := (h.2 _ (List.getElem_mem al)).1
    simp only [sv, AV]
    rw [gb al, gG _ i al, ga i _ al (by omega)]
    simp only [cond_true, Option.bind_some, N0 _ (show e[i].Name.length ≤ 140737488355328 by omega), j8, qg al]
    cases j7 e[i].Name
    ·rfl
    ·simp only [Bool.not_true, cond_false, Bool.true_and]
     rw [NC e i (by omega)] at aY ⊢
     simp only [Option.bind_some] at aY ⊢
     obtain ⟨v, aN, Ch⟩ := aH aY
     rw [aN]
     simp only [Option.some.injEq] at Ch
     simp only [Option.bind_some, Ch, bg, ch]
     cases oM e i <;> cases nP e i <;> rfl
theorem GF {e : List bm} (h : mW e) (aN : kS e = true) : 1 ≤ e.length ∧ e.length ≤ 4 ∧ ∀ i (al : i < e.length), (0 ≤ e[i].dL ∧ e[i].dL ≤ 3) ∧ qe e[i].Body = true ∧ j7 e[i].Name = true ∧
  ∃ r, sf e e[i] = some r ∧ r.2 = 0 := by
 unfold kS at aN
 rw [Bool.and_eq_true, Bool.and_eq_true, Bool.and_eq_true, decide_eq_true_eq, decide_eq_true_eq, qh, qh, Bool.and_eq_true, Bool.and_eq_true] at aN
 obtain ⟨⟨⟨ag, ah⟩, ⟨aI, a_⟩, bN⟩, cQ⟩ := aN
 refine ⟨ag, ah, fun i al => ?_⟩
 obtain ⟨r, dB, _, _, _, dW⟩ := GD h ah a_ al
 obtain ⟨s1, s2⟩ := dW (nK.1 cQ i al)
 have aY := nK.1 aI i al
 rw [j8, qg al] at aY
 exact ⟨Ok a_ i al, s1, aY, r, dB, s2⟩
end Go.eV
