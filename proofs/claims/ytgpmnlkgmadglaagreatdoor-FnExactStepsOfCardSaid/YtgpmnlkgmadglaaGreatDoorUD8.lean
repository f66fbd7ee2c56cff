/- Part of a proof that a law returns true for every input. No condition. -/
import Derived.Test.YtgpmnlkgmadglaaGreatDoorUD6
namespace Go.eR
open Go Go.cY
def kz (e : List aS) (i : Nat) : List UInt8 := (e.getD i ⟨[], 0, []⟩).Name
theorem rR {e : List aS} {i : Nat} (an : i < e.length) : e.getD i ⟨[], 0, []⟩ = e[i] := by simp [List.getD, an]
def pZ (e : List aS) (i : Nat) : Bool := ik (fun j => !(kz e j == kz e i)) i
noncomputable def o1 (e : List aS) (i : Nat) : Bool := match ry e (e.getD i ⟨[], 0, []⟩) with
 | some r => r.2 == 0
 | none => false
noncomputable def o2 (e : List aS) : Bool := ((decide (1 ≤ e.length) && decide (e.length ≤ 4)) && ik (fun i => (iS (kz e i) && rQ (e.getD i ⟨[], 0, []⟩)) && pZ e i) e.length) && ik (o1 e) e.length
theorem Jh {e : List aS} (h : o0 e) (a_ : e.length ≤ 4) (aw : xE e = true) {i : Nat} (an : i < e.length) :
  ∃ r, ry e e[i] = some r ∧ zC e e[i] = some r ∧ decide (0 < r.2) = !(o1 e i) ∧ (r.2 != 0) = !(o1 e i) ∧ (o1 e i = true → rP e[i].Body = true ∧ r.2 = 0) := by
 obtain ⟨r, dR, br, dQ, ca⟩ := axy e a_ e[i] (h.2 _ (List.getElem_mem an)) (Q0 aw i an)
 have aa : o1 e i = (r.2 == 0) := by unfold o1; rw [rR an, dR]
 refine ⟨r, dR, br, ?_, ?_, fun ko => ?_⟩
 ·rw [aa]
  by_cases bn : r.2 = 0
  ·rw [bn]; rfl
  ·have aN : (r.2 == 0) = false := by simpa using bn
   rw [aN]; exact decide_eq_true (by omega)
 ·rw [aa]; rfl
 ·rw [aa] at ko
  have bn : r.2 = 0 := by simpa using ko
  exact ⟨ca bn, bn⟩
theorem s8 {p q : Nat → Bool} {n : Nat} : ik (fun i => p i && q i) n = (ik p n && ik q n) := by
 rw [Bool.eq_iff_iff, Bool.and_eq_true, pW, pW, pW]
 constructor
 ·intro h; exact ⟨fun i an => ((Bool.and_eq_true _ _).mp (h i an)).1, fun i an => ((Bool.and_eq_true _ _).mp (h i an)).2⟩
 ·rintro ⟨af, ag⟩ i an; rw [af i an, ag i an]; rfl
theorem axC (e : List aS) (h : o0 e) : CA e = some (o2 e) := by
 unfold CA o2
 by_cases hl : 1 ≤ e.length ∧ e.length ≤ 4
 ·have d1 : (((e.length : Int) == 0) || decide ((4 : Int) < (e.length : Int))) = false := by
   rw [Bool.or_eq_false_iff, beq_eq_false_iff_ne, decide_eq_false_iff_not]; omega
  have d2 : (decide (1 ≤ e.length) && decide (e.length ≤ 4)) = true := by simp; omega
  rw [d1, d2, cond_false, Bool.true_and]
  rw [Ey (l := fun m i => oF e m i) (n := e.length) (fun i => (iS (kz e i) && rQ (e.getD i ⟨[], 0, []⟩)) && pZ e i) (c2 fun n => sC e n 0) (some false)]
  ·cases bF : ik (fun i => (iS (kz e i) && rQ (e.getD i ⟨[], 0, []⟩)) && pZ e i) e.length
   ·rfl
   ·have aw : xE e = true := by
     rw [s8, s8, Bool.and_eq_true, Bool.and_eq_true] at bF
     exact bF.1.2
    rw [cond_true, Bool.true_and]
    rw [Ey (l := fun m i => sC e m i) (n := e.length) (o1 e) (some true) (some false)]
    ·cases ik (o1 e) e.length <;> rfl
    ·intro m
     simp only [sC, Cy]
     rw [gI (Nat.le_refl _)]; rfl
    ·intro i an m
     obtain ⟨r, dR, _, dQ, _⟩ := Jh h hl.2 aw an
     simp only [sC, Cy]
     rw [hx an, fp _ i an, hg i _ an (by omega)]
     simp only [cond_true, Option.bind_some, dR, dQ]
     cases o1 e i <;> rfl
  ·intro m
   simp only [oF, Cz]
   rw [gI (Nat.le_refl _)]; rfl
  ·intro i an m
   simp only [oF, Cz]
   rw [hx an, fp _ i an]
   simp only [cond_true, Option.bind_some, I9, lF]
   rw [Ey (l := fun js j => ue (oF e m) e js (i : Int) j) (n := i) (fun j => !(kz e j == kz e i)) (oF e m ((i + 1 : Nat) : Int)) (some false)]
   ·have aN : kz e i = e[i].Name := by unfold kz; rw [rR an]
    rw [← aN, rR an]
    show cond (!iS (kz e i)) _ (cond (!rQ e[i]) _ (cond (pZ e i) _ _)) = _
    cases iS (kz e i) <;> cases rQ e[i] <;> cases pZ e i <;> rfl
   ·intro js
    simp only [ue, Cx]
    rw [gI (Nat.le_refl _), hg i _ an (by omega)]; rfl
   ·intro j bw js
    have EA : j < e.length := by omega
    simp only [ue, Cx]
    rw [hx bw, fp _ j EA, fp _ i an, hg j _ bw (by omega)]
    simp only [cond_true, Option.bind_some, kz, rR an, rR EA]
    cases e[j].Name == e[i].Name <;> rfl
 ·have d1 : (((e.length : Int) == 0) || decide ((4 : Int) < (e.length : Int))) = true := by
   by_cases bn : e.length = 0
   ·simp [bn]
   ·have : decide ((4 : Int) < (e.length : Int)) = true := decide_eq_true (by omega)
    rw [this, Bool.or_true]
  have d2 : (decide (1 ≤ e.length) && decide (e.length ≤ 4)) = false := by
   rw [Bool.and_eq_false_iff, decide_eq_false_iff_not, decide_eq_false_iff_not]; omega
  rw [d1, d2]; rfl
theorem axD (e : List aS) (i : Nat) (an : i < e.length) (a_ : e.length ≤ 4) : ((kB e 0 (i : Int)).bind fun bq => (CY bq e[i].Name).bind fun bL => some (decide (0 ≤ bL))) = some (!(pZ e i)) := by
 rw [Qp e i (by omega)]
 simp only [Option.bind_some]
 unfold CY HB
 have hlen : (e.take i).length = i := by rw [List.length_take]; omega
 rw [AF (n := i) (fun j => kz e j == kz e i)]
 ·simp only [Option.bind_some, AE]; rfl
 ·intro m
  simp only [wU, CX]
  rw [hlen, gI (Nat.le_refl _)]; rfl
 ·intro j bw m
  have EA : j < e.length := by omega
  simp only [wU, CX]
  rw [hlen, hx bw, fp _ j (by omega), hg j _ bw (by omega)]
  have : (e.take i)[j]'(by omega) = e[j] := by simp
  simp only [cond_true, Option.bind_some, HA, this, kz, rR an, rR EA]
theorem axE (e : List aS) (h : o0 e) : C_ e = some (o2 e) := by
 unfold C_ j4 o2
 have mJ : decide ((1 : Int) ≤ (e.length : Int)) = decide (1 ≤ e.length) := decide_eq_decide.2 (by omega)
 have kb : decide ((e.length : Int) ≤ 4) = decide (e.length ≤ 4) := decide_eq_decide.2 (by omega)
 simp only [Option.bind_some]
 rw [mJ, kb]
 cases hl : (decide (1 ≤ e.length) && decide (e.length ≤ 4))
 ·rfl
 ·have Q1 : 1 ≤ e.length ∧ e.length ≤ 4 := by simpa using hl
  rw [axz e h.1]
  simp only [Bool.not_true, cond_false, Option.bind_some, Bool.true_and]
  have axF : ik (fun i => (iS (kz e i) && rQ (e.getD i ⟨[], 0, []⟩)) && pZ e i) e.length = ((ik (fun i => iS (kz e i)) e.length && xE e) && ik (pZ e) e.length) := by
   rw [s8, s8]; rfl
  rw [axF]
  cases aw : xE e
  ·simp
  ·simp only [Bool.not_true, cond_false, Bool.and_true]
   rw [Ey (l := fun m i => uB e m i) (n := e.length) (fun i => (iS (kz e i) && pZ e i) && o1 e i) (some true) (some false)]
   ·rw [s8, s8]
    cases ((ik (fun i => iS (kz e i)) e.length && ik (fun i => pZ e i) e.length) && ik (fun i => o1 e i) e.length) <;> rfl
   ·intro m
    simp only [uB, C9]
    rw [gI (Nat.le_refl _)]; rfl
   ·intro i an m
    obtain ⟨r, _, br, _, ca, _⟩ := Jh h Q1.2 aw an
    have bc := axD e i an Q1.2
    have Ji := (h.2 _ (List.getElem_mem an)).1
    simp only [uB, C9]
    rw [hx an, fp _ i an, hg i _ an (by omega)]
    simp only [cond_true, Option.bind_some, QD _ (show e[i].Name.length ≤ 140737488355328 by omega), kz, rR an]
    cases iS e[i].Name
    ·rfl
    ·simp only [Bool.not_true, cond_false, Bool.true_and]
     rw [Qp e i (by omega)] at bc ⊢
     simp only [Option.bind_some] at bc ⊢
     obtain ⟨v, aK, vg⟩ := aG bc
     rw [aK]
     simp only [Option.some.injEq] at vg
     simp only [Option.bind_some, vg, br, ca]
     cases pZ e i <;> cases o1 e i <;> rfl
theorem EB {e : List aS} (h : o0 e) (aK : o2 e = true) : 1 ≤ e.length ∧ e.length ≤ 4 ∧ ∀ i (an : i < e.length), (0 ≤ e[i].c_ ∧ e[i].c_ ≤ 3) ∧ rP e[i].Body = true ∧ iS e[i].Name = true ∧
  ∃ r, ry e e[i] = some r ∧ r.2 = 0 := by
 unfold o2 at aK
 rw [Bool.and_eq_true, Bool.and_eq_true, Bool.and_eq_true, decide_eq_true_eq, decide_eq_true_eq, s8, s8, Bool.and_eq_true, Bool.and_eq_true] at aK
 obtain ⟨⟨⟨af, ag⟩, ⟨aF, a_⟩, bI⟩, cK⟩ := aK
 refine ⟨af, ag, fun i an => ?_⟩
 obtain ⟨r, dR, _, _, _, dq⟩ := Jh h ag a_ an
 obtain ⟨s1, s2⟩ := dq (pW.1 cK i an)
 have bc := pW.1 aF i an
 rw [kz, rR an] at bc
 exact ⟨Q0 a_ i an, s1, bc, r, dR, s2⟩
end Go.eR
