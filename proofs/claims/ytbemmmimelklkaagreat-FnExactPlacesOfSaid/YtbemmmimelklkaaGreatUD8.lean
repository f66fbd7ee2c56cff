/- Part of a proof that a law returns true for every input. No condition. -/
import Derived.Test.YtbemmmimelklkaaGreatUD6
namespace Go.fJ
open Go Go.dg
def jP (e : List a9) (i : Nat) : List UInt8 := (e.getD i ⟨[], 0, []⟩).Name
theorem p5 {e : List a9} {i : Nat} (ar : i < e.length) : e.getD i ⟨[], 0, []⟩ = e[i] := by simp [List.getD, ar]
def oI (e : List a9) (i : Nat) : Bool := fG (fun j => !(jP e j == jP e i)) i
noncomputable def nF (e : List a9) (i : Nat) : Bool := match sb e (e.getD i ⟨[], 0, []⟩) with
 | some r => r.2 == 0
 | none => false
noncomputable def nG (e : List a9) : Bool := ((decide (1 ≤ e.length) && decide (e.length ≤ 4)) && fG (fun i => (kc (jP e i) && p4 (e.getD i ⟨[], 0, []⟩)) && oI e i) e.length) && fG (nF e) e.length
theorem Gj {e : List a9} (h : q7 e) (bb : e.length ≤ 4) (ax : vx e = true) {i : Nat} (ar : i < e.length) :
  ∃ r, sb e e[i] = some r ∧ xz e e[i] = some r ∧ decide (0 < r.2) = !(nF e i) ∧ (r.2 != 0) = !(nF e i) ∧ (nF e i = true → p3 e[i].Body = true ∧ r.2 = 0) := by
 obtain ⟨r, dV, eS, h8, jT⟩ := atX e bb e[i] (h.2 _ (List.getElem_mem ar)) (Nn ax i ar)
 have ae : nF e i = (r.2 == 0) := by unfold nF; rw [p5 ar, dV]
 refine ⟨r, dV, eS, ?_, ?_, fun kS => ?_⟩
 ·rw [ae]
  by_cases ba : r.2 = 0
  ·rw [ba]; rfl
  ·have a4 : (r.2 == 0) = false := by simpa using ba
   rw [a4]; exact decide_eq_true (by omega)
 ·rw [ae]; rfl
 ·rw [ae] at kS
  have ba : r.2 = 0 := by simpa using kS
  exact ⟨jT ba, ba⟩
theorem p6 {p q : Nat → Bool} {n : Nat} : fG (fun i => p i && q i) n = (fG p n && fG q n) := by
 rw [Bool.eq_iff_iff, Bool.and_eq_true, pf, pf, pf]
 constructor
 ·intro h; exact ⟨fun i ar => ((Bool.and_eq_true _ _).mp (h i ar)).1, fun i ar => ((Bool.and_eq_true _ _).mp (h i ar)).2⟩
 ·rintro ⟨ai, aj⟩ i ar; rw [ai i ar, aj i ar]; rfl
theorem atZ (e : List a9) (h : q7 e) : AA e = some (nG e) := by
 unfold AA nG
 by_cases hl : 1 ≤ e.length ∧ e.length ≤ 4
 ·have d1 : (((e.length : Int) == 0) || decide ((4 : Int) < (e.length : Int))) = false := by
   rw [Bool.or_eq_false_iff, beq_eq_false_iff_ne, decide_eq_false_iff_not]; omega
  have d2 : (decide (1 ≤ e.length) && decide (e.length ≤ 4)) = true := by simp; omega
  rw [d1, d2, cond_false, Bool.true_and]
  rw [tb (l := fun m i => nv e m i) (n := e.length) (fun i => (kc (jP e i) && p4 (e.getD i ⟨[], 0, []⟩)) && oI e i) (cO fun n => qO e n 0) (some false)]
  ·cases cw : fG (fun i => (kc (jP e i) && p4 (e.getD i ⟨[], 0, []⟩)) && oI e i) e.length
   ·rfl
   ·have ax : vx e = true := by
     rw [p6, p6, Bool.and_eq_true, Bool.and_eq_true] at cw
     exact cw.1.2
    rw [cond_true, Bool.true_and]
    rw [tb (l := fun m i => qO e m i) (n := e.length) (nF e) (some true) (some false)]
    ·cases fG (nF e) e.length <;> rfl
    ·intro m
     simp only [qO, Ay]
     rw [fw (Nat.le_refl _)]; rfl
    ·intro i ar m
     obtain ⟨r, dV, _, h8, _⟩ := Gj h hl.2 ax ar
     simp only [qO, Ay]
     rw [gz ar, hD _ i ar, gy i _ ar (by omega)]
     simp only [cond_true, Option.bind_some, dV, h8]
     cases nF e i <;> rfl
  ·intro m
   simp only [nv, Az]
   rw [fw (Nat.le_refl _)]; rfl
  ·intro i ar m
   simp only [nv, Az]
   rw [gz ar, hD _ i ar]
   simp only [cond_true, Option.bind_some, Ga, lL]
   rw [tb (l := fun hX j => sc (nv e m) e hX (i : Int) j) (n := i) (fun j => !(jP e j == jP e i)) (nv e m ((i + 1 : Nat) : Int)) (some false)]
   ·have a4 : jP e i = e[i].Name := by unfold jP; rw [p5 ar]
    rw [← a4, p5 ar]
    show cond (!kc (jP e i)) _ (cond (!p4 e[i]) _ (cond (oI e i) _ _)) = _
    cases kc (jP e i) <;> cases p4 e[i] <;> cases oI e i <;> rfl
   ·intro hX
    simp only [sc, Ax]
    rw [fw (Nat.le_refl _), gy i _ ar (by omega)]; rfl
   ·intro j cx hX
    have Ct : j < e.length := by omega
    simp only [sc, Ax]
    rw [gz cx, hD _ j Ct, hD _ i ar, gy j _ cx (by omega)]
    simp only [cond_true, Option.bind_some, jP, p5 ar, p5 Ct]
    cases e[j].Name == e[i].Name <;> rfl
 ·have d1 : (((e.length : Int) == 0) || decide ((4 : Int) < (e.length : Int))) = true := by
   by_cases ba : e.length = 0
   ·simp [ba]
   ·have : decide ((4 : Int) < (e.length : Int)) = true := decide_eq_true (by omega)
    rw [this, Bool.or_true]
  have d2 : (decide (1 ≤ e.length) && decide (e.length ≤ 4)) = false := by
   rw [Bool.and_eq_false_iff, decide_eq_false_iff_not, decide_eq_false_iff_not]; omega
  rw [d1, d2]; rfl
theorem at0 (e : List a9) (i : Nat) (ar : i < e.length) (bb : e.length ≤ 4) : ((jx e 0 (i : Int)).bind fun bs => (AV bs e[i].Name).bind fun b7 => some (decide (0 ≤ b7))) = some (!(oI e i)) := by
 rw [MB e i (by omega)]
 simp only [Option.bind_some]
 unfold AV E2
 have hlen : (e.take i).length = i := by rw [List.length_take]; omega
 rw [vn (n := i) (fun j => jP e j == jP e i)]
 ·simp only [Option.bind_some, vm]; rfl
 ·intro m
  simp only [uN, AU]
  rw [hlen, fw (Nat.le_refl _)]; rfl
 ·intro j cx m
  have Ct : j < e.length := by omega
  simp only [uN, AU]
  rw [hlen, gz cx, hD _ j (by omega), gy j _ cx (by omega)]
  have : (e.take i)[j]'(by omega) = e[j] := by simp
  simp only [cond_true, Option.bind_some, E1, this, jP, p5 ar, p5 Ct]
theorem at1 (e : List a9) (h : q7 e) : A7 e = some (nG e) := by
 unfold A7 jf nG
 have mD : decide ((1 : Int) ≤ (e.length : Int)) = decide (1 ≤ e.length) := decide_eq_decide.2 (by omega)
 have lY : decide ((e.length : Int) ≤ 4) = decide (e.length ≤ 4) := decide_eq_decide.2 (by omega)
 simp only [Option.bind_some]
 rw [mD, lY]
 cases hl : (decide (1 ≤ e.length) && decide (e.length ≤ 4))
 ·rfl
 ·have Nq : 1 ≤ e.length ∧ e.length ≤ 4 := by simpa using hl
  rw [atY e h.1]
  simp only [Bool.not_true, cond_false, Option.bind_some, Bool.true_and]
  have at2 : fG (fun i => (kc (jP e i) && p4 (e.getD i ⟨[], 0, []⟩)) && oI e i) e.length = ((fG (fun i => kc (jP e i)) e.length && vx e) && fG (oI e) e.length) := by
   rw [p6, p6]; rfl
  rw [at2]
  cases ax : vx e
  ·simp
  ·simp only [Bool.not_true, cond_false, Bool.and_true]
   rw [tb (l := fun m i => sm e m i) (n := e.length) (fun i => (kc (jP e i) && oI e i) && nF e i) (some true) (some false)]
   ·rw [p6, p6]
    cases ((fG (fun i => kc (jP e i)) e.length && fG (fun i => oI e i) e.length) && fG (fun i => nF e i) e.length) <;> rfl
   ·intro m
    simp only [sm, A6]
    rw [fw (Nat.le_refl _)]; rfl
   ·intro i ar m
    obtain ⟨r, _, eS, _, jT, _⟩ := Gj h Nq.2 ax ar
    have bd := at0 e i ar Nq.2
    have awR := (h.2 _ (List.getElem_mem ar)).1
    simp only [sm, A6]
    rw [gz ar, hD _ i ar, gy i _ ar (by omega)]
    simp only [cond_true, Option.bind_some, M0 _ (show e[i].Name.length ≤ 140737488355328 by omega), jP, p5 ar]
    cases kc e[i].Name
    ·rfl
    ·simp only [Bool.not_true, cond_false, Bool.true_and]
     rw [MB e i (by omega)] at bd ⊢
     simp only [Option.bind_some] at bd ⊢
     obtain ⟨v, a2, Cs⟩ := aO bd
     rw [a2]
     simp only [Option.some.injEq] at Cs
     simp only [Option.bind_some, Cs, eS, jT]
     cases oI e i <;> cases nF e i <;> rfl
theorem yE {e : List a9} (h : q7 e) (a2 : nG e = true) : 1 ≤ e.length ∧ e.length ≤ 4 ∧ ∀ i (ar : i < e.length), (0 ≤ e[i].cZ ∧ e[i].cZ ≤ 3) ∧ p3 e[i].Body = true ∧ kc e[i].Name = true ∧
  ∃ r, sb e e[i] = some r ∧ r.2 = 0 := by
 unfold nG at a2
 rw [Bool.and_eq_true, Bool.and_eq_true, Bool.and_eq_true, decide_eq_true_eq, decide_eq_true_eq, p6, p6, Bool.and_eq_true, Bool.and_eq_true] at a2
 obtain ⟨⟨⟨ai, aj⟩, ⟨aP, bb⟩, b5⟩, cF⟩ := a2
 refine ⟨ai, aj, fun i ar => ?_⟩
 obtain ⟨r, dV, _, _, _, CV⟩ := Gj h aj bb ar
 obtain ⟨s1, s2⟩ := CV (pf.1 cF i ar)
 have bd := pf.1 aP i ar
 rw [jP, p5 ar] at bd
 exact ⟨Nn bb i ar, s1, bd, r, dV, s2⟩
end Go.fJ
