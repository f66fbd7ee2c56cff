/- Part of a proof that a law returns true for every input. No condition. -/
import Derived.Test.YtbemmmimelklkaaGreatUD6
namespace Go.eR
open Go Go.c5
def jX (e : List bg) (i : Nat) : List UInt8 := (e.getD i ⟨[], 0, []⟩).Name
theorem qD {e : List bg} {i : Nat} (ao : i < e.length) : e.getD i ⟨[], 0, []⟩ = e[i] := by simp [List.getD, ao]
def o1 (e : List bg) (i : Nat) : Bool := fJ (fun j => !(jX e j == jX e i)) i
noncomputable def n2 (e : List bg) (i : Nat) : Bool := match rh e (e.getD i ⟨[], 0, []⟩) with
 | some r => r.2 == 0
 | none => false
noncomputable def o2 (e : List bg) : Bool := ((decide (1 ≤ e.length) && decide (e.length ≤ 4)) && fJ (fun i => (ke (jX e i) && qC (e.getD i ⟨[], 0, []⟩)) && o1 e i) e.length) && fJ (n2 e) e.length
theorem HE {e : List bg} (h : tI e) (bk : e.length ≤ 4) (aA : wv e = true) {i : Nat} (ao : i < e.length) :
  ∃ r, rh e e[i] = some r ∧ yl e e[i] = some r ∧ decide (0 < r.2) = !(n2 e i) ∧ (r.2 != 0) = !(n2 e i) ∧ (n2 e i = true → qA e[i].Body = true ∧ r.2 = 0) := by
 obtain ⟨r, df, ea, gU, i9⟩ := aws e bk e[i] (h.2 _ (List.getElem_mem ao)) (Pb aA i ao)
 have ad : n2 e i = (r.2 == 0) := by unfold n2; rw [qD ao, df]
 refine ⟨r, df, ea, ?_, ?_, fun k2 => ?_⟩
 ·rw [ad]
  by_cases bc : r.2 = 0
  ·rw [bc]; rfl
  ·have a1 : (r.2 == 0) = false := by simpa using bc
   rw [a1]; exact decide_eq_true (by omega)
 ·rw [ad]; rfl
 ·rw [ad] at k2
  have bc : r.2 = 0 := by simpa using k2
  exact ⟨i9 bc, bc⟩
theorem qE {p q : Nat → Bool} {n : Nat} : fJ (fun i => p i && q i) n = (fJ p n && fJ q n) := by
 rw [Bool.eq_iff_iff, Bool.and_eq_true, oT, oT, oT]
 constructor
 ·intro h; exact ⟨fun i ao => ((Bool.and_eq_true _ _).mp (h i ao)).1, fun i ao => ((Bool.and_eq_true _ _).mp (h i ao)).2⟩
 ·rintro ⟨af, ai⟩ i ao; rw [af i ao, ai i ao]; rfl
theorem awu (e : List bg) (h : tI e) : Bw e = some (o2 e) := by
 unfold Bw o2
 by_cases hl : 1 ≤ e.length ∧ e.length ≤ 4
 ·have d1 : (((e.length : Int) == 0) || decide ((4 : Int) < (e.length : Int))) = false := by
   rw [Bool.or_eq_false_iff, beq_eq_false_iff_ne, decide_eq_false_iff_not]; omega
  have d2 : (decide (1 ≤ e.length) && decide (e.length ≤ 4)) = true := by simp; omega
  rw [d1, d2, cond_false, Bool.true_and]
  rw [tH (l := fun m i => nT e m i) (n := e.length) (fun i => (ke (jX e i) && qC (e.getD i ⟨[], 0, []⟩)) && o1 e i) (lim fun n => ri e n 0) (some false)]
  ·cases cz : fJ (fun i => (ke (jX e i) && qC (e.getD i ⟨[], 0, []⟩)) && o1 e i) e.length
   ·rfl
   ·have aA : wv e = true := by
     rw [qE, qE, Bool.and_eq_true, Bool.and_eq_true] at cz
     exact cz.1.2
    rw [cond_true, Bool.true_and]
    rw [tH (l := fun m i => ri e m i) (n := e.length) (n2 e) (some true) (some false)]
    ·cases fJ (n2 e) e.length <;> rfl
    ·intro m
     simp only [ri, Bu]
     rw [fa (Nat.le_refl _)]; rfl
    ·intro i ao m
     obtain ⟨r, df, _, gU, _⟩ := HE h hl.2 aA ao
     simp only [ri, Bu]
     rw [fB ao, gx _ i ao, fA i _ ao (by omega)]
     simp only [cond_true, Option.bind_some, df, gU]
     cases n2 e i <;> rfl
  ·intro m
   simp only [nT, Bv]
   rw [fa (Nat.le_refl _)]; rfl
  ·intro i ao m
   simp only [nT, Bv]
   rw [fB ao, gx _ i ao]
   simp only [cond_true, Option.bind_some, Hv, lz]
   rw [tH (l := fun hY j => sK (nT e m) e hY (i : Int) j) (n := i) (fun j => !(jX e j == jX e i)) (nT e m ((i + 1 : Nat) : Int)) (some false)]
   ·have a1 : jX e i = e[i].Name := by unfold jX; rw [qD ao]
    rw [← a1, qD ao]
    show cond (!ke (jX e i)) _ (cond (!qC e[i]) _ (cond (o1 e i) _ _)) = _
    cases ke (jX e i) <;> cases qC e[i] <;> cases o1 e i <;> rfl
   ·intro hY
    simp only [sK, Bt]
    rw [fa (Nat.le_refl _), fA i _ ao (by omega)]; rfl
   ·intro j b_ hY
    have DE : j < e.length := by omega
    simp only [sK, Bt]
    rw [fB b_, gx _ j DE, gx _ i ao, fA j _ b_ (by omega)]
    simp only [cond_true, Option.bind_some, jX, qD ao, qD DE]
    cases e[j].Name == e[i].Name <;> rfl
 ·have d1 : (((e.length : Int) == 0) || decide ((4 : Int) < (e.length : Int))) = true := by
   by_cases bc : e.length = 0
   ·simp [bc]
   ·have : decide ((4 : Int) < (e.length : Int)) = true := decide_eq_true (by omega)
    rw [this, Bool.or_true]
  have d2 : (decide (1 ≤ e.length) && decide (e.length ≤ 4)) = false := by
   rw [Bool.and_eq_false_iff, decide_eq_false_iff_not, decide_eq_false_iff_not]; omega
  rw [d1, d2]; rfl
theorem awv (e : List bg) (i : Nat) (ao : i < e.length) (bk : e.length ≤ 4) : ((jH e 0 (i : Int)).bind fun bp => (BV bp e[i].Name).bind fun bU => some (decide (0 ≤ bU))) = some (!(o1 e i)) := by
 rw [Oq e i (by omega)]
 simp only [Option.bind_some]
 unfold BV Gh
 have hlen : (e.take i).length = i := by rw [List.length_take]; omega
 rw [wh (n := i) (fun j => jX e j == jX e i)]
 ·simp only [Option.bind_some, wg]; rfl
 ·intro m
  simp only [vt, BU]
  rw [hlen, fa (Nat.le_refl _)]; rfl
 ·intro j b_ m
  have DE : j < e.length := by omega
  simp only [vt, BU]
  rw [hlen, fB b_, gx _ j (by omega), fA j _ b_ (by omega)]
  have : (e.take i)[j]'(by omega) = e[j] := by simp
  simp only [cond_true, Option.bind_some, Gg, this, jX, qD ao, qD DE]
theorem aww (e : List bg) (h : tI e) : B9 e = some (o2 e) := by
 unfold B9 jt o2
 have mV : decide ((1 : Int) ≤ (e.length : Int)) = decide (1 ≤ e.length) := decide_eq_decide.2 (by omega)
 have me : decide ((e.length : Int) ≤ 4) = decide (e.length ≤ 4) := decide_eq_decide.2 (by omega)
 simp only [Option.bind_some]
 rw [mV, me]
 cases hl : (decide (1 ≤ e.length) && decide (e.length ≤ 4))
 ·rfl
 ·have kz : 1 ≤ e.length ∧ e.length ≤ 4 := by simpa using hl
  rw [awt e h.1]
  simp only [Bool.not_true, cond_false, Option.bind_some, Bool.true_and]
  have awx : fJ (fun i => (ke (jX e i) && qC (e.getD i ⟨[], 0, []⟩)) && o1 e i) e.length = ((fJ (fun i => ke (jX e i)) e.length && wv e) && fJ (o1 e) e.length) := by
   rw [qE, qE]; rfl
  rw [awx]
  cases aA : wv e
  ·simp
  ·simp only [Bool.not_true, cond_false, Bool.and_true]
   rw [tH (l := fun m i => sV e m i) (n := e.length) (fun i => (ke (jX e i) && o1 e i) && n2 e i) (some true) (some false)]
   ·rw [qE, qE]
    cases ((fJ (fun i => ke (jX e i)) e.length && fJ (fun i => o1 e i) e.length) && fJ (fun i => n2 e i) e.length) <;> rfl
   ·intro m
    simp only [sV, B8]
    rw [fa (Nat.le_refl _)]; rfl
   ·intro i ao m
    obtain ⟨r, _, ea, _, i9, _⟩ := HE h kz.2 aA ao
    have bl := awv e i ao kz.2
    have azy := (h.2 _ (List.getElem_mem ao)).1
    simp only [sV, B8]
    rw [fB ao, gx _ i ao, fA i _ ao (by omega)]
    simp only [cond_true, Option.bind_some, OQ _ (show e[i].Name.length ≤ 140737488355328 by omega), jX, qD ao]
    cases ke e[i].Name
    ·rfl
    ·simp only [Bool.not_true, cond_false, Bool.true_and]
     rw [Oq e i (by omega)] at bl ⊢
     simp only [Option.bind_some] at bl ⊢
     obtain ⟨v, aR, DD⟩ := aL bl
     rw [aR]
     simp only [Option.some.injEq] at DD
     simp only [Option.bind_some, DD, ea, i9]
     cases o1 e i <;> cases n2 e i <;> rfl
theorem awy {e : List bg} (h : tI e) (aR : o2 e = true) : 1 ≤ e.length ∧ e.length ≤ 4 ∧ ∀ i (ao : i < e.length), (0 ≤ e[i].dj ∧ e[i].dj ≤ 3) ∧ qA e[i].Body = true ∧ ke e[i].Name = true ∧
  ∃ r, rh e e[i] = some r ∧ r.2 = 0 := by
 unfold o2 at aR
 rw [Bool.and_eq_true, Bool.and_eq_true, Bool.and_eq_true, decide_eq_true_eq, decide_eq_true_eq, qE, qE, Bool.and_eq_true, Bool.and_eq_true] at aR
 obtain ⟨⟨⟨af, ai⟩, ⟨aN, bk⟩, cc⟩, cF⟩ := aR
 refine ⟨af, ai, fun i ao => ?_⟩
 obtain ⟨r, df, _, _, _, rY⟩ := HE h ai bk ao
 obtain ⟨s1, s2⟩ := rY (oT.1 cF i ao)
 have bl := oT.1 aN i ao
 rw [jX, qD ao] at bl
 exact ⟨Pb bk i ao, s1, bl, r, df, s2⟩
end Go.eR
