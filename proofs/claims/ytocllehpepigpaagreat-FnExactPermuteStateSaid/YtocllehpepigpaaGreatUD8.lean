/- Part of a proof that a law returns true for every input. No condition. -/
import Derived.Test.YtocllehpepigpaaGreatUD6
namespace Go.e1
open Go Go.dg
def kr (e : List bk) (i : Nat) : List UInt8 := (e.getD i ⟨[], 0, []⟩).Name
theorem q7 {e : List bk} {i : Nat} (au : i < e.length) : e.getD i ⟨[], 0, []⟩ = e[i] := by simp [List.getD, au]
def pA (e : List bk) (i : Nat) : Bool := fL (fun j => !(kr e j == kr e i)) i
noncomputable def oB (e : List bk) (i : Nat) : Bool := match ta e (e.getD i ⟨[], 0, []⟩) with
 | some r => r.2 == 0
 | none => false
noncomputable def me (e : List bk) : Bool := ((decide (1 ≤ e.length) && decide (e.length ≤ 4)) && fL (fun i => (kO (kr e i) && q6 (e.getD i ⟨[], 0, []⟩)) && pA e i) e.length) && fL (oB e) e.length
theorem Io {e : List bk} (h : oA e) (a6 : e.length ≤ 4) (az : wR e = true) {i : Nat} (au : i < e.length) :
  ∃ r, ta e e[i] = some r ∧ yW e e[i] = some r ∧ decide (0 < r.2) = !(oB e i) ∧ (r.2 != 0) = !(oB e i) ∧ (oB e i = true → q5 e[i].Body = true ∧ r.2 = 0) := by
 obtain ⟨r, dK, bj, dD, ch⟩ := aAb e a6 e[i] (h.2 _ (List.getElem_mem au)) (Qb az i au)
 have ad : oB e i = (r.2 == 0) := by unfold oB; rw [q7 au, dK]
 refine ⟨r, dK, bj, ?_, ?_, fun kT => ?_⟩
 ·rw [ad]
  by_cases bf : r.2 = 0
  ·rw [bf]; rfl
  ·have aU : (r.2 == 0) = false := by simpa using bf
   rw [aU]; exact decide_eq_true (by omega)
 ·rw [ad]; rfl
 ·rw [ad] at kT
  have bf : r.2 = 0 := by simpa using kT
  exact ⟨ch bf, bf⟩
theorem q8 {p q : Nat → Bool} {n : Nat} : fL (fun i => p i && q i) n = (fL p n && fL q n) := by
 rw [Bool.eq_iff_iff, Bool.and_eq_true, p8, p8, p8]
 constructor
 ·intro h; exact ⟨fun i au => ((Bool.and_eq_true _ _).mp (h i au)).1, fun i au => ((Bool.and_eq_true _ _).mp (h i au)).2⟩
 ·rintro ⟨ae, ah⟩ i au; rw [ae i au, ah i au]; rfl
theorem aAd (e : List bk) (h : oA e) : BV e = some (me e) := by
 unfold BV me
 by_cases hl : 1 ≤ e.length ∧ e.length ≤ 4
 ·have d1 : (((e.length : Int) == 0) || decide ((4 : Int) < (e.length : Int))) = false := by
   rw [Bool.or_eq_false_iff, beq_eq_false_iff_ne, decide_eq_false_iff_not]; omega
  have d2 : (decide (1 ≤ e.length) && decide (e.length ≤ 4)) = true := by simp; omega
  rw [d1, d2, cond_false, Bool.true_and]
  rw [ur (l := fun m i => oq e m i) (n := e.length) (fun i => (kO (kr e i) && q6 (e.getD i ⟨[], 0, []⟩)) && pA e i) (lim fun n => rQ e n 0) (some false)]
  ·cases cJ : fL (fun i => (kO (kr e i) && q6 (e.getD i ⟨[], 0, []⟩)) && pA e i) e.length
   ·rfl
   ·have az : wR e = true := by
     rw [q8, q8, Bool.and_eq_true, Bool.and_eq_true] at cJ
     exact cJ.1.2
    rw [cond_true, Bool.true_and]
    rw [ur (l := fun m i => rQ e m i) (n := e.length) (oB e) (some true) (some false)]
    ·cases fL (oB e) e.length <;> rfl
    ·intro m
     simp only [rQ, BT]
     rw [fD (Nat.le_refl _)]; rfl
    ·intro i au m
     obtain ⟨r, dK, _, dD, _⟩ := Io h hl.2 az au
     simp only [rQ, BT]
     rw [gT au, hW _ i au, gS i _ au (by omega)]
     simp only [cond_true, Option.bind_some, dK, dD]
     cases oB e i <;> rfl
  ·intro m
   simp only [oq, BU]
   rw [fD (Nat.le_refl _)]; rfl
  ·intro i au m
   simp only [oq, BU]
   rw [gT au, hW _ i au]
   simp only [cond_true, Option.bind_some, Ib, kF]
   rw [ur (l := fun iv j => tb (oq e m) e iv (i : Int) j) (n := i) (fun j => !(kr e j == kr e i)) (oq e m ((i + 1 : Nat) : Int)) (some false)]
   ·have aU : kr e i = e[i].Name := by unfold kr; rw [q7 au]
    rw [← aU, q7 au]
    show cond (!kO (kr e i)) _ (cond (!q6 e[i]) _ (cond (pA e i) _ _)) = _
    cases kO (kr e i) <;> cases q6 e[i] <;> cases pA e i <;> rfl
   ·intro iv
    simp only [tb, BS]
    rw [fD (Nat.le_refl _), gS i _ au (by omega)]; rfl
   ·intro j cH iv
    have D2 : j < e.length := by omega
    simp only [tb, BS]
    rw [gT cH, hW _ j D2, hW _ i au, gS j _ cH (by omega)]
    simp only [cond_true, Option.bind_some, kr, q7 au, q7 D2]
    cases e[j].Name == e[i].Name <;> rfl
 ·have d1 : (((e.length : Int) == 0) || decide ((4 : Int) < (e.length : Int))) = true := by
   by_cases bf : e.length = 0
   ·simp [bf]
   ·have : decide ((4 : Int) < (e.length : Int)) = true := decide_eq_true (by omega)
    rw [this, Bool.or_true]
  have d2 : (decide (1 ≤ e.length) && decide (e.length ≤ 4)) = false := by
   rw [Bool.and_eq_false_iff, decide_eq_false_iff_not, decide_eq_false_iff_not]; omega
  rw [d1, d2]; rfl
theorem aAe (e : List bk) (i : Nat) (au : i < e.length) (a6 : e.length ≤ 4) : ((ka e 0 (i : Int)).bind fun bH => (Ce bH e[i].Name).bind fun bE => some (decide (0 ≤ bE))) = some (!(pA e i)) := by
 rw [Pr e i (by omega)]
 simp only [Option.bind_some]
 unfold Ce GJ
 have hlen : (e.take i).length = i := by rw [List.length_take]; omega
 rw [uh (n := i) (fun j => kr e j == kr e i)]
 ·simp only [Option.bind_some, ug]; rfl
 ·intro m
  simp only [vZ, Cd]
  rw [hlen, fD (Nat.le_refl _)]; rfl
 ·intro j cH m
  have D2 : j < e.length := by omega
  simp only [vZ, Cd]
  rw [hlen, gT cH, hW _ j (by omega), gS j _ cH (by omega)]
  have : (e.take i)[j]'(by omega) = e[j] := by simp
  simp only [cond_true, Option.bind_some, GI, this, kr, q7 au, q7 D2]
theorem aAf (e : List bk) (h : oA e) : Cq e = some (me e) := by
 unfold Cq jQ me
 have nq : decide ((1 : Int) ≤ (e.length : Int)) = decide (1 ≤ e.length) := decide_eq_decide.2 (by omega)
 have mK : decide ((e.length : Int) ≤ 4) = decide (e.length ≤ 4) := decide_eq_decide.2 (by omega)
 simp only [Option.bind_some]
 rw [nq, mK]
 cases hl : (decide (1 ≤ e.length) && decide (e.length ≤ 4))
 ·rfl
 ·have k_ : 1 ≤ e.length ∧ e.length ≤ 4 := by simpa using hl
  rw [aAc e h.1]
  simp only [Bool.not_true, cond_false, Option.bind_some, Bool.true_and]
  have aAg : fL (fun i => (kO (kr e i) && q6 (e.getD i ⟨[], 0, []⟩)) && pA e i) e.length = ((fL (fun i => kO (kr e i)) e.length && wR e) && fL (pA e) e.length) := by
   rw [q8, q8]; rfl
  rw [aAg]
  cases az : wR e
  ·simp
  ·simp only [Bool.not_true, cond_false, Bool.and_true]
   rw [ur (l := fun m i => tm e m i) (n := e.length) (fun i => (kO (kr e i) && pA e i) && oB e i) (some true) (some false)]
   ·rw [q8, q8]
    cases ((fL (fun i => kO (kr e i)) e.length && fL (fun i => pA e i) e.length) && fL (fun i => oB e i) e.length) <;> rfl
   ·intro m
    simp only [tm, Cp]
    rw [fD (Nat.le_refl _)]; rfl
   ·intro i au m
    obtain ⟨r, _, bj, _, ch, _⟩ := Io h k_.2 az au
    have a_ := aAe e i au k_.2
    have aDo := (h.2 _ (List.getElem_mem au)).1
    simp only [tm, Cp]
    rw [gT au, hW _ i au, gS i _ au (by omega)]
    simp only [cond_true, Option.bind_some, PQ _ (show e[i].Name.length ≤ 140737488355328 by omega), kr, q7 au]
    cases kO e[i].Name
    ·rfl
    ·simp only [Bool.not_true, cond_false, Bool.true_and]
     rw [Pr e i (by omega)] at a_ ⊢
     simp only [Option.bind_some] at a_ ⊢
     obtain ⟨v, aQ, D1⟩ := aF a_
     rw [aQ]
     simp only [Option.some.injEq] at D1
     simp only [Option.bind_some, D1, bj, ch]
     cases pA e i <;> cases oB e i <;> rfl
theorem aAh {e : List bk} (h : oA e) (aQ : me e = true) : 1 ≤ e.length ∧ e.length ≤ 4 ∧ ∀ i (au : i < e.length), (0 ≤ e[i].dw ∧ e[i].dw ≤ 3) ∧ q5 e[i].Body = true ∧ kO e[i].Name = true ∧
  ∃ r, ta e e[i] = some r ∧ r.2 = 0 := by
 unfold me at aQ
 rw [Bool.and_eq_true, Bool.and_eq_true, Bool.and_eq_true, decide_eq_true_eq, decide_eq_true_eq, q8, q8, Bool.and_eq_true, Bool.and_eq_true] at aQ
 obtain ⟨⟨⟨ae, ah⟩, ⟨aH, a6⟩, bN⟩, cW⟩ := aQ
 refine ⟨ae, ah, fun i au => ?_⟩
 obtain ⟨r, dK, _, _, _, dc⟩ := Io h ah a6 au
 obtain ⟨s1, s2⟩ := dc (p8.1 cW i au)
 have a_ := p8.1 aH i au
 rw [kr, q7 au] at a_
 exact ⟨Qb a6 i au, s1, a_, r, dK, s2⟩
end Go.e1
