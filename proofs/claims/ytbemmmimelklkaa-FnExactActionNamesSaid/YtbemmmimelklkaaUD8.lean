/- Part of a proof that a law returns true for every input. No condition. -/
import Derived.Test.YtbemmmimelklkaaUD6
namespace Go.eJ
open Go Go.cB
def iF (e : List aV) (i : Nat) : List UInt8 := (e.getD i ⟨[], 0, []⟩).Name
theorem oe {e : List aV} {i : Nat} (ak : i < e.length) : e.getD i ⟨[], 0, []⟩ = e[i] := by simp [List.getD, ak]
def m0 (e : List aV) (i : Nat) : Bool := gP (fun j => !(iF e j == iF e i)) i
noncomputable def mf (e : List aV) (i : Nat) : Bool := match ql e (e.getD i ⟨[], 0, []⟩) with
 | some r => r.2 == 0
 | none => false
noncomputable def pd (e : List aV) : Bool := ((decide (1 ≤ e.length) && decide (e.length ≤ 4)) && gP (fun i => (jb (iF e i) && od (e.getD i ⟨[], 0, []⟩)) && m0 e i) e.length) && gP (mf e) e.length
theorem CL {e : List aV} (h : pc e) (bb : e.length ≤ 4) (an : sP e = true) {i : Nat} (ak : i < e.length) :
  ∃ r, ql e e[i] = some r ∧ uF e e[i] = some r ∧ decide (0 < r.2) = !(mf e i) ∧ (r.2 != 0) = !(mf e i) ∧ (mf e i = true → ob e[i].Body = true ∧ r.2 = 0) := by
 obtain ⟨r, dx, eb, hH, jW⟩ := agr e bb e[i] (h.2 _ (List.getElem_mem ak)) (I6 an i ak)
 have U : mf e i = (r.2 == 0) := by unfold mf; rw [oe ak, dx]
 refine ⟨r, dx, eb, ?_, ?_, fun jz => ?_⟩
 ·rw [U]
  by_cases bh : r.2 = 0
  ·rw [bh]; rfl
  ·have aJ : (r.2 == 0) = false := by simpa using bh
   rw [aJ]; exact decide_eq_true (by omega)
 ·rw [U]; rfl
 ·rw [U] at jz
  have bh : r.2 = 0 := by simpa using jz
  exact ⟨jW bh, bh⟩
theorem pe {p q : Nat → Bool} {n : Nat} : gP (fun i => p i && q i) n = (gP p n && gP q n) := by
 rw [Bool.eq_iff_iff, Bool.and_eq_true, nw, nw, nw]
 constructor
 ·intro h; exact ⟨fun i ak => ((Bool.and_eq_true _ _).mp (h i ak)).1, fun i ak => ((Bool.and_eq_true _ _).mp (h i ak)).2⟩
 ·rintro ⟨ab, af⟩ i ak; rw [ab i ak, af i ak]; rfl
theorem agt (e : List aV) (h : pc e) : xB e = some (pd e) := by
 unfold xB pd
 by_cases hl : 1 ≤ e.length ∧ e.length ≤ 4
 ·have d1 : (((e.length : Int) == 0) || decide ((4 : Int) < (e.length : Int))) = false := by
   rw [Bool.or_eq_false_iff, beq_eq_false_iff_ne, decide_eq_false_iff_not]; omega
  have d2 : (decide (1 ≤ e.length) && decide (e.length ≤ 4)) = true := by simp; omega
  rw [d1, d2, cond_false, Bool.true_and]
  rw [yZ (l := fun m i => l5 e m i) (n := e.length) (fun i => (jb (iF e i) && od (e.getD i ⟨[], 0, []⟩)) && m0 e i) (lim fun n => o2 e n 0) (some false)]
  ·cases b7 : gP (fun i => (jb (iF e i) && od (e.getD i ⟨[], 0, []⟩)) && m0 e i) e.length
   ·rfl
   ·have an : sP e = true := by
     rw [pe, pe, Bool.and_eq_true, Bool.and_eq_true] at b7
     exact b7.1.2
    rw [cond_true, Bool.true_and]
    rw [yZ (l := fun m i => o2 e m i) (n := e.length) (mf e) (some true) (some false)]
    ·cases gP (mf e) e.length <;> rfl
    ·intro m
     simp only [o2, xz]
     rw [fQ (Nat.le_refl _)]; rfl
    ·intro i ak m
     obtain ⟨r, dx, _, hH, _⟩ := CL h hl.2 an ak
     simp only [o2, xz]
     rw [gA ak, fa _ i ak, gz i _ ak (by omega)]
     simp only [cond_true, Option.bind_some, dx, hH]
     cases mf e i <;> rfl
  ·intro m
   simp only [l5, xA]
   rw [fQ (Nat.le_refl _)]; rfl
  ·intro i ak m
   simp only [l5, xA]
   rw [gA ak, fa _ i ak]
   simp only [cond_true, Option.bind_some, IG, kT]
   rw [yZ (l := fun hs j => qm (l5 e m) e hs (i : Int) j) (n := i) (fun j => !(iF e j == iF e i)) (l5 e m ((i + 1 : Nat) : Int)) (some false)]
   ·have aJ : iF e i = e[i].Name := by unfold iF; rw [oe ak]
    rw [← aJ, oe ak]
    show cond (!jb (iF e i)) _ (cond (!od e[i]) _ (cond (m0 e i) _ _)) = _
    cases jb (iF e i) <;> cases od e[i] <;> cases m0 e i <;> rfl
   ·intro hs
    simp only [qm, xy]
    rw [fQ (Nat.le_refl _), gz i _ ak (by omega)]; rfl
   ·intro j bS hs
    have y1 : j < e.length := by omega
    simp only [qm, xy]
    rw [gA bS, fa _ j y1, fa _ i ak, gz j _ bS (by omega)]
    simp only [cond_true, Option.bind_some, iF, oe ak, oe y1]
    cases e[j].Name == e[i].Name <;> rfl
 ·have d1 : (((e.length : Int) == 0) || decide ((4 : Int) < (e.length : Int))) = true := by
   by_cases bh : e.length = 0
   ·simp [bh]
   ·have : decide ((4 : Int) < (e.length : Int)) = true := decide_eq_true (by omega)
    rw [this, Bool.or_true]
  have d2 : (decide (1 ≤ e.length) && decide (e.length ≤ 4)) = false := by
   rw [Bool.and_eq_false_iff, decide_eq_false_iff_not, decide_eq_false_iff_not]; omega
  rw [d1, d2]; rfl
theorem agu (e : List aV) (i : Nat) (ak : i < e.length) (bb : e.length ≤ 4) : ((hS e 0 (i : Int)).bind fun bP => (xO bP e[i].Name).bind fun cN => some (decide (0 ≤ cN))) = some (!(m0 e i)) := by
 rw [Io e i (by omega)]
 simp only [Option.bind_some]
 unfold xO BG
 have hlen : (e.take i).length = i := by rw [List.length_take]; omega
 rw [CB (n := i) (fun j => iF e j == iF e i)]
 ·simp only [Option.bind_some, CA]; rfl
 ·intro m
  simp only [sl, xN]
  rw [hlen, fQ (Nat.le_refl _)]; rfl
 ·intro j bS m
  have y1 : j < e.length := by omega
  simp only [sl, xN]
  rw [hlen, gA bS, fa _ j (by omega), gz j _ bS (by omega)]
  have : (e.take i)[j]'(by omega) = e[j] := by simp
  simp only [cond_true, Option.bind_some, BF, this, iF, oe ak, oe y1]
theorem agv (e : List aV) (h : pc e) : x2 e = some (pd e) := by
 unfold x2 iS pd
 have mx : decide ((1 : Int) ≤ (e.length : Int)) = decide (1 ≤ e.length) := decide_eq_decide.2 (by omega)
 have lG : decide ((e.length : Int) ≤ 4) = decide (e.length ≤ 4) := decide_eq_decide.2 (by omega)
 simp only [Option.bind_some]
 rw [mx, lG]
 cases hl : (decide (1 ≤ e.length) && decide (e.length ≤ 4))
 ·rfl
 ·have jc : 1 ≤ e.length ∧ e.length ≤ 4 := by simpa using hl
  rw [ags e h.1]
  simp only [Bool.not_true, cond_false, Option.bind_some, Bool.true_and]
  have agw : gP (fun i => (jb (iF e i) && od (e.getD i ⟨[], 0, []⟩)) && m0 e i) e.length = ((gP (fun i => jb (iF e i)) e.length && sP e) && gP (m0 e) e.length) := by
   rw [pe, pe]; rfl
  rw [agw]
  cases an : sP e
  ·simp
  ·simp only [Bool.not_true, cond_false, Bool.and_true]
   rw [yZ (l := fun m i => qt e m i) (n := e.length) (fun i => (jb (iF e i) && m0 e i) && mf e i) (some true) (some false)]
   ·rw [pe, pe]
    cases ((gP (fun i => jb (iF e i)) e.length && gP (fun i => m0 e i) e.length) && gP (fun i => mf e i) e.length) <;> rfl
   ·intro m
    simp only [qt, x1]
    rw [fQ (Nat.le_refl _)]; rfl
   ·intro i ak m
    obtain ⟨r, _, eb, _, jW, _⟩ := CL h jc.2 an ak
    have bl := agu e i ak jc.2
    have aiT := (h.2 _ (List.getElem_mem ak)).1
    simp only [qt, x1]
    rw [gA ak, fa _ i ak, gz i _ ak (by omega)]
    simp only [cond_true, Option.bind_some, IH _ (show e[i].Name.length ≤ 140737488355328 by omega), iF, oe ak]
    cases jb e[i].Name
    ·rfl
    ·simp only [Bool.not_true, cond_false, Bool.true_and]
     rw [Io e i (by omega)] at bl ⊢
     simp only [Option.bind_some] at bl ⊢
     obtain ⟨v, aK, y0⟩ := aW bl
     rw [aK]
     simp only [Option.some.injEq] at y0
     simp only [Option.bind_some, y0, eb, jW]
     cases m0 e i <;> cases mf e i <;> rfl
theorem aiU {e : List aV} (h : pc e) (aK : pd e = true) : 1 ≤ e.length ∧ e.length ≤ 4 ∧ ∀ i (ak : i < e.length), (0 ≤ e[i].cS ∧ e[i].cS ≤ 3) ∧ ob e[i].Body = true ∧ jb e[i].Name = true ∧
  ∃ r, ql e e[i] = some r ∧ r.2 = 0 := by
 unfold pd at aK
 rw [Bool.and_eq_true, Bool.and_eq_true, Bool.and_eq_true, decide_eq_true_eq, decide_eq_true_eq, pe, pe, Bool.and_eq_true, Bool.and_eq_true] at aK
 obtain ⟨⟨⟨ab, af⟩, ⟨aF, bb⟩, bV⟩, cd⟩ := aK
 refine ⟨ab, af, fun i ak => ?_⟩
 obtain ⟨r, dx, _, _, _, zq⟩ := CL h af bb ak
 obtain ⟨s1, s2⟩ := zq (nw.1 cd i ak)
 have bl := nw.1 aF i ak
 rw [iF, oe ak] at bl
 exact ⟨I6 bb i ak, s1, bl, r, dx, s2⟩
end Go.eJ
