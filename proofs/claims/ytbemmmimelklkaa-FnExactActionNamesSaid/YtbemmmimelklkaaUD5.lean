/- Part of a proof that a law returns true for every input. No condition. -/
import Derived.Test.YtbemmmimelklkaaUD4
namespace Go.eJ
open Go Go.cB
theorem yZ {β : Type} {l : Nat → Int → Option β} {n : Nat} (p : Nat → Bool) (qW bad : Option β) (bh : ∀ m, l (m + 1) (n : Int) = qW)
  (aa : ∀ i, i < n → ∀ m, l (m + 1) (i : Int) = cond (p i) (l m ((i + 1 : Nat) : Int)) bad) : lim (fun m => l m 0) = cond (gP p n) qW bad := by
 rw [o8 (n := n) (fun i => cond ((List.range' i (n - i)).all p) qW bad)]
 ·simp [gP, List.range_eq_range']
 ·intro m; rw [bh]; simp
 ·intro i ak m ih
  rw [aa i ak, ih, show n - i = (n - (i + 1)) + 1 by omega, List.range'_succ]
  cases an : p i <;> simp [an]
def I4 (d : aV) : Prop := d.Name.length ≤ 1048576 ∧ d.Body.length ≤ 1048576 ∧ ∀ p ∈ d.Body, vF p
def ob (b : List bn) : Bool := (decide (1 ≤ b.length) && decide (b.length ≤ 20)) && o_ b 1
theorem I5 {b : List bn} (h : ob b = true) : de b 1 = some b.length ∧ 1 ≤ b.length ∧ b.length ≤ 20 := by
 simp only [ob, CD, Bool.and_eq_true, decide_eq_true_eq, beq_iff_eq] at h
 exact ⟨h.2, h.1.1, h.1.2⟩
def oc (d : aV) (i : Nat) : b0 := (fI d.Body [⟨d.cS, false⟩]).getD i ⟨0, false⟩
theorem agq (d : aV) (h : ob d.Body = true) (an : 0 ≤ d.cS ∧ d.cS ≤ 3) (i : Nat) (ak : i < d.Body.length) :
  sc d (i : Int) = some (oc d i).scope ∧ 0 ≤ (oc d i).scope ∧ (oc d i).scope ≤ 29 ∧
   (oc d i).behind = CI d.Body i ∧
   (fI d.Body [⟨d.cS, false⟩])[i]? = some (oc d i) := by
 obtain ⟨ab, af, aF⟩ := I5 h
 obtain ⟨s, pl, aJ, aP, a_⟩ := I1 d.Body [⟨d.cS, false⟩] d.Body.length ab i ak
 have aa : s = ⟨d.cS, false⟩ := by
  simp only [pa, ab] at aJ
  rw [if_pos ak] at aJ
  exact (Option.some.inj aJ).symm
 subst aa
 have fj : oc d i = pl := by unfold oc; rw [List.getD_eq_getElem?_getD, aP]; rfl
 have al := IX d.Body i
 simp only at a_
 refine ⟨?_, ?_, ?_, ?_, ?_⟩
 ·rw [af8 d (by omega) ab (by omega) i ak, fj, a_]
 ·rw [fj, a_]; omega
 ·rw [fj, a_]; omega
 ·rw [fj]
  exact agc d.Body ⟨d.cS, false⟩ rfl i pl aP
 ·rw [fj]; exact aP
theorem agr (list : List aV) (hl : list.length ≤ 4) (d : aV) (ah : I4 d) (an : 0 ≤ d.cS ∧ d.cS ≤ 3) :
  ∃ r, ql list d = some r ∧ uF list d = some r ∧ 0 ≤ r.2 ∧ (r.2 = 0 → ob d.Body = true) := by
 unfold ql uF iS
 rw [afU _ ah.2.1]
 have CK := afV d ah.2.1 0 (Nat.zero_le _)
 rw [show ((0 : Nat) : Int) = 0 from rfl, List.drop_zero] at CK
 simp only [Option.bind_some]
 have mx : decide ((1 : Int) ≤ (d.Body.length : Int)) = decide (1 ≤ d.Body.length) := decide_eq_decide.2 (by omega)
 have lG : decide ((d.Body.length : Int) ≤ 20) = decide (d.Body.length ≤ 20) := decide_eq_decide.2 (by omega)
 rw [mx, lG]
 show ∃ r, cond (!ob d.Body) _ _ = _ ∧ _
 cases aa : ob d.Body
 ·refine ⟨(0, 1), rfl, ?_, by decide, fun h => by cases h⟩
  cases al : (decide (1 ≤ d.Body.length) && decide (d.Body.length ≤ 20))
  ·rfl
  ·rw [CK]
   have hw : o_ d.Body 1 = false := by
    unfold ob at aa; rw [al, Bool.true_and] at aa; exact aa
   have : (ny 0 (de d.Body 1) != (d.Body.length : Int)) = true := by
    rw [CD] at hw
    cases he : de d.Body 1 with
    | none => simp only [ny, bne_iff_ne]; omega
    | some n =>
      rw [he] at hw
      have cV : n ≠ d.Body.length := fun e => by simp [e] at hw
      simp only [ny, bne_iff_ne]; omega
   simp only [Bool.not_true, cond_false, Option.bind_some, this, cond_true]
 ·obtain ⟨ab, af, aF⟩ := I5 aa
  have al : (decide (1 ≤ d.Body.length) && decide (d.Body.length ≤ 20)) = true := by simp; omega
  have cV : (ny 0 (some d.Body.length) != (d.Body.length : Int)) = false := by simp [ny]
  rw [al, CK, ab]
  simp only [Bool.not_true, cond_false, Option.bind_some, cV]
  rw [af6 d ah.2.1 ab an.1 (by omega)]
  simp only [Option.bind_some]
  have key : ∀ i, i ≤ d.Body.length → ∃ r : Int × Int, (∀ m, d.Body.length - i < m → o1 list d m (i : Int) = some r) ∧
    (∀ m, d.Body.length - i < m → o5 list d (fI d.Body [⟨d.cS, false⟩]) m (i : Int) = some r) ∧ 0 ≤ r.2 := by
   refine down d.Body.length ⟨(0, 0), fun m hm => ?_, fun m hm => ?_, by decide⟩ ?_
   ·obtain ⟨m, rfl⟩ : ∃ j, m = j + 1 := ⟨m - 1, by omega⟩
    simp only [o1, ur]
    rw [fQ (Nat.le_refl _)]; rfl
   ·obtain ⟨m, rfl⟩ : ∃ j, m = j + 1 := ⟨m - 1, by omega⟩
    simp only [o5, uE]
    rw [fQ (Nat.le_refl _)]; rfl
   ·rintro i ak ⟨r, dx, eb, hH⟩
    obtain ⟨ia, bF, dJ, cz, e4⟩ := agq d aa an i ak
    obtain ⟨v, v1, v2, v3⟩ := agj list hl d i ak aF (ah.2.2 _ (List.getElem_mem ak)) (oc d i) ia ⟨bF, dJ⟩ cz
    have bO : b5 (fI d.Body [⟨d.cS, false⟩]) (i : Int) = some (oc d i) := by
     unfold b5; rw [if_pos (by omega)]; exact e4
    by_cases aK : v = 0
    ·subst aK
     refine ⟨r, fun m hm => ?_, fun m hm => ?_, hH⟩
     ·obtain ⟨m, rfl⟩ : ∃ j, m = j + 1 := ⟨m - 1, by omega⟩
      simp only [o1, ur]
      rw [gA ak, v1, gz i _ ak (by omega), ← dx m (by omega)]; rfl
     ·obtain ⟨m, rfl⟩ : ∃ j, m = j + 1 := ⟨m - 1, by omega⟩
      simp only [o5, uE]
      rw [gA ak, fa _ i ak, bO]
      simp only [cond_true, Option.bind_some, v2]
      rw [gz i _ ak (by omega), ← eb m (by omega)]; rfl
    ·have Br : decide (0 < v) = true := decide_eq_true (by omega)
     have y0 : (v != 0) = true := by simpa using aK
     refine ⟨((i : Int), v), fun m hm => ?_, fun m hm => ?_, v3⟩
     ·obtain ⟨m, rfl⟩ : ∃ j, m = j + 1 := ⟨m - 1, by omega⟩
      simp only [o1, ur]
      rw [gA ak, v1]
      simp only [cond_true, Option.bind_some, Br]
     ·obtain ⟨m, rfl⟩ : ∃ j, m = j + 1 := ⟨m - 1, by omega⟩
      simp only [o5, uE]
      rw [gA ak, fa _ i ak, bO]
      simp only [cond_true, Option.bind_some, v2, y0]
  obtain ⟨r, dx, eb, hH⟩ := key 0 (Nat.zero_le _)
  refine ⟨r, ho (d.Body.length + 1) fun m hm => dx m (by omega), ho (d.Body.length + 1) fun m hm => eb m (by omega), hH, fun _ => trivial⟩
def od (d : aV) : Bool := decide (0 ≤ d.cS) && decide (d.cS ≤ 3)
def sP (list : List aV) : Bool := gP (fun i => od (list.getD i ⟨[], 0, []⟩)) list.length
theorem I6 {list : List aV} (h : sP list = true) (i : Nat) (ak : i < list.length) : 0 ≤ list[i].cS ∧ list[i].cS ≤ 3 := by
 have := nw.1 h i ak
 have e : list.getD i ⟨[], 0, []⟩ = list[i] := by simp [List.getD, ak]
 rw [e] at this
 simpa [od] using this
theorem ags (list : List aV) (hl : list.length ≤ 1048576) : xM list = some (sP list) := by
 unfold xM BD BC
 rw [CB (n := list.length) (fun i => !od (list.getD i ⟨[], 0, []⟩))]
 ·simp only [Option.bind_some, CA, Bool.not_not]; rfl
 ·intro m
  simp only [sk, xL]
  rw [fQ (Nat.le_refl _)]; rfl
 ·intro i ak m
  simp only [sk, xL]
  rw [gA ak, Cv _ i ⟨[], 0, []⟩ ak, gz i _ ak (by omega)]
  simp only [cond_true, Option.bind_some, BB, iS]
  rfl
def pc (list : List aV) : Prop := list.length ≤ 1048576 ∧ ∀ d ∈ list, I4 d
end Go.eJ
