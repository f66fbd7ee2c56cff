/- Part of a proof that a law returns true for every input. No condition. -/
import Derived.Test.YtbemmmimelklkaaGreatUD4
namespace Go.eR
open Go Go.c5
theorem tH {β : Type} {l : Nat → Int → Option β} {n : Nat} (p : Nat → Bool) (o0 bad : Option β) (bc : ∀ m, l (m + 1) (n : Int) = o0)
  (ah : ∀ i, i < n → ∀ m, l (m + 1) (i : Int) = cond (p i) (l m ((i + 1 : Nat) : Int)) bad) : lim (fun m => l m 0) = cond (fJ p n) o0 bad := by
 rw [rD (n := n) (fun i => cond ((List.range' i (n - i)).all p) o0 bad)]
 ·simp [fJ, List.range_eq_range']
 ·intro m; rw [bc]; simp
 ·intro i ao m ih
  rw [ah i ao, ih, show n - i = (n - (i + 1)) + 1 by omega, List.range'_succ]
  cases aA : p i <;> simp [aA]
def O_ (d : bg) : Prop := d.Name.length ≤ 1048576 ∧ d.Body.length ≤ 1048576 ∧ ∀ p ∈ d.Body, zr p
def qA (b : List bE) : Bool := (decide (1 ≤ b.length) && decide (b.length ≤ 20)) && rK b 1
theorem Pa {b : List bE} (h : qA b = true) : ej b 1 = some b.length ∧ 1 ≤ b.length ∧ b.length ≤ 20 := by
 simp only [qA, Hw, Bool.and_eq_true, decide_eq_true_eq, beq_iff_eq] at h
 exact ⟨h.2, h.1.1, h.1.2⟩
def qB (d : bg) (i : Nat) : cx := (gQ d.Body [⟨d.dj, false⟩]).getD i ⟨0, false⟩
theorem awr (d : bg) (h : qA d.Body = true) (aA : 0 ≤ d.dj ∧ d.dj ≤ 3) (i : Nat) (ao : i < d.Body.length) :
  vj d (i : Int) = some (qB d i).scope ∧ 0 ≤ (qB d i).scope ∧ (qB d i).scope ≤ 29 ∧
   (qB d i).behind = HB d.Body i ∧
   (gQ d.Body [⟨d.dj, false⟩])[i]? = some (qB d i) := by
 obtain ⟨af, ai, aN⟩ := Pa h
 obtain ⟨s, pl, a1, bh, a8⟩ := O5 d.Body [⟨d.dj, false⟩] d.Body.length af i ao
 have ah : s = ⟨d.dj, false⟩ := by
  simp only [rL, af] at a1
  rw [if_pos ao] at a1
  exact (Option.some.inj a1).symm
 subst ah
 have gz : qB d i = pl := by unfold qB; rw [List.getD_eq_getElem?_getD, bh]; rfl
 have ay := O1 d.Body i
 simp only at a8
 refine ⟨?_, ?_, ?_, ?_, ?_⟩
 ·rw [awb d (by omega) af (by omega) i ao, gz, a8]
 ·rw [gz, a8]; omega
 ·rw [gz, a8]; omega
 ·rw [gz]
  exact awg d.Body ⟨d.dj, false⟩ rfl i pl bh
 ·rw [gz]; exact bh
theorem aws (list : List bg) (hl : list.length ≤ 4) (d : bg) (ak : O_ d) (aA : 0 ≤ d.dj ∧ d.dj ≤ 3) :
  ∃ r, rh list d = some r ∧ yl list d = some r ∧ 0 ≤ r.2 ∧ (r.2 = 0 → qA d.Body = true) := by
 unfold rh yl jt
 rw [avY _ ak.2.1]
 have HD := avZ d ak.2.1 0 (Nat.zero_le _)
 rw [show ((0 : Nat) : Int) = 0 from rfl, List.drop_zero] at HD
 simp only [Option.bind_some]
 have mV : decide ((1 : Int) ≤ (d.Body.length : Int)) = decide (1 ≤ d.Body.length) := decide_eq_decide.2 (by omega)
 have me : decide ((d.Body.length : Int) ≤ 20) = decide (d.Body.length ≤ 20) := decide_eq_decide.2 (by omega)
 rw [mV, me]
 show ∃ r, cond (!qA d.Body) _ _ = _ ∧ _
 cases ah : qA d.Body
 ·refine ⟨(0, 1), rfl, ?_, by decide, fun h => by cases h⟩
  cases ay : (decide (1 ≤ d.Body.length) && decide (d.Body.length ≤ 20))
  ·rfl
  ·rw [HD]
   have hw : rK d.Body 1 = false := by
    unfold qA at ah; rw [ay, Bool.true_and] at ah; exact ah
   have : (pI 0 (ej d.Body 1) != (d.Body.length : Int)) = true := by
    rw [Hw] at hw
    cases he : ej d.Body 1 with
    | none => simp only [pI, bne_iff_ne]; omega
    | some n =>
      rw [he] at hw
      have dB : n ≠ d.Body.length := fun e => by simp [e] at hw
      simp only [pI, bne_iff_ne]; omega
   simp only [Bool.not_true, cond_false, Option.bind_some, this, cond_true]
 ·obtain ⟨af, ai, aN⟩ := Pa ah
  have ay : (decide (1 ≤ d.Body.length) && decide (d.Body.length ≤ 20)) = true := by simp; omega
  have dB : (pI 0 (some d.Body.length) != (d.Body.length : Int)) = false := by simp [pI]
  rw [ay, HD, af]
  simp only [Bool.not_true, cond_false, Option.bind_some, dB]
  rw [av_ d ak.2.1 af aA.1 (by omega)]
  simp only [Option.bind_some]
  have key : ∀ i, i ≤ d.Body.length → ∃ r : Int × Int, (∀ m, d.Body.length - i < m → pv list d m (i : Int) = some r) ∧
    (∀ m, d.Body.length - i < m → rn list d (gQ d.Body [⟨d.dj, false⟩]) m (i : Int) = some r) ∧ 0 ≤ r.2 := by
   refine down d.Body.length ⟨(0, 0), fun m hm => ?_, fun m hm => ?_, by decide⟩ ?_
   ·obtain ⟨m, rfl⟩ : ∃ j, m = j + 1 := ⟨m - 1, by omega⟩
    simp only [pv, vl]
    rw [fa (Nat.le_refl _)]; rfl
   ·obtain ⟨m, rfl⟩ : ∃ j, m = j + 1 := ⟨m - 1, by omega⟩
    simp only [rn, yk]
    rw [fa (Nat.le_refl _)]; rfl
   ·rintro i ao ⟨r, df, ea, gU⟩
    obtain ⟨iN, bw, dP, cj, dV⟩ := awr d ah aA i ao
    obtain ⟨v, v1, v2, v3⟩ := awl list hl d i ao aN (ak.2.2 _ (List.getElem_mem ao)) (qB d i) iN ⟨bw, dP⟩ cj
    have cg : bQ (gQ d.Body [⟨d.dj, false⟩]) (i : Int) = some (qB d i) := by
     unfold bQ; rw [if_pos (by omega)]; exact dV
    by_cases aR : v = 0
    ·subst aR
     refine ⟨r, fun m hm => ?_, fun m hm => ?_, gU⟩
     ·obtain ⟨m, rfl⟩ : ∃ j, m = j + 1 := ⟨m - 1, by omega⟩
      simp only [pv, vl]
      rw [fB ao, v1, fA i _ ao (by omega), ← df m (by omega)]; rfl
     ·obtain ⟨m, rfl⟩ : ∃ j, m = j + 1 := ⟨m - 1, by omega⟩
      simp only [rn, yk]
      rw [fB ao, gx _ i ao, cg]
      simp only [cond_true, Option.bind_some, v2]
      rw [fA i _ ao (by omega), ← ea m (by omega)]; rfl
    ·have F4 : decide (0 < v) = true := decide_eq_true (by omega)
     have DD : (v != 0) = true := by simpa using aR
     refine ⟨((i : Int), v), fun m hm => ?_, fun m hm => ?_, v3⟩
     ·obtain ⟨m, rfl⟩ : ∃ j, m = j + 1 := ⟨m - 1, by omega⟩
      simp only [pv, vl]
      rw [fB ao, v1]
      simp only [cond_true, Option.bind_some, F4]
     ·obtain ⟨m, rfl⟩ : ∃ j, m = j + 1 := ⟨m - 1, by omega⟩
      simp only [rn, yk]
      rw [fB ao, gx _ i ao, cg]
      simp only [cond_true, Option.bind_some, v2, DD]
  obtain ⟨r, df, ea, gU⟩ := key 0 (Nat.zero_le _)
  refine ⟨r, hP (d.Body.length + 1) fun m hm => df m (by omega), hP (d.Body.length + 1) fun m hm => ea m (by omega), gU, fun _ => trivial⟩
def qC (d : bg) : Bool := decide (0 ≤ d.dj) && decide (d.dj ≤ 3)
def wv (list : List bg) : Bool := fJ (fun i => qC (list.getD i ⟨[], 0, []⟩)) list.length
theorem Pb {list : List bg} (h : wv list = true) (i : Nat) (ao : i < list.length) : 0 ≤ list[i].dj ∧ list[i].dj ≤ 3 := by
 have := oT.1 h i ao
 have e : list.getD i ⟨[], 0, []⟩ = list[i] := by simp [List.getD, ao]
 rw [e] at this
 simpa [qC] using this
theorem awt (list : List bg) (hl : list.length ≤ 1048576) : BT list = some (wv list) := by
 unfold BT Ge Gd
 rw [wh (n := list.length) (fun i => !qC (list.getD i ⟨[], 0, []⟩))]
 ·simp only [Option.bind_some, wg, Bool.not_not]; rfl
 ·intro m
  simp only [vr, BS]
  rw [fa (Nat.le_refl _)]; rfl
 ·intro i ao m
  simp only [vr, BS]
  rw [fB ao, l9 _ i ⟨[], 0, []⟩ ao, fA i _ ao (by omega)]
  simp only [cond_true, Option.bind_some, Gc, jt]
  rfl
def tI (list : List bg) : Prop := list.length ≤ 1048576 ∧ ∀ d ∈ list, O_ d
end Go.eR
