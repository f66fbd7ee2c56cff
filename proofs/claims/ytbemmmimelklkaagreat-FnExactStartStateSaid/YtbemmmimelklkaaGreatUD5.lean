/- Part of a proof that a law returns true for every input. No condition. -/
import Derived.Test.YtbemmmimelklkaaGreatUD4
namespace Go.f_
open Go Go.dk
theorem sO {β : Type} {l : Nat → Int → Option β} {n : Nat} (p : Nat → Bool) (ot bad : Option β) (a9 : ∀ m, l (m + 1) (n : Int) = ot)
  (ah : ∀ i, i < n → ∀ m, l (m + 1) (i : Int) = cond (p i) (l m ((i + 1 : Nat) : Int)) bad) : cV (fun m => l m 0) = cond (fI p n) ot bad := by
 rw [sE (n := n) (fun i => cond ((List.range' i (n - i)).all p) ot bad)]
 ·simp [fI, List.range_eq_range']
 ·intro m; rw [a9]; simp
 ·intro i au m ih
  rw [ah i au, ih, show n - i = (n - (i + 1)) + 1 by omega, List.range'_succ]
  cases ax : p i <;> simp [ax]
def MT (d : bb) : Prop := d.Name.length ≤ 1048576 ∧ d.Body.length ≤ 1048576 ∧ ∀ p ∈ d.Body, ya p
def pN (b : List bz) : Bool := (decide (1 ≤ b.length) && decide (b.length ≤ 20)) && qN b 1
theorem MU {b : List bz} (h : pN b = true) : en b 1 = some b.length ∧ 1 ≤ b.length ∧ b.length ≤ 20 := by
 simp only [pN, FP, Bool.and_eq_true, decide_eq_true_eq, beq_iff_eq] at h
 exact ⟨h.2, h.1.1, h.1.2⟩
def pO (d : bb) (i : Nat) : cn := (gN d.Body [⟨d.dc, false⟩]).getD i ⟨0, false⟩
theorem atV (d : bb) (h : pN d.Body = true) (ax : 0 ≤ d.dc ∧ d.dc ≤ 3) (i : Nat) (au : i < d.Body.length) :
  uo d (i : Int) = some (pO d i).scope ∧ 0 ≤ (pO d i).scope ∧ (pO d i).scope ≤ 29 ∧
   (pO d i).behind = FV d.Body i ∧
   (gN d.Body [⟨d.dc, false⟩])[i]? = some (pO d i) := by
 obtain ⟨ai, aj, aQ⟩ := MU h
 obtain ⟨s, pl, a4, a_, a2⟩ := MO d.Body [⟨d.dc, false⟩] d.Body.length ai i au
 have ah : s = ⟨d.dc, false⟩ := by
  simp only [qO, ai] at a4
  rw [if_pos au] at a4
  exact (Option.some.inj a4).symm
 subst ah
 have gq : pO d i = pl := by unfold pO; rw [List.getD_eq_getElem?_getD, a_]; rfl
 have ay := MK d.Body i
 simp only at a2
 refine ⟨?_, ?_, ?_, ?_, ?_⟩
 ·rw [atE d (by omega) ai (by omega) i au, gq, a2]
 ·rw [gq, a2]; omega
 ·rw [gq, a2]; omega
 ·rw [gq]
  exact atJ d.Body ⟨d.dc, false⟩ rfl i pl a_
 ·rw [gq]; exact a_
theorem atW (list : List bb) (hl : list.length ≤ 4) (d : bb) (al : MT d) (ax : 0 ≤ d.dc ∧ d.dc ≤ 3) :
  ∃ r, rV list d = some r ∧ w4 list d = some r ∧ 0 ≤ r.2 ∧ (r.2 = 0 → pN d.Body = true) := by
 unfold rV w4 jc
 rw [atq _ al.2.1]
 have FX := atr d al.2.1 0 (Nat.zero_le _)
 rw [show ((0 : Nat) : Int) = 0 from rfl, List.drop_zero] at FX
 simp only [Option.bind_some]
 have mr : decide ((1 : Int) ≤ (d.Body.length : Int)) = decide (1 ≤ d.Body.length) := decide_eq_decide.2 (by omega)
 have lQ : decide ((d.Body.length : Int) ≤ 20) = decide (d.Body.length ≤ 20) := decide_eq_decide.2 (by omega)
 rw [mr, lQ]
 show ∃ r, cond (!pN d.Body) _ _ = _ ∧ _
 cases ah : pN d.Body
 ·refine ⟨(0, 1), rfl, ?_, by decide, fun h => by cases h⟩
  cases ay : (decide (1 ≤ d.Body.length) && decide (d.Body.length ≤ 20))
  ·rfl
  ·rw [FX]
   have hw : qN d.Body 1 = false := by
    unfold pN at ah; rw [ay, Bool.true_and] at ah; exact ah
   have : (o6 0 (en d.Body 1) != (d.Body.length : Int)) = true := by
    rw [FP] at hw
    cases he : en d.Body 1 with
    | none => simp only [o6, bne_iff_ne]; omega
    | some n =>
      rw [he] at hw
      have eg : n ≠ d.Body.length := fun e => by simp [e] at hw
      simp only [o6, bne_iff_ne]; omega
   simp only [Bool.not_true, cond_false, Option.bind_some, this, cond_true]
 ·obtain ⟨ai, aj, aQ⟩ := MU ah
  have ay : (decide (1 ≤ d.Body.length) && decide (d.Body.length ≤ 20)) = true := by simp; omega
  have eg : (o6 0 (some d.Body.length) != (d.Body.length : Int)) = false := by simp [o6]
  rw [ay, FX, ai]
  simp only [Bool.not_true, cond_false, Option.bind_some, eg]
  rw [atC d al.2.1 ai ax.1 (by omega)]
  simp only [Option.bind_some]
  have key : ∀ i, i ≤ d.Body.length → ∃ r : Int × Int, (∀ m, d.Body.length - i < m → qu list d m (i : Int) = some r) ∧
    (∀ m, d.Body.length - i < m → qx list d (gN d.Body [⟨d.dc, false⟩]) m (i : Int) = some r) ∧ 0 ≤ r.2 := by
   refine down d.Body.length ⟨(0, 0), fun m hm => ?_, fun m hm => ?_, by decide⟩ ?_
   ·obtain ⟨m, rfl⟩ : ∃ j, m = j + 1 := ⟨m - 1, by omega⟩
    simp only [qu, wP]
    rw [fH (Nat.le_refl _)]; rfl
   ·obtain ⟨m, rfl⟩ : ∃ j, m = j + 1 := ⟨m - 1, by omega⟩
    simp only [qx, w3]
    rw [fH (Nat.le_refl _)]; rfl
   ·rintro i au ⟨r, dX, eS, h6⟩
    obtain ⟨i9, bj, dO, b9, dJ⟩ := atV d ah ax i au
    obtain ⟨v, v1, v2, ts⟩ := atO list hl d i au aQ (al.2.2 _ (List.getElem_mem au)) (pO d i) i9 ⟨bj, dO⟩ b9
    have b8 : bM (gN d.Body [⟨d.dc, false⟩]) (i : Int) = some (pO d i) := by
     unfold bM; rw [if_pos (by omega)]; exact dJ
    by_cases a3 : v = 0
    ·subst a3
     refine ⟨r, fun m hm => ?_, fun m hm => ?_, h6⟩
     ·obtain ⟨m, rfl⟩ : ∃ j, m = j + 1 := ⟨m - 1, by omega⟩
      simp only [qu, wP]
      rw [gM au, v1, gL i _ au (by omega), ← dX m (by omega)]; rfl
     ·obtain ⟨m, rfl⟩ : ∃ j, m = j + 1 := ⟨m - 1, by omega⟩
      simp only [qx, w3]
      rw [gM au, h2 _ i au, b8]
      simp only [cond_true, Option.bind_some, v2]
      rw [gL i _ au (by omega), ← eS m (by omega)]; rfl
    ·have Em : decide (0 < v) = true := decide_eq_true (by omega)
     have B5 : (v != 0) = true := by simpa using a3
     refine ⟨((i : Int), v), fun m hm => ?_, fun m hm => ?_, ts⟩
     ·obtain ⟨m, rfl⟩ : ∃ j, m = j + 1 := ⟨m - 1, by omega⟩
      simp only [qu, wP]
      rw [gM au, v1]
      simp only [cond_true, Option.bind_some, Em]
     ·obtain ⟨m, rfl⟩ : ∃ j, m = j + 1 := ⟨m - 1, by omega⟩
      simp only [qx, w3]
      rw [gM au, h2 _ i au, b8]
      simp only [cond_true, Option.bind_some, v2, B5]
  obtain ⟨r, dX, eS, h6⟩ := key 0 (Nat.zero_le _)
  refine ⟨r, iS (d.Body.length + 1) fun m hm => dX m (by omega), iS (d.Body.length + 1) fun m hm => eS m (by omega), h6, fun _ => trivial⟩
def pP (d : bb) : Bool := decide (0 ≤ d.dc) && decide (d.dc ≤ 3)
def u5 (list : List bb) : Bool := fI (fun i => pP (list.getD i ⟨[], 0, []⟩)) list.length
theorem MV {list : List bb} (h : u5 list = true) (i : Nat) (au : i < list.length) : 0 ≤ list[i].dc ∧ list[i].dc ≤ 3 := by
 have := o3.1 h i au
 have e : list.getD i ⟨[], 0, []⟩ = list[i] := by simp [List.getD, au]
 rw [e] at this
 simpa [pP] using this
theorem atX (list : List bb) (hl : list.length ≤ 1048576) : Ao list = some (u5 list) := by
 unfold Ao Ey Ex
 rw [uW (n := list.length) (fun i => !pP (list.getD i ⟨[], 0, []⟩))]
 ·simp only [Option.bind_some, uV, Bool.not_not]; rfl
 ·intro m
  simp only [ur, An]
  rw [fH (Nat.le_refl _)]; rfl
 ·intro i au m
  simp only [ur, An]
  rw [gM au, lL _ i ⟨[], 0, []⟩ au, gL i _ au (by omega)]
  simp only [cond_true, Option.bind_some, Ew, jc]
  rfl
def sP (list : List bb) : Prop := list.length ≤ 1048576 ∧ ∀ d ∈ list, MT d
end Go.f_
