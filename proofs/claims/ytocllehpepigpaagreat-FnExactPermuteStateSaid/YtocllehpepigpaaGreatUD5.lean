/- Part of a proof that a law returns true for every input. No condition. -/
import Derived.Test.YtocllehpepigpaaGreatUD4
namespace Go.e1
open Go Go.dg
theorem ur {β : Type} {l : Nat → Int → Option β} {n : Nat} (p : Nat → Bool) (pz bad : Option β) (bf : ∀ m, l (m + 1) (n : Int) = pz)
  (af : ∀ i, i < n → ∀ m, l (m + 1) (i : Int) = cond (p i) (l m ((i + 1 : Nat) : Int)) bad) : lim (fun m => l m 0) = cond (fL p n) pz bad := by
 rw [uc (n := n) (fun i => cond ((List.range' i (n - i)).all p) pz bad)]
 ·simp [fL, List.range_eq_range']
 ·intro m; rw [bf]; simp
 ·intro i au m ih
  rw [af i au, ih, show n - i = (n - (i + 1)) + 1 by omega, List.range'_succ]
  cases az : p i <;> simp [az]
def P_ (d : bk) : Prop := d.Name.length ≤ 1048576 ∧ d.Body.length ≤ 1048576 ∧ ∀ p ∈ d.Body, zQ p
def q5 (b : List bJ) : Bool := (decide (1 ≤ b.length) && decide (b.length ≤ 20)) && r6 b 1
theorem Il {b : List bJ} (h : q5 b = true) : eE b 1 = some b.length ∧ 1 ≤ b.length ∧ b.length ≤ 20 := by
 simp only [q5, Ic, Bool.and_eq_true, decide_eq_true_eq, beq_iff_eq] at h
 exact ⟨h.2, h.1.1, h.1.2⟩
def oz (d : bk) (i : Nat) : cM := (hs d.Body [⟨d.dw, false⟩]).getD i ⟨0, false⟩
theorem Qa (d : bk) (h : q5 d.Body = true) (az : 0 ≤ d.dw ∧ d.dw ≤ 3) (i : Nat) (au : i < d.Body.length) :
  rN d (i : Int) = some (oz d i).scope ∧ 0 ≤ (oz d i).scope ∧ (oz d i).scope ≤ 29 ∧
   (oz d i).behind = Ij d.Body i ∧
   (hs d.Body [⟨d.dw, false⟩])[i]? = some (oz d i) := by
 obtain ⟨ae, ah, aH⟩ := Il h
 obtain ⟨s, pl, aU, ba, aW⟩ := P6 d.Body [⟨d.dw, false⟩] d.Body.length ae i au
 have af : s = ⟨d.dw, false⟩ := by
  simp only [r7, ae] at aU
  rw [if_pos au] at aU
  exact (Option.some.inj aU).symm
 subst af
 have gG : oz d i = pl := by unfold oz; rw [List.getD_eq_getElem?_getD, ba]; rfl
 have ax := P2 d.Body i
 simp only at aW
 refine ⟨?_, ?_, ?_, ?_, ?_⟩
 ·rw [azW d (by omega) ae (by omega) i au, gG, aW]
 ·rw [gG, aW]; omega
 ·rw [gG, aW]; omega
 ·rw [gG]
  exact az1 d.Body ⟨d.dw, false⟩ rfl i pl ba
 ·rw [gG]; exact ba
theorem aAb (list : List bk) (hl : list.length ≤ 4) (d : bk) (aj : P_ d) (az : 0 ≤ d.dw ∧ d.dw ≤ 3) :
  ∃ r, ta list d = some r ∧ yW list d = some r ∧ 0 ≤ r.2 ∧ (r.2 = 0 → q5 d.Body = true) := by
 unfold ta yW jQ
 rw [azJ _ aj.2.1]
 have Im := azK d aj.2.1 0 (Nat.zero_le _)
 rw [show ((0 : Nat) : Int) = 0 from rfl, List.drop_zero] at Im
 simp only [Option.bind_some]
 have nq : decide ((1 : Int) ≤ (d.Body.length : Int)) = decide (1 ≤ d.Body.length) := decide_eq_decide.2 (by omega)
 have mK : decide ((d.Body.length : Int) ≤ 20) = decide (d.Body.length ≤ 20) := decide_eq_decide.2 (by omega)
 rw [nq, mK]
 show ∃ r, cond (!q5 d.Body) _ _ = _ ∧ _
 cases af : q5 d.Body
 ·refine ⟨(0, 1), rfl, ?_, by decide, fun h => by cases h⟩
  cases ax : (decide (1 ≤ d.Body.length) && decide (d.Body.length ≤ 20))
  ·rfl
  ·rw [Im]
   have hw : r6 d.Body 1 = false := by
    unfold q5 at af; rw [ax, Bool.true_and] at af; exact af
   have : (qa 0 (eE d.Body 1) != (d.Body.length : Int)) = true := by
    rw [Ic] at hw
    cases he : eE d.Body 1 with
    | none => simp only [qa, bne_iff_ne]; omega
    | some n =>
      rw [he] at hw
      have dL : n ≠ d.Body.length := fun e => by simp [e] at hw
      simp only [qa, bne_iff_ne]; omega
   simp only [Bool.not_true, cond_false, Option.bind_some, this, cond_true]
 ·obtain ⟨ae, ah, aH⟩ := Il af
  have ax : (decide (1 ≤ d.Body.length) && decide (d.Body.length ≤ 20)) = true := by simp; omega
  have dL : (qa 0 (some d.Body.length) != (d.Body.length : Int)) = false := by simp [qa]
  rw [ax, Im, ae]
  simp only [Bool.not_true, cond_false, Option.bind_some, dL]
  rw [P1 d aj.2.1 ae az.1 (by omega)]
  simp only [Option.bind_some]
  have key : ∀ i, i ≤ d.Body.length → ∃ r : Int × Int, (∀ m, d.Body.length - i < m → rP list d m (i : Int) = some r) ∧
    (∀ m, d.Body.length - i < m → rT list d (hs d.Body [⟨d.dw, false⟩]) m (i : Int) = some r) ∧ 0 ≤ r.2 := by
   refine down d.Body.length ⟨(0, 0), fun m hm => ?_, fun m hm => ?_, by decide⟩ ?_
   ·obtain ⟨m, rfl⟩ : ∃ j, m = j + 1 := ⟨m - 1, by omega⟩
    simp only [rP, yF]
    rw [fD (Nat.le_refl _)]; rfl
   ·obtain ⟨m, rfl⟩ : ∃ j, m = j + 1 := ⟨m - 1, by omega⟩
    simp only [rT, yV]
    rw [fD (Nat.le_refl _)]; rfl
   ·rintro i au ⟨r, dK, bj, dD⟩
    obtain ⟨hG, hg, iw, ix, nV⟩ := Qa d af az i au
    obtain ⟨v, v1, v2, v3⟩ := az6 list hl d i au aH (aj.2.2 _ (List.getElem_mem au)) (oz d i) hG ⟨hg, iw⟩ ix
    have cb : bK (hs d.Body [⟨d.dw, false⟩]) (i : Int) = some (oz d i) := by
     unfold bK; rw [if_pos (by omega)]; exact nV
    by_cases aQ : v = 0
    ·subst aQ
     refine ⟨r, fun m hm => ?_, fun m hm => ?_, dD⟩
     ·obtain ⟨m, rfl⟩ : ∃ j, m = j + 1 := ⟨m - 1, by omega⟩
      simp only [rP, yF]
      rw [gT au, v1, gS i _ au (by omega), ← dK m (by omega)]; rfl
     ·obtain ⟨m, rfl⟩ : ∃ j, m = j + 1 := ⟨m - 1, by omega⟩
      simp only [rT, yV]
      rw [gT au, hW _ i au, cb]
      simp only [cond_true, Option.bind_some, v2]
      rw [gS i _ au (by omega), ← bj m (by omega)]; rfl
    ·have Gn : decide (0 < v) = true := decide_eq_true (by omega)
     have D1 : (v != 0) = true := by simpa using aQ
     refine ⟨((i : Int), v), fun m hm => ?_, fun m hm => ?_, v3⟩
     ·obtain ⟨m, rfl⟩ : ∃ j, m = j + 1 := ⟨m - 1, by omega⟩
      simp only [rP, yF]
      rw [gT au, v1]
      simp only [cond_true, Option.bind_some, Gn]
     ·obtain ⟨m, rfl⟩ : ∃ j, m = j + 1 := ⟨m - 1, by omega⟩
      simp only [rT, yV]
      rw [gT au, hW _ i au, cb]
      simp only [cond_true, Option.bind_some, v2, D1]
  obtain ⟨r, dK, bj, dD⟩ := key 0 (Nat.zero_le _)
  refine ⟨r, i1 (d.Body.length + 1) fun m hm => dK m (by omega), i1 (d.Body.length + 1) fun m hm => bj m (by omega), dD, fun _ => trivial⟩
def q6 (d : bk) : Bool := decide (0 ≤ d.dw) && decide (d.dw ≤ 3)
def wR (list : List bk) : Bool := fL (fun i => q6 (list.getD i ⟨[], 0, []⟩)) list.length
theorem Qb {list : List bk} (h : wR list = true) (i : Nat) (au : i < list.length) : 0 ≤ list[i].dw ∧ list[i].dw ≤ 3 := by
 have := p8.1 h i au
 have e : list.getD i ⟨[], 0, []⟩ = list[i] := by simp [List.getD, au]
 rw [e] at this
 simpa [q6] using this
theorem aAc (list : List bk) (hl : list.length ≤ 1048576) : Cc list = some (wR list) := by
 unfold Cc GG GF
 rw [uh (n := list.length) (fun i => !q6 (list.getD i ⟨[], 0, []⟩))]
 ·simp only [Option.bind_some, ug, Bool.not_not]; rfl
 ·intro m
  simp only [vY, Cb]
  rw [fD (Nat.le_refl _)]; rfl
 ·intro i au m
  simp only [vY, Cb]
  rw [gT au, lV _ i ⟨[], 0, []⟩ au, gS i _ au (by omega)]
  simp only [cond_true, Option.bind_some, GD, jQ]
  rfl
def oA (list : List bk) : Prop := list.length ≤ 1048576 ∧ ∀ d ∈ list, P_ d
end Go.e1
