/- Part of a proof that a law returns true for every input. No condition. -/
import Derived.Test.YtocllehpepigpaaGreatUY1
namespace Go.e1
open Go Go.dg
def ks (cs : List dq) (i : Nat) : dq := cs.getD i ⟨0, []⟩
def uu (e : List bk) (c : dq) : Bool :=
 cond (decide (0 ≤ c.dG) && decide (c.dG ≤ (e.length : Int) - 1)) (((c.cF.length : Int) == (e.getD c.dG.toNat ⟨[], 0, []⟩).dw) && D3 c.cF) false
def zR (s : eo) : Bool := (decide (1 ≤ s.c_.length) && decide (s.c_.length ≤ 3)) && fL (fun i => uu s.eH (ks s.c_ i)) s.c_.length
theorem Qj {e : List bk} {n : Int} (h : (decide (0 ≤ n) && decide (n ≤ (e.length : Int) - 1)) = true) : bK e n = some (e.getD n.toNat ⟨[], 0, []⟩) := by
 simp only [Bool.and_eq_true, decide_eq_true_eq] at h
 obtain ⟨i, rfl⟩ : ∃ i : Nat, n = i := ⟨n.toNat, by omega⟩
 exact lV e i _ (by omega)
theorem aAp (s : eo) (aj : s.eH.length ≤ 1048576) (ax : s.c_.length ≤ 1048576) (aQ : ∀ c ∈ s.c_, c.cF.length ≤ 1048576) : BZ s = some (zR s) := by
 unfold BZ zR
 by_cases hl : 1 ≤ s.c_.length ∧ s.c_.length ≤ 3
 ·have d1 : (((s.c_.length : Int) == 0) || decide ((3 : Int) < (s.c_.length : Int))) = false := by
   rw [Bool.or_eq_false_iff, beq_eq_false_iff_ne, decide_eq_false_iff_not]; omega
  have d2 : (decide (1 ≤ s.c_.length) && decide (s.c_.length ≤ 3)) = true := by simp; omega
  rw [d1, d2, cond_false, Bool.true_and]
  refine zM (l := fun m i => td s m i) _ (fun m => ?_) (fun i au m => ?_)
  ·simp only [td, BX]
   rw [fD (Nat.le_refl _)]; rfl
  ·simp only [td, BX, kF]
   have hm : (ks s.c_ i).cF.length ≤ 1048576 := by
    have : ks s.c_ i = s.c_[i] := by simp [ks, List.getD, au]
    rw [this]; exact aQ _ (List.getElem_mem au)
   rw [gT au, lV _ i ⟨0, []⟩ au, gS i _ au (by omega), fK ((s.eH.length : Int) - 1) (by omega)]
   show cond true (Option.bind (some (ks s.c_ i)) _) _ = _
   simp only [cond_true, Option.bind_some]
   unfold uu
   cases aA : (decide (0 ≤ (ks s.c_ i).dG) && decide ((ks s.c_ i).dG ≤ (s.eH.length : Int) - 1))
   ·rfl
   ·rw [Qj aA]
    simp only [Bool.not_true, cond_false, cond_true, Option.bind_some, Qd _ hm]
    have dL : (((ks s.c_ i).cF.length : Int) != (s.eH.getD (ks s.c_ i).dG.toNat ⟨[], 0, []⟩).dw) = !(((ks s.c_ i).cF.length : Int) == (s.eH.getD (ks s.c_ i).dG.toNat ⟨[], 0, []⟩).dw) := rfl
    rw [dL]
    cases (((ks s.c_ i).cF.length : Int) == (s.eH.getD (ks s.c_ i).dG.toNat ⟨[], 0, []⟩).dw) <;> cases D3 (ks s.c_ i).cF <;> rfl
 ·have d1 : (((s.c_.length : Int) == 0) || decide ((3 : Int) < (s.c_.length : Int))) = true := by
   by_cases bf : s.c_.length = 0
   ·simp [bf]
   ·have : decide ((3 : Int) < (s.c_.length : Int)) = true := decide_eq_true (by omega)
    rw [this, Bool.or_true]
  have d2 : (decide (1 ≤ s.c_.length) && decide (s.c_.length ≤ 3)) = false := by
   rw [Bool.and_eq_false_iff, decide_eq_false_iff_not, decide_eq_false_iff_not]; omega
  rw [d1, d2]; rfl
theorem aAq (e : List bk) (he : e.length ≤ 1048576) (c : dq) (ax : c.cF.length ≤ 1048576) : Cs e c = some (uu e c) := by
 unfold Cs uu
 rw [DZ _ e.length he]
 simp only [Option.bind_some]
 cases aA : (decide (0 ≤ c.dG) && decide (c.dG ≤ (e.length : Int) - 1))
 ·rfl
 ·rw [Qj aA]
  simp only [cond_true, Option.bind_some, Qe _ ax]
  cases ((c.cF.length : Int) == (e.getD c.dG.toNat ⟨[], 0, []⟩).dw) <;> rfl
theorem aAr (s : eo) (aj : s.eH.length ≤ 1048576) (ax : s.c_.length ≤ 1048576) (aQ : ∀ c ∈ s.c_, c.cF.length ≤ 1048576) :
  Cu s.c_ s = some (!(fL (fun i => uu s.eH (ks s.c_ i)) s.c_.length)) := by
 unfold Cu GV
 rw [uh (n := s.c_.length) (fun i => !(uu s.eH (ks s.c_ i)))]
 ·simp only [Option.bind_some, ug, Bool.not_not]
 ·intro m
  simp only [wa, Ct]
  rw [fD (Nat.le_refl _)]; rfl
 ·intro i au m
  simp only [wa, Ct]
  have hm : (ks s.c_ i).cF.length ≤ 1048576 := by
   have : ks s.c_ i = s.c_[i] := by simp [ks, List.getD, au]
   rw [this]; exact aQ _ (List.getElem_mem au)
  rw [gT au, lV _ i ⟨0, []⟩ au, gS i _ au (by omega)]
  show cond true (Option.bind (some (ks s.c_ i)) _) _ = _
  simp only [cond_true, Option.bind_some, GU, aAq _ aj _ hm]
def eJ (a : List cc) (i : Nat) : cc := a.getD i ⟨[], [], []⟩
def uv (p m : cc) : Bool := Op.bytesLess p.Left m.Left || (p.Left == m.Left && Op.bytesLess p.cp m.cp)
def uw (a : List cc) (m : cc) : Bool := fL (fun j => !((eJ a j).Left == m.Result || (eJ a j).cp == m.Result)) a.length
def zS (a : List cc) (i : Nat) : Bool :=
 ((((jy (eJ a i).Left && jy (eJ a i).cp) && jy (eJ a i).Result) && (Op.bytesLess (eJ a i).Left (eJ a i).cp || (eJ a i).Left == (eJ a i).cp)) && (decide (i = 0) || uv (eJ a (i - 1)) (eJ a i))) && uw a (eJ a i)
def ux (a : List cc) : Bool := decide (a.length ≤ 6) && fL (zS a) a.length
def D5 (a : List cc) : Prop := a.length ≤ 1048576 ∧ ∀ m ∈ a, m.Left.length ≤ 1048576 ∧ m.cp.length ≤ 1048576 ∧ m.Result.length ≤ 1048576
theorem aAs (p m : cc) : ((!(Op.bytesLess p.Left m.Left || p.Left == m.Left)) || ((p.Left == m.Left) && (!(Op.bytesLess p.cp m.cp)))) = !(uv p m) := by
 unfold uv
 cases he : p.Left == m.Left
 ·cases Op.bytesLess p.Left m.Left <;> rfl
 ·have : p.Left = m.Left := by simpa using he
  rw [this, aAm]
  cases Op.bytesLess p.cp m.cp <;> rfl
def q9 (a b : List UInt8) : Int := cond (Op.bytesLess a b) (-1) (cond (!(Op.bytesLess a b || a == b)) 1 0)
theorem aAt (a b : List UInt8) : Cv a b = some (q9 a b) := by
 unfold Cv cmp_isNaN_string q9
 simp only [Option.bind_some, cond_false]
 cases Op.bytesLess a b <;> cases a == b <;> rfl
theorem aAu (p m : cc) : ∃ v, Cx p m = some v ∧ decide (0 ≤ v) = !(uv p m) := by
 have Ip : Cw [p.Left, p.cp] [m.Left, m.cp] = some (cond (q9 p.Left m.Left != 0) (q9 p.Left m.Left) (cond (q9 p.cp m.cp != 0) (q9 p.cp m.cp) 0)) := by
  unfold Cw
  refine i1 3 fun n a_ => ?_
  obtain ⟨n, rfl⟩ : ∃ k, n = k + 3 := ⟨n - 3, by omega⟩
  have g4 : bK [p.Left, p.cp] 0 = some p.Left := rfl
  have aU : bK [m.Left, m.cp] 0 = some m.Left := rfl
  have ba : bK [p.Left, p.cp] 1 = some p.cp := rfl
  have aW : bK [m.Left, m.cp] 1 = some m.cp := rfl
  have fP : IntKind.i64.wrap (0 + 1) = 1 := by decide
  have g8 : IntKind.i64.wrap (1 + 1) = 2 := by decide
  simp only [yY, GW, List.length_cons, List.length_nil, g4, aU, ba, aW, fP, g8, Option.bind_some, aAt]
  cases q9 p.Left m.Left != 0
  ·cases q9 p.cp m.cp != 0 <;> rfl
  ·rfl
 unfold Cx
 rw [Ip]
 refine ⟨_, rfl, ?_⟩
 unfold uv q9
 cases hl : Op.bytesLess p.Left m.Left
 ·cases he : p.Left == m.Left
  ·rfl
  ·cases aZ : Op.bytesLess p.cp m.cp
   ·cases p.cp == m.cp <;> rfl
   ·rfl
 ·rfl
theorem aAv (a : List cc) (h : a.length ≤ 1048576) (m : cc) : yZ a m = some (!(uw a m)) := by
 unfold yZ GY
 rw [uh (n := a.length) (fun j => ((eJ a j).Left == m.Result || (eJ a j).cp == m.Result))]
 ·simp only [Option.bind_some, ug]; rfl
 ·intro k
  simp only [wb, Cy]
  rw [fD (Nat.le_refl _)]; rfl
 ·intro i au k
  simp only [wb, Cy]
  rw [gT au, lV _ i ⟨[], [], []⟩ au, gS i _ au (by omega)]
  simp only [cond_true, Option.bind_some, GX]
  rfl
theorem aAw {a : List cc} (h : D5 a) {i : Nat} (au : i < a.length) : (eJ a i).Left.length ≤ 1048576 ∧ (eJ a i).cp.length ≤ 1048576 ∧ (eJ a i).Result.length ≤ 1048576 := by
 have : eJ a i = a[i] := by simp [eJ, List.getD, au]
 rw [this]; exact h.2 _ (List.getElem_mem au)
theorem zT {a : List cc} {i : Nat} (au : i < a.length) : bK a (i : Int) = some (eJ a i) := lV a i _ au
theorem aAx (a : List cc) (h : D5 a) : B1 a = some (ux a) := by
 unfold B1 ux
 by_cases hl : 6 < a.length
 ·have d1 : decide ((6 : Int) < (a.length : Int)) = true := decide_eq_true (by omega)
  have d2 : decide (a.length ≤ 6) = false := decide_eq_false (by omega)
  rw [d1, d2]; rfl
 ·have d1 : decide ((6 : Int) < (a.length : Int)) = false := decide_eq_false (by omega)
  have d2 : decide (a.length ≤ 6) = true := decide_eq_true (by omega)
  rw [d1, d2, cond_false, Bool.true_and]
  refine zM (l := fun m i => l7 a m i) _ (fun m => ?_) (fun i au m => ?_)
  ·simp only [l7, B0]
   rw [fD (Nat.le_refl _)]; rfl
  ·have zU : (lim fun n => o9 (l7 a m) a (eJ a i) n (i : Int) 0) = cond (uw a (eJ a i)) (l7 a m ((i + 1 : Nat) : Int)) (some false) := by
    refine ur (l := fun iv j => o9 (l7 a m) a (eJ a i) iv (i : Int) j) _ _ _ (fun iv => ?_) (fun j cH iv => ?_)
    ·simp only [o9, yH]
     rw [fD (Nat.le_refl _), gS i _ au (by omega)]; rfl
    ·simp only [o9, yH]
     rw [gT cH, zT cH, gS j _ cH (by omega)]
     simp only [cond_true, Option.bind_some]
     cases ((eJ a j).Left == (eJ a i).Result || (eJ a j).cp == (eJ a i).Result) <;> rfl
   simp only [l7, B0]
   rw [gT au, zT au]
   simp only [cond_true, Option.bind_some, Qg, zU]
   unfold zS
   by_cases bf : i = 0
   ·subst bf
    rw [ui]
    simp only [cond_false, decide_true, Bool.true_or, Bool.and_true]
    cases jy (eJ a 0).Left <;> cases jy (eJ a 0).cp <;> cases jy (eJ a 0).Result <;> cases (Op.bytesLess (eJ a 0).Left (eJ a 0).cp || (eJ a 0).Left == (eJ a 0).cp) <;> cases uw a (eJ a 0) <;> rfl
   ·rw [H6 bf, zN i (by omega) (by omega), zT (show i - 1 < a.length by omega)]
    have aj : decide (i = 0) = false := decide_eq_false bf
    simp only [cond_true, Option.bind_some, aj, Bool.false_or, aAs]
    cases jy (eJ a i).Left <;> cases jy (eJ a i).cp <;> cases jy (eJ a i).Result <;> cases (Op.bytesLess (eJ a i).Left (eJ a i).cp || (eJ a i).Left == (eJ a i).cp) <;> cases uv (eJ a (i - 1)) (eJ a i) <;> cases uw a (eJ a i) <;> rfl
theorem aAy (a : List cc) (h : D5 a) : CA a = some (ux a) := by
 unfold CA ux
 rw [ur (l := fun m i => tn a m i) (n := a.length) (zS a) (some (decide ((a.length : Int) ≤ 6))) (some false)]
 ·have e : decide ((a.length : Int) ≤ 6) = decide (a.length ≤ 6) := decide_eq_decide.2 (by omega)
  rw [e]
  cases fL (zS a) a.length <;> cases decide (a.length ≤ 6) <;> rfl
 ·intro m
  simp only [tn, Cz]
  rw [fD (Nat.le_refl _)]; rfl
 ·intro i au m
  have hl := h.1
  obtain ⟨s1, s2, fo⟩ := aAw h au
  simp only [tn, Cz]
  rw [gT au, zT au, gS i _ au (by omega)]
  simp only [cond_true, Option.bind_some, D4 _ s1, D4 _ s2, D4 _ fo, aAv a hl]
  unfold zS
  by_cases bf : i = 0
  ·subst bf
   rw [ui]
   simp only [cond_false, decide_true, Bool.true_or, Bool.and_true]
   cases jy (eJ a 0).Left <;> cases jy (eJ a 0).cp <;> cases jy (eJ a 0).Result <;> cases (Op.bytesLess (eJ a 0).Left (eJ a 0).cp || (eJ a 0).Left == (eJ a 0).cp) <;> cases uw a (eJ a 0) <;> rfl
  ·rw [H6 bf, zN i (by omega) (by omega), zT (show i - 1 < a.length by omega)]
   obtain ⟨v, v1, v2⟩ := aAu (eJ a (i - 1)) (eJ a i)
   have aj : decide (i = 0) = false := decide_eq_false bf
   simp only [cond_true, Option.bind_some, aj, Bool.false_or, v1, v2]
   cases jy (eJ a i).Left <;> cases jy (eJ a i).cp <;> cases jy (eJ a i).Result <;> cases (Op.bytesLess (eJ a i).Left (eJ a i).cp || (eJ a i).Left == (eJ a i).cp) <;> cases uv (eJ a (i - 1)) (eJ a i) <;> cases uw a (eJ a i) <;> rfl
end Go.e1
