/- Part of a proof that a law returns true for every input. No condition. -/
import Derived.Test.YtgpmnlkgmadglaaGreatDoorUY1
namespace Go.eV
open Go Go.c0
def j9 (cs : List eF) (i : Nat) : eF := cs.getD i ⟨0, []⟩
def s6 (e : List bm) (c : eF) : Bool :=
 cond (decide (0 ≤ c.dT) && decide (c.dT ≤ (e.length : Int) - 1)) (((c.cX.length : Int) == (e.getD c.dT.toNat ⟨[], 0, []⟩).dL) && vi c.cX) false
def yn (s : dh) : Bool := (decide (1 ≤ s.cY.length) && decide (s.cY.length ≤ 3)) && e9 (fun i => s6 s.df (j9 s.cY i)) s.cY.length
theorem Ow {e : List bm} {n : Int} (h : (decide (0 ≤ n) && decide (n ≤ (e.length : Int) - 1)) = true) : bH e n = some (e.getD n.toNat ⟨[], 0, []⟩) := by
 simp only [Bool.and_eq_true, decide_eq_true_eq] at h
 obtain ⟨i, rfl⟩ : ∃ i : Nat, n = i := ⟨n.toNat, by omega⟩
 exact lj e i _ (by omega)
theorem avT (s : dh) (ai : s.df.length ≤ 1048576) (aw : s.cY.length ≤ 1048576) (aN : ∀ c ∈ s.cY, c.cX.length ≤ 1048576) : Ak s = some (yn s) := by
 unfold Ak yn
 by_cases aR : 1 ≤ s.cY.length ∧ s.cY.length ≤ 3
 ·have d1 : (((s.cY.length : Int) == 0) || decide ((3 : Int) < (s.cY.length : Int))) = false := by
   rw [Bool.or_eq_false_iff, beq_eq_false_iff_ne, decide_eq_false_iff_not]; omega
  have d2 : (decide (1 ≤ s.cY.length) && decide (s.cY.length ≤ 3)) = true := by simp; omega
  rw [d1, d2, cond_false, Bool.true_and]
  refine yi (l := fun m i => sj s m i) _ (fun m => ?_) (fun i al m => ?_)
  ·simp only [sj, Aj]
   rw [gr (Nat.le_refl _)]; rfl
  ·simp only [sj, Aj, ky]
   have hm : (j9 s.cY i).cX.length ≤ 1048576 := by
    have : j9 s.cY i = s.cY[i] := by simp [j9, List.getD, al]
    rw [this]; exact aN _ (List.getElem_mem al)
   rw [gb al, lj _ i ⟨0, []⟩ al, ga i _ al (by omega), hg ((s.df.length : Int) - 1) (by omega)]
   show cond true (Option.bind (some (j9 s.cY i)) _) _ = _
   simp only [cond_true, Option.bind_some]
   unfold s6
   cases az : (decide (0 ≤ (j9 s.cY i).dT) && decide ((j9 s.cY i).dT ≤ (s.df.length : Int) - 1))
   ·rfl
   ·rw [Ow az]
    simp only [Bool.not_true, cond_false, cond_true, Option.bind_some, GG _ hm]
    have dQ : (((j9 s.cY i).cX.length : Int) != (s.df.getD (j9 s.cY i).dT.toNat ⟨[], 0, []⟩).dL) = !(((j9 s.cY i).cX.length : Int) == (s.df.getD (j9 s.cY i).dT.toNat ⟨[], 0, []⟩).dL) := rfl
    rw [dQ]
    cases (((j9 s.cY i).cX.length : Int) == (s.df.getD (j9 s.cY i).dT.toNat ⟨[], 0, []⟩).dL) <;> cases vi (j9 s.cY i).cX <;> rfl
 ·have d1 : (((s.cY.length : Int) == 0) || decide ((3 : Int) < (s.cY.length : Int))) = true := by
   by_cases bc : s.cY.length = 0
   ·simp [bc]
   ·have : decide ((3 : Int) < (s.cY.length : Int)) = true := decide_eq_true (by omega)
    rw [this, Bool.or_true]
  have d2 : (decide (1 ≤ s.cY.length) && decide (s.cY.length ≤ 3)) = false := by
   rw [Bool.and_eq_false_iff, decide_eq_false_iff_not, decide_eq_false_iff_not]; omega
  rw [d1, d2]; rfl
theorem avU (e : List bm) (he : e.length ≤ 1048576) (c : eF) (aw : c.cX.length ≤ 1048576) : AY e c = some (s6 e c) := by
 unfold AY s6
 rw [Ce _ e.length he]
 simp only [Option.bind_some]
 cases az : (decide (0 ≤ c.dT) && decide (c.dT ≤ (e.length : Int) - 1))
 ·rfl
 ·rw [Ow az]
  simp only [cond_true, Option.bind_some, On _ aw]
  cases ((c.cX.length : Int) == (e.getD c.dT.toNat ⟨[], 0, []⟩).dL) <;> rfl
theorem avV (s : dh) (ai : s.df.length ≤ 1048576) (aw : s.cY.length ≤ 1048576) (aN : ∀ c ∈ s.cY, c.cX.length ≤ 1048576) :
  A0 s.cY s = some (!(e9 (fun i => s6 s.df (j9 s.cY i)) s.cY.length)) := by
 unfold A0 E2
 rw [q7 (n := s.cY.length) (fun i => !(s6 s.df (j9 s.cY i)))]
 ·simp only [Option.bind_some, q6, Bool.not_not]
 ·intro m
  simp only [uO, AZ]
  rw [gr (Nat.le_refl _)]; rfl
 ·intro i al m
  simp only [uO, AZ]
  have hm : (j9 s.cY i).cX.length ≤ 1048576 := by
   have : j9 s.cY i = s.cY[i] := by simp [j9, List.getD, al]
   rw [this]; exact aN _ (List.getElem_mem al)
  rw [gb al, lj _ i ⟨0, []⟩ al, ga i _ al (by omega)]
  show cond true (Option.bind (some (j9 s.cY i)) _) _ = _
  simp only [cond_true, Option.bind_some, E1, avU _ ai _ hm]
def eg (a : List c2) (i : Nat) : c2 := a.getD i ⟨[], [], []⟩
def s7 (p m : c2) : Bool := Op.bytesLess p.Left m.Left || (p.Left == m.Left && Op.bytesLess p.cp m.cp)
def s8 (a : List c2) (m : c2) : Bool := e9 (fun j => !((eg a j).Left == m.Result || (eg a j).cp == m.Result)) a.length
def yo (a : List c2) (i : Nat) : Bool :=
 ((((jk (eg a i).Left && jk (eg a i).cp) && jk (eg a i).Result) && (Op.bytesLess (eg a i).Left (eg a i).cp || (eg a i).Left == (eg a i).cp)) && (decide (i = 0) || s7 (eg a (i - 1)) (eg a i))) && s8 a (eg a i)
def s9 (a : List c2) : Bool := decide (a.length ≤ 6) && e9 (yo a) a.length
def Cm (a : List c2) : Prop := a.length ≤ 1048576 ∧ ∀ m ∈ a, m.Left.length ≤ 1048576 ∧ m.cp.length ≤ 1048576 ∧ m.Result.length ≤ 1048576
theorem avW (p m : c2) : ((!(Op.bytesLess p.Left m.Left || p.Left == m.Left)) || ((p.Left == m.Left) && (!(Op.bytesLess p.cp m.cp)))) = !(s7 p m) := by
 unfold s7
 cases he : p.Left == m.Left
 ·cases Op.bytesLess p.Left m.Left <;> rfl
 ·have : p.Left = m.Left := by simpa using he
  rw [this, avQ]
  cases Op.bytesLess p.cp m.cp <;> rfl
def qi (a b : List UInt8) : Int := cond (Op.bytesLess a b) (-1) (cond (!(Op.bytesLess a b || a == b)) 1 0)
theorem avX (a b : List UInt8) : A2 a b = some (qi a b) := by
 unfold A2 A1 qi
 simp only [Option.bind_some, cond_false]
 cases Op.bytesLess a b <;> cases a == b <;> rfl
theorem avY (p m : c2) : ∃ v, A4 p m = some v ∧ decide (0 ≤ v) = !(s7 p m) := by
 have GH : A3 [p.Left, p.cp] [m.Left, m.cp] = some (cond (qi p.Left m.Left != 0) (qi p.Left m.Left) (cond (qi p.cp m.cp != 0) (qi p.cp m.cp) 0)) := by
  unfold A3
  refine iH 3 fun n aY => ?_
  obtain ⟨n, rfl⟩ : ∃ k, n = k + 3 := ⟨n - 3, by omega⟩
  have gv : bH [p.Left, p.cp] 0 = some p.Left := rfl
  have aS : bH [m.Left, m.cp] 0 = some m.Left := rfl
  have aX : bH [p.Left, p.cp] 1 = some p.cp := rfl
  have aQ : bH [m.Left, m.cp] 1 = some m.cp := rfl
  have h7 : IntKind.i64.wrap (0 + 1) = 1 := by decide
  have iz : IntKind.i64.wrap (1 + 1) = 2 := by decide
  simp only [xz, E3, List.length_cons, List.length_nil, gv, aS, aX, aQ, h7, iz, Option.bind_some, avX]
  cases qi p.Left m.Left != 0
  ·cases qi p.cp m.cp != 0 <;> rfl
  ·rfl
 unfold A4
 rw [GH]
 refine ⟨_, rfl, ?_⟩
 unfold s7 qi
 cases aR : Op.bytesLess p.Left m.Left
 ·cases he : p.Left == m.Left
  ·rfl
  ·cases aV : Op.bytesLess p.cp m.cp
   ·cases p.cp == m.cp <;> rfl
   ·rfl
 ·rfl
theorem avZ (a : List c2) (h : a.length ≤ 1048576) (m : c2) : xA a m = some (!(s8 a m)) := by
 unfold xA E5
 rw [q7 (n := a.length) (fun j => ((eg a j).Left == m.Result || (eg a j).cp == m.Result))]
 ·simp only [Option.bind_some, q6]; rfl
 ·intro k
  simp only [uP, A5]
  rw [gr (Nat.le_refl _)]; rfl
 ·intro i al k
  simp only [uP, A5]
  rw [gb al, lj _ i ⟨[], [], []⟩ al, ga i _ al (by omega)]
  simp only [cond_true, Option.bind_some, E4]
  rfl
theorem av0 {a : List c2} (h : Cm a) {i : Nat} (al : i < a.length) : (eg a i).Left.length ≤ 1048576 ∧ (eg a i).cp.length ≤ 1048576 ∧ (eg a i).Result.length ≤ 1048576 := by
 have : eg a i = a[i] := by simp [eg, List.getD, al]
 rw [this]; exact h.2 _ (List.getElem_mem al)
theorem yp {a : List c2} {i : Nat} (al : i < a.length) : bH a (i : Int) = some (eg a i) := lj a i _ al
theorem av1 (a : List c2) (h : Cm a) : Am a = some (s9 a) := by
 unfold Am s9
 by_cases aR : 6 < a.length
 ·have d1 : decide ((6 : Int) < (a.length : Int)) = true := decide_eq_true (by omega)
  have d2 : decide (a.length ≤ 6) = false := decide_eq_false (by omega)
  rw [d1, d2]; rfl
 ·have d1 : decide ((6 : Int) < (a.length : Int)) = false := decide_eq_false (by omega)
  have d2 : decide (a.length ≤ 6) = true := decide_eq_true (by omega)
  rw [d1, d2, cond_false, Bool.true_and]
  refine yi (l := fun m i => lr a m i) _ (fun m => ?_) (fun i al m => ?_)
  ·simp only [lr, Al]
   rw [gr (Nat.le_refl _)]; rfl
  ·have av2 : (cZ fun n => oo (lr a m) a (eg a i) n (i : Int) 0) = cond (s8 a (eg a i)) (lr a m ((i + 1 : Nat) : Int)) (some false) := by
    refine s5 (l := fun ij j => oo (lr a m) a (eg a i) ij (i : Int) j) _ _ _ (fun ij => ?_) (fun j b3 ij => ?_)
    ·simp only [oo, xj]
     rw [gr (Nat.le_refl _), ga i _ al (by omega)]; rfl
    ·simp only [oo, xj]
     rw [gb b3, yp b3, ga j _ b3 (by omega)]
     simp only [cond_true, Option.bind_some]
     cases ((eg a j).Left == (eg a i).Result || (eg a j).cp == (eg a i).Result) <;> rfl
   simp only [lr, Al]
   rw [gb al, yp al]
   simp only [cond_true, Option.bind_some, Ot, av2]
   unfold yo
   by_cases bc : i = 0
   ·subst bc
    rw [sX]
    simp only [cond_false, decide_true, Bool.true_or, Bool.and_true]
    cases jk (eg a 0).Left <;> cases jk (eg a 0).cp <;> cases jk (eg a 0).Result <;> cases (Op.bytesLess (eg a 0).Left (eg a 0).cp || (eg a 0).Left == (eg a 0).cp) <;> cases s8 a (eg a 0) <;> rfl
   ·rw [Gs bc, yj i (by omega) (by omega), yp (show i - 1 < a.length by omega)]
    have ai : decide (i = 0) = false := decide_eq_false bc
    simp only [cond_true, Option.bind_some, ai, Bool.false_or, avW]
    cases jk (eg a i).Left <;> cases jk (eg a i).cp <;> cases jk (eg a i).Result <;> cases (Op.bytesLess (eg a i).Left (eg a i).cp || (eg a i).Left == (eg a i).cp) <;> cases s7 (eg a (i - 1)) (eg a i) <;> cases s8 a (eg a i) <;> rfl
theorem av3 (a : List c2) (h : Cm a) : A7 a = some (s9 a) := by
 unfold A7 s9
 rw [s5 (l := fun m i => sw a m i) (n := a.length) (yo a) (some (decide ((a.length : Int) ≤ 6))) (some false)]
 ·have e : decide ((a.length : Int) ≤ 6) = decide (a.length ≤ 6) := decide_eq_decide.2 (by omega)
  rw [e]
  cases e9 (yo a) a.length <;> cases decide (a.length ≤ 6) <;> rfl
 ·intro m
  simp only [sw, A6]
  rw [gr (Nat.le_refl _)]; rfl
 ·intro i al m
  have aR := h.1
  obtain ⟨s1, s2, fb⟩ := av0 h al
  simp only [sw, A6]
  rw [gb al, yp al, ga i _ al (by omega)]
  simp only [cond_true, Option.bind_some, Cl _ s1, Cl _ s2, Cl _ fb, avZ a aR]
  unfold yo
  by_cases bc : i = 0
  ·subst bc
   rw [sX]
   simp only [cond_false, decide_true, Bool.true_or, Bool.and_true]
   cases jk (eg a 0).Left <;> cases jk (eg a 0).cp <;> cases jk (eg a 0).Result <;> cases (Op.bytesLess (eg a 0).Left (eg a 0).cp || (eg a 0).Left == (eg a 0).cp) <;> cases s8 a (eg a 0) <;> rfl
  ·rw [Gs bc, yj i (by omega) (by omega), yp (show i - 1 < a.length by omega)]
   obtain ⟨v, v1, v2⟩ := avY (eg a (i - 1)) (eg a i)
   have ai : decide (i = 0) = false := decide_eq_false bc
   simp only [cond_true, Option.bind_some, ai, Bool.false_or, v1, v2]
   cases jk (eg a i).Left <;> cases jk (eg a i).cp <;> cases jk (eg a i).Result <;> cases (Op.bytesLess (eg a i).Left (eg a i).cp || (eg a i).Left == (eg a i).cp) <;> cases s7 (eg a (i - 1)) (eg a i) <;> cases s8 a (eg a i) <;> rfl
end Go.eV
