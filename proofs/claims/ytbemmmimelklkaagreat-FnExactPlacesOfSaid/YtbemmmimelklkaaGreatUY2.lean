/- Part of a proof that a law returns true for every input. No condition. -/
import Derived.Test.YtbemmmimelklkaaGreatUY1
namespace Go.fJ
open Go Go.dg
def jQ (cs : List c2) (i : Nat) : c2 := cs.getD i ⟨0, []⟩
def tc (e : List a9) (c : c2) : Bool :=
 cond (decide (0 ≤ c.gP) && decide (c.gP ≤ (e.length : Int) - 1)) (((c.fk.length : Int) == (e.getD c.gP.toNat ⟨[], 0, []⟩).cZ) && Cu c.fk) false
def yF (s : dU) : Bool := (decide (1 ≤ s.cX.length) && decide (s.cX.length ≤ 3)) && fG (fun i => tc s.bQ (jQ s.cX i)) s.cX.length
theorem Nv {e : List a9} {n : Int} (h : (decide (0 ≤ n) && decide (n ≤ (e.length : Int) - 1)) = true) : bI e n = some (e.getD n.toNat ⟨[], 0, []⟩) := by
 simp only [Bool.and_eq_true, decide_eq_true_eq] at h
 obtain ⟨i, rfl⟩ : ∃ i : Nat, n = i := ⟨n.toNat, by omega⟩
 exact lS e i _ (by omega)
theorem at8 (s : dU) (al : s.bQ.length ≤ 1048576) (ay : s.cX.length ≤ 1048576) (a2 : ∀ c ∈ s.cX, c.fk.length ≤ 1048576) : AF s = some (yF s) := by
 unfold AF yF
 by_cases hl : 1 ≤ s.cX.length ∧ s.cX.length ≤ 3
 ·have d1 : (((s.cX.length : Int) == 0) || decide ((3 : Int) < (s.cX.length : Int))) = false := by
   rw [Bool.or_eq_false_iff, beq_eq_false_iff_ne, decide_eq_false_iff_not]; omega
  have d2 : (decide (1 ≤ s.cX.length) && decide (s.cX.length ≤ 3)) = true := by simp; omega
  rw [d1, d2, cond_false, Bool.true_and]
  refine Cm (l := fun m i => se s m i) _ (fun m => ?_) (fun i ar m => ?_)
  ·simp only [se, AE]
   rw [fw (Nat.le_refl _)]; rfl
  ·simp only [se, AE, lL]
   have hm : (jQ s.cX i).fk.length ≤ 1048576 := by
    have : jQ s.cX i = s.cX[i] := by simp [jQ, List.getD, ar]
    rw [this]; exact a2 _ (List.getElem_mem ar)
   rw [gz ar, lS _ i ⟨0, []⟩ ar, gy i _ ar (by omega), fY ((s.bQ.length : Int) - 1) (by omega)]
   show cond true (Option.bind (some (jQ s.cX i)) _) _ = _
   simp only [cond_true, Option.bind_some]
   unfold tc
   cases aE : (decide (0 ≤ (jQ s.cX i).gP) && decide ((jQ s.cX i).gP ≤ (s.bQ.length : Int) - 1))
   ·rfl
   ·rw [Nv aE]
    simp only [Bool.not_true, cond_false, cond_true, Option.bind_some, at3 _ hm]
    have eb : (((jQ s.cX i).fk.length : Int) != (s.bQ.getD (jQ s.cX i).gP.toNat ⟨[], 0, []⟩).cZ) = !(((jQ s.cX i).fk.length : Int) == (s.bQ.getD (jQ s.cX i).gP.toNat ⟨[], 0, []⟩).cZ) := rfl
    rw [eb]
    cases (((jQ s.cX i).fk.length : Int) == (s.bQ.getD (jQ s.cX i).gP.toNat ⟨[], 0, []⟩).cZ) <;> cases Cu (jQ s.cX i).fk <;> rfl
 ·have d1 : (((s.cX.length : Int) == 0) || decide ((3 : Int) < (s.cX.length : Int))) = true := by
   by_cases ba : s.cX.length = 0
   ·simp [ba]
   ·have : decide ((3 : Int) < (s.cX.length : Int)) = true := decide_eq_true (by omega)
    rw [this, Bool.or_true]
  have d2 : (decide (1 ≤ s.cX.length) && decide (s.cX.length ≤ 3)) = false := by
   rw [Bool.and_eq_false_iff, decide_eq_false_iff_not, decide_eq_false_iff_not]; omega
  rw [d1, d2]; rfl
theorem at9 (e : List a9) (he : e.length ≤ 1048576) (c : c2) (ay : c.fk.length ≤ 1048576) : A_ e c = some (tc e c) := by
 unfold A_ tc
 rw [Nk _ e.length he]
 simp only [Option.bind_some]
 cases aE : (decide (0 ≤ c.gP) && decide (c.gP ≤ (e.length : Int) - 1))
 ·rfl
 ·rw [Nv aE]
  simp only [cond_true, Option.bind_some, at4 _ ay]
  cases ((c.fk.length : Int) == (e.getD c.gP.toNat ⟨[], 0, []⟩).cZ) <;> rfl
theorem aua (s : dU) (al : s.bQ.length ≤ 1048576) (ay : s.cX.length ≤ 1048576) (a2 : ∀ c ∈ s.cX, c.fk.length ≤ 1048576) :
  Bb s.cX s = some (!(fG (fun i => tc s.bQ (jQ s.cX i)) s.cX.length)) := by
 unfold Bb Fe
 rw [vn (n := s.cX.length) (fun i => !(tc s.bQ (jQ s.cX i)))]
 ·simp only [Option.bind_some, vm, Bool.not_not]
 ·intro m
  simp only [uR, Ba]
  rw [fw (Nat.le_refl _)]; rfl
 ·intro i ar m
  simp only [uR, Ba]
  have hm : (jQ s.cX i).fk.length ≤ 1048576 := by
   have : jQ s.cX i = s.cX[i] := by simp [jQ, List.getD, ar]
   rw [this]; exact a2 _ (List.getElem_mem ar)
  rw [gz ar, lS _ i ⟨0, []⟩ ar, gy i _ ar (by omega)]
  show cond true (Option.bind (some (jQ s.cX i)) _) _ = _
  simp only [cond_true, Option.bind_some, Fb, at9 _ al _ hm]
def ek (a : List bR) (i : Nat) : bR := a.getD i ⟨[], [], []⟩
def td (p m : bR) : Bool := Op.bytesLess p.Left m.Left || (p.Left == m.Left && Op.bytesLess p.b_ m.b_)
def te (a : List bR) (m : bR) : Bool := fG (fun j => !((ek a j).Left == m.Result || (ek a j).b_ == m.Result)) a.length
def yG (a : List bR) (i : Nat) : Bool :=
 ((((iV (ek a i).Left && iV (ek a i).b_) && iV (ek a i).Result) && (Op.bytesLess (ek a i).Left (ek a i).b_ || (ek a i).Left == (ek a i).b_)) && (decide (i = 0) || td (ek a (i - 1)) (ek a i))) && te a (ek a i)
def tf (a : List bR) : Bool := decide (a.length ≤ 6) && fG (yG a) a.length
def Cw (a : List bR) : Prop := a.length ≤ 1048576 ∧ ∀ m ∈ a, m.Left.length ≤ 1048576 ∧ m.b_.length ≤ 1048576 ∧ m.Result.length ≤ 1048576
theorem aub (p m : bR) : ((!(Op.bytesLess p.Left m.Left || p.Left == m.Left)) || ((p.Left == m.Left) && (!(Op.bytesLess p.b_ m.b_)))) = !(td p m) := by
 unfold td
 cases he : p.Left == m.Left
 ·cases Op.bytesLess p.Left m.Left <;> rfl
 ·have : p.Left = m.Left := by simpa using he
  rw [this, at5]
  cases Op.bytesLess p.b_ m.b_ <;> rfl
def p7 (a b : List UInt8) : Int := cond (Op.bytesLess a b) (-1) (cond (!(Op.bytesLess a b || a == b)) 1 0)
theorem auc (a b : List UInt8) : Bd a b = some (p7 a b) := by
 unfold Bd Bc p7
 simp only [Option.bind_some, cond_false]
 cases Op.bytesLess a b <;> cases a == b <;> rfl
theorem aud (p m : bR) : ∃ v, Bf p m = some v ∧ decide (0 ≤ v) = !(td p m) := by
 have Gk : Be [p.Left, p.b_] [m.Left, m.b_] = some (cond (p7 p.Left m.Left != 0) (p7 p.Left m.Left) (cond (p7 p.b_ m.b_ != 0) (p7 p.b_ m.b_) 0)) := by
  unfold Be
  refine ir 3 fun n bd => ?_
  obtain ⟨n, rfl⟩ : ∃ k, n = k + 3 := ⟨n - 3, by omega⟩
  have gu : bI [p.Left, p.b_] 0 = some p.Left := rfl
  have a4 : bI [m.Left, m.b_] 0 = some m.Left := rfl
  have a_ : bI [p.Left, p.b_] 1 = some p.b_ := rfl
  have a3 : bI [m.Left, m.b_] 1 = some m.b_ := rfl
  have f_ : IntKind.i64.wrap (0 + 1) = 1 := by decide
  have hv : IntKind.i64.wrap (1 + 1) = 2 := by decide
  simp only [xA, Ff, List.length_cons, List.length_nil, gu, a4, a_, a3, f_, hv, Option.bind_some, auc]
  cases p7 p.Left m.Left != 0
  ·cases p7 p.b_ m.b_ != 0 <;> rfl
  ·rfl
 unfold Bf
 rw [Gk]
 refine ⟨_, rfl, ?_⟩
 unfold td p7
 cases hl : Op.bytesLess p.Left m.Left
 ·cases he : p.Left == m.Left
  ·rfl
  ·cases a7 : Op.bytesLess p.b_ m.b_
   ·cases p.b_ == m.b_ <;> rfl
   ·rfl
 ·rfl
theorem aue (a : List bR) (h : a.length ≤ 1048576) (m : bR) : xB a m = some (!(te a m)) := by
 unfold xB Fh
 rw [vn (n := a.length) (fun j => ((ek a j).Left == m.Result || (ek a j).b_ == m.Result))]
 ·simp only [Option.bind_some, vm]; rfl
 ·intro k
  simp only [uS, Bg]
  rw [fw (Nat.le_refl _)]; rfl
 ·intro i ar k
  simp only [uS, Bg]
  rw [gz ar, lS _ i ⟨[], [], []⟩ ar, gy i _ ar (by omega)]
  simp only [cond_true, Option.bind_some, Fg]
  rfl
theorem auf {a : List bR} (h : Cw a) {i : Nat} (ar : i < a.length) : (ek a i).Left.length ≤ 1048576 ∧ (ek a i).b_.length ≤ 1048576 ∧ (ek a i).Result.length ≤ 1048576 := by
 have : ek a i = a[i] := by simp [ek, List.getD, ar]
 rw [this]; exact h.2 _ (List.getElem_mem ar)
theorem yH {a : List bR} {i : Nat} (ar : i < a.length) : bI a (i : Int) = some (ek a i) := lS a i _ ar
theorem aug (a : List bR) (h : Cw a) : AH a = some (tf a) := by
 unfold AH tf
 by_cases hl : 6 < a.length
 ·have d1 : decide ((6 : Int) < (a.length : Int)) = true := decide_eq_true (by omega)
  have d2 : decide (a.length ≤ 6) = false := decide_eq_false (by omega)
  rw [d1, d2]; rfl
 ·have d1 : decide ((6 : Int) < (a.length : Int)) = false := decide_eq_false (by omega)
  have d2 : decide (a.length ≤ 6) = true := decide_eq_true (by omega)
  rw [d1, d2, cond_false, Bool.true_and]
  refine Cm (l := fun m i => lo a m i) _ (fun m => ?_) (fun i ar m => ?_)
  ·simp only [lo, AG]
   rw [fw (Nat.le_refl _)]; rfl
  ·have auh : (cO fun n => oa (lo a m) a (ek a i) n (i : Int) 0) = cond (te a (ek a i)) (lo a m ((i + 1 : Nat) : Int)) (some false) := by
    refine tb (l := fun hX j => oa (lo a m) a (ek a i) hX (i : Int) j) _ _ _ (fun hX => ?_) (fun j cx hX => ?_)
    ·simp only [oa, xi]
     rw [fw (Nat.le_refl _), gy i _ ar (by omega)]; rfl
    ·simp only [oa, xi]
     rw [gz cx, yH cx, gy j _ cx (by omega)]
     simp only [cond_true, Option.bind_some]
     cases ((ek a j).Left == (ek a i).Result || (ek a j).b_ == (ek a i).Result) <;> rfl
   simp only [lo, AG]
   rw [gz ar, yH ar]
   simp only [cond_true, Option.bind_some, Ns, auh]
   unfold yG
   by_cases ba : i = 0
   ·subst ba
    rw [s4]
    simp only [cond_false, decide_true, Bool.true_or, Bool.and_true]
    cases iV (ek a 0).Left <;> cases iV (ek a 0).b_ <;> cases iV (ek a 0).Result <;> cases (Op.bytesLess (ek a 0).Left (ek a 0).b_ || (ek a 0).Left == (ek a 0).b_) <;> cases te a (ek a 0) <;> rfl
   ·rw [F8 ba, vo i (by omega) (by omega), yH (show i - 1 < a.length by omega)]
    have al : decide (i = 0) = false := decide_eq_false ba
    simp only [cond_true, Option.bind_some, al, Bool.false_or, aub]
    cases iV (ek a i).Left <;> cases iV (ek a i).b_ <;> cases iV (ek a i).Result <;> cases (Op.bytesLess (ek a i).Left (ek a i).b_ || (ek a i).Left == (ek a i).b_) <;> cases td (ek a (i - 1)) (ek a i) <;> cases te a (ek a i) <;> rfl
theorem aui (a : List bR) (h : Cw a) : Bi a = some (tf a) := by
 unfold Bi tf
 rw [tb (l := fun m i => sn a m i) (n := a.length) (yG a) (some (decide ((a.length : Int) ≤ 6))) (some false)]
 ·have e : decide ((a.length : Int) ≤ 6) = decide (a.length ≤ 6) := decide_eq_decide.2 (by omega)
  rw [e]
  cases fG (yG a) a.length <;> cases decide (a.length ≤ 6) <;> rfl
 ·intro m
  simp only [sn, Bh]
  rw [fw (Nat.le_refl _)]; rfl
 ·intro i ar m
  have hl := h.1
  obtain ⟨s1, s2, eY⟩ := auf h ar
  simp only [sn, Bh]
  rw [gz ar, yH ar, gy i _ ar (by omega)]
  simp only [cond_true, Option.bind_some, Cv _ s1, Cv _ s2, Cv _ eY, aue a hl]
  unfold yG
  by_cases ba : i = 0
  ·subst ba
   rw [s4]
   simp only [cond_false, decide_true, Bool.true_or, Bool.and_true]
   cases iV (ek a 0).Left <;> cases iV (ek a 0).b_ <;> cases iV (ek a 0).Result <;> cases (Op.bytesLess (ek a 0).Left (ek a 0).b_ || (ek a 0).Left == (ek a 0).b_) <;> cases te a (ek a 0) <;> rfl
  ·rw [F8 ba, vo i (by omega) (by omega), yH (show i - 1 < a.length by omega)]
   obtain ⟨v, v1, v2⟩ := aud (ek a (i - 1)) (ek a i)
   have al : decide (i = 0) = false := decide_eq_false ba
   simp only [cond_true, Option.bind_some, al, Bool.false_or, v1, v2]
   cases iV (ek a i).Left <;> cases iV (ek a i).b_ <;> cases iV (ek a i).Result <;> cases (Op.bytesLess (ek a i).Left (ek a i).b_ || (ek a i).Left == (ek a i).b_) <;> cases td (ek a (i - 1)) (ek a i) <;> cases te a (ek a i) <;> rfl
end Go.fJ
