/- Part of a proof that a law returns true for every input. No condition. -/
import Derived.Test.YtbemmmimelklkaaGreatUY1
namespace Go.f_
open Go Go.dk
def jN (cs : List cX) (i : Nat) : cX := cs.getD i ⟨0, []⟩
def sQ (e : List bb) (c : cX) : Bool :=
 cond (decide (0 ≤ c.eo) && decide (c.eo ≤ (e.length : Int) - 1)) (((c.c3.length : Int) == (e.getD c.eo.toNat ⟨[], 0, []⟩).dc) && B7 c.c3) false
def yb (s : ev) : Bool := (decide (1 ≤ s.b_.length) && decide (s.b_.length ≤ 3)) && fI (fun i => sQ s.e8 (jN s.b_ i)) s.b_.length
theorem M3 {e : List bb} {n : Int} (h : (decide (0 ≤ n) && decide (n ≤ (e.length : Int) - 1)) = true) : bM e n = some (e.getD n.toNat ⟨[], 0, []⟩) := by
 simp only [Bool.and_eq_true, decide_eq_true_eq] at h
 obtain ⟨i, rfl⟩ : ∃ i : Nat, n = i := ⟨n.toNat, by omega⟩
 exact lL e i _ (by omega)
theorem at7 (s : ev) (al : s.e8.length ≤ 1048576) (ay : s.b_.length ≤ 1048576) (a3 : ∀ c ∈ s.b_, c.c3.length ≤ 1048576) : Ac s = some (yb s) := by
 unfold Ac yb
 by_cases hl : 1 ≤ s.b_.length ∧ s.b_.length ≤ 3
 ·have d1 : (((s.b_.length : Int) == 0) || decide ((3 : Int) < (s.b_.length : Int))) = false := by
   rw [Bool.or_eq_false_iff, beq_eq_false_iff_ne, decide_eq_false_iff_not]; omega
  have d2 : (decide (1 ≤ s.b_.length) && decide (s.b_.length ≤ 3)) = true := by simp; omega
  rw [d1, d2, cond_false, Bool.true_and]
  refine BZ (l := fun m i => rY s m i) _ (fun m => ?_) (fun i au m => ?_)
  ·simp only [rY, Ab]
   rw [fH (Nat.le_refl _)]; rfl
  ·simp only [rY, Ab, lH]
   have hm : (jN s.b_ i).c3.length ≤ 1048576 := by
    have : jN s.b_ i = s.b_[i] := by simp [jN, List.getD, au]
    rw [this]; exact a3 _ (List.getElem_mem au)
   rw [gM au, lL _ i ⟨0, []⟩ au, gL i _ au (by omega), fQ ((s.e8.length : Int) - 1) (by omega)]
   show cond true (Option.bind (some (jN s.b_ i)) _) _ = _
   simp only [cond_true, Option.bind_some]
   unfold sQ
   cases aE : (decide (0 ≤ (jN s.b_ i).eo) && decide ((jN s.b_ i).eo ≤ (s.e8.length : Int) - 1))
   ·rfl
   ·rw [M3 aE]
    simp only [Bool.not_true, cond_false, cond_true, Option.bind_some, at2 _ hm]
    have eg : (((jN s.b_ i).c3.length : Int) != (s.e8.getD (jN s.b_ i).eo.toNat ⟨[], 0, []⟩).dc) = !(((jN s.b_ i).c3.length : Int) == (s.e8.getD (jN s.b_ i).eo.toNat ⟨[], 0, []⟩).dc) := rfl
    rw [eg]
    cases (((jN s.b_ i).c3.length : Int) == (s.e8.getD (jN s.b_ i).eo.toNat ⟨[], 0, []⟩).dc) <;> cases B7 (jN s.b_ i).c3 <;> rfl
 ·have d1 : (((s.b_.length : Int) == 0) || decide ((3 : Int) < (s.b_.length : Int))) = true := by
   by_cases a9 : s.b_.length = 0
   ·simp [a9]
   ·have : decide ((3 : Int) < (s.b_.length : Int)) = true := decide_eq_true (by omega)
    rw [this, Bool.or_true]
  have d2 : (decide (1 ≤ s.b_.length) && decide (s.b_.length ≤ 3)) = false := by
   rw [Bool.and_eq_false_iff, decide_eq_false_iff_not, decide_eq_false_iff_not]; omega
  rw [d1, d2]; rfl
theorem at8 (e : List bb) (he : e.length ≤ 1048576) (c : cX) (ay : c.c3.length ≤ 1048576) : AH e c = some (sQ e c) := by
 unfold AH sQ
 rw [MR _ e.length he]
 simp only [Option.bind_some]
 cases aE : (decide (0 ≤ c.eo) && decide (c.eo ≤ (e.length : Int) - 1))
 ·rfl
 ·rw [M3 aE]
  simp only [cond_true, Option.bind_some, at3 _ ay]
  cases ((c.c3.length : Int) == (e.getD c.eo.toNat ⟨[], 0, []⟩).dc) <;> rfl
theorem at9 (s : ev) (al : s.e8.length ≤ 1048576) (ay : s.b_.length ≤ 1048576) (a3 : ∀ c ∈ s.b_, c.c3.length ≤ 1048576) :
  AK s.b_ s = some (!(fI (fun i => sQ s.e8 (jN s.b_ i)) s.b_.length)) := by
 unfold AK EM
 rw [uW (n := s.b_.length) (fun i => !(sQ s.e8 (jN s.b_ i)))]
 ·simp only [Option.bind_some, uV, Bool.not_not]
 ·intro m
  simp only [uy, AJ]
  rw [fH (Nat.le_refl _)]; rfl
 ·intro i au m
  simp only [uy, AJ]
  have hm : (jN s.b_ i).c3.length ≤ 1048576 := by
   have : jN s.b_ i = s.b_[i] := by simp [jN, List.getD, au]
   rw [this]; exact a3 _ (List.getElem_mem au)
  rw [gM au, lL _ i ⟨0, []⟩ au, gL i _ au (by omega)]
  show cond true (Option.bind (some (jN s.b_ i)) _) _ = _
  simp only [cond_true, Option.bind_some, EL, at8 _ al _ hm]
def er (a : List bT) (i : Nat) : bT := a.getD i ⟨[], [], []⟩
def sR (p m : bT) : Bool := Op.bytesLess p.Left m.Left || (p.Left == m.Left && Op.bytesLess p.b6 m.b6)
def sS (a : List bT) (m : bT) : Bool := fI (fun j => !((er a j).Left == m.Result || (er a j).b6 == m.Result)) a.length
def yc (a : List bT) (i : Nat) : Bool :=
 ((((iR (er a i).Left && iR (er a i).b6) && iR (er a i).Result) && (Op.bytesLess (er a i).Left (er a i).b6 || (er a i).Left == (er a i).b6)) && (decide (i = 0) || sR (er a (i - 1)) (er a i))) && sS a (er a i)
def sT (a : List bT) : Bool := decide (a.length ≤ 6) && fI (yc a) a.length
def B9 (a : List bT) : Prop := a.length ≤ 1048576 ∧ ∀ m ∈ a, m.Left.length ≤ 1048576 ∧ m.b6.length ≤ 1048576 ∧ m.Result.length ≤ 1048576
theorem aua (p m : bT) : ((!(Op.bytesLess p.Left m.Left || p.Left == m.Left)) || ((p.Left == m.Left) && (!(Op.bytesLess p.b6 m.b6)))) = !(sR p m) := by
 unfold sR
 cases he : p.Left == m.Left
 ·cases Op.bytesLess p.Left m.Left <;> rfl
 ·have : p.Left = m.Left := by simpa using he
  rw [this, at4]
  cases Op.bytesLess p.b6 m.b6 <;> rfl
def pS (a b : List UInt8) : Int := cond (Op.bytesLess a b) (-1) (cond (!(Op.bytesLess a b || a == b)) 1 0)
theorem aub (a b : List UInt8) : AM a b = some (pS a b) := by
 unfold AM AL pS
 simp only [Option.bind_some, cond_false]
 cases Op.bytesLess a b <;> cases a == b <;> rfl
theorem auc (p m : bT) : ∃ v, AO p m = some v ∧ decide (0 ≤ v) = !(sR p m) := by
 have FZ : AN [p.Left, p.b6] [m.Left, m.b6] = some (cond (pS p.Left m.Left != 0) (pS p.Left m.Left) (cond (pS p.b6 m.b6 != 0) (pS p.b6 m.b6) 0)) := by
  unfold AN
  refine iS 3 fun n bg => ?_
  obtain ⟨n, rfl⟩ : ∃ k, n = k + 3 := ⟨n - 3, by omega⟩
  have gu : bM [p.Left, p.b6] 0 = some p.Left := rfl
  have a4 : bM [m.Left, m.b6] 0 = some m.Left := rfl
  have a_ : bM [p.Left, p.b6] 1 = some p.b6 := rfl
  have a2 : bM [m.Left, m.b6] 1 = some m.b6 := rfl
  have fM : IntKind.i64.wrap (0 + 1) = 1 := by decide
  have gZ : IntKind.i64.wrap (1 + 1) = 2 := by decide
  simp only [w5, EN, List.length_cons, List.length_nil, gu, a4, a_, a2, fM, gZ, Option.bind_some, aub]
  cases pS p.Left m.Left != 0
  ·cases pS p.b6 m.b6 != 0 <;> rfl
  ·rfl
 unfold AO
 rw [FZ]
 refine ⟨_, rfl, ?_⟩
 unfold sR pS
 cases hl : Op.bytesLess p.Left m.Left
 ·cases he : p.Left == m.Left
  ·rfl
  ·cases a7 : Op.bytesLess p.b6 m.b6
   ·cases p.b6 == m.b6 <;> rfl
   ·rfl
 ·rfl
theorem aud (a : List bT) (h : a.length ≤ 1048576) (m : bT) : w6 a m = some (!(sS a m)) := by
 unfold w6 EP
 rw [uW (n := a.length) (fun j => ((er a j).Left == m.Result || (er a j).b6 == m.Result))]
 ·simp only [Option.bind_some, uV]; rfl
 ·intro k
  simp only [uz, AP]
  rw [fH (Nat.le_refl _)]; rfl
 ·intro i au k
  simp only [uz, AP]
  rw [gM au, lL _ i ⟨[], [], []⟩ au, gL i _ au (by omega)]
  simp only [cond_true, Option.bind_some, EO]
  rfl
theorem aue {a : List bT} (h : B9 a) {i : Nat} (au : i < a.length) : (er a i).Left.length ≤ 1048576 ∧ (er a i).b6.length ≤ 1048576 ∧ (er a i).Result.length ≤ 1048576 := by
 have : er a i = a[i] := by simp [er, List.getD, au]
 rw [this]; exact h.2 _ (List.getElem_mem au)
theorem yd {a : List bT} {i : Nat} (au : i < a.length) : bM a (i : Int) = some (er a i) := lL a i _ au
theorem auf (a : List bT) (h : B9 a) : Ae a = some (sT a) := by
 unfold Ae sT
 by_cases hl : 6 < a.length
 ·have d1 : decide ((6 : Int) < (a.length : Int)) = true := decide_eq_true (by omega)
  have d2 : decide (a.length ≤ 6) = false := decide_eq_false (by omega)
  rw [d1, d2]; rfl
 ·have d1 : decide ((6 : Int) < (a.length : Int)) = false := decide_eq_false (by omega)
  have d2 : decide (a.length ≤ 6) = true := decide_eq_true (by omega)
  rw [d1, d2, cond_false, Bool.true_and]
  refine BZ (l := fun m i => lf a m i) _ (fun m => ?_) (fun i au m => ?_)
  ·simp only [lf, Ad]
   rw [fH (Nat.le_refl _)]; rfl
  ·have aug : (cV fun n => nZ (lf a m) a (er a i) n (i : Int) 0) = cond (sS a (er a i)) (lf a m ((i + 1 : Nat) : Int)) (some false) := by
    refine sO (l := fun hU j => nZ (lf a m) a (er a i) hU (i : Int) j) _ _ _ (fun hU => ?_) (fun j cJ hU => ?_)
    ·simp only [nZ, wQ]
     rw [fH (Nat.le_refl _), gL i _ au (by omega)]; rfl
    ·simp only [nZ, wQ]
     rw [gM cJ, yd cJ, gL j _ cJ (by omega)]
     simp only [cond_true, Option.bind_some]
     cases ((er a j).Left == (er a i).Result || (er a j).b6 == (er a i).Result) <;> rfl
   simp only [lf, Ad]
   rw [gM au, yd au]
   simp only [cond_true, Option.bind_some, MZ, aug]
   unfold yc
   by_cases a9 : i = 0
   ·subst a9
    rw [sI]
    simp only [cond_false, decide_true, Bool.true_or, Bool.and_true]
    cases iR (er a 0).Left <;> cases iR (er a 0).b6 <;> cases iR (er a 0).Result <;> cases (Op.bytesLess (er a 0).Left (er a 0).b6 || (er a 0).Left == (er a 0).b6) <;> cases sS a (er a 0) <;> rfl
   ·rw [FL a9, x8 i (by omega) (by omega), yd (show i - 1 < a.length by omega)]
    have al : decide (i = 0) = false := decide_eq_false a9
    simp only [cond_true, Option.bind_some, al, Bool.false_or, aua]
    cases iR (er a i).Left <;> cases iR (er a i).b6 <;> cases iR (er a i).Result <;> cases (Op.bytesLess (er a i).Left (er a i).b6 || (er a i).Left == (er a i).b6) <;> cases sR (er a (i - 1)) (er a i) <;> cases sS a (er a i) <;> rfl
theorem auh (a : List bT) (h : B9 a) : AR a = some (sT a) := by
 unfold AR sT
 rw [sO (l := fun m i => r7 a m i) (n := a.length) (yc a) (some (decide ((a.length : Int) ≤ 6))) (some false)]
 ·have e : decide ((a.length : Int) ≤ 6) = decide (a.length ≤ 6) := decide_eq_decide.2 (by omega)
  rw [e]
  cases fI (yc a) a.length <;> cases decide (a.length ≤ 6) <;> rfl
 ·intro m
  simp only [r7, AQ]
  rw [fH (Nat.le_refl _)]; rfl
 ·intro i au m
  have hl := h.1
  obtain ⟨s1, s2, e6⟩ := aue h au
  simp only [r7, AQ]
  rw [gM au, yd au, gL i _ au (by omega)]
  simp only [cond_true, Option.bind_some, B8 _ s1, B8 _ s2, B8 _ e6, aud a hl]
  unfold yc
  by_cases a9 : i = 0
  ·subst a9
   rw [sI]
   simp only [cond_false, decide_true, Bool.true_or, Bool.and_true]
   cases iR (er a 0).Left <;> cases iR (er a 0).b6 <;> cases iR (er a 0).Result <;> cases (Op.bytesLess (er a 0).Left (er a 0).b6 || (er a 0).Left == (er a 0).b6) <;> cases sS a (er a 0) <;> rfl
  ·rw [FL a9, x8 i (by omega) (by omega), yd (show i - 1 < a.length by omega)]
   obtain ⟨v, v1, v2⟩ := auc (er a (i - 1)) (er a i)
   have al : decide (i = 0) = false := decide_eq_false a9
   simp only [cond_true, Option.bind_some, al, Bool.false_or, v1, v2]
   cases iR (er a i).Left <;> cases iR (er a i).b6 <;> cases iR (er a i).Result <;> cases (Op.bytesLess (er a i).Left (er a i).b6 || (er a i).Left == (er a i).b6) <;> cases sR (er a (i - 1)) (er a i) <;> cases sS a (er a i) <;> rfl
end Go.f_
