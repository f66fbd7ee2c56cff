/- Part of a proof that a law returns true for every input. No condition. -/
import Derived.Test.YtbemmmimelklkaaGreatUY1
namespace Go.eR
open Go Go.c5
def jA (cs : List dc) (i : Nat) : dc := cs.getD i ⟨0, []⟩
def rN (e : List bg) (c : dc) : Bool :=
 cond (decide (0 ≤ c.fe) && decide (c.fe ≤ (e.length : Int) - 1)) (((c.fq.length : Int) == (e.getD c.fe.toNat ⟨[], 0, []⟩).dj) && DF c.fq) false
def rO (s : dv) : Bool := (decide (1 ≤ s.cn.length) && decide (s.cn.length ≤ 3)) && fJ (fun i => rN s.b3 (jA s.cn i)) s.cn.length
theorem Ph {e : List bg} {n : Int} (h : (decide (0 ≤ n) && decide (n ≤ (e.length : Int) - 1)) = true) : bQ e n = some (e.getD n.toNat ⟨[], 0, []⟩) := by
 simp only [Bool.and_eq_true, decide_eq_true_eq] at h
 obtain ⟨i, rfl⟩ : ∃ i : Nat, n = i := ⟨n.toNat, by omega⟩
 exact l9 e i _ (by omega)
theorem awE (s : dv) (ak : s.b3.length ≤ 1048576) (ay : s.cn.length ≤ 1048576) (aR : ∀ c ∈ s.cn, c.fq.length ≤ 1048576) : BB s = some (rO s) := by
 unfold BB rO
 by_cases hl : 1 ≤ s.cn.length ∧ s.cn.length ≤ 3
 ·have d1 : (((s.cn.length : Int) == 0) || decide ((3 : Int) < (s.cn.length : Int))) = false := by
   rw [Bool.or_eq_false_iff, beq_eq_false_iff_ne, decide_eq_false_iff_not]; omega
  have d2 : (decide (1 ≤ s.cn.length) && decide (s.cn.length ≤ 3)) = true := by simp; omega
  rw [d1, d2, cond_false, Bool.true_and]
  refine Dy (l := fun m i => sM s m i) _ (fun m => ?_) (fun i ao m => ?_)
  ·simp only [sM, BA]
   rw [fa (Nat.le_refl _)]; rfl
  ·simp only [sM, BA, lz]
   have hm : (jA s.cn i).fq.length ≤ 1048576 := by
    have : jA s.cn i = s.cn[i] := by simp [jA, List.getD, ao]
    rw [this]; exact aR _ (List.getElem_mem ao)
   rw [fB ao, l9 _ i ⟨0, []⟩ ao, fA i _ ao (by omega), fU ((s.b3.length : Int) - 1) (by omega)]
   show cond true (Option.bind (some (jA s.cn i)) _) _ = _
   simp only [cond_true, Option.bind_some]
   unfold rN
   cases aD : (decide (0 ≤ (jA s.cn i).fe) && decide ((jA s.cn i).fe ≤ (s.b3.length : Int) - 1))
   ·rfl
   ·rw [Ph aD]
    simp only [Bool.not_true, cond_false, cond_true, Option.bind_some, awz _ hm]
    have dB : (((jA s.cn i).fq.length : Int) != (s.b3.getD (jA s.cn i).fe.toNat ⟨[], 0, []⟩).dj) = !(((jA s.cn i).fq.length : Int) == (s.b3.getD (jA s.cn i).fe.toNat ⟨[], 0, []⟩).dj) := rfl
    rw [dB]
    cases (((jA s.cn i).fq.length : Int) == (s.b3.getD (jA s.cn i).fe.toNat ⟨[], 0, []⟩).dj) <;> cases DF (jA s.cn i).fq <;> rfl
 ·have d1 : (((s.cn.length : Int) == 0) || decide ((3 : Int) < (s.cn.length : Int))) = true := by
   by_cases bc : s.cn.length = 0
   ·simp [bc]
   ·have : decide ((3 : Int) < (s.cn.length : Int)) = true := decide_eq_true (by omega)
    rw [this, Bool.or_true]
  have d2 : (decide (1 ≤ s.cn.length) && decide (s.cn.length ≤ 3)) = false := by
   rw [Bool.and_eq_false_iff, decide_eq_false_iff_not, decide_eq_false_iff_not]; omega
  rw [d1, d2]; rfl
theorem awF (e : List bg) (he : e.length ≤ 1048576) (c : dc) (ay : c.fq.length ≤ 1048576) : Cb e c = some (rN e c) := by
 unfold Cb rN
 rw [O8 _ e.length he]
 simp only [Option.bind_some]
 cases aD : (decide (0 ≤ c.fe) && decide (c.fe ≤ (e.length : Int) - 1))
 ·rfl
 ·rw [Ph aD]
  simp only [cond_true, Option.bind_some, awA _ ay]
  cases ((c.fq.length : Int) == (e.getD c.fe.toNat ⟨[], 0, []⟩).dj) <;> rfl
theorem awG (s : dv) (ak : s.b3.length ≤ 1048576) (ay : s.cn.length ≤ 1048576) (aR : ∀ c ∈ s.cn, c.fq.length ≤ 1048576) :
  Cd s.cn s = some (!(fJ (fun i => rN s.b3 (jA s.cn i)) s.cn.length)) := by
 unfold Cd Gt
 rw [wh (n := s.cn.length) (fun i => !(rN s.b3 (jA s.cn i)))]
 ·simp only [Option.bind_some, wg, Bool.not_not]
 ·intro m
  simp only [vx, Cc]
  rw [fa (Nat.le_refl _)]; rfl
 ·intro i ao m
  simp only [vx, Cc]
  have hm : (jA s.cn i).fq.length ≤ 1048576 := by
   have : jA s.cn i = s.cn[i] := by simp [jA, List.getD, ao]
   rw [this]; exact aR _ (List.getElem_mem ao)
  rw [fB ao, l9 _ i ⟨0, []⟩ ao, fA i _ ao (by omega)]
  show cond true (Option.bind (some (jA s.cn i)) _) _ = _
  simp only [cond_true, Option.bind_some, Gs, awF _ ak _ hm]
def eo (a : List b4) (i : Nat) : b4 := a.getD i ⟨[], [], []⟩
def tJ (p m : b4) : Bool := Op.bytesLess p.Left m.Left || (p.Left == m.Left && Op.bytesLess p.ch m.ch)
def tK (a : List b4) (m : b4) : Bool := fJ (fun j => !((eo a j).Left == m.Result || (eo a j).ch == m.Result)) a.length
def zt (a : List b4) (i : Nat) : Bool :=
 ((((i3 (eo a i).Left && i3 (eo a i).ch) && i3 (eo a i).Result) && (Op.bytesLess (eo a i).Left (eo a i).ch || (eo a i).Left == (eo a i).ch)) && (decide (i = 0) || tJ (eo a (i - 1)) (eo a i))) && tK a (eo a i)
def tL (a : List b4) : Bool := decide (a.length ≤ 6) && fJ (zt a) a.length
def DH (a : List b4) : Prop := a.length ≤ 1048576 ∧ ∀ m ∈ a, m.Left.length ≤ 1048576 ∧ m.ch.length ≤ 1048576 ∧ m.Result.length ≤ 1048576
theorem awH (p m : b4) : ((!(Op.bytesLess p.Left m.Left || p.Left == m.Left)) || ((p.Left == m.Left) && (!(Op.bytesLess p.ch m.ch)))) = !(tJ p m) := by
 unfold tJ
 cases he : p.Left == m.Left
 ·cases Op.bytesLess p.Left m.Left <;> rfl
 ·have : p.Left = m.Left := by simpa using he
  rw [this, awB]
  cases Op.bytesLess p.ch m.ch <;> rfl
def qF (a b : List UInt8) : Int := cond (Op.bytesLess a b) (-1) (cond (!(Op.bytesLess a b || a == b)) 1 0)
theorem awI (a b : List UInt8) : Ce a b = some (qF a b) := by
 unfold Ce cmp_isNaN_string qF
 simp only [Option.bind_some, cond_false]
 cases Op.bytesLess a b <;> cases a == b <;> rfl
theorem awJ (p m : b4) : ∃ v, Cg p m = some v ∧ decide (0 ≤ v) = !(tJ p m) := by
 have HF : Cf [p.Left, p.ch] [m.Left, m.ch] = some (cond (qF p.Left m.Left != 0) (qF p.Left m.Left) (cond (qF p.ch m.ch != 0) (qF p.ch m.ch) 0)) := by
  unfold Cf
  refine hP 3 fun n bl => ?_
  obtain ⟨n, rfl⟩ : ∃ k, n = k + 3 := ⟨n - 3, by omega⟩
  have gB : bQ [p.Left, p.ch] 0 = some p.Left := rfl
  have a1 : bQ [m.Left, m.ch] 0 = some m.Left := rfl
  have bh : bQ [p.Left, p.ch] 1 = some p.ch := rfl
  have a8 : bQ [m.Left, m.ch] 1 = some m.ch := rfl
  have gk : IntKind.i64.wrap (0 + 1) = 1 := by decide
  have hz : IntKind.i64.wrap (1 + 1) = 2 := by decide
  simp only [ym, Gu, List.length_cons, List.length_nil, gB, a1, bh, a8, gk, hz, Option.bind_some, awI]
  cases qF p.Left m.Left != 0
  ·cases qF p.ch m.ch != 0 <;> rfl
  ·rfl
 unfold Cg
 rw [HF]
 refine ⟨_, rfl, ?_⟩
 unfold tJ qF
 cases hl : Op.bytesLess p.Left m.Left
 ·cases he : p.Left == m.Left
  ·rfl
  ·cases bb : Op.bytesLess p.ch m.ch
   ·cases p.ch == m.ch <;> rfl
   ·rfl
 ·rfl
theorem awK (a : List b4) (h : a.length ≤ 1048576) (m : b4) : yn a m = some (!(tK a m)) := by
 unfold yn Gw
 rw [wh (n := a.length) (fun j => ((eo a j).Left == m.Result || (eo a j).ch == m.Result))]
 ·simp only [Option.bind_some, wg]; rfl
 ·intro k
  simp only [vy, Ch]
  rw [fa (Nat.le_refl _)]; rfl
 ·intro i ao k
  simp only [vy, Ch]
  rw [fB ao, l9 _ i ⟨[], [], []⟩ ao, fA i _ ao (by omega)]
  simp only [cond_true, Option.bind_some, Gv]
  rfl
theorem awL {a : List b4} (h : DH a) {i : Nat} (ao : i < a.length) : (eo a i).Left.length ≤ 1048576 ∧ (eo a i).ch.length ≤ 1048576 ∧ (eo a i).Result.length ≤ 1048576 := by
 have : eo a i = a[i] := by simp [eo, List.getD, ao]
 rw [this]; exact h.2 _ (List.getElem_mem ao)
theorem zu {a : List b4} {i : Nat} (ao : i < a.length) : bQ a (i : Int) = some (eo a i) := l9 a i _ ao
theorem awM (a : List b4) (h : DH a) : BD a = some (tL a) := by
 unfold BD tL
 by_cases hl : 6 < a.length
 ·have d1 : decide ((6 : Int) < (a.length : Int)) = true := decide_eq_true (by omega)
  have d2 : decide (a.length ≤ 6) = false := decide_eq_false (by omega)
  rw [d1, d2]; rfl
 ·have d1 : decide ((6 : Int) < (a.length : Int)) = false := decide_eq_false (by omega)
  have d2 : decide (a.length ≤ 6) = true := decide_eq_true (by omega)
  rw [d1, d2, cond_false, Bool.true_and]
  refine Dy (l := fun m i => lA a m i) _ (fun m => ?_) (fun i ao m => ?_)
  ·simp only [lA, BC]
   rw [fa (Nat.le_refl _)]; rfl
  ·have HG : (lim fun n => oD (lA a m) a (eo a i) n (i : Int) 0) = cond (tK a (eo a i)) (lA a m ((i + 1 : Nat) : Int)) (some false) := by
    refine tH (l := fun hY j => oD (lA a m) a (eo a i) hY (i : Int) j) _ _ _ (fun hY => ?_) (fun j b_ hY => ?_)
    ·simp only [oD, x7]
     rw [fa (Nat.le_refl _), fA i _ ao (by omega)]; rfl
    ·simp only [oD, x7]
     rw [fB b_, zu b_, fA j _ b_ (by omega)]
     simp only [cond_true, Option.bind_some]
     cases ((eo a j).Left == (eo a i).Result || (eo a j).ch == (eo a i).Result) <;> rfl
   simp only [lA, BC]
   rw [fB ao, zu ao]
   simp only [cond_true, Option.bind_some, Pe, HG]
   unfold zt
   by_cases bc : i = 0
   ·subst bc
    rw [tz]
    simp only [cond_false, decide_true, Bool.true_or, Bool.and_true]
    cases i3 (eo a 0).Left <;> cases i3 (eo a 0).ch <;> cases i3 (eo a 0).Result <;> cases (Op.bytesLess (eo a 0).Left (eo a 0).ch || (eo a 0).Left == (eo a 0).ch) <;> cases tK a (eo a 0) <;> rfl
   ·rw [Ht bc, zn i (by omega) (by omega), zu (show i - 1 < a.length by omega)]
    have ak : decide (i = 0) = false := decide_eq_false bc
    simp only [cond_true, Option.bind_some, ak, Bool.false_or, awH]
    cases i3 (eo a i).Left <;> cases i3 (eo a i).ch <;> cases i3 (eo a i).Result <;> cases (Op.bytesLess (eo a i).Left (eo a i).ch || (eo a i).Left == (eo a i).ch) <;> cases tJ (eo a (i - 1)) (eo a i) <;> cases tK a (eo a i) <;> rfl
theorem awN (a : List b4) (h : DH a) : Cj a = some (tL a) := by
 unfold Cj tL
 rw [tH (l := fun m i => sW a m i) (n := a.length) (zt a) (some (decide ((a.length : Int) ≤ 6))) (some false)]
 ·have e : decide ((a.length : Int) ≤ 6) = decide (a.length ≤ 6) := decide_eq_decide.2 (by omega)
  rw [e]
  cases fJ (zt a) a.length <;> cases decide (a.length ≤ 6) <;> rfl
 ·intro m
  simp only [sW, Ci]
  rw [fa (Nat.le_refl _)]; rfl
 ·intro i ao m
  have hl := h.1
  obtain ⟨s1, s2, e9⟩ := awL h ao
  simp only [sW, Ci]
  rw [fB ao, zu ao, fA i _ ao (by omega)]
  simp only [cond_true, Option.bind_some, DG _ s1, DG _ s2, DG _ e9, awK a hl]
  unfold zt
  by_cases bc : i = 0
  ·subst bc
   rw [tz]
   simp only [cond_false, decide_true, Bool.true_or, Bool.and_true]
   cases i3 (eo a 0).Left <;> cases i3 (eo a 0).ch <;> cases i3 (eo a 0).Result <;> cases (Op.bytesLess (eo a 0).Left (eo a 0).ch || (eo a 0).Left == (eo a 0).ch) <;> cases tK a (eo a 0) <;> rfl
  ·rw [Ht bc, zn i (by omega) (by omega), zu (show i - 1 < a.length by omega)]
   obtain ⟨v, v1, v2⟩ := awJ (eo a (i - 1)) (eo a i)
   have ak : decide (i = 0) = false := decide_eq_false bc
   simp only [cond_true, Option.bind_some, ak, Bool.false_or, v1, v2]
   cases i3 (eo a i).Left <;> cases i3 (eo a i).ch <;> cases i3 (eo a i).Result <;> cases (Op.bytesLess (eo a i).Left (eo a i).ch || (eo a i).Left == (eo a i).ch) <;> cases tJ (eo a (i - 1)) (eo a i) <;> cases tK a (eo a i) <;> rfl
end Go.eR
