/- Part of a proof that a law returns true for every input. No condition. -/
import Derived.Test.YtjedocbdhlppdaaP8
import Derived.Test.YtjedocbdhlppdaaUN
namespace Go.gV
open Go Go.dp
set_option linter.unusedSimpArgs false
theorem J5 (x : List Int) (n : Int) (aw : (x.length ≤ 9223372036854775807 ∧ ∀ y ∈ x, (-9223372036854775808 ≤ y ∧ y ≤ 9223372036854775807))) (bM : 0 ≤ n) (bh : n ≤ 1048576) : u5 x n = some (iU n (x.length + 0)) := by
 unfold u5
 refine tE aw.1 bM bh fun h => ?_
 rw [hi _ (by omega)]
 exact wG (by omega)
theorem J6 (x : List fY) (n : Int) (aw : (x.length ≤ 9223372036854775807 ∧ ∀ y ∈ x, pW y)) (bM : 0 ≤ n) (bh : n ≤ 1048576) : te x n = some (iU n (x.length + 0)) := by
 unfold te
 refine tE aw.1 bM bh fun h => ?_
 rw [hi _ (by omega)]
 exact wG (by omega)
theorem J7 (x : List (List fY)) (n : Int) (aw : (x.length ≤ 9223372036854775807 ∧ ∀ y ∈ x, (y.length ≤ 9223372036854775807 ∧ ∀ z ∈ y, pW z))) (bM : 0 ≤ n) (bh : n ≤ 1048576) : u6 x n = some (iU n (gY (fun x => x.length + 0) x)) := by
 unfold u6
 refine tE aw.1 bM bh fun h => ?_
 rw [hi _ (by omega)]
 exact J1 (f := te) (fun x => x.length + 0) x (fun _ _ _ => rfl) (fun y bL n bM bh => J6 y n (aw.2 y bL) bM bh) (by omega) _ (by omega) (by omega)
def nO (x : hQ) : Nat := ((x.bo.length + 0) + ((x.Guard.length + 0) + (x.Name.length + ((gY (fun x => x.length + 0) x.bH) + ((gY (fun x => x.length + 0) x.Next) + 0)))))
theorem ah9 (x : hQ) (n : Int) (aw : u4 x) (bM : 0 ≤ n) (bh : n ≤ 1048576) : u7 x n = some (iU n (nO x)) := by
 unfold u7
 unfold nO
 obtain ⟨w0, kV, lU, pT, Dc⟩ := aw
 refine rV (J5 _ _ w0 (by omega) (by omega)) fun m7 => ?_
 refine rV (J6 _ _ kV (by omega) (by omega)) fun bT => ?_
 refine tE lU (by omega) (by omega) fun b4 => ?_
 rw [hi (((n - (((x.bo.length + 0) : Nat) : Int)) - (((x.Guard.length + 0) : Nat) : Int)) - (x.Name.length : Int)) (by omega)]
 refine rV (J7 _ _ pT (by omega) (by omega)) fun E4 => ?_
 refine rV (J7 _ _ Dc (by omega) (by omega)) fun mb => ?_
 exact wG (by omega)
theorem ah_ (x : List hQ) (n : Int) (aw : (x.length ≤ 9223372036854775807 ∧ ∀ y ∈ x, u4 y)) (bM : 0 ≤ n) (bh : n ≤ 1048576) : xU x n = some (iU n (gY nO x)) := by
 unfold xU
 refine tE aw.1 bM bh fun h => ?_
 rw [hi _ (by omega)]
 exact J1 (f := u7) nO x (fun _ _ _ => rfl) (fun y bL n bM bh => ah9 y n (aw.2 y bL) bM bh) (by omega) _ (by omega) (by omega)
def mz (x : jf) : Nat := ((x.Start.length + 0) + ((gY nO x.bG) + 0))
theorem J8 (x : jf) (n : Int) (aw : td x) (bM : 0 ≤ n) (bh : n ≤ 1048576) : u9 x n = some (iU n (mz x)) := by
 unfold u9
 unfold mz
 obtain ⟨w0, kV, lU⟩ := aw
 refine rV (J5 _ _ kV (by omega) (by omega)) fun bT => ?_
 refine rV (ah_ _ _ lU (by omega) (by omega)) fun b4 => ?_
 exact wG (by omega)
theorem J9 (x : List Int) (h : (x.length + 0) ≤ 1048576) : u_ x = some x := by
 unfold u_
 have hl : x.length ≤ 1048576 := by omega
 rw [zJ _ hl (by decide)]
 simp only [Option.bind_some]
 rw [zI (f := some) id x _ (fun _ _ _ => rfl) (fun _ _ => rfl) hl, List.map_id]
def qn (x : fY) : aA := ⟨x.Kind, x.Value⟩
theorem aia (x : fY) : va x = some (qn x) := by
 unfold va
 rfl
theorem J_ (x : List fY) (h : (x.length + 0) ≤ 1048576) : tf x = some (x.map qn) := by
 unfold tf
 have hl : x.length ≤ 1048576 := by omega
 rw [zJ _ hl (by decide)]
 simp only [Option.bind_some]
 rw [zI (f := va) qn x _ (fun _ _ _ => rfl) (fun y bL => aia y) hl]
theorem Ka (x : List (List fY)) (h : (gY (fun x => x.length + 0) x) ≤ 1048576) : vb x = some (x.map (List.map qn)) := by
 unfold vb
 have hl : x.length ≤ 1048576 := Nat.le_trans (qj _ _) h
 rw [zJ _ hl (by decide)]
 simp only [Option.bind_some]
 rw [zI (f := tf) (List.map qn) x _ (fun _ _ _ => rfl) (fun y bL => J_ y (Nat.le_trans (tF (f := (fun x => x.length + 0)) bL) h)) hl]
def tG (x : hQ) : aY := ⟨x.bo, (x.Guard.map qn), x.Name, (x.bH.map (List.map qn)), (x.Next.map (List.map qn))⟩
def jl (x : aY) : Nat := ((x.bo.length + 0) + ((x.Guard.length + 0) + (x.Name.length + ((gY (fun x => x.length + 0) x.bH) + ((gY (fun x => x.length + 0) x.Next) + 0)))))
theorem aib (x : hQ) : jl (tG x) = nO x := by
 simp only [jl, nO, tG, JZ, List.length_map]
theorem aic (x : hQ) (h : (nO x) ≤ 1048576) : vc x = some (tG x) := by
 unfold vc
 unfold nO at h
 rw [J9 _ (by omega), J_ _ (by omega), Ka _ (by omega), Ka _ (by omega)]
 rfl
theorem aid (x : List hQ) (h : (gY nO x) ≤ 1048576) : xZ x = some (x.map tG) := by
 unfold xZ
 have hl : x.length ≤ 1048576 := Nat.le_trans (qj _ _) h
 rw [zJ _ hl (by decide)]
 simp only [Option.bind_some]
 rw [zI (f := vc) tG x _ (fun _ _ _ => rfl) (fun y bL => aic y (Nat.le_trans (tF (f := nO) bL) h)) hl]
def rW (x : jf) : bc := ⟨x.aV, x.Start, (x.bG.map tG)⟩
def kl (x : bc) : Nat := ((x.Start.length + 0) + ((gY jl x.bG) + 0))
theorem Kb (x : jf) : kl (rW x) = mz x := by
 simp only [kl, mz, rW, JZ, List.length_map, aib]
theorem Kc (x : jf) (h : (mz x) ≤ 1048576) : nB x = some (rW x) := by
 unfold nB
 unfold mz at h
 rw [J9 _ (by omega), aid _ (by omega)]
 rfl
theorem Kd (x : List Int) (h : (x.length + 0) ≤ 1048576) : vA x x = some true := by
 unfold vA
 have hl : x.length ≤ 1048576 := by omega
 rw [zL, cond_false]
 exact ah7 x (fun _ _ => rfl) zK hl
theorem aie (x : aA) : vB x x = some true := by
 unfold vB
 simp only [zK, Dh, Di, cond_false, Option.bind_some, Bool.not_true]
theorem Ke (x : List aA) (h : (x.length + 0) ≤ 1048576) : tt x x = some true := by
 unfold tt
 have hl : x.length ≤ 1048576 := by omega
 rw [zL, cond_false]
 exact Dg (f := vB) x (fun _ _ => rfl) (fun y bL => aie y) hl
theorem Kf (x : List (List aA)) (h : (gY (fun x => x.length + 0) x) ≤ 1048576) : vC x x = some true := by
 unfold vC
 have hl : x.length ≤ 1048576 := Nat.le_trans (qj _ _) h
 rw [zL, cond_false]
 exact Dg (f := tt) x (fun _ _ => rfl) (fun y bL => Ke y (Nat.le_trans (tF (f := (fun x => x.length + 0)) bL) h)) hl
theorem aif (x : aY) (h : (jl x) ≤ 1048576) : vD x x = some true := by
 unfold vD
 unfold jl at h
 simp only [zK, Dh, Di, cond_false, Option.bind_some, Bool.not_true, Kd x.bo (by omega), Ke x.Guard (by omega), Kf x.bH (by omega), Kf x.Next (by omega)]
theorem aih (x : List aY) (h : (gY jl x) ≤ 1048576) : yY x x = some true := by
 unfold yY
 have hl : x.length ≤ 1048576 := Nat.le_trans (qj _ _) h
 rw [zL, cond_false]
 exact Dg (f := vD) x (fun _ _ => rfl) (fun y bL => aif y (Nat.le_trans (tF (f := jl) bL) h)) hl
theorem Dl (x : bc) (h : (kl x) ≤ 1048576) : p6 x x = some true := by
 unfold p6
 unfold kl at h
 simp only [zK, Dh, Di, cond_false, Option.bind_some, Bool.not_true, Kd x.Start (by omega), aih x.bG (by omega)]
theorem aii (k : Int) (bM : 0 ≤ k) (U : k ≤ 1099511627776) : ∃ t, vH k = some t := by
 have key : ∀ (n : Nat) (k : Int), 0 ≤ k → k ≤ n → n ≤ 1099511627776 → ∀ t : List UInt8, t.length + n ≤ 1099511627776 → ∃ r, ∀ m, n < m → p7 m k t = some r := by
  intro n
  induction n with
  | zero =>
    intro k ag ah aM t a3
    refine ⟨[109] ++ t, fun m hm => ?_⟩
    obtain ⟨m, rfl⟩ : ∃ aK, m = aK + 1 := ⟨m - 1, by omega⟩
    simp only [p7, vG]
    rw [show decide (0 < k) = false by simp; omega, cond_false, show nR (1 + t.length) = some () by unfold nR; rw [if_pos (by omega)]]
    rfl
  | succ n ih =>
    intro k ag ah aM t a3
    by_cases aB : 0 < k
    ·have ak : Int.tdiv k 10 = k / 10 := Int.tdiv_eq_ediv_of_nonneg ag
     have hw : IntKind.i64.wrap (Int.tdiv k 10) = k / 10 := by rw [ak]; exact hi _ (by omega)
     obtain ⟨r, a2⟩ := ih (k / 10) (by omega) (by omega) (by omega) ([(ov (IntKind.i64.wrap (48 + (Int.tmod k 10))))] ++ t) (by simp only [List.length_append, List.length_cons, List.length_nil]; omega)
     refine ⟨r, fun m hm => ?_⟩
     obtain ⟨m, rfl⟩ : ∃ aK, m = aK + 1 := ⟨m - 1, by omega⟩
     simp only [p7, vG]
     rw [show decide (0 < k) = true by simp; omega, cond_true, show nR (1 + t.length) = some () by unfold nR; rw [if_pos (by omega)]]
     simp only [Option.bind_some, hw]
     exact a2 m (by omega)
    ·refine ⟨[109] ++ t, fun m hm => ?_⟩
     obtain ⟨m, rfl⟩ : ∃ aK, m = aK + 1 := ⟨m - 1, by omega⟩
     simp only [p7, vG]
     rw [show decide (0 < k) = false by simp; omega, cond_false, show nR (1 + t.length) = some () by unfold nR; rw [if_pos (by omega)]]
     rfl
 unfold vH
 by_cases aB : k ≤ 0
 ·exact ⟨_, by rw [show decide (k ≤ 0) = true by simpa using aB]; rfl⟩
 ·obtain ⟨r, a2⟩ := key k.toNat k bM (by omega) (by omega) [] (by simp only [List.length_nil]; omega)
  exact ⟨r, by rw [show decide (k ≤ 0) = false by simp; omega, cond_false]; exact i7 (k.toNat + 1) fun m hm => a2 m (by omega)⟩
theorem Kg (x : List Int) (k : Int) (bM : 0 ≤ k) (U : k + 64 * (x.length + 0) ≤ 1099511627776) : ∃ (cO : List Int) (c : Nat), c ≤ 64 * (x.length + 0) ∧ vE x k = some (k + (c : Int), cO) ∧ vJ cO k = some (k + (c : Int)) := by
 unfold vE vJ
 have e : e4 (fun _ => 64) x = 64 * x.length := Dk 64 x
 obtain ⟨cO, c, ag, ah, aM⟩ := zO (l := rB) (hl := rG) (fun _ => 64) (fun m v k => by simp only [rB, yZ]; rw [fe (Nat.le_refl _)]; rfl) (fun a m k => by simp only [rG, y4]; rw [fe (Nat.le_refl _)]; rfl) (fun x k bM U => by
  have kV : IntKind.i64.wrap (k + 1) = k + 1 := hi _ (by omega)
  refine ⟨k, 1, by omega, fun m d r ak => ⟨?_, ?_⟩⟩
  ·simp only [rB, yZ]
   rw [ql]
   simp only [cond_true, qk, zN, Option.bind_some, kV]
   rw [qm ak]
   rw [show ((k + 1) : Int) = k + ((1 : Nat) : Int) by omega]
  ·simp only [rG, y4]
   rw [ql]
   simp only [cond_true, cond_false, qk, Option.bind_some, bne_self_eq_false, beq_self_eq_true, Bool.not_true, kV]
   rw [qm ak]
   rw [show ((k + 1) : Int) = k + ((1 : Nat) : Int) by omega]) x k bM (by omega) (by omega)
 exact ⟨cO, c, by omega, ah, aM⟩
theorem Kh (x : List aA) (k : Int) (bM : 0 ≤ k) (U : k + 64 * (x.length + 0) ≤ 1099511627776) : ∃ (cO : List aA) (c : Nat), c ≤ 64 * (x.length + 0) ∧ vF x k = some (k + (c : Int), cO) ∧ vK cO k = some (k + (c : Int)) := by
 unfold vF vK
 have e : e4 (fun _ => 64) x = 64 * x.length := Dk 64 x
 obtain ⟨cO, c, ag, ah, aM⟩ := zO (l := rC) (hl := rH) (fun _ => 64) (fun m v k => by simp only [rC, y0]; rw [fe (Nat.le_refl _)]; rfl) (fun a m k => by simp only [rH, y5]; rw [fe (Nat.le_refl _)]; rfl) (fun x k bM U => by
  have kV : IntKind.i64.wrap (k + 1) = k + 1 := hi _ (by omega)
  have lU : IntKind.i64.wrap ((k + 1) + 1) = (k + 1) + 1 := hi _ (by omega)
  refine ⟨(aA.mk k (k + 1)), 1 + 1, by omega, fun m d r ak => ⟨?_, ?_⟩⟩
  ·simp only [rC, y0]
   rw [ql]
   simp only [cond_true, qk, zN, Option.bind_some, kV, lU]
   rw [qm ak]
   rw [show (((k + 1) + 1) : Int) = k + ((1 + 1 : Nat) : Int) by omega]
  ·simp only [rH, y5]
   rw [ql]
   simp only [cond_true, cond_false, qk, Option.bind_some, bne_self_eq_false, beq_self_eq_true, Bool.not_true, kV, lU]
   rw [qm ak]
   rw [show (((k + 1) + 1) : Int) = k + ((1 + 1 : Nat) : Int) by omega]) x k bM (by omega) (by omega)
 exact ⟨cO, c, by omega, ah, aM⟩
theorem Ki (x : List (List aA)) (k : Int) (bM : 0 ≤ k) (U : k + 64 * (gY (fun x => x.length + 0) x) ≤ 1099511627776) : ∃ (cO : List (List aA)) (c : Nat), c ≤ 64 * (gY (fun x => x.length + 0) x) ∧ vI x k = some (k + (c : Int), cO) ∧ vL cO k = some (k + (c : Int)) := by
 unfold vI vL
 have e : e4 (fun x => 64 * ((x.length + 0) + 1)) x = 64 * gY (fun x => x.length + 0) x := Dj (fun x => x.length + 0) x
 have hl : x.length ≤ gY (fun x => x.length + 0) x := qj _ _
 obtain ⟨cO, c, ag, ah, aM⟩ := zO (l := rD) (hl := rI) (fun x => 64 * ((x.length + 0) + 1)) (fun m v k => by simp only [rD, y1]; rw [fe (Nat.le_refl _)]; rfl) (fun a m k => by simp only [rI, y6]; rw [fe (Nat.le_refl _)]; rfl) (fun x k bM U => by
  obtain ⟨fO, bT, ja, fg, gm⟩ := Kh x k (by omega) (by omega)
  have jU := o9 (k := (k + (bT : Int))) (by omega)
  refine ⟨fO, bT, by omega, fun m d r ak => ⟨?_, ?_⟩⟩
  ·simp only [rD, y1]
   rw [ql]
   simp only [cond_true, qk, zN, Option.bind_some, fg]
   rw [qm ak]
  ·simp only [rI, y6]
   rw [ql]
   simp only [cond_true, cond_false, qk, Option.bind_some, bne_self_eq_false, beq_self_eq_true, Bool.not_true, gm, jU]
   rw [qm ak]) x k bM (by omega) (by omega)
 exact ⟨cO, c, by omega, ah, aM⟩
theorem aij (x : List aY) (k : Int) (bM : 0 ≤ k) (U : k + 64 * (gY jl x) ≤ 1099511627776) : ∃ (cO : List aY) (c : Nat), c ≤ 64 * (gY jl x) ∧ y3 x k = some (k + (c : Int), cO) ∧ y8 cO k = some (k + (c : Int)) := by
 unfold y3 y8
 have e : e4 (fun x => 64 * ((jl x) + 1)) x = 64 * gY jl x := Dj jl x
 have hl : x.length ≤ gY jl x := qj _ _
 obtain ⟨cO, c, ag, ah, aM⟩ := zO (l := rE) (hl := rJ) (fun x => 64 * ((jl x) + 1)) (fun m v k => by simp only [rE, y2]; rw [fe (Nat.le_refl _)]; rfl) (fun a m k => by simp only [rJ, y7]; rw [fe (Nat.le_refl _)]; rfl) (fun x k bM U => by
  simp only [jl] at U ⊢
  obtain ⟨fO, bT, ja, fg, gm⟩ := Kg x.bo k (by omega) (by omega)
  have jU := o9 (k := (k + (bT : Int))) (by omega)
  obtain ⟨iZ, b4, hq, gy, bP⟩ := Kh x.Guard (k + (bT : Int)) (by omega) (by omega)
  have cT := o9 (k := ((k + (bT : Int)) + (b4 : Int))) (by omega)
  obtain ⟨gf, t3⟩ := aii ((k + (bT : Int)) + (b4 : Int)) (by omega) (by omega)
  have pT : IntKind.i64.wrap (((k + (bT : Int)) + (b4 : Int)) + 1) = ((k + (bT : Int)) + (b4 : Int)) + 1 := hi _ (by omega)
  obtain ⟨tC, mb, b3, lb, cZ⟩ := Ki x.bH (((k + (bT : Int)) + (b4 : Int)) + 1) (by omega) (by omega)
  have fu := o9 (k := ((((k + (bT : Int)) + (b4 : Int)) + 1) + (mb : Int))) (by omega)
  obtain ⟨aik, pv, cc, mF, el⟩ := Ki x.Next ((((k + (bT : Int)) + (b4 : Int)) + 1) + (mb : Int)) (by omega) (by omega)
  have fk := o9 (k := (((((k + (bT : Int)) + (b4 : Int)) + 1) + (mb : Int)) + (pv : Int))) (by omega)
  refine ⟨(aY.mk fO iZ gf tC aik), bT + b4 + 1 + mb + pv, by omega, fun m d r ak => ⟨?_, ?_⟩⟩
  ·simp only [rE, y2]
   rw [ql]
   simp only [cond_true, qk, zN, Option.bind_some, fg, gy, t3, pT, lb, mF]
   rw [qm ak]
   rw [show ((((((k + (bT : Int)) + (b4 : Int)) + 1) + (mb : Int)) + (pv : Int)) : Int) = k + ((bT + b4 + 1 + mb + pv : Nat) : Int) by omega]
  ·simp only [rJ, y7]
   rw [ql]
   simp only [cond_true, cond_false, qk, Option.bind_some, bne_self_eq_false, beq_self_eq_true, Bool.not_true, gm, jU, bP, cT, cZ, fu, el, fk, t3, pT]
   rw [qm ak]
   rw [show ((((((k + (bT : Int)) + (b4 : Int)) + 1) + (mb : Int)) + (pv : Int)) : Int) = k + ((bT + b4 + 1 + mb + pv : Nat) : Int) by omega]) x k bM (by omega) (by omega)
 exact ⟨cO, c, by omega, ah, aM⟩
theorem Dm (x : bc) (k : Int) (bM : 0 ≤ k) (U : k + 64 * ((kl x) + 1) ≤ 1099511627776) : ∃ (hP : Int) (fO : List Int) (iZ : List aY) (c : Nat), c ≤ 64 * ((kl x) + 1) ∧ tu x.aV x.Start x.bG k = some (k + (c : Int), hP, fO, iZ) ∧ vM (bc.mk hP fO iZ) k = some (k + (c : Int)) := by
 unfold tu vM
 simp only [kl] at U ⊢
 obtain ⟨fO, bT, ja, fg, gm⟩ := Kg x.Start k (by omega) (by omega)
 have jU := o9 (k := (k + (bT : Int))) (by omega)
 obtain ⟨iZ, b4, hq, gy, bP⟩ := aij x.bG (k + (bT : Int)) (by omega) (by omega)
 have cT := o9 (k := ((k + (bT : Int)) + (b4 : Int))) (by omega)
 refine ⟨x.aV, fO, iZ, bT + b4, by omega, ?_, ?_⟩
 ·simp only [Option.bind_some, fg, gy]
  rw [show (k + ((bT + b4 : Nat) : Int)) = ((k + (bT : Int)) + (b4 : Int)) by omega]
 ·simp only [Option.bind_some, cond_false, bne_self_eq_false, beq_self_eq_true, Bool.not_true, gm, jU, bP, cT]
  rw [show (k + ((bT + b4 : Nat) : Int)) = ((k + (bT : Int)) + (b4 : Int)) by omega]
end Go.gV
