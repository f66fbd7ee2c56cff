/- Part of a proof that a law returns true for every input. No condition. -/
import Derived.Test.YtbemmmimelklkaaGreatP6
import Derived.Test.YtbemmmimelklkaaGreatUN
namespace Go.eR
open Go Go.c5
set_option linter.unusedSimpArgs false
theorem au8 (x : List gY) (n : Int) (aq : (x.length ≤ 9223372036854775807 ∧ ∀ y ∈ x, vd y)) (bc : 0 ≤ n) (bl : n ≤ 1048576) : xH x n = some (hO n (x.length + 0)) := by
 unfold xH
 refine mL aq.1 bc bl fun h => ?_
 rw [fU _ (by omega)]
 exact rE (by omega)
theorem au9 (x : List (List gY)) (n : Int) (aq : (x.length ≤ 9223372036854775807 ∧ ∀ y ∈ x, (y.length ≤ 9223372036854775807 ∧ ∀ z ∈ y, vd z))) (bc : 0 ≤ n) (bl : n ≤ 1048576) : AW x n = some (hO n (dS (fun x => x.length + 0) x)) := by
 unfold AW
 refine mL aq.1 bc bl fun h => ?_
 rw [fU _ (by omega)]
 exact zm (f := xH) (fun x => x.length + 0) x (fun _ _ _ => rfl) (fun y bD n bc bl => au8 y n (aq.2 y bD) bc bl) (by omega) _ (by omega) (by omega)
def oU (x : ij) : Nat := (x.Name.length + ((dS (fun x => x.length + 0) x.cA) + 0))
theorem au_ (x : ij) (n : Int) (aq : xD x) (bc : 0 ≤ n) (bl : n ≤ 1048576) : xI x n = some (hO n (oU x)) := by
 unfold xI
 unfold oU
 obtain ⟨w0, gk, hz, m2⟩ := aq
 refine mL hz (by omega) (by omega) fun cI => ?_
 rw [fU (n - (x.Name.length : Int)) (by omega)]
 refine qs (au9 _ _ m2 (by omega) (by omega)) fun kL => ?_
 exact rE (by omega)
theorem ava (x : List ij) (n : Int) (aq : (x.length ≤ 9223372036854775807 ∧ ∀ y ∈ x, xD y)) (bc : 0 ≤ n) (bl : n ≤ 1048576) : AY x n = some (hO n (dS oU x)) := by
 unfold AY
 refine mL aq.1 bc bl fun h => ?_
 rw [fU _ (by omega)]
 exact zm (f := xI) oU x (fun _ _ _ => rfl) (fun y bD n bc bl => au_ y n (aq.2 y bD) bc bl) (by omega) _ (by omega) (by omega)
def nt (x : h4) : Nat := (x.Name.length + ((dS oU x.Body) + 0))
theorem avb (x : h4) (n : Int) (aq : ve x) (bc : 0 ≤ n) (bl : n ≤ 1048576) : xJ x n = some (hO n (nt x)) := by
 unfold xJ
 unfold nt
 obtain ⟨w0, gk, hz⟩ := aq
 refine mL w0 (by omega) (by omega) fun mR => ?_
 rw [fU (n - (x.Name.length : Int)) (by omega)]
 refine qs (ava _ _ hz (by omega) (by omega)) fun cI => ?_
 exact rE (by omega)
theorem OB (x : List h4) (n : Int) (aq : (x.length ≤ 9223372036854775807 ∧ ∀ y ∈ x, ve y)) (bc : 0 ≤ n) (bl : n ≤ 1048576) : xK x n = some (hO n (dS nt x)) := by
 unfold xK
 refine mL aq.1 bc bl fun h => ?_
 rw [fU _ (by omega)]
 exact zm (f := xJ) nt x (fun _ _ _ => rfl) (fun y bD n bc bl => avb y n (aq.2 y bD) bc bl) (by omega) _ (by omega) (by omega)
theorem avc (x : List Int) (n : Int) (aq : (x.length ≤ 9223372036854775807 ∧ ∀ y ∈ x, (-9223372036854775808 ≤ y ∧ y ≤ 9223372036854775807))) (bc : 0 ≤ n) (bl : n ≤ 1048576) : A0 x n = some (hO n (x.length + 0)) := by
 unfold A0
 refine mL aq.1 bc bl fun h => ?_
 rw [fU _ (by omega)]
 exact rE (by omega)
def oV (x : ik) : Nat := ((x.fq.length + 0) + 0)
theorem avd (x : ik) (n : Int) (aq : xE x) (bc : 0 ≤ n) (bl : n ≤ 1048576) : xL x n = some (hO n (oV x)) := by
 unfold xL
 unfold oV
 obtain ⟨w0, gk⟩ := aq
 refine qs (avc _ _ gk (by omega) (by omega)) fun cH => ?_
 exact rE (by omega)
theorem ave (x : List ik) (n : Int) (aq : (x.length ≤ 9223372036854775807 ∧ ∀ y ∈ x, xE y)) (bc : 0 ≤ n) (bl : n ≤ 1048576) : A2 x n = some (hO n (dS oV x)) := by
 unfold A2
 refine mL aq.1 bc bl fun h => ?_
 rw [fU _ (by omega)]
 exact zm (f := xL) oV x (fun _ _ _ => rfl) (fun y bD n bc bl => avd y n (aq.2 y bD) bc bl) (by omega) _ (by omega) (by omega)
def oW (x : h5) : Nat := (x.Left.length + (x.ch.length + (x.Result.length + 0)))
theorem avf (x : h5) (n : Int) (aq : xF x) (bc : 0 ≤ n) (bl : n ≤ 1048576) : xM x n = some (hO n (oW x)) := by
 unfold xM
 unfold oW
 obtain ⟨w0, gk, hz⟩ := aq
 refine mL w0 (by omega) (by omega) fun mR => ?_
 rw [fU (n - (x.Left.length : Int)) (by omega)]
 refine mL gk (by omega) (by omega) fun cH => ?_
 rw [fU ((n - (x.Left.length : Int)) - (x.ch.length : Int)) (by omega)]
 refine mL hz (by omega) (by omega) fun cI => ?_
 rw [fU (((n - (x.Left.length : Int)) - (x.ch.length : Int)) - (x.Result.length : Int)) (by omega)]
 exact rE (by omega)
theorem avg (x : List h5) (n : Int) (aq : (x.length ≤ 9223372036854775807 ∧ ∀ y ∈ x, xF y)) (bc : 0 ≤ n) (bl : n ≤ 1048576) : A4 x n = some (hO n (dS oW x)) := by
 unfold A4
 refine mL aq.1 bc bl fun h => ?_
 rw [fU _ (by omega)]
 exact zm (f := xM) oW x (fun _ _ _ => rfl) (fun y bD n bc bl => avf y n (aq.2 y bD) bc bl) (by omega) _ (by omega) (by omega)
theorem OC (x : List (List UInt8)) (n : Int) (aq : (x.length ≤ 9223372036854775807 ∧ ∀ y ∈ x, y.length ≤ 9223372036854775807)) (bc : 0 ≤ n) (bl : n ≤ 1048576) : xN x n = some (hO n (dS List.length x)) := by
 unfold xN
 refine mL aq.1 bc bl fun h => ?_
 rw [fU _ (by omega)]
 exact au5 x (fun _ _ _ => rfl) aq.2 (by omega) _ (by omega) (by omega)
def rI (x : kn) : Nat := ((dS nt x.b3) + ((dS oV x.cn) + ((dS oW x.g7) + ((dS List.length x.gZ) + ((dS List.length x.g0) + 0)))))
theorem avh (x : kn) (n : Int) (aq : xG x) (bc : 0 ≤ n) (bl : n ≤ 1048576) : xO x n = some (hO n (rI x)) := by
 unfold xO
 unfold rI
 obtain ⟨w0, gk, hz, m2, Hr⟩ := aq
 refine qs (OB _ _ w0 (by omega) (by omega)) fun mR => ?_
 refine qs (ave _ _ gk (by omega) (by omega)) fun cH => ?_
 refine qs (avg _ _ hz (by omega) (by omega)) fun cI => ?_
 refine qs (OC _ _ m2 (by omega) (by omega)) fun kL => ?_
 refine qs (OC _ _ Hr (by omega) (by omega)) fun mf => ?_
 exact rE (by omega)
def wi (x : gY) : bW := ⟨x.Kind, x.Value⟩
theorem avi (x : gY) : xP x = some (wi x) := by
 unfold xP
 rfl
theorem avj (x : List gY) (h : (x.length + 0) ≤ 1048576) : xQ x = some (x.map wi) := by
 unfold xQ
 have hl : x.length ≤ 1048576 := by omega
 rw [qt _ hl (by decide)]
 simp only [Option.bind_some]
 rw [rF (f := xP) wi x _ (fun _ _ _ => rfl) (fun y bD => avi y) hl]
theorem avk (x : List (List gY)) (h : (dS (fun x => x.length + 0) x) ≤ 1048576) : A8 x = some (x.map (List.map wi)) := by
 unfold A8
 have hl : x.length ≤ 1048576 := Nat.le_trans (i2 _ _) h
 rw [qt _ hl (by decide)]
 simp only [Option.bind_some]
 rw [rF (f := xQ) (List.map wi) x _ (fun _ _ _ => rfl) (fun y bD => avj y (Nat.le_trans (lo (f := (fun x => x.length + 0)) bD) h)) hl]
def wj (x : ij) : bE := ⟨x.Kind, x.Number, x.Name, (x.cA.map (List.map wi))⟩
def kb (x : bE) : Nat := (x.Name.length + ((dS (fun x => x.length + 0) x.cA) + 0))
theorem avl (x : ij) : kb (wj x) = oU x := by
 simp only [kb, oU, wj, wb, List.length_map]
theorem avm (x : ij) (h : (oU x) ≤ 1048576) : xR x = some (wj x) := by
 unfold xR
 unfold oU at h
 rw [avk _ (by omega)]
 rfl
theorem avn (x : List ij) (h : (dS oU x) ≤ 1048576) : A_ x = some (x.map wj) := by
 unfold A_
 have hl : x.length ≤ 1048576 := Nat.le_trans (i2 _ _) h
 rw [qt _ hl (by decide)]
 simp only [Option.bind_some]
 rw [rF (f := xR) wj x _ (fun _ _ _ => rfl) (fun y bD => avm y (Nat.le_trans (lo (f := oU) bD) h)) hl]
def oX (x : h4) : bg := ⟨x.Name, x.dj, (x.Body.map wj)⟩
def ky (x : bg) : Nat := (x.Name.length + ((dS kb x.Body) + 0))
theorem OD (x : h4) : ky (oX x) = nt x := by
 simp only [ky, nt, oX, wb, List.length_map, avl]
theorem avo (x : h4) (h : (nt x) ≤ 1048576) : xS x = some (oX x) := by
 unfold xS
 unfold nt at h
 rw [avn _ (by omega)]
 rfl
theorem OE (x : List h4) (h : (dS nt x) ≤ 1048576) : xT x = some (x.map oX) := by
 unfold xT
 have hl : x.length ≤ 1048576 := Nat.le_trans (i2 _ _) h
 rw [qt _ hl (by decide)]
 simp only [Option.bind_some]
 rw [rF (f := xS) oX x _ (fun _ _ _ => rfl) (fun y bD => avo y (Nat.le_trans (lo (f := nt) bD) h)) hl]
theorem avp (x : List Int) (h : (x.length + 0) ≤ 1048576) : Bc x = some x := by
 unfold Bc
 have hl : x.length ≤ 1048576 := by omega
 rw [qt _ hl (by decide)]
 simp only [Option.bind_some]
 rw [rF (f := some) id x _ (fun _ _ _ => rfl) (fun _ _ => rfl) hl, List.map_id]
def wk (x : ik) : dc := ⟨x.fe, x.fq⟩
def kc (x : dc) : Nat := ((x.fq.length + 0) + 0)
theorem avq (x : ik) : kc (wk x) = oV x := by
 simp only [kc, oV, wk, wb, List.length_map]
theorem avr (x : ik) (h : (oV x) ≤ 1048576) : xU x = some (wk x) := by
 unfold xU
 unfold oV at h
 rw [avp _ (by omega)]
 rfl
theorem avs (x : List ik) (h : (dS oV x) ≤ 1048576) : Be x = some (x.map wk) := by
 unfold Be
 have hl : x.length ≤ 1048576 := Nat.le_trans (i2 _ _) h
 rw [qt _ hl (by decide)]
 simp only [Option.bind_some]
 rw [rF (f := xU) wk x _ (fun _ _ _ => rfl) (fun y bD => avr y (Nat.le_trans (lo (f := oV) bD) h)) hl]
def wm (x : h5) : b4 := ⟨x.Left, x.ch, x.Result⟩
def kd (x : b4) : Nat := (x.Left.length + (x.ch.length + (x.Result.length + 0)))
theorem avt (x : h5) : kd (wm x) = oW x := by
 simp only [kd, oW, wm, wb, List.length_map]
theorem avu (x : h5) (h : (oW x) ≤ 1048576) : xV x = some (wm x) := by
 unfold xV
 unfold oW at h
 rfl
theorem avv (x : List h5) (h : (dS oW x) ≤ 1048576) : Bg x = some (x.map wm) := by
 unfold Bg
 have hl : x.length ≤ 1048576 := Nat.le_trans (i2 _ _) h
 rw [qt _ hl (by decide)]
 simp only [Option.bind_some]
 rw [rF (f := xV) wm x _ (fun _ _ _ => rfl) (fun y bD => avu y (Nat.le_trans (lo (f := oW) bD) h)) hl]
theorem OG (x : List (List UInt8)) (h : (dS List.length x) ≤ 1048576) : xW x = some x := by
 unfold xW
 have hl : x.length ≤ 1048576 := Nat.le_trans (i2 _ _) h
 rw [qt _ hl (by decide)]
 simp only [Option.bind_some]
 rw [rF (f := some) id x _ (fun _ _ _ => rfl) (fun _ _ => rfl) hl, List.map_id]
def pH (x : kn) : dv := ⟨(x.b3.map oX), (x.cn.map wk), (x.g7.map wm), x.gZ, x.g0⟩
def oY (x : dv) : Nat := ((dS ky x.b3) + ((dS kc x.cn) + ((dS kd x.g7) + ((dS List.length x.gZ) + ((dS List.length x.g0) + 0)))))
theorem OH (x : kn) : oY (pH x) = rI x := by
 simp only [oY, rI, pH, wb, List.length_map, OD, avq, avt]
theorem avw (x : kn) (h : (rI x) ≤ 1048576) : ra x = some (pH x) := by
 unfold ra
 unfold rI at h
 rw [OE _ (by omega), avs _ (by omega), avv _ (by omega), OG _ (by omega), OG _ (by omega)]
 rfl
theorem OI (x : List Int) (h : (x.length + 0) ≤ 1048576) : s0 x x = some true := by
 unfold s0
 have hl : x.length ≤ 1048576 := by omega
 rw [rG, cond_false]
 exact Ox x (fun _ _ => rfl) tw hl
theorem avx (x : bW) : yr x x = some true := by
 unfold yr
 simp only [tw, tx, we, cond_false, Option.bind_some, Bool.not_true]
theorem avy (x : List bW) (h : (x.length + 0) ≤ 1048576) : ys x x = some true := by
 unfold ys
 have hl : x.length ≤ 1048576 := by omega
 rw [rG, cond_false]
 exact wc (f := yr) x (fun _ _ => rfl) (fun y bD => avx y) hl
theorem avz (x : List (List bW)) (h : (dS (fun x => x.length + 0) x) ≤ 1048576) : CA x x = some true := by
 unfold CA
 have hl : x.length ≤ 1048576 := Nat.le_trans (i2 _ _) h
 rw [rG, cond_false]
 exact wc (f := ys) x (fun _ _ => rfl) (fun y bD => avy y (Nat.le_trans (lo (f := (fun x => x.length + 0)) bD) h)) hl
theorem avA (x : bE) (h : (kb x) ≤ 1048576) : yt x x = some true := by
 unfold yt
 unfold kb at h
 simp only [tw, tx, we, cond_false, Option.bind_some, Bool.not_true, avz x.cA (by omega)]
theorem avB (x : List bE) (h : (dS kb x) ≤ 1048576) : CC x x = some true := by
 unfold CC
 have hl : x.length ≤ 1048576 := Nat.le_trans (i2 _ _) h
 rw [rG, cond_false]
 exact wc (f := yt) x (fun _ _ => rfl) (fun y bD => avA y (Nat.le_trans (lo (f := kb) bD) h)) hl
theorem avC (x : bg) (h : (ky x) ≤ 1048576) : yu x x = some true := by
 unfold yu
 unfold ky at h
 simp only [tw, tx, we, cond_false, Option.bind_some, Bool.not_true, avB x.Body (by omega)]
theorem OJ (x : List bg) (h : (dS ky x) ≤ 1048576) : yv x x = some true := by
 unfold yv
 have hl : x.length ≤ 1048576 := Nat.le_trans (i2 _ _) h
 rw [rG, cond_false]
 exact wc (f := yu) x (fun _ _ => rfl) (fun y bD => avC y (Nat.le_trans (lo (f := ky) bD) h)) hl
theorem avD (x : dc) (h : (kc x) ≤ 1048576) : yw x x = some true := by
 unfold yw
 unfold kc at h
 simp only [tw, tx, we, cond_false, Option.bind_some, Bool.not_true, OI x.fq (by omega)]
theorem avE (x : List dc) (h : (dS kc x) ≤ 1048576) : CF x x = some true := by
 unfold CF
 have hl : x.length ≤ 1048576 := Nat.le_trans (i2 _ _) h
 rw [rG, cond_false]
 exact wc (f := yw) x (fun _ _ => rfl) (fun y bD => avD y (Nat.le_trans (lo (f := kc) bD) h)) hl
theorem avF (x : b4) (h : (kd x) ≤ 1048576) : yx x x = some true := by
 unfold yx
 unfold kd at h
 simp only [tw, tx, we, cond_false, Option.bind_some, Bool.not_true]
theorem avG (x : List b4) (h : (dS kd x) ≤ 1048576) : CH x x = some true := by
 unfold CH
 have hl : x.length ≤ 1048576 := Nat.le_trans (i2 _ _) h
 rw [rG, cond_false]
 exact wc (f := yx) x (fun _ _ => rfl) (fun y bD => avF y (Nat.le_trans (lo (f := kd) bD) h)) hl
theorem OK (x : List (List UInt8)) (h : (dS List.length x) ≤ 1048576) : yy x x = some true := by
 unfold yy
 have hl : x.length ≤ 1048576 := Nat.le_trans (i2 _ _) h
 rw [rG, cond_false]
 exact Ox x (fun _ _ => rfl) tx hl
theorem avH (x : dv) (h : (oY x) ≤ 1048576) : yz x x = some true := by
 unfold yz
 unfold oY at h
 simp only [tw, tx, we, cond_false, Option.bind_some, Bool.not_true, OJ x.b3 (by omega), avE x.cn (by omega), avG x.g7 (by omega), OK x.gZ (by omega), OK x.g0 (by omega)]
theorem wo (k : Int) (bc : 0 ≤ k) (ad : k ≤ 1099511627776) : ∃ t, qj k = some t := by
 have key : ∀ (n : Nat) (k : Int), 0 ≤ k → k ≤ n → n ≤ 1099511627776 → ∀ t : List UInt8, t.length + n ≤ 1099511627776 → ∃ r, ∀ m, n < m → rq m k t = some r := by
  intro n
  induction n with
  | zero =>
    intro k af ai aN t bs
    refine ⟨[109] ++ t, fun m hm => ?_⟩
    obtain ⟨m, rfl⟩ : ∃ j, m = j + 1 := ⟨m - 1, by omega⟩
    simp only [rq, yA]
    rw [show decide (0 < k) = false by simp; omega, cond_false, show o4 (1 + t.length) = some () by unfold o4; rw [if_pos (by omega)]]
    rfl
  | succ n ih =>
    intro k af ai aN t bs
    by_cases aD : 0 < k
    ·have ak : Int.tdiv k 10 = k / 10 := Int.tdiv_eq_ediv_of_nonneg af
     have hw : IntKind.i64.wrap (Int.tdiv k 10) = k / 10 := by rw [ak]; exact fU _ (by omega)
     obtain ⟨r, bb⟩ := ih (k / 10) (by omega) (by omega) (by omega) ([(pO (IntKind.i64.wrap (48 + (Int.tmod k 10))))] ++ t) (by simp only [List.length_append, List.length_cons, List.length_nil]; omega)
     refine ⟨r, fun m hm => ?_⟩
     obtain ⟨m, rfl⟩ : ∃ j, m = j + 1 := ⟨m - 1, by omega⟩
     simp only [rq, yA]
     rw [show decide (0 < k) = true by simp; omega, cond_true, show o4 (1 + t.length) = some () by unfold o4; rw [if_pos (by omega)]]
     simp only [Option.bind_some, hw]
     exact bb m (by omega)
    ·refine ⟨[109] ++ t, fun m hm => ?_⟩
     obtain ⟨m, rfl⟩ : ∃ j, m = j + 1 := ⟨m - 1, by omega⟩
     simp only [rq, yA]
     rw [show decide (0 < k) = false by simp; omega, cond_false, show o4 (1 + t.length) = some () by unfold o4; rw [if_pos (by omega)]]
     rfl
 unfold qj
 by_cases aD : k ≤ 0
 ·exact ⟨_, by rw [show decide (k ≤ 0) = true by simpa using aD]; rfl⟩
 ·obtain ⟨r, bb⟩ := key k.toNat k bc (by omega) (by omega) [] (by simp only [List.length_nil]; omega)
  exact ⟨r, by rw [show decide (k ≤ 0) = false by simp; omega, cond_false]; exact hP (k.toNat + 1) fun m hm => bb m (by omega)⟩
theorem avI (x : List bW) (k : Int) (bc : 0 ≤ k) (ad : k + 64 * (x.length + 0) ≤ 1099511627776) : ∃ (cQ : List bW) (c : Nat), c ≤ 64 * (x.length + 0) ∧ CK x k = some (k + (c : Int), cQ) := by
 unfold CK
 have e : g4 (fun _ => 64) x = 64 * x.length := Hu 64 x
 obtain ⟨cQ, c, af, ai⟩ := tC (l := s3) (fun _ => 64) (fun m v k => by simp only [s3, CJ]; rw [fa (Nat.le_refl _)]; rfl) (fun x k bc ad => by
  have gk : IntKind.i64.wrap (k + 1) = k + 1 := fU _ (by omega)
  have hz : IntKind.i64.wrap ((k + 1) + 1) = (k + 1) + 1 := fU _ (by omega)
  refine ⟨(bW.mk k (k + 1)), 1 + 1, by omega, fun m d r ak => ?_⟩
  simp only [s3, CJ]
  rw [qv]
  simp only [cond_true, qu, rH, Option.bind_some, gk, hz]
  rw [qw ak]
  rw [show (((k + 1) + 1) : Int) = k + ((1 + 1 : Nat) : Int) by omega]) x k bc (by omega) (by omega)
 exact ⟨cQ, c, by omega, ai⟩
theorem avJ (x : List (List bW)) (k : Int) (bc : 0 ≤ k) (ad : k + 64 * (dS (fun x => x.length + 0) x) ≤ 1099511627776) : ∃ (cQ : List (List bW)) (c : Nat), c ≤ 64 * (dS (fun x => x.length + 0) x) ∧ CM x k = some (k + (c : Int), cQ) := by
 unfold CM
 have e : g4 (fun x => 64 * ((x.length + 0) + 1)) x = 64 * dS (fun x => x.length + 0) x := tB (fun x => x.length + 0) x
 have hl : x.length ≤ dS (fun x => x.length + 0) x := i2 _ _
 obtain ⟨cQ, c, af, ai⟩ := tC (l := s4) (fun x => 64 * ((x.length + 0) + 1)) (fun m v k => by simp only [s4, CL]; rw [fa (Nat.le_refl _)]; rfl) (fun x k bc ad => by
  obtain ⟨fE, cH, lR, fM⟩ := avI x k (by omega) (by omega)
  refine ⟨fE, cH, by omega, fun m d r ak => ?_⟩
  simp only [s4, CL]
  rw [qv]
  simp only [cond_true, qu, rH, Option.bind_some, fM]
  rw [qw ak]) x k bc (by omega) (by omega)
 exact ⟨cQ, c, by omega, ai⟩
theorem avK (x : List bE) (k : Int) (bc : 0 ≤ k) (ad : k + 64 * (dS kb x) ≤ 1099511627776) : ∃ (cQ : List bE) (c : Nat), c ≤ 64 * (dS kb x) ∧ CO x k = some (k + (c : Int), cQ) := by
 unfold CO
 have e : g4 (fun x => 64 * ((kb x) + 1)) x = 64 * dS kb x := tB kb x
 have hl : x.length ≤ dS kb x := i2 _ _
 obtain ⟨cQ, c, af, ai⟩ := tC (l := s5) (fun x => 64 * ((kb x) + 1)) (fun m v k => by simp only [s5, CN]; rw [fa (Nat.le_refl _)]; rfl) (fun x k bc ad => by
  simp only [kb] at ad ⊢
  have gk : IntKind.i64.wrap (k + 1) = k + 1 := fU _ (by omega)
  have hz : IntKind.i64.wrap ((k + 1) + 1) = (k + 1) + 1 := fU _ (by omega)
  obtain ⟨e9, t3⟩ := wo ((k + 1) + 1) (by omega) (by omega)
  have m2 : IntKind.i64.wrap (((k + 1) + 1) + 1) = ((k + 1) + 1) + 1 := fU _ (by omega)
  obtain ⟨oS, mf, bz, kF⟩ := avJ x.cA (((k + 1) + 1) + 1) (by omega) (by omega)
  refine ⟨(bE.mk k (k + 1) e9 oS), 1 + 1 + 1 + mf, by omega, fun m d r ak => ?_⟩
  simp only [s5, CN]
  rw [qv]
  simp only [cond_true, qu, rH, Option.bind_some, gk, hz, t3, m2, kF]
  rw [qw ak]
  rw [show (((((k + 1) + 1) + 1) + (mf : Int)) : Int) = k + ((1 + 1 + 1 + mf : Nat) : Int) by omega]) x k bc (by omega) (by omega)
 exact ⟨cQ, c, by omega, ai⟩
theorem avL (x : List bg) (k : Int) (bc : 0 ≤ k) (ad : k + 64 * (dS ky x) ≤ 1099511627776) : ∃ (cQ : List bg) (c : Nat), c ≤ 64 * (dS ky x) ∧ CQ x k = some (k + (c : Int), cQ) := by
 unfold CQ
 have e : g4 (fun x => 64 * ((ky x) + 1)) x = 64 * dS ky x := tB ky x
 have hl : x.length ≤ dS ky x := i2 _ _
 obtain ⟨cQ, c, af, ai⟩ := tC (l := s6) (fun x => 64 * ((ky x) + 1)) (fun m v k => by simp only [s6, CP]; rw [fa (Nat.le_refl _)]; rfl) (fun x k bc ad => by
  simp only [ky] at ad ⊢
  obtain ⟨s1, t1⟩ := wo k (by omega) (by omega)
  have gk : IntKind.i64.wrap (k + 1) = k + 1 := fU _ (by omega)
  have hz : IntKind.i64.wrap ((k + 1) + 1) = (k + 1) + 1 := fU _ (by omega)
  obtain ⟨kQ, kL, mh, hI⟩ := avK x.Body ((k + 1) + 1) (by omega) (by omega)
  refine ⟨(bg.mk s1 (k + 1) kQ), 1 + 1 + kL, by omega, fun m d r ak => ?_⟩
  simp only [s6, CP]
  rw [qv]
  simp only [cond_true, qu, rH, Option.bind_some, t1, gk, hz, hI]
  rw [qw ak]
  rw [show ((((k + 1) + 1) + (kL : Int)) : Int) = k + ((1 + 1 + kL : Nat) : Int) by omega]) x k bc (by omega) (by omega)
 exact ⟨cQ, c, by omega, ai⟩
theorem OL (x : List Int) (k : Int) (bc : 0 ≤ k) (ad : k + 64 * (x.length + 0) ≤ 1099511627776) : ∃ (cQ : List Int) (c : Nat), c ≤ 64 * (x.length + 0) ∧ yB x k = some (k + (c : Int), cQ) ∧ yD cQ k = some (k + (c : Int)) := by
 unfold yB yD
 have e : g4 (fun _ => 64) x = 64 * x.length := Hu 64 x
 obtain ⟨cQ, c, af, ai, aN⟩ := au7 (l := s7) (hl := tb) (fun _ => 64) (fun m v k => by simp only [s7, CR]; rw [fa (Nat.le_refl _)]; rfl) (fun a m k => by simp only [tb, CY]; rw [fa (Nat.le_refl _)]; rfl) (fun x k bc ad => by
  have gk : IntKind.i64.wrap (k + 1) = k + 1 := fU _ (by omega)
  refine ⟨k, 1, by omega, fun m d r ak => ⟨?_, ?_⟩⟩
  ·simp only [s7, CR]
   rw [qv]
   simp only [cond_true, qu, rH, Option.bind_some, gk]
   rw [qw ak]
   rw [show ((k + 1) : Int) = k + ((1 : Nat) : Int) by omega]
  ·simp only [tb, CY]
   rw [qv]
   simp only [cond_true, cond_false, qu, Option.bind_some, bne_self_eq_false, beq_self_eq_true, Bool.not_true, gk]
   rw [qw ak]
   rw [show ((k + 1) : Int) = k + ((1 : Nat) : Int) by omega]) x k bc (by omega) (by omega)
 exact ⟨cQ, c, by omega, ai, aN⟩
theorem avM (x : List dc) (k : Int) (bc : 0 ≤ k) (ad : k + 64 * (dS kc x) ≤ 1099511627776) : ∃ (cQ : List dc) (c : Nat), c ≤ 64 * (dS kc x) ∧ CT x k = some (k + (c : Int), cQ) := by
 unfold CT
 have e : g4 (fun x => 64 * ((kc x) + 1)) x = 64 * dS kc x := tB kc x
 have hl : x.length ≤ dS kc x := i2 _ _
 obtain ⟨cQ, c, af, ai⟩ := tC (l := s8) (fun x => 64 * ((kc x) + 1)) (fun m v k => by simp only [s8, CS]; rw [fa (Nat.le_refl _)]; rfl) (fun x k bc ad => by
  simp only [kc] at ad ⊢
  have gk : IntKind.i64.wrap (k + 1) = k + 1 := fU _ (by omega)
  obtain ⟨hb, cI, i_, gN⟩ := OL x.fq (k + 1) (by omega) (by omega)
  refine ⟨(dc.mk k hb), 1 + cI, by omega, fun m d r ak => ?_⟩
  simp only [s8, CS]
  rw [qv]
  simp only [cond_true, qu, rH, Option.bind_some, gk, gN]
  rw [qw ak]
  rw [show (((k + 1) + (cI : Int)) : Int) = k + ((1 + cI : Nat) : Int) by omega]) x k bc (by omega) (by omega)
 exact ⟨cQ, c, by omega, ai⟩
theorem avN (x : List b4) (k : Int) (bc : 0 ≤ k) (ad : k + 64 * (dS kd x) ≤ 1099511627776) : ∃ (cQ : List b4) (c : Nat), c ≤ 64 * (dS kd x) ∧ CV x k = some (k + (c : Int), cQ) := by
 unfold CV
 have e : g4 (fun x => 64 * ((kd x) + 1)) x = 64 * dS kd x := tB kd x
 have hl : x.length ≤ dS kd x := i2 _ _
 obtain ⟨cQ, c, af, ai⟩ := tC (l := s9) (fun x => 64 * ((kd x) + 1)) (fun m v k => by simp only [s9, CU]; rw [fa (Nat.le_refl _)]; rfl) (fun x k bc ad => by
  simp only [kd] at ad ⊢
  obtain ⟨s1, t1⟩ := wo k (by omega) (by omega)
  have gk : IntKind.i64.wrap (k + 1) = k + 1 := fU _ (by omega)
  obtain ⟨s2, t2⟩ := wo (k + 1) (by omega) (by omega)
  have hz : IntKind.i64.wrap ((k + 1) + 1) = (k + 1) + 1 := fU _ (by omega)
  obtain ⟨e9, t3⟩ := wo ((k + 1) + 1) (by omega) (by omega)
  have m2 : IntKind.i64.wrap (((k + 1) + 1) + 1) = ((k + 1) + 1) + 1 := fU _ (by omega)
  refine ⟨(b4.mk s1 s2 e9), 1 + 1 + 1, by omega, fun m d r ak => ?_⟩
  simp only [s9, CU]
  rw [qv]
  simp only [cond_true, qu, rH, Option.bind_some, t1, gk, t2, hz, t3, m2]
  rw [qw ak]
  rw [show ((((k + 1) + 1) + 1) : Int) = k + ((1 + 1 + 1 : Nat) : Int) by omega]) x k bc (by omega) (by omega)
 exact ⟨cQ, c, by omega, ai⟩
theorem OM (x : List (List UInt8)) (k : Int) (bc : 0 ≤ k) (ad : k + 64 * (dS List.length x) ≤ 1099511627776) : ∃ (cQ : List (List UInt8)) (c : Nat), c ≤ 64 * (dS List.length x) ∧ yC x k = some (k + (c : Int), cQ) := by
 unfold yC
 have e : g4 (fun x => 64 * (x.length + 1)) x = 64 * dS List.length x := tB List.length x
 have hl : x.length ≤ dS List.length x := i2 _ _
 obtain ⟨cQ, c, af, ai⟩ := tC (l := s_) (fun x => 64 * (x.length + 1)) (fun m v k => by simp only [s_, CW]; rw [fa (Nat.le_refl _)]; rfl) (fun x k bc ad => by
  obtain ⟨s1, t1⟩ := wo k (by omega) (by omega)
  have gk : IntKind.i64.wrap (k + 1) = k + 1 := fU _ (by omega)
  refine ⟨s1, 1, by omega, fun m d r ak => ?_⟩
  simp only [s_, CW]
  rw [qv]
  simp only [cond_true, qu, rH, Option.bind_some, t1, gk]
  rw [qw ak]
  rw [show ((k + 1) : Int) = k + ((1 : Nat) : Int) by omega]) x k bc (by omega) (by omega)
 exact ⟨cQ, c, by omega, ai⟩
theorem avO (x : dv) (k : Int) (bc : 0 ≤ k) (ad : k + 64 * ((oY x) + 1) ≤ 1099511627776) : ∃ (fQ : List bg) (fE : List dc) (hb : List b4) (kQ : List (List UInt8)) (oS : List (List UInt8)) (c : Nat), c ≤ 64 * ((oY x) + 1) ∧ CX x.b3 x.cn x.g7 x.gZ x.g0 k = some (k + (c : Int), fQ, fE, hb, kQ, oS) := by
 unfold CX
 simp only [oY] at ad ⊢
 obtain ⟨fE, cH, lR, fM⟩ := avL x.b3 k (by omega) (by omega)
 obtain ⟨hb, cI, i_, gN⟩ := avM x.cn (k + (cH : Int)) (by omega) (by omega)
 obtain ⟨kQ, kL, mh, hI⟩ := avN x.g7 ((k + (cH : Int)) + (cI : Int)) (by omega) (by omega)
 obtain ⟨oS, mf, bz, kF⟩ := OM x.gZ (((k + (cH : Int)) + (cI : Int)) + (kL : Int)) (by omega) (by omega)
 obtain ⟨avP, sk, bO, mg⟩ := OM x.g0 ((((k + (cH : Int)) + (cI : Int)) + (kL : Int)) + (mf : Int)) (by omega) (by omega)
 refine ⟨fE, hb, kQ, oS, avP, cH + cI + kL + mf + sk, by omega, ?_⟩
 simp only [Option.bind_some, fM, gN, hI, kF, mg]
 rw [show (k + ((cH + cI + kL + mf + sk : Nat) : Int)) = (((((k + (cH : Int)) + (cI : Int)) + (kL : Int)) + (mf : Int)) + (sk : Int)) by omega]
end Go.eR
