/- Part of a proof that a law returns true for every input. No condition. -/
import Derived.Test.YtgpmnlkgmadglaaGreatDoorP9
import Derived.Test.YtgpmnlkgmadglaaGreatDoorUN
namespace Go.eR
open Go Go.cY
set_option linter.unusedSimpArgs false
theorem awt (x : List hp) (n : Int) (aq : (x.length ≤ 9223372036854775807 ∧ ∀ y ∈ x, wJ y)) (bn : 0 ≤ n) (bc : n ≤ 1048576) : y6 x n = some (jz n (x.length + 0)) := by
 unfold y6
 refine vb aq.1 bn bc fun h => ?_
 rw [fW _ (by omega)]
 exact xr (by omega)
theorem awu (x : List (List hp)) (n : Int) (aq : (x.length ≤ 9223372036854775807 ∧ ∀ y ∈ x, (y.length ≤ 9223372036854775807 ∧ ∀ z ∈ y, wJ z))) (bn : 0 ≤ n) (bc : n ≤ 1048576) : B9 x n = some (jz n (fK (fun x => x.length + 0) x)) := by
 unfold B9
 refine vb aq.1 bn bc fun h => ?_
 rw [fW _ (by omega)]
 exact I4 (f := y6) (fun x => x.length + 0) x (fun _ _ _ => rfl) (fun y hy n bn bc => awt y n (aq.2 y hy) bn bc) (by omega) _ (by omega) (by omega)
def pX (x : iN) : Nat := (x.Name.length + ((fK (fun x => x.length + 0) x.bN) + 0))
theorem awv (x : iN) (n : Int) (aq : y5 x) (bn : 0 ≤ n) (bc : n ≤ 1048576) : y7 x n = some (jz n (pX x)) := by
 unfold y7
 unfold pX
 obtain ⟨w0, gO, jJ, qw⟩ := aq
 refine vb jJ (by omega) (by omega) fun cw => ?_
 rw [fW (n - (x.Name.length : Int)) (by omega)]
 refine Eo (awu _ _ qw (by omega) (by omega)) fun sd => ?_
 exact xr (by omega)
theorem aww (x : List iN) (n : Int) (aq : (x.length ≤ 9223372036854775807 ∧ ∀ y ∈ x, y5 y)) (bn : 0 ≤ n) (bc : n ≤ 1048576) : Ca x n = some (jz n (fK pX x)) := by
 unfold Ca
 refine vb aq.1 bn bc fun h => ?_
 rw [fW _ (by omega)]
 exact I4 (f := y7) pX x (fun _ _ _ => rfl) (fun y hy n bn bc => awv y n (aq.2 y hy) bn bc) (by omega) _ (by omega) (by omega)
def n7 (x : ic) : Nat := (x.Name.length + ((fK pX x.Body) + 0))
theorem awx (x : ic) (n : Int) (aq : t_ x) (bn : 0 ≤ n) (bc : n ≤ 1048576) : y8 x n = some (jz n (n7 x)) := by
 unfold y8
 unfold n7
 obtain ⟨w0, gO, jJ⟩ := aq
 refine vb w0 (by omega) (by omega) fun pa => ?_
 rw [fW (n - (x.Name.length : Int)) (by omega)]
 refine Eo (aww _ _ jJ (by omega) (by omega)) fun cw => ?_
 exact xr (by omega)
theorem awy (x : List ic) (n : Int) (aq : (x.length ≤ 9223372036854775807 ∧ ∀ y ∈ x, t_ y)) (bn : 0 ≤ n) (bc : n ≤ 1048576) : y9 x n = some (jz n (fK n7 x)) := by
 unfold y9
 refine vb aq.1 bn bc fun h => ?_
 rw [fW _ (by omega)]
 exact I4 (f := y8) n7 x (fun _ _ _ => rfl) (fun y hy n bn bc => awx y n (aq.2 y hy) bn bc) (by omega) _ (by omega) (by omega)
theorem awz (x : List Int) (n : Int) (aq : (x.length ≤ 9223372036854775807 ∧ ∀ y ∈ x, (-9223372036854775808 ≤ y ∧ y ≤ 9223372036854775807))) (bn : 0 ≤ n) (bc : n ≤ 1048576) : Cc x n = some (jz n (x.length + 0)) := by
 unfold Cc
 refine vb aq.1 bn bc fun h => ?_
 rw [fW _ (by omega)]
 exact xr (by omega)
def rN (x : lE) : Nat := ((x.cD.length + 0) + 0)
theorem awA (x : lE) (n : Int) (aq : B7 x) (bn : 0 ≤ n) (bc : n ≤ 1048576) : Cd x n = some (jz n (rN x)) := by
 unfold Cd
 unfold rN
 obtain ⟨w0, gO, jJ⟩ := aq
 refine Eo (awz _ _ jJ (by omega) (by omega)) fun cw => ?_
 exact xr (by omega)
def xw (x : hp) : ba := ⟨x.Kind, x.Value⟩
theorem awB (x : hp) : y_ x = some (xw x) := by
 unfold y_
 rfl
theorem awC (x : List hp) (h : (x.length + 0) ≤ 1048576) : za x = some (x.map xw) := by
 unfold za
 have hl : x.length ≤ 1048576 := by omega
 rw [vc _ hl (by decide)]
 simp only [Option.bind_some]
 rw [Az (f := y_) xw x _ (fun _ _ _ => rfl) (fun y hy => awB y) hl]
theorem awD (x : List (List hp)) (h : (fK (fun x => x.length + 0) x) ≤ 1048576) : Cg x = some (x.map (List.map xw)) := by
 unfold Cg
 have hl : x.length ≤ 1048576 := Nat.le_trans (nz _ _) h
 rw [vc _ hl (by decide)]
 simp only [Option.bind_some]
 rw [Az (f := za) (List.map xw) x _ (fun _ _ _ => rfl) (fun y hy => awC y (Nat.le_trans (qS (f := (fun x => x.length + 0)) hy) h)) hl]
def xx (x : iN) : bs := ⟨x.Kind, x.Number, x.Name, (x.bN.map (List.map xw))⟩
def kY (x : bs) : Nat := (x.Name.length + ((fK (fun x => x.length + 0) x.bN) + 0))
theorem awE (x : iN) : kY (xx x) = pX x := by
 simp only [kY, pX, xx, Ay, List.length_map]
theorem awF (x : iN) (h : (pX x) ≤ 1048576) : zb x = some (xx x) := by
 unfold zb
 unfold pX at h
 rw [awD _ (by omega)]
 rfl
theorem awG (x : List iN) (h : (fK pX x) ≤ 1048576) : Ci x = some (x.map xx) := by
 unfold Ci
 have hl : x.length ≤ 1048576 := Nat.le_trans (nz _ _) h
 rw [vc _ hl (by decide)]
 simp only [Option.bind_some]
 rw [Az (f := zb) xx x _ (fun _ _ _ => rfl) (fun y hy => awF y (Nat.le_trans (qS (f := pX) hy) h)) hl]
def oV (x : ic) : aS := ⟨x.Name, x.c_, (x.Body.map xx)⟩
def lk (x : aS) : Nat := (x.Name.length + ((fK kY x.Body) + 0))
theorem Qw (x : ic) : lk (oV x) = n7 x := by
 simp only [lk, n7, oV, Ay, List.length_map, awE]
theorem awH (x : ic) (h : (n7 x) ≤ 1048576) : zc x = some (oV x) := by
 unfold zc
 unfold n7 at h
 rw [awG _ (by omega)]
 rfl
theorem awI (x : List ic) (h : (fK n7 x) ≤ 1048576) : sA x = some (x.map oV) := by
 unfold sA
 have hl : x.length ≤ 1048576 := Nat.le_trans (nz _ _) h
 rw [vc _ hl (by decide)]
 simp only [Option.bind_some]
 rw [Az (f := zc) oV x _ (fun _ _ _ => rfl) (fun y hy => awH y (Nat.le_trans (qS (f := n7) hy) h)) hl]
theorem awJ (x : List Int) (h : (x.length + 0) ≤ 1048576) : Cl x = some x := by
 unfold Cl
 have hl : x.length ≤ 1048576 := by omega
 rw [vc _ hl (by decide)]
 simp only [Option.bind_some]
 rw [Az (f := some) id x _ (fun _ _ _ => rfl) (fun _ _ => rfl) hl, List.map_id]
def xy (x : lE) : dP := ⟨x.dO, x.Part, x.cD⟩
def oW (x : dP) : Nat := ((x.cD.length + 0) + 0)
theorem awK (x : lE) : oW (xy x) = rN x := by
 simp only [oW, rN, xy, Ay, List.length_map]
theorem awL (x : lE) (h : (rN x) ≤ 1048576) : ua x = some (xy x) := by
 unfold ua
 unfold rN at h
 rw [awJ _ (by omega)]
 rfl
theorem awM (x : List Int) (h : (x.length + 0) ≤ 1048576) : Dr x x = some true := by
 unfold Dr
 have hl : x.length ≤ 1048576 := by omega
 rw [xu, cond_false]
 exact awp x (fun _ _ => rfl) xt hl
theorem Qx (x : dP) (h : (oW x) ≤ 1048576) : zJ x x = some true := by
 unfold zJ
 unfold oW at h
 simp only [xt, AB, AD, cond_false, Option.bind_some, Bool.not_true, awM x.cD (by omega)]
def mX (x : bd) : Nat := (x.Label.length + ((oW x.Next) + 0))
theorem awN (x : bd) (h : (mX x) ≤ 1048576) : zK x x = some true := by
 unfold zK
 unfold mX at h
 simp only [xt, AB, AD, cond_false, Option.bind_some, Bool.not_true, Qx x.Next (by omega)]
theorem awO (x : List bd) (h : (fK mX x) ≤ 1048576) : w6 x x = some true := by
 unfold w6
 have hl : x.length ≤ 1048576 := Nat.le_trans (nz _ _) h
 rw [xu, cond_false]
 exact AA (f := zK) x (fun _ _ => rfl) (fun y hy => awN y (Nat.le_trans (qS (f := mX) hy) h)) hl
theorem awP (x : ba) : zL x x = some true := by
 unfold zL
 simp only [xt, AB, AD, cond_false, Option.bind_some, Bool.not_true]
theorem awQ (x : List ba) (h : (x.length + 0) ≤ 1048576) : zM x x = some true := by
 unfold zM
 have hl : x.length ≤ 1048576 := by omega
 rw [xu, cond_false]
 exact AA (f := zL) x (fun _ _ => rfl) (fun y hy => awP y) hl
theorem awR (x : List (List ba)) (h : (fK (fun x => x.length + 0) x) ≤ 1048576) : Dv x x = some true := by
 unfold Dv
 have hl : x.length ≤ 1048576 := Nat.le_trans (nz _ _) h
 rw [xu, cond_false]
 exact AA (f := zM) x (fun _ _ => rfl) (fun y hy => awQ y (Nat.le_trans (qS (f := (fun x => x.length + 0)) hy) h)) hl
theorem awS (x : bs) (h : (kY x) ≤ 1048576) : zN x x = some true := by
 unfold zN
 unfold kY at h
 simp only [xt, AB, AD, cond_false, Option.bind_some, Bool.not_true, awR x.bN (by omega)]
theorem awT (x : List bs) (h : (fK kY x) ≤ 1048576) : Dx x x = some true := by
 unfold Dx
 have hl : x.length ≤ 1048576 := Nat.le_trans (nz _ _) h
 rw [xu, cond_false]
 exact AA (f := zN) x (fun _ _ => rfl) (fun y hy => awS y (Nat.le_trans (qS (f := kY) hy) h)) hl
theorem awU (x : aS) (h : (lk x) ≤ 1048576) : zO x x = some true := by
 unfold zO
 unfold lk at h
 simp only [xt, AB, AD, cond_false, Option.bind_some, Bool.not_true, awT x.Body (by omega)]
theorem awV (x : List aS) (h : (fK lk x) ≤ 1048576) : zP x x = some true := by
 unfold zP
 have hl : x.length ≤ 1048576 := Nat.le_trans (nz _ _) h
 rw [xu, cond_false]
 exact AA (f := zO) x (fun _ _ => rfl) (fun y hy => awU y (Nat.le_trans (qS (f := lk) hy) h)) hl
theorem I7 (k : Int) (bn : 0 ≤ k) (aa : k ≤ 1099511627776) : ∃ t, uI k = some t := by
 have key : ∀ (n : Nat) (k : Int), 0 ≤ k → k ≤ n → n ≤ 1099511627776 → ∀ t : List UInt8, t.length + n ≤ 1099511627776 → ∃ r, ∀ m, n < m → sL m k t = some r := by
  intro n
  induction n with
  | zero =>
    intro k af ag aF t a1
    refine ⟨[109] ++ t, fun m hm => ?_⟩
    obtain ⟨m, rfl⟩ : ∃ j, m = j + 1 := ⟨m - 1, by omega⟩
    simp only [sL, zQ]
    rw [show decide (0 < k) = false by simp; omega, cond_false, show iF (1 + t.length) = some () by unfold iF; rw [if_pos (by omega)]]
    rfl
  | succ n ih =>
    intro k af ag aF t a1
    by_cases ar : 0 < k
    ·have ai : Int.tdiv k 10 = k / 10 := Int.tdiv_eq_ediv_of_nonneg af
     have hw : IntKind.i64.wrap (Int.tdiv k 10) = k / 10 := by rw [ai]; exact fW _ (by omega)
     obtain ⟨r, aW⟩ := ih (k / 10) (by omega) (by omega) (by omega) ([(mx (IntKind.i64.wrap (48 + (Int.tmod k 10))))] ++ t) (by simp only [List.length_append, List.length_cons, List.length_nil]; omega)
     refine ⟨r, fun m hm => ?_⟩
     obtain ⟨m, rfl⟩ : ∃ j, m = j + 1 := ⟨m - 1, by omega⟩
     simp only [sL, zQ]
     rw [show decide (0 < k) = true by simp; omega, cond_true, show iF (1 + t.length) = some () by unfold iF; rw [if_pos (by omega)]]
     simp only [Option.bind_some, hw]
     exact aW m (by omega)
    ·refine ⟨[109] ++ t, fun m hm => ?_⟩
     obtain ⟨m, rfl⟩ : ∃ j, m = j + 1 := ⟨m - 1, by omega⟩
     simp only [sL, zQ]
     rw [show decide (0 < k) = false by simp; omega, cond_false, show iF (1 + t.length) = some () by unfold iF; rw [if_pos (by omega)]]
     rfl
 unfold uI
 by_cases ar : k ≤ 0
 ·exact ⟨_, by rw [show decide (k ≤ 0) = true by simpa using ar]; rfl⟩
 ·obtain ⟨r, aW⟩ := key k.toNat k bn (by omega) (by omega) [] (by simp only [List.length_nil]; omega)
  exact ⟨r, by rw [show decide (k ≤ 0) = false by simp; omega, cond_false]; exact hE (k.toNat + 1) fun m hm => aW m (by omega)⟩
theorem awW (x : List ba) (k : Int) (bn : 0 ≤ k) (aa : k + 64 * (x.length + 0) ≤ 1099511627776) : ∃ (cA : List ba) (c : Nat), c ≤ 64 * (x.length + 0) ∧ DA x k = some (k + (c : Int), cA) := by
 unfold DA
 have e : hz (fun _ => 64) x = 64 * x.length := I6 64 x
 obtain ⟨cA, c, af, ag⟩ := Es (l := uJ) (fun _ => 64) (fun m v k => by simp only [uJ, Dz]; rw [gI (Nat.le_refl _)]; rfl) (fun x k bn aa => by
  have gO : IntKind.i64.wrap (k + 1) = k + 1 := fW _ (by omega)
  have jJ : IntKind.i64.wrap ((k + 1) + 1) = (k + 1) + 1 := fW _ (by omega)
  refine ⟨(ba.mk k (k + 1)), 1 + 1, by omega, fun m d r ai => ?_⟩
  simp only [uJ, Dz]
  rw [s3]
  simp only [cond_true, s0, xv, Option.bind_some, gO, jJ]
  rw [s4 ai]
  rw [show (((k + 1) + 1) : Int) = k + ((1 + 1 : Nat) : Int) by omega]) x k bn (by omega) (by omega)
 exact ⟨cA, c, by omega, ag⟩
theorem awX (x : List (List ba)) (k : Int) (bn : 0 ≤ k) (aa : k + 64 * (fK (fun x => x.length + 0) x) ≤ 1099511627776) : ∃ (cA : List (List ba)) (c : Nat), c ≤ 64 * (fK (fun x => x.length + 0) x) ∧ DC x k = some (k + (c : Int), cA) := by
 unfold DC
 have e : hz (fun x => 64 * ((x.length + 0) + 1)) x = 64 * fK (fun x => x.length + 0) x := AG (fun x => x.length + 0) x
 have hl : x.length ≤ fK (fun x => x.length + 0) x := nz _ _
 obtain ⟨cA, c, af, ag⟩ := Es (l := uK) (fun x => 64 * ((x.length + 0) + 1)) (fun m v k => by simp only [uK, DB]; rw [gI (Nat.le_refl _)]; rfl) (fun x k bn aa => by
  obtain ⟨fM, cv, hN, m1⟩ := awW x k (by omega) (by omega)
  refine ⟨fM, cv, by omega, fun m d r ai => ?_⟩
  simp only [uK, DB]
  rw [s3]
  simp only [cond_true, s0, xv, Option.bind_some, m1]
  rw [s4 ai]) x k bn (by omega) (by omega)
 exact ⟨cA, c, by omega, ag⟩
theorem awY (x : List bs) (k : Int) (bn : 0 ≤ k) (aa : k + 64 * (fK kY x) ≤ 1099511627776) : ∃ (cA : List bs) (c : Nat), c ≤ 64 * (fK kY x) ∧ DE x k = some (k + (c : Int), cA) := by
 unfold DE
 have e : hz (fun x => 64 * ((kY x) + 1)) x = 64 * fK kY x := AG kY x
 have hl : x.length ≤ fK kY x := nz _ _
 obtain ⟨cA, c, af, ag⟩ := Es (l := uL) (fun x => 64 * ((kY x) + 1)) (fun m v k => by simp only [uL, DD]; rw [gI (Nat.le_refl _)]; rfl) (fun x k bn aa => by
  simp only [kY] at aa ⊢
  have gO : IntKind.i64.wrap (k + 1) = k + 1 := fW _ (by omega)
  have jJ : IntKind.i64.wrap ((k + 1) + 1) = (k + 1) + 1 := fW _ (by omega)
  obtain ⟨fi, t3⟩ := I7 ((k + 1) + 1) (by omega) (by omega)
  have qw : IntKind.i64.wrap (((k + 1) + 1) + 1) = ((k + 1) + 1) + 1 := fW _ (by omega)
  obtain ⟨awZ, r2, b8, m4⟩ := awX x.bN (((k + 1) + 1) + 1) (by omega) (by omega)
  refine ⟨(bs.mk k (k + 1) fi awZ), 1 + 1 + 1 + r2, by omega, fun m d r ai => ?_⟩
  simp only [uL, DD]
  rw [s3]
  simp only [cond_true, s0, xv, Option.bind_some, gO, jJ, t3, qw, m4]
  rw [s4 ai]
  rw [show (((((k + 1) + 1) + 1) + (r2 : Int)) : Int) = k + ((1 + 1 + 1 + r2 : Nat) : Int) by omega]) x k bn (by omega) (by omega)
 exact ⟨cA, c, by omega, ag⟩
theorem aw0 (x : List aS) (k : Int) (bn : 0 ≤ k) (aa : k + 64 * (fK lk x) ≤ 1099511627776) : ∃ (cA : List aS) (c : Nat), c ≤ 64 * (fK lk x) ∧ DG x k = some (k + (c : Int), cA) := by
 unfold DG
 have e : hz (fun x => 64 * ((lk x) + 1)) x = 64 * fK lk x := AG lk x
 have hl : x.length ≤ fK lk x := nz _ _
 obtain ⟨cA, c, af, ag⟩ := Es (l := uM) (fun x => 64 * ((lk x) + 1)) (fun m v k => by simp only [uM, DF]; rw [gI (Nat.le_refl _)]; rfl) (fun x k bn aa => by
  simp only [lk] at aa ⊢
  obtain ⟨s1, t1⟩ := I7 k (by omega) (by omega)
  have gO : IntKind.i64.wrap (k + 1) = k + 1 := fW _ (by omega)
  have jJ : IntKind.i64.wrap ((k + 1) + 1) = (k + 1) + 1 := fW _ (by omega)
  obtain ⟨sw, sd, hn, m3⟩ := awY x.Body ((k + 1) + 1) (by omega) (by omega)
  refine ⟨(aS.mk s1 (k + 1) sw), 1 + 1 + sd, by omega, fun m d r ai => ?_⟩
  simp only [uM, DF]
  rw [s3]
  simp only [cond_true, s0, xv, Option.bind_some, t1, gO, jJ, m3]
  rw [s4 ai]
  rw [show ((((k + 1) + 1) + (sd : Int)) : Int) = k + ((1 + 1 + sd : Nat) : Int) by omega]) x k bn (by omega) (by omega)
 exact ⟨cA, c, by omega, ag⟩
theorem Qy (x : List Int) (k : Int) (bn : 0 ≤ k) (aa : k + 64 * (x.length + 0) ≤ 1099511627776) : ∃ (cA : List Int) (c : Nat), c ≤ 64 * (x.length + 0) ∧ zR x k = some (k + (c : Int), cA) ∧ DM cA k = some (k + (c : Int)) := by
 unfold zR DM
 have e : hz (fun _ => 64) x = 64 * x.length := I6 64 x
 obtain ⟨cA, c, af, ag, aF⟩ := Qu (l := uN) (hl := uP) (fun _ => 64) (fun m v k => by simp only [uN, DH]; rw [gI (Nat.le_refl _)]; rfl) (fun a m k => by simp only [uP, DL]; rw [gI (Nat.le_refl _)]; rfl) (fun x k bn aa => by
  have gO : IntKind.i64.wrap (k + 1) = k + 1 := fW _ (by omega)
  refine ⟨k, 1, by omega, fun m d r ai => ⟨?_, ?_⟩⟩
  ·simp only [uN, DH]
   rw [s3]
   simp only [cond_true, s0, xv, Option.bind_some, gO]
   rw [s4 ai]
   rw [show ((k + 1) : Int) = k + ((1 : Nat) : Int) by omega]
  ·simp only [uP, DL]
   rw [s3]
   simp only [cond_true, cond_false, s0, Option.bind_some, bne_self_eq_false, beq_self_eq_true, Bool.not_true, gO]
   rw [s4 ai]
   rw [show ((k + 1) : Int) = k + ((1 : Nat) : Int) by omega]) x k bn (by omega) (by omega)
 exact ⟨cA, c, by omega, ag, aF⟩
theorem aw1 (x : dP) (k : Int) (bn : 0 ≤ k) (aa : k + 64 * ((oW x) + 1) ≤ 1099511627776) : ∃ (h2 : Int) (fM : Int) (iT : List Int) (c : Nat), c ≤ 64 * ((oW x) + 1) ∧ DI x.dO x.Part x.cD k = some (k + (c : Int), h2, fM, iT) := by
 unfold DI
 simp only [oW] at aa ⊢
 obtain ⟨fM, cv, hN, m1⟩ := Qy x.cD k (by omega) (by omega)
 refine ⟨x.dO, x.Part, fM, cv, by omega, ?_⟩
 simp only [Option.bind_some, m1]
theorem aw2 (x : List bd) (k : Int) (bn : 0 ≤ k) (aa : k + 64 * (fK mX x) ≤ 1099511627776) : ∃ (cA : List bd) (c : Nat), c ≤ 64 * (fK mX x) ∧ DK x k = some (k + (c : Int), cA) ∧ zS cA k = some (k + (c : Int)) := by
 unfold DK zS
 have e : hz (fun x => 64 * ((mX x) + 1)) x = 64 * fK mX x := AG mX x
 have hl : x.length ≤ fK mX x := nz _ _
 obtain ⟨cA, c, af, ag, aF⟩ := Qu (l := uO) (hl := uQ) (fun x => 64 * ((mX x) + 1)) (fun m v k => by simp only [uO, DJ]; rw [gI (Nat.le_refl _)]; rfl) (fun a m k => by simp only [uQ, DN]; rw [gI (Nat.le_refl _)]; rfl) (fun x k bn aa => by
  simp only [mX, oW] at aa ⊢
  obtain ⟨s1, t1⟩ := I7 k (by omega) (by omega)
  have gO : IntKind.i64.wrap (k + 1) = k + 1 := fW _ (by omega)
  have qw : IntKind.i64.wrap ((k + 1) + 1) = (k + 1) + 1 := fW _ (by omega)
  have Qz : IntKind.i64.wrap (((k + 1) + 1) + 1) = ((k + 1) + 1) + 1 := fW _ (by omega)
  obtain ⟨aw3, qk, c8, m5, mh⟩ := Qy x.Next.cD (((k + 1) + 1) + 1) (by omega) (by omega)
  have er := I5 (k := ((((k + 1) + 1) + 1) + (qk : Int))) (by omega)
  refine ⟨(bd.mk s1 (dP.mk (k + 1) ((k + 1) + 1) aw3)), 1 + 1 + 1 + qk, by omega, fun m d r ai => ⟨?_, ?_⟩⟩
  ·simp only [uO, DJ]
   rw [s3]
   simp only [cond_true, s0, xv, Option.bind_some, t1, gO, qw, Qz, m5]
   rw [s4 ai]
   rw [show (((((k + 1) + 1) + 1) + (qk : Int)) : Int) = k + ((1 + 1 + 1 + qk : Nat) : Int) by omega]
  ·simp only [uQ, DN]
   rw [s3]
   simp only [cond_true, cond_false, s0, Option.bind_some, bne_self_eq_false, beq_self_eq_true, Bool.not_true, mh, er, t1, gO, qw, Qz]
   rw [s4 ai]
   rw [show (((((k + 1) + 1) + 1) + (qk : Int)) : Int) = k + ((1 + 1 + 1 + qk : Nat) : Int) by omega]) x k bn (by omega) (by omega)
 exact ⟨cA, c, by omega, ag, aF⟩
end Go.eR
