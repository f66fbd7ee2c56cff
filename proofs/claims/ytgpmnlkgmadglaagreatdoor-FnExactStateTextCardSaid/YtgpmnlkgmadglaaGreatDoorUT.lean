/- Part of a proof that a law returns true for every input. No condition. -/
import Derived.Test.YtgpmnlkgmadglaaGreatDoorP10
import Derived.Test.YtgpmnlkgmadglaaGreatDoorUG
namespace Go.eV
open Go Go.c0
set_option linter.unusedSimpArgs false
theorem aur (x : List gU) (n : Int) (aq : (x.length ≤ 9223372036854775807 ∧ ∀ y ∈ x, uz y)) (bc : 0 ≤ n) (aY : n ≤ 1048576) : wO x n = some (hB n (x.length + 0)) := by
 unfold wO
 refine l0 aq.1 bc aY fun h => ?_
 rw [hg _ (by omega)]
 exact p9 (by omega)
theorem aus (x : List (List gU)) (n : Int) (aq : (x.length ≤ 9223372036854775807 ∧ ∀ y ∈ x, (y.length ≤ 9223372036854775807 ∧ ∀ z ∈ y, uz z))) (bc : 0 ≤ n) (aY : n ≤ 1048576) : zz x n = some (hB n (eQ (fun x => x.length + 0) x)) := by
 unfold zz
 refine l0 aq.1 bc aY fun h => ?_
 rw [hg _ (by omega)]
 exact u_ (f := wO) (fun x => x.length + 0) x (fun _ _ _ => rfl) (fun y bt n bc aY => aur y n (aq.2 y bt) bc aY) (by omega) _ (by omega) (by omega)
def oF (x : iB) : Nat := (x.Name.length + ((eQ (fun x => x.length + 0) x.dz) + 0))
theorem aut (x : iB) (n : Int) (aq : wK x) (bc : 0 ≤ n) (aY : n ≤ 1048576) : wP x n = some (hB n (oF x)) := by
 unfold wP
 unfold oF
 obtain ⟨w0, h7, iz, pR⟩ := aq
 refine l0 iz (by omega) (by omega) fun cu => ?_
 rw [hg (n - (x.Name.length : Int)) (by omega)]
 refine pk (aus _ _ pR (by omega) (by omega)) fun yW => ?_
 exact p9 (by omega)
theorem auu (x : List iB) (n : Int) (aq : (x.length ≤ 9223372036854775807 ∧ ∀ y ∈ x, wK y)) (bc : 0 ≤ n) (aY : n ≤ 1048576) : zB x n = some (hB n (eQ oF x)) := by
 unfold zB
 refine l0 aq.1 bc aY fun h => ?_
 rw [hg _ (by omega)]
 exact u_ (f := wP) oF x (fun _ _ _ => rfl) (fun y bt n bc aY => aut y n (aq.2 y bt) bc aY) (by omega) _ (by omega) (by omega)
def mT (x : iu) : Nat := (x.Name.length + ((eQ oF x.Body) + 0))
theorem auv (x : iu) (n : Int) (aq : uA x) (bc : 0 ≤ n) (aY : n ≤ 1048576) : wQ x n = some (hB n (mT x)) := by
 unfold wQ
 unfold mT
 obtain ⟨w0, h7, iz⟩ := aq
 refine l0 w0 (by omega) (by omega) fun my => ?_
 rw [hg (n - (x.Name.length : Int)) (by omega)]
 refine pk (auu _ _ iz (by omega) (by omega)) fun cu => ?_
 exact p9 (by omega)
theorem NN (x : List iu) (n : Int) (aq : (x.length ≤ 9223372036854775807 ∧ ∀ y ∈ x, uA y)) (bc : 0 ≤ n) (aY : n ≤ 1048576) : wR x n = some (hB n (eQ mT x)) := by
 unfold wR
 refine l0 aq.1 bc aY fun h => ?_
 rw [hg _ (by omega)]
 exact u_ (f := wQ) mT x (fun _ _ _ => rfl) (fun y bt n bc aY => auv y n (aq.2 y bt) bc aY) (by omega) _ (by omega) (by omega)
theorem NO (x : List Int) (n : Int) (aq : (x.length ≤ 9223372036854775807 ∧ ∀ y ∈ x, (-9223372036854775808 ≤ y ∧ y ≤ 9223372036854775807))) (bc : 0 ≤ n) (aY : n ≤ 1048576) : wS x n = some (hB n (x.length + 0)) := by
 unfold wS
 refine l0 aq.1 bc aY fun h => ?_
 rw [hg _ (by omega)]
 exact p9 (by omega)
def oG (x : iC) : Nat := ((x.cX.length + 0) + 0)
theorem auw (x : iC) (n : Int) (aq : wL x) (bc : 0 ≤ n) (aY : n ≤ 1048576) : wT x n = some (hB n (oG x)) := by
 unfold wT
 unfold oG
 obtain ⟨w0, h7⟩ := aq
 refine pk (NO _ _ h7 (by omega) (by omega)) fun cy => ?_
 exact p9 (by omega)
theorem auy (x : List iC) (n : Int) (aq : (x.length ≤ 9223372036854775807 ∧ ∀ y ∈ x, wL y)) (bc : 0 ≤ n) (aY : n ≤ 1048576) : zE x n = some (hB n (eQ oG x)) := by
 unfold zE
 refine l0 aq.1 bc aY fun h => ?_
 rw [hg _ (by omega)]
 exact u_ (f := wT) oG x (fun _ _ _ => rfl) (fun y bt n bc aY => auw y n (aq.2 y bt) bc aY) (by omega) _ (by omega) (by omega)
def oH (x : iv) : Nat := (x.Left.length + (x.cp.length + (x.Result.length + 0)))
theorem auz (x : iv) (n : Int) (aq : wM x) (bc : 0 ≤ n) (aY : n ≤ 1048576) : wU x n = some (hB n (oH x)) := by
 unfold wU
 unfold oH
 obtain ⟨w0, h7, iz⟩ := aq
 refine l0 w0 (by omega) (by omega) fun my => ?_
 rw [hg (n - (x.Left.length : Int)) (by omega)]
 refine l0 h7 (by omega) (by omega) fun cy => ?_
 rw [hg ((n - (x.Left.length : Int)) - (x.cp.length : Int)) (by omega)]
 refine l0 iz (by omega) (by omega) fun cu => ?_
 rw [hg (((n - (x.Left.length : Int)) - (x.cp.length : Int)) - (x.Result.length : Int)) (by omega)]
 exact p9 (by omega)
theorem auA (x : List iv) (n : Int) (aq : (x.length ≤ 9223372036854775807 ∧ ∀ y ∈ x, wM y)) (bc : 0 ≤ n) (aY : n ≤ 1048576) : zG x n = some (hB n (eQ oH x)) := by
 unfold zG
 refine l0 aq.1 bc aY fun h => ?_
 rw [hg _ (by omega)]
 exact u_ (f := wU) oH x (fun _ _ _ => rfl) (fun y bt n bc aY => auz y n (aq.2 y bt) bc aY) (by omega) _ (by omega) (by omega)
theorem NP (x : List (List UInt8)) (n : Int) (aq : (x.length ≤ 9223372036854775807 ∧ ∀ y ∈ x, y.length ≤ 9223372036854775807)) (bc : 0 ≤ n) (aY : n ≤ 1048576) : wV x n = some (hB n (eQ List.length x)) := by
 unfold wV
 refine l0 aq.1 bc aY fun h => ?_
 rw [hg _ (by omega)]
 exact aun x (fun _ _ _ => rfl) aq.2 (by omega) _ (by omega) (by omega)
def q8 (x : kx) : Nat := ((eQ mT x.df) + ((eQ oG x.cY) + ((eQ oH x.hR) + ((eQ List.length x.hF) + ((eQ List.length x.hG) + 0)))))
theorem auB (x : kx) (n : Int) (aq : wN x) (bc : 0 ≤ n) (aY : n ≤ 1048576) : wW x n = some (hB n (q8 x)) := by
 unfold wW
 unfold q8
 obtain ⟨w0, h7, iz, pR, Gq⟩ := aq
 refine pk (NN _ _ w0 (by omega) (by omega)) fun my => ?_
 refine pk (auy _ _ h7 (by omega) (by omega)) fun cy => ?_
 refine pk (auA _ _ iz (by omega) (by omega)) fun cu => ?_
 refine pk (NP _ _ pR (by omega) (by omega)) fun yW => ?_
 refine pk (NP _ _ Gq (by omega) (by omega)) fun vw => ?_
 exact p9 (by omega)
def mU (x : iw) : Nat := ((x.cX.length + 0) + 0)
theorem auC (x : iw) (n : Int) (aq : uB x) (bc : 0 ≤ n) (aY : n ≤ 1048576) : wX x n = some (hB n (mU x)) := by
 unfold wX
 unfold mU
 obtain ⟨w0, h7, iz⟩ := aq
 refine pk (NO _ _ iz (by omega) (by omega)) fun cu => ?_
 exact p9 (by omega)
theorem auD (x : List iw) (n : Int) (aq : (x.length ≤ 9223372036854775807 ∧ ∀ y ∈ x, uB y)) (bc : 0 ≤ n) (aY : n ≤ 1048576) : zJ x n = some (hB n (eQ mU x)) := by
 unfold zJ
 refine l0 aq.1 bc aY fun h => ?_
 rw [hg _ (by omega)]
 exact u_ (f := wX) mU x (fun _ _ _ => rfl) (fun y bt n bc aY => auC y n (aq.2 y bt) bc aY) (by omega) _ (by omega) (by omega)
def va (x : gU) : cA := ⟨x.Kind, x.Value⟩
theorem auE (x : gU) : wY x = some (va x) := by
 unfold wY
 rfl
theorem auF (x : List gU) (h : (x.length + 0) ≤ 1048576) : wZ x = some (x.map va) := by
 unfold wZ
 have aR : x.length ≤ 1048576 := by omega
 rw [oE _ aR (by decide)]
 simp only [Option.bind_some]
 rw [p_ (f := wY) va x _ (fun _ _ _ => rfl) (fun y bt => auE y) aR]
theorem auG (x : List (List gU)) (h : (eQ (fun x => x.length + 0) x) ≤ 1048576) : zM x = some (x.map (List.map va)) := by
 unfold zM
 have aR : x.length ≤ 1048576 := Nat.le_trans (jT _ _) h
 rw [oE _ aR (by decide)]
 simp only [Option.bind_some]
 rw [p_ (f := wZ) (List.map va) x _ (fun _ _ _ => rfl) (fun y bt => auF y (Nat.le_trans (kp (f := (fun x => x.length + 0)) bt) h)) aR]
def vb (x : iB) : b7 := ⟨x.Kind, x.Number, x.Name, (x.dz.map (List.map va))⟩
def nL (x : b7) : Nat := (x.Name.length + ((eQ (fun x => x.length + 0) x.dz) + 0))
theorem auH (x : iB) : nL (vb x) = oF x := by
 simp only [nL, oF, vb, q3, List.length_map]
theorem auI (x : iB) (h : (oF x) ≤ 1048576) : w1 x = some (vb x) := by
 unfold w1
 unfold oF at h
 rw [auG _ (by omega)]
 rfl
theorem auJ (x : List iB) (h : (eQ oF x) ≤ 1048576) : zO x = some (x.map vb) := by
 unfold zO
 have aR : x.length ≤ 1048576 := Nat.le_trans (jT _ _) h
 rw [oE _ aR (by decide)]
 simp only [Option.bind_some]
 rw [p_ (f := w1) vb x _ (fun _ _ _ => rfl) (fun y bt => auI y (Nat.le_trans (kp (f := oF) bt) h)) aR]
def oI (x : iu) : bm := ⟨x.Name, x.dL, (x.Body.map vb)⟩
def oJ (x : bm) : Nat := (x.Name.length + ((eQ nL x.Body) + 0))
theorem NQ (x : iu) : oJ (oI x) = mT x := by
 simp only [oJ, mT, oI, q3, List.length_map, auH]
theorem auK (x : iu) (h : (mT x) ≤ 1048576) : w2 x = some (oI x) := by
 unfold w2
 unfold mT at h
 rw [auJ _ (by omega)]
 rfl
theorem NR (x : List iu) (h : (eQ mT x) ≤ 1048576) : w3 x = some (x.map oI) := by
 unfold w3
 have aR : x.length ≤ 1048576 := Nat.le_trans (jT _ _) h
 rw [oE _ aR (by decide)]
 simp only [Option.bind_some]
 rw [p_ (f := w2) oI x _ (fun _ _ _ => rfl) (fun y bt => auK y (Nat.le_trans (kp (f := mT) bt) h)) aR]
theorem NS (x : List Int) (h : (x.length + 0) ≤ 1048576) : w4 x = some x := by
 unfold w4
 have aR : x.length ≤ 1048576 := by omega
 rw [oE _ aR (by decide)]
 simp only [Option.bind_some]
 rw [p_ (f := some) id x _ (fun _ _ _ => rfl) (fun _ _ => rfl) aR, List.map_id]
def vc (x : iC) : eF := ⟨x.dT, x.cX⟩
def nM (x : eF) : Nat := ((x.cX.length + 0) + 0)
theorem auL (x : iC) : nM (vc x) = oG x := by
 simp only [nM, oG, vc, q3, List.length_map]
theorem auM (x : iC) (h : (oG x) ≤ 1048576) : w5 x = some (vc x) := by
 unfold w5
 unfold oG at h
 rw [NS _ (by omega)]
 rfl
theorem auN (x : List iC) (h : (eQ oG x) ≤ 1048576) : zS x = some (x.map vc) := by
 unfold zS
 have aR : x.length ≤ 1048576 := Nat.le_trans (jT _ _) h
 rw [oE _ aR (by decide)]
 simp only [Option.bind_some]
 rw [p_ (f := w5) vc x _ (fun _ _ _ => rfl) (fun y bt => auM y (Nat.le_trans (kp (f := oG) bt) h)) aR]
def vd (x : iv) : c2 := ⟨x.Left, x.cp, x.Result⟩
def nN (x : c2) : Nat := (x.Left.length + (x.cp.length + (x.Result.length + 0)))
theorem auO (x : iv) : nN (vd x) = oH x := by
 simp only [nN, oH, vd, q3, List.length_map]
theorem auP (x : iv) (h : (oH x) ≤ 1048576) : w6 x = some (vd x) := by
 unfold w6
 unfold oH at h
 rfl
theorem auQ (x : List iv) (h : (eQ oH x) ≤ 1048576) : zU x = some (x.map vd) := by
 unfold zU
 have aR : x.length ≤ 1048576 := Nat.le_trans (jT _ _) h
 rw [oE _ aR (by decide)]
 simp only [Option.bind_some]
 rw [p_ (f := w6) vd x _ (fun _ _ _ => rfl) (fun y bt => auP y (Nat.le_trans (kp (f := oH) bt) h)) aR]
theorem NT (x : List (List UInt8)) (h : (eQ List.length x) ≤ 1048576) : w7 x = some x := by
 unfold w7
 have aR : x.length ≤ 1048576 := Nat.le_trans (jT _ _) h
 rw [oE _ aR (by decide)]
 simp only [Option.bind_some]
 rw [p_ (f := some) id x _ (fun _ _ _ => rfl) (fun _ _ => rfl) aR, List.map_id]
def q9 (x : kx) : dh := ⟨(x.df.map oI), (x.cY.map vc), (x.hR.map vd), x.hF, x.hG⟩
def sY (x : dh) : Nat := ((eQ oJ x.df) + ((eQ nM x.cY) + ((eQ nN x.hR) + ((eQ List.length x.hF) + ((eQ List.length x.hG) + 0)))))
theorem auR (x : kx) : sY (q9 x) = q8 x := by
 simp only [sY, q8, q9, q3, List.length_map, NQ, auL, auO]
theorem auS (x : kx) (h : (q8 x) ≤ 1048576) : r_ x = some (q9 x) := by
 unfold r_
 unfold q8 at h
 rw [NR _ (by omega), auN _ (by omega), auQ _ (by omega), NT _ (by omega), NT _ (by omega)]
 rfl
def qb (x : iw) : c8 := ⟨x.dT, x.Part, x.cX⟩
def nO (x : c8) : Nat := ((x.cX.length + 0) + 0)
theorem auT (x : iw) : nO (qb x) = mU x := by
 simp only [nO, mU, qb, q3, List.length_map]
theorem auU (x : iw) (h : (mU x) ≤ 1048576) : w8 x = some (qb x) := by
 unfold w8
 unfold mU at h
 rw [NS _ (by omega)]
 rfl
theorem auV (x : List iw) (h : (eQ mU x) ≤ 1048576) : uC x = some (x.map qb) := by
 unfold uC
 have aR : x.length ≤ 1048576 := Nat.le_trans (jT _ _) h
 rw [oE _ aR (by decide)]
 simp only [Option.bind_some]
 rw [p_ (f := w8) qb x _ (fun _ _ _ => rfl) (fun y bt => auU y (Nat.le_trans (kp (f := mU) bt) h)) aR]
theorem auW (x : cA) : xE x x = some true := by
 unfold xE
 simp only [q4, q5, sW, cond_false, Option.bind_some, Bool.not_true]
theorem auX (x : List cA) (h : (x.length + 0) ≤ 1048576) : xF x x = some true := by
 unfold xF
 have aR : x.length ≤ 1048576 := by omega
 rw [qa, cond_false]
 exact sV (f := xE) x (fun _ _ => rfl) (fun y bt => auW y) aR
theorem auY (x : List (List cA)) (h : (eQ (fun x => x.length + 0) x) ≤ 1048576) : Bl x x = some true := by
 unfold Bl
 have aR : x.length ≤ 1048576 := Nat.le_trans (jT _ _) h
 rw [qa, cond_false]
 exact sV (f := xF) x (fun _ _ => rfl) (fun y bt => auX y (Nat.le_trans (kp (f := (fun x => x.length + 0)) bt) h)) aR
theorem auZ (x : b7) (h : (nL x) ≤ 1048576) : xG x x = some true := by
 unfold xG
 unfold nL at h
 simp only [q4, q5, sW, cond_false, Option.bind_some, Bool.not_true, auY x.dz (by omega)]
theorem au0 (x : List b7) (h : (eQ nL x) ≤ 1048576) : Bn x x = some true := by
 unfold Bn
 have aR : x.length ≤ 1048576 := Nat.le_trans (jT _ _) h
 rw [qa, cond_false]
 exact sV (f := xG) x (fun _ _ => rfl) (fun y bt => auZ y (Nat.le_trans (kp (f := nL) bt) h)) aR
theorem au1 (x : bm) (h : (oJ x) ≤ 1048576) : xH x x = some true := by
 unfold xH
 unfold oJ at h
 simp only [q4, q5, sW, cond_false, Option.bind_some, Bool.not_true, au0 x.Body (by omega)]
theorem NU (x : List bm) (h : (eQ oJ x) ≤ 1048576) : xI x x = some true := by
 unfold xI
 have aR : x.length ≤ 1048576 := Nat.le_trans (jT _ _) h
 rw [qa, cond_false]
 exact sV (f := xH) x (fun _ _ => rfl) (fun y bt => au1 y (Nat.le_trans (kp (f := oJ) bt) h)) aR
theorem NV (x : List Int) (h : (x.length + 0) ≤ 1048576) : xJ x x = some true := by
 unfold xJ
 have aR : x.length ≤ 1048576 := by omega
 rw [qa, cond_false]
 exact NI x (fun _ _ => rfl) q4 aR
theorem au2 (x : eF) (h : (nM x) ≤ 1048576) : xK x x = some true := by
 unfold xK
 unfold nM at h
 simp only [q4, q5, sW, cond_false, Option.bind_some, Bool.not_true, NV x.cX (by omega)]
theorem au3 (x : List eF) (h : (eQ nM x) ≤ 1048576) : Br x x = some true := by
 unfold Br
 have aR : x.length ≤ 1048576 := Nat.le_trans (jT _ _) h
 rw [qa, cond_false]
 exact sV (f := xK) x (fun _ _ => rfl) (fun y bt => au2 y (Nat.le_trans (kp (f := nM) bt) h)) aR
theorem au4 (x : c2) (h : (nN x) ≤ 1048576) : xL x x = some true := by
 unfold xL
 unfold nN at h
 simp only [q4, q5, sW, cond_false, Option.bind_some, Bool.not_true]
theorem au5 (x : List c2) (h : (eQ nN x) ≤ 1048576) : Bt x x = some true := by
 unfold Bt
 have aR : x.length ≤ 1048576 := Nat.le_trans (jT _ _) h
 rw [qa, cond_false]
 exact sV (f := xL) x (fun _ _ => rfl) (fun y bt => au4 y (Nat.le_trans (kp (f := nN) bt) h)) aR
theorem NW (x : List (List UInt8)) (h : (eQ List.length x) ≤ 1048576) : xM x x = some true := by
 unfold xM
 have aR : x.length ≤ 1048576 := Nat.le_trans (jT _ _) h
 rw [qa, cond_false]
 exact NI x (fun _ _ => rfl) q5 aR
theorem au6 (x : dh) (h : (sY x) ≤ 1048576) : xN x x = some true := by
 unfold xN
 unfold sY at h
 simp only [q4, q5, sW, cond_false, Option.bind_some, Bool.not_true, NU x.df (by omega), au3 x.cY (by omega), au5 x.hR (by omega), NW x.hF (by omega), NW x.hG (by omega)]
theorem au7 (x : c8) (h : (nO x) ≤ 1048576) : xO x x = some true := by
 unfold xO
 unfold nO at h
 simp only [q4, q5, sW, cond_false, Option.bind_some, Bool.not_true, NV x.cX (by omega)]
theorem au8 (x : List c8) (h : (eQ nO x) ≤ 1048576) : Bw x x = some true := by
 unfold Bw
 have aR : x.length ≤ 1048576 := Nat.le_trans (jT _ _) h
 rw [qa, cond_false]
 exact sV (f := xO) x (fun _ _ => rfl) (fun y bt => au7 y (Nat.le_trans (kp (f := nO) bt) h)) aR
end Go.eV
