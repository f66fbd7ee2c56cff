/- Part of a proof that a law returns true for every input. No condition. -/
import Derived.Test.YtbemmmimelklkaaGreatP3
import Derived.Test.YtbemmmimelklkaaGreatUN
namespace Go.fJ
open Go Go.dg
set_option linter.unusedSimpArgs false
theorem asB (x : List gO) (n : Int) (aA : (x.length ≤ 9223372036854775807 ∧ ∀ y ∈ x, uD y)) (ba : 0 ≤ n) (bd : n ≤ 1048576) : wS x n = some (hM n (x.length + 0)) := by
 unfold wS
 refine mr aA.1 ba bd fun h => ?_
 rw [fY _ (by omega)]
 exact qZ (by omega)
theorem asC (x : List (List gO)) (n : Int) (aA : (x.length ≤ 9223372036854775807 ∧ ∀ y ∈ x, (y.length ≤ 9223372036854775807 ∧ ∀ z ∈ y, uD z))) (ba : 0 ≤ n) (bd : n ≤ 1048576) : zZ x n = some (hM n (dm (fun x => x.length + 0) x)) := by
 unfold zZ
 refine mr aA.1 ba bd fun h => ?_
 rw [fY _ (by omega)]
 exact yz (f := wS) (fun x => x.length + 0) x (fun _ _ _ => rfl) (fun y bL n ba bd => asB y n (aA.2 y bL) ba bd) (by omega) _ (by omega) (by omega)
def oA (x : ic) : Nat := (x.Name.length + ((dm (fun x => x.length + 0) x.cr) + 0))
theorem asD (x : ic) (n : Int) (aA : wO x) (ba : 0 ≤ n) (bd : n ≤ 1048576) : wT x n = some (hM n (oA x)) := by
 unfold wT
 unfold oA
 obtain ⟨w0, f_, hv, mJ⟩ := aA
 refine mr hv (by omega) (by omega) fun cE => ?_
 rw [fY (n - (x.Name.length : Int)) (by omega)]
 refine pW (asC _ _ mJ (by omega) (by omega)) fun lh => ?_
 exact qZ (by omega)
theorem asE (x : List ic) (n : Int) (aA : (x.length ≤ 9223372036854775807 ∧ ∀ y ∈ x, wO y)) (ba : 0 ≤ n) (bd : n ≤ 1048576) : z1 x n = some (hM n (dm oA x)) := by
 unfold z1
 refine mr aA.1 ba bd fun h => ?_
 rw [fY _ (by omega)]
 exact yz (f := wT) oA x (fun _ _ _ => rfl) (fun y bL n ba bd => asD y n (aA.2 y bL) ba bd) (by omega) _ (by omega) (by omega)
def mZ (x : h2) : Nat := (x.Name.length + ((dm oA x.Body) + 0))
theorem asF (x : h2) (n : Int) (aA : uE x) (ba : 0 ≤ n) (bd : n ≤ 1048576) : wU x n = some (hM n (mZ x)) := by
 unfold wU
 unfold mZ
 obtain ⟨w0, f_, hv⟩ := aA
 refine mr w0 (by omega) (by omega) fun mz => ?_
 rw [fY (n - (x.Name.length : Int)) (by omega)]
 refine pW (asE _ _ hv (by omega) (by omega)) fun cE => ?_
 exact qZ (by omega)
theorem MM (x : List h2) (n : Int) (aA : (x.length ≤ 9223372036854775807 ∧ ∀ y ∈ x, uE y)) (ba : 0 ≤ n) (bd : n ≤ 1048576) : wV x n = some (hM n (dm mZ x)) := by
 unfold wV
 refine mr aA.1 ba bd fun h => ?_
 rw [fY _ (by omega)]
 exact yz (f := wU) mZ x (fun _ _ _ => rfl) (fun y bL n ba bd => asF y n (aA.2 y bL) ba bd) (by omega) _ (by omega) (by omega)
theorem asG (x : List Int) (n : Int) (aA : (x.length ≤ 9223372036854775807 ∧ ∀ y ∈ x, (-9223372036854775808 ≤ y ∧ y ≤ 9223372036854775807))) (ba : 0 ≤ n) (bd : n ≤ 1048576) : z3 x n = some (hM n (x.length + 0)) := by
 unfold z3
 refine mr aA.1 ba bd fun h => ?_
 rw [fY _ (by omega)]
 exact qZ (by omega)
def oB (x : ie) : Nat := ((x.fk.length + 0) + 0)
theorem asH (x : ie) (n : Int) (aA : wP x) (ba : 0 ≤ n) (bd : n ≤ 1048576) : wW x n = some (hM n (oB x)) := by
 unfold wW
 unfold oB
 obtain ⟨w0, f_⟩ := aA
 refine pW (asG _ _ f_ (by omega) (by omega)) fun cv => ?_
 exact qZ (by omega)
theorem asI (x : List ie) (n : Int) (aA : (x.length ≤ 9223372036854775807 ∧ ∀ y ∈ x, wP y)) (ba : 0 ≤ n) (bd : n ≤ 1048576) : z5 x n = some (hM n (dm oB x)) := by
 unfold z5
 refine mr aA.1 ba bd fun h => ?_
 rw [fY _ (by omega)]
 exact yz (f := wW) oB x (fun _ _ _ => rfl) (fun y bL n ba bd => asH y n (aA.2 y bL) ba bd) (by omega) _ (by omega) (by omega)
def oC (x : h3) : Nat := (x.Left.length + (x.b_.length + (x.Result.length + 0)))
theorem asJ (x : h3) (n : Int) (aA : wQ x) (ba : 0 ≤ n) (bd : n ≤ 1048576) : wX x n = some (hM n (oC x)) := by
 unfold wX
 unfold oC
 obtain ⟨w0, f_, hv⟩ := aA
 refine mr w0 (by omega) (by omega) fun mz => ?_
 rw [fY (n - (x.Left.length : Int)) (by omega)]
 refine mr f_ (by omega) (by omega) fun cv => ?_
 rw [fY ((n - (x.Left.length : Int)) - (x.b_.length : Int)) (by omega)]
 refine mr hv (by omega) (by omega) fun cE => ?_
 rw [fY (((n - (x.Left.length : Int)) - (x.b_.length : Int)) - (x.Result.length : Int)) (by omega)]
 exact qZ (by omega)
theorem asK (x : List h3) (n : Int) (aA : (x.length ≤ 9223372036854775807 ∧ ∀ y ∈ x, wQ y)) (ba : 0 ≤ n) (bd : n ≤ 1048576) : z7 x n = some (hM n (dm oC x)) := by
 unfold z7
 refine mr aA.1 ba bd fun h => ?_
 rw [fY _ (by omega)]
 exact yz (f := wX) oC x (fun _ _ _ => rfl) (fun y bL n ba bd => asJ y n (aA.2 y bL) ba bd) (by omega) _ (by omega) (by omega)
theorem MN (x : List (List UInt8)) (n : Int) (aA : (x.length ≤ 9223372036854775807 ∧ ∀ y ∈ x, y.length ≤ 9223372036854775807)) (ba : 0 ≤ n) (bd : n ≤ 1048576) : wY x n = some (hM n (dm List.length x)) := by
 unfold wY
 refine mr aA.1 ba bd fun h => ?_
 rw [fY _ (by omega)]
 exact asz x (fun _ _ _ => rfl) aA.2 (by omega) _ (by omega) (by omega)
def q2 (x : km) : Nat := ((dm mZ x.bQ) + ((dm oB x.cX) + ((dm oC x.gX) + ((dm List.length x.gQ) + ((dm List.length x.gR) + 0)))))
theorem asL (x : km) (n : Int) (aA : wR x) (ba : 0 ≤ n) (bd : n ≤ 1048576) : wZ x n = some (hM n (q2 x)) := by
 unfold wZ
 unfold q2
 obtain ⟨w0, f_, hv, mJ, F6⟩ := aA
 refine pW (MM _ _ w0 (by omega) (by omega)) fun mz => ?_
 refine pW (asI _ _ f_ (by omega) (by omega)) fun cv => ?_
 refine pW (asK _ _ hv (by omega) (by omega)) fun cE => ?_
 refine pW (MN _ _ mJ (by omega) (by omega)) fun lh => ?_
 refine pW (MN _ _ F6 (by omega) (by omega)) fun lZ => ?_
 exact qZ (by omega)
def vp (x : gO) : bO := ⟨x.Kind, x.Value⟩
theorem asM (x : gO) : w1 x = some (vp x) := by
 unfold w1
 rfl
theorem asN (x : List gO) (h : (x.length + 0) ≤ 1048576) : w2 x = some (x.map vp) := by
 unfold w2
 have hl : x.length ≤ 1048576 := by omega
 rw [pX _ hl (by decide)]
 simp only [Option.bind_some]
 rw [q0 (f := w1) vp x _ (fun _ _ _ => rfl) (fun y bL => asM y) hl]
theorem asO (x : List (List gO)) (h : (dm (fun x => x.length + 0) x) ≤ 1048576) : Aa x = some (x.map (List.map vp)) := by
 unfold Aa
 have hl : x.length ≤ 1048576 := Nat.le_trans (iq _ _) h
 rw [pX _ hl (by decide)]
 simp only [Option.bind_some]
 rw [q0 (f := w2) (List.map vp) x _ (fun _ _ _ => rfl) (fun y bL => asN y (Nat.le_trans (kN (f := (fun x => x.length + 0)) bL) h)) hl]
def vq (x : ic) : bx := ⟨x.Kind, x.Number, x.Name, (x.cr.map (List.map vp))⟩
def j_ (x : bx) : Nat := (x.Name.length + ((dm (fun x => x.length + 0) x.cr) + 0))
theorem asP (x : ic) : j_ (vq x) = oA x := by
 simp only [j_, oA, vq, vk, List.length_map]
theorem asQ (x : ic) (h : (oA x) ≤ 1048576) : w3 x = some (vq x) := by
 unfold w3
 unfold oA at h
 rw [asO _ (by omega)]
 rfl
theorem asR (x : List ic) (h : (dm oA x) ≤ 1048576) : Ac x = some (x.map vq) := by
 unfold Ac
 have hl : x.length ≤ 1048576 := Nat.le_trans (iq _ _) h
 rw [pX _ hl (by decide)]
 simp only [Option.bind_some]
 rw [q0 (f := w3) vq x _ (fun _ _ _ => rfl) (fun y bL => asQ y (Nat.le_trans (kN (f := oA) bL) h)) hl]
def oD (x : h2) : a9 := ⟨x.Name, x.cZ, (x.Body.map vq)⟩
def ku (x : a9) : Nat := (x.Name.length + ((dm j_ x.Body) + 0))
theorem MO (x : h2) : ku (oD x) = mZ x := by
 simp only [ku, mZ, oD, vk, List.length_map, asP]
theorem asS (x : h2) (h : (mZ x) ≤ 1048576) : w4 x = some (oD x) := by
 unfold w4
 unfold mZ at h
 rw [asR _ (by omega)]
 rfl
theorem MP (x : List h2) (h : (dm mZ x) ≤ 1048576) : w5 x = some (x.map oD) := by
 unfold w5
 have hl : x.length ≤ 1048576 := Nat.le_trans (iq _ _) h
 rw [pX _ hl (by decide)]
 simp only [Option.bind_some]
 rw [q0 (f := w4) oD x _ (fun _ _ _ => rfl) (fun y bL => asS y (Nat.le_trans (kN (f := mZ) bL) h)) hl]
theorem asT (x : List Int) (h : (x.length + 0) ≤ 1048576) : Af x = some x := by
 unfold Af
 have hl : x.length ≤ 1048576 := by omega
 rw [pX _ hl (by decide)]
 simp only [Option.bind_some]
 rw [q0 (f := some) id x _ (fun _ _ _ => rfl) (fun _ _ => rfl) hl, List.map_id]
def vr (x : ie) : c2 := ⟨x.gP, x.fk⟩
def ka (x : c2) : Nat := ((x.fk.length + 0) + 0)
theorem asU (x : ie) : ka (vr x) = oB x := by
 simp only [ka, oB, vr, vk, List.length_map]
theorem asV (x : ie) (h : (oB x) ≤ 1048576) : w6 x = some (vr x) := by
 unfold w6
 unfold oB at h
 rw [asT _ (by omega)]
 rfl
theorem asW (x : List ie) (h : (dm oB x) ≤ 1048576) : Ah x = some (x.map vr) := by
 unfold Ah
 have hl : x.length ≤ 1048576 := Nat.le_trans (iq _ _) h
 rw [pX _ hl (by decide)]
 simp only [Option.bind_some]
 rw [q0 (f := w6) vr x _ (fun _ _ _ => rfl) (fun y bL => asV y (Nat.le_trans (kN (f := oB) bL) h)) hl]
def vt (x : h3) : bR := ⟨x.Left, x.b_, x.Result⟩
def kb (x : bR) : Nat := (x.Left.length + (x.b_.length + (x.Result.length + 0)))
theorem asX (x : h3) : kb (vt x) = oC x := by
 simp only [kb, oC, vt, vk, List.length_map]
theorem asY (x : h3) (h : (oC x) ≤ 1048576) : w7 x = some (vt x) := by
 unfold w7
 unfold oC at h
 rfl
theorem asZ (x : List h3) (h : (dm oC x) ≤ 1048576) : Aj x = some (x.map vt) := by
 unfold Aj
 have hl : x.length ≤ 1048576 := Nat.le_trans (iq _ _) h
 rw [pX _ hl (by decide)]
 simp only [Option.bind_some]
 rw [q0 (f := w7) vt x _ (fun _ _ _ => rfl) (fun y bL => asY y (Nat.le_trans (kN (f := oC) bL) h)) hl]
theorem MQ (x : List (List UInt8)) (h : (dm List.length x) ≤ 1048576) : w8 x = some x := by
 unfold w8
 have hl : x.length ≤ 1048576 := Nat.le_trans (iq _ _) h
 rw [pX _ hl (by decide)]
 simp only [Option.bind_some]
 rw [q0 (f := some) id x _ (fun _ _ _ => rfl) (fun _ _ => rfl) hl, List.map_id]
def ph (x : km) : dU := ⟨(x.bQ.map oD), (x.cX.map vr), (x.gX.map vt), x.gQ, x.gR⟩
def oE (x : dU) : Nat := ((dm ku x.bQ) + ((dm ka x.cX) + ((dm kb x.gX) + ((dm List.length x.gQ) + ((dm List.length x.gR) + 0)))))
theorem MR (x : km) : oE (ph x) = q2 x := by
 simp only [oE, q2, ph, vk, List.length_map, MO, asU, asX]
theorem as0 (x : km) (h : (q2 x) ≤ 1048576) : qK x = some (ph x) := by
 unfold qK
 unfold q2 at h
 rw [MP _ (by omega), asW _ (by omega), asZ _ (by omega), MQ _ (by omega), MQ _ (by omega)]
 rfl
theorem MS (x : List Int) (h : (x.length + 0) ≤ 1048576) : uW x x = some true := by
 unfold uW
 have hl : x.length ≤ 1048576 := by omega
 rw [pY, cond_false]
 exact MH x (fun _ _ => rfl) s0 hl
theorem as1 (x : List (List Int)) (h : (dm (fun x => x.length + 0) x) ≤ 1048576) : uX x x = some true := by
 unfold uX
 have hl : x.length ≤ 1048576 := Nat.le_trans (iq _ _) h
 rw [pY, cond_false]
 exact sZ (f := uW) x (fun _ _ => rfl) (fun y bL => MS y (Nat.le_trans (kN (f := (fun x => x.length + 0)) bL) h)) hl
theorem as2 (x : bO) : xF x x = some true := by
 unfold xF
 simp only [s0, s3, vl, cond_false, Option.bind_some, Bool.not_true]
theorem as3 (x : List bO) (h : (x.length + 0) ≤ 1048576) : xG x x = some true := by
 unfold xG
 have hl : x.length ≤ 1048576 := by omega
 rw [pY, cond_false]
 exact sZ (f := xF) x (fun _ _ => rfl) (fun y bL => as2 y) hl
theorem as4 (x : List (List bO)) (h : (dm (fun x => x.length + 0) x) ≤ 1048576) : Bs x x = some true := by
 unfold Bs
 have hl : x.length ≤ 1048576 := Nat.le_trans (iq _ _) h
 rw [pY, cond_false]
 exact sZ (f := xG) x (fun _ _ => rfl) (fun y bL => as3 y (Nat.le_trans (kN (f := (fun x => x.length + 0)) bL) h)) hl
theorem as5 (x : bx) (h : (j_ x) ≤ 1048576) : xH x x = some true := by
 unfold xH
 unfold j_ at h
 simp only [s0, s3, vl, cond_false, Option.bind_some, Bool.not_true, as4 x.cr (by omega)]
theorem as6 (x : List bx) (h : (dm j_ x) ≤ 1048576) : Bu x x = some true := by
 unfold Bu
 have hl : x.length ≤ 1048576 := Nat.le_trans (iq _ _) h
 rw [pY, cond_false]
 exact sZ (f := xH) x (fun _ _ => rfl) (fun y bL => as5 y (Nat.le_trans (kN (f := j_) bL) h)) hl
theorem as7 (x : a9) (h : (ku x) ≤ 1048576) : xI x x = some true := by
 unfold xI
 unfold ku at h
 simp only [s0, s3, vl, cond_false, Option.bind_some, Bool.not_true, as6 x.Body (by omega)]
theorem MT (x : List a9) (h : (dm ku x) ≤ 1048576) : xJ x x = some true := by
 unfold xJ
 have hl : x.length ≤ 1048576 := Nat.le_trans (iq _ _) h
 rw [pY, cond_false]
 exact sZ (f := xI) x (fun _ _ => rfl) (fun y bL => as7 y (Nat.le_trans (kN (f := ku) bL) h)) hl
theorem as8 (x : c2) (h : (ka x) ≤ 1048576) : xK x x = some true := by
 unfold xK
 unfold ka at h
 simp only [s0, s3, vl, cond_false, Option.bind_some, Bool.not_true, MS x.fk (by omega)]
theorem as9 (x : List c2) (h : (dm ka x) ≤ 1048576) : Bx x x = some true := by
 unfold Bx
 have hl : x.length ≤ 1048576 := Nat.le_trans (iq _ _) h
 rw [pY, cond_false]
 exact sZ (f := xK) x (fun _ _ => rfl) (fun y bL => as8 y (Nat.le_trans (kN (f := ka) bL) h)) hl
theorem as_ (x : bR) (h : (kb x) ≤ 1048576) : xL x x = some true := by
 unfold xL
 unfold kb at h
 simp only [s0, s3, vl, cond_false, Option.bind_some, Bool.not_true]
theorem ata (x : List bR) (h : (dm kb x) ≤ 1048576) : BA x x = some true := by
 unfold BA
 have hl : x.length ≤ 1048576 := Nat.le_trans (iq _ _) h
 rw [pY, cond_false]
 exact sZ (f := xL) x (fun _ _ => rfl) (fun y bL => as_ y (Nat.le_trans (kN (f := kb) bL) h)) hl
theorem MU (x : List (List UInt8)) (h : (dm List.length x) ≤ 1048576) : xM x x = some true := by
 unfold xM
 have hl : x.length ≤ 1048576 := Nat.le_trans (iq _ _) h
 rw [pY, cond_false]
 exact MH x (fun _ _ => rfl) s3 hl
theorem atb (x : dU) (h : (oE x) ≤ 1048576) : xN x x = some true := by
 unfold xN
 unfold oE at h
 simp only [s0, s3, vl, cond_false, Option.bind_some, Bool.not_true, MT x.bQ (by omega), as9 x.cX (by omega), ata x.gX (by omega), MU x.gQ (by omega), MU x.gR (by omega)]
theorem vu (k : Int) (ba : 0 ≤ k) (ae : k ≤ 1099511627776) : ∃ t, pP k = some t := by
 have key : ∀ (n : Nat) (k : Int), 0 ≤ k → k ≤ n → n ≤ 1099511627776 → ∀ t : List UInt8, t.length + n ≤ 1099511627776 → ∃ r, ∀ m, n < m → qR m k t = some r := by
  intro n
  induction n with
  | zero =>
    intro k ai aj aP t bh
    refine ⟨[109] ++ t, fun m hm => ?_⟩
    obtain ⟨m, rfl⟩ : ∃ j, m = j + 1 := ⟨m - 1, by omega⟩
    simp only [qR, xO]
    rw [show decide (0 < k) = false by simp; omega, cond_false, show oJ (1 + t.length) = some () by unfold oJ; rw [if_pos (by omega)]]
    rfl
  | succ n ih =>
    intro k ai aj aP t bh
    by_cases aE : 0 < k
    ·have al : Int.tdiv k 10 = k / 10 := Int.tdiv_eq_ediv_of_nonneg ai
     have hw : IntKind.i64.wrap (Int.tdiv k 10) = k / 10 := by rw [al]; exact fY _ (by omega)
     obtain ⟨r, a7⟩ := ih (k / 10) (by omega) (by omega) (by omega) ([(pq (IntKind.i64.wrap (48 + (Int.tmod k 10))))] ++ t) (by simp only [List.length_append, List.length_cons, List.length_nil]; omega)
     refine ⟨r, fun m hm => ?_⟩
     obtain ⟨m, rfl⟩ : ∃ j, m = j + 1 := ⟨m - 1, by omega⟩
     simp only [qR, xO]
     rw [show decide (0 < k) = true by simp; omega, cond_true, show oJ (1 + t.length) = some () by unfold oJ; rw [if_pos (by omega)]]
     simp only [Option.bind_some, hw]
     exact a7 m (by omega)
    ·refine ⟨[109] ++ t, fun m hm => ?_⟩
     obtain ⟨m, rfl⟩ : ∃ j, m = j + 1 := ⟨m - 1, by omega⟩
     simp only [qR, xO]
     rw [show decide (0 < k) = false by simp; omega, cond_false, show oJ (1 + t.length) = some () by unfold oJ; rw [if_pos (by omega)]]
     rfl
 unfold pP
 by_cases aE : k ≤ 0
 ·exact ⟨_, by rw [show decide (k ≤ 0) = true by simpa using aE]; rfl⟩
 ·obtain ⟨r, a7⟩ := key k.toNat k ba (by omega) (by omega) [] (by simp only [List.length_nil]; omega)
  exact ⟨r, by rw [show decide (k ≤ 0) = false by simp; omega, cond_false]; exact ir (k.toNat + 1) fun m hm => a7 m (by omega)⟩
theorem atc (x : List bO) (k : Int) (ba : 0 ≤ k) (ae : k + 64 * (x.length + 0) ≤ 1099511627776) : ∃ (cz : List bO) (c : Nat), c ≤ 64 * (x.length + 0) ∧ BD x k = some (k + (c : Int), cz) := by
 unfold BD
 have e : gA (fun _ => 64) x = 64 * x.length := F_ 64 x
 obtain ⟨cz, c, ai, aj⟩ := s5 (l := sr) (fun _ => 64) (fun m v k => by simp only [sr, BC]; rw [fw (Nat.le_refl _)]; rfl) (fun x k ba ae => by
  have f_ : IntKind.i64.wrap (k + 1) = k + 1 := fY _ (by omega)
  have hv : IntKind.i64.wrap ((k + 1) + 1) = (k + 1) + 1 := fY _ (by omega)
  refine ⟨(bO.mk k (k + 1)), 1 + 1, by omega, fun m d r al => ?_⟩
  simp only [sr, BC]
  rw [oy]
  simp only [cond_true, ox, pZ, Option.bind_some, f_, hv]
  rw [oz al]
  rw [show (((k + 1) + 1) : Int) = k + ((1 + 1 : Nat) : Int) by omega]) x k ba (by omega) (by omega)
 exact ⟨cz, c, by omega, aj⟩
theorem atd (x : List (List bO)) (k : Int) (ba : 0 ≤ k) (ae : k + 64 * (dm (fun x => x.length + 0) x) ≤ 1099511627776) : ∃ (cz : List (List bO)) (c : Nat), c ≤ 64 * (dm (fun x => x.length + 0) x) ∧ BF x k = some (k + (c : Int), cz) := by
 unfold BF
 have e : gA (fun x => 64 * ((x.length + 0) + 1)) x = 64 * dm (fun x => x.length + 0) x := q1 (fun x => x.length + 0) x
 have hl : x.length ≤ dm (fun x => x.length + 0) x := iq _ _
 obtain ⟨cz, c, ai, aj⟩ := s5 (l := ss) (fun x => 64 * ((x.length + 0) + 1)) (fun m v k => by simp only [ss, BE]; rw [fw (Nat.le_refl _)]; rfl) (fun x k ba ae => by
  obtain ⟨fp, cv, j0, fC⟩ := atc x k (by omega) (by omega)
  refine ⟨fp, cv, by omega, fun m d r al => ?_⟩
  simp only [ss, BE]
  rw [oy]
  simp only [cond_true, ox, pZ, Option.bind_some, fC]
  rw [oz al]) x k ba (by omega) (by omega)
 exact ⟨cz, c, by omega, aj⟩
theorem ate (x : List bx) (k : Int) (ba : 0 ≤ k) (ae : k + 64 * (dm j_ x) ≤ 1099511627776) : ∃ (cz : List bx) (c : Nat), c ≤ 64 * (dm j_ x) ∧ BH x k = some (k + (c : Int), cz) := by
 unfold BH
 have e : gA (fun x => 64 * ((j_ x) + 1)) x = 64 * dm j_ x := q1 j_ x
 have hl : x.length ≤ dm j_ x := iq _ _
 obtain ⟨cz, c, ai, aj⟩ := s5 (l := su) (fun x => 64 * ((j_ x) + 1)) (fun m v k => by simp only [su, BG]; rw [fw (Nat.le_refl _)]; rfl) (fun x k ba ae => by
  simp only [j_] at ae ⊢
  have f_ : IntKind.i64.wrap (k + 1) = k + 1 := fY _ (by omega)
  have hv : IntKind.i64.wrap ((k + 1) + 1) = (k + 1) + 1 := fY _ (by omega)
  obtain ⟨eY, t3⟩ := vu ((k + 1) + 1) (by omega) (by omega)
  have mJ : IntKind.i64.wrap (((k + 1) + 1) + 1) = ((k + 1) + 1) + 1 := fY _ (by omega)
  obtain ⟨ow, lZ, bk, ky⟩ := atd x.cr (((k + 1) + 1) + 1) (by omega) (by omega)
  refine ⟨(bx.mk k (k + 1) eY ow), 1 + 1 + 1 + lZ, by omega, fun m d r al => ?_⟩
  simp only [su, BG]
  rw [oy]
  simp only [cond_true, ox, pZ, Option.bind_some, f_, hv, t3, mJ, ky]
  rw [oz al]
  rw [show (((((k + 1) + 1) + 1) + (lZ : Int)) : Int) = k + ((1 + 1 + 1 + lZ : Nat) : Int) by omega]) x k ba (by omega) (by omega)
 exact ⟨cz, c, by omega, aj⟩
theorem atf (x : List a9) (k : Int) (ba : 0 ≤ k) (ae : k + 64 * (dm ku x) ≤ 1099511627776) : ∃ (cz : List a9) (c : Nat), c ≤ 64 * (dm ku x) ∧ BJ x k = some (k + (c : Int), cz) := by
 unfold BJ
 have e : gA (fun x => 64 * ((ku x) + 1)) x = 64 * dm ku x := q1 ku x
 have hl : x.length ≤ dm ku x := iq _ _
 obtain ⟨cz, c, ai, aj⟩ := s5 (l := sv) (fun x => 64 * ((ku x) + 1)) (fun m v k => by simp only [sv, BI]; rw [fw (Nat.le_refl _)]; rfl) (fun x k ba ae => by
  simp only [ku] at ae ⊢
  obtain ⟨s1, t1⟩ := vu k (by omega) (by omega)
  have f_ : IntKind.i64.wrap (k + 1) = k + 1 := fY _ (by omega)
  have hv : IntKind.i64.wrap ((k + 1) + 1) = (k + 1) + 1 := fY _ (by omega)
  obtain ⟨kJ, lh, l1, hH⟩ := ate x.Body ((k + 1) + 1) (by omega) (by omega)
  refine ⟨(a9.mk s1 (k + 1) kJ), 1 + 1 + lh, by omega, fun m d r al => ?_⟩
  simp only [sv, BI]
  rw [oy]
  simp only [cond_true, ox, pZ, Option.bind_some, t1, f_, hv, hH]
  rw [oz al]
  rw [show ((((k + 1) + 1) + (lh : Int)) : Int) = k + ((1 + 1 + lh : Nat) : Int) by omega]) x k ba (by omega) (by omega)
 exact ⟨cz, c, by omega, aj⟩
theorem MV (x : List Int) (k : Int) (ba : 0 ≤ k) (ae : k + 64 * (x.length + 0) ≤ 1099511627776) : ∃ (cz : List Int) (c : Nat), c ≤ 64 * (x.length + 0) ∧ xP x k = some (k + (c : Int), cz) ∧ BU cz k = some (k + (c : Int)) := by
 unfold xP BU
 have e : gA (fun _ => 64) x = 64 * x.length := F_ 64 x
 obtain ⟨cz, c, ai, aj, aP⟩ := MK (l := sw) (hl := sD) (fun _ => 64) (fun m v k => by simp only [sw, BK]; rw [fw (Nat.le_refl _)]; rfl) (fun a m k => by simp only [sD, BT]; rw [fw (Nat.le_refl _)]; rfl) (fun x k ba ae => by
  have f_ : IntKind.i64.wrap (k + 1) = k + 1 := fY _ (by omega)
  refine ⟨k, 1, by omega, fun m d r al => ⟨?_, ?_⟩⟩
  ·simp only [sw, BK]
   rw [oy]
   simp only [cond_true, ox, pZ, Option.bind_some, f_]
   rw [oz al]
   rw [show ((k + 1) : Int) = k + ((1 : Nat) : Int) by omega]
  ·simp only [sD, BT]
   rw [oy]
   simp only [cond_true, cond_false, ox, Option.bind_some, bne_self_eq_false, beq_self_eq_true, Bool.not_true, f_]
   rw [oz al]
   rw [show ((k + 1) : Int) = k + ((1 : Nat) : Int) by omega]) x k ba (by omega) (by omega)
 exact ⟨cz, c, by omega, aj, aP⟩
theorem atg (x : List c2) (k : Int) (ba : 0 ≤ k) (ae : k + 64 * (dm ka x) ≤ 1099511627776) : ∃ (cz : List c2) (c : Nat), c ≤ 64 * (dm ka x) ∧ BM x k = some (k + (c : Int), cz) := by
 unfold BM
 have e : gA (fun x => 64 * ((ka x) + 1)) x = 64 * dm ka x := q1 ka x
 have hl : x.length ≤ dm ka x := iq _ _
 obtain ⟨cz, c, ai, aj⟩ := s5 (l := sx) (fun x => 64 * ((ka x) + 1)) (fun m v k => by simp only [sx, BL]; rw [fw (Nat.le_refl _)]; rfl) (fun x k ba ae => by
  simp only [ka] at ae ⊢
  have f_ : IntKind.i64.wrap (k + 1) = k + 1 := fY _ (by omega)
  obtain ⟨g6, cE, h_, gI⟩ := MV x.fk (k + 1) (by omega) (by omega)
  refine ⟨(c2.mk k g6), 1 + cE, by omega, fun m d r al => ?_⟩
  simp only [sx, BL]
  rw [oy]
  simp only [cond_true, ox, pZ, Option.bind_some, f_, gI]
  rw [oz al]
  rw [show (((k + 1) + (cE : Int)) : Int) = k + ((1 + cE : Nat) : Int) by omega]) x k ba (by omega) (by omega)
 exact ⟨cz, c, by omega, aj⟩
theorem ath (x : List bR) (k : Int) (ba : 0 ≤ k) (ae : k + 64 * (dm kb x) ≤ 1099511627776) : ∃ (cz : List bR) (c : Nat), c ≤ 64 * (dm kb x) ∧ BO x k = some (k + (c : Int), cz) := by
 unfold BO
 have e : gA (fun x => 64 * ((kb x) + 1)) x = 64 * dm kb x := q1 kb x
 have hl : x.length ≤ dm kb x := iq _ _
 obtain ⟨cz, c, ai, aj⟩ := s5 (l := sy) (fun x => 64 * ((kb x) + 1)) (fun m v k => by simp only [sy, BN]; rw [fw (Nat.le_refl _)]; rfl) (fun x k ba ae => by
  simp only [kb] at ae ⊢
  obtain ⟨s1, t1⟩ := vu k (by omega) (by omega)
  have f_ : IntKind.i64.wrap (k + 1) = k + 1 := fY _ (by omega)
  obtain ⟨s2, t2⟩ := vu (k + 1) (by omega) (by omega)
  have hv : IntKind.i64.wrap ((k + 1) + 1) = (k + 1) + 1 := fY _ (by omega)
  obtain ⟨eY, t3⟩ := vu ((k + 1) + 1) (by omega) (by omega)
  have mJ : IntKind.i64.wrap (((k + 1) + 1) + 1) = ((k + 1) + 1) + 1 := fY _ (by omega)
  refine ⟨(bR.mk s1 s2 eY), 1 + 1 + 1, by omega, fun m d r al => ?_⟩
  simp only [sy, BN]
  rw [oy]
  simp only [cond_true, ox, pZ, Option.bind_some, t1, f_, t2, hv, t3, mJ]
  rw [oz al]
  rw [show ((((k + 1) + 1) + 1) : Int) = k + ((1 + 1 + 1 : Nat) : Int) by omega]) x k ba (by omega) (by omega)
 exact ⟨cz, c, by omega, aj⟩
theorem MW (x : List (List UInt8)) (k : Int) (ba : 0 ≤ k) (ae : k + 64 * (dm List.length x) ≤ 1099511627776) : ∃ (cz : List (List UInt8)) (c : Nat), c ≤ 64 * (dm List.length x) ∧ xQ x k = some (k + (c : Int), cz) := by
 unfold xQ
 have e : gA (fun x => 64 * (x.length + 1)) x = 64 * dm List.length x := q1 List.length x
 have hl : x.length ≤ dm List.length x := iq _ _
 obtain ⟨cz, c, ai, aj⟩ := s5 (l := sA) (fun x => 64 * (x.length + 1)) (fun m v k => by simp only [sA, BP]; rw [fw (Nat.le_refl _)]; rfl) (fun x k ba ae => by
  obtain ⟨s1, t1⟩ := vu k (by omega) (by omega)
  have f_ : IntKind.i64.wrap (k + 1) = k + 1 := fY _ (by omega)
  refine ⟨s1, 1, by omega, fun m d r al => ?_⟩
  simp only [sA, BP]
  rw [oy]
  simp only [cond_true, ox, pZ, Option.bind_some, t1, f_]
  rw [oz al]
  rw [show ((k + 1) : Int) = k + ((1 : Nat) : Int) by omega]) x k ba (by omega) (by omega)
 exact ⟨cz, c, by omega, aj⟩
theorem ati (x : dU) (k : Int) (ba : 0 ≤ k) (ae : k + 64 * ((oE x) + 1) ≤ 1099511627776) : ∃ (fS : List a9) (fp : List c2) (g6 : List bR) (kJ : List (List UInt8)) (ow : List (List UInt8)) (c : Nat), c ≤ 64 * ((oE x) + 1) ∧ BQ x.bQ x.cX x.gX x.gQ x.gR k = some (k + (c : Int), fS, fp, g6, kJ, ow) := by
 unfold BQ
 simp only [oE] at ae ⊢
 obtain ⟨fp, cv, j0, fC⟩ := atf x.bQ k (by omega) (by omega)
 obtain ⟨g6, cE, h_, gI⟩ := atg x.cX (k + (cv : Int)) (by omega) (by omega)
 obtain ⟨kJ, lh, l1, hH⟩ := ath x.gX ((k + (cv : Int)) + (cE : Int)) (by omega) (by omega)
 obtain ⟨ow, lZ, bk, ky⟩ := MW x.gQ (((k + (cv : Int)) + (cE : Int)) + (lh : Int)) (by omega) (by omega)
 obtain ⟨atj, rH, bJ, l0⟩ := MW x.gR ((((k + (cv : Int)) + (cE : Int)) + (lh : Int)) + (lZ : Int)) (by omega) (by omega)
 refine ⟨fp, g6, kJ, ow, atj, cv + cE + lh + lZ + rH, by omega, ?_⟩
 simp only [Option.bind_some, fC, gI, hH, ky, l0]
 rw [show (k + ((cv + cE + lh + lZ + rH : Nat) : Int)) = (((((k + (cv : Int)) + (cE : Int)) + (lh : Int)) + (lZ : Int)) + (rH : Int)) by omega]
theorem atk (x : List (List Int)) (k : Int) (ba : 0 ≤ k) (ae : k + 64 * (dm (fun x => x.length + 0) x) ≤ 1099511627776) : ∃ (cz : List (List Int)) (c : Nat), c ≤ 64 * (dm (fun x => x.length + 0) x) ∧ BS x k = some (k + (c : Int), cz) ∧ xR cz k = some (k + (c : Int)) := by
 unfold BS xR
 have e : gA (fun x => 64 * ((x.length + 0) + 1)) x = 64 * dm (fun x => x.length + 0) x := q1 (fun x => x.length + 0) x
 have hl : x.length ≤ dm (fun x => x.length + 0) x := iq _ _
 obtain ⟨cz, c, ai, aj, aP⟩ := MK (l := sC) (hl := sE) (fun x => 64 * ((x.length + 0) + 1)) (fun m v k => by simp only [sC, BR]; rw [fw (Nat.le_refl _)]; rfl) (fun a m k => by simp only [sE, BV]; rw [fw (Nat.le_refl _)]; rfl) (fun x k ba ae => by
  obtain ⟨fp, cv, j0, fC, iP⟩ := MV x k (by omega) (by omega)
  have l9 := F9 (k := (k + (cv : Int))) (by omega)
  refine ⟨fp, cv, by omega, fun m d r al => ⟨?_, ?_⟩⟩
  ·simp only [sC, BR]
   rw [oy]
   simp only [cond_true, ox, pZ, Option.bind_some, fC]
   rw [oz al]
  ·simp only [sE, BV]
   rw [oy]
   simp only [cond_true, cond_false, ox, Option.bind_some, bne_self_eq_false, beq_self_eq_true, Bool.not_true, iP, l9]
   rw [oz al]) x k ba (by omega) (by omega)
 exact ⟨cz, c, by omega, aj, aP⟩
end Go.fJ
