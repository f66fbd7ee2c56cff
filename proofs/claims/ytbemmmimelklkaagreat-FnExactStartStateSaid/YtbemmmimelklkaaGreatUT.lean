/- Part of a proof that a law returns true for every input. No condition. -/
import Derived.Test.YtbemmmimelklkaaGreatP5
import Derived.Test.YtbemmmimelklkaaGreatUN
namespace Go.f_
open Go Go.dk
set_option linter.unusedSimpArgs false
theorem asx (x : List gS) (n : Int) (aC : (x.length ≤ 9223372036854775807 ∧ ∀ y ∈ x, ug y)) (a9 : 0 ≤ n) (bg : n ≤ 1048576) : wk x n = some (hJ n (x.length + 0)) := by
 unfold wk
 refine mg aC.1 a9 bg fun h => ?_
 rw [fQ _ (by omega)]
 exact qG (by omega)
theorem asy (x : List (List gS)) (n : Int) (aC : (x.length ≤ 9223372036854775807 ∧ ∀ y ∈ x, (y.length ≤ 9223372036854775807 ∧ ∀ z ∈ y, ug z))) (a9 : 0 ≤ n) (bg : n ≤ 1048576) : zx x n = some (hJ n (de (fun x => x.length + 0) x)) := by
 unfold zx
 refine mg aC.1 a9 bg fun h => ?_
 rw [fQ _ (by omega)]
 exact x7 (f := wk) (fun x => x.length + 0) x (fun _ _ _ => rfl) (fun y bL n a9 bg => asx y n (aC.2 y bL) a9 bg) (by omega) _ (by omega) (by omega)
def oi (x : h_) : Nat := (x.Name.length + ((de (fun x => x.length + 0) x.cq) + 0))
theorem asz (x : h_) (n : Int) (aC : wg x) (a9 : 0 ≤ n) (bg : n ≤ 1048576) : wm x n = some (hJ n (oi x)) := by
 unfold wm
 unfold oi
 obtain ⟨w0, fM, gZ, mz⟩ := aC
 refine mg gZ (by omega) (by omega) fun cF => ?_
 rw [fQ (n - (x.Name.length : Int)) (by omega)]
 refine pG (asy _ _ mz (by omega) (by omega)) fun jw => ?_
 exact qG (by omega)
theorem asA (x : List h_) (n : Int) (aC : (x.length ≤ 9223372036854775807 ∧ ∀ y ∈ x, wg y)) (a9 : 0 ≤ n) (bg : n ≤ 1048576) : zz x n = some (hJ n (de oi x)) := by
 unfold zz
 refine mg aC.1 a9 bg fun h => ?_
 rw [fQ _ (by omega)]
 exact x7 (f := wm) oi x (fun _ _ _ => rfl) (fun y bL n a9 bg => asz y n (aC.2 y bL) a9 bg) (by omega) _ (by omega) (by omega)
def mP (x : hZ) : Nat := (x.Name.length + ((de oi x.Body) + 0))
theorem asB (x : hZ) (n : Int) (aC : uh x) (a9 : 0 ≤ n) (bg : n ≤ 1048576) : wo x n = some (hJ n (mP x)) := by
 unfold wo
 unfold mP
 obtain ⟨w0, fM, gZ⟩ := aC
 refine mg w0 (by omega) (by omega) fun mm => ?_
 rw [fQ (n - (x.Name.length : Int)) (by omega)]
 refine pG (asA _ _ gZ (by omega) (by omega)) fun cF => ?_
 exact qG (by omega)
theorem Ml (x : List hZ) (n : Int) (aC : (x.length ≤ 9223372036854775807 ∧ ∀ y ∈ x, uh y)) (a9 : 0 ≤ n) (bg : n ≤ 1048576) : wq x n = some (hJ n (de mP x)) := by
 unfold wq
 refine mg aC.1 a9 bg fun h => ?_
 rw [fQ _ (by omega)]
 exact x7 (f := wo) mP x (fun _ _ _ => rfl) (fun y bL n a9 bg => asB y n (aC.2 y bL) a9 bg) (by omega) _ (by omega) (by omega)
theorem asC (x : List Int) (n : Int) (aC : (x.length ≤ 9223372036854775807 ∧ ∀ y ∈ x, (-9223372036854775808 ≤ y ∧ y ≤ 9223372036854775807))) (a9 : 0 ≤ n) (bg : n ≤ 1048576) : zB x n = some (hJ n (x.length + 0)) := by
 unfold zB
 refine mg aC.1 a9 bg fun h => ?_
 rw [fQ _ (by omega)]
 exact qG (by omega)
def oj (x : ia) : Nat := ((x.c3.length + 0) + 0)
theorem asD (x : ia) (n : Int) (aC : wh x) (a9 : 0 ≤ n) (bg : n ≤ 1048576) : wt x n = some (hJ n (oj x)) := by
 unfold wt
 unfold oj
 obtain ⟨w0, fM⟩ := aC
 refine pG (asC _ _ fM (by omega) (by omega)) fun cE => ?_
 exact qG (by omega)
theorem asE (x : List ia) (n : Int) (aC : (x.length ≤ 9223372036854775807 ∧ ∀ y ∈ x, wh y)) (a9 : 0 ≤ n) (bg : n ≤ 1048576) : zD x n = some (hJ n (de oj x)) := by
 unfold zD
 refine mg aC.1 a9 bg fun h => ?_
 rw [fQ _ (by omega)]
 exact x7 (f := wt) oj x (fun _ _ _ => rfl) (fun y bL n a9 bg => asD y n (aC.2 y bL) a9 bg) (by omega) _ (by omega) (by omega)
def om (x : h0) : Nat := (x.Left.length + (x.b6.length + (x.Result.length + 0)))
theorem asF (x : h0) (n : Int) (aC : wi x) (a9 : 0 ≤ n) (bg : n ≤ 1048576) : wu x n = some (hJ n (om x)) := by
 unfold wu
 unfold om
 obtain ⟨w0, fM, gZ⟩ := aC
 refine mg w0 (by omega) (by omega) fun mm => ?_
 rw [fQ (n - (x.Left.length : Int)) (by omega)]
 refine mg fM (by omega) (by omega) fun cE => ?_
 rw [fQ ((n - (x.Left.length : Int)) - (x.b6.length : Int)) (by omega)]
 refine mg gZ (by omega) (by omega) fun cF => ?_
 rw [fQ (((n - (x.Left.length : Int)) - (x.b6.length : Int)) - (x.Result.length : Int)) (by omega)]
 exact qG (by omega)
theorem asG (x : List h0) (n : Int) (aC : (x.length ≤ 9223372036854775807 ∧ ∀ y ∈ x, wi y)) (a9 : 0 ≤ n) (bg : n ≤ 1048576) : zF x n = some (hJ n (de om x)) := by
 unfold zF
 refine mg aC.1 a9 bg fun h => ?_
 rw [fQ _ (by omega)]
 exact x7 (f := wu) om x (fun _ _ _ => rfl) (fun y bL n a9 bg => asF y n (aC.2 y bL) a9 bg) (by omega) _ (by omega) (by omega)
theorem Mm (x : List (List UInt8)) (n : Int) (aC : (x.length ≤ 9223372036854775807 ∧ ∀ y ∈ x, y.length ≤ 9223372036854775807)) (a9 : 0 ≤ n) (bg : n ≤ 1048576) : wv x n = some (hJ n (de List.length x)) := by
 unfold wv
 refine mg aC.1 a9 bg fun h => ?_
 rw [fQ _ (by omega)]
 exact asv x (fun _ _ _ => rfl) aC.2 (by omega) _ (by omega) (by omega)
def qL (x : kg) : Nat := ((de mP x.e8) + ((de oj x.b_) + ((de om x.g1) + ((de List.length x.gT) + ((de List.length x.gU) + 0)))))
theorem asH (x : kg) (n : Int) (aC : wj x) (a9 : 0 ≤ n) (bg : n ≤ 1048576) : wx x n = some (hJ n (qL x)) := by
 unfold wx
 unfold qL
 obtain ⟨w0, fM, gZ, mz, FJ⟩ := aC
 refine pG (Ml _ _ w0 (by omega) (by omega)) fun mm => ?_
 refine pG (asE _ _ fM (by omega) (by omega)) fun cE => ?_
 refine pG (asG _ _ gZ (by omega) (by omega)) fun cF => ?_
 refine pG (Mm _ _ mz (by omega) (by omega)) fun jw => ?_
 refine pG (Mm _ _ FJ (by omega) (by omega)) fun lR => ?_
 exact qG (by omega)
def uX (x : gS) : bP := ⟨x.Kind, x.Value⟩
theorem asI (x : gS) : wy x = some (uX x) := by
 unfold wy
 rfl
theorem asJ (x : List gS) (h : (x.length + 0) ≤ 1048576) : wz x = some (x.map uX) := by
 unfold wz
 have hl : x.length ≤ 1048576 := by omega
 rw [pH _ hl (by decide)]
 simp only [Option.bind_some]
 rw [qH (f := wy) uX x _ (fun _ _ _ => rfl) (fun y bL => asI y) hl]
theorem asK (x : List (List gS)) (h : (de (fun x => x.length + 0) x) ≤ 1048576) : zJ x = some (x.map (List.map uX)) := by
 unfold zJ
 have hl : x.length ≤ 1048576 := Nat.le_trans (ik _ _) h
 rw [pH _ hl (by decide)]
 simp only [Option.bind_some]
 rw [qH (f := wz) (List.map uX) x _ (fun _ _ _ => rfl) (fun y bL => asJ y (Nat.le_trans (kG (f := (fun x => x.length + 0)) bL) h)) hl]
def uY (x : h_) : bz := ⟨x.Kind, x.Number, x.Name, (x.cq.map (List.map uX))⟩
def j4 (x : bz) : Nat := (x.Name.length + ((de (fun x => x.length + 0) x.cq) + 0))
theorem asL (x : h_) : j4 (uY x) = oi x := by
 simp only [j4, oi, uY, sF, List.length_map]
theorem asM (x : h_) (h : (oi x) ≤ 1048576) : wA x = some (uY x) := by
 unfold wA
 unfold oi at h
 rw [asK _ (by omega)]
 rfl
theorem asN (x : List h_) (h : (de oi x) ≤ 1048576) : zL x = some (x.map uY) := by
 unfold zL
 have hl : x.length ≤ 1048576 := Nat.le_trans (ik _ _) h
 rw [pH _ hl (by decide)]
 simp only [Option.bind_some]
 rw [qH (f := wA) uY x _ (fun _ _ _ => rfl) (fun y bL => asM y (Nat.le_trans (kG (f := oi) bL) h)) hl]
def oo (x : hZ) : bb := ⟨x.Name, x.dc, (x.Body.map uY)⟩
def kp (x : bb) : Nat := (x.Name.length + ((de j4 x.Body) + 0))
theorem Mn (x : hZ) : kp (oo x) = mP x := by
 simp only [kp, mP, oo, sF, List.length_map, asL]
theorem asO (x : hZ) (h : (mP x) ≤ 1048576) : wB x = some (oo x) := by
 unfold wB
 unfold mP at h
 rw [asN _ (by omega)]
 rfl
theorem Mo (x : List hZ) (h : (de mP x) ≤ 1048576) : wC x = some (x.map oo) := by
 unfold wC
 have hl : x.length ≤ 1048576 := Nat.le_trans (ik _ _) h
 rw [pH _ hl (by decide)]
 simp only [Option.bind_some]
 rw [qH (f := wB) oo x _ (fun _ _ _ => rfl) (fun y bL => asO y (Nat.le_trans (kG (f := mP) bL) h)) hl]
theorem asP (x : List Int) (h : (x.length + 0) ≤ 1048576) : zO x = some x := by
 unfold zO
 have hl : x.length ≤ 1048576 := by omega
 rw [pH _ hl (by decide)]
 simp only [Option.bind_some]
 rw [qH (f := some) id x _ (fun _ _ _ => rfl) (fun _ _ => rfl) hl, List.map_id]
def uZ (x : ia) : cX := ⟨x.eo, x.c3⟩
def iQ (x : cX) : Nat := ((x.c3.length + 0) + 0)
theorem asQ (x : ia) : iQ (uZ x) = oj x := by
 simp only [iQ, oj, uZ, sF, List.length_map]
theorem asR (x : ia) (h : (oj x) ≤ 1048576) : wD x = some (uZ x) := by
 unfold wD
 unfold oj at h
 rw [asP _ (by omega)]
 rfl
theorem asS (x : List ia) (h : (de oj x) ≤ 1048576) : zQ x = some (x.map uZ) := by
 unfold zQ
 have hl : x.length ≤ 1048576 := Nat.le_trans (ik _ _) h
 rw [pH _ hl (by decide)]
 simp only [Option.bind_some]
 rw [qH (f := wD) uZ x _ (fun _ _ _ => rfl) (fun y bL => asR y (Nat.le_trans (kG (f := oj) bL) h)) hl]
def u0 (x : h0) : bT := ⟨x.Left, x.b6, x.Result⟩
def j5 (x : bT) : Nat := (x.Left.length + (x.b6.length + (x.Result.length + 0)))
theorem asT (x : h0) : j5 (u0 x) = om x := by
 simp only [j5, om, u0, sF, List.length_map]
theorem asU (x : h0) (h : (om x) ≤ 1048576) : wE x = some (u0 x) := by
 unfold wE
 unfold om at h
 rfl
theorem asV (x : List h0) (h : (de om x) ≤ 1048576) : zS x = some (x.map u0) := by
 unfold zS
 have hl : x.length ≤ 1048576 := Nat.le_trans (ik _ _) h
 rw [pH _ hl (by decide)]
 simp only [Option.bind_some]
 rw [qH (f := wE) u0 x _ (fun _ _ _ => rfl) (fun y bL => asU y (Nat.le_trans (kG (f := om) bL) h)) hl]
theorem Mp (x : List (List UInt8)) (h : (de List.length x) ≤ 1048576) : wF x = some x := by
 unfold wF
 have hl : x.length ≤ 1048576 := Nat.le_trans (ik _ _) h
 rw [pH _ hl (by decide)]
 simp only [Option.bind_some]
 rw [qH (f := some) id x _ (fun _ _ _ => rfl) (fun _ _ => rfl) hl, List.map_id]
def o5 (x : kg) : ev := ⟨(x.e8.map oo), (x.b_.map uZ), (x.g1.map u0), x.gT, x.gU⟩
def mQ (x : ev) : Nat := ((de kp x.e8) + ((de iQ x.b_) + ((de j5 x.g1) + ((de List.length x.gT) + ((de List.length x.gU) + 0)))))
theorem Mq (x : kg) : mQ (o5 x) = qL x := by
 simp only [mQ, qL, o5, sF, List.length_map, Mn, asQ, asT]
theorem asW (x : kg) (h : (qL x) ≤ 1048576) : qq x = some (o5 x) := by
 unfold qq
 unfold qL at h
 rw [Mo _ (by omega), asS _ (by omega), asV _ (by omega), Mp _ (by omega), Mp _ (by omega)]
 rfl
theorem Mr (x : List Int) (h : (x.length + 0) ≤ 1048576) : w9 x x = some true := by
 unfold w9
 have hl : x.length ≤ 1048576 := by omega
 rw [pI, cond_false]
 exact Mg x (fun _ _ => rfl) qI hl
def k2 (x : cU) : Nat := ((x.c3.length + 0) + 0)
theorem asX (x : cU) (h : (k2 x) ≤ 1048576) : w_ x x = some true := by
 unfold w_
 unfold k2 at h
 simp only [qI, qJ, sH, cond_false, Option.bind_some, Bool.not_true, Mr x.c3 (by omega)]
theorem asY (x : List cU) (h : (de k2 x) ≤ 1048576) : uA x x = some true := by
 unfold uA
 have hl : x.length ≤ 1048576 := Nat.le_trans (ik _ _) h
 rw [pI, cond_false]
 exact sG (f := w_) x (fun _ _ => rfl) (fun y bL => asX y (Nat.le_trans (kG (f := k2) bL) h)) hl
theorem asZ (x : bP) : xa x x = some true := by
 unfold xa
 simp only [qI, qJ, sH, cond_false, Option.bind_some, Bool.not_true]
theorem as0 (x : List bP) (h : (x.length + 0) ≤ 1048576) : xb x x = some true := by
 unfold xb
 have hl : x.length ≤ 1048576 := by omega
 rw [pI, cond_false]
 exact sG (f := xa) x (fun _ _ => rfl) (fun y bL => asZ y) hl
theorem as1 (x : List (List bP)) (h : (de (fun x => x.length + 0) x) ≤ 1048576) : A3 x x = some true := by
 unfold A3
 have hl : x.length ≤ 1048576 := Nat.le_trans (ik _ _) h
 rw [pI, cond_false]
 exact sG (f := xb) x (fun _ _ => rfl) (fun y bL => as0 y (Nat.le_trans (kG (f := (fun x => x.length + 0)) bL) h)) hl
theorem as2 (x : bz) (h : (j4 x) ≤ 1048576) : xc x x = some true := by
 unfold xc
 unfold j4 at h
 simp only [qI, qJ, sH, cond_false, Option.bind_some, Bool.not_true, as1 x.cq (by omega)]
theorem as3 (x : List bz) (h : (de j4 x) ≤ 1048576) : A5 x x = some true := by
 unfold A5
 have hl : x.length ≤ 1048576 := Nat.le_trans (ik _ _) h
 rw [pI, cond_false]
 exact sG (f := xc) x (fun _ _ => rfl) (fun y bL => as2 y (Nat.le_trans (kG (f := j4) bL) h)) hl
theorem as4 (x : bb) (h : (kp x) ≤ 1048576) : xd x x = some true := by
 unfold xd
 unfold kp at h
 simp only [qI, qJ, sH, cond_false, Option.bind_some, Bool.not_true, as3 x.Body (by omega)]
theorem Ms (x : List bb) (h : (de kp x) ≤ 1048576) : xe x x = some true := by
 unfold xe
 have hl : x.length ≤ 1048576 := Nat.le_trans (ik _ _) h
 rw [pI, cond_false]
 exact sG (f := xd) x (fun _ _ => rfl) (fun y bL => as4 y (Nat.le_trans (kG (f := kp) bL) h)) hl
theorem as5 (x : cX) (h : (iQ x) ≤ 1048576) : xf x x = some true := by
 unfold xf
 unfold iQ at h
 simp only [qI, qJ, sH, cond_false, Option.bind_some, Bool.not_true, Mr x.c3 (by omega)]
theorem as6 (x : List cX) (h : (de iQ x) ≤ 1048576) : A8 x x = some true := by
 unfold A8
 have hl : x.length ≤ 1048576 := Nat.le_trans (ik _ _) h
 rw [pI, cond_false]
 exact sG (f := xf) x (fun _ _ => rfl) (fun y bL => as5 y (Nat.le_trans (kG (f := iQ) bL) h)) hl
theorem as7 (x : bT) (h : (j5 x) ≤ 1048576) : xg x x = some true := by
 unfold xg
 unfold j5 at h
 simp only [qI, qJ, sH, cond_false, Option.bind_some, Bool.not_true]
theorem as8 (x : List bT) (h : (de j5 x) ≤ 1048576) : A_ x x = some true := by
 unfold A_
 have hl : x.length ≤ 1048576 := Nat.le_trans (ik _ _) h
 rw [pI, cond_false]
 exact sG (f := xg) x (fun _ _ => rfl) (fun y bL => as7 y (Nat.le_trans (kG (f := j5) bL) h)) hl
theorem Mt (x : List (List UInt8)) (h : (de List.length x) ≤ 1048576) : xh x x = some true := by
 unfold xh
 have hl : x.length ≤ 1048576 := Nat.le_trans (ik _ _) h
 rw [pI, cond_false]
 exact Mg x (fun _ _ => rfl) qJ hl
theorem as9 (x : ev) (h : (mQ x) ≤ 1048576) : xi x x = some true := by
 unfold xi
 unfold mQ at h
 simp only [qI, qJ, sH, cond_false, Option.bind_some, Bool.not_true, Ms x.e8 (by omega), as6 x.b_ (by omega), as8 x.g1 (by omega), Mt x.gT (by omega), Mt x.gU (by omega)]
theorem u1 (k : Int) (a9 : 0 ≤ k) (ae : k ≤ 1099511627776) : ∃ t, pA k = some t := by
 have key : ∀ (n : Nat) (k : Int), 0 ≤ k → k ≤ n → n ≤ 1099511627776 → ∀ t : List UInt8, t.length + n ≤ 1099511627776 → ∃ r, ∀ m, n < m → qy m k t = some r := by
  intro n
  induction n with
  | zero =>
    intro k ai aj aQ t bh
    refine ⟨[109] ++ t, fun m hm => ?_⟩
    obtain ⟨m, rfl⟩ : ∃ j, m = j + 1 := ⟨m - 1, by omega⟩
    simp only [qy, xj]
    rw [show decide (0 < k) = false by simp; omega, cond_false, show ow (1 + t.length) = some () by unfold ow; rw [if_pos (by omega)]]
    rfl
  | succ n ih =>
    intro k ai aj aQ t bh
    by_cases aE : 0 < k
    ·have al : Int.tdiv k 10 = k / 10 := Int.tdiv_eq_ediv_of_nonneg ai
     have hw : IntKind.i64.wrap (Int.tdiv k 10) = k / 10 := by rw [al]; exact fQ _ (by omega)
     obtain ⟨r, a7⟩ := ih (k / 10) (by omega) (by omega) (by omega) ([(o_ (IntKind.i64.wrap (48 + (Int.tmod k 10))))] ++ t) (by simp only [List.length_append, List.length_cons, List.length_nil]; omega)
     refine ⟨r, fun m hm => ?_⟩
     obtain ⟨m, rfl⟩ : ∃ j, m = j + 1 := ⟨m - 1, by omega⟩
     simp only [qy, xj]
     rw [show decide (0 < k) = true by simp; omega, cond_true, show ow (1 + t.length) = some () by unfold ow; rw [if_pos (by omega)]]
     simp only [Option.bind_some, hw]
     exact a7 m (by omega)
    ·refine ⟨[109] ++ t, fun m hm => ?_⟩
     obtain ⟨m, rfl⟩ : ∃ j, m = j + 1 := ⟨m - 1, by omega⟩
     simp only [qy, xj]
     rw [show decide (0 < k) = false by simp; omega, cond_false, show ow (1 + t.length) = some () by unfold ow; rw [if_pos (by omega)]]
     rfl
 unfold pA
 by_cases aE : k ≤ 0
 ·exact ⟨_, by rw [show decide (k ≤ 0) = true by simpa using aE]; rfl⟩
 ·obtain ⟨r, a7⟩ := key k.toNat k a9 (by omega) (by omega) [] (by simp only [List.length_nil]; omega)
  exact ⟨r, by rw [show decide (k ≤ 0) = false by simp; omega, cond_false]; exact iS (k.toNat + 1) fun m hm => a7 m (by omega)⟩
theorem as_ (x : List bP) (k : Int) (a9 : 0 ≤ k) (ae : k + 64 * (x.length + 0) ≤ 1099511627776) : ∃ (cy : List bP) (c : Nat), c ≤ 64 * (x.length + 0) ∧ Bc x k = some (k + (c : Int), cy) := by
 unfold Bc
 have e : gD (fun _ => 64) x = 64 * x.length := FN 64 x
 obtain ⟨cy, c, ai, aj⟩ := sJ (l := r_) (fun _ => 64) (fun m v k => by simp only [r_, Bb]; rw [fH (Nat.le_refl _)]; rfl) (fun x k a9 ae => by
  have fM : IntKind.i64.wrap (k + 1) = k + 1 := fQ _ (by omega)
  have gZ : IntKind.i64.wrap ((k + 1) + 1) = (k + 1) + 1 := fQ _ (by omega)
  refine ⟨(bP.mk k (k + 1)), 1 + 1, by omega, fun m d r al => ?_⟩
  simp only [r_, Bb]
  rw [og]
  simp only [cond_true, oe, pJ, Option.bind_some, fM, gZ]
  rw [oh al]
  rw [show (((k + 1) + 1) : Int) = k + ((1 + 1 : Nat) : Int) by omega]) x k a9 (by omega) (by omega)
 exact ⟨cy, c, by omega, aj⟩
theorem ata (x : List (List bP)) (k : Int) (a9 : 0 ≤ k) (ae : k + 64 * (de (fun x => x.length + 0) x) ≤ 1099511627776) : ∃ (cy : List (List bP)) (c : Nat), c ≤ 64 * (de (fun x => x.length + 0) x) ∧ Be x k = some (k + (c : Int), cy) := by
 unfold Be
 have e : gD (fun x => 64 * ((x.length + 0) + 1)) x = 64 * de (fun x => x.length + 0) x := qK (fun x => x.length + 0) x
 have hl : x.length ≤ de (fun x => x.length + 0) x := ik _ _
 obtain ⟨cy, c, ai, aj⟩ := sJ (l := sa) (fun x => 64 * ((x.length + 0) + 1)) (fun m v k => by simp only [sa, Bd]; rw [fH (Nat.le_refl _)]; rfl) (fun x k a9 ae => by
  obtain ⟨fE, cE, ly, fS⟩ := as_ x k (by omega) (by omega)
  refine ⟨fE, cE, by omega, fun m d r al => ?_⟩
  simp only [sa, Bd]
  rw [og]
  simp only [cond_true, oe, pJ, Option.bind_some, fS]
  rw [oh al]) x k a9 (by omega) (by omega)
 exact ⟨cy, c, by omega, aj⟩
theorem atb (x : List bz) (k : Int) (a9 : 0 ≤ k) (ae : k + 64 * (de j4 x) ≤ 1099511627776) : ∃ (cy : List bz) (c : Nat), c ≤ 64 * (de j4 x) ∧ Bg x k = some (k + (c : Int), cy) := by
 unfold Bg
 have e : gD (fun x => 64 * ((j4 x) + 1)) x = 64 * de j4 x := qK j4 x
 have hl : x.length ≤ de j4 x := ik _ _
 obtain ⟨cy, c, ai, aj⟩ := sJ (l := sb) (fun x => 64 * ((j4 x) + 1)) (fun m v k => by simp only [sb, Bf]; rw [fH (Nat.le_refl _)]; rfl) (fun x k a9 ae => by
  simp only [j4] at ae ⊢
  have fM : IntKind.i64.wrap (k + 1) = k + 1 := fQ _ (by omega)
  have gZ : IntKind.i64.wrap ((k + 1) + 1) = (k + 1) + 1 := fQ _ (by omega)
  obtain ⟨e6, t3⟩ := u1 ((k + 1) + 1) (by omega) (by omega)
  have mz : IntKind.i64.wrap (((k + 1) + 1) + 1) = ((k + 1) + 1) + 1 := fQ _ (by omega)
  obtain ⟨od, lR, ba, kt⟩ := ata x.cq (((k + 1) + 1) + 1) (by omega) (by omega)
  refine ⟨(bz.mk k (k + 1) e6 od), 1 + 1 + 1 + lR, by omega, fun m d r al => ?_⟩
  simp only [sb, Bf]
  rw [og]
  simp only [cond_true, oe, pJ, Option.bind_some, fM, gZ, t3, mz, kt]
  rw [oh al]
  rw [show (((((k + 1) + 1) + 1) + (lR : Int)) : Int) = k + ((1 + 1 + 1 + lR : Nat) : Int) by omega]) x k a9 (by omega) (by omega)
 exact ⟨cy, c, by omega, aj⟩
theorem atc (x : List bb) (k : Int) (a9 : 0 ≤ k) (ae : k + 64 * (de kp x) ≤ 1099511627776) : ∃ (cy : List bb) (c : Nat), c ≤ 64 * (de kp x) ∧ Bi x k = some (k + (c : Int), cy) := by
 unfold Bi
 have e : gD (fun x => 64 * ((kp x) + 1)) x = 64 * de kp x := qK kp x
 have hl : x.length ≤ de kp x := ik _ _
 obtain ⟨cy, c, ai, aj⟩ := sJ (l := sc) (fun x => 64 * ((kp x) + 1)) (fun m v k => by simp only [sc, Bh]; rw [fH (Nat.le_refl _)]; rfl) (fun x k a9 ae => by
  simp only [kp] at ae ⊢
  obtain ⟨s1, t1⟩ := u1 k (by omega) (by omega)
  have fM : IntKind.i64.wrap (k + 1) = k + 1 := fQ _ (by omega)
  have gZ : IntKind.i64.wrap ((k + 1) + 1) = (k + 1) + 1 := fQ _ (by omega)
  obtain ⟨jZ, jw, lz, hg⟩ := atb x.Body ((k + 1) + 1) (by omega) (by omega)
  refine ⟨(bb.mk s1 (k + 1) jZ), 1 + 1 + jw, by omega, fun m d r al => ?_⟩
  simp only [sc, Bh]
  rw [og]
  simp only [cond_true, oe, pJ, Option.bind_some, t1, fM, gZ, hg]
  rw [oh al]
  rw [show ((((k + 1) + 1) + (jw : Int)) : Int) = k + ((1 + 1 + jw : Nat) : Int) by omega]) x k a9 (by omega) (by omega)
 exact ⟨cy, c, by omega, aj⟩
theorem Mu (x : List Int) (k : Int) (a9 : 0 ≤ k) (ae : k + 64 * (x.length + 0) ≤ 1099511627776) : ∃ (cy : List Int) (c : Nat), c ≤ 64 * (x.length + 0) ∧ xk x k = some (k + (c : Int), cy) ∧ Bt cy k = some (k + (c : Int)) := by
 unfold xk Bt
 have e : gD (fun _ => 64) x = 64 * x.length := FN 64 x
 obtain ⟨cy, c, ai, aj, aQ⟩ := Mj (l := sd) (hl := sk) (fun _ => 64) (fun m v k => by simp only [sd, Bj]; rw [fH (Nat.le_refl _)]; rfl) (fun a m k => by simp only [sk, Bs]; rw [fH (Nat.le_refl _)]; rfl) (fun x k a9 ae => by
  have fM : IntKind.i64.wrap (k + 1) = k + 1 := fQ _ (by omega)
  refine ⟨k, 1, by omega, fun m d r al => ⟨?_, ?_⟩⟩
  ·simp only [sd, Bj]
   rw [og]
   simp only [cond_true, oe, pJ, Option.bind_some, fM]
   rw [oh al]
   rw [show ((k + 1) : Int) = k + ((1 : Nat) : Int) by omega]
  ·simp only [sk, Bs]
   rw [og]
   simp only [cond_true, cond_false, oe, Option.bind_some, bne_self_eq_false, beq_self_eq_true, Bool.not_true, fM]
   rw [oh al]
   rw [show ((k + 1) : Int) = k + ((1 : Nat) : Int) by omega]) x k a9 (by omega) (by omega)
 exact ⟨cy, c, by omega, aj, aQ⟩
theorem atd (x : List cX) (k : Int) (a9 : 0 ≤ k) (ae : k + 64 * (de iQ x) ≤ 1099511627776) : ∃ (cy : List cX) (c : Nat), c ≤ 64 * (de iQ x) ∧ Bl x k = some (k + (c : Int), cy) := by
 unfold Bl
 have e : gD (fun x => 64 * ((iQ x) + 1)) x = 64 * de iQ x := qK iQ x
 have hl : x.length ≤ de iQ x := ik _ _
 obtain ⟨cy, c, ai, aj⟩ := sJ (l := se) (fun x => 64 * ((iQ x) + 1)) (fun m v k => by simp only [se, Bk]; rw [fH (Nat.le_refl _)]; rfl) (fun x k a9 ae => by
  simp only [iQ] at ae ⊢
  have fM : IntKind.i64.wrap (k + 1) = k + 1 := fQ _ (by omega)
  obtain ⟨g_, cF, iW, gG⟩ := Mu x.c3 (k + 1) (by omega) (by omega)
  refine ⟨(cX.mk k g_), 1 + cF, by omega, fun m d r al => ?_⟩
  simp only [se, Bk]
  rw [og]
  simp only [cond_true, oe, pJ, Option.bind_some, fM, gG]
  rw [oh al]
  rw [show (((k + 1) + (cF : Int)) : Int) = k + ((1 + cF : Nat) : Int) by omega]) x k a9 (by omega) (by omega)
 exact ⟨cy, c, by omega, aj⟩
theorem ate (x : List bT) (k : Int) (a9 : 0 ≤ k) (ae : k + 64 * (de j5 x) ≤ 1099511627776) : ∃ (cy : List bT) (c : Nat), c ≤ 64 * (de j5 x) ∧ Bn x k = some (k + (c : Int), cy) := by
 unfold Bn
 have e : gD (fun x => 64 * ((j5 x) + 1)) x = 64 * de j5 x := qK j5 x
 have hl : x.length ≤ de j5 x := ik _ _
 obtain ⟨cy, c, ai, aj⟩ := sJ (l := sf) (fun x => 64 * ((j5 x) + 1)) (fun m v k => by simp only [sf, Bm]; rw [fH (Nat.le_refl _)]; rfl) (fun x k a9 ae => by
  simp only [j5] at ae ⊢
  obtain ⟨s1, t1⟩ := u1 k (by omega) (by omega)
  have fM : IntKind.i64.wrap (k + 1) = k + 1 := fQ _ (by omega)
  obtain ⟨s2, t2⟩ := u1 (k + 1) (by omega) (by omega)
  have gZ : IntKind.i64.wrap ((k + 1) + 1) = (k + 1) + 1 := fQ _ (by omega)
  obtain ⟨e6, t3⟩ := u1 ((k + 1) + 1) (by omega) (by omega)
  have mz : IntKind.i64.wrap (((k + 1) + 1) + 1) = ((k + 1) + 1) + 1 := fQ _ (by omega)
  refine ⟨(bT.mk s1 s2 e6), 1 + 1 + 1, by omega, fun m d r al => ?_⟩
  simp only [sf, Bm]
  rw [og]
  simp only [cond_true, oe, pJ, Option.bind_some, t1, fM, t2, gZ, t3, mz]
  rw [oh al]
  rw [show ((((k + 1) + 1) + 1) : Int) = k + ((1 + 1 + 1 : Nat) : Int) by omega]) x k a9 (by omega) (by omega)
 exact ⟨cy, c, by omega, aj⟩
theorem Mv (x : List (List UInt8)) (k : Int) (a9 : 0 ≤ k) (ae : k + 64 * (de List.length x) ≤ 1099511627776) : ∃ (cy : List (List UInt8)) (c : Nat), c ≤ 64 * (de List.length x) ∧ xl x k = some (k + (c : Int), cy) := by
 unfold xl
 have e : gD (fun x => 64 * (x.length + 1)) x = 64 * de List.length x := qK List.length x
 have hl : x.length ≤ de List.length x := ik _ _
 obtain ⟨cy, c, ai, aj⟩ := sJ (l := sg) (fun x => 64 * (x.length + 1)) (fun m v k => by simp only [sg, Bo]; rw [fH (Nat.le_refl _)]; rfl) (fun x k a9 ae => by
  obtain ⟨s1, t1⟩ := u1 k (by omega) (by omega)
  have fM : IntKind.i64.wrap (k + 1) = k + 1 := fQ _ (by omega)
  refine ⟨s1, 1, by omega, fun m d r al => ?_⟩
  simp only [sg, Bo]
  rw [og]
  simp only [cond_true, oe, pJ, Option.bind_some, t1, fM]
  rw [oh al]
  rw [show ((k + 1) : Int) = k + ((1 : Nat) : Int) by omega]) x k a9 (by omega) (by omega)
 exact ⟨cy, c, by omega, aj⟩
theorem atf (x : ev) (k : Int) (a9 : 0 ≤ k) (ae : k + 64 * ((mQ x) + 1) ≤ 1099511627776) : ∃ (fW : List bb) (fE : List cX) (g_ : List bT) (jZ : List (List UInt8)) (od : List (List UInt8)) (c : Nat), c ≤ 64 * ((mQ x) + 1) ∧ Bp x.e8 x.b_ x.g1 x.gT x.gU k = some (k + (c : Int), fW, fE, g_, jZ, od) := by
 unfold Bp
 simp only [mQ] at ae ⊢
 obtain ⟨fE, cE, ly, fS⟩ := atc x.e8 k (by omega) (by omega)
 obtain ⟨g_, cF, iW, gG⟩ := atd x.b_ (k + (cE : Int)) (by omega) (by omega)
 obtain ⟨jZ, jw, lz, hg⟩ := ate x.g1 ((k + (cE : Int)) + (cF : Int)) (by omega) (by omega)
 obtain ⟨od, lR, ba, kt⟩ := Mv x.gT (((k + (cE : Int)) + (cF : Int)) + (jw : Int)) (by omega) (by omega)
 obtain ⟨atg, pq, bI, lS⟩ := Mv x.gU ((((k + (cE : Int)) + (cF : Int)) + (jw : Int)) + (lR : Int)) (by omega) (by omega)
 refine ⟨fE, g_, jZ, od, atg, cE + cF + jw + lR + pq, by omega, ?_⟩
 simp only [Option.bind_some, fS, gG, hg, kt, lS]
 rw [show (k + ((cE + cF + jw + lR + pq : Nat) : Int)) = (((((k + (cE : Int)) + (cF : Int)) + (jw : Int)) + (lR : Int)) + (pq : Int)) by omega]
theorem ath (x : List cU) (k : Int) (a9 : 0 ≤ k) (ae : k + 64 * (de k2 x) ≤ 1099511627776) : ∃ (cy : List cU) (c : Nat), c ≤ 64 * (de k2 x) ∧ Br x k = some (k + (c : Int), cy) ∧ xm cy k = some (k + (c : Int)) := by
 unfold Br xm
 have e : gD (fun x => 64 * ((k2 x) + 1)) x = 64 * de k2 x := qK k2 x
 have hl : x.length ≤ de k2 x := ik _ _
 obtain ⟨cy, c, ai, aj, aQ⟩ := Mj (l := sj) (hl := sl) (fun x => 64 * ((k2 x) + 1)) (fun m v k => by simp only [sj, Bq]; rw [fH (Nat.le_refl _)]; rfl) (fun a m k => by simp only [sl, Bu]; rw [fH (Nat.le_refl _)]; rfl) (fun x k a9 ae => by
  simp only [k2] at ae ⊢
  have fM : IntKind.i64.wrap (k + 1) = k + 1 := fQ _ (by omega)
  have gZ : IntKind.i64.wrap ((k + 1) + 1) = (k + 1) + 1 := fQ _ (by omega)
  obtain ⟨jZ, jw, lz, hg, dO⟩ := Mu x.c3 ((k + 1) + 1) (by omega) (by omega)
  have gK := FM (k := (((k + 1) + 1) + (jw : Int))) (by omega)
  refine ⟨(cU.mk k (k + 1) jZ), 1 + 1 + jw, by omega, fun m d r al => ⟨?_, ?_⟩⟩
  ·simp only [sj, Bq]
   rw [og]
   simp only [cond_true, oe, pJ, Option.bind_some, fM, gZ, hg]
   rw [oh al]
   rw [show ((((k + 1) + 1) + (jw : Int)) : Int) = k + ((1 + 1 + jw : Nat) : Int) by omega]
  ·simp only [sl, Bu]
   rw [og]
   simp only [cond_true, cond_false, oe, Option.bind_some, bne_self_eq_false, beq_self_eq_true, Bool.not_true, dO, gK, fM, gZ]
   rw [oh al]
   rw [show ((((k + 1) + 1) + (jw : Int)) : Int) = k + ((1 + 1 + jw : Nat) : Int) by omega]) x k a9 (by omega) (by omega)
 exact ⟨cy, c, by omega, aj, aQ⟩
end Go.f_
