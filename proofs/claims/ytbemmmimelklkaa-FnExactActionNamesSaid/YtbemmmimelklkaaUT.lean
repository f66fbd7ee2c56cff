/- Part of a proof that a law returns true for every input. No condition. -/
import Derived.Test.YtbemmmimelklkaaP4
import Derived.Test.YtbemmmimelklkaaUN
namespace Go.eJ
open Go Go.cB
set_option linter.unusedSimpArgs false
theorem afn (x : List fM) (n : Int) (au : (x.length ≤ 9223372036854775807 ∧ ∀ y ∈ x, r9 y)) (bh : 0 ≤ n) (bl : n ≤ 1048576) : tX x n = some (hQ n (x.length + 0)) := by
 unfold tX
 refine qR au.1 bh bl fun h => ?_
 rw [gh _ (by omega)]
 exact yN (by omega)
theorem afo (x : List (List fM)) (n : Int) (au : (x.length ≤ 9223372036854775807 ∧ ∀ y ∈ x, (y.length ≤ 9223372036854775807 ∧ ∀ z ∈ y, r9 z))) (bh : 0 ≤ n) (bl : n ≤ 1048576) : xb x n = some (hQ n (cT (fun x => x.length + 0) x)) := by
 unfold xb
 refine qR au.1 bh bl fun h => ?_
 rw [gh _ (by omega)]
 exact Cx (f := tX) (fun x => x.length + 0) x (fun _ _ _ => rfl) (fun y bC n bh bl => afn y n (au.2 y bC) bh bl) (by omega) _ (by omega) (by omega)
def mY (x : gV) : Nat := (x.Name.length + ((cT (fun x => x.length + 0) x.b4) + 0))
theorem afp (x : gV) (n : Int) (au : tW x) (bh : 0 ≤ n) (bl : n ≤ 1048576) : tY x n = some (hQ n (mY x)) := by
 unfold tY
 unfold mY
 obtain ⟨w0, ie, iR, qb⟩ := au
 refine qR iR (by omega) (by omega) fun cu => ?_
 rw [gh (n - (x.Name.length : Int)) (by omega)]
 refine Cw (afo _ _ qb (by omega) (by omega)) fun nP => ?_
 exact yN (by omega)
theorem afq (x : List gV) (n : Int) (au : (x.length ≤ 9223372036854775807 ∧ ∀ y ∈ x, tW y)) (bh : 0 ≤ n) (bl : n ≤ 1048576) : xd x n = some (hQ n (cT mY x)) := by
 unfold xd
 refine qR au.1 bh bl fun h => ?_
 rw [gh _ (by omega)]
 exact Cx (f := tY) mY x (fun _ _ _ => rfl) (fun y bC n bh bl => afp y n (au.2 y bC) bh bl) (by omega) _ (by omega) (by omega)
def k4 (x : gF) : Nat := (x.Name.length + ((cT mY x.Body) + 0))
theorem afr (x : gF) (n : Int) (au : qf x) (bh : 0 ≤ n) (bl : n ≤ 1048576) : tZ x n = some (hQ n (k4 x)) := by
 unfold tZ
 unfold k4
 obtain ⟨w0, ie, iR⟩ := au
 refine qR w0 (by omega) (by omega) fun mi => ?_
 rw [gh (n - (x.Name.length : Int)) (by omega)]
 refine Cw (afq _ _ iR (by omega) (by omega)) fun cu => ?_
 exact yN (by omega)
theorem Iz (x : List gF) (n : Int) (au : (x.length ≤ 9223372036854775807 ∧ ∀ y ∈ x, qf y)) (bh : 0 ≤ n) (bl : n ≤ 1048576) : t_ x n = some (hQ n (cT k4 x)) := by
 unfold t_
 refine qR au.1 bh bl fun h => ?_
 rw [gh _ (by omega)]
 exact Cx (f := tZ) k4 x (fun _ _ _ => rfl) (fun y bC n bh bl => afr y n (au.2 y bC) bh bl) (by omega) _ (by omega) (by omega)
def sK (x : fM) : bz := ⟨x.Kind, x.Value⟩
theorem afs (x : fM) : ua x = some (sK x) := by
 unfold ua
 rfl
theorem aft (x : List fM) (h : (x.length + 0) ≤ 1048576) : ub x = some (x.map sK) := by
 unfold ub
 have hl : x.length ≤ 1048576 := by omega
 rw [vy _ hl (by decide)]
 simp only [Option.bind_some]
 rw [yP (f := ua) sK x _ (fun _ _ _ => rfl) (fun y bC => afs y) hl]
theorem afu (x : List (List fM)) (h : (cT (fun x => x.length + 0) x) ≤ 1048576) : xh x = some (x.map (List.map sK)) := by
 unfold xh
 have hl : x.length ≤ 1048576 := Nat.le_trans (k3 _ _) h
 rw [vy _ hl (by decide)]
 simp only [Option.bind_some]
 rw [yP (f := ub) (List.map sK) x _ (fun _ _ _ => rfl) (fun y bC => aft y (Nat.le_trans (nv (f := (fun x => x.length + 0)) bC) h)) hl]
def sL (x : gV) : bn := ⟨x.Kind, x.Number, x.Name, (x.b4.map (List.map sK))⟩
def g_ (x : bn) : Nat := (x.Name.length + ((cT (fun x => x.length + 0) x.b4) + 0))
theorem afv (x : gV) : g_ (sL x) = mY x := by
 simp only [g_, mY, sL, yO, List.length_map]
theorem afw (x : gV) (h : (mY x) ≤ 1048576) : uc x = some (sL x) := by
 unfold uc
 unfold mY at h
 rw [afu _ (by omega)]
 rfl
theorem afx (x : List gV) (h : (cT mY x) ≤ 1048576) : xj x = some (x.map sL) := by
 unfold xj
 have hl : x.length ≤ 1048576 := Nat.le_trans (k3 _ _) h
 rw [vy _ hl (by decide)]
 simp only [Option.bind_some]
 rw [yP (f := uc) sL x _ (fun _ _ _ => rfl) (fun y bC => afw y (Nat.le_trans (nv (f := mY) bC) h)) hl]
def me (x : gF) : aV := ⟨x.Name, x.cS, (x.Body.map sL)⟩
def h3 (x : aV) : Nat := (x.Name.length + ((cT g_ x.Body) + 0))
theorem IA (x : gF) : h3 (me x) = k4 x := by
 simp only [h3, k4, me, yO, List.length_map, afv]
theorem afy (x : gF) (h : (k4 x) ≤ 1048576) : ud x = some (me x) := by
 unfold ud
 unfold k4 at h
 rw [afx _ (by omega)]
 rfl
theorem IB (x : List gF) (h : (cT k4 x) ≤ 1048576) : oY x = some (x.map me) := by
 unfold oY
 have hl : x.length ≤ 1048576 := Nat.le_trans (k3 _ _) h
 rw [vy _ hl (by decide)]
 simp only [Option.bind_some]
 rw [yP (f := ud) me x _ (fun _ _ _ => rfl) (fun y bC => afy y (Nat.le_trans (nv (f := k4) bC) h)) hl]
theorem afz (x : List (List UInt8)) (h : (cT List.length x) ≤ 1048576) : sq x x = some true := by
 unfold sq
 have hl : x.length ≤ 1048576 := Nat.le_trans (k3 _ _) h
 rw [vz, cond_false]
 exact afj x (fun _ _ => rfl) yR hl
theorem afA (x : bz) : uI x x = some true := by
 unfold uI
 simp only [Cy, yR, Cz, cond_false, Option.bind_some, Bool.not_true]
theorem afB (x : List bz) (h : (x.length + 0) ≤ 1048576) : uJ x x = some true := by
 unfold uJ
 have hl : x.length ≤ 1048576 := by omega
 rw [vz, cond_false]
 exact yQ (f := uI) x (fun _ _ => rfl) (fun y bC => afA y) hl
theorem afC (x : List (List bz)) (h : (cT (fun x => x.length + 0) x) ≤ 1048576) : x_ x x = some true := by
 unfold x_
 have hl : x.length ≤ 1048576 := Nat.le_trans (k3 _ _) h
 rw [vz, cond_false]
 exact yQ (f := uJ) x (fun _ _ => rfl) (fun y bC => afB y (Nat.le_trans (nv (f := (fun x => x.length + 0)) bC) h)) hl
theorem afD (x : bn) (h : (g_ x) ≤ 1048576) : uK x x = some true := by
 unfold uK
 unfold g_ at h
 simp only [Cy, yR, Cz, cond_false, Option.bind_some, Bool.not_true, afC x.b4 (by omega)]
theorem afE (x : List bn) (h : (cT g_ x) ≤ 1048576) : yb x x = some true := by
 unfold yb
 have hl : x.length ≤ 1048576 := Nat.le_trans (k3 _ _) h
 rw [vz, cond_false]
 exact yQ (f := uK) x (fun _ _ => rfl) (fun y bC => afD y (Nat.le_trans (nv (f := g_) bC) h)) hl
theorem afF (x : aV) (h : (h3 x) ≤ 1048576) : uL x x = some true := by
 unfold uL
 unfold h3 at h
 simp only [Cy, yR, Cz, cond_false, Option.bind_some, Bool.not_true, afE x.Body (by omega)]
theorem IC (x : List aV) (h : (cT h3 x) ≤ 1048576) : uM x x = some true := by
 unfold uM
 have hl : x.length ≤ 1048576 := Nat.le_trans (k3 _ _) h
 rw [vz, cond_false]
 exact yQ (f := uL) x (fun _ _ => rfl) (fun y bC => afF y (Nat.le_trans (nv (f := h3) bC) h)) hl
theorem CC (k : Int) (bh : 0 ≤ k) (U : k ≤ 1099511627776) : ∃ t, qu k = some t := by
 have key : ∀ (n : Nat) (k : Int), 0 ≤ k → k ≤ n → n ≤ 1099511627776 → ∀ t : List UInt8, t.length + n ≤ 1099511627776 → ∃ r, ∀ m, n < m → o6 m k t = some r := by
  intro n
  induction n with
  | zero =>
    intro k ab af aF t aZ
    refine ⟨[109] ++ t, fun m hm => ?_⟩
    obtain ⟨m, rfl⟩ : ∃ j, m = j + 1 := ⟨m - 1, by omega⟩
    simp only [o6, uN]
    rw [show decide (0 < k) = false by simp; omega, cond_false, show m2 (1 + t.length) = some () by unfold m2; rw [if_pos (by omega)]]
    rfl
  | succ n ih =>
    intro k ab af aF t aZ
    by_cases ay : 0 < k
    ·have ah : Int.tdiv k 10 = k / 10 := Int.tdiv_eq_ediv_of_nonneg ab
     have hw : IntKind.i64.wrap (Int.tdiv k 10) = k / 10 := by rw [ah]; exact gh _ (by omega)
     obtain ⟨r, aO⟩ := ih (k / 10) (by omega) (by omega) (by omega) ([(nB (IntKind.i64.wrap (48 + (Int.tmod k 10))))] ++ t) (by simp only [List.length_append, List.length_cons, List.length_nil]; omega)
     refine ⟨r, fun m hm => ?_⟩
     obtain ⟨m, rfl⟩ : ∃ j, m = j + 1 := ⟨m - 1, by omega⟩
     simp only [o6, uN]
     rw [show decide (0 < k) = true by simp; omega, cond_true, show m2 (1 + t.length) = some () by unfold m2; rw [if_pos (by omega)]]
     simp only [Option.bind_some, hw]
     exact aO m (by omega)
    ·refine ⟨[109] ++ t, fun m hm => ?_⟩
     obtain ⟨m, rfl⟩ : ∃ j, m = j + 1 := ⟨m - 1, by omega⟩
     simp only [o6, uN]
     rw [show decide (0 < k) = false by simp; omega, cond_false, show m2 (1 + t.length) = some () by unfold m2; rw [if_pos (by omega)]]
     rfl
 unfold qu
 by_cases ay : k ≤ 0
 ·exact ⟨_, by rw [show decide (k ≤ 0) = true by simpa using ay]; rfl⟩
 ·obtain ⟨r, aO⟩ := key k.toNat k bh (by omega) (by omega) [] (by simp only [List.length_nil]; omega)
  exact ⟨r, by rw [show decide (k ≤ 0) = false by simp; omega, cond_false]; exact ho (k.toNat + 1) fun m hm => aO m (by omega)⟩
theorem afG (x : List bz) (k : Int) (bh : 0 ≤ k) (U : k + 64 * (x.length + 0) ≤ 1099511627776) : ∃ (cx : List bz) (c : Nat), c ≤ 64 * (x.length + 0) ∧ ye x k = some (k + (c : Int), cx) := by
 unfold ye
 have e : e1 (fun _ => 64) x = 64 * x.length := Ix 64 x
 obtain ⟨cx, c, ab, af⟩ := yU (l := qv) (fun _ => 64) (fun m v k => by simp only [qv, yd]; rw [fQ (Nat.le_refl _)]; rfl) (fun x k bh U => by
  have ie : IntKind.i64.wrap (k + 1) = k + 1 := gh _ (by omega)
  have iR : IntKind.i64.wrap ((k + 1) + 1) = (k + 1) + 1 := gh _ (by omega)
  refine ⟨(bz.mk k (k + 1)), 1 + 1, by omega, fun m d r ah => ?_⟩
  simp only [qv, yd]
  rw [sI]
  simp only [cond_true, sH, vA, Option.bind_some, ie, iR]
  rw [sJ ah]
  rw [show (((k + 1) + 1) : Int) = k + ((1 + 1 : Nat) : Int) by omega]) x k bh (by omega) (by omega)
 exact ⟨cx, c, by omega, af⟩
theorem afH (x : List (List bz)) (k : Int) (bh : 0 ≤ k) (U : k + 64 * (cT (fun x => x.length + 0) x) ≤ 1099511627776) : ∃ (cx : List (List bz)) (c : Nat), c ≤ 64 * (cT (fun x => x.length + 0) x) ∧ yg x k = some (k + (c : Int), cx) := by
 unfold yg
 have e : e1 (fun x => 64 * ((x.length + 0) + 1)) x = 64 * cT (fun x => x.length + 0) x := vB (fun x => x.length + 0) x
 have hl : x.length ≤ cT (fun x => x.length + 0) x := k3 _ _
 obtain ⟨cx, c, ab, af⟩ := yU (l := qw) (fun x => 64 * ((x.length + 0) + 1)) (fun m v k => by simp only [qw, yf]; rw [fQ (Nat.le_refl _)]; rfl) (fun x k bh U => by
  obtain ⟨fZ, cr, kH, eV⟩ := afG x k (by omega) (by omega)
  refine ⟨fZ, cr, by omega, fun m d r ah => ?_⟩
  simp only [qw, yf]
  rw [sI]
  simp only [cond_true, sH, vA, Option.bind_some, eV]
  rw [sJ ah]) x k bh (by omega) (by omega)
 exact ⟨cx, c, by omega, af⟩
theorem afI (x : List bn) (k : Int) (bh : 0 ≤ k) (U : k + 64 * (cT g_ x) ≤ 1099511627776) : ∃ (cx : List bn) (c : Nat), c ≤ 64 * (cT g_ x) ∧ yi x k = some (k + (c : Int), cx) := by
 unfold yi
 have e : e1 (fun x => 64 * ((g_ x) + 1)) x = 64 * cT g_ x := vB g_ x
 have hl : x.length ≤ cT g_ x := k3 _ _
 obtain ⟨cx, c, ab, af⟩ := yU (l := qx) (fun x => 64 * ((g_ x) + 1)) (fun m v k => by simp only [qx, yh]; rw [fQ (Nat.le_refl _)]; rfl) (fun x k bh U => by
  simp only [g_] at U ⊢
  have ie : IntKind.i64.wrap (k + 1) = k + 1 := gh _ (by omega)
  have iR : IntKind.i64.wrap ((k + 1) + 1) = (k + 1) + 1 := gh _ (by omega)
  obtain ⟨eR, t3⟩ := CC ((k + 1) + 1) (by omega) (by omega)
  have qb : IntKind.i64.wrap (((k + 1) + 1) + 1) = ((k + 1) + 1) + 1 := gh _ (by omega)
  obtain ⟨afJ, m4, bY, jZ⟩ := afH x.b4 (((k + 1) + 1) + 1) (by omega) (by omega)
  refine ⟨(bn.mk k (k + 1) eR afJ), 1 + 1 + 1 + m4, by omega, fun m d r ah => ?_⟩
  simp only [qx, yh]
  rw [sI]
  simp only [cond_true, sH, vA, Option.bind_some, ie, iR, t3, qb, jZ]
  rw [sJ ah]
  rw [show (((((k + 1) + 1) + 1) + (m4 : Int)) : Int) = k + ((1 + 1 + 1 + m4 : Nat) : Int) by omega]) x k bh (by omega) (by omega)
 exact ⟨cx, c, by omega, af⟩
theorem afK (x : List aV) (k : Int) (bh : 0 ≤ k) (U : k + 64 * (cT h3 x) ≤ 1099511627776) : ∃ (cx : List aV) (c : Nat), c ≤ 64 * (cT h3 x) ∧ yk x k = some (k + (c : Int), cx) := by
 unfold yk
 have e : e1 (fun x => 64 * ((h3 x) + 1)) x = 64 * cT h3 x := vB h3 x
 have hl : x.length ≤ cT h3 x := k3 _ _
 obtain ⟨cx, c, ab, af⟩ := yU (l := qy) (fun x => 64 * ((h3 x) + 1)) (fun m v k => by simp only [qy, yj]; rw [fQ (Nat.le_refl _)]; rfl) (fun x k bh U => by
  simp only [h3] at U ⊢
  obtain ⟨s1, t1⟩ := CC k (by omega) (by omega)
  have ie : IntKind.i64.wrap (k + 1) = k + 1 := gh _ (by omega)
  have iR : IntKind.i64.wrap ((k + 1) + 1) = (k + 1) + 1 := gh _ (by omega)
  obtain ⟨oU, nP, lb, gK⟩ := afI x.Body ((k + 1) + 1) (by omega) (by omega)
  refine ⟨(aV.mk s1 (k + 1) oU), 1 + 1 + nP, by omega, fun m d r ah => ?_⟩
  simp only [qy, yj]
  rw [sI]
  simp only [cond_true, sH, vA, Option.bind_some, t1, ie, iR, gK]
  rw [sJ ah]
  rw [show ((((k + 1) + 1) + (nP : Int)) : Int) = k + ((1 + 1 + nP : Nat) : Int) by omega]) x k bh (by omega) (by omega)
 exact ⟨cx, c, by omega, af⟩
theorem afL (x : List (List UInt8)) (k : Int) (bh : 0 ≤ k) (U : k + 64 * (cT List.length x) ≤ 1099511627776) : ∃ (cx : List (List UInt8)) (c : Nat), c ≤ 64 * (cT List.length x) ∧ ym x k = some (k + (c : Int), cx) ∧ uO cx k = some (k + (c : Int)) := by
 unfold ym uO
 have e : e1 (fun x => 64 * (x.length + 1)) x = 64 * cT List.length x := vB List.length x
 have hl : x.length ≤ cT List.length x := k3 _ _
 obtain ⟨cx, c, ab, af, aF⟩ := afm (l := qz) (hl := qA) (fun x => 64 * (x.length + 1)) (fun m v k => by simp only [qz, yl]; rw [fQ (Nat.le_refl _)]; rfl) (fun a m k => by simp only [qA, yn]; rw [fQ (Nat.le_refl _)]; rfl) (fun x k bh U => by
  obtain ⟨s1, t1⟩ := CC k (by omega) (by omega)
  have ie : IntKind.i64.wrap (k + 1) = k + 1 := gh _ (by omega)
  refine ⟨s1, 1, by omega, fun m d r ah => ⟨?_, ?_⟩⟩
  ·simp only [qz, yl]
   rw [sI]
   simp only [cond_true, sH, vA, Option.bind_some, t1, ie]
   rw [sJ ah]
   rw [show ((k + 1) : Int) = k + ((1 : Nat) : Int) by omega]
  ·simp only [qA, yn]
   rw [sI]
   simp only [cond_true, cond_false, sH, Option.bind_some, bne_self_eq_false, beq_self_eq_true, Bool.not_true, t1, ie]
   rw [sJ ah]
   rw [show ((k + 1) : Int) = k + ((1 : Nat) : Int) by omega]) x k bh (by omega) (by omega)
 exact ⟨cx, c, by omega, af, aF⟩
end Go.eJ
