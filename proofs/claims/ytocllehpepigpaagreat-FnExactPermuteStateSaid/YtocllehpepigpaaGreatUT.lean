/- Part of a proof that a law returns true for every input. No condition. -/
import Derived.Test.YtocllehpepigpaaGreatP5
import Derived.Test.YtocllehpepigpaaGreatUN
namespace Go.e1
open Go Go.dg
set_option linter.unusedSimpArgs false
theorem ayP (x : List hz) (n : Int) (aq : (x.length ≤ 9223372036854775807 ∧ ∀ y ∈ x, vP y)) (bf : 0 ≤ n) (a_ : n ≤ 1048576) : yd x n = some (hX n (x.length + 0)) := by
 unfold yd
 refine mH aq.1 bf a_ fun h => ?_
 rw [fK _ (by omega)]
 exact qX (by omega)
theorem ayQ (x : List (List hz)) (n : Int) (aq : (x.length ≤ 9223372036854775807 ∧ ∀ y ∈ x, (y.length ≤ 9223372036854775807 ∧ ∀ z ∈ y, vP z))) (bf : 0 ≤ n) (a_ : n ≤ 1048576) : Bh x n = some (hX n (dn (fun x => x.length + 0) x)) := by
 unfold Bh
 refine mH aq.1 bf a_ fun h => ?_
 rw [fK _ (by omega)]
 exact wI (f := yd) (fun x => x.length + 0) x (fun _ _ _ => rfl) (fun y bl n bf a_ => ayP y n (aq.2 y bl) bf a_) (by omega) _ (by omega) (by omega)
def pr (x : iR) : Nat := (x.Name.length + ((dn (fun x => x.length + 0) x.cO) + 0))
theorem ayR (x : iR) (n : Int) (aq : x_ x) (bf : 0 ≤ n) (a_ : n ≤ 1048576) : ye x n = some (hX n (pr x)) := by
 unfold ye
 unfold pr
 obtain ⟨w0, fP, g8, nz⟩ := aq
 refine mH g8 (by omega) (by omega) fun cz => ?_
 rw [fK (n - (x.Name.length : Int)) (by omega)]
 refine p7 (ayQ _ _ nz (by omega) (by omega)) fun ke => ?_
 exact qX (by omega)
theorem ayS (x : List iR) (n : Int) (aq : (x.length ≤ 9223372036854775807 ∧ ∀ y ∈ x, x_ y)) (bf : 0 ≤ n) (a_ : n ≤ 1048576) : Bj x n = some (hX n (dn pr x)) := by
 unfold Bj
 refine mH aq.1 bf a_ fun h => ?_
 rw [fK _ (by omega)]
 exact wI (f := ye) pr x (fun _ _ _ => rfl) (fun y bl n bf a_ => ayR y n (aq.2 y bl) bf a_) (by omega) _ (by omega) (by omega)
def nN (x : iE) : Nat := (x.Name.length + ((dn pr x.Body) + 0))
theorem ayT (x : iE) (n : Int) (aq : vQ x) (bf : 0 ≤ n) (a_ : n ≤ 1048576) : yf x n = some (hX n (nN x)) := by
 unfold yf
 unfold nN
 obtain ⟨w0, fP, g8⟩ := aq
 refine mH w0 (by omega) (by omega) fun nh => ?_
 rw [fK (n - (x.Name.length : Int)) (by omega)]
 refine p7 (ayS _ _ g8 (by omega) (by omega)) fun cz => ?_
 exact qX (by omega)
theorem PA (x : List iE) (n : Int) (aq : (x.length ≤ 9223372036854775807 ∧ ∀ y ∈ x, vQ y)) (bf : 0 ≤ n) (a_ : n ≤ 1048576) : yg x n = some (hX n (dn nN x)) := by
 unfold yg
 refine mH aq.1 bf a_ fun h => ?_
 rw [fK _ (by omega)]
 exact wI (f := yf) nN x (fun _ _ _ => rfl) (fun y bl n bf a_ => ayT y n (aq.2 y bl) bf a_) (by omega) _ (by omega) (by omega)
theorem PB (x : List Int) (n : Int) (aq : (x.length ≤ 9223372036854775807 ∧ ∀ y ∈ x, (-9223372036854775808 ≤ y ∧ y ≤ 9223372036854775807))) (bf : 0 ≤ n) (a_ : n ≤ 1048576) : yh x n = some (hX n (x.length + 0)) := by
 unfold yh
 refine mH aq.1 bf a_ fun h => ?_
 rw [fK _ (by omega)]
 exact qX (by omega)
def pt (x : iS) : Nat := ((x.cF.length + 0) + 0)
theorem ayU (x : iS) (n : Int) (aq : ya x) (bf : 0 ≤ n) (a_ : n ≤ 1048576) : yi x n = some (hX n (pt x)) := by
 unfold yi
 unfold pt
 obtain ⟨w0, fP⟩ := aq
 refine p7 (PB _ _ fP (by omega) (by omega)) fun cD => ?_
 exact qX (by omega)
theorem ayV (x : List iS) (n : Int) (aq : (x.length ≤ 9223372036854775807 ∧ ∀ y ∈ x, ya y)) (bf : 0 ≤ n) (a_ : n ≤ 1048576) : Bm x n = some (hX n (dn pt x)) := by
 unfold Bm
 refine mH aq.1 bf a_ fun h => ?_
 rw [fK _ (by omega)]
 exact wI (f := yi) pt x (fun _ _ _ => rfl) (fun y bl n bf a_ => ayU y n (aq.2 y bl) bf a_) (by omega) _ (by omega) (by omega)
def pv (x : iF) : Nat := (x.Left.length + (x.cp.length + (x.Result.length + 0)))
theorem ayW (x : iF) (n : Int) (aq : yb x) (bf : 0 ≤ n) (a_ : n ≤ 1048576) : yj x n = some (hX n (pv x)) := by
 unfold yj
 unfold pv
 obtain ⟨w0, fP, g8⟩ := aq
 refine mH w0 (by omega) (by omega) fun nh => ?_
 rw [fK (n - (x.Left.length : Int)) (by omega)]
 refine mH fP (by omega) (by omega) fun cD => ?_
 rw [fK ((n - (x.Left.length : Int)) - (x.cp.length : Int)) (by omega)]
 refine mH g8 (by omega) (by omega) fun cz => ?_
 rw [fK (((n - (x.Left.length : Int)) - (x.cp.length : Int)) - (x.Result.length : Int)) (by omega)]
 exact qX (by omega)
theorem ayX (x : List iF) (n : Int) (aq : (x.length ≤ 9223372036854775807 ∧ ∀ y ∈ x, yb y)) (bf : 0 ≤ n) (a_ : n ≤ 1048576) : Bo x n = some (hX n (dn pv x)) := by
 unfold Bo
 refine mH aq.1 bf a_ fun h => ?_
 rw [fK _ (by omega)]
 exact wI (f := yj) pv x (fun _ _ _ => rfl) (fun y bl n bf a_ => ayW y n (aq.2 y bl) bf a_) (by omega) _ (by omega) (by omega)
theorem PC (x : List (List UInt8)) (n : Int) (aq : (x.length ≤ 9223372036854775807 ∧ ∀ y ∈ x, y.length ≤ 9223372036854775807)) (bf : 0 ≤ n) (a_ : n ≤ 1048576) : yk x n = some (hX n (dn List.length x)) := by
 unfold yk
 refine mH aq.1 bf a_ fun h => ?_
 rw [fK _ (by omega)]
 exact ayN x (fun _ _ _ => rfl) aq.2 (by omega) _ (by omega) (by omega)
def r4 (x : k5) : Nat := ((dn nN x.eH) + ((dn pt x.c_) + ((dn pv x.hH) + ((dn List.length x.hA) + ((dn List.length x.hB) + 0)))))
theorem ayY (x : k5) (n : Int) (aq : yc x) (bf : 0 ≤ n) (a_ : n ≤ 1048576) : yl x n = some (hX n (r4 x)) := by
 unfold yl
 unfold r4
 obtain ⟨w0, fP, g8, nz, H3⟩ := aq
 refine p7 (PA _ _ w0 (by omega) (by omega)) fun nh => ?_
 refine p7 (ayV _ _ fP (by omega) (by omega)) fun cD => ?_
 refine p7 (ayX _ _ g8 (by omega) (by omega)) fun cz => ?_
 refine p7 (PC _ _ nz (by omega) (by omega)) fun ke => ?_
 refine p7 (PC _ _ H3 (by omega) (by omega)) fun mL => ?_
 exact qX (by omega)
def nO (x : iG) : Nat := ((x.cF.length + 0) + 0)
theorem ayZ (x : iG) (n : Int) (aq : vR x) (bf : 0 ≤ n) (a_ : n ≤ 1048576) : ym x n = some (hX n (nO x)) := by
 unfold ym
 unfold nO
 obtain ⟨w0, fP, g8⟩ := aq
 refine p7 (PB _ _ g8 (by omega) (by omega)) fun cz => ?_
 exact qX (by omega)
theorem ay0 (x : List iG) (n : Int) (aq : (x.length ≤ 9223372036854775807 ∧ ∀ y ∈ x, vR y)) (bf : 0 ≤ n) (a_ : n ≤ 1048576) : Br x n = some (hX n (dn nO x)) := by
 unfold Br
 refine mH aq.1 bf a_ fun h => ?_
 rw [fK _ (by omega)]
 exact wI (f := ym) nO x (fun _ _ _ => rfl) (fun y bl n bf a_ => ayZ y n (aq.2 y bl) bf a_) (by omega) _ (by omega) (by omega)
def wJ (x : hz) : b6 := ⟨x.Kind, x.Value⟩
theorem ay1 (x : hz) : yn x = some (wJ x) := by
 unfold yn
 rfl
theorem ay2 (x : List hz) (h : (x.length + 0) ≤ 1048576) : yo x = some (x.map wJ) := by
 unfold yo
 have hl : x.length ≤ 1048576 := by omega
 rw [pk _ hl (by decide)]
 simp only [Option.bind_some]
 rw [qY (f := yn) wJ x _ (fun _ _ _ => rfl) (fun y bl => ay1 y) hl]
theorem ay3 (x : List (List hz)) (h : (dn (fun x => x.length + 0) x) ≤ 1048576) : Bu x = some (x.map (List.map wJ)) := by
 unfold Bu
 have hl : x.length ≤ 1048576 := Nat.le_trans (iJ _ _) h
 rw [pk _ hl (by decide)]
 simp only [Option.bind_some]
 rw [qY (f := yo) (List.map wJ) x _ (fun _ _ _ => rfl) (fun y bl => ay2 y (Nat.le_trans (kK (f := (fun x => x.length + 0)) bl) h)) hl]
def wK (x : iR) : bJ := ⟨x.Kind, x.Number, x.Name, (x.cO.map (List.map wJ))⟩
def kL (x : bJ) : Nat := (x.Name.length + ((dn (fun x => x.length + 0) x.cO) + 0))
theorem ay4 (x : iR) : kL (wK x) = pr x := by
 simp only [kL, pr, wK, r0, List.length_map]
theorem ay5 (x : iR) (h : (pr x) ≤ 1048576) : yp x = some (wK x) := by
 unfold yp
 unfold pr at h
 rw [ay3 _ (by omega)]
 rfl
theorem ay6 (x : List iR) (h : (dn pr x) ≤ 1048576) : Bw x = some (x.map wK) := by
 unfold Bw
 have hl : x.length ≤ 1048576 := Nat.le_trans (iJ _ _) h
 rw [pk _ hl (by decide)]
 simp only [Option.bind_some]
 rw [qY (f := yp) wK x _ (fun _ _ _ => rfl) (fun y bl => ay5 y (Nat.le_trans (kK (f := pr) bl) h)) hl]
def pw (x : iE) : bk := ⟨x.Name, x.dw, (x.Body.map wK)⟩
def k9 (x : bk) : Nat := (x.Name.length + ((dn kL x.Body) + 0))
theorem PD (x : iE) : k9 (pw x) = nN x := by
 simp only [k9, nN, pw, r0, List.length_map, ay4]
theorem ay7 (x : iE) (h : (nN x) ≤ 1048576) : yq x = some (pw x) := by
 unfold yq
 unfold nN at h
 rw [ay6 _ (by omega)]
 rfl
theorem PE (x : List iE) (h : (dn nN x) ≤ 1048576) : yr x = some (x.map pw) := by
 unfold yr
 have hl : x.length ≤ 1048576 := Nat.le_trans (iJ _ _) h
 rw [pk _ hl (by decide)]
 simp only [Option.bind_some]
 rw [qY (f := yq) pw x _ (fun _ _ _ => rfl) (fun y bl => ay7 y (Nat.le_trans (kK (f := nN) bl) h)) hl]
theorem H9 (x : List Int) (h : (x.length + 0) ≤ 1048576) : qF x = some x := by
 unfold qF
 have hl : x.length ≤ 1048576 := by omega
 rw [pk _ hl (by decide)]
 simp only [Option.bind_some]
 rw [qY (f := some) id x _ (fun _ _ _ => rfl) (fun _ _ => rfl) hl, List.map_id]
def wL (x : iS) : dq := ⟨x.dG, x.cF⟩
def kM (x : dq) : Nat := ((x.cF.length + 0) + 0)
theorem ay8 (x : iS) : kM (wL x) = pt x := by
 simp only [kM, pt, wL, r0, List.length_map]
theorem ay9 (x : iS) (h : (pt x) ≤ 1048576) : ys x = some (wL x) := by
 unfold ys
 unfold pt at h
 rw [H9 _ (by omega)]
 rfl
theorem ay_ (x : List iS) (h : (dn pt x) ≤ 1048576) : BB x = some (x.map wL) := by
 unfold BB
 have hl : x.length ≤ 1048576 := Nat.le_trans (iJ _ _) h
 rw [pk _ hl (by decide)]
 simp only [Option.bind_some]
 rw [qY (f := ys) wL x _ (fun _ _ _ => rfl) (fun y bl => ay9 y (Nat.le_trans (kK (f := pt) bl) h)) hl]
def wM (x : iF) : cc := ⟨x.Left, x.cp, x.Result⟩
def kN (x : cc) : Nat := (x.Left.length + (x.cp.length + (x.Result.length + 0)))
theorem aza (x : iF) : kN (wM x) = pv x := by
 simp only [kN, pv, wM, r0, List.length_map]
theorem azb (x : iF) (h : (pv x) ≤ 1048576) : yt x = some (wM x) := by
 unfold yt
 unfold pv at h
 rfl
theorem azc (x : List iF) (h : (dn pv x) ≤ 1048576) : BD x = some (x.map wM) := by
 unfold BD
 have hl : x.length ≤ 1048576 := Nat.le_trans (iJ _ _) h
 rw [pk _ hl (by decide)]
 simp only [Option.bind_some]
 rw [qY (f := yt) wM x _ (fun _ _ _ => rfl) (fun y bl => azb y (Nat.le_trans (kK (f := pv) bl) h)) hl]
theorem PF (x : List (List UInt8)) (h : (dn List.length x) ≤ 1048576) : yu x = some x := by
 unfold yu
 have hl : x.length ≤ 1048576 := Nat.le_trans (iJ _ _) h
 rw [pk _ hl (by decide)]
 simp only [Option.bind_some]
 rw [qY (f := some) id x _ (fun _ _ _ => rfl) (fun _ _ => rfl) hl, List.map_id]
def p_ (x : k5) : eo := ⟨(x.eH.map pw), (x.c_.map wL), (x.hH.map wM), x.hA, x.hB⟩
def px (x : eo) : Nat := ((dn k9 x.eH) + ((dn kM x.c_) + ((dn kN x.hH) + ((dn List.length x.hA) + ((dn List.length x.hB) + 0)))))
theorem PG (x : k5) : px (p_ x) = r4 x := by
 simp only [px, r4, p_, r0, List.length_map, PD, ay8, aza]
theorem azd (x : k5) (h : (r4 x) ≤ 1048576) : rL x = some (p_ x) := by
 unfold rL
 unfold r4 at h
 rw [PE _ (by omega), ay_ _ (by omega), azc _ (by omega), PF _ (by omega), PF _ (by omega)]
 rfl
def q1 (x : iG) : bM := ⟨x.dG, x.Part, x.cF⟩
def i0 (x : bM) : Nat := ((x.cF.length + 0) + 0)
theorem aze (x : iG) : i0 (q1 x) = nO x := by
 simp only [i0, nO, q1, r0, List.length_map]
theorem azf (x : iG) (h : (nO x) ≤ 1048576) : yv x = some (q1 x) := by
 unfold yv
 unfold nO at h
 rw [H9 _ (by omega)]
 rfl
theorem azg (x : List iG) (h : (dn nO x) ≤ 1048576) : s5 x = some (x.map q1) := by
 unfold s5
 have hl : x.length ≤ 1048576 := Nat.le_trans (iJ _ _) h
 rw [pk _ hl (by decide)]
 simp only [Option.bind_some]
 rw [qY (f := yv) q1 x _ (fun _ _ _ => rfl) (fun y bl => azf y (Nat.le_trans (kK (f := nO) bl) h)) hl]
theorem H_ (x : List Int) (h : (x.length + 0) ≤ 1048576) : we x x = some true := by
 unfold we
 have hl : x.length ≤ 1048576 := by omega
 rw [qZ, cond_false]
 exact Pv x (fun _ _ => rfl) r1 hl
theorem azh (x : bM) (h : (i0 x) ≤ 1048576) : y5 x x = some true := by
 unfold y5
 unfold i0 at h
 simp only [r1, r2, uf, cond_false, Option.bind_some, Bool.not_true, H_ x.cF (by omega)]
theorem PH (x : List bM) (h : (dn i0 x) ≤ 1048576) : ts x x = some true := by
 unfold ts
 have hl : x.length ≤ 1048576 := Nat.le_trans (iJ _ _) h
 rw [qZ, cond_false]
 exact ue (f := y5) x (fun _ _ => rfl) (fun y bl => azh y (Nat.le_trans (kK (f := i0) bl) h)) hl
theorem azi (x : b6) : y6 x x = some true := by
 unfold y6
 simp only [r1, r2, uf, cond_false, Option.bind_some, Bool.not_true]
theorem azj (x : List b6) (h : (x.length + 0) ≤ 1048576) : y7 x x = some true := by
 unfold y7
 have hl : x.length ≤ 1048576 := by omega
 rw [qZ, cond_false]
 exact ue (f := y6) x (fun _ _ => rfl) (fun y bl => azi y) hl
theorem azk (x : List (List b6)) (h : (dn (fun x => x.length + 0) x) ≤ 1048576) : CU x x = some true := by
 unfold CU
 have hl : x.length ≤ 1048576 := Nat.le_trans (iJ _ _) h
 rw [qZ, cond_false]
 exact ue (f := y7) x (fun _ _ => rfl) (fun y bl => azj y (Nat.le_trans (kK (f := (fun x => x.length + 0)) bl) h)) hl
theorem azl (x : bJ) (h : (kL x) ≤ 1048576) : y8 x x = some true := by
 unfold y8
 unfold kL at h
 simp only [r1, r2, uf, cond_false, Option.bind_some, Bool.not_true, azk x.cO (by omega)]
theorem azm (x : List bJ) (h : (dn kL x) ≤ 1048576) : CW x x = some true := by
 unfold CW
 have hl : x.length ≤ 1048576 := Nat.le_trans (iJ _ _) h
 rw [qZ, cond_false]
 exact ue (f := y8) x (fun _ _ => rfl) (fun y bl => azl y (Nat.le_trans (kK (f := kL) bl) h)) hl
theorem azn (x : bk) (h : (k9 x) ≤ 1048576) : y9 x x = some true := by
 unfold y9
 unfold k9 at h
 simp only [r1, r2, uf, cond_false, Option.bind_some, Bool.not_true, azm x.Body (by omega)]
theorem PI (x : List bk) (h : (dn k9 x) ≤ 1048576) : y_ x x = some true := by
 unfold y_
 have hl : x.length ≤ 1048576 := Nat.le_trans (iJ _ _) h
 rw [qZ, cond_false]
 exact ue (f := y9) x (fun _ _ => rfl) (fun y bl => azn y (Nat.le_trans (kK (f := k9) bl) h)) hl
theorem azo (x : dq) (h : (kM x) ≤ 1048576) : za x x = some true := by
 unfold za
 unfold kM at h
 simp only [r1, r2, uf, cond_false, Option.bind_some, Bool.not_true, H_ x.cF (by omega)]
theorem azp (x : List dq) (h : (dn kM x) ≤ 1048576) : CZ x x = some true := by
 unfold CZ
 have hl : x.length ≤ 1048576 := Nat.le_trans (iJ _ _) h
 rw [qZ, cond_false]
 exact ue (f := za) x (fun _ _ => rfl) (fun y bl => azo y (Nat.le_trans (kK (f := kM) bl) h)) hl
theorem azq (x : cc) (h : (kN x) ≤ 1048576) : zb x x = some true := by
 unfold zb
 unfold kN at h
 simp only [r1, r2, uf, cond_false, Option.bind_some, Bool.not_true]
theorem azr (x : List cc) (h : (dn kN x) ≤ 1048576) : C1 x x = some true := by
 unfold C1
 have hl : x.length ≤ 1048576 := Nat.le_trans (iJ _ _) h
 rw [qZ, cond_false]
 exact ue (f := zb) x (fun _ _ => rfl) (fun y bl => azq y (Nat.le_trans (kK (f := kN) bl) h)) hl
theorem PJ (x : List (List UInt8)) (h : (dn List.length x) ≤ 1048576) : zc x x = some true := by
 unfold zc
 have hl : x.length ≤ 1048576 := Nat.le_trans (iJ _ _) h
 rw [qZ, cond_false]
 exact Pv x (fun _ _ => rfl) r2 hl
theorem azs (x : eo) (h : (px x) ≤ 1048576) : zd x x = some true := by
 unfold zd
 unfold px at h
 simp only [r1, r2, uf, cond_false, Option.bind_some, Bool.not_true, PI x.eH (by omega), azp x.c_ (by omega), azr x.hH (by omega), PJ x.hA (by omega), PJ x.hB (by omega)]
theorem wN (k : Int) (bf : 0 ≤ k) (ad : k ≤ 1099511627776) : ∃ t, qI k = some t := by
 have key : ∀ (n : Nat) (k : Int), 0 ≤ k → k ≤ n → n ≤ 1099511627776 → ∀ t : List UInt8, t.length + n ≤ 1099511627776 → ∃ r, ∀ m, n < m → rU m k t = some r := by
  intro n
  induction n with
  | zero =>
    intro k ae ah aH t bo
    refine ⟨[109] ++ t, fun m hm => ?_⟩
    obtain ⟨m, rfl⟩ : ∃ j, m = j + 1 := ⟨m - 1, by omega⟩
    simp only [rU, ze]
    rw [show decide (0 < k) = false by simp; omega, cond_false, show pC (1 + t.length) = some () by unfold pC; rw [if_pos (by omega)]]
    rfl
  | succ n ih =>
    intro k ae ah aH t bo
    by_cases aA : 0 < k
    ·have aj : Int.tdiv k 10 = k / 10 := Int.tdiv_eq_ediv_of_nonneg ae
     have hw : IntKind.i64.wrap (Int.tdiv k 10) = k / 10 := by rw [aj]; exact fK _ (by omega)
     obtain ⟨r, aZ⟩ := ih (k / 10) (by omega) (by omega) (by omega) ([(qe (IntKind.i64.wrap (48 + (Int.tmod k 10))))] ++ t) (by simp only [List.length_append, List.length_cons, List.length_nil]; omega)
     refine ⟨r, fun m hm => ?_⟩
     obtain ⟨m, rfl⟩ : ∃ j, m = j + 1 := ⟨m - 1, by omega⟩
     simp only [rU, ze]
     rw [show decide (0 < k) = true by simp; omega, cond_true, show pC (1 + t.length) = some () by unfold pC; rw [if_pos (by omega)]]
     simp only [Option.bind_some, hw]
     exact aZ m (by omega)
    ·refine ⟨[109] ++ t, fun m hm => ?_⟩
     obtain ⟨m, rfl⟩ : ∃ j, m = j + 1 := ⟨m - 1, by omega⟩
     simp only [rU, ze]
     rw [show decide (0 < k) = false by simp; omega, cond_false, show pC (1 + t.length) = some () by unfold pC; rw [if_pos (by omega)]]
     rfl
 unfold qI
 by_cases aA : k ≤ 0
 ·exact ⟨_, by rw [show decide (k ≤ 0) = true by simpa using aA]; rfl⟩
 ·obtain ⟨r, aZ⟩ := key k.toNat k bf (by omega) (by omega) [] (by simp only [List.length_nil]; omega)
  exact ⟨r, by rw [show decide (k ≤ 0) = false by simp; omega, cond_false]; exact i1 (k.toNat + 1) fun m hm => aZ m (by omega)⟩
theorem azt (x : List b6) (k : Int) (bf : 0 ≤ k) (ad : k + 64 * (x.length + 0) ≤ 1099511627776) : ∃ (cA : List b6) (c : Nat), c ≤ 64 * (x.length + 0) ∧ C4 x k = some (k + (c : Int), cA) := by
 unfold C4
 have e : gp (fun _ => 64) x = 64 * x.length := H8 64 x
 obtain ⟨cA, c, ae, ah⟩ := uj (l := tt) (fun _ => 64) (fun m v k => by simp only [tt, C3]; rw [fD (Nat.le_refl _)]; rfl) (fun x k bf ad => by
  have fP : IntKind.i64.wrap (k + 1) = k + 1 := fK _ (by omega)
  have g8 : IntKind.i64.wrap ((k + 1) + 1) = (k + 1) + 1 := fK _ (by omega)
  refine ⟨(b6.mk k (k + 1)), 1 + 1, by omega, fun m d r aj => ?_⟩
  simp only [tt, C3]
  rw [po]
  simp only [cond_true, pn, q0, Option.bind_some, fP, g8]
  rw [pq aj]
  rw [show (((k + 1) + 1) : Int) = k + ((1 + 1 : Nat) : Int) by omega]) x k bf (by omega) (by omega)
 exact ⟨cA, c, by omega, ah⟩
theorem azu (x : List (List b6)) (k : Int) (bf : 0 ≤ k) (ad : k + 64 * (dn (fun x => x.length + 0) x) ≤ 1099511627776) : ∃ (cA : List (List b6)) (c : Nat), c ≤ 64 * (dn (fun x => x.length + 0) x) ∧ C6 x k = some (k + (c : Int), cA) := by
 unfold C6
 have e : gp (fun x => 64 * ((x.length + 0) + 1)) x = 64 * dn (fun x => x.length + 0) x := r3 (fun x => x.length + 0) x
 have hl : x.length ≤ dn (fun x => x.length + 0) x := iJ _ _
 obtain ⟨cA, c, ae, ah⟩ := uj (l := tu) (fun x => 64 * ((x.length + 0) + 1)) (fun m v k => by simp only [tu, C5]; rw [fD (Nat.le_refl _)]; rfl) (fun x k bf ad => by
  obtain ⟨e4, cD, kW, fR⟩ := azt x k (by omega) (by omega)
  refine ⟨e4, cD, by omega, fun m d r aj => ?_⟩
  simp only [tu, C5]
  rw [po]
  simp only [cond_true, pn, q0, Option.bind_some, fR]
  rw [pq aj]) x k bf (by omega) (by omega)
 exact ⟨cA, c, by omega, ah⟩
theorem azv (x : List bJ) (k : Int) (bf : 0 ≤ k) (ad : k + 64 * (dn kL x) ≤ 1099511627776) : ∃ (cA : List bJ) (c : Nat), c ≤ 64 * (dn kL x) ∧ C8 x k = some (k + (c : Int), cA) := by
 unfold C8
 have e : gp (fun x => 64 * ((kL x) + 1)) x = 64 * dn kL x := r3 kL x
 have hl : x.length ≤ dn kL x := iJ _ _
 obtain ⟨cA, c, ae, ah⟩ := uj (l := tv) (fun x => 64 * ((kL x) + 1)) (fun m v k => by simp only [tv, C7]; rw [fD (Nat.le_refl _)]; rfl) (fun x k bf ad => by
  simp only [kL] at ad ⊢
  have fP : IntKind.i64.wrap (k + 1) = k + 1 := fK _ (by omega)
  have g8 : IntKind.i64.wrap ((k + 1) + 1) = (k + 1) + 1 := fK _ (by omega)
  obtain ⟨fo, t3⟩ := wN ((k + 1) + 1) (by omega) (by omega)
  have nz : IntKind.i64.wrap (((k + 1) + 1) + 1) = ((k + 1) + 1) + 1 := fK _ (by omega)
  obtain ⟨pj, mL, bt, ku⟩ := azu x.cO (((k + 1) + 1) + 1) (by omega) (by omega)
  refine ⟨(bJ.mk k (k + 1) fo pj), 1 + 1 + 1 + mL, by omega, fun m d r aj => ?_⟩
  simp only [tv, C7]
  rw [po]
  simp only [cond_true, pn, q0, Option.bind_some, fP, g8, t3, nz, ku]
  rw [pq aj]
  rw [show (((((k + 1) + 1) + 1) + (mL : Int)) : Int) = k + ((1 + 1 + 1 + mL : Nat) : Int) by omega]) x k bf (by omega) (by omega)
 exact ⟨cA, c, by omega, ah⟩
theorem azw (x : List bk) (k : Int) (bf : 0 ≤ k) (ad : k + 64 * (dn k9 x) ≤ 1099511627776) : ∃ (cA : List bk) (c : Nat), c ≤ 64 * (dn k9 x) ∧ C_ x k = some (k + (c : Int), cA) := by
 unfold C_
 have e : gp (fun x => 64 * ((k9 x) + 1)) x = 64 * dn k9 x := r3 k9 x
 have hl : x.length ≤ dn k9 x := iJ _ _
 obtain ⟨cA, c, ae, ah⟩ := uj (l := tw) (fun x => 64 * ((k9 x) + 1)) (fun m v k => by simp only [tw, C9]; rw [fD (Nat.le_refl _)]; rfl) (fun x k bf ad => by
  simp only [k9] at ad ⊢
  obtain ⟨s1, t1⟩ := wN k (by omega) (by omega)
  have fP : IntKind.i64.wrap (k + 1) = k + 1 := fK _ (by omega)
  have g8 : IntKind.i64.wrap ((k + 1) + 1) = (k + 1) + 1 := fK _ (by omega)
  obtain ⟨kD, ke, lh, hS⟩ := azv x.Body ((k + 1) + 1) (by omega) (by omega)
  refine ⟨(bk.mk s1 (k + 1) kD), 1 + 1 + ke, by omega, fun m d r aj => ?_⟩
  simp only [tw, C9]
  rw [po]
  simp only [cond_true, pn, q0, Option.bind_some, t1, fP, g8, hS]
  rw [pq aj]
  rw [show ((((k + 1) + 1) + (ke : Int)) : Int) = k + ((1 + 1 + ke : Nat) : Int) by omega]) x k bf (by omega) (by omega)
 exact ⟨cA, c, by omega, ah⟩
theorem Ia (x : List Int) (k : Int) (bf : 0 ≤ k) (ad : k + 64 * (x.length + 0) ≤ 1099511627776) : ∃ (cA : List Int) (c : Nat), c ≤ 64 * (x.length + 0) ∧ wg x k = some (k + (c : Int), cA) ∧ Dj cA k = some (k + (c : Int)) := by
 unfold wg Dj
 have e : gp (fun _ => 64) x = 64 * x.length := H8 64 x
 obtain ⟨cA, c, ae, ah, aH⟩ := Py (l := tx) (hl := tE) (fun _ => 64) (fun m v k => by simp only [tx, Da]; rw [fD (Nat.le_refl _)]; rfl) (fun a m k => by simp only [tE, Di]; rw [fD (Nat.le_refl _)]; rfl) (fun x k bf ad => by
  have fP : IntKind.i64.wrap (k + 1) = k + 1 := fK _ (by omega)
  refine ⟨k, 1, by omega, fun m d r aj => ⟨?_, ?_⟩⟩
  ·simp only [tx, Da]
   rw [po]
   simp only [cond_true, pn, q0, Option.bind_some, fP]
   rw [pq aj]
   rw [show ((k + 1) : Int) = k + ((1 : Nat) : Int) by omega]
  ·simp only [tE, Di]
   rw [po]
   simp only [cond_true, cond_false, pn, Option.bind_some, bne_self_eq_false, beq_self_eq_true, Bool.not_true, fP]
   rw [pq aj]
   rw [show ((k + 1) : Int) = k + ((1 : Nat) : Int) by omega]) x k bf (by omega) (by omega)
 exact ⟨cA, c, by omega, ah, aH⟩
theorem azx (x : List dq) (k : Int) (bf : 0 ≤ k) (ad : k + 64 * (dn kM x) ≤ 1099511627776) : ∃ (cA : List dq) (c : Nat), c ≤ 64 * (dn kM x) ∧ Dc x k = some (k + (c : Int), cA) := by
 unfold Dc
 have e : gp (fun x => 64 * ((kM x) + 1)) x = 64 * dn kM x := r3 kM x
 have hl : x.length ≤ dn kM x := iJ _ _
 obtain ⟨cA, c, ae, ah⟩ := uj (l := tz) (fun x => 64 * ((kM x) + 1)) (fun m v k => by simp only [tz, Db]; rw [fD (Nat.le_refl _)]; rfl) (fun x k bf ad => by
  simp only [kM] at ad ⊢
  have fP : IntKind.i64.wrap (k + 1) = k + 1 := fK _ (by omega)
  obtain ⟨fT, cz, iN, gW⟩ := Ia x.cF (k + 1) (by omega) (by omega)
  refine ⟨(dq.mk k fT), 1 + cz, by omega, fun m d r aj => ?_⟩
  simp only [tz, Db]
  rw [po]
  simp only [cond_true, pn, q0, Option.bind_some, fP, gW]
  rw [pq aj]
  rw [show (((k + 1) + (cz : Int)) : Int) = k + ((1 + cz : Nat) : Int) by omega]) x k bf (by omega) (by omega)
 exact ⟨cA, c, by omega, ah⟩
theorem azy (x : List cc) (k : Int) (bf : 0 ≤ k) (ad : k + 64 * (dn kN x) ≤ 1099511627776) : ∃ (cA : List cc) (c : Nat), c ≤ 64 * (dn kN x) ∧ De x k = some (k + (c : Int), cA) := by
 unfold De
 have e : gp (fun x => 64 * ((kN x) + 1)) x = 64 * dn kN x := r3 kN x
 have hl : x.length ≤ dn kN x := iJ _ _
 obtain ⟨cA, c, ae, ah⟩ := uj (l := tA) (fun x => 64 * ((kN x) + 1)) (fun m v k => by simp only [tA, Dd]; rw [fD (Nat.le_refl _)]; rfl) (fun x k bf ad => by
  simp only [kN] at ad ⊢
  obtain ⟨s1, t1⟩ := wN k (by omega) (by omega)
  have fP : IntKind.i64.wrap (k + 1) = k + 1 := fK _ (by omega)
  obtain ⟨s2, t2⟩ := wN (k + 1) (by omega) (by omega)
  have g8 : IntKind.i64.wrap ((k + 1) + 1) = (k + 1) + 1 := fK _ (by omega)
  obtain ⟨fo, t3⟩ := wN ((k + 1) + 1) (by omega) (by omega)
  have nz : IntKind.i64.wrap (((k + 1) + 1) + 1) = ((k + 1) + 1) + 1 := fK _ (by omega)
  refine ⟨(cc.mk s1 s2 fo), 1 + 1 + 1, by omega, fun m d r aj => ?_⟩
  simp only [tA, Dd]
  rw [po]
  simp only [cond_true, pn, q0, Option.bind_some, t1, fP, t2, g8, t3, nz]
  rw [pq aj]
  rw [show ((((k + 1) + 1) + 1) : Int) = k + ((1 + 1 + 1 : Nat) : Int) by omega]) x k bf (by omega) (by omega)
 exact ⟨cA, c, by omega, ah⟩
theorem PK (x : List (List UInt8)) (k : Int) (bf : 0 ≤ k) (ad : k + 64 * (dn List.length x) ≤ 1099511627776) : ∃ (cA : List (List UInt8)) (c : Nat), c ≤ 64 * (dn List.length x) ∧ zf x k = some (k + (c : Int), cA) := by
 unfold zf
 have e : gp (fun x => 64 * (x.length + 1)) x = 64 * dn List.length x := r3 List.length x
 have hl : x.length ≤ dn List.length x := iJ _ _
 obtain ⟨cA, c, ae, ah⟩ := uj (l := tB) (fun x => 64 * (x.length + 1)) (fun m v k => by simp only [tB, Df]; rw [fD (Nat.le_refl _)]; rfl) (fun x k bf ad => by
  obtain ⟨s1, t1⟩ := wN k (by omega) (by omega)
  have fP : IntKind.i64.wrap (k + 1) = k + 1 := fK _ (by omega)
  refine ⟨s1, 1, by omega, fun m d r aj => ?_⟩
  simp only [tB, Df]
  rw [po]
  simp only [cond_true, pn, q0, Option.bind_some, t1, fP]
  rw [pq aj]
  rw [show ((k + 1) : Int) = k + ((1 : Nat) : Int) by omega]) x k bf (by omega) (by omega)
 exact ⟨cA, c, by omega, ah⟩
theorem azz (x : eo) (k : Int) (bf : 0 ≤ k) (ad : k + 64 * ((px x) + 1) ≤ 1099511627776) : ∃ (fF : List bk) (e4 : List dq) (fT : List cc) (kD : List (List UInt8)) (pj : List (List UInt8)) (c : Nat), c ≤ 64 * ((px x) + 1) ∧ Dg x.eH x.c_ x.hH x.hA x.hB k = some (k + (c : Int), fF, e4, fT, kD, pj) := by
 unfold Dg
 simp only [px] at ad ⊢
 obtain ⟨e4, cD, kW, fR⟩ := azw x.eH k (by omega) (by omega)
 obtain ⟨fT, cz, iN, gW⟩ := azx x.c_ (k + (cD : Int)) (by omega) (by omega)
 obtain ⟨kD, ke, lh, hS⟩ := azy x.hH ((k + (cD : Int)) + (cz : Int)) (by omega) (by omega)
 obtain ⟨pj, mL, bt, ku⟩ := PK x.hA (((k + (cD : Int)) + (cz : Int)) + (ke : Int)) (by omega) (by omega)
 obtain ⟨azA, qu, b2, l3⟩ := PK x.hB ((((k + (cD : Int)) + (cz : Int)) + (ke : Int)) + (mL : Int)) (by omega) (by omega)
 refine ⟨e4, fT, kD, pj, azA, cD + cz + ke + mL + qu, by omega, ?_⟩
 simp only [Option.bind_some, fR, gW, hS, ku, l3]
 rw [show (k + ((cD + cz + ke + mL + qu : Nat) : Int)) = (((((k + (cD : Int)) + (cz : Int)) + (ke : Int)) + (mL : Int)) + (qu : Int)) by omega]
theorem PL (x : List bM) (k : Int) (bf : 0 ≤ k) (ad : k + 64 * (dn i0 x) ≤ 1099511627776) : ∃ (cA : List bM) (c : Nat), c ≤ 64 * (dn i0 x) ∧ zg x k = some (k + (c : Int), cA) ∧ zh cA k = some (k + (c : Int)) := by
 unfold zg zh
 have e : gp (fun x => 64 * ((i0 x) + 1)) x = 64 * dn i0 x := r3 i0 x
 have hl : x.length ≤ dn i0 x := iJ _ _
 obtain ⟨cA, c, ae, ah, aH⟩ := Py (l := tD) (hl := tF) (fun x => 64 * ((i0 x) + 1)) (fun m v k => by simp only [tD, Dh]; rw [fD (Nat.le_refl _)]; rfl) (fun a m k => by simp only [tF, Dk]; rw [fD (Nat.le_refl _)]; rfl) (fun x k bf ad => by
  simp only [i0] at ad ⊢
  have fP : IntKind.i64.wrap (k + 1) = k + 1 := fK _ (by omega)
  have g8 : IntKind.i64.wrap ((k + 1) + 1) = (k + 1) + 1 := fK _ (by omega)
  obtain ⟨kD, ke, lh, hS, iw⟩ := Ia x.cF ((k + 1) + 1) (by omega) (by omega)
  have gD := H7 (k := (((k + 1) + 1) + (ke : Int))) (by omega)
  refine ⟨(bM.mk k (k + 1) kD), 1 + 1 + ke, by omega, fun m d r aj => ⟨?_, ?_⟩⟩
  ·simp only [tD, Dh]
   rw [po]
   simp only [cond_true, pn, q0, Option.bind_some, fP, g8, hS]
   rw [pq aj]
   rw [show ((((k + 1) + 1) + (ke : Int)) : Int) = k + ((1 + 1 + ke : Nat) : Int) by omega]
  ·simp only [tF, Dk]
   rw [po]
   simp only [cond_true, cond_false, pn, Option.bind_some, bne_self_eq_false, beq_self_eq_true, Bool.not_true, iw, gD, fP, g8]
   rw [pq aj]
   rw [show ((((k + 1) + 1) + (ke : Int)) : Int) = k + ((1 + 1 + ke : Nat) : Int) by omega]) x k bf (by omega) (by omega)
 exact ⟨cA, c, by omega, ah, aH⟩
end Go.e1
