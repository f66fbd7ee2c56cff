/- Part of a proof that a law returns true for every input. No condition. -/
import Derived.Test.YtbemmmimelklkaaFwA
namespace Go.eJ
open Go Go.cB
set_option linter.unusedVariables false
noncomputable section
structure fM where
 Kind : Int
 Value : Int
def r9 (x : fM) : Prop := (-9223372036854775808 ≤ x.Kind ∧ x.Kind ≤ 9223372036854775807) ∧ (-9223372036854775808 ≤ x.Value ∧ x.Value ≤ 9223372036854775807)
structure gV where
 Kind : Int
 Number : Int
 Name : List UInt8
 b4 : List (List fM)
def tW (x : gV) : Prop := (-9223372036854775808 ≤ x.Kind ∧ x.Kind ≤ 9223372036854775807) ∧ (-9223372036854775808 ≤ x.Number ∧ x.Number ≤ 9223372036854775807) ∧ x.Name.length ≤ 9223372036854775807 ∧ (x.b4.length ≤ 9223372036854775807 ∧ ∀ y ∈ x.b4, (y.length ≤ 9223372036854775807 ∧ ∀ z ∈ y, r9 z))
structure gF where
 Name : List UInt8
 cS : Int
 Body : List gV
def qf (x : gF) : Prop := x.Name.length ≤ 9223372036854775807 ∧ (-9223372036854775808 ≤ x.cS ∧ x.cS ≤ 9223372036854775807) ∧ (x.Body.length ≤ 9223372036854775807 ∧ ∀ y ∈ x.Body, tW y)
structure bz where
 Kind : Int
 Value : Int
def Ow (x : bz) : Prop := (-9223372036854775808 ≤ x.Kind ∧ x.Kind ≤ 9223372036854775807) ∧ (-9223372036854775808 ≤ x.Value ∧ x.Value ≤ 9223372036854775807)
structure bn where
 Kind : Int
 Number : Int
 Name : List UInt8
 b4 : List (List bz)
def Ox (x : bn) : Prop := (-9223372036854775808 ≤ x.Kind ∧ x.Kind ≤ 9223372036854775807) ∧ (-9223372036854775808 ≤ x.Number ∧ x.Number ≤ 9223372036854775807) ∧ x.Name.length ≤ 9223372036854775807 ∧ (x.b4.length ≤ 9223372036854775807 ∧ ∀ y ∈ x.b4, (y.length ≤ 9223372036854775807 ∧ ∀ z ∈ y, Ow z))
structure aV where
 Name : List UInt8
 cS : Int
 Body : List bn
def ahx (x : aV) : Prop := x.Name.length ≤ 9223372036854775807 ∧ (-9223372036854775808 ≤ x.cS ∧ x.cS ≤ 9223372036854775807) ∧ (x.Body.length ≤ 9223372036854775807 ∧ ∀ y ∈ x.Body, Ox y)
structure b0 where
 scope : Int
 behind : Bool
def ahy (x : b0) : Prop := (-9223372036854775808 ≤ x.scope ∧ x.scope ≤ 9223372036854775807) ∧ True
def tX (a0 : List fM) (ad : Int) : Option Int :=
 cond (decide ((IntKind.i64.wrap (ad - (a0.length : Int))) < 0)) (some (-1)) (some (IntKind.i64.wrap (ad - (a0.length : Int))))
def GG (ln : Int → Int → Option Int) (a0 : List (List fM)) (fz : Int) (eK : Int) : Option Int :=
 cond (decide (eK < (a0.length : Int))) ((b5 a0 eK).bind fun ar => (tX ar fz).bind fun aC => cond (decide (aC < 0)) (some (-1)) (ln aC (IntKind.i64.wrap (eK + 1)))) (some fz)
def xa (a0 : List (List fM)) : Nat → Int → Int → Option Int
 | 0, _, _ => none
 | n + 1, fz, eK => GG (xa a0 n) a0 fz eK
def xb (a0 : List (List fM)) (ad : Int) : Option Int :=
 cond (decide ((IntKind.i64.wrap (ad - (a0.length : Int))) < 0)) (some (-1)) (lim fun n => xa a0 n (IntKind.i64.wrap (ad - (a0.length : Int))) 0)
def tY (a0 : gV) (ad : Int) : Option Int :=
 cond (decide ((IntKind.i64.wrap (ad - (a0.Name.length : Int))) < 0)) (some (-1)) ((xb a0.b4 (IntKind.i64.wrap (ad - (a0.Name.length : Int)))).bind fun ar => cond (decide (ar < 0)) (some (-1)) (some ar))
def GH (ln : Int → Int → Option Int) (a0 : List gV) (fz : Int) (eK : Int) : Option Int :=
 cond (decide (eK < (a0.length : Int))) ((b5 a0 eK).bind fun ar => (tY ar fz).bind fun aC => cond (decide (aC < 0)) (some (-1)) (ln aC (IntKind.i64.wrap (eK + 1)))) (some fz)
def xc (a0 : List gV) : Nat → Int → Int → Option Int
 | 0, _, _ => none
 | n + 1, fz, eK => GH (xc a0 n) a0 fz eK
def xd (a0 : List gV) (ad : Int) : Option Int :=
 cond (decide ((IntKind.i64.wrap (ad - (a0.length : Int))) < 0)) (some (-1)) (lim fun n => xc a0 n (IntKind.i64.wrap (ad - (a0.length : Int))) 0)
def tZ (a0 : gF) (ad : Int) : Option Int :=
 cond (decide ((IntKind.i64.wrap (ad - (a0.Name.length : Int))) < 0)) (some (-1)) ((xd a0.Body (IntKind.i64.wrap (ad - (a0.Name.length : Int)))).bind fun ar => cond (decide (ar < 0)) (some (-1)) (some ar))
def GI (ln : Int → Int → Option Int) (a0 : List gF) (fz : Int) (eK : Int) : Option Int :=
 cond (decide (eK < (a0.length : Int))) ((b5 a0 eK).bind fun ar => (tZ ar fz).bind fun aC => cond (decide (aC < 0)) (some (-1)) (ln aC (IntKind.i64.wrap (eK + 1)))) (some fz)
def xe (a0 : List gF) : Nat → Int → Int → Option Int
 | 0, _, _ => none
 | n + 1, fz, eK => GI (xe a0 n) a0 fz eK
def t_ (a0 : List gF) (ad : Int) : Option Int :=
 cond (decide ((IntKind.i64.wrap (ad - (a0.length : Int))) < 0)) (some (-1)) (lim fun n => xe a0 n (IntKind.i64.wrap (ad - (a0.length : Int))) 0)
def ua (a0 : fM) : Option bz :=
 some (bz.mk a0.Kind a0.Value)
def GJ (eB : (List bz) → Int → Option ((List bz))) (a0 : List fM) (cK : List bz) (cq : Int) : Option ((List bz)) :=
 cond (decide (cq < (a0.length : Int))) ((b5 a0 cq).bind fun ar => (ua ar).bind fun aC => (b5 cK cq).bind fun aX => eB (List.set cK (Int.toNat cq) aC) (IntKind.i64.wrap (cq + 1))) (some cK)
def xf (a0 : List fM) : Nat → (List bz) → Int → Option ((List bz))
 | 0, _, _ => none
 | n + 1, cK, cq => GJ (xf a0 n) a0 cK cq
def ub (a0 : List fM) : Option ((List bz)) :=
 (nA 16 (a0.length : Int)).bind fun _ => lim fun n => xf a0 n (List.replicate (Int.toNat (a0.length : Int)) (bz.mk 0 0)) 0
def GK (eB : (List (List bz)) → Int → Option ((List (List bz)))) (a0 : List (List fM)) (cK : List (List bz)) (cq : Int) : Option ((List (List bz))) :=
 cond (decide (cq < (a0.length : Int))) ((b5 a0 cq).bind fun ar => (ub ar).bind fun aC => (b5 cK cq).bind fun aX => eB (List.set cK (Int.toNat cq) aC) (IntKind.i64.wrap (cq + 1))) (some cK)
def xg (a0 : List (List fM)) : Nat → (List (List bz)) → Int → Option ((List (List bz)))
 | 0, _, _ => none
 | n + 1, cK, cq => GK (xg a0 n) a0 cK cq
def xh (a0 : List (List fM)) : Option ((List (List bz))) :=
 (nA 24 (a0.length : Int)).bind fun _ => lim fun n => xg a0 n (List.replicate (Int.toNat (a0.length : Int)) []) 0
def uc (a0 : gV) : Option bn :=
 (xh a0.b4).bind fun ar => some (bn.mk a0.Kind a0.Number a0.Name ar)
def GL (eB : (List bn) → Int → Option ((List bn))) (a0 : List gV) (cK : List bn) (cq : Int) : Option ((List bn)) :=
 cond (decide (cq < (a0.length : Int))) ((b5 a0 cq).bind fun ar => (uc ar).bind fun aC => (b5 cK cq).bind fun aX => eB (List.set cK (Int.toNat cq) aC) (IntKind.i64.wrap (cq + 1))) (some cK)
def xi (a0 : List gV) : Nat → (List bn) → Int → Option ((List bn))
 | 0, _, _ => none
 | n + 1, cK, cq => GL (xi a0 n) a0 cK cq
def xj (a0 : List gV) : Option ((List bn)) :=
 (nA 56 (a0.length : Int)).bind fun _ => lim fun n => xi a0 n (List.replicate (Int.toNat (a0.length : Int)) (bn.mk 0 0 ([] : List UInt8) [])) 0
def ud (a0 : gF) : Option aV :=
 (xj a0.Body).bind fun ar => some (aV.mk a0.Name a0.cS ar)
def GM (eB : (List aV) → Int → Option ((List aV))) (a0 : List gF) (cK : List aV) (cq : Int) : Option ((List aV)) :=
 cond (decide (cq < (a0.length : Int))) ((b5 a0 cq).bind fun ar => (ud ar).bind fun aC => (b5 cK cq).bind fun aX => eB (List.set cK (Int.toNat cq) aC) (IntKind.i64.wrap (cq + 1))) (some cK)
def xk (a0 : List gF) : Nat → (List aV) → Int → Option ((List aV))
 | 0, _, _ => none
 | n + 1, cK, cq => GM (xk a0 n) a0 cK cq
def oY (a0 : List gF) : Option ((List aV)) :=
 (nA 48 (a0.length : Int)).bind fun _ => lim fun n => xk a0 n (List.replicate (Int.toNat (a0.length : Int)) (aV.mk ([] : List UInt8) 0 [])) 0
def ue (a0 : UInt8) : Option Bool :=
 some ((decide (97 ≤ (a0.toNat : Int))) && (decide ((a0.toNat : Int) ≤ 122)))
def Bx (a0 : UInt8) : Option Bool :=
 some ((decide (48 ≤ (a0.toNat : Int))) && (decide ((a0.toNat : Int) ≤ 57)))
def xl (hB : Int → Option Bool) (a0 : List UInt8) (el : Int) : Option Bool :=
 cond (decide (el < (a0.length : Int))) ((b5 a0 el).bind fun aX => (ue aX).bind fun bM => cond (!bM) ((Bx aX).bind fun bP => cond (!bP) (some false) (hB (IntKind.i64.wrap (el + 1)))) (hB (IntKind.i64.wrap (el + 1)))) (some true)
def r_ (a0 : List UInt8) : Nat → Int → Option Bool
 | 0, _ => none
 | n + 1, el => xl (r_ a0 n) a0 el
def uf (a0 : List UInt8) : Option Bool :=
 cond (a0 == ([] : List UInt8)) (some false) (cond (decide (10 < (a0.length : Int))) (some false) ((b5 a0 0).bind fun ar => (ue ar).bind fun aC => cond (!aC) (some false) (lim fun n => r_ a0 n 0)))
def kT (a0 : Int) (ad : Int) (aT : Int) : Option Bool :=
 some ((decide (ad ≤ a0)) && (decide (a0 ≤ aT)))
def ug (a0 : bn) (fP : Bool) : Option Int :=
 cond fP (some 1) (cond (a0.Kind == 2) (some 2) (some 0))
def uh (a0 : bn) : Option Int :=
 cond (a0.Kind == 1) (ug a0 true) (cond (a0.Kind == 3) (ug a0 true) (ug a0 (a0.Kind == 4)))
def xm (ln : Int → Int → Option Bool) (a0 : List bn) (lo : Int) (l0 : Int) : Option Bool :=
 cond (decide (l0 < (a0.length : Int))) (cond (lo == 0) (some false) ((b5 a0 l0).bind fun ar => (uh ar).bind fun aC => ln (IntKind.i64.wrap (lo + (IntKind.i64.wrap (aC - 1)))) (IntKind.i64.wrap (l0 + 1)))) (some (lo == 0))
def qg (a0 : List bn) : Nat → Int → Int → Option Bool
 | 0, _, _ => none
 | n + 1, lo, l0 => xm (qg a0 n) a0 lo l0
def xn (a0 : List bn) : Option Bool :=
 cond (((a0.length : Int) == 0) || (decide (20 < (a0.length : Int)))) (some false) (lim fun n => qg a0 n 1 0)
def xo (a0 : bn) (ui : Bool) : Option Bool :=
 cond ui (some (((a0.Number == 0) && (a0.Name == ([] : List UInt8))) && ((a0.b4.length : Int) == 0))) (cond (a0.Kind == 1) (some (a0.Number == 0)) (cond (a0.Kind == 3) (some ((a0.Number == 0) && (a0.Name == ([] : List UInt8)))) (cond (a0.Kind == 4) (some ((a0.Name == ([] : List UInt8)) && ((a0.b4.length : Int) == 0))) (cond (a0.Kind == 5) (some (a0.Name == ([] : List UInt8))) (some false)))))
def Bz (a0 : bn) : Option Bool :=
 cond (a0.Kind == 0) (xo a0 true) (xo a0 (a0.Kind == 2))
def xp (ej : Int → Int → Option Int) (a0 : List bn) (bj : Int) (aR : Int) : Option Int :=
 cond (decide (0 < aR)) ((b5 a0 bj).bind fun ar => (uh ar).bind fun aC => ej (IntKind.i64.wrap (bj + 1)) (IntKind.i64.wrap (aR + (IntKind.i64.wrap (aC - 1))))) (some bj)
def qh (a0 : List bn) : Nat → Int → Int → Option Int
 | 0, _, _ => none
 | n + 1, bj, aR => xp (qh a0 n) a0 bj aR
def xq (a0 : List bn) (ad : Int) : Option Int :=
 lim fun n => qh a0 n ad 1
def uj (eB : Int → Int → Option Int) (a0 : aV) (ad : Int) (sa : Int) (sb : Int) : Option Int :=
 eB sa (IntKind.i64.wrap (sb + 1))
def xr (eB : Int → Int → Option Int) (a0 : aV) (ad : Int) (jO : Int) (i5 : Int) : Option Int :=
 cond (decide (i5 < ad)) ((b5 a0.Body i5).bind fun ar => cond (ar.Kind == 4) ((xq a0.Body i5).bind fun aC => cond (decide (ad < aC)) (uj eB a0 ad (IntKind.i64.wrap (jO + 1)) i5) (uj eB a0 ad jO i5)) (uj eB a0 ad jO i5)) (some jO)
def oZ (a0 : aV) (ad : Int) : Nat → Int → Int → Option Int
 | 0, _, _ => none
 | n + 1, jO, i5 => xr (oZ a0 ad n) a0 ad jO i5
def sc (a0 : aV) (ad : Int) : Option Int :=
 lim fun n => oZ a0 ad n a0.cS 0
def xt (a0 : bz) (ad : Int) : Option Bool :=
 cond (a0.Kind == 0) ((kT a0.Value 0 63).bind fun ar => some ar) (cond (a0.Kind == 1) ((kT a0.Value 0 (IntKind.i64.wrap (ad - 1))).bind fun aC => some aC) (cond (a0.Kind == 2) ((kT a0.Value 0 8).bind fun aX => some aX) (cond (a0.Kind == 3) (some (a0.Value == 0)) (some false))))
def BA (a0 : bz) : Option Int :=
 cond (a0.Kind == 2) (some 2) (cond (a0.Kind == 3) (some 1) (some 0))
def xu (ln : Int → Int → Option Bool) (a0 : List bz) (ad : Int) (fP : Int) (lp : Int) : Option Bool :=
 cond (decide (lp < (a0.length : Int))) (cond (fP == 0) (some false) ((b5 a0 lp).bind fun ar => (xt ar ad).bind fun aC => cond (!aC) (some false) ((BA ar).bind fun aX => ln (IntKind.i64.wrap (fP + (IntKind.i64.wrap (aX - 1)))) (IntKind.i64.wrap (lp + 1))))) (some (fP == 0))
def qi (a0 : List bz) (ad : Int) : Nat → Int → Int → Option Bool
 | 0, _, _ => none
 | n + 1, fP, lp => xu (qi a0 ad n) a0 ad fP lp
def xv (a0 : List bz) (ad : Int) (aT : Int) : Option Bool :=
 cond (decide (aT < (a0.length : Int))) (some false) (lim fun n => qi a0 ad n 1 0)
def xw (Oy : Int → Int → Option Int) (ar : bn) (l1 : Int) (l3 : Int) : Option Int :=
 cond (decide (l3 < (ar.b4.length : Int))) ((b5 ar.b4 l3).bind fun bM => (xv bM l1 15).bind fun bP => cond (!bP) (some 8) (Oy l1 (IntKind.i64.wrap (l3 + 1)))) (some 0)
def o0 (ar : bn) : Nat → Int → Int → Option Int
 | 0, _, _ => none
 | n + 1, l1, l3 => xw (o0 ar n) ar l1 l3
def sd (ad : aV) (aT : Int) (ar : bn) (uk : Bool) : Option Int :=
 cond uk (some 6) ((sc ad aT).bind fun aX => cond ((ar.Kind == 4) && (decide (6 ≤ aX))) (some 7) (lim fun n => o0 ar n aX 0))
def qj (ad : aV) (aT : Int) (ar : bn) : Option Int :=
 cond (ar.Kind == 5) (cond (aT == 0) (sd ad aT ar true) ((b5 ad.Body (IntKind.i64.wrap (aT - 1))).bind fun cN => sd ad aT ar (cN.Kind != 1))) (sd ad aT ar false)
def qk (a0 : List aV) (ad : aV) (aT : Int) (ar : bn) (um : Bool) : Option Int :=
 cond um (some 4) (cond (ar.Kind == 1) (cond ((decide (2 < (ar.b4.length : Int))) || ((decide (0 < (ar.b4.length : Int))) && (ar.Name == ([116, 97, 117] : List UInt8)))) (some 5) (qj ad aT ar)) (cond (ar.Kind == 3) (cond ((ar.b4.length : Int) != 1) (some 5) (qj ad aT ar)) (cond (ar.Kind == 5) ((b5 a0 ar.Number).bind fun d_ => cond ((ar.b4.length : Int) != d_.cS) (some 5) (qj ad aT ar)) (qj ad aT ar))))
def xx (a0 : List aV) (ad : aV) (aT : Int) (ar : bn) (uo : Bool) : Option Int :=
 cond uo (some 3) (cond (ar.Kind == 4) ((kT ar.Number 1 7).bind fun ig => cond (!ig) (qk a0 ad aT ar true) (cond (ar.Kind == 5) ((kT ar.Number 0 (IntKind.i64.wrap ((a0.length : Int) - 1))).bind fun dP => qk a0 ad aT ar (!dP)) (qk a0 ad aT ar false))) (cond (ar.Kind == 5) ((kT ar.Number 0 (IntKind.i64.wrap ((a0.length : Int) - 1))).bind fun dK => qk a0 ad aT ar (!dK)) (qk a0 ad aT ar false)))
def uq (a0 : List aV) (ad : aV) (aT : Int) : Option Int :=
 (b5 ad.Body aT).bind fun ar => (Bz ar).bind fun aC => cond (!aC) (some 2) (cond (ar.Kind == 1) ((uf ar.Name).bind fun en => xx a0 ad aT ar (!en)) (xx a0 ad aT ar false))
def ur (hB : Int → Option (Int × Int)) (a0 : List aV) (ad : aV) (kv : Int) : Option (Int × Int) :=
 cond (decide (kv < (ad.Body.length : Int))) ((uq a0 ad kv).bind fun aC => cond (decide (0 < aC)) (some (kv, aC)) (hB (IntKind.i64.wrap (kv + 1)))) (some (0, 0))
def o1 (a0 : List aV) (ad : aV) : Nat → Int → Option (Int × Int)
 | 0, _ => none
 | n + 1, kv => ur (o1 a0 ad n) a0 ad kv
def ql (a0 : List aV) (ad : aV) : Option (Int × Int) :=
 (xn ad.Body).bind fun ar => cond (!ar) (some (0, 1)) (lim fun n => o1 a0 ad n 0)
def xy (hB : Int → Option Bool) (Oz : Int → Int → Option Bool) (a0 : List aV) (kx : Int) (lq : Int) : Option Bool :=
 cond (decide (lq < kx)) ((b5 a0 lq).bind fun bM => (b5 a0 kx).bind fun bP => cond (bM.Name == bP.Name) (some false) (Oz kx (IntKind.i64.wrap (lq + 1)))) (hB (IntKind.i64.wrap (kx + 1)))
def qm (hB : Int → Option Bool) (a0 : List aV) : Nat → Int → Int → Option Bool
 | 0, _, _ => none
 | n + 1, kx, lq => xy hB (qm hB a0 n) a0 kx lq
def xz (OA : Int → Option Bool) (a0 : List aV) (l4 : Int) : Option Bool :=
 cond (decide (l4 < (a0.length : Int))) ((b5 a0 l4).bind fun cN => (ql a0 cN).bind fun d_ => cond (decide (0 < d_.2)) (some false) (OA (IntKind.i64.wrap (l4 + 1)))) (some true)
def o2 (a0 : List aV) : Nat → Int → Option Bool
 | 0, _ => none
 | n + 1, l4 => xz (o2 a0 n) a0 l4
def xA (hB : Int → Option Bool) (a0 : List aV) (el : Int) : Option Bool :=
 cond (decide (el < (a0.length : Int))) ((b5 a0 el).bind fun ar => (uf ar.Name).bind fun aC => cond (!aC) (some false) ((kT ar.cS 0 3).bind fun aX => cond (!aX) (some false) (lim fun n => qm hB a0 n el 0))) (lim fun n => o2 a0 n 0)
def l5 (a0 : List aV) : Nat → Int → Option Bool
 | 0, _ => none
 | n + 1, el => xA (l5 a0 n) a0 el
def xB (a0 : List aV) : Option Bool :=
 cond (((a0.length : Int) == 0) || (decide (4 < (a0.length : Int)))) (some false) (lim fun n => l5 a0 n 0)
def xC (a0 : List aV) (ad : Int) (aT : Int) : Option Int :=
 (xB a0).bind fun ar => cond (!ar) (some 1) ((kT ad 0 (IntKind.i64.wrap ((a0.length : Int) - 1))).bind fun aC => cond (!aC) (some 2) ((b5 a0 ad).bind fun aX => (kT aT 0 (IntKind.i64.wrap ((aX.Body.length : Int) - 1))).bind fun bM => cond (!bM) (some 2) (some 0)))
def xD (ej : Int → Option Int) (a0 : List (List UInt8)) (ad : List UInt8) (aR : Int) : Option Int :=
 cond (decide (aR < (a0.length : Int))) ((b5 a0 aR).bind fun ar => cond (ar == ad) (some aR) (ej (IntKind.i64.wrap (aR + 1)))) (some (-1))
def se (a0 : List (List UInt8)) (ad : List UInt8) : Nat → Int → Option Int
 | 0, _ => none
 | n + 1, aR => xD (se a0 ad n) a0 ad aR
def xE (a0 : List (List UInt8)) (ad : List UInt8) : Option Int :=
 lim fun n => se a0 ad n 0
def uu (eB : (List (List UInt8)) → Int → Option ((List (List UInt8)))) (a0 : List (List UInt8)) (sf : List (List UInt8)) (sg : Int) : Option ((List (List UInt8))) :=
 eB sf (IntKind.i64.wrap (sg + 1))
def uv (eB : (List (List UInt8)) → Int → Option ((List (List UInt8)))) (OB : (List (List UInt8)) → Int → Int → Int → Option ((List (List UInt8)))) (a0 : List (List UInt8)) (gO : List (List UInt8)) (g6 : Int) (gW : Int) (gx : Int) : Option ((List (List UInt8))) :=
 cond (decide (gW < gx)) ((b5 gO (IntKind.i64.wrap (gx - 1))).bind fun dP => (b5 gO gx).bind fun dK => OB (List.set gO (Int.toNat gx) dP) g6 gW (IntKind.i64.wrap (gx - 1))) ((b5 a0 g6).bind fun en => (b5 gO gW).bind fun ij => uu eB a0 (List.set gO (Int.toNat gW) en) g6)
def mP (eB : (List (List UInt8)) → Int → Option ((List (List UInt8)))) (a0 : List (List UInt8)) : Nat → (List (List UInt8)) → Int → Int → Int → Option ((List (List UInt8)))
 | 0, _, _, _, _ => none
 | n + 1, gO, g6, gW, gx => uv eB (mP eB a0 n) a0 gO g6 gW gx
def xF (eB : (List (List UInt8)) → Int → Option ((List (List UInt8)))) (OC : (List (List UInt8)) → Int → Int → Option ((List (List UInt8)))) (a0 : List (List UInt8)) (gG : List (List UInt8)) (iy : Int) (ik : Int) : Option ((List (List UInt8))) :=
 cond (decide (ik < (gG.length : Int))) ((b5 gG ik).bind fun aX => (b5 a0 iy).bind fun bM => cond (Op.bytesLess aX bM) (OC gG iy (IntKind.i64.wrap (ik + 1))) ((room 16 (gG.length + 1)).bind fun _ => lim fun n => mP eB a0 n (gG ++ [([] : List UInt8)]) iy ik (IntKind.i64.wrap (((gG ++ [([] : List UInt8)]).length : Int) - 1)))) ((room 16 (gG.length + 1)).bind fun _ => lim fun n => mP eB a0 n (gG ++ [([] : List UInt8)]) iy ik (IntKind.i64.wrap (((gG ++ [([] : List UInt8)]).length : Int) - 1)))
def o3 (eB : (List (List UInt8)) → Int → Option ((List (List UInt8)))) (a0 : List (List UInt8)) : Nat → (List (List UInt8)) → Int → Int → Option ((List (List UInt8)))
 | 0, _, _, _ => none
 | n + 1, gG, iy, ik => xF eB (o3 eB a0 n) a0 gG iy ik
def xG (eB : (List (List UInt8)) → Int → Option ((List (List UInt8)))) (a0 : List (List UInt8)) (cK : List (List UInt8)) (cq : Int) : Option ((List (List UInt8))) :=
 cond (decide (cq < (a0.length : Int))) ((b5 a0 cq).bind fun ar => (xE cK ar).bind fun aC => cond (decide (0 ≤ aC)) (uu eB a0 cK cq) (lim fun n => o3 eB a0 n cK cq 1)) (some cK)
def jP (a0 : List (List UInt8)) : Nat → (List (List UInt8)) → Int → Option ((List (List UInt8)))
 | 0, _, _ => none
 | n + 1, cK, cq => xG (jP a0 n) a0 cK cq
def xH (a0 : List (List UInt8)) : Option ((List (List UInt8))) :=
 lim fun n => jP a0 n [([116, 97, 117] : List UInt8)] 0
def xI (n0 : (List (List UInt8)) → Int → Option ((List (List UInt8)) × Int)) (a0 : List aV) (ad : Int) (si : List (List UInt8)) (sj : Int) : Option ((List (List UInt8)) × Int) :=
 n0 si (IntKind.i64.wrap (sj + 1))
def xJ (n0 : (List (List UInt8)) → Int → Option ((List (List UInt8)) × Int)) (a0 : List aV) (ad : Int) (fF : List (List UInt8)) (j7 : Int) : Option ((List (List UInt8)) × Int) :=
 (b5 a0 ad).bind fun aC => cond (decide (j7 < (aC.Body.length : Int))) ((b5 aC.Body j7).bind fun aX => cond (aX.Kind == 1) ((room 16 (fF.length + 1)).bind fun _ => xI n0 a0 ad (fF ++ [aX.Name]) j7) (xI n0 a0 ad fF j7)) ((xH fF).bind fun bM => (hS bM 1 (bM.length : Int)).bind fun bP => some (bP, 0))
def n1 (a0 : List aV) (ad : Int) : Nat → (List (List UInt8)) → Int → Option ((List (List UInt8)) × Int)
 | 0, _, _ => none
 | n + 1, fF, j7 => xJ (n1 a0 ad n) a0 ad fF j7
def xK (a0 : List aV) (ad : Int) : Option ((List (List UInt8)) × Int) :=
 (xC a0 ad 0).bind fun ar => cond (ar != 0) (some ([], ar)) (lim fun n => n1 a0 ad n [] 0)
def iS (a0 : Int) (ad : Int) (aT : Int) : Option Bool :=
 some ((decide (ad ≤ a0)) && (decide (a0 ≤ aT)))
def BB (a0 : aV) : Option Bool :=
 (iS a0.cS 0 3).bind fun ar => some (!ar)
def xL (ej : Int → Option Int) (a0 : List aV) (eL : Int) : Option Int :=
 cond (decide (eL < (a0.length : Int))) ((b5 a0 eL).bind fun ar => (BB ar).bind fun aC => cond aC (some eL) (ej (IntKind.i64.wrap (eL + 1)))) (some (-1))
def sk (a0 : List aV) : Nat → Int → Option Int
 | 0, _ => none
 | n + 1, eL => xL (sk a0 n) a0 eL
def BC (a0 : List aV) : Option Int :=
 lim fun n => sk a0 n 0
def BD (a0 : List aV) : Option Bool :=
 (BC a0).bind fun ar => some (decide (0 ≤ ar))
def xM (a0 : List aV) : Option Bool :=
 (BD a0).bind fun ar => some (!ar)
def BE (a0 : UInt8) : Option Bool :=
 some ((decide (48 ≤ (a0.toNat : Int))) && (decide ((a0.toNat : Int) ≤ 57)))
def uw (ej : Int → Option Bool) (a0 : List UInt8) (jo : Int) : Option Bool :=
 cond (decide (jo < (a0.length : Int))) ((b5 a0 jo).bind fun ar => cond (!((decide (97 ≤ (ar.toNat : Int))) && (decide ((ar.toNat : Int) ≤ 122)))) (cond (jo == 0) (some false) ((BE ar).bind fun aC => cond (!aC) (some false) (ej (IntKind.i64.wrap (jo + 1))))) (ej (IntKind.i64.wrap (jo + 1)))) (some ((decide (1 ≤ (a0.length : Int))) && (decide ((a0.length : Int) ≤ 10))))
def n2 (a0 : List UInt8) : Nat → Int → Option Bool
 | 0, _ => none
 | n + 1, jo => uw (n2 a0 n) a0 jo
def ux (a0 : List UInt8) : Option Bool :=
 lim fun n => n2 a0 n 0
def BF (a0 : aV) (ad : List UInt8) : Option Bool :=
 some (a0.Name == ad)
def xN (ej : Int → Option Int) (a0 : List aV) (ad : List UInt8) (eL : Int) : Option Int :=
 cond (decide (eL < (a0.length : Int))) ((b5 a0 eL).bind fun ar => (BF ar ad).bind fun aC => cond aC (some eL) (ej (IntKind.i64.wrap (eL + 1)))) (some (-1))
def sl (a0 : List aV) (ad : List UInt8) : Nat → Int → Option Int
 | 0, _ => none
 | n + 1, eL => xN (sl a0 ad n) a0 ad eL
def BG (a0 : List aV) (ad : List UInt8) : Option Int :=
 lim fun n => sl a0 ad n 0
def xO (a0 : List aV) (ad : List UInt8) : Option Int :=
 (BG a0 ad).bind fun ar => some ar
def uy (a0 : bn) (eK : Bool) : Option Int :=
 cond eK (some 1) (cond (a0.Kind == 2) (some 2) (some 0))
def uz (a0 : bn) : Option Int :=
 cond (a0.Kind == 1) (uy a0 true) (cond (a0.Kind == 3) (uy a0 true) (uy a0 (a0.Kind == 4)))
def xP (ej : Int → Int → Option Int) (a0 : aV) (bj : Int) (aR : Int) : Option Int :=
 cond (decide (0 < aR)) (cond (decide ((a0.Body.length : Int) ≤ bj)) (some (-1)) ((b5 a0.Body bj).bind fun ar => (uz ar).bind fun aC => ej (IntKind.i64.wrap (bj + 1)) (IntKind.i64.wrap (aR + (IntKind.i64.wrap (aC - 1)))))) (some bj)
def qn (a0 : aV) : Nat → Int → Int → Option Int
 | 0, _, _ => none
 | n + 1, bj, aR => xP (qn a0 n) a0 bj aR
def xQ (a0 : aV) (ad : Int) : Option Int :=
 lim fun n => qn a0 n ad 1
def xR (j8 : Int → b0 → (List b0) → aV → Option (Int × (List b0))) (OD : (List b0) → Int → Int → Option (Int × (List b0))) (a3 : aV) (i6 : Int) (aC : bn) (aX : Int) (mQ : List b0) (lr : Int) (l6 : Int) : Option (Int × (List b0)) :=
 cond (decide (l6 < aX)) ((j8 lr (b0.mk i6 (aC.Kind == 1)) mQ a3).bind fun bM => OD bM.2 bM.1 (IntKind.i64.wrap (l6 + 1))) (some (lr, mQ))
def o4 (j8 : Int → b0 → (List b0) → aV → Option (Int × (List b0))) (a3 : aV) (i6 : Int) (aC : bn) (aX : Int) : Nat → (List b0) → Int → Int → Option (Int × (List b0))
 | 0, _, _, _ => none
 | n + 1, mQ, lr, l6 => xR j8 (o4 j8 a3 i6 aC aX n) a3 i6 aC aX mQ lr l6
def xS (j8 : Int → b0 → (List b0) → aV → Option (Int × (List b0))) (a0 : Int) (ad : b0) (aT : List b0) (a3 : aV) (aC : bn) (i6 : Int) : Option (Int × (List b0)) :=
 (uz aC).bind fun aX => lim fun n => o4 j8 a3 i6 aC aX n (List.set aT (Int.toNat a0) ad) (IntKind.i64.wrap (a0 + 1)) 0
def BH (j8 : Int → b0 → (List b0) → aV → Option (Int × (List b0))) (a0 : Int) (ad : b0) (aT : List b0) (a3 : aV) : Option (Int × (List b0)) :=
 (b5 aT a0).bind fun ar => (b5 a3.Body a0).bind fun aC => cond (aC.Kind == 4) (xS j8 a0 ad aT a3 aC (IntKind.i64.wrap (ad.scope + 1))) (xS j8 a0 ad aT a3 aC ad.scope)
def qo : Nat → Int → b0 → (List b0) → aV → Option (Int × (List b0))
 | 0, _, _, _, _ => none
 | n + 1, a0, ad, aT, a3 => BH (qo n) a0 ad aT a3
def xT (a0 : Int) (ad : b0) (aT : List b0) (a3 : aV) : Option (Int × (List b0)) :=
 lim fun n => qo n a0 ad aT a3
def xU (a0 : aV) : Option ((List b0)) :=
 (nA 16 (a0.Body.length : Int)).bind fun _ => (xT 0 (b0.mk a0.cS false) (List.replicate (Int.toNat (a0.Body.length : Int)) (b0.mk 0 false)) a0).bind fun ar => some ar.2
def BI (a0 : bn) : Option Bool :=
 (iS a0.Kind 0 5).bind fun ar => some (((ar && (((a0.Kind == 4) || (a0.Kind == 5)) || (a0.Number == 0))) && ((a0.Kind == 1) || (a0.Name == ([] : List UInt8)))) && ((((a0.Kind == 1) || (a0.Kind == 3)) || (a0.Kind == 5)) || ((a0.b4.length : Int) == 0)))
def xV (a0 : List UInt8) : Option Bool :=
 (ux a0).bind fun ar => some (ar && (!(a0 == ([116, 97, 117] : List UInt8))))
def qp (a0 : Int) (ad : Int) : Option Bool :=
 (iS a0 0 (IntKind.i64.wrap (ad - 1))).bind fun ar => some ar
def BJ (a0 : bn) (ad : List aV) : Option Bool :=
 cond (a0.Kind == 1) (some (((a0.b4.length : Int) == 0) || ((!(a0.Name == ([116, 97, 117] : List UInt8))) && (decide ((a0.b4.length : Int) ≤ 2))))) (cond (a0.Kind == 3) (some ((a0.b4.length : Int) == 1)) (cond (a0.Kind == 5) ((b5 ad a0.Number).bind fun ar => some ((a0.b4.length : Int) == ar.cS)) (some true)))
def BK (a0 : Int) : Option Bool :=
 (iS a0 0 63).bind fun ar => some ar
def xW (a0 : bz) (ad : Int) : Option Bool :=
 cond (a0.Kind == 0) ((BK a0.Value).bind fun ar => some ar) (cond (a0.Kind == 1) ((iS a0.Value 0 (IntKind.i64.wrap (ad - 1))).bind fun aC => some aC) (cond (a0.Kind == 2) ((iS a0.Value 0 8).bind fun aX => some aX) (cond (a0.Kind == 3) (some (a0.Value == 0)) (some false))))
def BL (a0 : bz) : Option Int :=
 cond (a0.Kind == 2) (some 2) (cond (a0.Kind == 3) (some 1) (some 0))
def xX (ln : Int → Int → Option Bool) (a0 : List bz) (ad : Int) (fP : Int) (lu : Int) : Option Bool :=
 cond (decide (lu < (a0.length : Int))) ((b5 a0 lu).bind fun bM => cond (fP == 0) (some false) ((xW bM ad).bind fun bP => cond (!bP) (some false) ((BL bM).bind fun cN => ln (IntKind.i64.wrap (fP + (IntKind.i64.wrap (cN - 1)))) (IntKind.i64.wrap (lu + 1))))) (some (fP == 0))
def qq (a0 : List bz) (ad : Int) : Nat → Int → Int → Option Bool
 | 0, _, _ => none
 | n + 1, fP, lu => xX (qq a0 ad n) a0 ad fP lu
def xY (a0 : List bz) (ad : Int) (aT : Int) : Option Bool :=
 (iS ad 0 29).bind fun ar => cond (!ar) (some false) ((iS aT 1 60).bind fun aC => cond (!aC) (some false) ((iS (a0.length : Int) 1 aT).bind fun aX => cond (!aX) (some false) (lim fun n => qq a0 ad n 1 0)))
def BM (a0 : List bz) (ad : b0) : Option Bool :=
 (xY a0 ad.scope 15).bind fun ar => some (!ar)
def xZ (ej : Int → Option Int) (a0 : List (List bz)) (ad : b0) (eL : Int) : Option Int :=
 cond (decide (eL < (a0.length : Int))) ((b5 a0 eL).bind fun ar => (BM ar ad).bind fun aC => cond aC (some eL) (ej (IntKind.i64.wrap (eL + 1)))) (some (-1))
def sm (a0 : List (List bz)) (ad : b0) : Nat → Int → Option Int
 | 0, _ => none
 | n + 1, eL => xZ (sm a0 ad n) a0 ad eL
def BN (a0 : List (List bz)) (ad : b0) : Option Int :=
 lim fun n => sm a0 ad n 0
def x0 (a0 : List (List bz)) (ad : b0) : Option Bool :=
 (BN a0 ad).bind fun ar => some (decide (0 ≤ ar))
def qs (a0 : bn) (ad : List aV) (aT : b0) (uA : Bool) : Option Int :=
 cond uA (some 4) ((BJ a0 ad).bind fun aC => cond (!aC) (some 5) (cond ((a0.Kind == 5) && (!aT.behind)) (some 6) (cond ((a0.Kind == 4) && (decide (6 ≤ aT.scope))) (some 7) ((x0 a0.b4 aT).bind fun aX => cond aX (some 8) (some 0)))))
def uB (a0 : bn) (ad : List aV) (aT : b0) (uC : Bool) : Option Int :=
 cond uC (some 3) (cond (a0.Kind == 4) ((iS a0.Number 1 7).bind fun bM => cond (!bM) (qs a0 ad aT true) (cond (a0.Kind == 5) ((qp a0.Number (ad.length : Int)).bind fun bP => qs a0 ad aT (!bP)) (qs a0 ad aT false))) (cond (a0.Kind == 5) ((qp a0.Number (ad.length : Int)).bind fun cN => qs a0 ad aT (!cN)) (qs a0 ad aT false)))
def uD (a0 : bn) (ad : List aV) (aT : b0) : Option Int :=
 (BI a0).bind fun ar => cond (!ar) (some 2) (cond (a0.Kind == 1) (cond (!(a0.Name == ([116, 97, 117] : List UInt8))) ((xV a0.Name).bind fun d_ => uB a0 ad aT (!d_)) (uB a0 ad aT false)) (uB a0 ad aT false))
def uE (ln : Int → Option (Int × Int)) (a0 : List aV) (ad : aV) (aX : (List b0)) (jQ : Int) : Option (Int × Int) :=
 cond (decide (jQ < (ad.Body.length : Int))) ((b5 ad.Body jQ).bind fun bM => (b5 aX jQ).bind fun bP => (uD bM a0 bP).bind fun cN => cond (cN != 0) (some (jQ, cN)) (ln (IntKind.i64.wrap (jQ + 1)))) (some (0, 0))
def o5 (a0 : List aV) (ad : aV) (aX : (List b0)) : Nat → Int → Option (Int × Int)
 | 0, _ => none
 | n + 1, jQ => uE (o5 a0 ad aX n) a0 ad aX jQ
def uF (a0 : List aV) (ad : aV) : Option (Int × Int) :=
 (iS (ad.Body.length : Int) 1 20).bind fun ar => cond (!ar) (some (0, 1)) ((xQ ad 0).bind fun aC => cond (aC != (ad.Body.length : Int)) (some (0, 1)) ((xU ad).bind fun aX => lim fun n => o5 a0 ad aX n 0))
def x1 (hB : Int → Option Bool) (a0 : List aV) (ky : Int) : Option Bool :=
 cond (decide (ky < (a0.length : Int))) ((b5 a0 ky).bind fun aX => (ux aX.Name).bind fun bM => cond (!bM) (some false) ((hS a0 0 ky).bind fun bP => (xO bP aX.Name).bind fun cN => cond (decide (0 ≤ cN)) (some false) ((uF a0 aX).bind fun d_ => cond (d_.2 != 0) (some false) (hB (IntKind.i64.wrap (ky + 1)))))) (some true)
def qt (a0 : List aV) : Nat → Int → Option Bool
 | 0, _ => none
 | n + 1, ky => x1 (qt a0 n) a0 ky
def x2 (a0 : List aV) : Option Bool :=
 (iS (a0.length : Int) 1 4).bind fun ar => cond (!ar) (some false) ((xM a0).bind fun aC => cond (!aC) (some false) (lim fun n => qt a0 n 0))
def x3 (a0 : List aV) (ad : Int) (aT : Int) : Option Int :=
 (x2 a0).bind fun ar => cond (!ar) (some 1) ((qp ad (a0.length : Int)).bind fun aC => cond (!aC) (some 2) ((b5 a0 ad).bind fun aX => (qp aT (aX.Body.length : Int)).bind fun bM => cond (!bM) (some 2) (some 0)))
def uG (a0 : List (List UInt8)) : Option (List (List UInt8)) := if a0.length < 4611686018427387904 then some (a0.mergeSort fun x y => decide (x ≤ y)) else none
def x4 (a0 : List (List UInt8)) : Option (List (List UInt8)) := some (jv none a0)
def x5 (n0 : (List (List UInt8)) → Int → Option ((List (List UInt8)) × Int)) (aC : aV) (sn : List (List UInt8)) (so : Int) : Option ((List (List UInt8)) × Int) :=
 n0 sn (IntKind.i64.wrap (so + 1))
def x6 (n0 : (List (List UInt8)) → Int → Option ((List (List UInt8)) × Int)) (aC : aV) (fF : List (List UInt8)) (j9 : Int) : Option ((List (List UInt8)) × Int) :=
 cond (decide (j9 < (aC.Body.length : Int))) ((b5 aC.Body j9).bind fun aX => cond ((aX.Kind == 1) && (!(aX.Name == ([116, 97, 117] : List UInt8)))) ((room 16 (fF.length + 1)).bind fun _ => x5 n0 aC (fF ++ [aX.Name]) j9) (x5 n0 aC fF j9)) ((uG fF).bind fun bM => (x4 bM).bind fun bP => some (bP, 0))
def n3 (aC : aV) : Nat → (List (List UInt8)) → Int → Option ((List (List UInt8)) × Int)
 | 0, _, _ => none
 | n + 1, fF, j9 => x6 (n3 aC n) aC fF j9
def uH (a0 : List aV) (ad : Int) : Option ((List (List UInt8)) × Int) :=
 (x3 a0 ad 0).bind fun ar => cond (ar != 0) (some ([], ar)) ((b5 a0 ad).bind fun aC => lim fun n => n3 aC n [] 0)
def GN (hB : Int → Option Bool) (a0 : List (List UInt8)) (ad : List (List UInt8)) (c3 : Int) : Option Bool :=
 cond (decide (c3 < (a0.length : Int))) ((b5 a0 c3).bind fun ar => (b5 ad c3).bind fun aC => cond (!(ar == aC)) (some false) (hB (IntKind.i64.wrap (c3 + 1)))) (some true)
def x7 (a0 : List (List UInt8)) (ad : List (List UInt8)) : Nat → Int → Option Bool
 | 0, _ => none
 | n + 1, c3 => GN (x7 a0 ad n) a0 ad c3
def sq (a0 : List (List UInt8)) (ad : List (List UInt8)) : Option Bool :=
 cond ((a0.length : Int) != (ad.length : Int)) (some false) (lim fun n => x7 a0 ad n 0)
def uI (a0 : bz) (ad : bz) : Option Bool :=
 cond (a0.Kind != ad.Kind) (some false) (cond (a0.Value != ad.Value) (some false) (some true))
def GO (hB : Int → Option Bool) (a0 : List bz) (ad : List bz) (c3 : Int) : Option Bool :=
 cond (decide (c3 < (a0.length : Int))) ((b5 a0 c3).bind fun ar => (b5 ad c3).bind fun aC => (uI ar aC).bind fun aX => cond (!aX) (some false) (hB (IntKind.i64.wrap (c3 + 1)))) (some true)
def x8 (a0 : List bz) (ad : List bz) : Nat → Int → Option Bool
 | 0, _ => none
 | n + 1, c3 => GO (x8 a0 ad n) a0 ad c3
def uJ (a0 : List bz) (ad : List bz) : Option Bool :=
 cond ((a0.length : Int) != (ad.length : Int)) (some false) (lim fun n => x8 a0 ad n 0)
def GP (hB : Int → Option Bool) (a0 : List (List bz)) (ad : List (List bz)) (c3 : Int) : Option Bool :=
 cond (decide (c3 < (a0.length : Int))) ((b5 a0 c3).bind fun ar => (b5 ad c3).bind fun aC => (uJ ar aC).bind fun aX => cond (!aX) (some false) (hB (IntKind.i64.wrap (c3 + 1)))) (some true)
def x9 (a0 : List (List bz)) (ad : List (List bz)) : Nat → Int → Option Bool
 | 0, _ => none
 | n + 1, c3 => GP (x9 a0 ad n) a0 ad c3
def x_ (a0 : List (List bz)) (ad : List (List bz)) : Option Bool :=
 cond ((a0.length : Int) != (ad.length : Int)) (some false) (lim fun n => x9 a0 ad n 0)
def uK (a0 : bn) (ad : bn) : Option Bool :=
 cond (a0.Kind != ad.Kind) (some false) (cond (a0.Number != ad.Number) (some false) (cond (!(a0.Name == ad.Name)) (some false) ((x_ a0.b4 ad.b4).bind fun ar => cond (!ar) (some false) (some true))))
def GQ (hB : Int → Option Bool) (a0 : List bn) (ad : List bn) (c3 : Int) : Option Bool :=
 cond (decide (c3 < (a0.length : Int))) ((b5 a0 c3).bind fun ar => (b5 ad c3).bind fun aC => (uK ar aC).bind fun aX => cond (!aX) (some false) (hB (IntKind.i64.wrap (c3 + 1)))) (some true)
def ya (a0 : List bn) (ad : List bn) : Nat → Int → Option Bool
 | 0, _ => none
 | n + 1, c3 => GQ (ya a0 ad n) a0 ad c3
def yb (a0 : List bn) (ad : List bn) : Option Bool :=
 cond ((a0.length : Int) != (ad.length : Int)) (some false) (lim fun n => ya a0 ad n 0)
def uL (a0 : aV) (ad : aV) : Option Bool :=
 cond (!(a0.Name == ad.Name)) (some false) (cond (a0.cS != ad.cS) (some false) ((yb a0.Body ad.Body).bind fun ar => cond (!ar) (some false) (some true)))
def GR (hB : Int → Option Bool) (a0 : List aV) (ad : List aV) (c3 : Int) : Option Bool :=
 cond (decide (c3 < (a0.length : Int))) ((b5 a0 c3).bind fun ar => (b5 ad c3).bind fun aC => (uL ar aC).bind fun aX => cond (!aX) (some false) (hB (IntKind.i64.wrap (c3 + 1)))) (some true)
def yc (a0 : List aV) (ad : List aV) : Nat → Int → Option Bool
 | 0, _ => none
 | n + 1, c3 => GR (yc a0 ad n) a0 ad c3
def uM (a0 : List aV) (ad : List aV) : Option Bool :=
 cond ((a0.length : Int) != (ad.length : Int)) (some false) (lim fun n => yc a0 ad n 0)
def uN (hB : Int → (List UInt8) → Option ((List UInt8))) (iz : Int) (el : List UInt8) : Option ((List UInt8)) :=
 cond (decide (0 < iz)) ((m2 (1 + el.length)).bind fun _ => hB (IntKind.i64.wrap (Int.tdiv iz 10)) ([(nB (IntKind.i64.wrap (48 + (Int.tmod iz 10))))] ++ el)) ((m2 (1 + el.length)).bind fun _ => some (([109] : List UInt8) ++ el))
def o6 : Nat → Int → (List UInt8) → Option ((List UInt8))
 | 0, _, _ => none
 | n + 1, iz, el => uN (o6 n) iz el
def qu (a0 : Int) : Option ((List UInt8)) :=
 cond (decide (a0 ≤ 0)) (some ([109, 48] : List UInt8)) (lim fun n => o6 n a0 ([] : List UInt8))
def yd (ej : (List bz) → Int → Int → Option (Int × (List bz))) (ch : List bz) (bj : Int) (aR : Int) : Option (Int × (List bz)) :=
 cond (decide (aR < (ch.length : Int))) ((b5 ch aR).bind fun ar => (b5 (List.set ch (Int.toNat aR) (bz.mk bj ar.Value)) aR).bind fun aC => ej (List.set (List.set ch (Int.toNat aR) (bz.mk bj ar.Value)) (Int.toNat aR) (bz.mk aC.Kind (IntKind.i64.wrap (bj + 1)))) (IntKind.i64.wrap ((IntKind.i64.wrap (bj + 1)) + 1)) (IntKind.i64.wrap (aR + 1))) (some (bj, ch))
def qv : Nat → (List bz) → Int → Int → Option (Int × (List bz))
 | 0, _, _, _ => none
 | n + 1, ch, bj, aR => yd (qv n) ch bj aR
def ye (a0 : List bz) (ad : Int) : Option (Int × (List bz)) :=
 lim fun n => qv n a0 ad 0
def yf (ej : (List (List bz)) → Int → Int → Option (Int × (List (List bz)))) (ch : List (List bz)) (bj : Int) (aR : Int) : Option (Int × (List (List bz))) :=
 cond (decide (aR < (ch.length : Int))) ((b5 ch aR).bind fun ar => (ye ar bj).bind fun aC => ej (List.set ch (Int.toNat aR) aC.2) aC.1 (IntKind.i64.wrap (aR + 1))) (some (bj, ch))
def qw : Nat → (List (List bz)) → Int → Int → Option (Int × (List (List bz)))
 | 0, _, _, _ => none
 | n + 1, ch, bj, aR => yf (qw n) ch bj aR
def yg (a0 : List (List bz)) (ad : Int) : Option (Int × (List (List bz))) :=
 lim fun n => qw n a0 ad 0
def yh (ej : (List bn) → Int → Int → Option (Int × (List bn))) (ch : List bn) (bj : Int) (aR : Int) : Option (Int × (List bn)) :=
 cond (decide (aR < (ch.length : Int))) ((b5 ch aR).bind fun ar => (b5 (List.set ch (Int.toNat aR) (bn.mk bj ar.Number ar.Name ar.b4)) aR).bind fun aC => (qu (IntKind.i64.wrap ((IntKind.i64.wrap (bj + 1)) + 1))).bind fun aX => (b5 (List.set (List.set ch (Int.toNat aR) (bn.mk bj ar.Number ar.Name ar.b4)) (Int.toNat aR) (bn.mk aC.Kind (IntKind.i64.wrap (bj + 1)) aC.Name aC.b4)) aR).bind fun bM => (b5 (List.set (List.set (List.set ch (Int.toNat aR) (bn.mk bj ar.Number ar.Name ar.b4)) (Int.toNat aR) (bn.mk aC.Kind (IntKind.i64.wrap (bj + 1)) aC.Name aC.b4)) (Int.toNat aR) (bn.mk bM.Kind bM.Number aX bM.b4)) aR).bind fun bP => (yg bP.b4 (IntKind.i64.wrap ((IntKind.i64.wrap ((IntKind.i64.wrap (bj + 1)) + 1)) + 1))).bind fun cN => ej (List.set (List.set (List.set (List.set ch (Int.toNat aR) (bn.mk bj ar.Number ar.Name ar.b4)) (Int.toNat aR) (bn.mk aC.Kind (IntKind.i64.wrap (bj + 1)) aC.Name aC.b4)) (Int.toNat aR) (bn.mk bM.Kind bM.Number aX bM.b4)) (Int.toNat aR) (bn.mk bP.Kind bP.Number bP.Name cN.2)) cN.1 (IntKind.i64.wrap (aR + 1))) (some (bj, ch))
def qx : Nat → (List bn) → Int → Int → Option (Int × (List bn))
 | 0, _, _, _ => none
 | n + 1, ch, bj, aR => yh (qx n) ch bj aR
def yi (a0 : List bn) (ad : Int) : Option (Int × (List bn)) :=
 lim fun n => qx n a0 ad 0
def yj (ej : (List aV) → Int → Int → Option (Int × (List aV))) (ch : List aV) (bj : Int) (aR : Int) : Option (Int × (List aV)) :=
 cond (decide (aR < (ch.length : Int))) ((qu bj).bind fun ar => (b5 ch aR).bind fun aC => (b5 (List.set ch (Int.toNat aR) (aV.mk ar aC.cS aC.Body)) aR).bind fun aX => (b5 (List.set (List.set ch (Int.toNat aR) (aV.mk ar aC.cS aC.Body)) (Int.toNat aR) (aV.mk aX.Name (IntKind.i64.wrap (bj + 1)) aX.Body)) aR).bind fun bM => (yi bM.Body (IntKind.i64.wrap ((IntKind.i64.wrap (bj + 1)) + 1))).bind fun bP => ej (List.set (List.set (List.set ch (Int.toNat aR) (aV.mk ar aC.cS aC.Body)) (Int.toNat aR) (aV.mk aX.Name (IntKind.i64.wrap (bj + 1)) aX.Body)) (Int.toNat aR) (aV.mk bM.Name bM.cS bP.2)) bP.1 (IntKind.i64.wrap (aR + 1))) (some (bj, ch))
def qy : Nat → (List aV) → Int → Int → Option (Int × (List aV))
 | 0, _, _, _ => none
 | n + 1, ch, bj, aR => yj (qy n) ch bj aR
def yk (a0 : List aV) (ad : Int) : Option (Int × (List aV)) :=
 lim fun n => qy n a0 ad 0
def yl (ej : (List (List UInt8)) → Int → Int → Option (Int × (List (List UInt8)))) (ch : List (List UInt8)) (bj : Int) (aR : Int) : Option (Int × (List (List UInt8))) :=
 cond (decide (aR < (ch.length : Int))) ((qu bj).bind fun ar => (b5 ch aR).bind fun aC => ej (List.set ch (Int.toNat aR) ar) (IntKind.i64.wrap (bj + 1)) (IntKind.i64.wrap (aR + 1))) (some (bj, ch))
def qz : Nat → (List (List UInt8)) → Int → Int → Option (Int × (List (List UInt8)))
 | 0, _, _, _ => none
 | n + 1, ch, bj, aR => yl (qz n) ch bj aR
def ym (a0 : List (List UInt8)) (ad : Int) : Option (Int × (List (List UInt8))) :=
 lim fun n => qz n a0 ad 0
def yn (ej : Int → Int → Option Int) (a0 : List (List UInt8)) (bj : Int) (aR : Int) : Option Int :=
 cond (decide (aR < (a0.length : Int))) ((b5 a0 aR).bind fun ar => (qu bj).bind fun aC => cond (!(ar == aC)) (some (-1)) (ej (IntKind.i64.wrap (bj + 1)) (IntKind.i64.wrap (aR + 1)))) (some bj)
def qA (a0 : List (List UInt8)) : Nat → Int → Int → Option Int
 | 0, _, _ => none
 | n + 1, bj, aR => yn (qA a0 n) a0 bj aR
def uO (a0 : List (List UInt8)) (ad : Int) : Option Int :=
 lim fun n => qA a0 n ad 0
def BO (a0 : List gF) (ad : Int) : Option Bool :=
 (t_ a0 1048576).bind fun ar => cond (decide (ar < 0)) (some true) ((oY a0).bind fun aC => (xK aC ad).bind fun aX => (oY a0).bind fun bM => (uH bM ad).bind fun bP => (sq bP.1 aX.1).bind fun cN => cond ((!cN) || (bP.2 != aX.2)) (some false) ((oY a0).bind fun d_ => (uM bM d_).bind fun ig => cond (!ig) (some false) ((yk bM 1).bind fun dP => cond (decide (dP.1 < 0)) (some false) ((sq bP.1 aX.1).bind fun dK => cond ((!dK) || (bP.2 != aX.2)) (some false) ((ym bP.1 1).bind fun en => (uO en.2 1).bind fun ij => cond (decide (ij < 0)) (some false) (cond (ij != en.1) (some false) ((oY a0).bind fun i7 => (uH i7 ad).bind fun hY => (sq hY.1 aX.1).bind fun iA => cond ((!iA) || (hY.2 != aX.2)) (some false) ((uO en.2 1).bind fun l7 => cond (decide (l7 < 0)) (some false) (cond (l7 != en.1) (some false) (some true))))))))))
end
end Go.eJ
