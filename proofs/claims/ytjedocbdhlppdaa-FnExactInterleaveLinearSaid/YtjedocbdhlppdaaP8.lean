/- Part of a proof that a law returns true for every input. No condition. -/
import Derived.Test.YtjedocbdhlppdaaFwA
namespace Go.gV
open Go Go.dp
set_option linter.unusedVariables false
noncomputable section
structure fY where
 Kind : Int
 Value : Int
def pW (x : fY) : Prop := (-9223372036854775808 ≤ x.Kind ∧ x.Kind ≤ 9223372036854775807) ∧ (-9223372036854775808 ≤ x.Value ∧ x.Value ≤ 9223372036854775807)
structure hQ where
 bo : List Int
 Guard : List fY
 Name : List UInt8
 bH : List (List fY)
 Next : List (List fY)
def u4 (x : hQ) : Prop := (x.bo.length ≤ 9223372036854775807 ∧ ∀ y ∈ x.bo, (-9223372036854775808 ≤ y ∧ y ≤ 9223372036854775807)) ∧ (x.Guard.length ≤ 9223372036854775807 ∧ ∀ y ∈ x.Guard, pW y) ∧ x.Name.length ≤ 9223372036854775807 ∧ (x.bH.length ≤ 9223372036854775807 ∧ ∀ y ∈ x.bH, (y.length ≤ 9223372036854775807 ∧ ∀ z ∈ y, pW z)) ∧ (x.Next.length ≤ 9223372036854775807 ∧ ∀ y ∈ x.Next, (y.length ≤ 9223372036854775807 ∧ ∀ z ∈ y, pW z))
structure jf where
 aV : Int
 Start : List Int
 bG : List hQ
def td (x : jf) : Prop := (-9223372036854775808 ≤ x.aV ∧ x.aV ≤ 9223372036854775807) ∧ (x.Start.length ≤ 9223372036854775807 ∧ ∀ y ∈ x.Start, (-9223372036854775808 ≤ y ∧ y ≤ 9223372036854775807)) ∧ (x.bG.length ≤ 9223372036854775807 ∧ ∀ y ∈ x.bG, u4 y)
structure aA where
 Kind : Int
 Value : Int
def Cf (x : aA) : Prop := (-9223372036854775808 ≤ x.Kind ∧ x.Kind ≤ 9223372036854775807) ∧ (-9223372036854775808 ≤ x.Value ∧ x.Value ≤ 9223372036854775807)
structure aY where
 bo : List Int
 Guard : List aA
 Name : List UInt8
 bH : List (List aA)
 Next : List (List aA)
def PZ (x : aY) : Prop := (x.bo.length ≤ 9223372036854775807 ∧ ∀ y ∈ x.bo, (-9223372036854775808 ≤ y ∧ y ≤ 9223372036854775807)) ∧ (x.Guard.length ≤ 9223372036854775807 ∧ ∀ y ∈ x.Guard, Cf y) ∧ x.Name.length ≤ 9223372036854775807 ∧ (x.bH.length ≤ 9223372036854775807 ∧ ∀ y ∈ x.bH, (y.length ≤ 9223372036854775807 ∧ ∀ z ∈ y, Cf z)) ∧ (x.Next.length ≤ 9223372036854775807 ∧ ∀ y ∈ x.Next, (y.length ≤ 9223372036854775807 ∧ ∀ z ∈ y, Cf z))
structure bc where
 aV : Int
 Start : List Int
 bG : List aY
def ajO (x : bc) : Prop := (-9223372036854775808 ≤ x.aV ∧ x.aV ≤ 9223372036854775807) ∧ (x.Start.length ≤ 9223372036854775807 ∧ ∀ y ∈ x.Start, (-9223372036854775808 ≤ y ∧ y ≤ 9223372036854775807)) ∧ (x.bG.length ≤ 9223372036854775807 ∧ ∀ y ∈ x.bG, PZ y)
def u5 (I : List Int) (aa : Int) : Option Int :=
 cond (decide ((IntKind.i64.wrap (aa - (I.length : Int))) < 0)) (some (-1)) (some (IntKind.i64.wrap (aa - (I.length : Int))))
def te (I : List fY) (aa : Int) : Option Int :=
 cond (decide ((IntKind.i64.wrap (aa - (I.length : Int))) < 0)) (some (-1)) (some (IntKind.i64.wrap (aa - (I.length : Int))))
def Hy (oS : Int → Int → Option Int) (I : List (List fY)) (iz : Int) (iA : Int) : Option Int :=
 cond (decide (iA < (I.length : Int))) ((cw I iA).bind fun aj => (te aj iz).bind fun aF => cond (decide (aF < 0)) (some (-1)) (oS aF (IntKind.i64.wrap (iA + 1)))) (some iz)
def xS (I : List (List fY)) : Nat → Int → Int → Option Int
 | 0, _, _ => none
 | n + 1, iz, iA => Hy (xS I n) I iz iA
def u6 (I : List (List fY)) (aa : Int) : Option Int :=
 cond (decide ((IntKind.i64.wrap (aa - (I.length : Int))) < 0)) (some (-1)) (cX fun n => xS I n (IntKind.i64.wrap (aa - (I.length : Int))) 0)
def u7 (I : hQ) (aa : Int) : Option Int :=
 (u5 I.bo aa).bind fun aj => cond (decide (aj < 0)) (some (-1)) ((te I.Guard aj).bind fun aF => cond (decide (aF < 0)) (some (-1)) (cond (decide ((IntKind.i64.wrap (aF - (I.Name.length : Int))) < 0)) (some (-1)) ((u6 I.bH (IntKind.i64.wrap (aF - (I.Name.length : Int)))).bind fun aW => cond (decide (aW < 0)) (some (-1)) ((u6 I.Next aW).bind fun bn => cond (decide (bn < 0)) (some (-1)) (some bn)))))
def Hz (oS : Int → Int → Option Int) (I : List hQ) (iz : Int) (iA : Int) : Option Int :=
 cond (decide (iA < (I.length : Int))) ((cw I iA).bind fun aj => (u7 aj iz).bind fun aF => cond (decide (aF < 0)) (some (-1)) (oS aF (IntKind.i64.wrap (iA + 1)))) (some iz)
def xT (I : List hQ) : Nat → Int → Int → Option Int
 | 0, _, _ => none
 | n + 1, iz, iA => Hz (xT I n) I iz iA
def xU (I : List hQ) (aa : Int) : Option Int :=
 cond (decide ((IntKind.i64.wrap (aa - (I.length : Int))) < 0)) (some (-1)) (cX fun n => xT I n (IntKind.i64.wrap (aa - (I.length : Int))) 0)
def u9 (I : jf) (aa : Int) : Option Int :=
 (u5 I.Start aa).bind fun aj => cond (decide (aj < 0)) (some (-1)) ((xU I.bG aj).bind fun aF => cond (decide (aF < 0)) (some (-1)) (some aF))
def HA (dN : (List Int) → Int → Option ((List Int))) (I : List Int) (bK : List Int) (cR : Int) : Option ((List Int)) :=
 cond (decide (cR < (I.length : Int))) ((cw I cR).bind fun aj => (cw bK cR).bind fun aF => dN (List.set bK (Int.toNat cR) aj) (IntKind.i64.wrap (cR + 1))) (some bK)
def xV (I : List Int) : Nat → (List Int) → Int → Option ((List Int))
 | 0, _, _ => none
 | n + 1, bK, cR => HA (xV I n) I bK cR
def u_ (I : List Int) : Option ((List Int)) :=
 (lG 8 (I.length : Int)).bind fun _ => cX fun n => xV I n (List.replicate (Int.toNat (I.length : Int)) 0) 0
def va (I : fY) : Option aA :=
 some (aA.mk I.Kind I.Value)
def HB (dN : (List aA) → Int → Option ((List aA))) (I : List fY) (bK : List aA) (cR : Int) : Option ((List aA)) :=
 cond (decide (cR < (I.length : Int))) ((cw I cR).bind fun aj => (va aj).bind fun aF => (cw bK cR).bind fun aW => dN (List.set bK (Int.toNat cR) aF) (IntKind.i64.wrap (cR + 1))) (some bK)
def xW (I : List fY) : Nat → (List aA) → Int → Option ((List aA))
 | 0, _, _ => none
 | n + 1, bK, cR => HB (xW I n) I bK cR
def tf (I : List fY) : Option ((List aA)) :=
 (lG 16 (I.length : Int)).bind fun _ => cX fun n => xW I n (List.replicate (Int.toNat (I.length : Int)) (aA.mk 0 0)) 0
def HC (dN : (List (List aA)) → Int → Option ((List (List aA)))) (I : List (List fY)) (bK : List (List aA)) (cR : Int) : Option ((List (List aA))) :=
 cond (decide (cR < (I.length : Int))) ((cw I cR).bind fun aj => (tf aj).bind fun aF => (cw bK cR).bind fun aW => dN (List.set bK (Int.toNat cR) aF) (IntKind.i64.wrap (cR + 1))) (some bK)
def xX (I : List (List fY)) : Nat → (List (List aA)) → Int → Option ((List (List aA)))
 | 0, _, _ => none
 | n + 1, bK, cR => HC (xX I n) I bK cR
def vb (I : List (List fY)) : Option ((List (List aA))) :=
 (lG 24 (I.length : Int)).bind fun _ => cX fun n => xX I n (List.replicate (Int.toNat (I.length : Int)) []) 0
def vc (I : hQ) : Option aY :=
 (u_ I.bo).bind fun aj => (tf I.Guard).bind fun aF => (vb I.bH).bind fun aW => (vb I.Next).bind fun bn => some (aY.mk aj aF I.Name aW bn)
def HD (dN : (List aY) → Int → Option ((List aY))) (I : List hQ) (bK : List aY) (cR : Int) : Option ((List aY)) :=
 cond (decide (cR < (I.length : Int))) ((cw I cR).bind fun aj => (vc aj).bind fun aF => (cw bK cR).bind fun aW => dN (List.set bK (Int.toNat cR) aF) (IntKind.i64.wrap (cR + 1))) (some bK)
def xY (I : List hQ) : Nat → (List aY) → Int → Option ((List aY))
 | 0, _, _ => none
 | n + 1, bK, cR => HD (xY I n) I bK cR
def xZ (I : List hQ) : Option ((List aY)) :=
 (lG 112 (I.length : Int)).bind fun _ => cX fun n => xY I n (List.replicate (Int.toNat (I.length : Int)) (aY.mk [] [] ([] : List UInt8) [] [])) 0
def nB (I : jf) : Option bc :=
 (u_ I.Start).bind fun aj => (xZ I.bG).bind fun aF => some (bc.mk I.aV aj aF)
def nC (I : Int) (aa : Int) (a9 : Int) : Option Bool :=
 some ((decide (aa ≤ I)) && (decide (I ≤ a9)))
def x0 (ez : Int → Option Bool) (I : List Int) (mY : Int) : Option Bool :=
 cond (decide (mY < (I.length : Int))) ((cw I mY).bind fun aj => (nC aj 0 63).bind fun aF => cond (!aF) (some false) (ez (IntKind.i64.wrap (mY + 1)))) (some true)
def tg (I : List Int) : Nat → Int → Option Bool
 | 0, _ => none
 | n + 1, mY => x0 (tg I n) I mY
def x1 (I : List Int) : Option Bool :=
 cX fun n => tg I n 0
def x2 (I : List Int) (aa : Int) : Option Bool :=
 cond ((I.length : Int) == aa) ((x1 I).bind fun aj => some aj) (some false)
def x3 (oS : Int → Int → Option Int) (I : List Int) (ml : Int) (mZ : Int) : Option Int :=
 cond (decide (mZ < (I.length : Int))) ((cw I mZ).bind fun aj => (nC aj 1 7).bind fun aF => cond (!aF) (some 0) (oS (IntKind.i64.wrap (ml * (IntKind.i64.wrap (aj + 1)))) (IntKind.i64.wrap (mZ + 1)))) (cond (decide (4096 < ml)) (some 0) (some ml))
def rb (I : List Int) : Nat → Int → Int → Option Int
 | 0, _, _ => none
 | n + 1, ml, mZ => x3 (rb I n) I ml mZ
def x4 (I : List Int) : Option Int :=
 cond (decide (8 < (I.length : Int))) (some 0) (cX fun n => rb I n 1 0)
def x5 (I : aA) (aa : Int) : Option Bool :=
 cond (I.Kind == 0) ((nC I.Value 0 63).bind fun aj => some aj) (cond (I.Kind == 1) ((nC I.Value 0 (IntKind.i64.wrap (aa - 1))).bind fun aF => some aF) (cond (I.Kind == 2) ((nC I.Value 0 8).bind fun aW => some aW) (cond (I.Kind == 3) (some (I.Value == 0)) (some false))))
def Cg (I : aA) : Option Int :=
 cond (I.Kind == 2) (some 2) (cond (I.Kind == 3) (some 1) (some 0))
def x6 (oS : Int → Int → Option Bool) (I : List aA) (aa : Int) (hD : Int) (mm : Int) : Option Bool :=
 cond (decide (mm < (I.length : Int))) (cond (hD == 0) (some false) ((cw I mm).bind fun aj => (x5 aj aa).bind fun aF => cond (!aF) (some false) ((Cg aj).bind fun aW => oS (IntKind.i64.wrap (hD + (IntKind.i64.wrap (aW - 1)))) (IntKind.i64.wrap (mm + 1))))) (some (hD == 0))
def re (I : List aA) (aa : Int) : Nat → Int → Int → Option Bool
 | 0, _, _ => none
 | n + 1, hD, mm => x6 (re I aa n) I aa hD mm
def vd (I : List aA) (aa : Int) (a9 : Int) : Option Bool :=
 cond (decide (a9 < (I.length : Int))) (some false) (cX fun n => re I aa n 1 0)
def x7 (ez : Int → Option Bool) (I : List (List aA)) (aa : Int) (bb : Int) : Option Bool :=
 cond (decide (bb < (I.length : Int))) ((cw I bb).bind fun aj => (vd aj aa 60).bind fun aF => cond (!aF) (some false) (ez (IntKind.i64.wrap (bb + 1)))) (some true)
def th (I : List (List aA)) (aa : Int) : Nat → Int → Option Bool
 | 0, _ => none
 | n + 1, bb => x7 (th I aa n) I aa bb
def rf (I : List (List aA)) (aa : Int) : Option Bool :=
 cX fun n => th I aa n 0
def ve (I : UInt8) : Option Bool :=
 some ((decide (97 ≤ (I.toNat : Int))) && (decide ((I.toNat : Int) ≤ 122)))
def Ch (I : UInt8) : Option Bool :=
 some ((decide (48 ≤ (I.toNat : Int))) && (decide ((I.toNat : Int) ≤ 57)))
def x8 (lW : Int → Option Bool) (I : List UInt8) (e2 : Int) : Option Bool :=
 cond (decide (e2 < (I.length : Int))) ((cw I e2).bind fun aW => (ve aW).bind fun bn => cond (!bn) ((Ch aW).bind fun bu => cond (!bu) (some false) (lW (IntKind.i64.wrap (e2 + 1)))) (lW (IntKind.i64.wrap (e2 + 1)))) (some true)
def ti (I : List UInt8) : Nat → Int → Option Bool
 | 0, _ => none
 | n + 1, e2 => x8 (ti I n) I e2
def x9 (I : List UInt8) : Option Bool :=
 cond (I == ([] : List UInt8)) (some false) (cond (decide (10 < (I.length : Int))) (some false) ((cw I 0).bind fun aj => (ve aj).bind fun aF => cond (!aF) (some false) (cX fun n => ti I n 0)))
def x_ (I : List UInt8) : Option Bool :=
 (x9 I).bind fun aj => some (aj && (!(I == ([116, 97, 117] : List UInt8))))
def ya (I : aY) (aa : Int) : Option Bool :=
 (x4 I.bo).bind fun aj => cond (aj == 0) (some false) ((vd I.Guard (IntKind.i64.wrap (aa + (I.bo.length : Int))) 60).bind fun aF => cond ((!aF) || ((I.Next.length : Int) != aa)) (some false) (cond (I.Name == ([116, 97, 117] : List UInt8)) (cond (decide (0 < (I.bH.length : Int))) (some false) (cond (decide (2 < (I.bH.length : Int))) (some false) ((rf I.bH (IntKind.i64.wrap (aa + (I.bo.length : Int)))).bind fun aW => cond aW ((rf I.Next (IntKind.i64.wrap (aa + (I.bo.length : Int)))).bind fun bn => some bn) (some false)))) ((x_ I.Name).bind fun bu => cond (!bu) (some false) (cond (decide (2 < (I.bH.length : Int))) (some false) ((rf I.bH (IntKind.i64.wrap (aa + (I.bo.length : Int)))).bind fun bq => cond bq ((rf I.Next (IntKind.i64.wrap (aa + (I.bo.length : Int)))).bind fun cj => some cj) (some false))))))
def yb (lW : Int → Option Bool) (I : bc) (e2 : Int) : Option Bool :=
 cond (decide (e2 < (I.bG.length : Int))) ((cw I.bG e2).bind fun aW => (ya aW I.aV).bind fun bn => cond (!bn) (some false) (lW (IntKind.i64.wrap (e2 + 1)))) (some true)
def tj (I : bc) : Nat → Int → Option Bool
 | 0, _ => none
 | n + 1, e2 => yb (tj I n) I e2
def tk (I : bc) : Option Bool :=
 (nC I.aV 0 21).bind fun aj => cond (!aj) (some false) ((x2 I.Start I.aV).bind fun aF => cond ((!aF) || (decide (60 < (I.bG.length : Int)))) (some false) (cX fun n => tj I n 0))
def vf (I : List Int) : Option ((List Int)) :=
 (room 8 (I.length)).bind fun _ => some I
def tl (I : List aA) : Option ((List aA)) :=
 (room 16 (I.length)).bind fun _ => some I
def yc (dN : (List (List aA)) → Int → Option ((List (List aA)))) (I : List (List aA)) (bK : List (List aA)) (cR : Int) : Option ((List (List aA))) :=
 cond (decide (cR < (I.length : Int))) ((cw I cR).bind fun aj => (tl aj).bind fun aF => (room 24 (bK.length + 1)).bind fun _ => dN (bK ++ [aF]) (IntKind.i64.wrap (cR + 1))) (some bK)
def rh (I : List (List aA)) : Nat → (List (List aA)) → Int → Option ((List (List aA)))
 | 0, _, _ => none
 | n + 1, bK, cR => yc (rh I n) I bK cR
def vg (I : List (List aA)) : Option ((List (List aA))) :=
 cX fun n => rh I n [] 0
def Ci (I : aY) : Option aY :=
 (vf I.bo).bind fun aj => (tl I.Guard).bind fun aF => (vg I.bH).bind fun aW => (vg I.Next).bind fun bn => some (aY.mk aj aF I.Name aW bn)
def yd (dN : (List aA) → Int → Option ((List aA))) (aa : Int) (a9 : Int) (tm : List aA) (tn : Int) : Option ((List aA)) :=
 dN tm (IntKind.i64.wrap (tn + 1))
def ye (dN : (List aA) → Int → Option ((List aA))) (aa : Int) (a9 : Int) (kd : List aA) (gK : Int) : Option ((List aA)) :=
 cond (decide (gK < (kd.length : Int))) ((cw kd gK).bind fun aF => cond ((aF.Kind == 1) && (decide (aa ≤ aF.Value))) (yd dN aa a9 (List.set kd (Int.toNat gK) (aA.mk aF.Kind (IntKind.i64.wrap (aF.Value + a9)))) gK) (yd dN aa a9 kd gK)) (some kd)
def pX (aa : Int) (a9 : Int) : Nat → (List aA) → Int → Option ((List aA))
 | 0, _, _ => none
 | n + 1, kd, gK => ye (pX aa a9 n) aa a9 kd gK
def tp (I : List aA) (aa : Int) (a9 : Int) : Option ((List aA)) :=
 (tl I).bind fun aj => cX fun n => pX aa a9 n aj 0
def yf (Cj : (List (List aA)) → (List (List aA)) → Int → Option aY) (I : aY) (aa : Int) (a9 : Int) (aj : aY) (aF : (List aA)) (lX : List (List aA)) (lu : List (List aA)) (jW : Int) : Option aY :=
 cond (decide (jW < (I.Next.length : Int))) ((cw I.Next jW).bind fun bq => (tp bq aa a9).bind fun cj => (cw lu jW).bind fun b8 => Cj lX (List.set lu (Int.toNat jW) cj) (IntKind.i64.wrap (jW + 1))) (some (aY.mk aj.bo aF aj.Name lX lu))
def pY (I : aY) (aa : Int) (a9 : Int) (aj : aY) (aF : (List aA)) : Nat → (List (List aA)) → (List (List aA)) → Int → Option aY
 | 0, _, _, _ => none
 | n + 1, lX, lu, jW => yf (pY I aa a9 aj aF n) I aa a9 aj aF lX lu jW
def yg (lK : (List (List aA)) → Int → Option aY) (I : aY) (aa : Int) (a9 : Int) (aj : aY) (aF : (List aA)) (lv : List (List aA)) (jX : Int) : Option aY :=
 cond (decide (jX < (I.bH.length : Int))) ((cw I.bH jX).bind fun aW => (tp aW aa a9).bind fun bn => (cw lv jX).bind fun bu => lK (List.set lv (Int.toNat jX) bn) (IntKind.i64.wrap (jX + 1))) (cX fun n => pY I aa a9 aj aF n lv aj.Next 0)
def ri (I : aY) (aa : Int) (a9 : Int) (aj : aY) (aF : (List aA)) : Nat → (List (List aA)) → Int → Option aY
 | 0, _, _ => none
 | n + 1, lv, jX => yg (ri I aa a9 aj aF n) I aa a9 aj aF lv jX
def vh (I : aY) (aa : Int) (a9 : Int) : Option aY :=
 (Ci I).bind fun aj => (tp I.Guard aa a9).bind fun aF => cX fun n => ri I aa a9 aj aF n aj.bH 0
def Ck (I : Int) : Option ((List aA)) :=
 some [(aA.mk 1 I)]
def yh (dN : (List (List aA)) → Int → Option ((List (List aA)))) (I : Int) (aa : Int) (cq : List (List aA)) (lx : Int) : Option ((List (List aA))) :=
 cond (decide (lx < aa)) ((Ck (IntKind.i64.wrap (I + lx))).bind fun aj => (room 24 (cq.length + 1)).bind fun _ => dN (cq ++ [aj]) (IntKind.i64.wrap (lx + 1))) (some cq)
def rj (I : Int) (aa : Int) : Nat → (List (List aA)) → Int → Option ((List (List aA)))
 | 0, _, _ => none
 | n + 1, cq, lx => yh (rj I aa n) I aa cq lx
def vi (I : Int) (aa : Int) : Option ((List (List aA))) :=
 cX fun n => rj I aa n [] 0
def yi (P0 : (List aY) → Int → Option bc) (I : bc) (aa : bc) (aj : (List Int)) (jY : List aY) (ke : Int) : Option bc :=
 cond (decide (ke < (aa.bG.length : Int))) ((cw aa.bG ke).bind fun bu => (vh bu 0 I.aV).bind fun bq => (vi 0 I.aV).bind fun cj => (room 24 (cj.length + bq.Next.length)).bind fun _ => (room 112 (jY.length + 1)).bind fun _ => P0 (jY ++ [(aY.mk bq.bo bq.Guard bq.Name bq.bH (cj ++ bq.Next))]) (IntKind.i64.wrap (ke + 1))) (some (bc.mk (IntKind.i64.wrap (I.aV + aa.aV)) (aj ++ aa.Start) jY))
def rk (I : bc) (aa : bc) (aj : (List Int)) : Nat → (List aY) → Int → Option bc
 | 0, _, _ => none
 | n + 1, jY, ke => yi (rk I aa aj n) I aa aj jY ke
def yj (lK : (List aY) → Int → Option bc) (I : bc) (aa : bc) (aj : (List Int)) (jZ : List aY) (gA : Int) : Option bc :=
 cond (decide (gA < (I.bG.length : Int))) ((cw I.bG gA).bind fun aF => (vh aF I.aV aa.aV).bind fun aW => (vi I.aV aa.aV).bind fun bn => (room 24 (aW.Next.length + bn.length)).bind fun _ => (room 112 (jZ.length + 1)).bind fun _ => lK (jZ ++ [(aY.mk aW.bo aW.Guard aW.Name aW.bH (aW.Next ++ bn))]) (IntKind.i64.wrap (gA + 1))) (cX fun n => rk I aa aj n jZ 0)
def rl (I : bc) (aa : bc) (aj : (List Int)) : Nat → (List aY) → Int → Option bc
 | 0, _, _ => none
 | n + 1, jZ, gA => yj (rl I aa aj n) I aa aj jZ gA
def yk (I : bc) (aa : bc) : Option bc :=
 (vf I.Start).bind fun aj => (room 8 (aj.length + aa.Start.length)).bind fun _ => cX fun n => rl I aa aj n [] 0
def yl (I : bc) (aa : bc) : Option (bc × Int) :=
 (tk I).bind fun aj => cond (!aj) (some ((bc.mk 0 [] []), 1)) ((tk aa).bind fun aF => cond (!aF) (some ((bc.mk 0 [] []), 1)) ((yk I aa).bind fun aW => (tk aW).bind fun bn => cond (!bn) (some ((bc.mk 0 [] []), 5)) (some (aW, 0))))
def mn (I : Int) (aa : Int) (a9 : Int) : Option Bool :=
 some ((decide (aa ≤ I)) && (decide (I ≤ a9)))
def ym (I : Int) : Option Bool :=
 (mn I 0 63).bind fun aj => some aj
def Cl (I : Int) : Option Bool :=
 (ym I).bind fun aj => some (!aj)
def Cm (ez : Int → Option Int) (I : List Int) (fi : Int) : Option Int :=
 cond (decide (fi < (I.length : Int))) ((cw I fi).bind fun aj => (Cl aj).bind fun aF => cond aF (some fi) (ez (IntKind.i64.wrap (fi + 1)))) (some (-1))
def vj (I : List Int) : Nat → Int → Option Int
 | 0, _ => none
 | n + 1, fi => Cm (vj I n) I fi
def Cn (I : List Int) : Option Int :=
 cX fun n => vj I n 0
def Co (I : List Int) : Option Bool :=
 (Cn I).bind fun aj => some (decide (0 ≤ aj))
def Cp (I : List Int) : Option Bool :=
 (Co I).bind fun aj => some (!aj)
def yn (I : bc) (aa : List Int) : Option Bool :=
 cond ((aa.length : Int) == I.aV) ((Cp aa).bind fun aj => some aj) (some false)
def yo (dN : Int → Int → Option Bool) (I : aY) (bK : Int) (m0 : Int) : Option Bool :=
 cond (decide (m0 < (I.bo.length : Int))) ((cw I.bo m0).bind fun aj => (mn aj 1 7).bind fun aF => cond (!aF) (some false) (dN (IntKind.i64.wrap (bK * (IntKind.i64.wrap (aj + 1)))) (IntKind.i64.wrap (m0 + 1)))) (some ((decide ((I.bo.length : Int) ≤ 8)) && (decide (bK ≤ 4096))))
def rm (I : aY) : Nat → Int → Int → Option Bool
 | 0, _, _ => none
 | n + 1, bK, m0 => yo (rm I n) I bK m0
def yp (I : aY) : Option Bool :=
 cX fun n => rm I n 1 0
def Cq (I : UInt8) : Option Bool :=
 some ((decide (48 ≤ (I.toNat : Int))) && (decide ((I.toNat : Int) ≤ 57)))
def vk (ez : Int → Option Bool) (I : List UInt8) (kf : Int) : Option Bool :=
 cond (decide (kf < (I.length : Int))) ((cw I kf).bind fun aj => cond (!((decide (97 ≤ (aj.toNat : Int))) && (decide ((aj.toNat : Int) ≤ 122)))) (cond (kf == 0) (some false) ((Cq aj).bind fun aF => cond (!aF) (some false) (ez (IntKind.i64.wrap (kf + 1))))) (ez (IntKind.i64.wrap (kf + 1)))) (some ((decide (1 ≤ (I.length : Int))) && (decide ((I.length : Int) ≤ 10))))
def oT (I : List UInt8) : Nat → Int → Option Bool
 | 0, _ => none
 | n + 1, kf => vk (oT I n) I kf
def yq (I : List UInt8) : Option Bool :=
 cX fun n => oT I n 0
def vl (I : List UInt8) : Option Bool :=
 (yq I).bind fun aj => some (aj && (!(I == ([116, 97, 117] : List UInt8))))
def yr : Option Unit :=
 some ()
def Cr (aa : Int) : Option Unit :=
 cond (decide (0 < (IntKind.i64.wrap (aa - (IntKind.i64.wrap 0))))) ((lG 24 (IntKind.i64.wrap (aa - (IntKind.i64.wrap 0)))).bind fun _ => yr) (yr)
def vm (aa : Int) : Option Unit :=
 cond (decide (aa < 0)) (none) (Cr aa)
def Cs (dN : Int → Int → Option ((List (List aA)))) (I : List (List (List aA))) (jM : Int) (jN : Int) : Option ((List (List aA))) :=
 dN jM (IntKind.i64.wrap (jN + 1))
def ys (nD : (List (List aA)) → Int → Option ((List (List aA)))) (I : List (List (List aA))) (eV : List (List aA)) (eM : Int) : Option ((List (List aA))) :=
 cond (decide (eM < (I.length : Int))) ((cw I eM).bind fun aW => (room 24 (eV.length + aW.length)).bind fun _ => nD (eV ++ aW) (IntKind.i64.wrap (eM + 1))) (some eV)
def pZ (I : List (List (List aA))) : Nat → (List (List aA)) → Int → Option ((List (List aA)))
 | 0, _, _ => none
 | n + 1, eV, eM => ys (pZ I n) I eV eM
def yt (dN : Int → Int → Option ((List (List aA)))) (I : List (List (List aA))) (bK : Int) (dL : Int) : Option ((List (List aA))) :=
 cond (decide (dL < (I.length : Int))) ((cw I dL).bind fun aj => cond (decide ((IntKind.i64.wrap (bK + (aj.length : Int))) < 0)) (none) (Cs dN I (IntKind.i64.wrap (bK + (aj.length : Int))) dL)) ((vm bK).bind fun aF => cX fun n => pZ I n [] 0)
def p0 (I : List (List (List aA))) : Nat → Int → Int → Option ((List (List aA)))
 | 0, _, _ => none
 | n + 1, bK, dL => yt (p0 I n) I bK dL
def yu (I : List (List (List aA))) : Option ((List (List aA))) :=
 cX fun n => p0 I n 0 0
def tq (I : aY) : Option ((List (List aA))) :=
 (yu [[I.Guard], I.bH, I.Next]).bind fun aj => some aj
def yv (I : aA) (aa : Int) : Option Bool :=
 cond (I.Kind == 0) ((ym I.Value).bind fun aj => some aj) (cond (I.Kind == 1) ((mn I.Value 0 (IntKind.i64.wrap (aa - 1))).bind fun aF => some aF) (cond (I.Kind == 2) ((mn I.Value 0 8).bind fun aW => some aW) (cond (I.Kind == 3) (some (I.Value == 0)) (some false))))
def Ct (I : aA) : Option Int :=
 cond (I.Kind == 2) (some 2) (cond (I.Kind == 3) (some 1) (some 0))
def yw (oS : Int → Int → Option Bool) (I : List aA) (aa : Int) (hD : Int) (mo : Int) : Option Bool :=
 cond (decide (mo < (I.length : Int))) ((cw I mo).bind fun bn => cond (hD == 0) (some false) ((yv bn aa).bind fun bu => cond (!bu) (some false) ((Ct bn).bind fun bq => oS (IntKind.i64.wrap (hD + (IntKind.i64.wrap (bq - 1)))) (IntKind.i64.wrap (mo + 1))))) (some (hD == 0))
def rn (I : List aA) (aa : Int) : Nat → Int → Int → Option Bool
 | 0, _, _ => none
 | n + 1, hD, mo => yw (rn I aa n) I aa hD mo
def yx (I : List aA) (aa : Int) (a9 : Int) : Option Bool :=
 (mn aa 0 29).bind fun aj => cond (!aj) (some false) ((mn a9 1 60).bind fun aF => cond (!aF) (some false) ((mn (I.length : Int) 1 a9).bind fun aW => cond (!aW) (some false) (cX fun n => rn I aa n 1 0)))
def yy (I : List aA) (aa : Int) (a9 : aY) : Option Bool :=
 (yx I (IntKind.i64.wrap (aa + (a9.bo.length : Int))) 60).bind fun aj => some (!aj)
def Cu (ez : Int → Option Int) (I : List (List aA)) (b5 : Int) (b6 : aY) (fi : Int) : Option Int :=
 cond (decide (fi < (I.length : Int))) ((cw I fi).bind fun aj => (yy aj b5 b6).bind fun aF => cond aF (some fi) (ez (IntKind.i64.wrap (fi + 1)))) (some (-1))
def vn (I : List (List aA)) (b5 : Int) (b6 : aY) : Nat → Int → Option Int
 | 0, _ => none
 | n + 1, fi => Cu (vn I b5 b6 n) I b5 b6 fi
def Cv (I : List (List aA)) (b5 : Int) (b6 : aY) : Option Int :=
 cX fun n => vn I b5 b6 n 0
def rp (I : List (List aA)) (b5 : Int) (b6 : aY) : Option Bool :=
 (Cv I b5 b6).bind fun aj => some (decide (0 ≤ aj))
def yz (I : aY) (aa : Int) : Option Bool :=
 (yp I).bind fun aj => cond ((!aj) || ((I.Next.length : Int) != aa)) (some false) (cond (decide (0 < (I.bH.length : Int))) (cond (I.Name == ([116, 97, 117] : List UInt8)) (some false) (cond (decide (2 < (I.bH.length : Int))) (some false) ((vl I.Name).bind fun aF => cond (!aF) (some false) ((tq I).bind fun aW => (rp aW aa I).bind fun bn => some (!bn))))) (cond (!(I.Name == ([116, 97, 117] : List UInt8))) ((vl I.Name).bind fun bu => cond (!bu) (some false) ((tq I).bind fun bq => (rp bq aa I).bind fun cj => some (!cj))) ((tq I).bind fun b8 => (rp b8 aa I).bind fun cL => some (!cL))))
def yA (I : aY) (aa : bc) : Option Bool :=
 (yz I aa.aV).bind fun aj => some (!aj)
def Cw (ez : Int → Option Int) (I : List aY) (aa : bc) (fi : Int) : Option Int :=
 cond (decide (fi < (I.length : Int))) ((cw I fi).bind fun aj => (yA aj aa).bind fun aF => cond aF (some fi) (ez (IntKind.i64.wrap (fi + 1)))) (some (-1))
def vo (I : List aY) (aa : bc) : Nat → Int → Option Int
 | 0, _ => none
 | n + 1, fi => Cw (vo I aa n) I aa fi
def Cx (I : List aY) (aa : bc) : Option Int :=
 cX fun n => vo I aa n 0
def Cy (I : List aY) (aa : bc) : Option Bool :=
 (Cx I aa).bind fun aj => some (decide (0 ≤ aj))
def tr (I : bc) : Option Bool :=
 (mn I.aV 0 21).bind fun aj => cond (!aj) (some false) ((yn I I.Start).bind fun aF => cond ((!aF) || (decide (60 < (I.bG.length : Int)))) (some false) ((Cy I.bG I).bind fun aW => some (!aW)))
def yB : Option ((List Int)) :=
 some []
def Cz (aa : Int) : Option ((List Int)) :=
 cond (decide (0 < (IntKind.i64.wrap (aa - (IntKind.i64.wrap 0))))) ((lG 8 (IntKind.i64.wrap (aa - (IntKind.i64.wrap 0)))).bind fun _ => yB) (yB)
def yC (aa : Int) : Option ((List Int)) :=
 cond (decide (aa < 0)) (none) (Cz aa)
def CA (dN : Int → Int → Option ((List Int))) (I : List (List Int)) (jM : Int) (jN : Int) : Option ((List Int)) :=
 dN jM (IntKind.i64.wrap (jN + 1))
def yD (nD : (List Int) → Int → Option ((List Int))) (I : List (List Int)) (eV : List Int) (eM : Int) : Option ((List Int)) :=
 cond (decide (eM < (I.length : Int))) ((cw I eM).bind fun aW => (room 8 (eV.length + aW.length)).bind fun _ => nD (eV ++ aW) (IntKind.i64.wrap (eM + 1))) (some eV)
def p1 (I : List (List Int)) : Nat → (List Int) → Int → Option ((List Int))
 | 0, _, _ => none
 | n + 1, eV, eM => yD (p1 I n) I eV eM
def yE (dN : Int → Int → Option ((List Int))) (I : List (List Int)) (bK : Int) (dL : Int) : Option ((List Int)) :=
 cond (decide (dL < (I.length : Int))) ((cw I dL).bind fun aj => cond (decide ((IntKind.i64.wrap (bK + (aj.length : Int))) < 0)) (none) (CA dN I (IntKind.i64.wrap (bK + (aj.length : Int))) dL)) ((yC bK).bind fun aF => cX fun n => p1 I n aF 0)
def p2 (I : List (List Int)) : Nat → Int → Int → Option ((List Int))
 | 0, _, _ => none
 | n + 1, bK, dL => yE (p2 I n) I bK dL
def vp (I : List (List Int)) : Option ((List Int)) :=
 cX fun n => p2 I n 0 0
def vq (I : Int) : Option ((List aA)) :=
 some [(aA.mk 1 I)]
def rq (I : List Int) : Option ((List Int)) :=
 cond I.isEmpty (both (some []) ((room 8 (I.length)).bind fun _ => some I)) ((room 8 (I.length)).bind fun _ => some I)
def CB (I : Int) (aa : Int) (a9 : Int) : Option ((Option ((List aA)))) :=
 cond (decide (I < aa)) (some none) (some (some [(aA.mk 1 (IntKind.i64.wrap (I + a9)))]))
def oU (dN : (List aA) → Int → Option ((List aA))) (I : List aA) (b5 : Int) (b6 : Int) (i3 : List aA) (i4 : List aA) (jg : Int) : Option ((List aA)) :=
 (room 16 (i3.length + i4.length)).bind fun _ => dN (i3 ++ i4) (IntKind.i64.wrap (jg + 1))
def yF (dN : (List aA) → Int → Option ((List aA))) (I : List aA) (b5 : Int) (b6 : Int) (cq : List aA) (dL : Int) : Option ((List aA)) :=
 cond (decide (dL < (I.length : Int))) ((cw I dL).bind fun aj => cond (aj.Kind == 1) ((CB aj.Value b5 b6).bind fun aF => Option.elim aF (oU dN I b5 b6 cq [aj] dL) (fun aW => cond aW.isEmpty (both (oU dN I b5 b6 cq [aj] dL) (oU dN I b5 b6 cq aW dL)) (oU dN I b5 b6 cq aW dL))) (oU dN I b5 b6 cq [aj] dL)) (some cq)
def oh (I : List aA) (b5 : Int) (b6 : Int) : Nat → (List aA) → Int → Option ((List aA))
 | 0, _, _ => none
 | n + 1, cq, dL => yF (oh I b5 b6 n) I b5 b6 cq dL
def CC (I : List aA) (b5 : Int) (b6 : Int) : Option ((List aA)) :=
 cX fun n => oh I b5 b6 n [] 0
def vr (I : List aA) (aa : Int) (a9 : Int) : Option ((List aA)) :=
 (CC I aa a9).bind fun aj => some aj
def vt (I : aY) (aa : List aA) (a9 : bc) (gz : bc) : Option ((List aA)) :=
 (vr aa a9.aV gz.aV).bind fun aj => some aj
def yG (dN : (List (List aA)) → Int → Option ((List (List aA)))) (I : List (List aA)) (a9 : aY) (b5 : bc) (b6 : bc) (cq : List (List aA)) (hE : Int) : Option ((List (List aA))) :=
 cond (decide (hE < (I.length : Int))) ((cw I hE).bind fun aj => (vt a9 aj b5 b6).bind fun aF => (room 24 (cq.length + 1)).bind fun _ => dN (cq ++ [aF]) (IntKind.i64.wrap (hE + 1))) (some cq)
def rr (I : List (List aA)) (a9 : aY) (b5 : bc) (b6 : bc) : Nat → (List (List aA)) → Int → Option ((List (List aA)))
 | 0, _, _ => none
 | n + 1, cq, hE => yG (rr I a9 b5 b6 n) I a9 b5 b6 cq hE
def vu (I : List (List aA)) (b5 : bc) (b6 : bc) (a9 : aY) : Option ((List (List aA))) :=
 cX fun n => rr I a9 b5 b6 n [] 0
def yH (dN : (List aY) → Int → Option bc) (I : bc) (b5 : bc) (b6 : bc) (aj : (List Int)) (cq : List aY) (hF : Int) : Option bc :=
 cond (decide (hF < (I.bG.length : Int))) ((cw I.bG hF).bind fun aF => (rq aF.bo).bind fun aW => (vt aF aF.Guard b5 b6).bind fun bn => (vu aF.bH b5 b6 aF).bind fun bu => (vu aF.Next b5 b6 aF).bind fun bq => (room 112 (cq.length + 1)).bind fun _ => dN (cq ++ [(aY.mk aW bn aF.Name bu bq)]) (IntKind.i64.wrap (hF + 1))) (some (bc.mk I.aV aj cq))
def ru (I : bc) (b5 : bc) (b6 : bc) (aj : (List Int)) : Nat → (List aY) → Int → Option bc
 | 0, _, _ => none
 | n + 1, cq, hF => yH (ru I b5 b6 aj n) I b5 b6 aj cq hF
def vv (I : bc) (b5 : bc) (b6 : bc) : Option bc :=
 (rq I.Start).bind fun aj => cX fun n => ru I b5 b6 aj n [] 0
def yI (I : List aA) : Option ((List aA)) :=
 cond I.isEmpty (both (some []) ((room 16 (I.length)).bind fun _ => some I)) ((room 16 (I.length)).bind fun _ => some I)
def yJ (dN : (List (List aA)) → Int → Option ((List (List aA)))) (I : List (List aA)) (bK : List (List aA)) (gK : Int) : Option ((List (List aA))) :=
 cond (decide (gK < (I.length : Int))) ((cw I gK).bind fun aj => (yI aj).bind fun aF => (room 24 (bK.length + 1)).bind fun _ => dN (bK ++ [aF]) (IntKind.i64.wrap (gK + 1))) (some bK)
def rv (I : List (List aA)) : Nat → (List (List aA)) → Int → Option ((List (List aA)))
 | 0, _, _ => none
 | n + 1, bK, gK => yJ (rv I n) I bK gK
def vw (I : List (List aA)) : Option ((List (List aA))) :=
 cX fun n => rv I n [] 0
def CD (dN : Int → Int → Option ((List (List aA)))) (I : List (List (List aA))) (jM : Int) (jN : Int) : Option ((List (List aA))) :=
 dN jM (IntKind.i64.wrap (jN + 1))
def yK (nD : (List (Bool × (List (List aA)))) → (List (List aA)) → Int → Option ((List (List aA)))) (I : List (List (List aA))) (lY : List (Bool × (List (List aA)))) (eV : List (List aA)) (eM : Int) : Option ((List (List aA))) :=
 cond (decide (eM < (I.length : Int))) ((cw lY eM).bind fun aW => (pb (!aW.1)).bind fun _ => (room 24 (eV.length + aW.2.length)).bind fun _ => nD (List.set lY (Int.toNat eM) (true, aW.2)) (eV ++ aW.2) (IntKind.i64.wrap (eM + 1))) (some eV)
def p3 (I : List (List (List aA))) : Nat → (List (Bool × (List (List aA)))) → (List (List aA)) → Int → Option ((List (List aA)))
 | 0, _, _, _ => none
 | n + 1, lY, eV, eM => yK (p3 I n) I lY eV eM
def yL (dN : Int → Int → Option ((List (List aA)))) (I : List (List (List aA))) (bK : Int) (dL : Int) : Option ((List (List aA))) :=
 cond (decide (dL < (I.length : Int))) ((cw I dL).bind fun aj => cond (decide ((IntKind.i64.wrap (bK + (aj.length : Int))) < 0)) (none) (CD dN I (IntKind.i64.wrap (bK + (aj.length : Int))) dL)) ((vm bK).bind fun aF => cX fun n => p3 I n (List.map (fun x => (false, x)) I) [] 0)
def p4 (I : List (List (List aA))) : Nat → Int → Int → Option ((List (List aA)))
 | 0, _, _ => none
 | n + 1, bK, dL => yL (p4 I n) I bK dL
def ts (I : List (List (List aA))) : Option ((List (List aA))) :=
 cX fun n => p4 I n 0 0
def vx (I : aY) (aa : List aA) (a9 : bc) : Option ((List aA)) :=
 (vr aa 0 a9.aV).bind fun aj => some aj
def yM (dN : (List (List aA)) → Int → Option ((List (List aA)))) (I : List (List aA)) (aa : bc) (a9 : aY) (cq : List (List aA)) (hE : Int) : Option ((List (List aA))) :=
 cond (decide (hE < (I.length : Int))) ((cw I hE).bind fun aj => (vx a9 aj aa).bind fun aF => (room 24 (cq.length + 1)).bind fun _ => dN (cq ++ [aF]) (IntKind.i64.wrap (hE + 1))) (some cq)
def ry (I : List (List aA)) (aa : bc) (a9 : aY) : Nat → (List (List aA)) → Int → Option ((List (List aA)))
 | 0, _, _ => none
 | n + 1, cq, hE => yM (ry I aa a9 n) I aa a9 cq hE
def vy (I : List (List aA)) (aa : bc) (a9 : aY) : Option ((List (List aA))) :=
 cX fun n => ry I aa a9 n [] 0
def yN (dN : (List aY) → Int → Option bc) (I : bc) (aa : bc) (aj : (List Int)) (cq : List aY) (hF : Int) : Option bc :=
 cond (decide (hF < (I.bG.length : Int))) ((cw I.bG hF).bind fun aF => (rq aF.bo).bind fun aW => (vx aF aF.Guard aa).bind fun bn => (vy aF.bH aa aF).bind fun bu => (vy aF.Next aa aF).bind fun bq => (room 112 (cq.length + 1)).bind fun _ => dN (cq ++ [(aY.mk aW bn aF.Name bu bq)]) (IntKind.i64.wrap (hF + 1))) (some (bc.mk I.aV aj cq))
def rz (I : bc) (aa : bc) (aj : (List Int)) : Nat → (List aY) → Int → Option bc
 | 0, _, _ => none
 | n + 1, cq, hF => yN (rz I aa aj n) I aa aj cq hF
def yO (I : bc) (aa : bc) : Option bc :=
 (rq I.Start).bind fun aj => cX fun n => rz I aa aj n [] 0
def yP (P1 : (List aY) → (List (List aA)) → (List (Bool × aY)) → Int → Option bc) (I : bc) (aa : bc) (aj : (List Int)) (b8 : bc) (kD : List aY) (kW : List (List aA)) (ly : List (Bool × aY)) (jh : Int) : Option bc :=
 cond (decide (jh < (b8.bG.length : Int))) ((cw ly jh).bind fun cL => (pb (!cL.1)).bind fun _ => (vw kW).bind fun dE => (ts [dE, cL.2.Next]).bind fun gh => (room 112 (kD.length + 1)).bind fun _ => P1 (kD ++ [(aY.mk cL.2.bo cL.2.Guard cL.2.Name cL.2.bH gh)]) kW (List.set ly (Int.toNat jh) (true, cL.2)) (IntKind.i64.wrap (jh + 1))) (some (bc.mk (IntKind.i64.wrap (I.aV + aa.aV)) aj kD))
def p5 (I : bc) (aa : bc) (aj : (List Int)) (b8 : bc) : Nat → (List aY) → (List (List aA)) → (List (Bool × aY)) → Int → Option bc
 | 0, _, _, _, _ => none
 | n + 1, kD, kW, ly, jh => yP (p5 I aa aj b8 n) I aa aj b8 kD kW ly jh
def yQ (P2 : (List aY) → (List (List aA)) → (List (List aA)) → (List (Bool × aY)) → Int → Option bc) (I : bc) (aa : bc) (aj : (List Int)) (bn : bc) (j0 : List aY) (kg : List (List aA)) (kX : List (List aA)) (lz : List (Bool × aY)) (ji : Int) : Option bc :=
 cond (decide (ji < (bn.bG.length : Int))) ((cw lz ji).bind fun bu => (pb (!bu.1)).bind fun _ => (vw kX).bind fun bq => (ts [bu.2.Next, bq]).bind fun cj => (room 112 (j0.length + 1)).bind fun _ => P2 (j0 ++ [(aY.mk bu.2.bo bu.2.Guard bu.2.Name bu.2.bH cj)]) kg kX (List.set lz (Int.toNat ji) (true, bu.2)) (IntKind.i64.wrap (ji + 1))) ((yO aa I).bind fun b8 => cX fun n => p5 I aa aj b8 n j0 kg (List.map (fun x => (false, x)) b8.bG) 0)
def oV (I : bc) (aa : bc) (aj : (List Int)) (bn : bc) : Nat → (List aY) → (List (List aA)) → (List (List aA)) → (List (Bool × aY)) → Int → Option bc
 | 0, _, _, _, _, _ => none
 | n + 1, j0, kg, kX, lz, ji => yQ (oV I aa aj bn n) I aa aj bn j0 kg kX lz ji
def yR (P3 : (List (List aA)) → (List (List aA)) → Int → Option bc) (I : bc) (aa : bc) (aj : (List Int)) (kY : List (List aA)) (kE : List (List aA)) (lA : Int) : Option bc :=
 cond (decide (lA < aa.aV)) ((vq (IntKind.i64.wrap (I.aV + lA))).bind fun aW => (room 24 (kE.length + 1)).bind fun _ => P3 kY (kE ++ [aW]) (IntKind.i64.wrap (lA + 1))) ((vv I I aa).bind fun bn => cX fun n => oV I aa aj bn n [] kY kE (List.map (fun x => (false, x)) bn.bG) 0)
def oW (I : bc) (aa : bc) (aj : (List Int)) : Nat → (List (List aA)) → (List (List aA)) → Int → Option bc
 | 0, _, _, _ => none
 | n + 1, kY, kE, lA => yR (oW I aa aj n) I aa aj kY kE lA
def yS (lK : (List (List aA)) → Int → Option bc) (I : bc) (aa : bc) (aj : (List Int)) (gA : List (List aA)) (lB : Int) : Option bc :=
 cond (decide (lB < I.aV)) ((vq lB).bind fun aF => (room 24 (gA.length + 1)).bind fun _ => lK (gA ++ [aF]) (IntKind.i64.wrap (lB + 1))) (cX fun n => oW I aa aj n gA [] 0)
def rA (I : bc) (aa : bc) (aj : (List Int)) : Nat → (List (List aA)) → Int → Option bc
 | 0, _, _ => none
 | n + 1, gA, lB => yS (rA I aa aj n) I aa aj gA lB
def yT (I : bc) (aa : bc) : Option bc :=
 (vp [I.Start, aa.Start]).bind fun aj => cX fun n => rA I aa aj n [] 0
def vz (I : bc) (aa : bc) : Option (bc × Int) :=
 (tr I).bind fun aj => cond (!aj) (some ((bc.mk 0 [] []), 1)) ((tr aa).bind fun aF => cond (!aF) (some ((bc.mk 0 [] []), 1)) ((yT I aa).bind fun aW => (tr aW).bind fun bn => cond (!bn) (some ((bc.mk 0 [] []), 5)) (some (aW, 0))))
def HE (lW : Int → Option Bool) (I : List Int) (aa : List Int) (ee : Int) : Option Bool :=
 cond (decide (ee < (I.length : Int))) ((cw I ee).bind fun aj => (cw aa ee).bind fun aF => cond (aj != aF) (some false) (lW (IntKind.i64.wrap (ee + 1)))) (some true)
def yU (I : List Int) (aa : List Int) : Nat → Int → Option Bool
 | 0, _ => none
 | n + 1, ee => HE (yU I aa n) I aa ee
def vA (I : List Int) (aa : List Int) : Option Bool :=
 cond ((I.length : Int) != (aa.length : Int)) (some false) (cX fun n => yU I aa n 0)
def vB (I : aA) (aa : aA) : Option Bool :=
 cond (I.Kind != aa.Kind) (some false) (cond (I.Value != aa.Value) (some false) (some true))
def HF (lW : Int → Option Bool) (I : List aA) (aa : List aA) (ee : Int) : Option Bool :=
 cond (decide (ee < (I.length : Int))) ((cw I ee).bind fun aj => (cw aa ee).bind fun aF => (vB aj aF).bind fun aW => cond (!aW) (some false) (lW (IntKind.i64.wrap (ee + 1)))) (some true)
def yV (I : List aA) (aa : List aA) : Nat → Int → Option Bool
 | 0, _ => none
 | n + 1, ee => HF (yV I aa n) I aa ee
def tt (I : List aA) (aa : List aA) : Option Bool :=
 cond ((I.length : Int) != (aa.length : Int)) (some false) (cX fun n => yV I aa n 0)
def HG (lW : Int → Option Bool) (I : List (List aA)) (aa : List (List aA)) (ee : Int) : Option Bool :=
 cond (decide (ee < (I.length : Int))) ((cw I ee).bind fun aj => (cw aa ee).bind fun aF => (tt aj aF).bind fun aW => cond (!aW) (some false) (lW (IntKind.i64.wrap (ee + 1)))) (some true)
def yW (I : List (List aA)) (aa : List (List aA)) : Nat → Int → Option Bool
 | 0, _ => none
 | n + 1, ee => HG (yW I aa n) I aa ee
def vC (I : List (List aA)) (aa : List (List aA)) : Option Bool :=
 cond ((I.length : Int) != (aa.length : Int)) (some false) (cX fun n => yW I aa n 0)
def vD (I : aY) (aa : aY) : Option Bool :=
 (vA I.bo aa.bo).bind fun aj => cond (!aj) (some false) ((tt I.Guard aa.Guard).bind fun aF => cond (!aF) (some false) (cond (!(I.Name == aa.Name)) (some false) ((vC I.bH aa.bH).bind fun aW => cond (!aW) (some false) ((vC I.Next aa.Next).bind fun bn => cond (!bn) (some false) (some true)))))
def HH (lW : Int → Option Bool) (I : List aY) (aa : List aY) (ee : Int) : Option Bool :=
 cond (decide (ee < (I.length : Int))) ((cw I ee).bind fun aj => (cw aa ee).bind fun aF => (vD aj aF).bind fun aW => cond (!aW) (some false) (lW (IntKind.i64.wrap (ee + 1)))) (some true)
def yX (I : List aY) (aa : List aY) : Nat → Int → Option Bool
 | 0, _ => none
 | n + 1, ee => HH (yX I aa n) I aa ee
def yY (I : List aY) (aa : List aY) : Option Bool :=
 cond ((I.length : Int) != (aa.length : Int)) (some false) (cX fun n => yX I aa n 0)
def p6 (I : bc) (aa : bc) : Option Bool :=
 cond (I.aV != aa.aV) (some false) ((vA I.Start aa.Start).bind fun aj => cond (!aj) (some false) ((yY I.bG aa.bG).bind fun aF => cond (!aF) (some false) (some true)))
def yZ (ez : (List Int) → Int → Int → Option (Int × (List Int))) (dh : List Int) (bR : Int) (bb : Int) : Option (Int × (List Int)) :=
 cond (decide (bb < (dh.length : Int))) ((cw dh bb).bind fun aj => ez (List.set dh (Int.toNat bb) bR) (IntKind.i64.wrap (bR + 1)) (IntKind.i64.wrap (bb + 1))) (some (bR, dh))
def rB : Nat → (List Int) → Int → Int → Option (Int × (List Int))
 | 0, _, _, _ => none
 | n + 1, dh, bR, bb => yZ (rB n) dh bR bb
def vE (I : List Int) (aa : Int) : Option (Int × (List Int)) :=
 cX fun n => rB n I aa 0
def y0 (ez : (List aA) → Int → Int → Option (Int × (List aA))) (dh : List aA) (bR : Int) (bb : Int) : Option (Int × (List aA)) :=
 cond (decide (bb < (dh.length : Int))) ((cw dh bb).bind fun aj => (cw (List.set dh (Int.toNat bb) (aA.mk bR aj.Value)) bb).bind fun aF => ez (List.set (List.set dh (Int.toNat bb) (aA.mk bR aj.Value)) (Int.toNat bb) (aA.mk aF.Kind (IntKind.i64.wrap (bR + 1)))) (IntKind.i64.wrap ((IntKind.i64.wrap (bR + 1)) + 1)) (IntKind.i64.wrap (bb + 1))) (some (bR, dh))
def rC : Nat → (List aA) → Int → Int → Option (Int × (List aA))
 | 0, _, _, _ => none
 | n + 1, dh, bR, bb => y0 (rC n) dh bR bb
def vF (I : List aA) (aa : Int) : Option (Int × (List aA)) :=
 cX fun n => rC n I aa 0
def vG (lW : Int → (List UInt8) → Option ((List UInt8))) (jx : Int) (e2 : List UInt8) : Option ((List UInt8)) :=
 cond (decide (0 < jx)) ((nR (1 + e2.length)).bind fun _ => lW (IntKind.i64.wrap (Int.tdiv jx 10)) ([(ov (IntKind.i64.wrap (48 + (Int.tmod jx 10))))] ++ e2)) ((nR (1 + e2.length)).bind fun _ => some (([109] : List UInt8) ++ e2))
def p7 : Nat → Int → (List UInt8) → Option ((List UInt8))
 | 0, _, _ => none
 | n + 1, jx, e2 => vG (p7 n) jx e2
def vH (I : Int) : Option ((List UInt8)) :=
 cond (decide (I ≤ 0)) (some ([109, 48] : List UInt8)) (cX fun n => p7 n I ([] : List UInt8))
def y1 (ez : (List (List aA)) → Int → Int → Option (Int × (List (List aA)))) (dh : List (List aA)) (bR : Int) (bb : Int) : Option (Int × (List (List aA))) :=
 cond (decide (bb < (dh.length : Int))) ((cw dh bb).bind fun aj => (vF aj bR).bind fun aF => ez (List.set dh (Int.toNat bb) aF.2) aF.1 (IntKind.i64.wrap (bb + 1))) (some (bR, dh))
def rD : Nat → (List (List aA)) → Int → Int → Option (Int × (List (List aA)))
 | 0, _, _, _ => none
 | n + 1, dh, bR, bb => y1 (rD n) dh bR bb
def vI (I : List (List aA)) (aa : Int) : Option (Int × (List (List aA))) :=
 cX fun n => rD n I aa 0
def y2 (ez : (List aY) → Int → Int → Option (Int × (List aY))) (dh : List aY) (bR : Int) (bb : Int) : Option (Int × (List aY)) :=
 cond (decide (bb < (dh.length : Int))) ((cw dh bb).bind fun aj => (vE aj.bo bR).bind fun aF => (cw (List.set dh (Int.toNat bb) (aY.mk aF.2 aj.Guard aj.Name aj.bH aj.Next)) bb).bind fun aW => (vF aW.Guard aF.1).bind fun bn => (vH bn.1).bind fun bu => (cw (List.set (List.set dh (Int.toNat bb) (aY.mk aF.2 aj.Guard aj.Name aj.bH aj.Next)) (Int.toNat bb) (aY.mk aW.bo bn.2 aW.Name aW.bH aW.Next)) bb).bind fun bq => (cw (List.set (List.set (List.set dh (Int.toNat bb) (aY.mk aF.2 aj.Guard aj.Name aj.bH aj.Next)) (Int.toNat bb) (aY.mk aW.bo bn.2 aW.Name aW.bH aW.Next)) (Int.toNat bb) (aY.mk bq.bo bq.Guard bu bq.bH bq.Next)) bb).bind fun cj => (vI cj.bH (IntKind.i64.wrap (bn.1 + 1))).bind fun b8 => (cw (List.set (List.set (List.set (List.set dh (Int.toNat bb) (aY.mk aF.2 aj.Guard aj.Name aj.bH aj.Next)) (Int.toNat bb) (aY.mk aW.bo bn.2 aW.Name aW.bH aW.Next)) (Int.toNat bb) (aY.mk bq.bo bq.Guard bu bq.bH bq.Next)) (Int.toNat bb) (aY.mk cj.bo cj.Guard cj.Name b8.2 cj.Next)) bb).bind fun cL => (vI cL.Next b8.1).bind fun dE => ez (List.set (List.set (List.set (List.set (List.set dh (Int.toNat bb) (aY.mk aF.2 aj.Guard aj.Name aj.bH aj.Next)) (Int.toNat bb) (aY.mk aW.bo bn.2 aW.Name aW.bH aW.Next)) (Int.toNat bb) (aY.mk bq.bo bq.Guard bu bq.bH bq.Next)) (Int.toNat bb) (aY.mk cj.bo cj.Guard cj.Name b8.2 cj.Next)) (Int.toNat bb) (aY.mk cL.bo cL.Guard cL.Name cL.bH dE.2)) dE.1 (IntKind.i64.wrap (bb + 1))) (some (bR, dh))
def rE : Nat → (List aY) → Int → Int → Option (Int × (List aY))
 | 0, _, _, _ => none
 | n + 1, dh, bR, bb => y2 (rE n) dh bR bb
def y3 (I : List aY) (aa : Int) : Option (Int × (List aY)) :=
 cX fun n => rE n I aa 0
def tu (p8 : Int) (rF : List Int) (p9 : List aY) (aa : Int) : Option (Int × Int × (List Int) × (List aY)) :=
 (vE rF aa).bind fun aj => (y3 p9 aj.1).bind fun aF => some (aF.1, p8, aj.2, aF.2)
def y4 (ez : Int → Int → Option Int) (I : List Int) (bR : Int) (bb : Int) : Option Int :=
 cond (decide (bb < (I.length : Int))) ((cw I bb).bind fun aj => cond (aj != bR) (some (-1)) (ez (IntKind.i64.wrap (bR + 1)) (IntKind.i64.wrap (bb + 1)))) (some bR)
def rG (I : List Int) : Nat → Int → Int → Option Int
 | 0, _, _ => none
 | n + 1, bR, bb => y4 (rG I n) I bR bb
def vJ (I : List Int) (aa : Int) : Option Int :=
 cX fun n => rG I n aa 0
def y5 (ez : Int → Int → Option Int) (I : List aA) (bR : Int) (bb : Int) : Option Int :=
 cond (decide (bb < (I.length : Int))) ((cw I bb).bind fun aj => cond (aj.Kind != bR) (some (-1)) (cond (aj.Value != (IntKind.i64.wrap (bR + 1))) (some (-1)) (ez (IntKind.i64.wrap ((IntKind.i64.wrap (bR + 1)) + 1)) (IntKind.i64.wrap (bb + 1))))) (some bR)
def rH (I : List aA) : Nat → Int → Int → Option Int
 | 0, _, _ => none
 | n + 1, bR, bb => y5 (rH I n) I bR bb
def vK (I : List aA) (aa : Int) : Option Int :=
 cX fun n => rH I n aa 0
def y6 (ez : Int → Int → Option Int) (I : List (List aA)) (bR : Int) (bb : Int) : Option Int :=
 cond (decide (bb < (I.length : Int))) ((cw I bb).bind fun aj => (vK aj bR).bind fun aF => cond (decide (aF < 0)) (some (-1)) (ez aF (IntKind.i64.wrap (bb + 1)))) (some bR)
def rI (I : List (List aA)) : Nat → Int → Int → Option Int
 | 0, _, _ => none
 | n + 1, bR, bb => y6 (rI I n) I bR bb
def vL (I : List (List aA)) (aa : Int) : Option Int :=
 cX fun n => rI I n aa 0
def y7 (ez : Int → Int → Option Int) (I : List aY) (bR : Int) (bb : Int) : Option Int :=
 cond (decide (bb < (I.length : Int))) ((cw I bb).bind fun aj => (vJ aj.bo bR).bind fun aF => cond (decide (aF < 0)) (some (-1)) ((vK aj.Guard aF).bind fun aW => cond (decide (aW < 0)) (some (-1)) ((vH aW).bind fun bn => cond (!(aj.Name == bn)) (some (-1)) ((vL aj.bH (IntKind.i64.wrap (aW + 1))).bind fun bu => cond (decide (bu < 0)) (some (-1)) ((vL aj.Next bu).bind fun bq => cond (decide (bq < 0)) (some (-1)) (ez bq (IntKind.i64.wrap (bb + 1)))))))) (some bR)
def rJ (I : List aY) : Nat → Int → Int → Option Int
 | 0, _, _ => none
 | n + 1, bR, bb => y7 (rJ I n) I bR bb
def y8 (I : List aY) (aa : Int) : Option Int :=
 cX fun n => rJ I n aa 0
def vM (I : bc) (aa : Int) : Option Int :=
 (vJ I.Start aa).bind fun aj => cond (decide (aj < 0)) (some (-1)) ((y8 I.bG aj).bind fun aF => cond (decide (aF < 0)) (some (-1)) (some aF))
def CE (I : jf) (aa : jf) : Option Bool :=
 (u9 I 1048576).bind fun aj => cond (decide (aj < 0)) (some true) ((u9 aa aj).bind fun aF => cond (decide (aF < 0)) (some true) ((nB I).bind fun aW => (nB aa).bind fun bn => (yl aW bn).bind fun bu => (nB I).bind fun bq => (nB aa).bind fun cj => (vz bq cj).bind fun b8 => (p6 b8.1 bu.1).bind fun cL => cond ((!cL) || (b8.2 != bu.2)) (some false) ((nB I).bind fun dE => (p6 bq dE).bind fun gh => cond (!gh) (some false) ((nB aa).bind fun kF => (p6 cj kF).bind fun mq => cond (!mq) (some false) ((tu bq.aV bq.Start bq.bG 1).bind fun jj => (tu cj.aV cj.Start cj.bG jj.1).bind fun mr => cond (decide (mr.1 < 0)) (some false) ((p6 b8.1 bu.1).bind fun oi => cond ((!oi) || (b8.2 != bu.2)) (some false) ((tu b8.1.aV b8.1.Start b8.1.bG 1).bind fun gB => (vM (bc.mk gB.2.1 gB.2.2.1 gB.2.2.2) 1).bind fun vN => cond (decide (vN < 0)) (some false) (cond (vN != gB.1) (some false) ((nB I).bind fun oX => (nB aa).bind fun rK => (vz oX rK).bind fun kZ => (p6 kZ.1 bu.1).bind fun p_ => cond ((!p_) || (kZ.2 != bu.2)) (some false) ((vM (bc.mk gB.2.1 gB.2.2.1 gB.2.2.2) 1).bind fun oY => cond (decide (oY < 0)) (some false) (cond (oY != gB.1) (some false) (some true))))))))))))
end
end Go.gV
