/- Part of a proof that a law returns true for every input. No condition. -/
import Derived.Test.YtocllehpepigpaaGreatFwA
namespace Go.e1
open Go Go.dg
set_option linter.unusedVariables false
noncomputable section
structure hz where
 Kind : Int
 Value : Int
def vP (x : hz) : Prop := (-9223372036854775808 ≤ x.Kind ∧ x.Kind ≤ 9223372036854775807) ∧ (-9223372036854775808 ≤ x.Value ∧ x.Value ≤ 9223372036854775807)
structure iR where
 Kind : Int
 Number : Int
 Name : List UInt8
 cO : List (List hz)
def x_ (x : iR) : Prop := (-9223372036854775808 ≤ x.Kind ∧ x.Kind ≤ 9223372036854775807) ∧ (-9223372036854775808 ≤ x.Number ∧ x.Number ≤ 9223372036854775807) ∧ x.Name.length ≤ 9223372036854775807 ∧ (x.cO.length ≤ 9223372036854775807 ∧ ∀ y ∈ x.cO, (y.length ≤ 9223372036854775807 ∧ ∀ z ∈ y, vP z))
structure iE where
 Name : List UInt8
 dw : Int
 Body : List iR
def vQ (x : iE) : Prop := x.Name.length ≤ 9223372036854775807 ∧ (-9223372036854775808 ≤ x.dw ∧ x.dw ≤ 9223372036854775807) ∧ (x.Body.length ≤ 9223372036854775807 ∧ ∀ y ∈ x.Body, x_ y)
structure iS where
 dG : Int
 cF : List Int
def ya (x : iS) : Prop := (-9223372036854775808 ≤ x.dG ∧ x.dG ≤ 9223372036854775807) ∧ (x.cF.length ≤ 9223372036854775807 ∧ ∀ y ∈ x.cF, (-9223372036854775808 ≤ y ∧ y ≤ 9223372036854775807))
structure iF where
 Left : List UInt8
 cp : List UInt8
 Result : List UInt8
def yb (x : iF) : Prop := x.Left.length ≤ 9223372036854775807 ∧ x.cp.length ≤ 9223372036854775807 ∧ x.Result.length ≤ 9223372036854775807
structure k5 where
 eH : List iE
 c_ : List iS
 hH : List iF
 hA : List (List UInt8)
 hB : List (List UInt8)
def yc (x : k5) : Prop := (x.eH.length ≤ 9223372036854775807 ∧ ∀ y ∈ x.eH, vQ y) ∧ (x.c_.length ≤ 9223372036854775807 ∧ ∀ y ∈ x.c_, ya y) ∧ (x.hH.length ≤ 9223372036854775807 ∧ ∀ y ∈ x.hH, yb y) ∧ (x.hA.length ≤ 9223372036854775807 ∧ ∀ y ∈ x.hA, y.length ≤ 9223372036854775807) ∧ (x.hB.length ≤ 9223372036854775807 ∧ ∀ y ∈ x.hB, y.length ≤ 9223372036854775807)
structure iG where
 dG : Int
 Part : Int
 cF : List Int
def vR (x : iG) : Prop := (-9223372036854775808 ≤ x.dG ∧ x.dG ≤ 9223372036854775807) ∧ (-9223372036854775808 ≤ x.Part ∧ x.Part ≤ 9223372036854775807) ∧ (x.cF.length ≤ 9223372036854775807 ∧ ∀ y ∈ x.cF, (-9223372036854775808 ≤ y ∧ y ≤ 9223372036854775807))
structure b6 where
 Kind : Int
 Value : Int
def VS (x : b6) : Prop := (-9223372036854775808 ≤ x.Kind ∧ x.Kind ≤ 9223372036854775807) ∧ (-9223372036854775808 ≤ x.Value ∧ x.Value ≤ 9223372036854775807)
structure bJ where
 Kind : Int
 Number : Int
 Name : List UInt8
 cO : List (List b6)
def VT (x : bJ) : Prop := (-9223372036854775808 ≤ x.Kind ∧ x.Kind ≤ 9223372036854775807) ∧ (-9223372036854775808 ≤ x.Number ∧ x.Number ≤ 9223372036854775807) ∧ x.Name.length ≤ 9223372036854775807 ∧ (x.cO.length ≤ 9223372036854775807 ∧ ∀ y ∈ x.cO, (y.length ≤ 9223372036854775807 ∧ ∀ z ∈ y, VS z))
structure bk where
 Name : List UInt8
 dw : Int
 Body : List bJ
def VU (x : bk) : Prop := x.Name.length ≤ 9223372036854775807 ∧ (-9223372036854775808 ≤ x.dw ∧ x.dw ≤ 9223372036854775807) ∧ (x.Body.length ≤ 9223372036854775807 ∧ ∀ y ∈ x.Body, VT y)
structure dq where
 dG : Int
 cF : List Int
def VV (x : dq) : Prop := (-9223372036854775808 ≤ x.dG ∧ x.dG ≤ 9223372036854775807) ∧ (x.cF.length ≤ 9223372036854775807 ∧ ∀ y ∈ x.cF, (-9223372036854775808 ≤ y ∧ y ≤ 9223372036854775807))
structure cc where
 Left : List UInt8
 cp : List UInt8
 Result : List UInt8
def VW (x : cc) : Prop := x.Left.length ≤ 9223372036854775807 ∧ x.cp.length ≤ 9223372036854775807 ∧ x.Result.length ≤ 9223372036854775807
structure eo where
 eH : List bk
 c_ : List dq
 hH : List cc
 hA : List (List UInt8)
 hB : List (List UInt8)
def aBV (x : eo) : Prop := (x.eH.length ≤ 9223372036854775807 ∧ ∀ y ∈ x.eH, VU y) ∧ (x.c_.length ≤ 9223372036854775807 ∧ ∀ y ∈ x.c_, VV y) ∧ (x.hH.length ≤ 9223372036854775807 ∧ ∀ y ∈ x.hH, VW y) ∧ (x.hA.length ≤ 9223372036854775807 ∧ ∀ y ∈ x.hA, y.length ≤ 9223372036854775807) ∧ (x.hB.length ≤ 9223372036854775807 ∧ ∀ y ∈ x.hB, y.length ≤ 9223372036854775807)
structure bM where
 dG : Int
 Part : Int
 cF : List Int
def aBW (x : bM) : Prop := (-9223372036854775808 ≤ x.dG ∧ x.dG ≤ 9223372036854775807) ∧ (-9223372036854775808 ≤ x.Part ∧ x.Part ≤ 9223372036854775807) ∧ (x.cF.length ≤ 9223372036854775807 ∧ ∀ y ∈ x.cF, (-9223372036854775808 ≤ y ∧ y ≤ 9223372036854775807))
structure cM where
 scope : Int
 behind : Bool
def aBX (x : cM) : Prop := (-9223372036854775808 ≤ x.scope ∧ x.scope ≤ 9223372036854775807) ∧ True
def yd (a0 : List hz) (U : Int) : Option Int :=
 cond (decide ((IntKind.i64.wrap (U - (a0.length : Int))) < 0)) (some (-1)) (some (IntKind.i64.wrap (U - (a0.length : Int))))
def Mz (jP : Int → Int → Option Int) (a0 : List (List hz)) (dm : Int) (cK : Int) : Option Int :=
 cond (decide (cK < (a0.length : Int))) ((bK a0 cK).bind fun ag => (yd ag dm).bind fun al => cond (decide (al < 0)) (some (-1)) (jP al (IntKind.i64.wrap (cK + 1)))) (some dm)
def Bg (a0 : List (List hz)) : Nat → Int → Int → Option Int
 | 0, _, _ => none
 | n + 1, dm, cK => Mz (Bg a0 n) a0 dm cK
def Bh (a0 : List (List hz)) (U : Int) : Option Int :=
 cond (decide ((IntKind.i64.wrap (U - (a0.length : Int))) < 0)) (some (-1)) (lim fun n => Bg a0 n (IntKind.i64.wrap (U - (a0.length : Int))) 0)
def ye (a0 : iR) (U : Int) : Option Int :=
 cond (decide ((IntKind.i64.wrap (U - (a0.Name.length : Int))) < 0)) (some (-1)) ((Bh a0.cO (IntKind.i64.wrap (U - (a0.Name.length : Int)))).bind fun ag => cond (decide (ag < 0)) (some (-1)) (some ag))
def MA (jP : Int → Int → Option Int) (a0 : List iR) (dm : Int) (cK : Int) : Option Int :=
 cond (decide (cK < (a0.length : Int))) ((bK a0 cK).bind fun ag => (ye ag dm).bind fun al => cond (decide (al < 0)) (some (-1)) (jP al (IntKind.i64.wrap (cK + 1)))) (some dm)
def Bi (a0 : List iR) : Nat → Int → Int → Option Int
 | 0, _, _ => none
 | n + 1, dm, cK => MA (Bi a0 n) a0 dm cK
def Bj (a0 : List iR) (U : Int) : Option Int :=
 cond (decide ((IntKind.i64.wrap (U - (a0.length : Int))) < 0)) (some (-1)) (lim fun n => Bi a0 n (IntKind.i64.wrap (U - (a0.length : Int))) 0)
def yf (a0 : iE) (U : Int) : Option Int :=
 cond (decide ((IntKind.i64.wrap (U - (a0.Name.length : Int))) < 0)) (some (-1)) ((Bj a0.Body (IntKind.i64.wrap (U - (a0.Name.length : Int)))).bind fun ag => cond (decide (ag < 0)) (some (-1)) (some ag))
def MB (jP : Int → Int → Option Int) (a0 : List iE) (dm : Int) (cK : Int) : Option Int :=
 cond (decide (cK < (a0.length : Int))) ((bK a0 cK).bind fun ag => (yf ag dm).bind fun al => cond (decide (al < 0)) (some (-1)) (jP al (IntKind.i64.wrap (cK + 1)))) (some dm)
def Bk (a0 : List iE) : Nat → Int → Int → Option Int
 | 0, _, _ => none
 | n + 1, dm, cK => MB (Bk a0 n) a0 dm cK
def yg (a0 : List iE) (U : Int) : Option Int :=
 cond (decide ((IntKind.i64.wrap (U - (a0.length : Int))) < 0)) (some (-1)) (lim fun n => Bk a0 n (IntKind.i64.wrap (U - (a0.length : Int))) 0)
def yh (a0 : List Int) (U : Int) : Option Int :=
 cond (decide ((IntKind.i64.wrap (U - (a0.length : Int))) < 0)) (some (-1)) (some (IntKind.i64.wrap (U - (a0.length : Int))))
def yi (a0 : iS) (U : Int) : Option Int :=
 (yh a0.cF U).bind fun ag => cond (decide (ag < 0)) (some (-1)) (some ag)
def MC (jP : Int → Int → Option Int) (a0 : List iS) (dm : Int) (cK : Int) : Option Int :=
 cond (decide (cK < (a0.length : Int))) ((bK a0 cK).bind fun ag => (yi ag dm).bind fun al => cond (decide (al < 0)) (some (-1)) (jP al (IntKind.i64.wrap (cK + 1)))) (some dm)
def Bl (a0 : List iS) : Nat → Int → Int → Option Int
 | 0, _, _ => none
 | n + 1, dm, cK => MC (Bl a0 n) a0 dm cK
def Bm (a0 : List iS) (U : Int) : Option Int :=
 cond (decide ((IntKind.i64.wrap (U - (a0.length : Int))) < 0)) (some (-1)) (lim fun n => Bl a0 n (IntKind.i64.wrap (U - (a0.length : Int))) 0)
def yj (a0 : iF) (U : Int) : Option Int :=
 cond (decide ((IntKind.i64.wrap (U - (a0.Left.length : Int))) < 0)) (some (-1)) (cond (decide ((IntKind.i64.wrap ((IntKind.i64.wrap (U - (a0.Left.length : Int))) - (a0.cp.length : Int))) < 0)) (some (-1)) (cond (decide ((IntKind.i64.wrap ((IntKind.i64.wrap ((IntKind.i64.wrap (U - (a0.Left.length : Int))) - (a0.cp.length : Int))) - (a0.Result.length : Int))) < 0)) (some (-1)) (some (IntKind.i64.wrap ((IntKind.i64.wrap ((IntKind.i64.wrap (U - (a0.Left.length : Int))) - (a0.cp.length : Int))) - (a0.Result.length : Int))))))
def MD (jP : Int → Int → Option Int) (a0 : List iF) (dm : Int) (cK : Int) : Option Int :=
 cond (decide (cK < (a0.length : Int))) ((bK a0 cK).bind fun ag => (yj ag dm).bind fun al => cond (decide (al < 0)) (some (-1)) (jP al (IntKind.i64.wrap (cK + 1)))) (some dm)
def Bn (a0 : List iF) : Nat → Int → Int → Option Int
 | 0, _, _ => none
 | n + 1, dm, cK => MD (Bn a0 n) a0 dm cK
def Bo (a0 : List iF) (U : Int) : Option Int :=
 cond (decide ((IntKind.i64.wrap (U - (a0.length : Int))) < 0)) (some (-1)) (lim fun n => Bn a0 n (IntKind.i64.wrap (U - (a0.length : Int))) 0)
def ME (jP : Int → Int → Option Int) (a0 : List (List UInt8)) (dm : Int) (cK : Int) : Option Int :=
 cond (decide (cK < (a0.length : Int))) ((bK a0 cK).bind fun ag => cond (decide ((IntKind.i64.wrap (dm - (ag.length : Int))) < 0)) (some (-1)) (jP (IntKind.i64.wrap (dm - (ag.length : Int))) (IntKind.i64.wrap (cK + 1)))) (some dm)
def Bp (a0 : List (List UInt8)) : Nat → Int → Int → Option Int
 | 0, _, _ => none
 | n + 1, dm, cK => ME (Bp a0 n) a0 dm cK
def yk (a0 : List (List UInt8)) (U : Int) : Option Int :=
 cond (decide ((IntKind.i64.wrap (U - (a0.length : Int))) < 0)) (some (-1)) (lim fun n => Bp a0 n (IntKind.i64.wrap (U - (a0.length : Int))) 0)
def yl (a0 : k5) (U : Int) : Option Int :=
 (yg a0.eH U).bind fun ag => cond (decide (ag < 0)) (some (-1)) ((Bm a0.c_ ag).bind fun al => cond (decide (al < 0)) (some (-1)) ((Bo a0.hH al).bind fun aS => cond (decide (aS < 0)) (some (-1)) ((yk a0.hA aS).bind fun bs => cond (decide (bs < 0)) (some (-1)) ((yk a0.hB bs).bind fun bH => cond (decide (bH < 0)) (some (-1)) (some bH)))))
def ym (a0 : iG) (U : Int) : Option Int :=
 (yh a0.cF U).bind fun ag => cond (decide (ag < 0)) (some (-1)) (some ag)
def MF (jP : Int → Int → Option Int) (a0 : List iG) (dm : Int) (cK : Int) : Option Int :=
 cond (decide (cK < (a0.length : Int))) ((bK a0 cK).bind fun ag => (ym ag dm).bind fun al => cond (decide (al < 0)) (some (-1)) (jP al (IntKind.i64.wrap (cK + 1)))) (some dm)
def Bq (a0 : List iG) : Nat → Int → Int → Option Int
 | 0, _, _ => none
 | n + 1, dm, cK => MF (Bq a0 n) a0 dm cK
def Br (a0 : List iG) (U : Int) : Option Int :=
 cond (decide ((IntKind.i64.wrap (U - (a0.length : Int))) < 0)) (some (-1)) (lim fun n => Bq a0 n (IntKind.i64.wrap (U - (a0.length : Int))) 0)
def yn (a0 : hz) : Option b6 :=
 some (b6.mk a0.Kind a0.Value)
def MG (gi : (List b6) → Int → Option ((List b6))) (a0 : List hz) (bO : List b6) (bD : Int) : Option ((List b6)) :=
 cond (decide (bD < (a0.length : Int))) ((bK a0 bD).bind fun ag => (yn ag).bind fun al => (bK bO bD).bind fun aS => gi (List.set bO (Int.toNat bD) al) (IntKind.i64.wrap (bD + 1))) (some bO)
def Bs (a0 : List hz) : Nat → (List b6) → Int → Option ((List b6))
 | 0, _, _ => none
 | n + 1, bO, bD => MG (Bs a0 n) a0 bO bD
def yo (a0 : List hz) : Option ((List b6)) :=
 (mf 16 (a0.length : Int)).bind fun _ => lim fun n => Bs a0 n (List.replicate (Int.toNat (a0.length : Int)) (b6.mk 0 0)) 0
def MH (gi : (List (List b6)) → Int → Option ((List (List b6)))) (a0 : List (List hz)) (bO : List (List b6)) (bD : Int) : Option ((List (List b6))) :=
 cond (decide (bD < (a0.length : Int))) ((bK a0 bD).bind fun ag => (yo ag).bind fun al => (bK bO bD).bind fun aS => gi (List.set bO (Int.toNat bD) al) (IntKind.i64.wrap (bD + 1))) (some bO)
def Bt (a0 : List (List hz)) : Nat → (List (List b6)) → Int → Option ((List (List b6)))
 | 0, _, _ => none
 | n + 1, bO, bD => MH (Bt a0 n) a0 bO bD
def Bu (a0 : List (List hz)) : Option ((List (List b6))) :=
 (mf 24 (a0.length : Int)).bind fun _ => lim fun n => Bt a0 n (List.replicate (Int.toNat (a0.length : Int)) []) 0
def yp (a0 : iR) : Option bJ :=
 (Bu a0.cO).bind fun ag => some (bJ.mk a0.Kind a0.Number a0.Name ag)
def MI (gi : (List bJ) → Int → Option ((List bJ))) (a0 : List iR) (bO : List bJ) (bD : Int) : Option ((List bJ)) :=
 cond (decide (bD < (a0.length : Int))) ((bK a0 bD).bind fun ag => (yp ag).bind fun al => (bK bO bD).bind fun aS => gi (List.set bO (Int.toNat bD) al) (IntKind.i64.wrap (bD + 1))) (some bO)
def Bv (a0 : List iR) : Nat → (List bJ) → Int → Option ((List bJ))
 | 0, _, _ => none
 | n + 1, bO, bD => MI (Bv a0 n) a0 bO bD
def Bw (a0 : List iR) : Option ((List bJ)) :=
 (mf 56 (a0.length : Int)).bind fun _ => lim fun n => Bv a0 n (List.replicate (Int.toNat (a0.length : Int)) (bJ.mk 0 0 ([] : List UInt8) [])) 0
def yq (a0 : iE) : Option bk :=
 (Bw a0.Body).bind fun ag => some (bk.mk a0.Name a0.dw ag)
def MJ (gi : (List bk) → Int → Option ((List bk))) (a0 : List iE) (bO : List bk) (bD : Int) : Option ((List bk)) :=
 cond (decide (bD < (a0.length : Int))) ((bK a0 bD).bind fun ag => (yq ag).bind fun al => (bK bO bD).bind fun aS => gi (List.set bO (Int.toNat bD) al) (IntKind.i64.wrap (bD + 1))) (some bO)
def Bx (a0 : List iE) : Nat → (List bk) → Int → Option ((List bk))
 | 0, _, _ => none
 | n + 1, bO, bD => MJ (Bx a0 n) a0 bO bD
def yr (a0 : List iE) : Option ((List bk)) :=
 (mf 48 (a0.length : Int)).bind fun _ => lim fun n => Bx a0 n (List.replicate (Int.toNat (a0.length : Int)) (bk.mk ([] : List UInt8) 0 [])) 0
def MK (gi : (List Int) → Int → Option ((List Int))) (a0 : List Int) (bO : List Int) (bD : Int) : Option ((List Int)) :=
 cond (decide (bD < (a0.length : Int))) ((bK a0 bD).bind fun ag => (bK bO bD).bind fun al => gi (List.set bO (Int.toNat bD) ag) (IntKind.i64.wrap (bD + 1))) (some bO)
def Bz (a0 : List Int) : Nat → (List Int) → Int → Option ((List Int))
 | 0, _, _ => none
 | n + 1, bO, bD => MK (Bz a0 n) a0 bO bD
def qF (a0 : List Int) : Option ((List Int)) :=
 (mf 8 (a0.length : Int)).bind fun _ => lim fun n => Bz a0 n (List.replicate (Int.toNat (a0.length : Int)) 0) 0
def ys (a0 : iS) : Option dq :=
 (qF a0.cF).bind fun ag => some (dq.mk a0.dG ag)
def ML (gi : (List dq) → Int → Option ((List dq))) (a0 : List iS) (bO : List dq) (bD : Int) : Option ((List dq)) :=
 cond (decide (bD < (a0.length : Int))) ((bK a0 bD).bind fun ag => (ys ag).bind fun al => (bK bO bD).bind fun aS => gi (List.set bO (Int.toNat bD) al) (IntKind.i64.wrap (bD + 1))) (some bO)
def BA (a0 : List iS) : Nat → (List dq) → Int → Option ((List dq))
 | 0, _, _ => none
 | n + 1, bO, bD => ML (BA a0 n) a0 bO bD
def BB (a0 : List iS) : Option ((List dq)) :=
 (mf 32 (a0.length : Int)).bind fun _ => lim fun n => BA a0 n (List.replicate (Int.toNat (a0.length : Int)) (dq.mk 0 [])) 0
def yt (a0 : iF) : Option cc :=
 some (cc.mk a0.Left a0.cp a0.Result)
def MM (gi : (List cc) → Int → Option ((List cc))) (a0 : List iF) (bO : List cc) (bD : Int) : Option ((List cc)) :=
 cond (decide (bD < (a0.length : Int))) ((bK a0 bD).bind fun ag => (yt ag).bind fun al => (bK bO bD).bind fun aS => gi (List.set bO (Int.toNat bD) al) (IntKind.i64.wrap (bD + 1))) (some bO)
def BC (a0 : List iF) : Nat → (List cc) → Int → Option ((List cc))
 | 0, _, _ => none
 | n + 1, bO, bD => MM (BC a0 n) a0 bO bD
def BD (a0 : List iF) : Option ((List cc)) :=
 (mf 48 (a0.length : Int)).bind fun _ => lim fun n => BC a0 n (List.replicate (Int.toNat (a0.length : Int)) (cc.mk ([] : List UInt8) ([] : List UInt8) ([] : List UInt8))) 0
def MN (gi : (List (List UInt8)) → Int → Option ((List (List UInt8)))) (a0 : List (List UInt8)) (bO : List (List UInt8)) (bD : Int) : Option ((List (List UInt8))) :=
 cond (decide (bD < (a0.length : Int))) ((bK a0 bD).bind fun ag => (bK bO bD).bind fun al => gi (List.set bO (Int.toNat bD) ag) (IntKind.i64.wrap (bD + 1))) (some bO)
def BE (a0 : List (List UInt8)) : Nat → (List (List UInt8)) → Int → Option ((List (List UInt8)))
 | 0, _, _ => none
 | n + 1, bO, bD => MN (BE a0 n) a0 bO bD
def yu (a0 : List (List UInt8)) : Option ((List (List UInt8))) :=
 (mf 16 (a0.length : Int)).bind fun _ => lim fun n => BE a0 n (List.replicate (Int.toNat (a0.length : Int)) ([] : List UInt8)) 0
def rL (a0 : k5) : Option eo :=
 (yr a0.eH).bind fun ag => (BB a0.c_).bind fun al => (BD a0.hH).bind fun aS => (yu a0.hA).bind fun bs => (yu a0.hB).bind fun bH => some (eo.mk ag al aS bs bH)
def yv (a0 : iG) : Option bM :=
 (qF a0.cF).bind fun ag => some (bM.mk a0.dG a0.Part ag)
def MO (gi : (List bM) → Int → Option ((List bM))) (a0 : List iG) (bO : List bM) (bD : Int) : Option ((List bM)) :=
 cond (decide (bD < (a0.length : Int))) ((bK a0 bD).bind fun ag => (yv ag).bind fun al => (bK bO bD).bind fun aS => gi (List.set bO (Int.toNat bD) al) (IntKind.i64.wrap (bD + 1))) (some bO)
def BF (a0 : List iG) : Nat → (List bM) → Int → Option ((List bM))
 | 0, _, _ => none
 | n + 1, bO, bD => MO (BF a0 n) a0 bO bD
def s5 (a0 : List iG) : Option ((List bM)) :=
 (mf 40 (a0.length : Int)).bind fun _ => lim fun n => BF a0 n (List.replicate (Int.toNat (a0.length : Int)) (bM.mk 0 0 [])) 0
def yw (a0 : UInt8) : Option Bool :=
 some ((decide (97 ≤ (a0.toNat : Int))) && (decide ((a0.toNat : Int) ≤ 122)))
def Gz (a0 : UInt8) : Option Bool :=
 some ((decide (48 ≤ (a0.toNat : Int))) && (decide ((a0.toNat : Int) ≤ 57)))
def BG (fG : Int → Option Bool) (a0 : List UInt8) (c9 : Int) : Option Bool :=
 cond (decide (c9 < (a0.length : Int))) ((bK a0 c9).bind fun aS => (yw aS).bind fun bs => cond (!bs) ((Gz aS).bind fun bH => cond (!bH) (some false) (fG (IntKind.i64.wrap (c9 + 1)))) (fG (IntKind.i64.wrap (c9 + 1)))) (some true)
def vS (a0 : List UInt8) : Nat → Int → Option Bool
 | 0, _ => none
 | n + 1, c9 => BG (vS a0 n) a0 c9
def vT (a0 : List UInt8) : Option Bool :=
 cond (a0 == ([] : List UInt8)) (some false) (cond (decide (10 < (a0.length : Int))) (some false) ((bK a0 0).bind fun ag => (yw ag).bind fun al => cond (!al) (some false) (lim fun n => vS a0 n 0)))
def kF (a0 : Int) (U : Int) (a7 : Int) : Option Bool :=
 some ((decide (U ≤ a0)) && (decide (a0 ≤ a7)))
def yx (a0 : bJ) (hI : Bool) : Option Int :=
 cond hI (some 1) (cond (a0.Kind == 2) (some 2) (some 0))
def yy (a0 : bJ) : Option Int :=
 cond (a0.Kind == 1) (yx a0 true) (cond (a0.Kind == 3) (yx a0 true) (yx a0 (a0.Kind == 4)))
def BH (jP : Int → Int → Option Bool) (a0 : List bJ) (nC : Int) (oi : Int) : Option Bool :=
 cond (decide (oi < (a0.length : Int))) (cond (nC == 0) (some false) ((bK a0 oi).bind fun ag => (yy ag).bind fun al => jP (IntKind.i64.wrap (nC + (IntKind.i64.wrap (al - 1)))) (IntKind.i64.wrap (oi + 1)))) (some (nC == 0))
def s6 (a0 : List bJ) : Nat → Int → Int → Option Bool
 | 0, _, _ => none
 | n + 1, nC, oi => BH (s6 a0 n) a0 nC oi
def BI (a0 : List bJ) : Option Bool :=
 cond (((a0.length : Int) == 0) || (decide (20 < (a0.length : Int)))) (some false) (lim fun n => s6 a0 n 1 0)
def BJ (a0 : bJ) (yz : Bool) : Option Bool :=
 cond yz (some (((a0.Number == 0) && (a0.Name == ([] : List UInt8))) && ((a0.cO.length : Int) == 0))) (cond (a0.Kind == 1) (some (a0.Number == 0)) (cond (a0.Kind == 3) (some ((a0.Number == 0) && (a0.Name == ([] : List UInt8)))) (cond (a0.Kind == 4) (some ((a0.Name == ([] : List UInt8)) && ((a0.cO.length : Int) == 0))) (cond (a0.Kind == 5) (some (a0.Name == ([] : List UInt8))) (some false)))))
def GA (a0 : bJ) : Option Bool :=
 cond (a0.Kind == 0) (BJ a0 true) (BJ a0 (a0.Kind == 2))
def BK (dH : Int → Int → Option Int) (a0 : List bJ) (aT : Int) (aJ : Int) : Option Int :=
 cond (decide (0 < aJ)) ((bK a0 aT).bind fun ag => (yy ag).bind fun al => dH (IntKind.i64.wrap (aT + 1)) (IntKind.i64.wrap (aJ + (IntKind.i64.wrap (al - 1))))) (some aT)
def s7 (a0 : List bJ) : Nat → Int → Int → Option Int
 | 0, _, _ => none
 | n + 1, aT, aJ => BK (s7 a0 n) a0 aT aJ
def BL (a0 : List bJ) (U : Int) : Option Int :=
 lim fun n => s7 a0 n U 1
def yA (gi : Int → Int → Option Int) (a0 : bk) (U : Int) (vU : Int) (vV : Int) : Option Int :=
 gi vU (IntKind.i64.wrap (vV + 1))
def BM (gi : Int → Int → Option Int) (a0 : bk) (U : Int) (fH : Int) (fj : Int) : Option Int :=
 cond (decide (fj < U)) ((bK a0.Body fj).bind fun ag => cond (ag.Kind == 4) ((BL a0.Body fj).bind fun al => cond (decide (U < al)) (yA gi a0 U (IntKind.i64.wrap (fH + 1)) fj) (yA gi a0 U fH fj)) (yA gi a0 U fH fj)) (some fH)
def rM (a0 : bk) (U : Int) : Nat → Int → Int → Option Int
 | 0, _, _ => none
 | n + 1, fH, fj => BM (rM a0 U n) a0 U fH fj
def rN (a0 : bk) (U : Int) : Option Int :=
 lim fun n => rM a0 U n a0.dw 0
def BN (a0 : b6) (U : Int) : Option Bool :=
 cond (a0.Kind == 0) ((kF a0.Value 0 63).bind fun ag => some ag) (cond (a0.Kind == 1) ((kF a0.Value 0 (IntKind.i64.wrap (U - 1))).bind fun al => some al) (cond (a0.Kind == 2) ((kF a0.Value 0 8).bind fun aS => some aS) (cond (a0.Kind == 3) (some (a0.Value == 0)) (some false))))
def GB (a0 : b6) : Option Int :=
 cond (a0.Kind == 2) (some 2) (cond (a0.Kind == 3) (some 1) (some 0))
def BO (jP : Int → Int → Option Bool) (a0 : List b6) (U : Int) (hI : Int) (nD : Int) : Option Bool :=
 cond (decide (nD < (a0.length : Int))) (cond (hI == 0) (some false) ((bK a0 nD).bind fun ag => (BN ag U).bind fun al => cond (!al) (some false) ((GB ag).bind fun aS => jP (IntKind.i64.wrap (hI + (IntKind.i64.wrap (aS - 1)))) (IntKind.i64.wrap (nD + 1))))) (some (hI == 0))
def s8 (a0 : List b6) (U : Int) : Nat → Int → Int → Option Bool
 | 0, _, _ => none
 | n + 1, hI, nD => BO (s8 a0 U n) a0 U hI nD
def BP (a0 : List b6) (U : Int) (a7 : Int) : Option Bool :=
 cond (decide (a7 < (a0.length : Int))) (some false) (lim fun n => s8 a0 U n 1 0)
def BQ (VX : Int → Int → Option Int) (ag : bJ) (oj : Int) (om : Int) : Option Int :=
 cond (decide (om < (ag.cO.length : Int))) ((bK ag.cO om).bind fun bs => (BP bs oj 15).bind fun bH => cond (!bH) (some 8) (VX oj (IntKind.i64.wrap (om + 1)))) (some 0)
def rO (ag : bJ) : Nat → Int → Int → Option Int
 | 0, _, _ => none
 | n + 1, oj, om => BQ (rO ag n) ag oj om
def vW (U : bk) (a7 : Int) (ag : bJ) (yB : Bool) : Option Int :=
 cond yB (some 6) ((rN U a7).bind fun aS => cond ((ag.Kind == 4) && (decide (6 ≤ aS))) (some 7) (lim fun n => rO ag n aS 0))
def s9 (U : bk) (a7 : Int) (ag : bJ) : Option Int :=
 cond (ag.Kind == 5) (cond (a7 == 0) (vW U a7 ag true) ((bK U.Body (IntKind.i64.wrap (a7 - 1))).bind fun bE => vW U a7 ag (bE.Kind != 1))) (vW U a7 ag false)
def s_ (a0 : List bk) (U : bk) (a7 : Int) (ag : bJ) (yC : Bool) : Option Int :=
 cond yC (some 4) (cond (ag.Kind == 1) (cond ((decide (2 < (ag.cO.length : Int))) || ((decide (0 < (ag.cO.length : Int))) && (ag.Name == ([116, 97, 117] : List UInt8)))) (some 5) (s9 U a7 ag)) (cond (ag.Kind == 3) (cond ((ag.cO.length : Int) != 1) (some 5) (s9 U a7 ag)) (cond (ag.Kind == 5) ((bK a0 ag.Number).bind fun cP => cond ((ag.cO.length : Int) != cP.dw) (some 5) (s9 U a7 ag)) (s9 U a7 ag))))
def BR (a0 : List bk) (U : bk) (a7 : Int) (ag : bJ) (yD : Bool) : Option Int :=
 cond yD (some 3) (cond (ag.Kind == 4) ((kF ag.Number 1 7).bind fun e9 => cond (!e9) (s_ a0 U a7 ag true) (cond (ag.Kind == 5) ((kF ag.Number 0 (IntKind.i64.wrap ((a0.length : Int) - 1))).bind fun di => s_ a0 U a7 ag (!di)) (s_ a0 U a7 ag false))) (cond (ag.Kind == 5) ((kF ag.Number 0 (IntKind.i64.wrap ((a0.length : Int) - 1))).bind fun cr => s_ a0 U a7 ag (!cr)) (s_ a0 U a7 ag false)))
def yE (a0 : List bk) (U : bk) (a7 : Int) : Option Int :=
 (bK U.Body a7).bind fun ag => (GA ag).bind fun al => cond (!al) (some 2) (cond (ag.Kind == 1) ((vT ag.Name).bind fun fe => BR a0 U a7 ag (!fe)) (BR a0 U a7 ag false))
def yF (fG : Int → Option (Int × Int)) (a0 : List bk) (U : bk) (mB : Int) : Option (Int × Int) :=
 cond (decide (mB < (U.Body.length : Int))) ((yE a0 U mB).bind fun al => cond (decide (0 < al)) (some (mB, al)) (fG (IntKind.i64.wrap (mB + 1)))) (some (0, 0))
def rP (a0 : List bk) (U : bk) : Nat → Int → Option (Int × Int)
 | 0, _ => none
 | n + 1, mB => yF (rP a0 U n) a0 U mB
def ta (a0 : List bk) (U : bk) : Option (Int × Int) :=
 (BI U.Body).bind fun ag => cond (!ag) (some (0, 1)) (lim fun n => rP a0 U n 0)
def BS (fG : Int → Option Bool) (VY : Int → Int → Option Bool) (a0 : List bk) (mC : Int) (nE : Int) : Option Bool :=
 cond (decide (nE < mC)) ((bK a0 nE).bind fun bs => (bK a0 mC).bind fun bH => cond (bs.Name == bH.Name) (some false) (VY mC (IntKind.i64.wrap (nE + 1)))) (fG (IntKind.i64.wrap (mC + 1)))
def tb (fG : Int → Option Bool) (a0 : List bk) : Nat → Int → Int → Option Bool
 | 0, _, _ => none
 | n + 1, mC, nE => BS fG (tb fG a0 n) a0 mC nE
def BT (VZ : Int → Option Bool) (a0 : List bk) (oo : Int) : Option Bool :=
 cond (decide (oo < (a0.length : Int))) ((bK a0 oo).bind fun bE => (ta a0 bE).bind fun cP => cond (decide (0 < cP.2)) (some false) (VZ (IntKind.i64.wrap (oo + 1)))) (some true)
def rQ (a0 : List bk) : Nat → Int → Option Bool
 | 0, _ => none
 | n + 1, oo => BT (rQ a0 n) a0 oo
def BU (fG : Int → Option Bool) (a0 : List bk) (c9 : Int) : Option Bool :=
 cond (decide (c9 < (a0.length : Int))) ((bK a0 c9).bind fun ag => (vT ag.Name).bind fun al => cond (!al) (some false) ((kF ag.dw 0 3).bind fun aS => cond (!aS) (some false) (lim fun n => tb fG a0 n c9 0))) (lim fun n => rQ a0 n 0)
def oq (a0 : List bk) : Nat → Int → Option Bool
 | 0, _ => none
 | n + 1, c9 => BU (oq a0 n) a0 c9
def BV (a0 : List bk) : Option Bool :=
 cond (((a0.length : Int) == 0) || (decide (4 < (a0.length : Int)))) (some false) (lim fun n => oq a0 n 0)
def BW (dH : Int → Option Bool) (a0 : List Int) (js : Int) : Option Bool :=
 cond (decide (js < (a0.length : Int))) ((bK a0 js).bind fun ag => (kF ag 0 63).bind fun al => cond (!al) (some false) (dH (IntKind.i64.wrap (js + 1)))) (some true)
def tc (a0 : List Int) : Nat → Int → Option Bool
 | 0, _ => none
 | n + 1, js => BW (tc a0 n) a0 js
def yG (a0 : List Int) : Option Bool :=
 lim fun n => tc a0 n 0
def BX (fG : Int → Option Bool) (a0 : eo) (c9 : Int) : Option Bool :=
 cond (decide (c9 < (a0.c_.length : Int))) ((bK a0.c_ c9).bind fun ag => (kF ag.dG 0 (IntKind.i64.wrap ((a0.eH.length : Int) - 1))).bind fun al => cond (!al) (some false) ((bK a0.eH ag.dG).bind fun aS => cond ((ag.cF.length : Int) != aS.dw) (some false) ((yG ag.cF).bind fun bs => cond (!bs) (some false) (fG (IntKind.i64.wrap (c9 + 1)))))) (some true)
def td (a0 : eo) : Nat → Int → Option Bool
 | 0, _ => none
 | n + 1, c9 => BX (td a0 n) a0 c9
def BZ (a0 : eo) : Option Bool :=
 cond (((a0.c_.length : Int) == 0) || (decide (3 < (a0.c_.length : Int)))) (some false) (lim fun n => td a0 n 0)
def te (a0 : List UInt8) : Option Bool :=
 (vT a0).bind fun ag => some (ag && (!(a0 == ([116, 97, 117] : List UInt8))))
def yH (fG : Int → Option Bool) (V0 : Int → Int → Option Bool) (a0 : List cc) (ag : cc) (j4 : Int) (km : Int) : Option Bool :=
 cond (decide (km < (a0.length : Int))) ((bK a0 km).bind fun cP => cond ((cP.Left == ag.Result) || (cP.cp == ag.Result)) (some false) (V0 j4 (IntKind.i64.wrap (km + 1)))) (fG (IntKind.i64.wrap (j4 + 1)))
def o9 (fG : Int → Option Bool) (a0 : List cc) (ag : cc) : Nat → Int → Int → Option Bool
 | 0, _, _ => none
 | n + 1, j4, km => yH fG (o9 fG a0 ag n) a0 ag j4 km
def B0 (fG : Int → Option Bool) (a0 : List cc) (c9 : Int) : Option Bool :=
 cond (decide (c9 < (a0.length : Int))) ((bK a0 c9).bind fun ag => (te ag.Left).bind fun al => cond (!al) (some false) ((te ag.cp).bind fun aS => cond (!aS) (some false) ((te ag.Result).bind fun bs => cond ((!bs) || (!(Op.bytesLess ag.Left ag.cp || ag.Left == ag.cp))) (some false) (cond (decide (0 < c9)) ((bK a0 (IntKind.i64.wrap (c9 - 1))).bind fun bH => cond ((!(Op.bytesLess bH.Left ag.Left || bH.Left == ag.Left)) || ((bH.Left == ag.Left) && (!(Op.bytesLess bH.cp ag.cp)))) (some false) (lim fun n => o9 fG a0 ag n c9 0)) (lim fun n => o9 fG a0 ag n c9 0))))) (some true)
def l7 (a0 : List cc) : Nat → Int → Option Bool
 | 0, _ => none
 | n + 1, c9 => B0 (l7 a0 n) a0 c9
def B1 (a0 : List cc) : Option Bool :=
 cond (decide (6 < (a0.length : Int))) (some false) (lim fun n => l7 a0 n 0)
def B2 (dH : Int → Option Bool) (a0 : List (List UInt8)) (js : Int) : Option Bool :=
 cond (decide (js < (a0.length : Int))) ((bK a0 js).bind fun ag => (te ag).bind fun al => cond (!al) (some false) (dH (IntKind.i64.wrap (js + 1)))) (some true)
def tf (a0 : List (List UInt8)) : Nat → Int → Option Bool
 | 0, _ => none
 | n + 1, js => B2 (tf a0 n) a0 js
def B3 (a0 : List (List UInt8)) : Option Bool :=
 lim fun n => tf a0 n 0
def yI (fG : Int → Option Bool) (a0 : List (List UInt8)) (c9 : Int) : Option Bool :=
 cond (decide (c9 < (a0.length : Int))) ((bK a0 (IntKind.i64.wrap (c9 - 1))).bind fun al => (bK a0 c9).bind fun aS => cond (!(Op.bytesLess al aS)) (some false) (fG (IntKind.i64.wrap (c9 + 1)))) (some true)
def nF (a0 : List (List UInt8)) : Nat → Int → Option Bool
 | 0, _ => none
 | n + 1, c9 => yI (nF a0 n) a0 c9
def yJ (a0 : List (List UInt8)) : Option Bool :=
 cond (decide (12 < (a0.length : Int))) (some false) ((B3 a0).bind fun ag => cond (!ag) (some false) (lim fun n => nF a0 n 1))
def B4 (a0 : eo) : Option Int :=
 (BV a0.eH).bind fun ag => cond (!ag) (some 1) ((BZ a0).bind fun al => cond (!al) (some 2) ((B1 a0.hH).bind fun aS => cond (!aS) (some 3) ((yJ a0.hA).bind fun bs => cond (!bs) (some 4) ((yJ a0.hB).bind fun bH => cond (!bH) (some 5) (some 0)))))
def B5 (a0 : eo) : Option Bool :=
 (B4 a0).bind fun ag => some (ag == 0)
def vX (a0 : List bk) (U : bM) : Option Bool :=
 (kF U.dG 0 (IntKind.i64.wrap ((a0.length : Int) - 1))).bind fun ag => cond (!ag) (some false) ((bK a0 U.dG).bind fun al => (kF U.Part 0 (IntKind.i64.wrap ((al.Body.length : Int) - 1))).bind fun aS => cond (!aS) (some false) ((bK al.Body U.Part).bind fun bs => cond (bs.Kind == 5) (some false) ((rN al U.Part).bind fun bH => cond ((U.cF.length : Int) == bH) ((yG U.cF).bind fun bE => some bE) (some false))))
def B6 (fG : Int → Option Bool) (a0 : eo) (U : List bM) (bW : Int) : Option Bool :=
 cond (decide (bW < (U.length : Int))) ((bK U bW).bind fun ag => (vX a0.eH ag).bind fun al => cond (!al) (some false) (fG (IntKind.i64.wrap (bW + 1)))) (some true)
def tg (a0 : eo) (U : List bM) : Nat → Int → Option Bool
 | 0, _ => none
 | n + 1, bW => B6 (tg a0 U n) a0 U bW
def B7 (a0 : eo) (U : List bM) : Option Bool :=
 cond ((U.length : Int) != (a0.c_.length : Int)) (some false) (lim fun n => tg a0 U n 0)
def B8 (jP : (List Bool) → Int → Option Bool) (a0 : List Int) (U : Int) (cK : List Bool) (m4 : Int) : Option Bool :=
 cond (decide (m4 < (a0.length : Int))) ((bK a0 m4).bind fun ag => (kF ag 0 (IntKind.i64.wrap (U - 1))).bind fun al => cond (!al) (some false) ((bK cK ag).bind fun aS => cond aS (some false) (jP (List.set cK (Int.toNat ag) true) (IntKind.i64.wrap (m4 + 1))))) (some true)
def th (a0 : List Int) (U : Int) : Nat → (List Bool) → Int → Option Bool
 | 0, _, _ => none
 | n + 1, cK, m4 => B8 (th a0 U n) a0 U cK m4
def B9 (a0 : List Int) (U : Int) : Option Bool :=
 cond ((a0.length : Int) != U) (some false) ((mf 1 U).bind fun _ => lim fun n => th a0 U n (List.replicate (Int.toNat U) false) 0)
def yK (a0 : List Int) : Option ((List Int)) :=
 (room 8 (a0.length)).bind fun _ => some a0
def GC (gi : (List bM) → Int → Option ((List bM))) (a0 : List bM) (U : List Int) (fH : List bM) (fj : Int) : Option ((List bM)) :=
 cond (decide (fj < (U.length : Int))) ((bK U fj).bind fun ag => (bK a0 ag).bind fun al => (yK al.cF).bind fun aS => (room 40 (fH.length + 1)).bind fun _ => gi (fH ++ [(bM.mk al.dG al.Part aS)]) (IntKind.i64.wrap (fj + 1))) (some fH)
def yL (a0 : List bM) (U : List Int) : Nat → (List bM) → Int → Option ((List bM))
 | 0, _, _ => none
 | n + 1, fH, fj => GC (yL a0 U n) a0 U fH fj
def B_ (a0 : List bM) (U : List Int) : Option ((List bM)) :=
 lim fun n => yL a0 U n [] 0
def Ca (a0 : eo) (U : List bM) (a7 : List Int) : Option ((List bM) × Int) :=
 (B5 a0).bind fun ag => cond (!ag) (some ([], 1)) ((B7 a0 U).bind fun al => cond (!al) (some ([], 1)) ((B9 a7 (U.length : Int)).bind fun aS => cond (!aS) (some ([], 2)) ((B_ U a7).bind fun bs => some (bs, 0))))
def jQ (a0 : Int) (U : Int) (a7 : Int) : Option Bool :=
 some ((decide (U ≤ a0)) && (decide (a0 ≤ a7)))
def GD (a0 : bk) : Option Bool :=
 (jQ a0.dw 0 3).bind fun ag => some (!ag)
def Cb (dH : Int → Option Int) (a0 : List bk) (cX : Int) : Option Int :=
 cond (decide (cX < (a0.length : Int))) ((bK a0 cX).bind fun ag => (GD ag).bind fun al => cond al (some cX) (dH (IntKind.i64.wrap (cX + 1)))) (some (-1))
def vY (a0 : List bk) : Nat → Int → Option Int
 | 0, _ => none
 | n + 1, cX => Cb (vY a0 n) a0 cX
def GF (a0 : List bk) : Option Int :=
 lim fun n => vY a0 n 0
def GG (a0 : List bk) : Option Bool :=
 (GF a0).bind fun ag => some (decide (0 ≤ ag))
def Cc (a0 : List bk) : Option Bool :=
 (GG a0).bind fun ag => some (!ag)
def GH (a0 : UInt8) : Option Bool :=
 some ((decide (48 ≤ (a0.toNat : Int))) && (decide ((a0.toNat : Int) ≤ 57)))
def yM (dH : Int → Option Bool) (a0 : List UInt8) (e2 : Int) : Option Bool :=
 cond (decide (e2 < (a0.length : Int))) ((bK a0 e2).bind fun ag => cond (!((decide (97 ≤ (ag.toNat : Int))) && (decide ((ag.toNat : Int) ≤ 122)))) (cond (e2 == 0) (some false) ((GH ag).bind fun al => cond (!al) (some false) (dH (IntKind.i64.wrap (e2 + 1))))) (dH (IntKind.i64.wrap (e2 + 1)))) (some ((decide (1 ≤ (a0.length : Int))) && (decide ((a0.length : Int) ≤ 10))))
def qG (a0 : List UInt8) : Nat → Int → Option Bool
 | 0, _ => none
 | n + 1, e2 => yM (qG a0 n) a0 e2
def yN (a0 : List UInt8) : Option Bool :=
 lim fun n => qG a0 n 0
def GI (a0 : bk) (U : List UInt8) : Option Bool :=
 some (a0.Name == U)
def Cd (dH : Int → Option Int) (a0 : List bk) (U : List UInt8) (cX : Int) : Option Int :=
 cond (decide (cX < (a0.length : Int))) ((bK a0 cX).bind fun ag => (GI ag U).bind fun al => cond al (some cX) (dH (IntKind.i64.wrap (cX + 1)))) (some (-1))
def vZ (a0 : List bk) (U : List UInt8) : Nat → Int → Option Int
 | 0, _ => none
 | n + 1, cX => Cd (vZ a0 U n) a0 U cX
def GJ (a0 : List bk) (U : List UInt8) : Option Int :=
 lim fun n => vZ a0 U n 0
def Ce (a0 : List bk) (U : List UInt8) : Option Int :=
 (GJ a0 U).bind fun ag => some ag
def yO (a0 : bJ) (cK : Bool) : Option Int :=
 cond cK (some 1) (cond (a0.Kind == 2) (some 2) (some 0))
def yP (a0 : bJ) : Option Int :=
 cond (a0.Kind == 1) (yO a0 true) (cond (a0.Kind == 3) (yO a0 true) (yO a0 (a0.Kind == 4)))
def Cf (dH : Int → Int → Option Int) (a0 : bk) (aT : Int) (aJ : Int) : Option Int :=
 cond (decide (0 < aJ)) (cond (decide ((a0.Body.length : Int) ≤ aT)) (some (-1)) ((bK a0.Body aT).bind fun ag => (yP ag).bind fun al => dH (IntKind.i64.wrap (aT + 1)) (IntKind.i64.wrap (aJ + (IntKind.i64.wrap (al - 1)))))) (some aT)
def ti (a0 : bk) : Nat → Int → Int → Option Int
 | 0, _, _ => none
 | n + 1, aT, aJ => Cf (ti a0 n) a0 aT aJ
def Cg (a0 : bk) (U : Int) : Option Int :=
 lim fun n => ti a0 n U 1
def Ch (l8 : Int → cM → (List cM) → bk → Option (Int × (List cM))) (V1 : (List cM) → Int → Int → Option (Int × (List cM))) (a3 : bk) (k6 : Int) (al : bJ) (aS : Int) (o_ : List cM) (nG : Int) (ot : Int) : Option (Int × (List cM)) :=
 cond (decide (ot < aS)) ((l8 nG (cM.mk k6 (al.Kind == 1)) o_ a3).bind fun bs => V1 bs.2 bs.1 (IntKind.i64.wrap (ot + 1))) (some (nG, o_))
def rR (l8 : Int → cM → (List cM) → bk → Option (Int × (List cM))) (a3 : bk) (k6 : Int) (al : bJ) (aS : Int) : Nat → (List cM) → Int → Int → Option (Int × (List cM))
 | 0, _, _, _ => none
 | n + 1, o_, nG, ot => Ch l8 (rR l8 a3 k6 al aS n) a3 k6 al aS o_ nG ot
def Ci (l8 : Int → cM → (List cM) → bk → Option (Int × (List cM))) (a0 : Int) (U : cM) (a7 : List cM) (a3 : bk) (al : bJ) (k6 : Int) : Option (Int × (List cM)) :=
 (yP al).bind fun aS => lim fun n => rR l8 a3 k6 al aS n (List.set a7 (Int.toNat a0) U) (IntKind.i64.wrap (a0 + 1)) 0
def GK (l8 : Int → cM → (List cM) → bk → Option (Int × (List cM))) (a0 : Int) (U : cM) (a7 : List cM) (a3 : bk) : Option (Int × (List cM)) :=
 (bK a7 a0).bind fun ag => (bK a3.Body a0).bind fun al => cond (al.Kind == 4) (Ci l8 a0 U a7 a3 al (IntKind.i64.wrap (U.scope + 1))) (Ci l8 a0 U a7 a3 al U.scope)
def tj : Nat → Int → cM → (List cM) → bk → Option (Int × (List cM))
 | 0, _, _, _, _ => none
 | n + 1, a0, U, a7, a3 => GK (tj n) a0 U a7 a3
def Cj (a0 : Int) (U : cM) (a7 : List cM) (a3 : bk) : Option (Int × (List cM)) :=
 lim fun n => tj n a0 U a7 a3
def v7 (a0 : bk) : Option ((List cM)) :=
 (mf 16 (a0.Body.length : Int)).bind fun _ => (Cj 0 (cM.mk a0.dw false) (List.replicate (Int.toNat (a0.Body.length : Int)) (cM.mk 0 false)) a0).bind fun ag => some ag.2
def GL (a0 : bJ) : Option Bool :=
 (jQ a0.Kind 0 5).bind fun ag => some (((ag && (((a0.Kind == 4) || (a0.Kind == 5)) || (a0.Number == 0))) && ((a0.Kind == 1) || (a0.Name == ([] : List UInt8)))) && ((((a0.Kind == 1) || (a0.Kind == 3)) || (a0.Kind == 5)) || ((a0.cO.length : Int) == 0)))
def qH (a0 : List UInt8) : Option Bool :=
 (yN a0).bind fun ag => some (ag && (!(a0 == ([116, 97, 117] : List UInt8))))
def rS (a0 : Int) (U : Int) : Option Bool :=
 (jQ a0 0 (IntKind.i64.wrap (U - 1))).bind fun ag => some ag
def GM (a0 : bJ) (U : List bk) : Option Bool :=
 cond (a0.Kind == 1) (some (((a0.cO.length : Int) == 0) || ((!(a0.Name == ([116, 97, 117] : List UInt8))) && (decide ((a0.cO.length : Int) ≤ 2))))) (cond (a0.Kind == 3) (some ((a0.cO.length : Int) == 1)) (cond (a0.Kind == 5) ((bK U a0.Number).bind fun ag => some ((a0.cO.length : Int) == ag.dw)) (some true)))
def yQ (a0 : Int) : Option Bool :=
 (jQ a0 0 63).bind fun ag => some ag
def Ck (a0 : b6) (U : Int) : Option Bool :=
 cond (a0.Kind == 0) ((yQ a0.Value).bind fun ag => some ag) (cond (a0.Kind == 1) ((jQ a0.Value 0 (IntKind.i64.wrap (U - 1))).bind fun al => some al) (cond (a0.Kind == 2) ((jQ a0.Value 0 8).bind fun aS => some aS) (cond (a0.Kind == 3) (some (a0.Value == 0)) (some false))))
def GN (a0 : b6) : Option Int :=
 cond (a0.Kind == 2) (some 2) (cond (a0.Kind == 3) (some 1) (some 0))
def Cl (jP : Int → Int → Option Bool) (a0 : List b6) (U : Int) (hI : Int) (nH : Int) : Option Bool :=
 cond (decide (nH < (a0.length : Int))) ((bK a0 nH).bind fun bs => cond (hI == 0) (some false) ((Ck bs U).bind fun bH => cond (!bH) (some false) ((GN bs).bind fun bE => jP (IntKind.i64.wrap (hI + (IntKind.i64.wrap (bE - 1)))) (IntKind.i64.wrap (nH + 1))))) (some (hI == 0))
def tk (a0 : List b6) (U : Int) : Nat → Int → Int → Option Bool
 | 0, _, _ => none
 | n + 1, hI, nH => Cl (tk a0 U n) a0 U hI nH
def Cm (a0 : List b6) (U : Int) (a7 : Int) : Option Bool :=
 (jQ U 0 29).bind fun ag => cond (!ag) (some false) ((jQ a7 1 60).bind fun al => cond (!al) (some false) ((jQ (a0.length : Int) 1 a7).bind fun aS => cond (!aS) (some false) (lim fun n => tk a0 U n 1 0)))
def GO (a0 : List b6) (U : cM) : Option Bool :=
 (Cm a0 U.scope 15).bind fun ag => some (!ag)
def Cn (dH : Int → Option Int) (a0 : List (List b6)) (U : cM) (cX : Int) : Option Int :=
 cond (decide (cX < (a0.length : Int))) ((bK a0 cX).bind fun ag => (GO ag U).bind fun al => cond al (some cX) (dH (IntKind.i64.wrap (cX + 1)))) (some (-1))
def v8 (a0 : List (List b6)) (U : cM) : Nat → Int → Option Int
 | 0, _ => none
 | n + 1, cX => Cn (v8 a0 U n) a0 U cX
def GP (a0 : List (List b6)) (U : cM) : Option Int :=
 lim fun n => v8 a0 U n 0
def Co (a0 : List (List b6)) (U : cM) : Option Bool :=
 (GP a0 U).bind fun ag => some (decide (0 ≤ ag))
def tl (a0 : bJ) (U : List bk) (a7 : cM) (yR : Bool) : Option Int :=
 cond yR (some 4) ((GM a0 U).bind fun al => cond (!al) (some 5) (cond ((a0.Kind == 5) && (!a7.behind)) (some 6) (cond ((a0.Kind == 4) && (decide (6 ≤ a7.scope))) (some 7) ((Co a0.cO a7).bind fun aS => cond aS (some 8) (some 0)))))
def yS (a0 : bJ) (U : List bk) (a7 : cM) (yT : Bool) : Option Int :=
 cond yT (some 3) (cond (a0.Kind == 4) ((jQ a0.Number 1 7).bind fun bs => cond (!bs) (tl a0 U a7 true) (cond (a0.Kind == 5) ((rS a0.Number (U.length : Int)).bind fun bH => tl a0 U a7 (!bH)) (tl a0 U a7 false))) (cond (a0.Kind == 5) ((rS a0.Number (U.length : Int)).bind fun bE => tl a0 U a7 (!bE)) (tl a0 U a7 false)))
def yU (a0 : bJ) (U : List bk) (a7 : cM) : Option Int :=
 (GL a0).bind fun ag => cond (!ag) (some 2) (cond (a0.Kind == 1) (cond (!(a0.Name == ([116, 97, 117] : List UInt8))) ((qH a0.Name).bind fun cP => yS a0 U a7 (!cP)) (yS a0 U a7 false)) (yS a0 U a7 false))
def yV (jP : Int → Option (Int × Int)) (a0 : List bk) (U : bk) (aS : (List cM)) (lQ : Int) : Option (Int × Int) :=
 cond (decide (lQ < (U.Body.length : Int))) ((bK U.Body lQ).bind fun bs => (bK aS lQ).bind fun bH => (yU bs a0 bH).bind fun bE => cond (bE != 0) (some (lQ, bE)) (jP (IntKind.i64.wrap (lQ + 1)))) (some (0, 0))
def rT (a0 : List bk) (U : bk) (aS : (List cM)) : Nat → Int → Option (Int × Int)
 | 0, _ => none
 | n + 1, lQ => yV (rT a0 U aS n) a0 U aS lQ
def yW (a0 : List bk) (U : bk) : Option (Int × Int) :=
 (jQ (U.Body.length : Int) 1 20).bind fun ag => cond (!ag) (some (0, 1)) ((Cg U 0).bind fun al => cond (al != (U.Body.length : Int)) (some (0, 1)) ((v7 U).bind fun aS => lim fun n => rT a0 U aS n 0))
def Cp (fG : Int → Option Bool) (a0 : List bk) (mD : Int) : Option Bool :=
 cond (decide (mD < (a0.length : Int))) ((bK a0 mD).bind fun aS => (yN aS.Name).bind fun bs => cond (!bs) (some false) ((ka a0 0 mD).bind fun bH => (Ce bH aS.Name).bind fun bE => cond (decide (0 ≤ bE)) (some false) ((yW a0 aS).bind fun cP => cond (cP.2 != 0) (some false) (fG (IntKind.i64.wrap (mD + 1)))))) (some true)
def tm (a0 : List bk) : Nat → Int → Option Bool
 | 0, _ => none
 | n + 1, mD => Cp (tm a0 n) a0 mD
def Cq (a0 : List bk) : Option Bool :=
 (jQ (a0.length : Int) 1 4).bind fun ag => cond (!ag) (some false) ((Cc a0).bind fun al => cond (!al) (some false) (lim fun n => tm a0 n 0))
def GQ (a0 : Int) : Option Bool :=
 (yQ a0).bind fun ag => some (!ag)
def Cr (dH : Int → Option Int) (a0 : List Int) (cX : Int) : Option Int :=
 cond (decide (cX < (a0.length : Int))) ((bK a0 cX).bind fun ag => (GQ ag).bind fun al => cond al (some cX) (dH (IntKind.i64.wrap (cX + 1)))) (some (-1))
def v_ (a0 : List Int) : Nat → Int → Option Int
 | 0, _ => none
 | n + 1, cX => Cr (v_ a0 n) a0 cX
def GR (a0 : List Int) : Option Int :=
 lim fun n => v_ a0 n 0
def GS (a0 : List Int) : Option Bool :=
 (GR a0).bind fun ag => some (decide (0 ≤ ag))
def yX (a0 : List Int) : Option Bool :=
 (GS a0).bind fun ag => some (!ag)
def Cs (a0 : List bk) (U : dq) : Option Bool :=
 (rS U.dG (a0.length : Int)).bind fun ag => cond ag ((bK a0 U.dG).bind fun al => cond ((U.cF.length : Int) == al.dw) ((yX U.cF).bind fun aS => some aS) (some false)) (some false)
def GU (a0 : dq) (U : eo) : Option Bool :=
 (Cs U.eH a0).bind fun ag => some (!ag)
def Ct (dH : Int → Option Int) (a0 : List dq) (U : eo) (cX : Int) : Option Int :=
 cond (decide (cX < (a0.length : Int))) ((bK a0 cX).bind fun ag => (GU ag U).bind fun al => cond al (some cX) (dH (IntKind.i64.wrap (cX + 1)))) (some (-1))
def wa (a0 : List dq) (U : eo) : Nat → Int → Option Int
 | 0, _ => none
 | n + 1, cX => Ct (wa a0 U n) a0 U cX
def GV (a0 : List dq) (U : eo) : Option Int :=
 lim fun n => wa a0 U n 0
def Cu (a0 : List dq) (U : eo) : Option Bool :=
 (GV a0 U).bind fun ag => some (decide (0 ≤ ag))
def cmp_isNaN_string (a0 : List UInt8) : Option Bool :=
 some false
def Cv (a0 : List UInt8) (U : List UInt8) : Option Int :=
 (cmp_isNaN_string a0).bind fun ag => (cmp_isNaN_string U).bind fun al => cond ag (cond al (some 0) (some (-1))) (cond al (some 1) (cond (Op.bytesLess a0 U) (some (-1)) (cond (!(Op.bytesLess a0 U || a0 == U)) (some 1) (some 0))))
def GW (dH : Int → Option Int) (a0 : List (List UInt8)) (U : List (List UInt8)) (m5 : Int) : Option Int :=
 cond (decide (m5 < (a0.length : Int))) ((bK a0 m5).bind fun ag => cond (decide ((U.length : Int) ≤ m5)) (some 1) ((bK U m5).bind fun al => (Cv ag al).bind fun aS => cond (aS != 0) (some aS) (dH (IntKind.i64.wrap (m5 + 1))))) (cond (decide ((a0.length : Int) < (U.length : Int))) (some (-1)) (some 0))
def yY (a0 : List (List UInt8)) (U : List (List UInt8)) : Nat → Int → Option Int
 | 0, _ => none
 | n + 1, m5 => GW (yY a0 U n) a0 U m5
def Cw (a0 : List (List UInt8)) (U : List (List UInt8)) : Option Int :=
 lim fun n => yY a0 U n 0
def Cx (a0 : cc) (U : cc) : Option Int :=
 (Cw [a0.Left, a0.cp] [U.Left, U.cp]).bind fun ag => some ag
def GX (a0 : cc) (U : cc) : Option Bool :=
 some ((a0.Left == U.Result) || (a0.cp == U.Result))
def Cy (dH : Int → Option Int) (a0 : List cc) (U : cc) (cX : Int) : Option Int :=
 cond (decide (cX < (a0.length : Int))) ((bK a0 cX).bind fun ag => (GX ag U).bind fun al => cond al (some cX) (dH (IntKind.i64.wrap (cX + 1)))) (some (-1))
def wb (a0 : List cc) (U : cc) : Nat → Int → Option Int
 | 0, _ => none
 | n + 1, cX => Cy (wb a0 U n) a0 U cX
def GY (a0 : List cc) (U : cc) : Option Int :=
 lim fun n => wb a0 U n 0
def yZ (a0 : List cc) (U : cc) : Option Bool :=
 (GY a0 U).bind fun ag => some (decide (0 ≤ ag))
def Cz (dH : Int → Option Bool) (a0 : List cc) (e2 : Int) : Option Bool :=
 cond (decide (e2 < (a0.length : Int))) ((bK a0 e2).bind fun ag => (qH ag.Left).bind fun bH => cond (!bH) (some false) ((qH ag.cp).bind fun bE => cond (!bE) (some false) ((qH ag.Result).bind fun cP => cond (!cP) (some false) (cond (!(Op.bytesLess ag.Left ag.cp || ag.Left == ag.cp)) (some false) (cond (decide (0 < e2)) ((bK a0 (IntKind.i64.wrap (e2 - 1))).bind fun e9 => (Cx e9 ag).bind fun di => cond (decide (0 ≤ di)) (some false) ((yZ a0 ag).bind fun cr => cond cr (some false) (dH (IntKind.i64.wrap (e2 + 1))))) ((yZ a0 ag).bind fun fe => cond fe (some false) (dH (IntKind.i64.wrap (e2 + 1))))))))) (some (decide ((a0.length : Int) ≤ 6)))
def tn (a0 : List cc) : Nat → Int → Option Bool
 | 0, _ => none
 | n + 1, e2 => Cz (tn a0 n) a0 e2
def CA (a0 : List cc) : Option Bool :=
 lim fun n => tn a0 n 0
def CB (dH : Int → Option Bool) (a0 : List (List UInt8)) (e2 : Int) : Option Bool :=
 cond (decide (e2 < (a0.length : Int))) ((bK a0 e2).bind fun ag => (qH ag).bind fun al => cond (!al) (some false) (cond (decide (0 < e2)) ((bK a0 (IntKind.i64.wrap (e2 - 1))).bind fun aS => cond (Op.bytesLess ag aS || ag == aS) (some false) (dH (IntKind.i64.wrap (e2 + 1)))) (dH (IntKind.i64.wrap (e2 + 1))))) (some (decide ((a0.length : Int) ≤ 12)))
def tp (a0 : List (List UInt8)) : Nat → Int → Option Bool
 | 0, _ => none
 | n + 1, e2 => CB (tp a0 n) a0 e2
def y0 (a0 : List (List UInt8)) : Option Bool :=
 lim fun n => tp a0 n 0
def CC (a0 : eo) : Option Int :=
 (Cq a0.eH).bind fun ag => cond (!ag) (some 1) ((jQ (a0.c_.length : Int) 1 3).bind fun al => cond (!al) (some 2) ((Cu a0.c_ a0).bind fun aS => cond aS (some 2) ((CA a0.hH).bind fun bs => cond (!bs) (some 3) ((y0 a0.hA).bind fun bH => cond (!bH) (some 4) ((y0 a0.hB).bind fun bE => cond (!bE) (some 5) (some 0))))))
def CD (a0 : eo) : Option Bool :=
 (CC a0).bind fun ag => some (ag == 0)
def y1 (a0 : List bk) (U : bM) : Option Bool :=
 (rS U.dG (a0.length : Int)).bind fun ag => cond (!ag) (some false) ((bK a0 U.dG).bind fun al => (rS U.Part (al.Body.length : Int)).bind fun aS => cond (!aS) (some false) ((bK al.Body U.Part).bind fun bs => cond (bs.Kind != 5) ((v7 al).bind fun bH => (bK bH U.Part).bind fun bE => cond ((U.cF.length : Int) == bE.scope) ((yX U.cF).bind fun cP => some cP) (some false)) (some false)))
def GZ (a0 : bM) (U : eo) : Option Bool :=
 (y1 U.eH a0).bind fun ag => some (!ag)
def CE (dH : Int → Option Int) (a0 : List bM) (U : eo) (cX : Int) : Option Int :=
 cond (decide (cX < (a0.length : Int))) ((bK a0 cX).bind fun ag => (GZ ag U).bind fun al => cond al (some cX) (dH (IntKind.i64.wrap (cX + 1)))) (some (-1))
def wc (a0 : List bM) (U : eo) : Nat → Int → Option Int
 | 0, _ => none
 | n + 1, cX => CE (wc a0 U n) a0 U cX
def G0 (a0 : List bM) (U : eo) : Option Int :=
 lim fun n => wc a0 U n 0
def CF (a0 : List bM) (U : eo) : Option Bool :=
 (G0 a0 U).bind fun ag => some (decide (0 ≤ ag))
def G1 (a0 : eo) (U : List bM) : Option Bool :=
 (CD a0).bind fun al => cond al (cond ((U.length : Int) == (a0.c_.length : Int)) ((CF U a0).bind fun aS => some (!aS)) (some false)) (some false)
def y2 (a0 : List Int) : Option ((List Int)) :=
 cond a0.isEmpty (both (some []) ((room 8 (a0.length)).bind fun _ => some a0)) ((room 8 (a0.length)).bind fun _ => some a0)
def y3 (a0 : List Int) : Option (List Int) := if a0.length < 4611686018427387904 then some (a0.mergeSort fun x y => decide (x ≤ y)) else none
def CG (a0 : List Int) : Option (List Int) := some (lC none a0)
def CH (a0 : List Int) : Option ((List Int)) :=
 (y2 a0).bind fun ag => (y3 ag).bind fun al => (CG al).bind fun aS => some aS
def CI (gi : (List Int) → Int → Option ((List Int))) (a0 : Int) (bO : List Int) (fj : Int) : Option ((List Int)) :=
 cond (decide (fj < a0)) ((room 8 (bO.length + 1)).bind fun _ => gi (bO ++ [fj]) (IntKind.i64.wrap (fj + 1))) (some bO)
def tq (a0 : Int) : Nat → (List Int) → Int → Option ((List Int))
 | 0, _, _ => none
 | n + 1, bO, fj => CI (tq a0 n) a0 bO fj
def CJ (a0 : Int) : Option ((List Int)) :=
 lim fun n => tq a0 n [] 0
def CK (fG : Int → Option Bool) (a0 : List Int) (U : List Int) (m6 : Int) : Option Bool :=
 cond (decide (m6 < (a0.length : Int))) ((bK a0 m6).bind fun ag => (bK U m6).bind fun al => cond (ag != al) (some false) (fG (IntKind.i64.wrap (m6 + 1)))) (some true)
def tr (a0 : List Int) (U : List Int) : Nat → Int → Option Bool
 | 0, _ => none
 | n + 1, m6 => CK (tr a0 U n) a0 U m6
def CL (a0 : List Int) (U : List Int) : Option Bool :=
 cond ((a0.length : Int) != (U.length : Int)) (some false) (lim fun n => tr a0 U n 0)
def CM (a0 : List Int) (U : Int) : Option Bool :=
 (CH a0).bind fun ag => (CJ U).bind fun al => (CL ag al).bind fun aS => some (aS && ((a0.length : Int) == U))
def CN (a0 : bM) : Option bM :=
 (y2 a0.cF).bind fun ag => some (bM.mk a0.dG a0.Part ag)
def MP (gi : (List bM) → Int → Option ((List bM))) (a0 : List bM) (U : List Int) (fH : List bM) (m7 : Int) : Option ((List bM)) :=
 cond (decide (m7 < (U.length : Int))) ((bK U m7).bind fun ag => (bK a0 ag).bind fun al => (CN al).bind fun aS => (room 40 (fH.length + 1)).bind fun _ => gi (fH ++ [aS]) (IntKind.i64.wrap (m7 + 1))) (some fH)
def CO (a0 : List bM) (U : List Int) : Nat → (List bM) → Int → Option ((List bM))
 | 0, _, _ => none
 | n + 1, fH, m7 => MP (CO a0 U n) a0 U fH m7
def CP (a0 : List bM) (U : List Int) : Option ((List bM)) :=
 lim fun n => CO a0 U n [] 0
def y4 (a0 : eo) (U : List bM) (a7 : List Int) : Option ((List bM) × Int) :=
 (G1 a0 U).bind fun ag => cond (!ag) (some ([], 1)) ((CM a7 (U.length : Int)).bind fun al => cond (!al) (some ([], 2)) ((CP U a7).bind fun aS => some (aS, 0)))
def MQ (fG : Int → Option Bool) (a0 : List Int) (U : List Int) (bW : Int) : Option Bool :=
 cond (decide (bW < (a0.length : Int))) ((bK a0 bW).bind fun ag => (bK U bW).bind fun al => cond (ag != al) (some false) (fG (IntKind.i64.wrap (bW + 1)))) (some true)
def CQ (a0 : List Int) (U : List Int) : Nat → Int → Option Bool
 | 0, _ => none
 | n + 1, bW => MQ (CQ a0 U n) a0 U bW
def we (a0 : List Int) (U : List Int) : Option Bool :=
 cond ((a0.length : Int) != (U.length : Int)) (some false) (lim fun n => CQ a0 U n 0)
def y5 (a0 : bM) (U : bM) : Option Bool :=
 cond (a0.dG != U.dG) (some false) (cond (a0.Part != U.Part) (some false) ((we a0.cF U.cF).bind fun ag => cond (!ag) (some false) (some true)))
def MR (fG : Int → Option Bool) (a0 : List bM) (U : List bM) (bW : Int) : Option Bool :=
 cond (decide (bW < (a0.length : Int))) ((bK a0 bW).bind fun ag => (bK U bW).bind fun al => (y5 ag al).bind fun aS => cond (!aS) (some false) (fG (IntKind.i64.wrap (bW + 1)))) (some true)
def CR (a0 : List bM) (U : List bM) : Nat → Int → Option Bool
 | 0, _ => none
 | n + 1, bW => MR (CR a0 U n) a0 U bW
def ts (a0 : List bM) (U : List bM) : Option Bool :=
 cond ((a0.length : Int) != (U.length : Int)) (some false) (lim fun n => CR a0 U n 0)
def y6 (a0 : b6) (U : b6) : Option Bool :=
 cond (a0.Kind != U.Kind) (some false) (cond (a0.Value != U.Value) (some false) (some true))
def MS (fG : Int → Option Bool) (a0 : List b6) (U : List b6) (bW : Int) : Option Bool :=
 cond (decide (bW < (a0.length : Int))) ((bK a0 bW).bind fun ag => (bK U bW).bind fun al => (y6 ag al).bind fun aS => cond (!aS) (some false) (fG (IntKind.i64.wrap (bW + 1)))) (some true)
def CS (a0 : List b6) (U : List b6) : Nat → Int → Option Bool
 | 0, _ => none
 | n + 1, bW => MS (CS a0 U n) a0 U bW
def y7 (a0 : List b6) (U : List b6) : Option Bool :=
 cond ((a0.length : Int) != (U.length : Int)) (some false) (lim fun n => CS a0 U n 0)
def MT (fG : Int → Option Bool) (a0 : List (List b6)) (U : List (List b6)) (bW : Int) : Option Bool :=
 cond (decide (bW < (a0.length : Int))) ((bK a0 bW).bind fun ag => (bK U bW).bind fun al => (y7 ag al).bind fun aS => cond (!aS) (some false) (fG (IntKind.i64.wrap (bW + 1)))) (some true)
def CT (a0 : List (List b6)) (U : List (List b6)) : Nat → Int → Option Bool
 | 0, _ => none
 | n + 1, bW => MT (CT a0 U n) a0 U bW
def CU (a0 : List (List b6)) (U : List (List b6)) : Option Bool :=
 cond ((a0.length : Int) != (U.length : Int)) (some false) (lim fun n => CT a0 U n 0)
def y8 (a0 : bJ) (U : bJ) : Option Bool :=
 cond (a0.Kind != U.Kind) (some false) (cond (a0.Number != U.Number) (some false) (cond (!(a0.Name == U.Name)) (some false) ((CU a0.cO U.cO).bind fun ag => cond (!ag) (some false) (some true))))
def MU (fG : Int → Option Bool) (a0 : List bJ) (U : List bJ) (bW : Int) : Option Bool :=
 cond (decide (bW < (a0.length : Int))) ((bK a0 bW).bind fun ag => (bK U bW).bind fun al => (y8 ag al).bind fun aS => cond (!aS) (some false) (fG (IntKind.i64.wrap (bW + 1)))) (some true)
def CV (a0 : List bJ) (U : List bJ) : Nat → Int → Option Bool
 | 0, _ => none
 | n + 1, bW => MU (CV a0 U n) a0 U bW
def CW (a0 : List bJ) (U : List bJ) : Option Bool :=
 cond ((a0.length : Int) != (U.length : Int)) (some false) (lim fun n => CV a0 U n 0)
def y9 (a0 : bk) (U : bk) : Option Bool :=
 cond (!(a0.Name == U.Name)) (some false) (cond (a0.dw != U.dw) (some false) ((CW a0.Body U.Body).bind fun ag => cond (!ag) (some false) (some true)))
def MV (fG : Int → Option Bool) (a0 : List bk) (U : List bk) (bW : Int) : Option Bool :=
 cond (decide (bW < (a0.length : Int))) ((bK a0 bW).bind fun ag => (bK U bW).bind fun al => (y9 ag al).bind fun aS => cond (!aS) (some false) (fG (IntKind.i64.wrap (bW + 1)))) (some true)
def CX (a0 : List bk) (U : List bk) : Nat → Int → Option Bool
 | 0, _ => none
 | n + 1, bW => MV (CX a0 U n) a0 U bW
def y_ (a0 : List bk) (U : List bk) : Option Bool :=
 cond ((a0.length : Int) != (U.length : Int)) (some false) (lim fun n => CX a0 U n 0)
def za (a0 : dq) (U : dq) : Option Bool :=
 cond (a0.dG != U.dG) (some false) ((we a0.cF U.cF).bind fun ag => cond (!ag) (some false) (some true))
def MW (fG : Int → Option Bool) (a0 : List dq) (U : List dq) (bW : Int) : Option Bool :=
 cond (decide (bW < (a0.length : Int))) ((bK a0 bW).bind fun ag => (bK U bW).bind fun al => (za ag al).bind fun aS => cond (!aS) (some false) (fG (IntKind.i64.wrap (bW + 1)))) (some true)
def CY (a0 : List dq) (U : List dq) : Nat → Int → Option Bool
 | 0, _ => none
 | n + 1, bW => MW (CY a0 U n) a0 U bW
def CZ (a0 : List dq) (U : List dq) : Option Bool :=
 cond ((a0.length : Int) != (U.length : Int)) (some false) (lim fun n => CY a0 U n 0)
def zb (a0 : cc) (U : cc) : Option Bool :=
 cond (!(a0.Left == U.Left)) (some false) (cond (!(a0.cp == U.cp)) (some false) (cond (!(a0.Result == U.Result)) (some false) (some true)))
def MX (fG : Int → Option Bool) (a0 : List cc) (U : List cc) (bW : Int) : Option Bool :=
 cond (decide (bW < (a0.length : Int))) ((bK a0 bW).bind fun ag => (bK U bW).bind fun al => (zb ag al).bind fun aS => cond (!aS) (some false) (fG (IntKind.i64.wrap (bW + 1)))) (some true)
def C0 (a0 : List cc) (U : List cc) : Nat → Int → Option Bool
 | 0, _ => none
 | n + 1, bW => MX (C0 a0 U n) a0 U bW
def C1 (a0 : List cc) (U : List cc) : Option Bool :=
 cond ((a0.length : Int) != (U.length : Int)) (some false) (lim fun n => C0 a0 U n 0)
def MY (fG : Int → Option Bool) (a0 : List (List UInt8)) (U : List (List UInt8)) (bW : Int) : Option Bool :=
 cond (decide (bW < (a0.length : Int))) ((bK a0 bW).bind fun ag => (bK U bW).bind fun al => cond (!(ag == al)) (some false) (fG (IntKind.i64.wrap (bW + 1)))) (some true)
def C2 (a0 : List (List UInt8)) (U : List (List UInt8)) : Nat → Int → Option Bool
 | 0, _ => none
 | n + 1, bW => MY (C2 a0 U n) a0 U bW
def zc (a0 : List (List UInt8)) (U : List (List UInt8)) : Option Bool :=
 cond ((a0.length : Int) != (U.length : Int)) (some false) (lim fun n => C2 a0 U n 0)
def zd (a0 : eo) (U : eo) : Option Bool :=
 (y_ a0.eH U.eH).bind fun ag => cond (!ag) (some false) ((CZ a0.c_ U.c_).bind fun al => cond (!al) (some false) ((C1 a0.hH U.hH).bind fun aS => cond (!aS) (some false) ((zc a0.hA U.hA).bind fun bs => cond (!bs) (some false) ((zc a0.hB U.hB).bind fun bH => cond (!bH) (some false) (some true)))))
def ze (fG : Int → (List UInt8) → Option ((List UInt8))) (kn : Int) (c9 : List UInt8) : Option ((List UInt8)) :=
 cond (decide (0 < kn)) ((pC (1 + c9.length)).bind fun _ => fG (IntKind.i64.wrap (Int.tdiv kn 10)) ([(qe (IntKind.i64.wrap (48 + (Int.tmod kn 10))))] ++ c9)) ((pC (1 + c9.length)).bind fun _ => some (([109] : List UInt8) ++ c9))
def rU : Nat → Int → (List UInt8) → Option ((List UInt8))
 | 0, _, _ => none
 | n + 1, kn, c9 => ze (rU n) kn c9
def qI (a0 : Int) : Option ((List UInt8)) :=
 cond (decide (a0 ≤ 0)) (some ([109, 48] : List UInt8)) (lim fun n => rU n a0 ([] : List UInt8))
def C3 (dH : (List b6) → Int → Int → Option (Int × (List b6))) (bB : List b6) (aT : Int) (aJ : Int) : Option (Int × (List b6)) :=
 cond (decide (aJ < (bB.length : Int))) ((bK bB aJ).bind fun ag => (bK (List.set bB (Int.toNat aJ) (b6.mk aT ag.Value)) aJ).bind fun al => dH (List.set (List.set bB (Int.toNat aJ) (b6.mk aT ag.Value)) (Int.toNat aJ) (b6.mk al.Kind (IntKind.i64.wrap (aT + 1)))) (IntKind.i64.wrap ((IntKind.i64.wrap (aT + 1)) + 1)) (IntKind.i64.wrap (aJ + 1))) (some (aT, bB))
def tt : Nat → (List b6) → Int → Int → Option (Int × (List b6))
 | 0, _, _, _ => none
 | n + 1, bB, aT, aJ => C3 (tt n) bB aT aJ
def C4 (a0 : List b6) (U : Int) : Option (Int × (List b6)) :=
 lim fun n => tt n a0 U 0
def C5 (dH : (List (List b6)) → Int → Int → Option (Int × (List (List b6)))) (bB : List (List b6)) (aT : Int) (aJ : Int) : Option (Int × (List (List b6))) :=
 cond (decide (aJ < (bB.length : Int))) ((bK bB aJ).bind fun ag => (C4 ag aT).bind fun al => dH (List.set bB (Int.toNat aJ) al.2) al.1 (IntKind.i64.wrap (aJ + 1))) (some (aT, bB))
def tu : Nat → (List (List b6)) → Int → Int → Option (Int × (List (List b6)))
 | 0, _, _, _ => none
 | n + 1, bB, aT, aJ => C5 (tu n) bB aT aJ
def C6 (a0 : List (List b6)) (U : Int) : Option (Int × (List (List b6))) :=
 lim fun n => tu n a0 U 0
def C7 (dH : (List bJ) → Int → Int → Option (Int × (List bJ))) (bB : List bJ) (aT : Int) (aJ : Int) : Option (Int × (List bJ)) :=
 cond (decide (aJ < (bB.length : Int))) ((bK bB aJ).bind fun ag => (bK (List.set bB (Int.toNat aJ) (bJ.mk aT ag.Number ag.Name ag.cO)) aJ).bind fun al => (qI (IntKind.i64.wrap ((IntKind.i64.wrap (aT + 1)) + 1))).bind fun aS => (bK (List.set (List.set bB (Int.toNat aJ) (bJ.mk aT ag.Number ag.Name ag.cO)) (Int.toNat aJ) (bJ.mk al.Kind (IntKind.i64.wrap (aT + 1)) al.Name al.cO)) aJ).bind fun bs => (bK (List.set (List.set (List.set bB (Int.toNat aJ) (bJ.mk aT ag.Number ag.Name ag.cO)) (Int.toNat aJ) (bJ.mk al.Kind (IntKind.i64.wrap (aT + 1)) al.Name al.cO)) (Int.toNat aJ) (bJ.mk bs.Kind bs.Number aS bs.cO)) aJ).bind fun bH => (C6 bH.cO (IntKind.i64.wrap ((IntKind.i64.wrap ((IntKind.i64.wrap (aT + 1)) + 1)) + 1))).bind fun bE => dH (List.set (List.set (List.set (List.set bB (Int.toNat aJ) (bJ.mk aT ag.Number ag.Name ag.cO)) (Int.toNat aJ) (bJ.mk al.Kind (IntKind.i64.wrap (aT + 1)) al.Name al.cO)) (Int.toNat aJ) (bJ.mk bs.Kind bs.Number aS bs.cO)) (Int.toNat aJ) (bJ.mk bH.Kind bH.Number bH.Name bE.2)) bE.1 (IntKind.i64.wrap (aJ + 1))) (some (aT, bB))
def tv : Nat → (List bJ) → Int → Int → Option (Int × (List bJ))
 | 0, _, _, _ => none
 | n + 1, bB, aT, aJ => C7 (tv n) bB aT aJ
def C8 (a0 : List bJ) (U : Int) : Option (Int × (List bJ)) :=
 lim fun n => tv n a0 U 0
def C9 (dH : (List bk) → Int → Int → Option (Int × (List bk))) (bB : List bk) (aT : Int) (aJ : Int) : Option (Int × (List bk)) :=
 cond (decide (aJ < (bB.length : Int))) ((qI aT).bind fun ag => (bK bB aJ).bind fun al => (bK (List.set bB (Int.toNat aJ) (bk.mk ag al.dw al.Body)) aJ).bind fun aS => (bK (List.set (List.set bB (Int.toNat aJ) (bk.mk ag al.dw al.Body)) (Int.toNat aJ) (bk.mk aS.Name (IntKind.i64.wrap (aT + 1)) aS.Body)) aJ).bind fun bs => (C8 bs.Body (IntKind.i64.wrap ((IntKind.i64.wrap (aT + 1)) + 1))).bind fun bH => dH (List.set (List.set (List.set bB (Int.toNat aJ) (bk.mk ag al.dw al.Body)) (Int.toNat aJ) (bk.mk aS.Name (IntKind.i64.wrap (aT + 1)) aS.Body)) (Int.toNat aJ) (bk.mk bs.Name bs.dw bH.2)) bH.1 (IntKind.i64.wrap (aJ + 1))) (some (aT, bB))
def tw : Nat → (List bk) → Int → Int → Option (Int × (List bk))
 | 0, _, _, _ => none
 | n + 1, bB, aT, aJ => C9 (tw n) bB aT aJ
def C_ (a0 : List bk) (U : Int) : Option (Int × (List bk)) :=
 lim fun n => tw n a0 U 0
def Da (dH : (List Int) → Int → Int → Option (Int × (List Int))) (bB : List Int) (aT : Int) (aJ : Int) : Option (Int × (List Int)) :=
 cond (decide (aJ < (bB.length : Int))) ((bK bB aJ).bind fun ag => dH (List.set bB (Int.toNat aJ) aT) (IntKind.i64.wrap (aT + 1)) (IntKind.i64.wrap (aJ + 1))) (some (aT, bB))
def tx : Nat → (List Int) → Int → Int → Option (Int × (List Int))
 | 0, _, _, _ => none
 | n + 1, bB, aT, aJ => Da (tx n) bB aT aJ
def wg (a0 : List Int) (U : Int) : Option (Int × (List Int)) :=
 lim fun n => tx n a0 U 0
def Db (dH : (List dq) → Int → Int → Option (Int × (List dq))) (bB : List dq) (aT : Int) (aJ : Int) : Option (Int × (List dq)) :=
 cond (decide (aJ < (bB.length : Int))) ((bK bB aJ).bind fun ag => (bK (List.set bB (Int.toNat aJ) (dq.mk aT ag.cF)) aJ).bind fun al => (wg al.cF (IntKind.i64.wrap (aT + 1))).bind fun aS => dH (List.set (List.set bB (Int.toNat aJ) (dq.mk aT ag.cF)) (Int.toNat aJ) (dq.mk al.dG aS.2)) aS.1 (IntKind.i64.wrap (aJ + 1))) (some (aT, bB))
def tz : Nat → (List dq) → Int → Int → Option (Int × (List dq))
 | 0, _, _, _ => none
 | n + 1, bB, aT, aJ => Db (tz n) bB aT aJ
def Dc (a0 : List dq) (U : Int) : Option (Int × (List dq)) :=
 lim fun n => tz n a0 U 0
def Dd (dH : (List cc) → Int → Int → Option (Int × (List cc))) (bB : List cc) (aT : Int) (aJ : Int) : Option (Int × (List cc)) :=
 cond (decide (aJ < (bB.length : Int))) ((qI aT).bind fun ag => (bK bB aJ).bind fun al => (qI (IntKind.i64.wrap (aT + 1))).bind fun aS => (bK (List.set bB (Int.toNat aJ) (cc.mk ag al.cp al.Result)) aJ).bind fun bs => (qI (IntKind.i64.wrap ((IntKind.i64.wrap (aT + 1)) + 1))).bind fun bH => (bK (List.set (List.set bB (Int.toNat aJ) (cc.mk ag al.cp al.Result)) (Int.toNat aJ) (cc.mk bs.Left aS bs.Result)) aJ).bind fun bE => dH (List.set (List.set (List.set bB (Int.toNat aJ) (cc.mk ag al.cp al.Result)) (Int.toNat aJ) (cc.mk bs.Left aS bs.Result)) (Int.toNat aJ) (cc.mk bE.Left bE.cp bH)) (IntKind.i64.wrap ((IntKind.i64.wrap ((IntKind.i64.wrap (aT + 1)) + 1)) + 1)) (IntKind.i64.wrap (aJ + 1))) (some (aT, bB))
def tA : Nat → (List cc) → Int → Int → Option (Int × (List cc))
 | 0, _, _, _ => none
 | n + 1, bB, aT, aJ => Dd (tA n) bB aT aJ
def De (a0 : List cc) (U : Int) : Option (Int × (List cc)) :=
 lim fun n => tA n a0 U 0
def Df (dH : (List (List UInt8)) → Int → Int → Option (Int × (List (List UInt8)))) (bB : List (List UInt8)) (aT : Int) (aJ : Int) : Option (Int × (List (List UInt8))) :=
 cond (decide (aJ < (bB.length : Int))) ((qI aT).bind fun ag => (bK bB aJ).bind fun al => dH (List.set bB (Int.toNat aJ) ag) (IntKind.i64.wrap (aT + 1)) (IntKind.i64.wrap (aJ + 1))) (some (aT, bB))
def tB : Nat → (List (List UInt8)) → Int → Int → Option (Int × (List (List UInt8)))
 | 0, _, _, _ => none
 | n + 1, bB, aT, aJ => Df (tB n) bB aT aJ
def zf (a0 : List (List UInt8)) (U : Int) : Option (Int × (List (List UInt8))) :=
 lim fun n => tB n a0 U 0
def Dg (wh : List bk) (tC : List dq) (rV : List cc) (qJ : List (List UInt8)) (p0 : List (List UInt8)) (U : Int) : Option (Int × (List bk) × (List dq) × (List cc) × (List (List UInt8)) × (List (List UInt8))) :=
 (C_ wh U).bind fun ag => (Dc tC ag.1).bind fun al => (De rV al.1).bind fun aS => (zf qJ aS.1).bind fun bs => (zf p0 bs.1).bind fun bH => some (bH.1, ag.2, al.2, aS.2, bs.2, bH.2)
def Dh (dH : (List bM) → Int → Int → Option (Int × (List bM))) (bB : List bM) (aT : Int) (aJ : Int) : Option (Int × (List bM)) :=
 cond (decide (aJ < (bB.length : Int))) ((bK bB aJ).bind fun ag => (bK (List.set bB (Int.toNat aJ) (bM.mk aT ag.Part ag.cF)) aJ).bind fun al => (bK (List.set (List.set bB (Int.toNat aJ) (bM.mk aT ag.Part ag.cF)) (Int.toNat aJ) (bM.mk al.dG (IntKind.i64.wrap (aT + 1)) al.cF)) aJ).bind fun aS => (wg aS.cF (IntKind.i64.wrap ((IntKind.i64.wrap (aT + 1)) + 1))).bind fun bs => dH (List.set (List.set (List.set bB (Int.toNat aJ) (bM.mk aT ag.Part ag.cF)) (Int.toNat aJ) (bM.mk al.dG (IntKind.i64.wrap (aT + 1)) al.cF)) (Int.toNat aJ) (bM.mk aS.dG aS.Part bs.2)) bs.1 (IntKind.i64.wrap (aJ + 1))) (some (aT, bB))
def tD : Nat → (List bM) → Int → Int → Option (Int × (List bM))
 | 0, _, _, _ => none
 | n + 1, bB, aT, aJ => Dh (tD n) bB aT aJ
def zg (a0 : List bM) (U : Int) : Option (Int × (List bM)) :=
 lim fun n => tD n a0 U 0
def Di (dH : Int → Int → Option Int) (a0 : List Int) (aT : Int) (aJ : Int) : Option Int :=
 cond (decide (aJ < (a0.length : Int))) ((bK a0 aJ).bind fun ag => cond (ag != aT) (some (-1)) (dH (IntKind.i64.wrap (aT + 1)) (IntKind.i64.wrap (aJ + 1)))) (some aT)
def tE (a0 : List Int) : Nat → Int → Int → Option Int
 | 0, _, _ => none
 | n + 1, aT, aJ => Di (tE a0 n) a0 aT aJ
def Dj (a0 : List Int) (U : Int) : Option Int :=
 lim fun n => tE a0 n U 0
def Dk (dH : Int → Int → Option Int) (a0 : List bM) (aT : Int) (aJ : Int) : Option Int :=
 cond (decide (aJ < (a0.length : Int))) ((bK a0 aJ).bind fun ag => cond (ag.dG != aT) (some (-1)) (cond (ag.Part != (IntKind.i64.wrap (aT + 1))) (some (-1)) ((Dj ag.cF (IntKind.i64.wrap ((IntKind.i64.wrap (aT + 1)) + 1))).bind fun al => cond (decide (al < 0)) (some (-1)) (dH al (IntKind.i64.wrap (aJ + 1)))))) (some aT)
def tF (a0 : List bM) : Nat → Int → Int → Option Int
 | 0, _, _ => none
 | n + 1, aT, aJ => Dk (tF a0 n) a0 aT aJ
def zh (a0 : List bM) (U : Int) : Option Int :=
 lim fun n => tF a0 n U 0
def G2 (a0 : k5) (U : List iG) (a7 : List Int) : Option Bool :=
 cond (decide (1048576 < (a7.length : Int))) (some true) ((yl a0 1048576).bind fun ag => cond (decide (ag < 0)) (some true) ((Br U ag).bind fun al => cond (decide (al < 0)) (some true) ((rL a0).bind fun aS => (s5 U).bind fun bs => (qF a7).bind fun bH => (Ca aS bs bH).bind fun bE => (rL a0).bind fun cP => (s5 U).bind fun e9 => (qF a7).bind fun di => (y4 cP e9 di).bind fun cr => (ts cr.1 bE.1).bind fun fe => cond ((!fe) || (cr.2 != bE.2)) (some false) ((rL a0).bind fun je => (zd cP je).bind fun jt => cond (!jt) (some false) ((s5 U).bind fun ic => (ts e9 ic).bind fun ju => cond (!ju) (some false) ((qF a7).bind fun nI => (we di nI).bind fun lR => cond (!lR) (some false) ((Dg cP.eH cP.c_ cP.hH cP.hA cP.hB 1).bind fun qK => (zg e9 qK.1).bind fun qL => (wg di qL.1).bind fun zi => cond (decide (zi.1 < 0)) (some false) ((ts cr.1 bE.1).bind fun wi => cond ((!wi) || (cr.2 != bE.2)) (some false) ((zg cr.1 1).bind fun j5 => (zh j5.2 1).bind fun Dl => cond (decide (Dl < 0)) (some false) (cond (Dl != j5.1) (some false) ((rL a0).bind fun G3 => (s5 U).bind fun zj => (qF a7).bind fun Dm => (y4 G3 zj Dm).bind fun pa => (ts pa.1 bE.1).bind fun tG => cond ((!tG) || (pa.2 != bE.2)) (some false) ((zh j5.2 1).bind fun wj => cond (decide (wj < 0)) (some false) (cond (wj != j5.1) (some false) (some true))))))))))))))
end
end Go.e1
