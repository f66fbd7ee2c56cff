/- Part of a proof that a law returns true for every input. No condition. -/
import Derived.Test.YtbemmmimelklkaaGreatFwA
namespace Go.eR
open Go Go.c5
set_option linter.unusedVariables false
noncomputable section
structure gY where
 Kind : Int
 Value : Int
def vd (x : gY) : Prop := (-9223372036854775808 ≤ x.Kind ∧ x.Kind ≤ 9223372036854775807) ∧ (-9223372036854775808 ≤ x.Value ∧ x.Value ≤ 9223372036854775807)
structure ij where
 Kind : Int
 Number : Int
 Name : List UInt8
 cA : List (List gY)
def xD (x : ij) : Prop := (-9223372036854775808 ≤ x.Kind ∧ x.Kind ≤ 9223372036854775807) ∧ (-9223372036854775808 ≤ x.Number ∧ x.Number ≤ 9223372036854775807) ∧ x.Name.length ≤ 9223372036854775807 ∧ (x.cA.length ≤ 9223372036854775807 ∧ ∀ y ∈ x.cA, (y.length ≤ 9223372036854775807 ∧ ∀ z ∈ y, vd z))
structure h4 where
 Name : List UInt8
 dj : Int
 Body : List ij
def ve (x : h4) : Prop := x.Name.length ≤ 9223372036854775807 ∧ (-9223372036854775808 ≤ x.dj ∧ x.dj ≤ 9223372036854775807) ∧ (x.Body.length ≤ 9223372036854775807 ∧ ∀ y ∈ x.Body, xD y)
structure ik where
 fe : Int
 fq : List Int
def xE (x : ik) : Prop := (-9223372036854775808 ≤ x.fe ∧ x.fe ≤ 9223372036854775807) ∧ (x.fq.length ≤ 9223372036854775807 ∧ ∀ y ∈ x.fq, (-9223372036854775808 ≤ y ∧ y ≤ 9223372036854775807))
structure h5 where
 Left : List UInt8
 ch : List UInt8
 Result : List UInt8
def xF (x : h5) : Prop := x.Left.length ≤ 9223372036854775807 ∧ x.ch.length ≤ 9223372036854775807 ∧ x.Result.length ≤ 9223372036854775807
structure kn where
 b3 : List h4
 cn : List ik
 g7 : List h5
 gZ : List (List UInt8)
 g0 : List (List UInt8)
def xG (x : kn) : Prop := (x.b3.length ≤ 9223372036854775807 ∧ ∀ y ∈ x.b3, ve y) ∧ (x.cn.length ≤ 9223372036854775807 ∧ ∀ y ∈ x.cn, xE y) ∧ (x.g7.length ≤ 9223372036854775807 ∧ ∀ y ∈ x.g7, xF y) ∧ (x.gZ.length ≤ 9223372036854775807 ∧ ∀ y ∈ x.gZ, y.length ≤ 9223372036854775807) ∧ (x.g0.length ≤ 9223372036854775807 ∧ ∀ y ∈ x.g0, y.length ≤ 9223372036854775807)
structure bW where
 Kind : Int
 Value : Int
def UE (x : bW) : Prop := (-9223372036854775808 ≤ x.Kind ∧ x.Kind ≤ 9223372036854775807) ∧ (-9223372036854775808 ≤ x.Value ∧ x.Value ≤ 9223372036854775807)
structure bE where
 Kind : Int
 Number : Int
 Name : List UInt8
 cA : List (List bW)
def UF (x : bE) : Prop := (-9223372036854775808 ≤ x.Kind ∧ x.Kind ≤ 9223372036854775807) ∧ (-9223372036854775808 ≤ x.Number ∧ x.Number ≤ 9223372036854775807) ∧ x.Name.length ≤ 9223372036854775807 ∧ (x.cA.length ≤ 9223372036854775807 ∧ ∀ y ∈ x.cA, (y.length ≤ 9223372036854775807 ∧ ∀ z ∈ y, UE z))
structure bg where
 Name : List UInt8
 dj : Int
 Body : List bE
def UG (x : bg) : Prop := x.Name.length ≤ 9223372036854775807 ∧ (-9223372036854775808 ≤ x.dj ∧ x.dj ≤ 9223372036854775807) ∧ (x.Body.length ≤ 9223372036854775807 ∧ ∀ y ∈ x.Body, UF y)
structure dc where
 fe : Int
 fq : List Int
def UH (x : dc) : Prop := (-9223372036854775808 ≤ x.fe ∧ x.fe ≤ 9223372036854775807) ∧ (x.fq.length ≤ 9223372036854775807 ∧ ∀ y ∈ x.fq, (-9223372036854775808 ≤ y ∧ y ≤ 9223372036854775807))
structure b4 where
 Left : List UInt8
 ch : List UInt8
 Result : List UInt8
def UI (x : b4) : Prop := x.Left.length ≤ 9223372036854775807 ∧ x.ch.length ≤ 9223372036854775807 ∧ x.Result.length ≤ 9223372036854775807
structure dv where
 b3 : List bg
 cn : List dc
 g7 : List b4
 gZ : List (List UInt8)
 g0 : List (List UInt8)
def ax8 (x : dv) : Prop := (x.b3.length ≤ 9223372036854775807 ∧ ∀ y ∈ x.b3, UG y) ∧ (x.cn.length ≤ 9223372036854775807 ∧ ∀ y ∈ x.cn, UH y) ∧ (x.g7.length ≤ 9223372036854775807 ∧ ∀ y ∈ x.g7, UI y) ∧ (x.gZ.length ≤ 9223372036854775807 ∧ ∀ y ∈ x.gZ, y.length ≤ 9223372036854775807) ∧ (x.g0.length ≤ 9223372036854775807 ∧ ∀ y ∈ x.g0, y.length ≤ 9223372036854775807)
structure cx where
 scope : Int
 behind : Bool
def ax9 (x : cx) : Prop := (-9223372036854775808 ≤ x.scope ∧ x.scope ≤ 9223372036854775807) ∧ True
def xH (a0 : List gY) (U : Int) : Option Int :=
 cond (decide ((IntKind.i64.wrap (U - (a0.length : Int))) < 0)) (some (-1)) (some (IntKind.i64.wrap (U - (a0.length : Int))))
def LF (ko : Int → Int → Option Int) (a0 : List (List gY)) (dw : Int) (dp : Int) : Option Int :=
 cond (decide (dp < (a0.length : Int))) ((bQ a0 dp).bind fun ag => (xH ag dw).bind fun au => cond (decide (au < 0)) (some (-1)) (ko au (IntKind.i64.wrap (dp + 1)))) (some dw)
def AV (a0 : List (List gY)) : Nat → Int → Int → Option Int
 | 0, _, _ => none
 | n + 1, dw, dp => LF (AV a0 n) a0 dw dp
def AW (a0 : List (List gY)) (U : Int) : Option Int :=
 cond (decide ((IntKind.i64.wrap (U - (a0.length : Int))) < 0)) (some (-1)) (lim fun n => AV a0 n (IntKind.i64.wrap (U - (a0.length : Int))) 0)
def xI (a0 : ij) (U : Int) : Option Int :=
 cond (decide ((IntKind.i64.wrap (U - (a0.Name.length : Int))) < 0)) (some (-1)) ((AW a0.cA (IntKind.i64.wrap (U - (a0.Name.length : Int)))).bind fun ag => cond (decide (ag < 0)) (some (-1)) (some ag))
def LG (ko : Int → Int → Option Int) (a0 : List ij) (dw : Int) (dp : Int) : Option Int :=
 cond (decide (dp < (a0.length : Int))) ((bQ a0 dp).bind fun ag => (xI ag dw).bind fun au => cond (decide (au < 0)) (some (-1)) (ko au (IntKind.i64.wrap (dp + 1)))) (some dw)
def AX (a0 : List ij) : Nat → Int → Int → Option Int
 | 0, _, _ => none
 | n + 1, dw, dp => LG (AX a0 n) a0 dw dp
def AY (a0 : List ij) (U : Int) : Option Int :=
 cond (decide ((IntKind.i64.wrap (U - (a0.length : Int))) < 0)) (some (-1)) (lim fun n => AX a0 n (IntKind.i64.wrap (U - (a0.length : Int))) 0)
def xJ (a0 : h4) (U : Int) : Option Int :=
 cond (decide ((IntKind.i64.wrap (U - (a0.Name.length : Int))) < 0)) (some (-1)) ((AY a0.Body (IntKind.i64.wrap (U - (a0.Name.length : Int)))).bind fun ag => cond (decide (ag < 0)) (some (-1)) (some ag))
def LH (ko : Int → Int → Option Int) (a0 : List h4) (dw : Int) (dp : Int) : Option Int :=
 cond (decide (dp < (a0.length : Int))) ((bQ a0 dp).bind fun ag => (xJ ag dw).bind fun au => cond (decide (au < 0)) (some (-1)) (ko au (IntKind.i64.wrap (dp + 1)))) (some dw)
def AZ (a0 : List h4) : Nat → Int → Int → Option Int
 | 0, _, _ => none
 | n + 1, dw, dp => LH (AZ a0 n) a0 dw dp
def xK (a0 : List h4) (U : Int) : Option Int :=
 cond (decide ((IntKind.i64.wrap (U - (a0.length : Int))) < 0)) (some (-1)) (lim fun n => AZ a0 n (IntKind.i64.wrap (U - (a0.length : Int))) 0)
def A0 (a0 : List Int) (U : Int) : Option Int :=
 cond (decide ((IntKind.i64.wrap (U - (a0.length : Int))) < 0)) (some (-1)) (some (IntKind.i64.wrap (U - (a0.length : Int))))
def xL (a0 : ik) (U : Int) : Option Int :=
 (A0 a0.fq U).bind fun ag => cond (decide (ag < 0)) (some (-1)) (some ag)
def LI (ko : Int → Int → Option Int) (a0 : List ik) (dw : Int) (dp : Int) : Option Int :=
 cond (decide (dp < (a0.length : Int))) ((bQ a0 dp).bind fun ag => (xL ag dw).bind fun au => cond (decide (au < 0)) (some (-1)) (ko au (IntKind.i64.wrap (dp + 1)))) (some dw)
def A1 (a0 : List ik) : Nat → Int → Int → Option Int
 | 0, _, _ => none
 | n + 1, dw, dp => LI (A1 a0 n) a0 dw dp
def A2 (a0 : List ik) (U : Int) : Option Int :=
 cond (decide ((IntKind.i64.wrap (U - (a0.length : Int))) < 0)) (some (-1)) (lim fun n => A1 a0 n (IntKind.i64.wrap (U - (a0.length : Int))) 0)
def xM (a0 : h5) (U : Int) : Option Int :=
 cond (decide ((IntKind.i64.wrap (U - (a0.Left.length : Int))) < 0)) (some (-1)) (cond (decide ((IntKind.i64.wrap ((IntKind.i64.wrap (U - (a0.Left.length : Int))) - (a0.ch.length : Int))) < 0)) (some (-1)) (cond (decide ((IntKind.i64.wrap ((IntKind.i64.wrap ((IntKind.i64.wrap (U - (a0.Left.length : Int))) - (a0.ch.length : Int))) - (a0.Result.length : Int))) < 0)) (some (-1)) (some (IntKind.i64.wrap ((IntKind.i64.wrap ((IntKind.i64.wrap (U - (a0.Left.length : Int))) - (a0.ch.length : Int))) - (a0.Result.length : Int))))))
def LJ (ko : Int → Int → Option Int) (a0 : List h5) (dw : Int) (dp : Int) : Option Int :=
 cond (decide (dp < (a0.length : Int))) ((bQ a0 dp).bind fun ag => (xM ag dw).bind fun au => cond (decide (au < 0)) (some (-1)) (ko au (IntKind.i64.wrap (dp + 1)))) (some dw)
def A3 (a0 : List h5) : Nat → Int → Int → Option Int
 | 0, _, _ => none
 | n + 1, dw, dp => LJ (A3 a0 n) a0 dw dp
def A4 (a0 : List h5) (U : Int) : Option Int :=
 cond (decide ((IntKind.i64.wrap (U - (a0.length : Int))) < 0)) (some (-1)) (lim fun n => A3 a0 n (IntKind.i64.wrap (U - (a0.length : Int))) 0)
def LK (ko : Int → Int → Option Int) (a0 : List (List UInt8)) (dw : Int) (dp : Int) : Option Int :=
 cond (decide (dp < (a0.length : Int))) ((bQ a0 dp).bind fun ag => cond (decide ((IntKind.i64.wrap (dw - (ag.length : Int))) < 0)) (some (-1)) (ko (IntKind.i64.wrap (dw - (ag.length : Int))) (IntKind.i64.wrap (dp + 1)))) (some dw)
def A5 (a0 : List (List UInt8)) : Nat → Int → Int → Option Int
 | 0, _, _ => none
 | n + 1, dw, dp => LK (A5 a0 n) a0 dw dp
def xN (a0 : List (List UInt8)) (U : Int) : Option Int :=
 cond (decide ((IntKind.i64.wrap (U - (a0.length : Int))) < 0)) (some (-1)) (lim fun n => A5 a0 n (IntKind.i64.wrap (U - (a0.length : Int))) 0)
def xO (a0 : kn) (U : Int) : Option Int :=
 (xK a0.b3 U).bind fun ag => cond (decide (ag < 0)) (some (-1)) ((A2 a0.cn ag).bind fun au => cond (decide (au < 0)) (some (-1)) ((A4 a0.g7 au).bind fun a2 => cond (decide (a2 < 0)) (some (-1)) ((xN a0.gZ a2).bind fun bj => cond (decide (bj < 0)) (some (-1)) ((xN a0.g0 bj).bind fun bp => cond (decide (bp < 0)) (some (-1)) (some bp)))))
def xP (a0 : gY) : Option bW :=
 some (bW.mk a0.Kind a0.Value)
def LL (fg : (List bW) → Int → Option ((List bW))) (a0 : List gY) (bA : List bW) (bx : Int) : Option ((List bW)) :=
 cond (decide (bx < (a0.length : Int))) ((bQ a0 bx).bind fun ag => (xP ag).bind fun au => (bQ bA bx).bind fun a2 => fg (List.set bA (Int.toNat bx) au) (IntKind.i64.wrap (bx + 1))) (some bA)
def A6 (a0 : List gY) : Nat → (List bW) → Int → Option ((List bW))
 | 0, _, _ => none
 | n + 1, bA, bx => LL (A6 a0 n) a0 bA bx
def xQ (a0 : List gY) : Option ((List bW)) :=
 (mP 16 (a0.length : Int)).bind fun _ => lim fun n => A6 a0 n (List.replicate (Int.toNat (a0.length : Int)) (bW.mk 0 0)) 0
def LM (fg : (List (List bW)) → Int → Option ((List (List bW)))) (a0 : List (List gY)) (bA : List (List bW)) (bx : Int) : Option ((List (List bW))) :=
 cond (decide (bx < (a0.length : Int))) ((bQ a0 bx).bind fun ag => (xQ ag).bind fun au => (bQ bA bx).bind fun a2 => fg (List.set bA (Int.toNat bx) au) (IntKind.i64.wrap (bx + 1))) (some bA)
def A7 (a0 : List (List gY)) : Nat → (List (List bW)) → Int → Option ((List (List bW)))
 | 0, _, _ => none
 | n + 1, bA, bx => LM (A7 a0 n) a0 bA bx
def A8 (a0 : List (List gY)) : Option ((List (List bW))) :=
 (mP 24 (a0.length : Int)).bind fun _ => lim fun n => A7 a0 n (List.replicate (Int.toNat (a0.length : Int)) []) 0
def xR (a0 : ij) : Option bE :=
 (A8 a0.cA).bind fun ag => some (bE.mk a0.Kind a0.Number a0.Name ag)
def LN (fg : (List bE) → Int → Option ((List bE))) (a0 : List ij) (bA : List bE) (bx : Int) : Option ((List bE)) :=
 cond (decide (bx < (a0.length : Int))) ((bQ a0 bx).bind fun ag => (xR ag).bind fun au => (bQ bA bx).bind fun a2 => fg (List.set bA (Int.toNat bx) au) (IntKind.i64.wrap (bx + 1))) (some bA)
def A9 (a0 : List ij) : Nat → (List bE) → Int → Option ((List bE))
 | 0, _, _ => none
 | n + 1, bA, bx => LN (A9 a0 n) a0 bA bx
def A_ (a0 : List ij) : Option ((List bE)) :=
 (mP 56 (a0.length : Int)).bind fun _ => lim fun n => A9 a0 n (List.replicate (Int.toNat (a0.length : Int)) (bE.mk 0 0 ([] : List UInt8) [])) 0
def xS (a0 : h4) : Option bg :=
 (A_ a0.Body).bind fun ag => some (bg.mk a0.Name a0.dj ag)
def LO (fg : (List bg) → Int → Option ((List bg))) (a0 : List h4) (bA : List bg) (bx : Int) : Option ((List bg)) :=
 cond (decide (bx < (a0.length : Int))) ((bQ a0 bx).bind fun ag => (xS ag).bind fun au => (bQ bA bx).bind fun a2 => fg (List.set bA (Int.toNat bx) au) (IntKind.i64.wrap (bx + 1))) (some bA)
def Ba (a0 : List h4) : Nat → (List bg) → Int → Option ((List bg))
 | 0, _, _ => none
 | n + 1, bA, bx => LO (Ba a0 n) a0 bA bx
def xT (a0 : List h4) : Option ((List bg)) :=
 (mP 48 (a0.length : Int)).bind fun _ => lim fun n => Ba a0 n (List.replicate (Int.toNat (a0.length : Int)) (bg.mk ([] : List UInt8) 0 [])) 0
def LP (fg : (List Int) → Int → Option ((List Int))) (a0 : List Int) (bA : List Int) (bx : Int) : Option ((List Int)) :=
 cond (decide (bx < (a0.length : Int))) ((bQ a0 bx).bind fun ag => (bQ bA bx).bind fun au => fg (List.set bA (Int.toNat bx) ag) (IntKind.i64.wrap (bx + 1))) (some bA)
def Bb (a0 : List Int) : Nat → (List Int) → Int → Option ((List Int))
 | 0, _, _ => none
 | n + 1, bA, bx => LP (Bb a0 n) a0 bA bx
def Bc (a0 : List Int) : Option ((List Int)) :=
 (mP 8 (a0.length : Int)).bind fun _ => lim fun n => Bb a0 n (List.replicate (Int.toNat (a0.length : Int)) 0) 0
def xU (a0 : ik) : Option dc :=
 (Bc a0.fq).bind fun ag => some (dc.mk a0.fe ag)
def LQ (fg : (List dc) → Int → Option ((List dc))) (a0 : List ik) (bA : List dc) (bx : Int) : Option ((List dc)) :=
 cond (decide (bx < (a0.length : Int))) ((bQ a0 bx).bind fun ag => (xU ag).bind fun au => (bQ bA bx).bind fun a2 => fg (List.set bA (Int.toNat bx) au) (IntKind.i64.wrap (bx + 1))) (some bA)
def Bd (a0 : List ik) : Nat → (List dc) → Int → Option ((List dc))
 | 0, _, _ => none
 | n + 1, bA, bx => LQ (Bd a0 n) a0 bA bx
def Be (a0 : List ik) : Option ((List dc)) :=
 (mP 32 (a0.length : Int)).bind fun _ => lim fun n => Bd a0 n (List.replicate (Int.toNat (a0.length : Int)) (dc.mk 0 [])) 0
def xV (a0 : h5) : Option b4 :=
 some (b4.mk a0.Left a0.ch a0.Result)
def LR (fg : (List b4) → Int → Option ((List b4))) (a0 : List h5) (bA : List b4) (bx : Int) : Option ((List b4)) :=
 cond (decide (bx < (a0.length : Int))) ((bQ a0 bx).bind fun ag => (xV ag).bind fun au => (bQ bA bx).bind fun a2 => fg (List.set bA (Int.toNat bx) au) (IntKind.i64.wrap (bx + 1))) (some bA)
def Bf (a0 : List h5) : Nat → (List b4) → Int → Option ((List b4))
 | 0, _, _ => none
 | n + 1, bA, bx => LR (Bf a0 n) a0 bA bx
def Bg (a0 : List h5) : Option ((List b4)) :=
 (mP 48 (a0.length : Int)).bind fun _ => lim fun n => Bf a0 n (List.replicate (Int.toNat (a0.length : Int)) (b4.mk ([] : List UInt8) ([] : List UInt8) ([] : List UInt8))) 0
def LS (fg : (List (List UInt8)) → Int → Option ((List (List UInt8)))) (a0 : List (List UInt8)) (bA : List (List UInt8)) (bx : Int) : Option ((List (List UInt8))) :=
 cond (decide (bx < (a0.length : Int))) ((bQ a0 bx).bind fun ag => (bQ bA bx).bind fun au => fg (List.set bA (Int.toNat bx) ag) (IntKind.i64.wrap (bx + 1))) (some bA)
def Bh (a0 : List (List UInt8)) : Nat → (List (List UInt8)) → Int → Option ((List (List UInt8)))
 | 0, _, _ => none
 | n + 1, bA, bx => LS (Bh a0 n) a0 bA bx
def xW (a0 : List (List UInt8)) : Option ((List (List UInt8))) :=
 (mP 16 (a0.length : Int)).bind fun _ => lim fun n => Bh a0 n (List.replicate (Int.toNat (a0.length : Int)) ([] : List UInt8)) 0
def ra (a0 : kn) : Option dv :=
 (xT a0.b3).bind fun ag => (Be a0.cn).bind fun au => (Bg a0.g7).bind fun a2 => (xW a0.gZ).bind fun bj => (xW a0.g0).bind fun bp => some (dv.mk ag au a2 bj bp)
def xX (a0 : UInt8) : Option Bool :=
 some ((decide (97 ≤ (a0.toNat : Int))) && (decide ((a0.toNat : Int) ≤ 122)))
def Ga (a0 : UInt8) : Option Bool :=
 some ((decide (48 ≤ (a0.toNat : Int))) && (decide ((a0.toNat : Int) ≤ 57)))
def Bi (gb : Int → Option Bool) (a0 : List UInt8) (cS : Int) : Option Bool :=
 cond (decide (cS < (a0.length : Int))) ((bQ a0 cS).bind fun a2 => (xX a2).bind fun bj => cond (!bj) ((Ga a2).bind fun bp => cond (!bp) (some false) (gb (IntKind.i64.wrap (cS + 1)))) (gb (IntKind.i64.wrap (cS + 1)))) (some true)
def vf (a0 : List UInt8) : Nat → Int → Option Bool
 | 0, _ => none
 | n + 1, cS => Bi (vf a0 n) a0 cS
def vg (a0 : List UInt8) : Option Bool :=
 cond (a0 == ([] : List UInt8)) (some false) (cond (decide (10 < (a0.length : Int))) (some false) ((bQ a0 0).bind fun ag => (xX ag).bind fun au => cond (!au) (some false) (lim fun n => vf a0 n 0)))
def lz (a0 : Int) (U : Int) (bq : Int) : Option Bool :=
 some ((decide (U ≤ a0)) && (decide (a0 ≤ bq)))
def xY (a0 : bE) (g8 : Bool) : Option Int :=
 cond g8 (some 1) (cond (a0.Kind == 2) (some 2) (some 0))
def xZ (a0 : bE) : Option Int :=
 cond (a0.Kind == 1) (xY a0 true) (cond (a0.Kind == 3) (xY a0 true) (xY a0 (a0.Kind == 4)))
def Bj (ko : Int → Int → Option Bool) (a0 : List bE) (m6 : Int) (nP : Int) : Option Bool :=
 cond (decide (nP < (a0.length : Int))) (cond (m6 == 0) (some false) ((bQ a0 nP).bind fun ag => (xZ ag).bind fun au => ko (IntKind.i64.wrap (m6 + (IntKind.i64.wrap (au - 1)))) (IntKind.i64.wrap (nP + 1)))) (some (m6 == 0))
def sG (a0 : List bE) : Nat → Int → Int → Option Bool
 | 0, _, _ => none
 | n + 1, m6, nP => Bj (sG a0 n) a0 m6 nP
def x0 (a0 : List bE) : Option Bool :=
 cond (((a0.length : Int) == 0) || (decide (20 < (a0.length : Int)))) (some false) (lim fun n => sG a0 n 1 0)
def Bk (a0 : bE) (x1 : Bool) : Option Bool :=
 cond x1 (some (((a0.Number == 0) && (a0.Name == ([] : List UInt8))) && ((a0.cA.length : Int) == 0))) (cond (a0.Kind == 1) (some (a0.Number == 0)) (cond (a0.Kind == 3) (some ((a0.Number == 0) && (a0.Name == ([] : List UInt8)))) (cond (a0.Kind == 4) (some ((a0.Name == ([] : List UInt8)) && ((a0.cA.length : Int) == 0))) (cond (a0.Kind == 5) (some (a0.Name == ([] : List UInt8))) (some false)))))
def Bl (a0 : bE) : Option Bool :=
 cond (a0.Kind == 0) (Bk a0 true) (Bk a0 (a0.Kind == 2))
def Bm (dU : Int → Int → Option Int) (a0 : List bE) (ba : Int) (aX : Int) : Option Int :=
 cond (decide (0 < aX)) ((bQ a0 ba).bind fun ag => (xZ ag).bind fun au => dU (IntKind.i64.wrap (ba + 1)) (IntKind.i64.wrap (aX + (IntKind.i64.wrap (au - 1))))) (some ba)
def sH (a0 : List bE) : Nat → Int → Int → Option Int
 | 0, _, _ => none
 | n + 1, ba, aX => Bm (sH a0 n) a0 ba aX
def Bn (a0 : List bE) (U : Int) : Option Int :=
 lim fun n => sH a0 n U 1
def x2 (fg : Int → Int → Option Int) (a0 : bg) (U : Int) (vh : Int) (vi : Int) : Option Int :=
 fg vh (IntKind.i64.wrap (vi + 1))
def Bo (fg : Int → Int → Option Int) (a0 : bg) (U : Int) (ll : Int) (kp : Int) : Option Int :=
 cond (decide (kp < U)) ((bQ a0.Body kp).bind fun ag => cond (ag.Kind == 4) ((Bn a0.Body kp).bind fun au => cond (decide (U < au)) (x2 fg a0 U (IntKind.i64.wrap (ll + 1)) kp) (x2 fg a0 U ll kp)) (x2 fg a0 U ll kp)) (some ll)
def rb (a0 : bg) (U : Int) : Nat → Int → Int → Option Int
 | 0, _, _ => none
 | n + 1, ll, kp => Bo (rb a0 U n) a0 U ll kp
def vj (a0 : bg) (U : Int) : Option Int :=
 lim fun n => rb a0 U n a0.dj 0
def Bp (a0 : bW) (U : Int) : Option Bool :=
 cond (a0.Kind == 0) ((lz a0.Value 0 63).bind fun ag => some ag) (cond (a0.Kind == 1) ((lz a0.Value 0 (IntKind.i64.wrap (U - 1))).bind fun au => some au) (cond (a0.Kind == 2) ((lz a0.Value 0 8).bind fun a2 => some a2) (cond (a0.Kind == 3) (some (a0.Value == 0)) (some false))))
def Gb (a0 : bW) : Option Int :=
 cond (a0.Kind == 2) (some 2) (cond (a0.Kind == 3) (some 1) (some 0))
def Bq (ko : Int → Int → Option Bool) (a0 : List bW) (U : Int) (g8 : Int) (m7 : Int) : Option Bool :=
 cond (decide (m7 < (a0.length : Int))) (cond (g8 == 0) (some false) ((bQ a0 m7).bind fun ag => (Bp ag U).bind fun au => cond (!au) (some false) ((Gb ag).bind fun a2 => ko (IntKind.i64.wrap (g8 + (IntKind.i64.wrap (a2 - 1)))) (IntKind.i64.wrap (m7 + 1))))) (some (g8 == 0))
def sI (a0 : List bW) (U : Int) : Nat → Int → Int → Option Bool
 | 0, _, _ => none
 | n + 1, g8, m7 => Bq (sI a0 U n) a0 U g8 m7
def Br (a0 : List bW) (U : Int) (bq : Int) : Option Bool :=
 cond (decide (bq < (a0.length : Int))) (some false) (lim fun n => sI a0 U n 1 0)
def Bs (UJ : Int → Int → Option Int) (ag : bE) (nQ : Int) (nR : Int) : Option Int :=
 cond (decide (nR < (ag.cA.length : Int))) ((bQ ag.cA nR).bind fun bj => (Br bj nQ 15).bind fun bp => cond (!bp) (some 8) (UJ nQ (IntKind.i64.wrap (nR + 1)))) (some 0)
def re (ag : bE) : Nat → Int → Int → Option Int
 | 0, _, _ => none
 | n + 1, nQ, nR => Bs (re ag n) ag nQ nR
def vk (U : bg) (bq : Int) (ag : bE) (x3 : Bool) : Option Int :=
 cond x3 (some 6) ((vj U bq).bind fun a2 => cond ((ag.Kind == 4) && (decide (6 ≤ a2))) (some 7) (lim fun n => re ag n a2 0))
def sJ (U : bg) (bq : Int) (ag : bE) : Option Int :=
 cond (ag.Kind == 5) (cond (bq == 0) (vk U bq ag true) ((bQ U.Body (IntKind.i64.wrap (bq - 1))).bind fun bU => vk U bq ag (bU.Kind != 1))) (vk U bq ag false)
def rf (a0 : List bg) (U : bg) (bq : Int) (ag : bE) (x4 : Bool) : Option Int :=
 cond x4 (some 4) (cond (ag.Kind == 1) (cond ((decide (2 < (ag.cA.length : Int))) || ((decide (0 < (ag.cA.length : Int))) && (ag.Name == ([116, 97, 117] : List UInt8)))) (some 5) (sJ U bq ag)) (cond (ag.Kind == 3) (cond ((ag.cA.length : Int) != 1) (some 5) (sJ U bq ag)) (cond (ag.Kind == 5) ((bQ a0 ag.Number).bind fun cZ => cond ((ag.cA.length : Int) != cZ.dj) (some 5) (sJ U bq ag)) (sJ U bq ag))))
def x5 (a0 : List bg) (U : bg) (bq : Int) (ag : bE) (x6 : Bool) : Option Int :=
 cond x6 (some 3) (cond (ag.Kind == 4) ((lz ag.Number 1 7).bind fun e7 => cond (!e7) (rf a0 U bq ag true) (cond (ag.Kind == 5) ((lz ag.Number 0 (IntKind.i64.wrap ((a0.length : Int) - 1))).bind fun dQ => rf a0 U bq ag (!dQ)) (rf a0 U bq ag false))) (cond (ag.Kind == 5) ((lz ag.Number 0 (IntKind.i64.wrap ((a0.length : Int) - 1))).bind fun de => rf a0 U bq ag (!de)) (rf a0 U bq ag false)))
def qb (a0 : List bg) (U : bg) (bq : Int) : Option Int :=
 (bQ U.Body bq).bind fun ag => (Bl ag).bind fun au => cond (!au) (some 2) (cond (ag.Kind == 1) ((vg ag.Name).bind fun eB => x5 a0 U bq ag (!eB)) (x5 a0 U bq ag false))
def vl (gb : Int → Option (Int × Int)) (a0 : List bg) (U : bg) (l0 : Int) : Option (Int × Int) :=
 cond (decide (l0 < (U.Body.length : Int))) ((qb a0 U l0).bind fun au => cond (decide (0 < au)) (some (l0, au)) (gb (IntKind.i64.wrap (l0 + 1)))) (some (0, 0))
def pv (a0 : List bg) (U : bg) : Nat → Int → Option (Int × Int)
 | 0, _ => none
 | n + 1, l0 => vl (pv a0 U n) a0 U l0
def rh (a0 : List bg) (U : bg) : Option (Int × Int) :=
 (x0 U.Body).bind fun ag => cond (!ag) (some (0, 1)) (lim fun n => pv a0 U n 0)
def Bt (gb : Int → Option Bool) (UK : Int → Int → Option Bool) (a0 : List bg) (l1 : Int) (m8 : Int) : Option Bool :=
 cond (decide (m8 < l1)) ((bQ a0 m8).bind fun bj => (bQ a0 l1).bind fun bp => cond (bj.Name == bp.Name) (some false) (UK l1 (IntKind.i64.wrap (m8 + 1)))) (gb (IntKind.i64.wrap (l1 + 1)))
def sK (gb : Int → Option Bool) (a0 : List bg) : Nat → Int → Int → Option Bool
 | 0, _, _ => none
 | n + 1, l1, m8 => Bt gb (sK gb a0 n) a0 l1 m8
def Bu (UL : Int → Option Bool) (a0 : List bg) (nS : Int) : Option Bool :=
 cond (decide (nS < (a0.length : Int))) ((bQ a0 nS).bind fun bU => (rh a0 bU).bind fun cZ => cond (decide (0 < cZ.2)) (some false) (UL (IntKind.i64.wrap (nS + 1)))) (some true)
def ri (a0 : List bg) : Nat → Int → Option Bool
 | 0, _ => none
 | n + 1, nS => Bu (ri a0 n) a0 nS
def Bv (gb : Int → Option Bool) (a0 : List bg) (cS : Int) : Option Bool :=
 cond (decide (cS < (a0.length : Int))) ((bQ a0 cS).bind fun ag => (vg ag.Name).bind fun au => cond (!au) (some false) ((lz ag.dj 0 3).bind fun a2 => cond (!a2) (some false) (lim fun n => sK gb a0 n cS 0))) (lim fun n => ri a0 n 0)
def nT (a0 : List bg) : Nat → Int → Option Bool
 | 0, _ => none
 | n + 1, cS => Bv (nT a0 n) a0 cS
def Bw (a0 : List bg) : Option Bool :=
 cond (((a0.length : Int) == 0) || (decide (4 < (a0.length : Int)))) (some false) (lim fun n => nT a0 n 0)
def Bx (dU : Int → Option Bool) (a0 : List Int) (iU : Int) : Option Bool :=
 cond (decide (iU < (a0.length : Int))) ((bQ a0 iU).bind fun ag => (lz ag 0 63).bind fun au => cond (!au) (some false) (dU (IntKind.i64.wrap (iU + 1)))) (some true)
def sL (a0 : List Int) : Nat → Int → Option Bool
 | 0, _ => none
 | n + 1, iU => Bx (sL a0 n) a0 iU
def Bz (a0 : List Int) : Option Bool :=
 lim fun n => sL a0 n 0
def BA (gb : Int → Option Bool) (a0 : dv) (cS : Int) : Option Bool :=
 cond (decide (cS < (a0.cn.length : Int))) ((bQ a0.cn cS).bind fun ag => (lz ag.fe 0 (IntKind.i64.wrap ((a0.b3.length : Int) - 1))).bind fun au => cond (!au) (some false) ((bQ a0.b3 ag.fe).bind fun a2 => cond ((ag.fq.length : Int) != a2.dj) (some false) ((Bz ag.fq).bind fun bj => cond (!bj) (some false) (gb (IntKind.i64.wrap (cS + 1)))))) (some true)
def sM (a0 : dv) : Nat → Int → Option Bool
 | 0, _ => none
 | n + 1, cS => BA (sM a0 n) a0 cS
def BB (a0 : dv) : Option Bool :=
 cond (((a0.cn.length : Int) == 0) || (decide (3 < (a0.cn.length : Int)))) (some false) (lim fun n => sM a0 n 0)
def sN (a0 : List UInt8) : Option Bool :=
 (vg a0).bind fun ag => some (ag && (!(a0 == ([116, 97, 117] : List UInt8))))
def x7 (gb : Int → Option Bool) (UM : Int → Int → Option Bool) (a0 : List b4) (ag : b4) (jF : Int) (jT : Int) : Option Bool :=
 cond (decide (jT < (a0.length : Int))) ((bQ a0 jT).bind fun cZ => cond ((cZ.Left == ag.Result) || (cZ.ch == ag.Result)) (some false) (UM jF (IntKind.i64.wrap (jT + 1)))) (gb (IntKind.i64.wrap (jF + 1)))
def oD (gb : Int → Option Bool) (a0 : List b4) (ag : b4) : Nat → Int → Int → Option Bool
 | 0, _, _ => none
 | n + 1, jF, jT => x7 gb (oD gb a0 ag n) a0 ag jF jT
def BC (gb : Int → Option Bool) (a0 : List b4) (cS : Int) : Option Bool :=
 cond (decide (cS < (a0.length : Int))) ((bQ a0 cS).bind fun ag => (sN ag.Left).bind fun au => cond (!au) (some false) ((sN ag.ch).bind fun a2 => cond (!a2) (some false) ((sN ag.Result).bind fun bj => cond ((!bj) || (!(Op.bytesLess ag.Left ag.ch || ag.Left == ag.ch))) (some false) (cond (decide (0 < cS)) ((bQ a0 (IntKind.i64.wrap (cS - 1))).bind fun bp => cond ((!(Op.bytesLess bp.Left ag.Left || bp.Left == ag.Left)) || ((bp.Left == ag.Left) && (!(Op.bytesLess bp.ch ag.ch)))) (some false) (lim fun n => oD gb a0 ag n cS 0)) (lim fun n => oD gb a0 ag n cS 0))))) (some true)
def lA (a0 : List b4) : Nat → Int → Option Bool
 | 0, _ => none
 | n + 1, cS => BC (lA a0 n) a0 cS
def BD (a0 : List b4) : Option Bool :=
 cond (decide (6 < (a0.length : Int))) (some false) (lim fun n => lA a0 n 0)
def BE (dU : Int → Option Bool) (a0 : List (List UInt8)) (iU : Int) : Option Bool :=
 cond (decide (iU < (a0.length : Int))) ((bQ a0 iU).bind fun ag => (sN ag).bind fun au => cond (!au) (some false) (dU (IntKind.i64.wrap (iU + 1)))) (some true)
def sO (a0 : List (List UInt8)) : Nat → Int → Option Bool
 | 0, _ => none
 | n + 1, iU => BE (sO a0 n) a0 iU
def BF (a0 : List (List UInt8)) : Option Bool :=
 lim fun n => sO a0 n 0
def x8 (gb : Int → Option Bool) (a0 : List (List UInt8)) (cS : Int) : Option Bool :=
 cond (decide (cS < (a0.length : Int))) ((bQ a0 (IntKind.i64.wrap (cS - 1))).bind fun au => (bQ a0 cS).bind fun a2 => cond (!(Op.bytesLess au a2)) (some false) (gb (IntKind.i64.wrap (cS + 1)))) (some true)
def m9 (a0 : List (List UInt8)) : Nat → Int → Option Bool
 | 0, _ => none
 | n + 1, cS => x8 (m9 a0 n) a0 cS
def x9 (a0 : List (List UInt8)) : Option Bool :=
 cond (decide (12 < (a0.length : Int))) (some false) ((BF a0).bind fun ag => cond (!ag) (some false) (lim fun n => m9 a0 n 1))
def BG (a0 : dv) : Option Int :=
 (Bw a0.b3).bind fun ag => cond (!ag) (some 1) ((BB a0).bind fun au => cond (!au) (some 2) ((BD a0.g7).bind fun a2 => cond (!a2) (some 3) ((x9 a0.gZ).bind fun bj => cond (!bj) (some 4) ((x9 a0.g0).bind fun bp => cond (!bp) (some 5) (some 0)))))
def BH (a0 : dv) : Option Bool :=
 (BG a0).bind fun ag => some (ag == 0)
def sP (lP : (List Int) → Bool → Int → Option ((List Int))) (a0 : List Int) (U : Int) (qc : List Int) (rj : Bool) (qd : Int) : Option ((List Int)) :=
 (bQ a0 qd).bind fun ag => (room 8 (qc.length + 1)).bind fun _ => lP (qc ++ [ag]) rj (IntKind.i64.wrap (qd + 1))
def BI (vm : List Int) : Option ((List Int)) :=
 some vm
def BJ (lP : (List Int) → Bool → Int → Option ((List Int))) (a0 : List Int) (U : Int) (jg : List Int) (pw : Bool) (kq : Int) : Option ((List Int)) :=
 cond (decide (kq < (a0.length : Int))) (cond (!pw) ((bQ a0 kq).bind fun au => cond (decide (U ≤ au)) (cond (decide (U < au)) ((room 8 (jg.length + 1)).bind fun _ => sP lP a0 U (jg ++ [U]) true kq) (sP lP a0 U jg true kq)) (sP lP a0 U jg false kq)) (sP lP a0 U jg true kq)) (cond (!pw) ((room 8 (jg.length + 1)).bind fun _ => BI (jg ++ [U])) (BI jg))
def qe (a0 : List Int) (U : Int) : Nat → (List Int) → Bool → Int → Option ((List Int))
 | 0, _, _, _ => none
 | n + 1, jg, pw, kq => BJ (qe a0 U n) a0 U jg pw kq
def vn (a0 : List Int) (U : Int) : Option ((List Int)) :=
 lim fun n => qe a0 U n [] false 0
def BK (a0 : List Int) : Option ((List Int)) :=
 (room 8 (a0.length)).bind fun _ => some a0
def BL (fg : (List Int) → Int → Option ((List Int))) (a0 : List bE) (vo : List Int) (vp : Int) : Option ((List Int)) :=
 fg vo (IntKind.i64.wrap (vp + 1))
def BM (fg : (List Int) → Int → Option ((List Int))) (a0 : List bE) (bA : List Int) (bx : Int) : Option ((List Int)) :=
 cond (decide (bx < (a0.length : Int))) ((bQ a0 bx).bind fun ag => cond (ag.Kind == 5) ((vn bA ag.Number).bind fun au => BL fg a0 au bx) (BL fg a0 bA bx)) (some bA)
def rk (a0 : List bE) : Nat → (List Int) → Int → Option ((List Int))
 | 0, _, _ => none
 | n + 1, bA, bx => BM (rk a0 n) a0 bA bx
def BN (a0 : List bE) : Option ((List Int)) :=
 lim fun n => rk a0 n [] 0
def BO (na : (List Int) → Option ((List Int))) (vq : (List Int) → (List Int) → Int → Option ((List Int))) (UN : (List Int) → (List Int) → Int → Int → Option ((List Int))) (a0 : dv) (bU : (List Int)) (nb : List Int) (nU : List Int) (nc : Int) (nd : Int) : Option ((List Int)) :=
 cond (decide (nd < (bU.length : Int))) ((bQ bU nd).bind fun cZ => (vn nU cZ).bind fun e7 => UN nb e7 nc (IntKind.i64.wrap (nd + 1))) (vq nb nU (IntKind.i64.wrap (nc + 1)))
def rl (na : (List Int) → Option ((List Int))) (vq : (List Int) → (List Int) → Int → Option ((List Int))) (a0 : dv) (bU : (List Int)) : Nat → (List Int) → (List Int) → Int → Int → Option ((List Int))
 | 0, _, _, _, _ => none
 | n + 1, nb, nU, nc, nd => BO na vq (rl na vq a0 bU n) a0 bU nb nU nc nd
def BP (na : (List Int) → Option ((List Int))) (vq : (List Int) → (List Int) → Int → Option ((List Int))) (a0 : dv) (lB : List Int) (mB : List Int) (nf : Int) : Option ((List Int)) :=
 cond (decide (nf < (lB.length : Int))) ((bQ lB nf).bind fun bj => (bQ a0.b3 bj).bind fun bp => (BN bp.Body).bind fun bU => lim fun n => rl na vq a0 bU n lB mB nf 0) (cond ((mB.length : Int) == (lB.length : Int)) (some lB) (na mB))
def oE (na : (List Int) → Option ((List Int))) (a0 : dv) : Nat → (List Int) → (List Int) → Int → Option ((List Int))
 | 0, _, _, _ => none
 | n + 1, lB, mB, nf => BP na (oE na a0 n) a0 lB mB nf
def x_ (na : (List Int) → Option ((List Int))) (a0 : dv) (ng : List Int) : Option ((List Int)) :=
 (BK ng).bind fun a2 => lim fun n => oE na a0 n ng a2 0
def kr (a0 : dv) : Nat → (List Int) → Option ((List Int))
 | 0, _ => none
 | n + 1, ng => x_ (kr a0 n) a0 ng
def BQ (fg : (List Int) → Int → Option ((List Int))) (a0 : dv) (bA : List Int) (bx : Int) : Option ((List Int)) :=
 cond (decide (bx < (a0.cn.length : Int))) ((bQ a0.cn bx).bind fun ag => (vn bA ag.fe).bind fun au => fg au (IntKind.i64.wrap (bx + 1))) (lim fun n => kr a0 n bA)
def sQ (a0 : dv) : Nat → (List Int) → Int → Option ((List Int))
 | 0, _, _ => none
 | n + 1, bA, bx => BQ (sQ a0 n) a0 bA bx
def ya (a0 : dv) : Option ((List Int)) :=
 lim fun n => sQ a0 n [] 0
def BR (a0 : dv) : Option ((List Int) × Int) :=
 (BH a0).bind fun ag => cond (!ag) (some ([], 1)) ((ya a0).bind fun au => some (au, 0))
def jt (a0 : Int) (U : Int) (bq : Int) : Option Bool :=
 some ((decide (U ≤ a0)) && (decide (a0 ≤ bq)))
def Gc (a0 : bg) : Option Bool :=
 (jt a0.dj 0 3).bind fun ag => some (!ag)
def BS (dU : Int → Option Int) (a0 : List bg) (cG : Int) : Option Int :=
 cond (decide (cG < (a0.length : Int))) ((bQ a0 cG).bind fun ag => (Gc ag).bind fun au => cond au (some cG) (dU (IntKind.i64.wrap (cG + 1)))) (some (-1))
def vr (a0 : List bg) : Nat → Int → Option Int
 | 0, _ => none
 | n + 1, cG => BS (vr a0 n) a0 cG
def Gd (a0 : List bg) : Option Int :=
 lim fun n => vr a0 n 0
def Ge (a0 : List bg) : Option Bool :=
 (Gd a0).bind fun ag => some (decide (0 ≤ ag))
def BT (a0 : List bg) : Option Bool :=
 (Ge a0).bind fun ag => some (!ag)
def Gf (a0 : UInt8) : Option Bool :=
 some ((decide (48 ≤ (a0.toNat : Int))) && (decide ((a0.toNat : Int) ≤ 57)))
def yb (dU : Int → Option Bool) (a0 : List UInt8) (eF : Int) : Option Bool :=
 cond (decide (eF < (a0.length : Int))) ((bQ a0 eF).bind fun ag => cond (!((decide (97 ≤ (ag.toNat : Int))) && (decide ((ag.toNat : Int) ≤ 122)))) (cond (eF == 0) (some false) ((Gf ag).bind fun au => cond (!au) (some false) (dU (IntKind.i64.wrap (eF + 1))))) (dU (IntKind.i64.wrap (eF + 1)))) (some ((decide (1 ≤ (a0.length : Int))) && (decide ((a0.length : Int) ≤ 10))))
def qf (a0 : List UInt8) : Nat → Int → Option Bool
 | 0, _ => none
 | n + 1, eF => yb (qf a0 n) a0 eF
def yc (a0 : List UInt8) : Option Bool :=
 lim fun n => qf a0 n 0
def Gg (a0 : bg) (U : List UInt8) : Option Bool :=
 some (a0.Name == U)
def BU (dU : Int → Option Int) (a0 : List bg) (U : List UInt8) (cG : Int) : Option Int :=
 cond (decide (cG < (a0.length : Int))) ((bQ a0 cG).bind fun ag => (Gg ag U).bind fun au => cond au (some cG) (dU (IntKind.i64.wrap (cG + 1)))) (some (-1))
def vt (a0 : List bg) (U : List UInt8) : Nat → Int → Option Int
 | 0, _ => none
 | n + 1, cG => BU (vt a0 U n) a0 U cG
def Gh (a0 : List bg) (U : List UInt8) : Option Int :=
 lim fun n => vt a0 U n 0
def BV (a0 : List bg) (U : List UInt8) : Option Int :=
 (Gh a0 U).bind fun ag => some ag
def yd (a0 : bE) (dp : Bool) : Option Int :=
 cond dp (some 1) (cond (a0.Kind == 2) (some 2) (some 0))
def ye (a0 : bE) : Option Int :=
 cond (a0.Kind == 1) (yd a0 true) (cond (a0.Kind == 3) (yd a0 true) (yd a0 (a0.Kind == 4)))
def BW (dU : Int → Int → Option Int) (a0 : bg) (ba : Int) (aX : Int) : Option Int :=
 cond (decide (0 < aX)) (cond (decide ((a0.Body.length : Int) ≤ ba)) (some (-1)) ((bQ a0.Body ba).bind fun ag => (ye ag).bind fun au => dU (IntKind.i64.wrap (ba + 1)) (IntKind.i64.wrap (aX + (IntKind.i64.wrap (au - 1)))))) (some ba)
def sR (a0 : bg) : Nat → Int → Int → Option Int
 | 0, _, _ => none
 | n + 1, ba, aX => BW (sR a0 n) a0 ba aX
def BX (a0 : bg) (U : Int) : Option Int :=
 lim fun n => sR a0 n U 1
def BZ (lC : Int → cx → (List cx) → bg → Option (Int × (List cx))) (na : (List cx) → Int → Int → Option (Int × (List cx))) (a3 : bg) (ks : Int) (au : bE) (a2 : Int) (oF : List cx) (nh : Int) (nV : Int) : Option (Int × (List cx)) :=
 cond (decide (nV < a2)) ((lC nh (cx.mk ks (au.Kind == 1)) oF a3).bind fun bj => na bj.2 bj.1 (IntKind.i64.wrap (nV + 1))) (some (nh, oF))
def rm (lC : Int → cx → (List cx) → bg → Option (Int × (List cx))) (a3 : bg) (ks : Int) (au : bE) (a2 : Int) : Nat → (List cx) → Int → Int → Option (Int × (List cx))
 | 0, _, _, _ => none
 | n + 1, oF, nh, nV => BZ lC (rm lC a3 ks au a2 n) a3 ks au a2 oF nh nV
def B0 (lC : Int → cx → (List cx) → bg → Option (Int × (List cx))) (a0 : Int) (U : cx) (bq : List cx) (a3 : bg) (au : bE) (ks : Int) : Option (Int × (List cx)) :=
 (ye au).bind fun a2 => lim fun n => rm lC a3 ks au a2 n (List.set bq (Int.toNat a0) U) (IntKind.i64.wrap (a0 + 1)) 0
def Gi (lC : Int → cx → (List cx) → bg → Option (Int × (List cx))) (a0 : Int) (U : cx) (bq : List cx) (a3 : bg) : Option (Int × (List cx)) :=
 (bQ bq a0).bind fun ag => (bQ a3.Body a0).bind fun au => cond (au.Kind == 4) (B0 lC a0 U bq a3 au (IntKind.i64.wrap (U.scope + 1))) (B0 lC a0 U bq a3 au U.scope)
def sS : Nat → Int → cx → (List cx) → bg → Option (Int × (List cx))
 | 0, _, _, _, _ => none
 | n + 1, a0, U, bq, a3 => Gi (sS n) a0 U bq a3
def B1 (a0 : Int) (U : cx) (bq : List cx) (a3 : bg) : Option (Int × (List cx)) :=
 lim fun n => sS n a0 U bq a3
def B2 (a0 : bg) : Option ((List cx)) :=
 (mP 16 (a0.Body.length : Int)).bind fun _ => (B1 0 (cx.mk a0.dj false) (List.replicate (Int.toNat (a0.Body.length : Int)) (cx.mk 0 false)) a0).bind fun ag => some ag.2
def Gj (a0 : bE) : Option Bool :=
 (jt a0.Kind 0 5).bind fun ag => some (((ag && (((a0.Kind == 4) || (a0.Kind == 5)) || (a0.Number == 0))) && ((a0.Kind == 1) || (a0.Name == ([] : List UInt8)))) && ((((a0.Kind == 1) || (a0.Kind == 3)) || (a0.Kind == 5)) || ((a0.cA.length : Int) == 0)))
def qg (a0 : List UInt8) : Option Bool :=
 (yc a0).bind fun ag => some (ag && (!(a0 == ([116, 97, 117] : List UInt8))))
def vu (a0 : Int) (U : Int) : Option Bool :=
 (jt a0 0 (IntKind.i64.wrap (U - 1))).bind fun ag => some ag
def Gk (a0 : bE) (U : List bg) : Option Bool :=
 cond (a0.Kind == 1) (some (((a0.cA.length : Int) == 0) || ((!(a0.Name == ([116, 97, 117] : List UInt8))) && (decide ((a0.cA.length : Int) ≤ 2))))) (cond (a0.Kind == 3) (some ((a0.cA.length : Int) == 1)) (cond (a0.Kind == 5) ((bQ U a0.Number).bind fun ag => some ((a0.cA.length : Int) == ag.dj)) (some true)))
def yf (a0 : Int) : Option Bool :=
 (jt a0 0 63).bind fun ag => some ag
def B3 (a0 : bW) (U : Int) : Option Bool :=
 cond (a0.Kind == 0) ((yf a0.Value).bind fun ag => some ag) (cond (a0.Kind == 1) ((jt a0.Value 0 (IntKind.i64.wrap (U - 1))).bind fun au => some au) (cond (a0.Kind == 2) ((jt a0.Value 0 8).bind fun a2 => some a2) (cond (a0.Kind == 3) (some (a0.Value == 0)) (some false))))
def Gl (a0 : bW) : Option Int :=
 cond (a0.Kind == 2) (some 2) (cond (a0.Kind == 3) (some 1) (some 0))
def B4 (ko : Int → Int → Option Bool) (a0 : List bW) (U : Int) (g8 : Int) (ni : Int) : Option Bool :=
 cond (decide (ni < (a0.length : Int))) ((bQ a0 ni).bind fun bj => cond (g8 == 0) (some false) ((B3 bj U).bind fun bp => cond (!bp) (some false) ((Gl bj).bind fun bU => ko (IntKind.i64.wrap (g8 + (IntKind.i64.wrap (bU - 1)))) (IntKind.i64.wrap (ni + 1))))) (some (g8 == 0))
def sT (a0 : List bW) (U : Int) : Nat → Int → Int → Option Bool
 | 0, _, _ => none
 | n + 1, g8, ni => B4 (sT a0 U n) a0 U g8 ni
def B5 (a0 : List bW) (U : Int) (bq : Int) : Option Bool :=
 (jt U 0 29).bind fun ag => cond (!ag) (some false) ((jt bq 1 60).bind fun au => cond (!au) (some false) ((jt (a0.length : Int) 1 bq).bind fun a2 => cond (!a2) (some false) (lim fun n => sT a0 U n 1 0)))
def Gm (a0 : List bW) (U : cx) : Option Bool :=
 (B5 a0 U.scope 15).bind fun ag => some (!ag)
def B6 (dU : Int → Option Int) (a0 : List (List bW)) (U : cx) (cG : Int) : Option Int :=
 cond (decide (cG < (a0.length : Int))) ((bQ a0 cG).bind fun ag => (Gm ag U).bind fun au => cond au (some cG) (dU (IntKind.i64.wrap (cG + 1)))) (some (-1))
def vv (a0 : List (List bW)) (U : cx) : Nat → Int → Option Int
 | 0, _ => none
 | n + 1, cG => B6 (vv a0 U n) a0 U cG
def Gn (a0 : List (List bW)) (U : cx) : Option Int :=
 lim fun n => vv a0 U n 0
def B7 (a0 : List (List bW)) (U : cx) : Option Bool :=
 (Gn a0 U).bind fun ag => some (decide (0 ≤ ag))
def sU (a0 : bE) (U : List bg) (bq : cx) (yg : Bool) : Option Int :=
 cond yg (some 4) ((Gk a0 U).bind fun au => cond (!au) (some 5) (cond ((a0.Kind == 5) && (!bq.behind)) (some 6) (cond ((a0.Kind == 4) && (decide (6 ≤ bq.scope))) (some 7) ((B7 a0.cA bq).bind fun a2 => cond a2 (some 8) (some 0)))))
def yh (a0 : bE) (U : List bg) (bq : cx) (yi : Bool) : Option Int :=
 cond yi (some 3) (cond (a0.Kind == 4) ((jt a0.Number 1 7).bind fun bj => cond (!bj) (sU a0 U bq true) (cond (a0.Kind == 5) ((vu a0.Number (U.length : Int)).bind fun bp => sU a0 U bq (!bp)) (sU a0 U bq false))) (cond (a0.Kind == 5) ((vu a0.Number (U.length : Int)).bind fun bU => sU a0 U bq (!bU)) (sU a0 U bq false)))
def yj (a0 : bE) (U : List bg) (bq : cx) : Option Int :=
 (Gj a0).bind fun ag => cond (!ag) (some 2) (cond (a0.Kind == 1) (cond (!(a0.Name == ([116, 97, 117] : List UInt8))) ((qg a0.Name).bind fun cZ => yh a0 U bq (!cZ)) (yh a0 U bq false)) (yh a0 U bq false))
def yk (ko : Int → Option (Int × Int)) (a0 : List bg) (U : bg) (a2 : (List cx)) (ln : Int) : Option (Int × Int) :=
 cond (decide (ln < (U.Body.length : Int))) ((bQ U.Body ln).bind fun bj => (bQ a2 ln).bind fun bp => (yj bj a0 bp).bind fun bU => cond (bU != 0) (some (ln, bU)) (ko (IntKind.i64.wrap (ln + 1)))) (some (0, 0))
def rn (a0 : List bg) (U : bg) (a2 : (List cx)) : Nat → Int → Option (Int × Int)
 | 0, _ => none
 | n + 1, ln => yk (rn a0 U a2 n) a0 U a2 ln
def yl (a0 : List bg) (U : bg) : Option (Int × Int) :=
 (jt (U.Body.length : Int) 1 20).bind fun ag => cond (!ag) (some (0, 1)) ((BX U 0).bind fun au => cond (au != (U.Body.length : Int)) (some (0, 1)) ((B2 U).bind fun a2 => lim fun n => rn a0 U a2 n 0))
def B8 (gb : Int → Option Bool) (a0 : List bg) (l3 : Int) : Option Bool :=
 cond (decide (l3 < (a0.length : Int))) ((bQ a0 l3).bind fun a2 => (yc a2.Name).bind fun bj => cond (!bj) (some false) ((jH a0 0 l3).bind fun bp => (BV bp a2.Name).bind fun bU => cond (decide (0 ≤ bU)) (some false) ((yl a0 a2).bind fun cZ => cond (cZ.2 != 0) (some false) (gb (IntKind.i64.wrap (l3 + 1)))))) (some true)
def sV (a0 : List bg) : Nat → Int → Option Bool
 | 0, _ => none
 | n + 1, l3 => B8 (sV a0 n) a0 l3
def B9 (a0 : List bg) : Option Bool :=
 (jt (a0.length : Int) 1 4).bind fun ag => cond (!ag) (some false) ((BT a0).bind fun au => cond (!au) (some false) (lim fun n => sV a0 n 0))
def Gp (a0 : Int) : Option Bool :=
 (yf a0).bind fun ag => some (!ag)
def B_ (dU : Int → Option Int) (a0 : List Int) (cG : Int) : Option Int :=
 cond (decide (cG < (a0.length : Int))) ((bQ a0 cG).bind fun ag => (Gp ag).bind fun au => cond au (some cG) (dU (IntKind.i64.wrap (cG + 1)))) (some (-1))
def vw (a0 : List Int) : Nat → Int → Option Int
 | 0, _ => none
 | n + 1, cG => B_ (vw a0 n) a0 cG
def Gq (a0 : List Int) : Option Int :=
 lim fun n => vw a0 n 0
def Gr (a0 : List Int) : Option Bool :=
 (Gq a0).bind fun ag => some (decide (0 ≤ ag))
def Ca (a0 : List Int) : Option Bool :=
 (Gr a0).bind fun ag => some (!ag)
def Cb (a0 : List bg) (U : dc) : Option Bool :=
 (vu U.fe (a0.length : Int)).bind fun ag => cond ag ((bQ a0 U.fe).bind fun au => cond ((U.fq.length : Int) == au.dj) ((Ca U.fq).bind fun a2 => some a2) (some false)) (some false)
def Gs (a0 : dc) (U : dv) : Option Bool :=
 (Cb U.b3 a0).bind fun ag => some (!ag)
def Cc (dU : Int → Option Int) (a0 : List dc) (U : dv) (cG : Int) : Option Int :=
 cond (decide (cG < (a0.length : Int))) ((bQ a0 cG).bind fun ag => (Gs ag U).bind fun au => cond au (some cG) (dU (IntKind.i64.wrap (cG + 1)))) (some (-1))
def vx (a0 : List dc) (U : dv) : Nat → Int → Option Int
 | 0, _ => none
 | n + 1, cG => Cc (vx a0 U n) a0 U cG
def Gt (a0 : List dc) (U : dv) : Option Int :=
 lim fun n => vx a0 U n 0
def Cd (a0 : List dc) (U : dv) : Option Bool :=
 (Gt a0 U).bind fun ag => some (decide (0 ≤ ag))
def cmp_isNaN_string (a0 : List UInt8) : Option Bool :=
 some false
def Ce (a0 : List UInt8) (U : List UInt8) : Option Int :=
 (cmp_isNaN_string a0).bind fun ag => (cmp_isNaN_string U).bind fun au => cond ag (cond au (some 0) (some (-1))) (cond au (some 1) (cond (Op.bytesLess a0 U) (some (-1)) (cond (!(Op.bytesLess a0 U || a0 == U)) (some 1) (some 0))))
def Gu (dU : Int → Option Int) (a0 : List (List UInt8)) (U : List (List UInt8)) (mC : Int) : Option Int :=
 cond (decide (mC < (a0.length : Int))) ((bQ a0 mC).bind fun ag => cond (decide ((U.length : Int) ≤ mC)) (some 1) ((bQ U mC).bind fun au => (Ce ag au).bind fun a2 => cond (a2 != 0) (some a2) (dU (IntKind.i64.wrap (mC + 1))))) (cond (decide ((a0.length : Int) < (U.length : Int))) (some (-1)) (some 0))
def ym (a0 : List (List UInt8)) (U : List (List UInt8)) : Nat → Int → Option Int
 | 0, _ => none
 | n + 1, mC => Gu (ym a0 U n) a0 U mC
def Cf (a0 : List (List UInt8)) (U : List (List UInt8)) : Option Int :=
 lim fun n => ym a0 U n 0
def Cg (a0 : b4) (U : b4) : Option Int :=
 (Cf [a0.Left, a0.ch] [U.Left, U.ch]).bind fun ag => some ag
def Gv (a0 : b4) (U : b4) : Option Bool :=
 some ((a0.Left == U.Result) || (a0.ch == U.Result))
def Ch (dU : Int → Option Int) (a0 : List b4) (U : b4) (cG : Int) : Option Int :=
 cond (decide (cG < (a0.length : Int))) ((bQ a0 cG).bind fun ag => (Gv ag U).bind fun au => cond au (some cG) (dU (IntKind.i64.wrap (cG + 1)))) (some (-1))
def vy (a0 : List b4) (U : b4) : Nat → Int → Option Int
 | 0, _ => none
 | n + 1, cG => Ch (vy a0 U n) a0 U cG
def Gw (a0 : List b4) (U : b4) : Option Int :=
 lim fun n => vy a0 U n 0
def yn (a0 : List b4) (U : b4) : Option Bool :=
 (Gw a0 U).bind fun ag => some (decide (0 ≤ ag))
def Ci (dU : Int → Option Bool) (a0 : List b4) (eF : Int) : Option Bool :=
 cond (decide (eF < (a0.length : Int))) ((bQ a0 eF).bind fun ag => (qg ag.Left).bind fun bp => cond (!bp) (some false) ((qg ag.ch).bind fun bU => cond (!bU) (some false) ((qg ag.Result).bind fun cZ => cond (!cZ) (some false) (cond (!(Op.bytesLess ag.Left ag.ch || ag.Left == ag.ch)) (some false) (cond (decide (0 < eF)) ((bQ a0 (IntKind.i64.wrap (eF - 1))).bind fun e7 => (Cg e7 ag).bind fun dQ => cond (decide (0 ≤ dQ)) (some false) ((yn a0 ag).bind fun de => cond de (some false) (dU (IntKind.i64.wrap (eF + 1))))) ((yn a0 ag).bind fun eB => cond eB (some false) (dU (IntKind.i64.wrap (eF + 1))))))))) (some (decide ((a0.length : Int) ≤ 6)))
def sW (a0 : List b4) : Nat → Int → Option Bool
 | 0, _ => none
 | n + 1, eF => Ci (sW a0 n) a0 eF
def Cj (a0 : List b4) : Option Bool :=
 lim fun n => sW a0 n 0
def Ck (dU : Int → Option Bool) (a0 : List (List UInt8)) (eF : Int) : Option Bool :=
 cond (decide (eF < (a0.length : Int))) ((bQ a0 eF).bind fun ag => (qg ag).bind fun au => cond (!au) (some false) (cond (decide (0 < eF)) ((bQ a0 (IntKind.i64.wrap (eF - 1))).bind fun a2 => cond (Op.bytesLess ag a2 || ag == a2) (some false) (dU (IntKind.i64.wrap (eF + 1)))) (dU (IntKind.i64.wrap (eF + 1))))) (some (decide ((a0.length : Int) ≤ 12)))
def sX (a0 : List (List UInt8)) : Nat → Int → Option Bool
 | 0, _ => none
 | n + 1, eF => Ck (sX a0 n) a0 eF
def yo (a0 : List (List UInt8)) : Option Bool :=
 lim fun n => sX a0 n 0
def Cl (a0 : dv) : Option Int :=
 (B9 a0.b3).bind fun ag => cond (!ag) (some 1) ((jt (a0.cn.length : Int) 1 3).bind fun au => cond (!au) (some 2) ((Cd a0.cn a0).bind fun a2 => cond a2 (some 2) ((Cj a0.g7).bind fun bj => cond (!bj) (some 3) ((yo a0.gZ).bind fun bp => cond (!bp) (some 4) ((yo a0.g0).bind fun bU => cond (!bU) (some 5) (some 0))))))
def Cm (a0 : dv) : Option Bool :=
 (Cl a0).bind fun ag => some (ag == 0)
def sY (a0 : List Int) : Option (List Int) := if a0.length < 4611686018427387904 then some (a0.mergeSort fun x y => decide (x ≤ y)) else none
def vz (a0 : List Int) : Option (List Int) := some (kX none a0)
def Cn (fg : (List Int) → Int → Option ((List Int))) (a0 : bg) (vA : List Int) (vB : Int) : Option ((List Int)) :=
 fg vA (IntKind.i64.wrap (vB + 1))
def Co (fg : (List Int) → Int → Option ((List Int))) (a0 : bg) (bA : List Int) (l4 : Int) : Option ((List Int)) :=
 cond (decide (l4 < (a0.Body.length : Int))) ((bQ a0.Body l4).bind fun ag => cond (ag.Kind == 5) ((room 8 (bA.length + 1)).bind fun _ => Cn fg a0 (bA ++ [ag.Number]) l4) (Cn fg a0 bA l4)) ((sY bA).bind fun au => (vz au).bind fun a2 => some a2)
def rp (a0 : bg) : Nat → (List Int) → Int → Option ((List Int))
 | 0, _, _ => none
 | n + 1, bA, l4 => Co (rp a0 n) a0 bA l4
def Cp (a0 : bg) : Option ((List Int)) :=
 lim fun n => rp a0 n [] 0
def Cq (dU : Int → Option Int) (a0 : List Int) (U : Int) (cG : Int) : Option Int :=
 cond (decide (cG < (a0.length : Int))) ((bQ a0 cG).bind fun ag => cond (U == ag) (some cG) (dU (IntKind.i64.wrap (cG + 1)))) (some (-1))
def vC (a0 : List Int) (U : Int) : Nat → Int → Option Int
 | 0, _ => none
 | n + 1, cG => Cq (vC a0 U n) a0 U cG
def Gx (a0 : List Int) (U : Int) : Option Int :=
 lim fun n => vC a0 U n 0
def Cr (a0 : List Int) (U : Int) : Option Bool :=
 (Gx a0 U).bind fun ag => some (decide (0 ≤ ag))
def Cs (qh : (List Int) → Int → Option ((List Int))) (Ct : (List Int) → Int → Int → Option ((List Int))) (a0 : dv) (bj : (List Int)) (vD : List Int) (vE : Int) (vF : Int) : Option ((List Int)) :=
 Ct vD vE (IntKind.i64.wrap (vF + 1))
def Cu (qh : (List Int) → Int → Option ((List Int))) (Ct : (List Int) → Int → Int → Option ((List Int))) (a0 : dv) (bj : (List Int)) (kt : List Int) (lD : Int) (lE : Int) : Option ((List Int)) :=
 cond (decide (lE < (bj.length : Int))) ((bQ bj lE).bind fun bp => (Cr kt bp).bind fun bU => cond (!bU) ((room 8 (kt.length + 1)).bind fun _ => Cs qh Ct a0 bj (kt ++ [bp]) lD lE) (Cs qh Ct a0 bj kt lD lE)) (qh kt (IntKind.i64.wrap (lD + 1)))
def qi (qh : (List Int) → Int → Option ((List Int))) (a0 : dv) (bj : (List Int)) : Nat → (List Int) → Int → Int → Option ((List Int))
 | 0, _, _, _ => none
 | n + 1, kt, lD, lE => Cu qh (qi qh a0 bj n) a0 bj kt lD lE
def Cv (qh : (List Int) → Int → Option ((List Int))) (a0 : dv) (l5 : List Int) (nj : Int) : Option ((List Int)) :=
 cond (decide (nj < (l5.length : Int))) ((bQ l5 nj).bind fun au => (bQ a0.b3 au).bind fun a2 => (Cp a2).bind fun bj => lim fun n => qi qh a0 bj n l5 nj 0) ((sY l5).bind fun cZ => (vz cZ).bind fun e7 => some e7)
def l6 (a0 : dv) : Nat → (List Int) → Int → Option ((List Int))
 | 0, _, _ => none
 | n + 1, l5, nj => Cv (l6 a0 n) a0 l5 nj
def Cw (fg : (List Int) → Int → Option ((List Int))) (a0 : dv) (bA : List Int) (mD : Int) : Option ((List Int)) :=
 cond (decide (mD < (a0.cn.length : Int))) ((bQ a0.cn mD).bind fun ag => (room 8 (bA.length + 1)).bind fun _ => fg (bA ++ [ag.fe]) (IntKind.i64.wrap (mD + 1))) (lim fun n => l6 a0 n bA 0)
def sZ (a0 : dv) : Nat → (List Int) → Int → Option ((List Int))
 | 0, _, _ => none
 | n + 1, bA, mD => Cw (sZ a0 n) a0 bA mD
def yp (a0 : dv) : Option ((List Int)) :=
 lim fun n => sZ a0 n [] 0
def yq (a0 : dv) : Option ((List Int) × Int) :=
 (Cm a0).bind fun ag => cond (!ag) (some ([], 1)) ((yp a0).bind fun au => some (au, 0))
def LU (gb : Int → Option Bool) (a0 : List Int) (U : List Int) (ck : Int) : Option Bool :=
 cond (decide (ck < (a0.length : Int))) ((bQ a0 ck).bind fun ag => (bQ U ck).bind fun au => cond (ag != au) (some false) (gb (IntKind.i64.wrap (ck + 1)))) (some true)
def Cx (a0 : List Int) (U : List Int) : Nat → Int → Option Bool
 | 0, _ => none
 | n + 1, ck => LU (Cx a0 U n) a0 U ck
def s0 (a0 : List Int) (U : List Int) : Option Bool :=
 cond ((a0.length : Int) != (U.length : Int)) (some false) (lim fun n => Cx a0 U n 0)
def yr (a0 : bW) (U : bW) : Option Bool :=
 cond (a0.Kind != U.Kind) (some false) (cond (a0.Value != U.Value) (some false) (some true))
def LV (gb : Int → Option Bool) (a0 : List bW) (U : List bW) (ck : Int) : Option Bool :=
 cond (decide (ck < (a0.length : Int))) ((bQ a0 ck).bind fun ag => (bQ U ck).bind fun au => (yr ag au).bind fun a2 => cond (!a2) (some false) (gb (IntKind.i64.wrap (ck + 1)))) (some true)
def Cy (a0 : List bW) (U : List bW) : Nat → Int → Option Bool
 | 0, _ => none
 | n + 1, ck => LV (Cy a0 U n) a0 U ck
def ys (a0 : List bW) (U : List bW) : Option Bool :=
 cond ((a0.length : Int) != (U.length : Int)) (some false) (lim fun n => Cy a0 U n 0)
def LW (gb : Int → Option Bool) (a0 : List (List bW)) (U : List (List bW)) (ck : Int) : Option Bool :=
 cond (decide (ck < (a0.length : Int))) ((bQ a0 ck).bind fun ag => (bQ U ck).bind fun au => (ys ag au).bind fun a2 => cond (!a2) (some false) (gb (IntKind.i64.wrap (ck + 1)))) (some true)
def Cz (a0 : List (List bW)) (U : List (List bW)) : Nat → Int → Option Bool
 | 0, _ => none
 | n + 1, ck => LW (Cz a0 U n) a0 U ck
def CA (a0 : List (List bW)) (U : List (List bW)) : Option Bool :=
 cond ((a0.length : Int) != (U.length : Int)) (some false) (lim fun n => Cz a0 U n 0)
def yt (a0 : bE) (U : bE) : Option Bool :=
 cond (a0.Kind != U.Kind) (some false) (cond (a0.Number != U.Number) (some false) (cond (!(a0.Name == U.Name)) (some false) ((CA a0.cA U.cA).bind fun ag => cond (!ag) (some false) (some true))))
def LX (gb : Int → Option Bool) (a0 : List bE) (U : List bE) (ck : Int) : Option Bool :=
 cond (decide (ck < (a0.length : Int))) ((bQ a0 ck).bind fun ag => (bQ U ck).bind fun au => (yt ag au).bind fun a2 => cond (!a2) (some false) (gb (IntKind.i64.wrap (ck + 1)))) (some true)
def CB (a0 : List bE) (U : List bE) : Nat → Int → Option Bool
 | 0, _ => none
 | n + 1, ck => LX (CB a0 U n) a0 U ck
def CC (a0 : List bE) (U : List bE) : Option Bool :=
 cond ((a0.length : Int) != (U.length : Int)) (some false) (lim fun n => CB a0 U n 0)
def yu (a0 : bg) (U : bg) : Option Bool :=
 cond (!(a0.Name == U.Name)) (some false) (cond (a0.dj != U.dj) (some false) ((CC a0.Body U.Body).bind fun ag => cond (!ag) (some false) (some true)))
def LY (gb : Int → Option Bool) (a0 : List bg) (U : List bg) (ck : Int) : Option Bool :=
 cond (decide (ck < (a0.length : Int))) ((bQ a0 ck).bind fun ag => (bQ U ck).bind fun au => (yu ag au).bind fun a2 => cond (!a2) (some false) (gb (IntKind.i64.wrap (ck + 1)))) (some true)
def CD (a0 : List bg) (U : List bg) : Nat → Int → Option Bool
 | 0, _ => none
 | n + 1, ck => LY (CD a0 U n) a0 U ck
def yv (a0 : List bg) (U : List bg) : Option Bool :=
 cond ((a0.length : Int) != (U.length : Int)) (some false) (lim fun n => CD a0 U n 0)
def yw (a0 : dc) (U : dc) : Option Bool :=
 cond (a0.fe != U.fe) (some false) ((s0 a0.fq U.fq).bind fun ag => cond (!ag) (some false) (some true))
def LZ (gb : Int → Option Bool) (a0 : List dc) (U : List dc) (ck : Int) : Option Bool :=
 cond (decide (ck < (a0.length : Int))) ((bQ a0 ck).bind fun ag => (bQ U ck).bind fun au => (yw ag au).bind fun a2 => cond (!a2) (some false) (gb (IntKind.i64.wrap (ck + 1)))) (some true)
def CE (a0 : List dc) (U : List dc) : Nat → Int → Option Bool
 | 0, _ => none
 | n + 1, ck => LZ (CE a0 U n) a0 U ck
def CF (a0 : List dc) (U : List dc) : Option Bool :=
 cond ((a0.length : Int) != (U.length : Int)) (some false) (lim fun n => CE a0 U n 0)
def yx (a0 : b4) (U : b4) : Option Bool :=
 cond (!(a0.Left == U.Left)) (some false) (cond (!(a0.ch == U.ch)) (some false) (cond (!(a0.Result == U.Result)) (some false) (some true)))
def L0 (gb : Int → Option Bool) (a0 : List b4) (U : List b4) (ck : Int) : Option Bool :=
 cond (decide (ck < (a0.length : Int))) ((bQ a0 ck).bind fun ag => (bQ U ck).bind fun au => (yx ag au).bind fun a2 => cond (!a2) (some false) (gb (IntKind.i64.wrap (ck + 1)))) (some true)
def CG (a0 : List b4) (U : List b4) : Nat → Int → Option Bool
 | 0, _ => none
 | n + 1, ck => L0 (CG a0 U n) a0 U ck
def CH (a0 : List b4) (U : List b4) : Option Bool :=
 cond ((a0.length : Int) != (U.length : Int)) (some false) (lim fun n => CG a0 U n 0)
def L1 (gb : Int → Option Bool) (a0 : List (List UInt8)) (U : List (List UInt8)) (ck : Int) : Option Bool :=
 cond (decide (ck < (a0.length : Int))) ((bQ a0 ck).bind fun ag => (bQ U ck).bind fun au => cond (!(ag == au)) (some false) (gb (IntKind.i64.wrap (ck + 1)))) (some true)
def CI (a0 : List (List UInt8)) (U : List (List UInt8)) : Nat → Int → Option Bool
 | 0, _ => none
 | n + 1, ck => L1 (CI a0 U n) a0 U ck
def yy (a0 : List (List UInt8)) (U : List (List UInt8)) : Option Bool :=
 cond ((a0.length : Int) != (U.length : Int)) (some false) (lim fun n => CI a0 U n 0)
def yz (a0 : dv) (U : dv) : Option Bool :=
 (yv a0.b3 U.b3).bind fun ag => cond (!ag) (some false) ((CF a0.cn U.cn).bind fun au => cond (!au) (some false) ((CH a0.g7 U.g7).bind fun a2 => cond (!a2) (some false) ((yy a0.gZ U.gZ).bind fun bj => cond (!bj) (some false) ((yy a0.g0 U.g0).bind fun bp => cond (!bp) (some false) (some true)))))
def yA (gb : Int → (List UInt8) → Option ((List UInt8))) (jU : Int) (cS : List UInt8) : Option ((List UInt8)) :=
 cond (decide (0 < jU)) ((o4 (1 + cS.length)).bind fun _ => gb (IntKind.i64.wrap (Int.tdiv jU 10)) ([(pO (IntKind.i64.wrap (48 + (Int.tmod jU 10))))] ++ cS)) ((o4 (1 + cS.length)).bind fun _ => some (([109] : List UInt8) ++ cS))
def rq : Nat → Int → (List UInt8) → Option ((List UInt8))
 | 0, _, _ => none
 | n + 1, jU, cS => yA (rq n) jU cS
def qj (a0 : Int) : Option ((List UInt8)) :=
 cond (decide (a0 ≤ 0)) (some ([109, 48] : List UInt8)) (lim fun n => rq n a0 ([] : List UInt8))
def CJ (dU : (List bW) → Int → Int → Option (Int × (List bW))) (bN : List bW) (ba : Int) (aX : Int) : Option (Int × (List bW)) :=
 cond (decide (aX < (bN.length : Int))) ((bQ bN aX).bind fun ag => (bQ (List.set bN (Int.toNat aX) (bW.mk ba ag.Value)) aX).bind fun au => dU (List.set (List.set bN (Int.toNat aX) (bW.mk ba ag.Value)) (Int.toNat aX) (bW.mk au.Kind (IntKind.i64.wrap (ba + 1)))) (IntKind.i64.wrap ((IntKind.i64.wrap (ba + 1)) + 1)) (IntKind.i64.wrap (aX + 1))) (some (ba, bN))
def s3 : Nat → (List bW) → Int → Int → Option (Int × (List bW))
 | 0, _, _, _ => none
 | n + 1, bN, ba, aX => CJ (s3 n) bN ba aX
def CK (a0 : List bW) (U : Int) : Option (Int × (List bW)) :=
 lim fun n => s3 n a0 U 0
def CL (dU : (List (List bW)) → Int → Int → Option (Int × (List (List bW)))) (bN : List (List bW)) (ba : Int) (aX : Int) : Option (Int × (List (List bW))) :=
 cond (decide (aX < (bN.length : Int))) ((bQ bN aX).bind fun ag => (CK ag ba).bind fun au => dU (List.set bN (Int.toNat aX) au.2) au.1 (IntKind.i64.wrap (aX + 1))) (some (ba, bN))
def s4 : Nat → (List (List bW)) → Int → Int → Option (Int × (List (List bW)))
 | 0, _, _, _ => none
 | n + 1, bN, ba, aX => CL (s4 n) bN ba aX
def CM (a0 : List (List bW)) (U : Int) : Option (Int × (List (List bW))) :=
 lim fun n => s4 n a0 U 0
def CN (dU : (List bE) → Int → Int → Option (Int × (List bE))) (bN : List bE) (ba : Int) (aX : Int) : Option (Int × (List bE)) :=
 cond (decide (aX < (bN.length : Int))) ((bQ bN aX).bind fun ag => (bQ (List.set bN (Int.toNat aX) (bE.mk ba ag.Number ag.Name ag.cA)) aX).bind fun au => (qj (IntKind.i64.wrap ((IntKind.i64.wrap (ba + 1)) + 1))).bind fun a2 => (bQ (List.set (List.set bN (Int.toNat aX) (bE.mk ba ag.Number ag.Name ag.cA)) (Int.toNat aX) (bE.mk au.Kind (IntKind.i64.wrap (ba + 1)) au.Name au.cA)) aX).bind fun bj => (bQ (List.set (List.set (List.set bN (Int.toNat aX) (bE.mk ba ag.Number ag.Name ag.cA)) (Int.toNat aX) (bE.mk au.Kind (IntKind.i64.wrap (ba + 1)) au.Name au.cA)) (Int.toNat aX) (bE.mk bj.Kind bj.Number a2 bj.cA)) aX).bind fun bp => (CM bp.cA (IntKind.i64.wrap ((IntKind.i64.wrap ((IntKind.i64.wrap (ba + 1)) + 1)) + 1))).bind fun bU => dU (List.set (List.set (List.set (List.set bN (Int.toNat aX) (bE.mk ba ag.Number ag.Name ag.cA)) (Int.toNat aX) (bE.mk au.Kind (IntKind.i64.wrap (ba + 1)) au.Name au.cA)) (Int.toNat aX) (bE.mk bj.Kind bj.Number a2 bj.cA)) (Int.toNat aX) (bE.mk bp.Kind bp.Number bp.Name bU.2)) bU.1 (IntKind.i64.wrap (aX + 1))) (some (ba, bN))
def s5 : Nat → (List bE) → Int → Int → Option (Int × (List bE))
 | 0, _, _, _ => none
 | n + 1, bN, ba, aX => CN (s5 n) bN ba aX
def CO (a0 : List bE) (U : Int) : Option (Int × (List bE)) :=
 lim fun n => s5 n a0 U 0
def CP (dU : (List bg) → Int → Int → Option (Int × (List bg))) (bN : List bg) (ba : Int) (aX : Int) : Option (Int × (List bg)) :=
 cond (decide (aX < (bN.length : Int))) ((qj ba).bind fun ag => (bQ bN aX).bind fun au => (bQ (List.set bN (Int.toNat aX) (bg.mk ag au.dj au.Body)) aX).bind fun a2 => (bQ (List.set (List.set bN (Int.toNat aX) (bg.mk ag au.dj au.Body)) (Int.toNat aX) (bg.mk a2.Name (IntKind.i64.wrap (ba + 1)) a2.Body)) aX).bind fun bj => (CO bj.Body (IntKind.i64.wrap ((IntKind.i64.wrap (ba + 1)) + 1))).bind fun bp => dU (List.set (List.set (List.set bN (Int.toNat aX) (bg.mk ag au.dj au.Body)) (Int.toNat aX) (bg.mk a2.Name (IntKind.i64.wrap (ba + 1)) a2.Body)) (Int.toNat aX) (bg.mk bj.Name bj.dj bp.2)) bp.1 (IntKind.i64.wrap (aX + 1))) (some (ba, bN))
def s6 : Nat → (List bg) → Int → Int → Option (Int × (List bg))
 | 0, _, _, _ => none
 | n + 1, bN, ba, aX => CP (s6 n) bN ba aX
def CQ (a0 : List bg) (U : Int) : Option (Int × (List bg)) :=
 lim fun n => s6 n a0 U 0
def CR (dU : (List Int) → Int → Int → Option (Int × (List Int))) (bN : List Int) (ba : Int) (aX : Int) : Option (Int × (List Int)) :=
 cond (decide (aX < (bN.length : Int))) ((bQ bN aX).bind fun ag => dU (List.set bN (Int.toNat aX) ba) (IntKind.i64.wrap (ba + 1)) (IntKind.i64.wrap (aX + 1))) (some (ba, bN))
def s7 : Nat → (List Int) → Int → Int → Option (Int × (List Int))
 | 0, _, _, _ => none
 | n + 1, bN, ba, aX => CR (s7 n) bN ba aX
def yB (a0 : List Int) (U : Int) : Option (Int × (List Int)) :=
 lim fun n => s7 n a0 U 0
def CS (dU : (List dc) → Int → Int → Option (Int × (List dc))) (bN : List dc) (ba : Int) (aX : Int) : Option (Int × (List dc)) :=
 cond (decide (aX < (bN.length : Int))) ((bQ bN aX).bind fun ag => (bQ (List.set bN (Int.toNat aX) (dc.mk ba ag.fq)) aX).bind fun au => (yB au.fq (IntKind.i64.wrap (ba + 1))).bind fun a2 => dU (List.set (List.set bN (Int.toNat aX) (dc.mk ba ag.fq)) (Int.toNat aX) (dc.mk au.fe a2.2)) a2.1 (IntKind.i64.wrap (aX + 1))) (some (ba, bN))
def s8 : Nat → (List dc) → Int → Int → Option (Int × (List dc))
 | 0, _, _, _ => none
 | n + 1, bN, ba, aX => CS (s8 n) bN ba aX
def CT (a0 : List dc) (U : Int) : Option (Int × (List dc)) :=
 lim fun n => s8 n a0 U 0
def CU (dU : (List b4) → Int → Int → Option (Int × (List b4))) (bN : List b4) (ba : Int) (aX : Int) : Option (Int × (List b4)) :=
 cond (decide (aX < (bN.length : Int))) ((qj ba).bind fun ag => (bQ bN aX).bind fun au => (qj (IntKind.i64.wrap (ba + 1))).bind fun a2 => (bQ (List.set bN (Int.toNat aX) (b4.mk ag au.ch au.Result)) aX).bind fun bj => (qj (IntKind.i64.wrap ((IntKind.i64.wrap (ba + 1)) + 1))).bind fun bp => (bQ (List.set (List.set bN (Int.toNat aX) (b4.mk ag au.ch au.Result)) (Int.toNat aX) (b4.mk bj.Left a2 bj.Result)) aX).bind fun bU => dU (List.set (List.set (List.set bN (Int.toNat aX) (b4.mk ag au.ch au.Result)) (Int.toNat aX) (b4.mk bj.Left a2 bj.Result)) (Int.toNat aX) (b4.mk bU.Left bU.ch bp)) (IntKind.i64.wrap ((IntKind.i64.wrap ((IntKind.i64.wrap (ba + 1)) + 1)) + 1)) (IntKind.i64.wrap (aX + 1))) (some (ba, bN))
def s9 : Nat → (List b4) → Int → Int → Option (Int × (List b4))
 | 0, _, _, _ => none
 | n + 1, bN, ba, aX => CU (s9 n) bN ba aX
def CV (a0 : List b4) (U : Int) : Option (Int × (List b4)) :=
 lim fun n => s9 n a0 U 0
def CW (dU : (List (List UInt8)) → Int → Int → Option (Int × (List (List UInt8)))) (bN : List (List UInt8)) (ba : Int) (aX : Int) : Option (Int × (List (List UInt8))) :=
 cond (decide (aX < (bN.length : Int))) ((qj ba).bind fun ag => (bQ bN aX).bind fun au => dU (List.set bN (Int.toNat aX) ag) (IntKind.i64.wrap (ba + 1)) (IntKind.i64.wrap (aX + 1))) (some (ba, bN))
def s_ : Nat → (List (List UInt8)) → Int → Int → Option (Int × (List (List UInt8)))
 | 0, _, _, _ => none
 | n + 1, bN, ba, aX => CW (s_ n) bN ba aX
def yC (a0 : List (List UInt8)) (U : Int) : Option (Int × (List (List UInt8))) :=
 lim fun n => s_ n a0 U 0
def CX (ta : List bg) (rr : List dc) (qk : List b4) (px : List (List UInt8)) (oG : List (List UInt8)) (U : Int) : Option (Int × (List bg) × (List dc) × (List b4) × (List (List UInt8)) × (List (List UInt8))) :=
 (CQ ta U).bind fun ag => (CT rr ag.1).bind fun au => (CV qk au.1).bind fun a2 => (yC px a2.1).bind fun bj => (yC oG bj.1).bind fun bp => some (bp.1, ag.2, au.2, a2.2, bj.2, bp.2)
def CY (dU : Int → Int → Option Int) (a0 : List Int) (ba : Int) (aX : Int) : Option Int :=
 cond (decide (aX < (a0.length : Int))) ((bQ a0 aX).bind fun ag => cond (ag != ba) (some (-1)) (dU (IntKind.i64.wrap (ba + 1)) (IntKind.i64.wrap (aX + 1)))) (some ba)
def tb (a0 : List Int) : Nat → Int → Int → Option Int
 | 0, _, _ => none
 | n + 1, ba, aX => CY (tb a0 n) a0 ba aX
def yD (a0 : List Int) (U : Int) : Option Int :=
 lim fun n => tb a0 n U 0
def Gy (a0 : kn) : Option Bool :=
 (xO a0 1048576).bind fun ag => cond (decide (ag < 0)) (some true) ((ra a0).bind fun au => (BR au).bind fun a2 => (ra a0).bind fun bj => (yq bj).bind fun bp => (s0 bp.1 a2.1).bind fun bU => cond ((!bU) || (bp.2 != a2.2)) (some false) ((ra a0).bind fun cZ => (yz bj cZ).bind fun e7 => cond (!e7) (some false) ((CX bj.b3 bj.cn bj.g7 bj.gZ bj.g0 1).bind fun dQ => cond (decide (dQ.1 < 0)) (some false) ((s0 bp.1 a2.1).bind fun de => cond ((!de) || (bp.2 != a2.2)) (some false) ((yB bp.1 1).bind fun eB => (yD eB.2 1).bind fun iv => cond (decide (iv < 0)) (some false) (cond (iv != eB.1) (some false) ((ra a0).bind fun ju => (yq ju).bind fun hA => (s0 hA.1 a2.1).bind fun jv => cond ((!jv) || (hA.2 != a2.2)) (some false) ((yD eB.2 1).bind fun l7 => cond (decide (l7 < 0)) (some false) (cond (l7 != eB.1) (some false) (some true))))))))))
end
end Go.eR
