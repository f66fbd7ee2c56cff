/- Part of a proof that a law returns true for every input. No condition. -/
import Derived.Test.YtobljppjkklojaaFwA
namespace Go.fH
open Go Go.cM
set_option linter.unusedVariables false
noncomputable section
structure fb where
 Kind : Int
 Value : Int
def nU (x : fb) : Prop := (-9223372036854775808 ≤ x.Kind ∧ x.Kind ≤ 9223372036854775807) ∧ (-9223372036854775808 ≤ x.Value ∧ x.Value ≤ 9223372036854775807)
structure gD where
 bz : List Int
 Guard : List fb
 Name : List UInt8
 bK : List (List fb)
 Next : List (List fb)
def sB (x : gD) : Prop := (x.bz.length ≤ 9223372036854775807 ∧ ∀ y ∈ x.bz, (-9223372036854775808 ≤ y ∧ y ≤ 9223372036854775807)) ∧ (x.Guard.length ≤ 9223372036854775807 ∧ ∀ y ∈ x.Guard, nU y) ∧ x.Name.length ≤ 9223372036854775807 ∧ (x.bK.length ≤ 9223372036854775807 ∧ ∀ y ∈ x.bK, (y.length ≤ 9223372036854775807 ∧ ∀ z ∈ y, nU z)) ∧ (x.Next.length ≤ 9223372036854775807 ∧ ∀ y ∈ x.Next, (y.length ≤ 9223372036854775807 ∧ ∀ z ∈ y, nU z))
structure i2 where
 dK : Int
 Start : List Int
 cG : List gD
def uP (x : i2) : Prop := (-9223372036854775808 ≤ x.dK ∧ x.dK ≤ 9223372036854775807) ∧ (x.Start.length ≤ 9223372036854775807 ∧ ∀ y ∈ x.Start, (-9223372036854775808 ≤ y ∧ y ≤ 9223372036854775807)) ∧ (x.cG.length ≤ 9223372036854775807 ∧ ∀ y ∈ x.cG, sB y)
structure a2 where
 Kind : Int
 Value : Int
def yS (x : a2) : Prop := (-9223372036854775808 ≤ x.Kind ∧ x.Kind ≤ 9223372036854775807) ∧ (-9223372036854775808 ≤ x.Value ∧ x.Value ≤ 9223372036854775807)
structure bu where
 bz : List Int
 Guard : List a2
 Name : List UInt8
 bK : List (List a2)
 Next : List (List a2)
def La (x : bu) : Prop := (x.bz.length ≤ 9223372036854775807 ∧ ∀ y ∈ x.bz, (-9223372036854775808 ≤ y ∧ y ≤ 9223372036854775807)) ∧ (x.Guard.length ≤ 9223372036854775807 ∧ ∀ y ∈ x.Guard, yS y) ∧ x.Name.length ≤ 9223372036854775807 ∧ (x.bK.length ≤ 9223372036854775807 ∧ ∀ y ∈ x.bK, (y.length ≤ 9223372036854775807 ∧ ∀ z ∈ y, yS z)) ∧ (x.Next.length ≤ 9223372036854775807 ∧ ∀ y ∈ x.Next, (y.length ≤ 9223372036854775807 ∧ ∀ z ∈ y, yS z))
structure dM where
 dK : Int
 Start : List Int
 cG : List bu
def aau (x : dM) : Prop := (-9223372036854775808 ≤ x.dK ∧ x.dK ≤ 9223372036854775807) ∧ (x.Start.length ≤ 9223372036854775807 ∧ ∀ y ∈ x.Start, (-9223372036854775808 ≤ y ∧ y ≤ 9223372036854775807)) ∧ (x.cG.length ≤ 9223372036854775807 ∧ ∀ y ∈ x.cG, La y)
def sC (a0 : List Int) (ah : Int) : Option Int :=
 cond (decide ((IntKind.i64.wrap (ah - (a0.length : Int))) < 0)) (some (-1)) (some (IntKind.i64.wrap (ah - (a0.length : Int))))
def qU (a0 : List fb) (ah : Int) : Option Int :=
 cond (decide ((IntKind.i64.wrap (ah - (a0.length : Int))) < 0)) (some (-1)) (some (IntKind.i64.wrap (ah - (a0.length : Int))))
def DA (jE : Int → Int → Option Int) (a0 : List (List fb)) (hi : Int) (eN : Int) : Option Int :=
 cond (decide (eN < (a0.length : Int))) ((cx a0 eN).bind fun aC => (qU aC hi).bind fun aM => cond (decide (aM < 0)) (some (-1)) (jE aM (IntKind.i64.wrap (eN + 1)))) (some hi)
def uQ (a0 : List (List fb)) : Nat → Int → Int → Option Int
 | 0, _, _ => none
 | n + 1, hi, eN => DA (uQ a0 n) a0 hi eN
def sD (a0 : List (List fb)) (ah : Int) : Option Int :=
 cond (decide ((IntKind.i64.wrap (ah - (a0.length : Int))) < 0)) (some (-1)) (lim fun n => uQ a0 n (IntKind.i64.wrap (ah - (a0.length : Int))) 0)
def sE (a0 : gD) (ah : Int) : Option Int :=
 (sC a0.bz ah).bind fun aC => cond (decide (aC < 0)) (some (-1)) ((qU a0.Guard aC).bind fun aM => cond (decide (aM < 0)) (some (-1)) (cond (decide ((IntKind.i64.wrap (aM - (a0.Name.length : Int))) < 0)) (some (-1)) ((sD a0.bK (IntKind.i64.wrap (aM - (a0.Name.length : Int)))).bind fun a8 => cond (decide (a8 < 0)) (some (-1)) ((sD a0.Next a8).bind fun bU => cond (decide (bU < 0)) (some (-1)) (some bU)))))
def DB (jE : Int → Int → Option Int) (a0 : List gD) (hi : Int) (eN : Int) : Option Int :=
 cond (decide (eN < (a0.length : Int))) ((cx a0 eN).bind fun aC => (sE aC hi).bind fun aM => cond (decide (aM < 0)) (some (-1)) (jE aM (IntKind.i64.wrap (eN + 1)))) (some hi)
def uR (a0 : List gD) : Nat → Int → Int → Option Int
 | 0, _, _ => none
 | n + 1, hi, eN => DB (uR a0 n) a0 hi eN
def uS (a0 : List gD) (ah : Int) : Option Int :=
 cond (decide ((IntKind.i64.wrap (ah - (a0.length : Int))) < 0)) (some (-1)) (lim fun n => uR a0 n (IntKind.i64.wrap (ah - (a0.length : Int))) 0)
def uT (a0 : i2) (ah : Int) : Option Int :=
 (sC a0.Start ah).bind fun aC => cond (decide (aC < 0)) (some (-1)) ((uS a0.cG aC).bind fun aM => cond (decide (aM < 0)) (some (-1)) (some aM))
def DC (ek : (List Int) → Int → Option ((List Int))) (a0 : List Int) (bV : List Int) (cg : Int) : Option ((List Int)) :=
 cond (decide (cg < (a0.length : Int))) ((cx a0 cg).bind fun aC => (cx bV cg).bind fun aM => ek (List.set bV (Int.toNat cg) aC) (IntKind.i64.wrap (cg + 1))) (some bV)
def uU (a0 : List Int) : Nat → (List Int) → Int → Option ((List Int))
 | 0, _, _ => none
 | n + 1, bV, cg => DC (uU a0 n) a0 bV cg
def sF (a0 : List Int) : Option ((List Int)) :=
 (lQ 8 (a0.length : Int)).bind fun _ => lim fun n => uU a0 n (List.replicate (Int.toNat (a0.length : Int)) 0) 0
def sG (a0 : fb) : Option a2 :=
 some (a2.mk a0.Kind a0.Value)
def DD (ek : (List a2) → Int → Option ((List a2))) (a0 : List fb) (bV : List a2) (cg : Int) : Option ((List a2)) :=
 cond (decide (cg < (a0.length : Int))) ((cx a0 cg).bind fun aC => (sG aC).bind fun aM => (cx bV cg).bind fun a8 => ek (List.set bV (Int.toNat cg) aM) (IntKind.i64.wrap (cg + 1))) (some bV)
def uV (a0 : List fb) : Nat → (List a2) → Int → Option ((List a2))
 | 0, _, _ => none
 | n + 1, bV, cg => DD (uV a0 n) a0 bV cg
def qV (a0 : List fb) : Option ((List a2)) :=
 (lQ 16 (a0.length : Int)).bind fun _ => lim fun n => uV a0 n (List.replicate (Int.toNat (a0.length : Int)) (a2.mk 0 0)) 0
def DE (ek : (List (List a2)) → Int → Option ((List (List a2)))) (a0 : List (List fb)) (bV : List (List a2)) (cg : Int) : Option ((List (List a2))) :=
 cond (decide (cg < (a0.length : Int))) ((cx a0 cg).bind fun aC => (qV aC).bind fun aM => (cx bV cg).bind fun a8 => ek (List.set bV (Int.toNat cg) aM) (IntKind.i64.wrap (cg + 1))) (some bV)
def uW (a0 : List (List fb)) : Nat → (List (List a2)) → Int → Option ((List (List a2)))
 | 0, _, _ => none
 | n + 1, bV, cg => DE (uW a0 n) a0 bV cg
def sH (a0 : List (List fb)) : Option ((List (List a2))) :=
 (lQ 24 (a0.length : Int)).bind fun _ => lim fun n => uW a0 n (List.replicate (Int.toNat (a0.length : Int)) []) 0
def sI (a0 : gD) : Option bu :=
 (sF a0.bz).bind fun aC => (qV a0.Guard).bind fun aM => (sH a0.bK).bind fun a8 => (sH a0.Next).bind fun bU => some (bu.mk aC aM a0.Name a8 bU)
def DF (ek : (List bu) → Int → Option ((List bu))) (a0 : List gD) (bV : List bu) (cg : Int) : Option ((List bu)) :=
 cond (decide (cg < (a0.length : Int))) ((cx a0 cg).bind fun aC => (sI aC).bind fun aM => (cx bV cg).bind fun a8 => ek (List.set bV (Int.toNat cg) aM) (IntKind.i64.wrap (cg + 1))) (some bV)
def uX (a0 : List gD) : Nat → (List bu) → Int → Option ((List bu))
 | 0, _, _ => none
 | n + 1, bV, cg => DF (uX a0 n) a0 bV cg
def uY (a0 : List gD) : Option ((List bu)) :=
 (lQ 112 (a0.length : Int)).bind fun _ => lim fun n => uX a0 n (List.replicate (Int.toNat (a0.length : Int)) (bu.mk [] [] ([] : List UInt8) [] [])) 0
def pb (a0 : i2) : Option dM :=
 (sF a0.Start).bind fun aC => (uY a0.cG).bind fun aM => some (dM.mk a0.dK aC aM)
def mg (a0 : Int) (ah : Int) (cC : Int) : Option Bool :=
 some ((decide (ah ≤ a0)) && (decide (a0 ≤ cC)))
def uZ (dY : Int → Option Bool) (a0 : List Int) (lG : Int) : Option Bool :=
 cond (decide (lG < (a0.length : Int))) ((cx a0 lG).bind fun aC => (mg aC 0 63).bind fun aM => cond (!aM) (some false) (dY (IntKind.i64.wrap (lG + 1)))) (some true)
def qW (a0 : List Int) : Nat → Int → Option Bool
 | 0, _ => none
 | n + 1, lG => uZ (qW a0 n) a0 lG
def u0 (a0 : List Int) : Option Bool :=
 lim fun n => qW a0 n 0
def u1 (a0 : List Int) (ah : Int) : Option Bool :=
 cond ((a0.length : Int) == ah) ((u0 a0).bind fun aC => some aC) (some false)
def u2 (jE : Int → Int → Option Int) (a0 : List Int) (kU : Int) (dX : Int) : Option Int :=
 cond (decide (dX < (a0.length : Int))) ((cx a0 dX).bind fun aC => (mg aC 1 7).bind fun aM => cond (!aM) (some 0) (jE (IntKind.i64.wrap (kU * (IntKind.i64.wrap (aC + 1)))) (IntKind.i64.wrap (dX + 1)))) (cond (decide (4096 < kU)) (some 0) (some kU))
def pc (a0 : List Int) : Nat → Int → Int → Option Int
 | 0, _, _ => none
 | n + 1, kU, dX => u2 (pc a0 n) a0 kU dX
def u3 (a0 : List Int) : Option Int :=
 cond (decide (8 < (a0.length : Int))) (some 0) (lim fun n => pc a0 n 1 0)
def u4 (a0 : a2) (ah : Int) : Option Bool :=
 cond (a0.Kind == 0) ((mg a0.Value 0 63).bind fun aC => some aC) (cond (a0.Kind == 1) ((mg a0.Value 0 (IntKind.i64.wrap (ah - 1))).bind fun aM => some aM) (cond (a0.Kind == 2) ((mg a0.Value 0 8).bind fun a8 => some a8) (cond (a0.Kind == 3) (some (a0.Value == 0)) (some false))))
def yT (a0 : a2) : Option Int :=
 cond (a0.Kind == 2) (some 2) (cond (a0.Kind == 3) (some 1) (some 0))
def u5 (jE : Int → Int → Option Bool) (a0 : List a2) (ah : Int) (gr : Int) (kV : Int) : Option Bool :=
 cond (decide (kV < (a0.length : Int))) (cond (gr == 0) (some false) ((cx a0 kV).bind fun aC => (u4 aC ah).bind fun aM => cond (!aM) (some false) ((yT aC).bind fun a8 => jE (IntKind.i64.wrap (gr + (IntKind.i64.wrap (a8 - 1)))) (IntKind.i64.wrap (kV + 1))))) (some (gr == 0))
def pd (a0 : List a2) (ah : Int) : Nat → Int → Int → Option Bool
 | 0, _, _ => none
 | n + 1, gr, kV => u5 (pd a0 ah n) a0 ah gr kV
def sJ (a0 : List a2) (ah : Int) (cC : Int) : Option Bool :=
 cond (decide (cC < (a0.length : Int))) (some false) (lim fun n => pd a0 ah n 1 0)
def u6 (dY : Int → Option Bool) (a0 : List (List a2)) (ah : Int) (aS : Int) : Option Bool :=
 cond (decide (aS < (a0.length : Int))) ((cx a0 aS).bind fun aC => (sJ aC ah 60).bind fun aM => cond (!aM) (some false) (dY (IntKind.i64.wrap (aS + 1)))) (some true)
def qX (a0 : List (List a2)) (ah : Int) : Nat → Int → Option Bool
 | 0, _ => none
 | n + 1, aS => u6 (qX a0 ah n) a0 ah aS
def pe (a0 : List (List a2)) (ah : Int) : Option Bool :=
 lim fun n => qX a0 ah n 0
def sK (a0 : UInt8) : Option Bool :=
 some ((decide (97 ≤ (a0.toNat : Int))) && (decide ((a0.toNat : Int) ≤ 122)))
def yU (a0 : UInt8) : Option Bool :=
 some ((decide (48 ≤ (a0.toNat : Int))) && (decide ((a0.toNat : Int) ≤ 57)))
def u7 (jF : Int → Option Bool) (a0 : List UInt8) (dZ : Int) : Option Bool :=
 cond (decide (dZ < (a0.length : Int))) ((cx a0 dZ).bind fun a8 => (sK a8).bind fun bU => cond (!bU) ((yU a8).bind fun cF => cond (!cF) (some false) (jF (IntKind.i64.wrap (dZ + 1)))) (jF (IntKind.i64.wrap (dZ + 1)))) (some true)
def qY (a0 : List UInt8) : Nat → Int → Option Bool
 | 0, _ => none
 | n + 1, dZ => u7 (qY a0 n) a0 dZ
def u9 (a0 : List UInt8) : Option Bool :=
 cond (a0 == ([] : List UInt8)) (some false) (cond (decide (10 < (a0.length : Int))) (some false) ((cx a0 0).bind fun aC => (sK aC).bind fun aM => cond (!aM) (some false) (lim fun n => qY a0 n 0)))
def u_ (a0 : List UInt8) : Option Bool :=
 (u9 a0).bind fun aC => some (aC && (!(a0 == ([116, 97, 117] : List UInt8))))
def va (a0 : bu) (ah : Int) : Option Bool :=
 (u3 a0.bz).bind fun aC => cond (aC == 0) (some false) ((sJ a0.Guard (IntKind.i64.wrap (ah + (a0.bz.length : Int))) 60).bind fun aM => cond ((!aM) || ((a0.Next.length : Int) != ah)) (some false) (cond (a0.Name == ([116, 97, 117] : List UInt8)) (cond (decide (0 < (a0.bK.length : Int))) (some false) (cond (decide (2 < (a0.bK.length : Int))) (some false) ((pe a0.bK (IntKind.i64.wrap (ah + (a0.bz.length : Int)))).bind fun a8 => cond a8 ((pe a0.Next (IntKind.i64.wrap (ah + (a0.bz.length : Int)))).bind fun bU => some bU) (some false)))) ((u_ a0.Name).bind fun cF => cond (!cF) (some false) (cond (decide (2 < (a0.bK.length : Int))) (some false) ((pe a0.bK (IntKind.i64.wrap (ah + (a0.bz.length : Int)))).bind fun cw => cond cw ((pe a0.Next (IntKind.i64.wrap (ah + (a0.bz.length : Int)))).bind fun c0 => some c0) (some false))))))
def vb (jF : Int → Option Bool) (a0 : dM) (dZ : Int) : Option Bool :=
 cond (decide (dZ < (a0.cG.length : Int))) ((cx a0.cG dZ).bind fun a8 => (va a8 a0.dK).bind fun bU => cond (!bU) (some false) (jF (IntKind.i64.wrap (dZ + 1)))) (some true)
def qZ (a0 : dM) : Nat → Int → Option Bool
 | 0, _ => none
 | n + 1, dZ => vb (qZ a0 n) a0 dZ
def vc (a0 : dM) : Option Bool :=
 (mg a0.dK 0 21).bind fun aC => cond (!aC) (some false) ((u1 a0.Start a0.dK).bind fun aM => cond ((!aM) || (decide (60 < (a0.cG.length : Int)))) (some false) (lim fun n => qZ a0 n 0))
def vd (dY : Int → Option Int) (a0 : List (List UInt8)) (ah : List UInt8) (aS : Int) : Option Int :=
 cond (decide (aS < (a0.length : Int))) ((cx a0 aS).bind fun aC => cond (aC == ah) (some aS) (dY (IntKind.i64.wrap (aS + 1)))) (some (-1))
def q0 (a0 : List (List UInt8)) (ah : List UInt8) : Nat → Int → Option Int
 | 0, _ => none
 | n + 1, aS => vd (q0 a0 ah n) a0 ah aS
def ve (a0 : List (List UInt8)) (ah : List UInt8) : Option Int :=
 lim fun n => q0 a0 ah n 0
def sL (ek : (List (List UInt8)) → Int → Option ((List (List UInt8)))) (a0 : List (List UInt8)) (q1 : List (List UInt8)) (q2 : Int) : Option ((List (List UInt8))) :=
 ek q1 (IntKind.i64.wrap (q2 + 1))
def sM (ek : (List (List UInt8)) → Int → Option ((List (List UInt8)))) (Lb : (List (List UInt8)) → Int → Int → Int → Option ((List (List UInt8)))) (a0 : List (List UInt8)) (gu : List (List UInt8)) (gO : Int) (gE : Int) (fW : Int) : Option ((List (List UInt8))) :=
 cond (decide (gE < fW)) ((cx gu (IntKind.i64.wrap (fW - 1))).bind fun df => (cx gu fW).bind fun dB => Lb (List.set gu (Int.toNat fW) df) gO gE (IntKind.i64.wrap (fW - 1))) ((cx a0 gO).bind fun eO => (cx gu gE).bind fun jG => sL ek a0 (List.set gu (Int.toNat gE) eO) gO)
def mh (ek : (List (List UInt8)) → Int → Option ((List (List UInt8)))) (a0 : List (List UInt8)) : Nat → (List (List UInt8)) → Int → Int → Int → Option ((List (List UInt8)))
 | 0, _, _, _, _ => none
 | n + 1, gu, gO, gE, fW => sM ek (mh ek a0 n) a0 gu gO gE fW
def vf (ek : (List (List UInt8)) → Int → Option ((List (List UInt8)))) (Lc : (List (List UInt8)) → Int → Int → Option ((List (List UInt8)))) (a0 : List (List UInt8)) (gh : List (List UInt8)) (ie : Int) (hU : Int) : Option ((List (List UInt8))) :=
 cond (decide (hU < (gh.length : Int))) ((cx gh hU).bind fun a8 => (cx a0 ie).bind fun bU => cond (Op.bytesLess a8 bU) (Lc gh ie (IntKind.i64.wrap (hU + 1))) ((room 16 (gh.length + 1)).bind fun _ => lim fun n => mh ek a0 n (gh ++ [([] : List UInt8)]) ie hU (IntKind.i64.wrap (((gh ++ [([] : List UInt8)]).length : Int) - 1)))) ((room 16 (gh.length + 1)).bind fun _ => lim fun n => mh ek a0 n (gh ++ [([] : List UInt8)]) ie hU (IntKind.i64.wrap (((gh ++ [([] : List UInt8)]).length : Int) - 1)))
def nV (ek : (List (List UInt8)) → Int → Option ((List (List UInt8)))) (a0 : List (List UInt8)) : Nat → (List (List UInt8)) → Int → Int → Option ((List (List UInt8)))
 | 0, _, _, _ => none
 | n + 1, gh, ie, hU => vf ek (nV ek a0 n) a0 gh ie hU
def vg (ek : (List (List UInt8)) → Int → Option ((List (List UInt8)))) (a0 : List (List UInt8)) (bV : List (List UInt8)) (cg : Int) : Option ((List (List UInt8))) :=
 cond (decide (cg < (a0.length : Int))) ((cx a0 cg).bind fun aC => (ve bV aC).bind fun aM => cond (decide (0 ≤ aM)) (sL ek a0 bV cg) (lim fun n => nV ek a0 n bV cg 1)) (some bV)
def jo (a0 : List (List UInt8)) : Nat → (List (List UInt8)) → Int → Option ((List (List UInt8)))
 | 0, _, _ => none
 | n + 1, bV, cg => vg (jo a0 n) a0 bV cg
def vh (a0 : List (List UInt8)) : Option ((List (List UInt8))) :=
 lim fun n => jo a0 n [([116, 97, 117] : List UInt8)] 0
def vi (jE : (List (List UInt8)) → Int → Option ((List (List UInt8)) × Int)) (a0 : dM) (dX : List (List UInt8)) (eN : Int) : Option ((List (List UInt8)) × Int) :=
 cond (decide (eN < (a0.cG.length : Int))) ((cx a0.cG eN).bind fun aM => (room 16 (dX.length + 1)).bind fun _ => jE (dX ++ [aM.Name]) (IntKind.i64.wrap (eN + 1))) ((vh dX).bind fun a8 => (gU a8 1 (a8.length : Int)).bind fun bU => (room 16 (bU.length)).bind fun _ => some (bU, 0))
def pf (a0 : dM) : Nat → (List (List UInt8)) → Int → Option ((List (List UInt8)) × Int)
 | 0, _, _ => none
 | n + 1, dX, eN => vi (pf a0 n) a0 dX eN
def vj (a0 : dM) : Option ((List (List UInt8)) × Int) :=
 (vc a0).bind fun aC => cond (!aC) (some ([], 1)) (lim fun n => pf a0 n [] 0)
def kW (a0 : Int) (ah : Int) (cC : Int) : Option Bool :=
 some ((decide (ah ≤ a0)) && (decide (a0 ≤ cC)))
def vk (a0 : Int) : Option Bool :=
 (kW a0 0 63).bind fun aC => some aC
def yV (a0 : Int) : Option Bool :=
 (vk a0).bind fun aC => some (!aC)
def yW (dY : Int → Option Int) (a0 : List Int) (et : Int) : Option Int :=
 cond (decide (et < (a0.length : Int))) ((cx a0 et).bind fun aC => (yV aC).bind fun aM => cond aM (some et) (dY (IntKind.i64.wrap (et + 1)))) (some (-1))
def sN (a0 : List Int) : Nat → Int → Option Int
 | 0, _ => none
 | n + 1, et => yW (sN a0 n) a0 et
def yX (a0 : List Int) : Option Int :=
 lim fun n => sN a0 n 0
def yY (a0 : List Int) : Option Bool :=
 (yX a0).bind fun aC => some (decide (0 ≤ aC))
def yZ (a0 : List Int) : Option Bool :=
 (yY a0).bind fun aC => some (!aC)
def vl (a0 : dM) (ah : List Int) : Option Bool :=
 cond ((ah.length : Int) == a0.dK) ((yZ ah).bind fun aC => some aC) (some false)
def vm (ek : Int → Int → Option Bool) (a0 : bu) (bV : Int) (lH : Int) : Option Bool :=
 cond (decide (lH < (a0.bz.length : Int))) ((cx a0.bz lH).bind fun aC => (kW aC 1 7).bind fun aM => cond (!aM) (some false) (ek (IntKind.i64.wrap (bV * (IntKind.i64.wrap (aC + 1)))) (IntKind.i64.wrap (lH + 1)))) (some ((decide ((a0.bz.length : Int) ≤ 8)) && (decide (bV ≤ 4096))))
def pg (a0 : bu) : Nat → Int → Int → Option Bool
 | 0, _, _ => none
 | n + 1, bV, lH => vm (pg a0 n) a0 bV lH
def vn (a0 : bu) : Option Bool :=
 lim fun n => pg a0 n 1 0
def y0 (a0 : UInt8) : Option Bool :=
 some ((decide (48 ≤ (a0.toNat : Int))) && (decide ((a0.toNat : Int) ≤ 57)))
def sO (dY : Int → Option Bool) (a0 : List UInt8) (i3 : Int) : Option Bool :=
 cond (decide (i3 < (a0.length : Int))) ((cx a0 i3).bind fun aC => cond (!((decide (97 ≤ (aC.toNat : Int))) && (decide ((aC.toNat : Int) ≤ 122)))) (cond (i3 == 0) (some false) ((y0 aC).bind fun aM => cond (!aM) (some false) (dY (IntKind.i64.wrap (i3 + 1))))) (dY (IntKind.i64.wrap (i3 + 1)))) (some ((decide (1 ≤ (a0.length : Int))) && (decide ((a0.length : Int) ≤ 10))))
def nj (a0 : List UInt8) : Nat → Int → Option Bool
 | 0, _ => none
 | n + 1, i3 => sO (nj a0 n) a0 i3
def vo (a0 : List UInt8) : Option Bool :=
 lim fun n => nj a0 n 0
def sP (a0 : List UInt8) : Option Bool :=
 (vo a0).bind fun aC => some (aC && (!(a0 == ([116, 97, 117] : List UInt8))))
def vp : Option ((List (List a2))) :=
 some []
def y1 (ah : Int) : Option ((List (List a2))) :=
 cond (decide (0 < (IntKind.i64.wrap (ah - (IntKind.i64.wrap 0))))) ((lQ 24 (IntKind.i64.wrap (ah - (IntKind.i64.wrap 0)))).bind fun _ => vp) (vp)
def vq (ah : Int) : Option ((List (List a2))) :=
 cond (decide (ah < 0)) (none) (y1 ah)
def y2 (ek : Int → Int → Option ((List (List a2)))) (a0 : List (List (List a2))) (q3 : Int) (q4 : Int) : Option ((List (List a2))) :=
 ek q3 (IntKind.i64.wrap (q4 + 1))
def vr (y3 : (List (List a2)) → Int → Option ((List (List a2)))) (a0 : List (List (List a2))) (j5 : List (List a2)) (kp : Int) : Option ((List (List a2))) :=
 cond (decide (kp < (a0.length : Int))) ((cx a0 kp).bind fun a8 => (room 24 (j5.length + a8.length)).bind fun _ => y3 (j5 ++ a8) (IntKind.i64.wrap (kp + 1))) (some j5)
def nW (a0 : List (List (List a2))) : Nat → (List (List a2)) → Int → Option ((List (List a2)))
 | 0, _, _ => none
 | n + 1, j5, kp => vr (nW a0 n) a0 j5 kp
def vt (ek : Int → Int → Option ((List (List a2)))) (a0 : List (List (List a2))) (bV : Int) (lI : Int) : Option ((List (List a2))) :=
 cond (decide (lI < (a0.length : Int))) ((cx a0 lI).bind fun aC => cond (decide ((IntKind.i64.wrap (bV + (aC.length : Int))) < 0)) (none) (y2 ek a0 (IntKind.i64.wrap (bV + (aC.length : Int))) lI)) ((vq bV).bind fun aM => lim fun n => nW a0 n aM 0)
def nX (a0 : List (List (List a2))) : Nat → Int → Int → Option ((List (List a2)))
 | 0, _, _ => none
 | n + 1, bV, lI => vt (nX a0 n) a0 bV lI
def vu (a0 : List (List (List a2))) : Option ((List (List a2))) :=
 lim fun n => nX a0 n 0 0
def q5 (a0 : bu) : Option ((List (List a2))) :=
 (vu [[a0.Guard], a0.bK, a0.Next]).bind fun aC => some aC
def vv (a0 : a2) (ah : Int) : Option Bool :=
 cond (a0.Kind == 0) ((vk a0.Value).bind fun aC => some aC) (cond (a0.Kind == 1) ((kW a0.Value 0 (IntKind.i64.wrap (ah - 1))).bind fun aM => some aM) (cond (a0.Kind == 2) ((kW a0.Value 0 8).bind fun a8 => some a8) (cond (a0.Kind == 3) (some (a0.Value == 0)) (some false))))
def y4 (a0 : a2) : Option Int :=
 cond (a0.Kind == 2) (some 2) (cond (a0.Kind == 3) (some 1) (some 0))
def vw (jE : Int → Int → Option Bool) (a0 : List a2) (ah : Int) (gr : Int) (kX : Int) : Option Bool :=
 cond (decide (kX < (a0.length : Int))) ((cx a0 kX).bind fun bU => cond (gr == 0) (some false) ((vv bU ah).bind fun cF => cond (!cF) (some false) ((y4 bU).bind fun cw => jE (IntKind.i64.wrap (gr + (IntKind.i64.wrap (cw - 1)))) (IntKind.i64.wrap (kX + 1))))) (some (gr == 0))
def ph (a0 : List a2) (ah : Int) : Nat → Int → Int → Option Bool
 | 0, _, _ => none
 | n + 1, gr, kX => vw (ph a0 ah n) a0 ah gr kX
def vx (a0 : List a2) (ah : Int) (cC : Int) : Option Bool :=
 (kW ah 0 29).bind fun aC => cond (!aC) (some false) ((kW cC 1 60).bind fun aM => cond (!aM) (some false) ((kW (a0.length : Int) 1 cC).bind fun a8 => cond (!a8) (some false) (lim fun n => ph a0 ah n 1 0)))
def vy (a0 : List a2) (ah : Int) (cC : bu) : Option Bool :=
 (vx a0 (IntKind.i64.wrap (ah + (cC.bz.length : Int))) 60).bind fun aC => some (!aC)
def y5 (dY : Int → Option Int) (a0 : List (List a2)) (hV : Int) (hW : bu) (et : Int) : Option Int :=
 cond (decide (et < (a0.length : Int))) ((cx a0 et).bind fun aC => (vy aC hV hW).bind fun aM => cond aM (some et) (dY (IntKind.i64.wrap (et + 1)))) (some (-1))
def sQ (a0 : List (List a2)) (hV : Int) (hW : bu) : Nat → Int → Option Int
 | 0, _ => none
 | n + 1, et => y5 (sQ a0 hV hW n) a0 hV hW et
def y6 (a0 : List (List a2)) (hV : Int) (hW : bu) : Option Int :=
 lim fun n => sQ a0 hV hW n 0
def pj (a0 : List (List a2)) (hV : Int) (hW : bu) : Option Bool :=
 (y6 a0 hV hW).bind fun aC => some (decide (0 ≤ aC))
def vz (a0 : bu) (ah : Int) : Option Bool :=
 (vn a0).bind fun aC => cond ((!aC) || ((a0.Next.length : Int) != ah)) (some false) (cond (decide (0 < (a0.bK.length : Int))) (cond (a0.Name == ([116, 97, 117] : List UInt8)) (some false) (cond (decide (2 < (a0.bK.length : Int))) (some false) ((sP a0.Name).bind fun aM => cond (!aM) (some false) ((q5 a0).bind fun a8 => (pj a8 ah a0).bind fun bU => some (!bU))))) (cond (!(a0.Name == ([116, 97, 117] : List UInt8))) ((sP a0.Name).bind fun cF => cond (!cF) (some false) ((q5 a0).bind fun cw => (pj cw ah a0).bind fun c0 => some (!c0))) ((q5 a0).bind fun eE => (pj eE ah a0).bind fun df => some (!df))))
def vA (a0 : bu) (ah : dM) : Option Bool :=
 (vz a0 ah.dK).bind fun aC => some (!aC)
def y7 (dY : Int → Option Int) (a0 : List bu) (ah : dM) (et : Int) : Option Int :=
 cond (decide (et < (a0.length : Int))) ((cx a0 et).bind fun aC => (vA aC ah).bind fun aM => cond aM (some et) (dY (IntKind.i64.wrap (et + 1)))) (some (-1))
def sR (a0 : List bu) (ah : dM) : Nat → Int → Option Int
 | 0, _ => none
 | n + 1, et => y7 (sR a0 ah n) a0 ah et
def y8 (a0 : List bu) (ah : dM) : Option Int :=
 lim fun n => sR a0 ah n 0
def y9 (a0 : List bu) (ah : dM) : Option Bool :=
 (y8 a0 ah).bind fun aC => some (decide (0 ≤ aC))
def vB (a0 : dM) : Option Bool :=
 (kW a0.dK 0 21).bind fun aC => cond (!aC) (some false) ((vl a0 a0.Start).bind fun aM => cond ((!aM) || (decide (60 < (a0.cG.length : Int)))) (some false) ((y9 a0.cG a0).bind fun a8 => some (!a8)))
def sS (a0 : List (List UInt8)) : Option (List (List UInt8)) := if a0.length < 4611686018427387904 then some (a0.mergeSort fun x y => decide (x ≤ y)) else none
def vC (a0 : List (List UInt8)) : Option (List (List UInt8)) := some (i7 none a0)
def vD (jE : (List (List UInt8)) → Int → Option ((List (List UInt8)) × Int)) (a0 : dM) (q6 : List (List UInt8)) (q7 : Int) : Option ((List (List UInt8)) × Int) :=
 jE q6 (IntKind.i64.wrap (q7 + 1))
def vE (jE : (List (List UInt8)) → Int → Option ((List (List UInt8)) × Int)) (a0 : dM) (dX : List (List UInt8)) (j6 : Int) : Option ((List (List UInt8)) × Int) :=
 cond (decide (j6 < (a0.cG.length : Int))) ((cx a0.cG j6).bind fun aM => cond (!(aM.Name == ([116, 97, 117] : List UInt8))) ((room 16 (dX.length + 1)).bind fun _ => vD jE a0 (dX ++ [aM.Name]) j6) (vD jE a0 dX j6)) ((sS dX).bind fun a8 => (vC a8).bind fun bU => some (bU, 0))
def nY (a0 : dM) : Nat → (List (List UInt8)) → Int → Option ((List (List UInt8)) × Int)
 | 0, _, _ => none
 | n + 1, dX, j6 => vE (nY a0 n) a0 dX j6
def sT (a0 : dM) : Option ((List (List UInt8)) × Int) :=
 (vB a0).bind fun aC => cond (!aC) (some ([], 1)) (lim fun n => nY a0 n [] 0)
def DG (jF : Int → Option Bool) (a0 : List (List UInt8)) (ah : List (List UInt8)) (cQ : Int) : Option Bool :=
 cond (decide (cQ < (a0.length : Int))) ((cx a0 cQ).bind fun aC => (cx ah cQ).bind fun aM => cond (!(aC == aM)) (some false) (jF (IntKind.i64.wrap (cQ + 1)))) (some true)
def vF (a0 : List (List UInt8)) (ah : List (List UInt8)) : Nat → Int → Option Bool
 | 0, _ => none
 | n + 1, cQ => DG (vF a0 ah n) a0 ah cQ
def q8 (a0 : List (List UInt8)) (ah : List (List UInt8)) : Option Bool :=
 cond ((a0.length : Int) != (ah.length : Int)) (some false) (lim fun n => vF a0 ah n 0)
def DH (jF : Int → Option Bool) (a0 : List Int) (ah : List Int) (cQ : Int) : Option Bool :=
 cond (decide (cQ < (a0.length : Int))) ((cx a0 cQ).bind fun aC => (cx ah cQ).bind fun aM => cond (aC != aM) (some false) (jF (IntKind.i64.wrap (cQ + 1)))) (some true)
def vG (a0 : List Int) (ah : List Int) : Nat → Int → Option Bool
 | 0, _ => none
 | n + 1, cQ => DH (vG a0 ah n) a0 ah cQ
def sU (a0 : List Int) (ah : List Int) : Option Bool :=
 cond ((a0.length : Int) != (ah.length : Int)) (some false) (lim fun n => vG a0 ah n 0)
def sV (a0 : a2) (ah : a2) : Option Bool :=
 cond (a0.Kind != ah.Kind) (some false) (cond (a0.Value != ah.Value) (some false) (some true))
def DI (jF : Int → Option Bool) (a0 : List a2) (ah : List a2) (cQ : Int) : Option Bool :=
 cond (decide (cQ < (a0.length : Int))) ((cx a0 cQ).bind fun aC => (cx ah cQ).bind fun aM => (sV aC aM).bind fun a8 => cond (!a8) (some false) (jF (IntKind.i64.wrap (cQ + 1)))) (some true)
def vH (a0 : List a2) (ah : List a2) : Nat → Int → Option Bool
 | 0, _ => none
 | n + 1, cQ => DI (vH a0 ah n) a0 ah cQ
def q9 (a0 : List a2) (ah : List a2) : Option Bool :=
 cond ((a0.length : Int) != (ah.length : Int)) (some false) (lim fun n => vH a0 ah n 0)
def DJ (jF : Int → Option Bool) (a0 : List (List a2)) (ah : List (List a2)) (cQ : Int) : Option Bool :=
 cond (decide (cQ < (a0.length : Int))) ((cx a0 cQ).bind fun aC => (cx ah cQ).bind fun aM => (q9 aC aM).bind fun a8 => cond (!a8) (some false) (jF (IntKind.i64.wrap (cQ + 1)))) (some true)
def vI (a0 : List (List a2)) (ah : List (List a2)) : Nat → Int → Option Bool
 | 0, _ => none
 | n + 1, cQ => DJ (vI a0 ah n) a0 ah cQ
def sW (a0 : List (List a2)) (ah : List (List a2)) : Option Bool :=
 cond ((a0.length : Int) != (ah.length : Int)) (some false) (lim fun n => vI a0 ah n 0)
def sX (a0 : bu) (ah : bu) : Option Bool :=
 (sU a0.bz ah.bz).bind fun aC => cond (!aC) (some false) ((q9 a0.Guard ah.Guard).bind fun aM => cond (!aM) (some false) (cond (!(a0.Name == ah.Name)) (some false) ((sW a0.bK ah.bK).bind fun a8 => cond (!a8) (some false) ((sW a0.Next ah.Next).bind fun bU => cond (!bU) (some false) (some true)))))
def DK (jF : Int → Option Bool) (a0 : List bu) (ah : List bu) (cQ : Int) : Option Bool :=
 cond (decide (cQ < (a0.length : Int))) ((cx a0 cQ).bind fun aC => (cx ah cQ).bind fun aM => (sX aC aM).bind fun a8 => cond (!a8) (some false) (jF (IntKind.i64.wrap (cQ + 1)))) (some true)
def vJ (a0 : List bu) (ah : List bu) : Nat → Int → Option Bool
 | 0, _ => none
 | n + 1, cQ => DK (vJ a0 ah n) a0 ah cQ
def vK (a0 : List bu) (ah : List bu) : Option Bool :=
 cond ((a0.length : Int) != (ah.length : Int)) (some false) (lim fun n => vJ a0 ah n 0)
def vL (a0 : dM) (ah : dM) : Option Bool :=
 cond (a0.dK != ah.dK) (some false) ((sU a0.Start ah.Start).bind fun aC => cond (!aC) (some false) ((vK a0.cG ah.cG).bind fun aM => cond (!aM) (some false) (some true)))
def vM (dY : (List Int) → Int → Int → Option (Int × (List Int))) (ck : List Int) (bO : Int) (aS : Int) : Option (Int × (List Int)) :=
 cond (decide (aS < (ck.length : Int))) ((cx ck aS).bind fun aC => dY (List.set ck (Int.toNat aS) bO) (IntKind.i64.wrap (bO + 1)) (IntKind.i64.wrap (aS + 1))) (some (bO, ck))
def pk : Nat → (List Int) → Int → Int → Option (Int × (List Int))
 | 0, _, _, _ => none
 | n + 1, ck, bO, aS => vM (pk n) ck bO aS
def sY (a0 : List Int) (ah : Int) : Option (Int × (List Int)) :=
 lim fun n => pk n a0 ah 0
def vN (dY : (List a2) → Int → Int → Option (Int × (List a2))) (ck : List a2) (bO : Int) (aS : Int) : Option (Int × (List a2)) :=
 cond (decide (aS < (ck.length : Int))) ((cx ck aS).bind fun aC => (cx (List.set ck (Int.toNat aS) (a2.mk bO aC.Value)) aS).bind fun aM => dY (List.set (List.set ck (Int.toNat aS) (a2.mk bO aC.Value)) (Int.toNat aS) (a2.mk aM.Kind (IntKind.i64.wrap (bO + 1)))) (IntKind.i64.wrap ((IntKind.i64.wrap (bO + 1)) + 1)) (IntKind.i64.wrap (aS + 1))) (some (bO, ck))
def pn : Nat → (List a2) → Int → Int → Option (Int × (List a2))
 | 0, _, _, _ => none
 | n + 1, ck, bO, aS => vN (pn n) ck bO aS
def sZ (a0 : List a2) (ah : Int) : Option (Int × (List a2)) :=
 lim fun n => pn n a0 ah 0
def s0 (jF : Int → (List UInt8) → Option ((List UInt8))) (ig : Int) (dZ : List UInt8) : Option ((List UInt8)) :=
 cond (decide (0 < ig)) ((mo (1 + dZ.length)).bind fun _ => jF (IntKind.i64.wrap (Int.tdiv ig 10)) ([(mU (IntKind.i64.wrap (48 + (Int.tmod ig 10))))] ++ dZ)) ((mo (1 + dZ.length)).bind fun _ => some (([109] : List UInt8) ++ dZ))
def nZ : Nat → Int → (List UInt8) → Option ((List UInt8))
 | 0, _, _ => none
 | n + 1, ig, dZ => s0 (nZ n) ig dZ
def q_ (a0 : Int) : Option ((List UInt8)) :=
 cond (decide (a0 ≤ 0)) (some ([109, 48] : List UInt8)) (lim fun n => nZ n a0 ([] : List UInt8))
def vO (dY : (List (List a2)) → Int → Int → Option (Int × (List (List a2)))) (ck : List (List a2)) (bO : Int) (aS : Int) : Option (Int × (List (List a2))) :=
 cond (decide (aS < (ck.length : Int))) ((cx ck aS).bind fun aC => (sZ aC bO).bind fun aM => dY (List.set ck (Int.toNat aS) aM.2) aM.1 (IntKind.i64.wrap (aS + 1))) (some (bO, ck))
def po : Nat → (List (List a2)) → Int → Int → Option (Int × (List (List a2)))
 | 0, _, _, _ => none
 | n + 1, ck, bO, aS => vO (po n) ck bO aS
def s3 (a0 : List (List a2)) (ah : Int) : Option (Int × (List (List a2))) :=
 lim fun n => po n a0 ah 0
def vP (dY : (List bu) → Int → Int → Option (Int × (List bu))) (ck : List bu) (bO : Int) (aS : Int) : Option (Int × (List bu)) :=
 cond (decide (aS < (ck.length : Int))) ((cx ck aS).bind fun aC => (sY aC.bz bO).bind fun aM => (cx (List.set ck (Int.toNat aS) (bu.mk aM.2 aC.Guard aC.Name aC.bK aC.Next)) aS).bind fun a8 => (sZ a8.Guard aM.1).bind fun bU => (q_ bU.1).bind fun cF => (cx (List.set (List.set ck (Int.toNat aS) (bu.mk aM.2 aC.Guard aC.Name aC.bK aC.Next)) (Int.toNat aS) (bu.mk a8.bz bU.2 a8.Name a8.bK a8.Next)) aS).bind fun cw => (cx (List.set (List.set (List.set ck (Int.toNat aS) (bu.mk aM.2 aC.Guard aC.Name aC.bK aC.Next)) (Int.toNat aS) (bu.mk a8.bz bU.2 a8.Name a8.bK a8.Next)) (Int.toNat aS) (bu.mk cw.bz cw.Guard cF cw.bK cw.Next)) aS).bind fun c0 => (s3 c0.bK (IntKind.i64.wrap (bU.1 + 1))).bind fun eE => (cx (List.set (List.set (List.set (List.set ck (Int.toNat aS) (bu.mk aM.2 aC.Guard aC.Name aC.bK aC.Next)) (Int.toNat aS) (bu.mk a8.bz bU.2 a8.Name a8.bK a8.Next)) (Int.toNat aS) (bu.mk cw.bz cw.Guard cF cw.bK cw.Next)) (Int.toNat aS) (bu.mk c0.bz c0.Guard c0.Name eE.2 c0.Next)) aS).bind fun df => (s3 df.Next eE.1).bind fun dB => dY (List.set (List.set (List.set (List.set (List.set ck (Int.toNat aS) (bu.mk aM.2 aC.Guard aC.Name aC.bK aC.Next)) (Int.toNat aS) (bu.mk a8.bz bU.2 a8.Name a8.bK a8.Next)) (Int.toNat aS) (bu.mk cw.bz cw.Guard cF cw.bK cw.Next)) (Int.toNat aS) (bu.mk c0.bz c0.Guard c0.Name eE.2 c0.Next)) (Int.toNat aS) (bu.mk df.bz df.Guard df.Name df.bK dB.2)) dB.1 (IntKind.i64.wrap (aS + 1))) (some (bO, ck))
def pq : Nat → (List bu) → Int → Int → Option (Int × (List bu))
 | 0, _, _, _ => none
 | n + 1, ck, bO, aS => vP (pq n) ck bO aS
def vQ (a0 : List bu) (ah : Int) : Option (Int × (List bu)) :=
 lim fun n => pq n a0 ah 0
def vR (n0 : Int) (pr : List Int) (n1 : List bu) (ah : Int) : Option (Int × Int × (List Int) × (List bu)) :=
 (sY pr ah).bind fun aC => (vQ n1 aC.1).bind fun aM => some (aM.1, n0, aC.2, aM.2)
def vS (dY : (List (List UInt8)) → Int → Int → Option (Int × (List (List UInt8)))) (ck : List (List UInt8)) (bO : Int) (aS : Int) : Option (Int × (List (List UInt8))) :=
 cond (decide (aS < (ck.length : Int))) ((q_ bO).bind fun aC => (cx ck aS).bind fun aM => dY (List.set ck (Int.toNat aS) aC) (IntKind.i64.wrap (bO + 1)) (IntKind.i64.wrap (aS + 1))) (some (bO, ck))
def pt : Nat → (List (List UInt8)) → Int → Int → Option (Int × (List (List UInt8)))
 | 0, _, _, _ => none
 | n + 1, ck, bO, aS => vS (pt n) ck bO aS
def vT (a0 : List (List UInt8)) (ah : Int) : Option (Int × (List (List UInt8))) :=
 lim fun n => pt n a0 ah 0
def vU (dY : Int → Int → Option Int) (a0 : List (List UInt8)) (bO : Int) (aS : Int) : Option Int :=
 cond (decide (aS < (a0.length : Int))) ((cx a0 aS).bind fun aC => (q_ bO).bind fun aM => cond (!(aC == aM)) (some (-1)) (dY (IntKind.i64.wrap (bO + 1)) (IntKind.i64.wrap (aS + 1)))) (some bO)
def pv (a0 : List (List UInt8)) : Nat → Int → Int → Option Int
 | 0, _, _ => none
 | n + 1, bO, aS => vU (pv a0 n) a0 bO aS
def s4 (a0 : List (List UInt8)) (ah : Int) : Option Int :=
 lim fun n => pv a0 n ah 0
def y_ (a0 : i2) : Option Bool :=
 (uT a0 1048576).bind fun aC => cond (decide (aC < 0)) (some true) ((pb a0).bind fun aM => (vj aM).bind fun a8 => (pb a0).bind fun bU => (sT bU).bind fun cF => (q8 cF.1 a8.1).bind fun cw => cond ((!cw) || (cF.2 != a8.2)) (some false) ((pb a0).bind fun c0 => (vL bU c0).bind fun eE => cond (!eE) (some false) ((vR bU.dK bU.Start bU.cG 1).bind fun df => cond (decide (df.1 < 0)) (some false) ((q8 cF.1 a8.1).bind fun dB => cond ((!dB) || (cF.2 != a8.2)) (some false) ((vT cF.1 1).bind fun eO => (s4 eO.2 1).bind fun jG => cond (decide (jG < 0)) (some false) (cond (jG != eO.1) (some false) ((pb a0).bind fun kq => (sT kq).bind fun hM => (q8 hM.1 a8.1).bind fun j7 => cond ((!j7) || (hM.2 != a8.2)) (some false) ((s4 eO.2 1).bind fun lJ => cond (decide (lJ < 0)) (some false) (cond (lJ != eO.1) (some false) (some true))))))))))
end
end Go.fH
