/- Part of a proof that a law returns true for every input. No condition. -/
import Derived.Test.YtgpmnlkgmadglaaGreatDoorFwA
namespace Go.eR
open Go Go.cY
set_option linter.unusedVariables false
noncomputable section
structure hp where
 Kind : Int
 Value : Int
def wJ (x : hp) : Prop := (-9223372036854775808 ≤ x.Kind ∧ x.Kind ≤ 9223372036854775807) ∧ (-9223372036854775808 ≤ x.Value ∧ x.Value ≤ 9223372036854775807)
structure iN where
 Kind : Int
 Number : Int
 Name : List UInt8
 bN : List (List hp)
def y5 (x : iN) : Prop := (-9223372036854775808 ≤ x.Kind ∧ x.Kind ≤ 9223372036854775807) ∧ (-9223372036854775808 ≤ x.Number ∧ x.Number ≤ 9223372036854775807) ∧ x.Name.length ≤ 9223372036854775807 ∧ (x.bN.length ≤ 9223372036854775807 ∧ ∀ y ∈ x.bN, (y.length ≤ 9223372036854775807 ∧ ∀ z ∈ y, wJ z))
structure ic where
 Name : List UInt8
 c_ : Int
 Body : List iN
def t_ (x : ic) : Prop := x.Name.length ≤ 9223372036854775807 ∧ (-9223372036854775808 ≤ x.c_ ∧ x.c_ ≤ 9223372036854775807) ∧ (x.Body.length ≤ 9223372036854775807 ∧ ∀ y ∈ x.Body, y5 y)
structure lE where
 dO : Int
 Part : Int
 cD : List Int
def B7 (x : lE) : Prop := (-9223372036854775808 ≤ x.dO ∧ x.dO ≤ 9223372036854775807) ∧ (-9223372036854775808 ≤ x.Part ∧ x.Part ≤ 9223372036854775807) ∧ (x.cD.length ≤ 9223372036854775807 ∧ ∀ y ∈ x.cD, (-9223372036854775808 ≤ y ∧ y ≤ 9223372036854775807))
structure ba where
 Kind : Int
 Value : Int
def W5 (x : ba) : Prop := (-9223372036854775808 ≤ x.Kind ∧ x.Kind ≤ 9223372036854775807) ∧ (-9223372036854775808 ≤ x.Value ∧ x.Value ≤ 9223372036854775807)
structure bs where
 Kind : Int
 Number : Int
 Name : List UInt8
 bN : List (List ba)
def W6 (x : bs) : Prop := (-9223372036854775808 ≤ x.Kind ∧ x.Kind ≤ 9223372036854775807) ∧ (-9223372036854775808 ≤ x.Number ∧ x.Number ≤ 9223372036854775807) ∧ x.Name.length ≤ 9223372036854775807 ∧ (x.bN.length ≤ 9223372036854775807 ∧ ∀ y ∈ x.bN, (y.length ≤ 9223372036854775807 ∧ ∀ z ∈ y, W5 z))
structure aS where
 Name : List UInt8
 c_ : Int
 Body : List bs
def azq (x : aS) : Prop := x.Name.length ≤ 9223372036854775807 ∧ (-9223372036854775808 ≤ x.c_ ∧ x.c_ ≤ 9223372036854775807) ∧ (x.Body.length ≤ 9223372036854775807 ∧ ∀ y ∈ x.Body, W6 y)
structure dP where
 dO : Int
 Part : Int
 cD : List Int
def W7 (x : dP) : Prop := (-9223372036854775808 ≤ x.dO ∧ x.dO ≤ 9223372036854775807) ∧ (-9223372036854775808 ≤ x.Part ∧ x.Part ≤ 9223372036854775807) ∧ (x.cD.length ≤ 9223372036854775807 ∧ ∀ y ∈ x.cD, (-9223372036854775808 ≤ y ∧ y ≤ 9223372036854775807))
structure bd where
 Label : List UInt8
 Next : dP
def azr (x : bd) : Prop := x.Label.length ≤ 9223372036854775807 ∧ W7 x.Next
structure cn where
 scope : Int
 behind : Bool
def azs (x : cn) : Prop := (-9223372036854775808 ≤ x.scope ∧ x.scope ≤ 9223372036854775807) ∧ True
inductive cq where
 | mk (term : ba) (args : List cq)
def cq.term : cq → ba
 | .mk a _ => a
def cq.args : cq → List cq
 | .mk _ a => a
def y6 (a0 : List hp) (R : Int) : Option Int :=
 cond (decide ((IntKind.i64.wrap (R - (a0.length : Int))) < 0)) (some (-1)) (some (IntKind.i64.wrap (R - (a0.length : Int))))
def ND (j1 : Int → Int → Option Int) (a0 : List (List hp)) (gY : Int) (gb : Int) : Option Int :=
 cond (decide (gb < (a0.length : Int))) ((bP a0 gb).bind fun ah => (y6 ah gY).bind fun ak => cond (decide (ak < 0)) (some (-1)) (j1 ak (IntKind.i64.wrap (gb + 1)))) (some gY)
def B8 (a0 : List (List hp)) : Nat → Int → Int → Option Int
 | 0, _, _ => none
 | n + 1, gY, gb => ND (B8 a0 n) a0 gY gb
def B9 (a0 : List (List hp)) (R : Int) : Option Int :=
 cond (decide ((IntKind.i64.wrap (R - (a0.length : Int))) < 0)) (some (-1)) (c2 fun n => B8 a0 n (IntKind.i64.wrap (R - (a0.length : Int))) 0)
def y7 (a0 : iN) (R : Int) : Option Int :=
 cond (decide ((IntKind.i64.wrap (R - (a0.Name.length : Int))) < 0)) (some (-1)) ((B9 a0.bN (IntKind.i64.wrap (R - (a0.Name.length : Int)))).bind fun ah => cond (decide (ah < 0)) (some (-1)) (some ah))
def NF (j1 : Int → Int → Option Int) (a0 : List iN) (gY : Int) (gb : Int) : Option Int :=
 cond (decide (gb < (a0.length : Int))) ((bP a0 gb).bind fun ah => (y7 ah gY).bind fun ak => cond (decide (ak < 0)) (some (-1)) (j1 ak (IntKind.i64.wrap (gb + 1)))) (some gY)
def B_ (a0 : List iN) : Nat → Int → Int → Option Int
 | 0, _, _ => none
 | n + 1, gY, gb => NF (B_ a0 n) a0 gY gb
def Ca (a0 : List iN) (R : Int) : Option Int :=
 cond (decide ((IntKind.i64.wrap (R - (a0.length : Int))) < 0)) (some (-1)) (c2 fun n => B_ a0 n (IntKind.i64.wrap (R - (a0.length : Int))) 0)
def y8 (a0 : ic) (R : Int) : Option Int :=
 cond (decide ((IntKind.i64.wrap (R - (a0.Name.length : Int))) < 0)) (some (-1)) ((Ca a0.Body (IntKind.i64.wrap (R - (a0.Name.length : Int)))).bind fun ah => cond (decide (ah < 0)) (some (-1)) (some ah))
def NG (j1 : Int → Int → Option Int) (a0 : List ic) (gY : Int) (gb : Int) : Option Int :=
 cond (decide (gb < (a0.length : Int))) ((bP a0 gb).bind fun ah => (y8 ah gY).bind fun ak => cond (decide (ak < 0)) (some (-1)) (j1 ak (IntKind.i64.wrap (gb + 1)))) (some gY)
def Cb (a0 : List ic) : Nat → Int → Int → Option Int
 | 0, _, _ => none
 | n + 1, gY, gb => NG (Cb a0 n) a0 gY gb
def y9 (a0 : List ic) (R : Int) : Option Int :=
 cond (decide ((IntKind.i64.wrap (R - (a0.length : Int))) < 0)) (some (-1)) (c2 fun n => Cb a0 n (IntKind.i64.wrap (R - (a0.length : Int))) 0)
def Cc (a0 : List Int) (R : Int) : Option Int :=
 cond (decide ((IntKind.i64.wrap (R - (a0.length : Int))) < 0)) (some (-1)) (some (IntKind.i64.wrap (R - (a0.length : Int))))
def Cd (a0 : lE) (R : Int) : Option Int :=
 (Cc a0.cD R).bind fun ah => cond (decide (ah < 0)) (some (-1)) (some ah)
def y_ (a0 : hp) : Option ba :=
 some (ba.mk a0.Kind a0.Value)
def NH (hb : (List ba) → Int → Option ((List ba))) (a0 : List hp) (dr : List ba) (cT : Int) : Option ((List ba)) :=
 cond (decide (cT < (a0.length : Int))) ((bP a0 cT).bind fun ah => (y_ ah).bind fun ak => (bP dr cT).bind fun a6 => hb (List.set dr (Int.toNat cT) ak) (IntKind.i64.wrap (cT + 1))) (some dr)
def Ce (a0 : List hp) : Nat → (List ba) → Int → Option ((List ba))
 | 0, _, _ => none
 | n + 1, dr, cT => NH (Ce a0 n) a0 dr cT
def za (a0 : List hp) : Option ((List ba)) :=
 (o9 16 (a0.length : Int)).bind fun _ => c2 fun n => Ce a0 n (List.replicate (Int.toNat (a0.length : Int)) (ba.mk 0 0)) 0
def NI (hb : (List (List ba)) → Int → Option ((List (List ba)))) (a0 : List (List hp)) (dr : List (List ba)) (cT : Int) : Option ((List (List ba))) :=
 cond (decide (cT < (a0.length : Int))) ((bP a0 cT).bind fun ah => (za ah).bind fun ak => (bP dr cT).bind fun a6 => hb (List.set dr (Int.toNat cT) ak) (IntKind.i64.wrap (cT + 1))) (some dr)
def Cf (a0 : List (List hp)) : Nat → (List (List ba)) → Int → Option ((List (List ba)))
 | 0, _, _ => none
 | n + 1, dr, cT => NI (Cf a0 n) a0 dr cT
def Cg (a0 : List (List hp)) : Option ((List (List ba))) :=
 (o9 24 (a0.length : Int)).bind fun _ => c2 fun n => Cf a0 n (List.replicate (Int.toNat (a0.length : Int)) []) 0
def zb (a0 : iN) : Option bs :=
 (Cg a0.bN).bind fun ah => some (bs.mk a0.Kind a0.Number a0.Name ah)
def NJ (hb : (List bs) → Int → Option ((List bs))) (a0 : List iN) (dr : List bs) (cT : Int) : Option ((List bs)) :=
 cond (decide (cT < (a0.length : Int))) ((bP a0 cT).bind fun ah => (zb ah).bind fun ak => (bP dr cT).bind fun a6 => hb (List.set dr (Int.toNat cT) ak) (IntKind.i64.wrap (cT + 1))) (some dr)
def Ch (a0 : List iN) : Nat → (List bs) → Int → Option ((List bs))
 | 0, _, _ => none
 | n + 1, dr, cT => NJ (Ch a0 n) a0 dr cT
def Ci (a0 : List iN) : Option ((List bs)) :=
 (o9 56 (a0.length : Int)).bind fun _ => c2 fun n => Ch a0 n (List.replicate (Int.toNat (a0.length : Int)) (bs.mk 0 0 ([] : List UInt8) [])) 0
def zc (a0 : ic) : Option aS :=
 (Ci a0.Body).bind fun ah => some (aS.mk a0.Name a0.c_ ah)
def NK (hb : (List aS) → Int → Option ((List aS))) (a0 : List ic) (dr : List aS) (cT : Int) : Option ((List aS)) :=
 cond (decide (cT < (a0.length : Int))) ((bP a0 cT).bind fun ah => (zc ah).bind fun ak => (bP dr cT).bind fun a6 => hb (List.set dr (Int.toNat cT) ak) (IntKind.i64.wrap (cT + 1))) (some dr)
def Cj (a0 : List ic) : Nat → (List aS) → Int → Option ((List aS))
 | 0, _, _ => none
 | n + 1, dr, cT => NK (Cj a0 n) a0 dr cT
def sA (a0 : List ic) : Option ((List aS)) :=
 (o9 48 (a0.length : Int)).bind fun _ => c2 fun n => Cj a0 n (List.replicate (Int.toNat (a0.length : Int)) (aS.mk ([] : List UInt8) 0 [])) 0
def NL (hb : (List Int) → Int → Option ((List Int))) (a0 : List Int) (dr : List Int) (cT : Int) : Option ((List Int)) :=
 cond (decide (cT < (a0.length : Int))) ((bP a0 cT).bind fun ah => (bP dr cT).bind fun ak => hb (List.set dr (Int.toNat cT) ah) (IntKind.i64.wrap (cT + 1))) (some dr)
def Ck (a0 : List Int) : Nat → (List Int) → Int → Option ((List Int))
 | 0, _, _ => none
 | n + 1, dr, cT => NL (Ck a0 n) a0 dr cT
def Cl (a0 : List Int) : Option ((List Int)) :=
 (o9 8 (a0.length : Int)).bind fun _ => c2 fun n => Ck a0 n (List.replicate (Int.toNat (a0.length : Int)) 0) 0
def ua (a0 : lE) : Option dP :=
 (Cl a0.cD).bind fun ah => some (dP.mk a0.dO a0.Part ah)
def zd (a0 : UInt8) : Option Bool :=
 some ((decide (97 ≤ (a0.toNat : Int))) && (decide ((a0.toNat : Int) ≤ 122)))
def Hp (a0 : UInt8) : Option Bool :=
 some ((decide (48 ≤ (a0.toNat : Int))) && (decide ((a0.toNat : Int) ≤ 57)))
def Cm (iz : Int → Option Bool) (a0 : List UInt8) (fy : Int) : Option Bool :=
 cond (decide (fy < (a0.length : Int))) ((bP a0 fy).bind fun a6 => (zd a6).bind fun bl => cond (!bl) ((Hp a6).bind fun bq => cond (!bq) (some false) (iz (IntKind.i64.wrap (fy + 1)))) (iz (IntKind.i64.wrap (fy + 1)))) (some true)
def wK (a0 : List UInt8) : Nat → Int → Option Bool
 | 0, _ => none
 | n + 1, fy => Cm (wK a0 n) a0 fy
def wL (a0 : List UInt8) : Option Bool :=
 cond (a0 == ([] : List UInt8)) (some false) (cond (decide (10 < (a0.length : Int))) (some false) ((bP a0 0).bind fun ah => (zd ah).bind fun ak => cond (!ak) (some false) (c2 fun n => wK a0 n 0)))
def lF (a0 : Int) (R : Int) (a2 : Int) : Option Bool :=
 some ((decide (R ≤ a0)) && (decide (a0 ≤ a2)))
def ze (a0 : bs) (hv : Bool) : Option Int :=
 cond hv (some 1) (cond (a0.Kind == 2) (some 2) (some 0))
def zf (a0 : bs) : Option Int :=
 cond (a0.Kind == 1) (ze a0 true) (cond (a0.Kind == 3) (ze a0 true) (ze a0 (a0.Kind == 4)))
def Cn (j1 : Int → Int → Option Bool) (a0 : List bs) (fa : Int) (fz : Int) : Option Bool :=
 cond (decide (fz < (a0.length : Int))) (cond (fa == 0) (some false) ((bP a0 fz).bind fun ah => (zf ah).bind fun ak => j1 (IntKind.i64.wrap (fa + (IntKind.i64.wrap (ak - 1)))) (IntKind.i64.wrap (fz + 1)))) (some (fa == 0))
def ub (a0 : List bs) : Nat → Int → Int → Option Bool
 | 0, _, _ => none
 | n + 1, fa, fz => Cn (ub a0 n) a0 fa fz
def Co (a0 : List bs) : Option Bool :=
 cond (((a0.length : Int) == 0) || (decide (20 < (a0.length : Int)))) (some false) (c2 fun n => ub a0 n 1 0)
def Cp (a0 : bs) (zg : Bool) : Option Bool :=
 cond zg (some (((a0.Number == 0) && (a0.Name == ([] : List UInt8))) && ((a0.bN.length : Int) == 0))) (cond (a0.Kind == 1) (some (a0.Number == 0)) (cond (a0.Kind == 3) (some ((a0.Number == 0) && (a0.Name == ([] : List UInt8)))) (cond (a0.Kind == 4) (some ((a0.Name == ([] : List UInt8)) && ((a0.bN.length : Int) == 0))) (cond (a0.Kind == 5) (some (a0.Name == ([] : List UInt8))) (some false)))))
def Hq (a0 : bs) : Option Bool :=
 cond (a0.Kind == 0) (Cp a0 true) (Cp a0 (a0.Kind == 2))
def Cq (dX : Int → Int → Option Int) (a0 : List bs) (a7 : Int) (aO : Int) : Option Int :=
 cond (decide (0 < aO)) ((bP a0 a7).bind fun ah => (zf ah).bind fun ak => dX (IntKind.i64.wrap (a7 + 1)) (IntKind.i64.wrap (aO + (IntKind.i64.wrap (ak - 1))))) (some a7)
def uc (a0 : List bs) : Nat → Int → Int → Option Int
 | 0, _, _ => none
 | n + 1, a7, aO => Cq (uc a0 n) a0 a7 aO
def zh (a0 : List bs) (R : Int) : Option Int :=
 c2 fun n => uc a0 n R 1
def zi (hb : Int → Int → Option Int) (a0 : aS) (R : Int) (wM : Int) (wN : Int) : Option Int :=
 hb wM (IntKind.i64.wrap (wN + 1))
def Cr (hb : Int → Int → Option Int) (a0 : aS) (R : Int) (eb : Int) (hB : Int) : Option Int :=
 cond (decide (hB < R)) ((bP a0.Body hB).bind fun ah => cond (ah.Kind == 4) ((zh a0.Body hB).bind fun ak => cond (decide (R < ak)) (zi hb a0 R (IntKind.i64.wrap (eb + 1)) hB) (zi hb a0 R eb hB)) (zi hb a0 R eb hB)) (some eb)
def sB (a0 : aS) (R : Int) : Nat → Int → Int → Option Int
 | 0, _, _ => none
 | n + 1, eb, hB => Cr (sB a0 R n) a0 R eb hB
def rr (a0 : aS) (R : Int) : Option Int :=
 c2 fun n => sB a0 R n a0.c_ 0
def Cs (a0 : ba) (R : Int) : Option Bool :=
 cond (a0.Kind == 0) ((lF a0.Value 0 63).bind fun ah => some ah) (cond (a0.Kind == 1) ((lF a0.Value 0 (IntKind.i64.wrap (R - 1))).bind fun ak => some ak) (cond (a0.Kind == 2) ((lF a0.Value 0 8).bind fun a6 => some a6) (cond (a0.Kind == 3) (some (a0.Value == 0)) (some false))))
def Ct (a0 : ba) : Option Int :=
 cond (a0.Kind == 2) (some 2) (cond (a0.Kind == 3) (some 1) (some 0))
def Cu (j1 : Int → Int → Option Bool) (a0 : List ba) (R : Int) (hv : Int) (nV : Int) : Option Bool :=
 cond (decide (nV < (a0.length : Int))) (cond (hv == 0) (some false) ((bP a0 nV).bind fun ah => (Cs ah R).bind fun ak => cond (!ak) (some false) ((Ct ah).bind fun a6 => j1 (IntKind.i64.wrap (hv + (IntKind.i64.wrap (a6 - 1)))) (IntKind.i64.wrap (nV + 1))))) (some (hv == 0))
def ud (a0 : List ba) (R : Int) : Nat → Int → Int → Option Bool
 | 0, _, _ => none
 | n + 1, hv, nV => Cu (ud a0 R n) a0 R hv nV
def Cv (a0 : List ba) (R : Int) (a2 : Int) : Option Bool :=
 cond (decide (a2 < (a0.length : Int))) (some false) (c2 fun n => ud a0 R n 1 0)
def Cw (W8 : Int → Int → Option Int) (ah : bs) (oC : Int) (oD : Int) : Option Int :=
 cond (decide (oD < (ah.bN.length : Int))) ((bP ah.bN oD).bind fun bl => (Cv bl oC 15).bind fun bq => cond (!bq) (some 8) (W8 oC (IntKind.i64.wrap (oD + 1)))) (some 0)
def ru (ah : bs) : Nat → Int → Int → Option Int
 | 0, _, _ => none
 | n + 1, oC, oD => Cw (ru ah n) ah oC oD
def pJ (R : aS) (a2 : Int) (ah : bs) (zj : Bool) : Option Int :=
 cond zj (some 6) ((rr R a2).bind fun a6 => cond ((ah.Kind == 4) && (decide (6 ≤ a6))) (some 7) (c2 fun n => ru ah n a6 0))
def rv (R : aS) (a2 : Int) (ah : bs) : Option Int :=
 cond (ah.Kind == 5) (cond (a2 == 0) (pJ R a2 ah true) ((bP R.Body (IntKind.i64.wrap (a2 - 1))).bind fun bL => pJ R a2 ah (bL.Kind != 1))) (pJ R a2 ah false)
def qF (a0 : List aS) (R : aS) (a2 : Int) (ah : bs) (zk : Bool) : Option Int :=
 cond zk (some 4) (cond (ah.Kind == 1) (cond ((decide (2 < (ah.bN.length : Int))) || ((decide (0 < (ah.bN.length : Int))) && (ah.Name == ([116, 97, 117] : List UInt8)))) (some 5) (rv R a2 ah)) (cond (ah.Kind == 3) (cond ((ah.bN.length : Int) != 1) (some 5) (rv R a2 ah)) (cond (ah.Kind == 5) ((bP a0 ah.Number).bind fun ch => cond ((ah.bN.length : Int) != ch.c_) (some 5) (rv R a2 ah)) (rv R a2 ah))))
def wO (a0 : List aS) (R : aS) (a2 : Int) (ah : bs) (zl : Bool) : Option Int :=
 cond zl (some 3) (cond (ah.Kind == 4) ((lF ah.Number 1 7).bind fun dv => cond (!dv) (qF a0 R a2 ah true) (cond (ah.Kind == 5) ((lF ah.Number 0 (IntKind.i64.wrap ((a0.length : Int) - 1))).bind fun dk => qF a0 R a2 ah (!dk)) (qF a0 R a2 ah false))) (cond (ah.Kind == 5) ((lF ah.Number 0 (IntKind.i64.wrap ((a0.length : Int) - 1))).bind fun dt => qF a0 R a2 ah (!dt)) (qF a0 R a2 ah false)))
def pK (a0 : List aS) (R : aS) (a2 : Int) : Option Int :=
 (bP R.Body a2).bind fun ah => (Hq ah).bind fun ak => cond (!ak) (some 2) (cond (ah.Kind == 1) ((wL ah.Name).bind fun eW => wO a0 R a2 ah (!eW)) (wO a0 R a2 ah false))
def wP (iz : Int → Option (Int × Int)) (a0 : List aS) (R : aS) (mQ : Int) : Option (Int × Int) :=
 cond (decide (mQ < (R.Body.length : Int))) ((pK a0 R mQ).bind fun ak => cond (decide (0 < ak)) (some (mQ, ak)) (iz (IntKind.i64.wrap (mQ + 1)))) (some (0, 0))
def qG (a0 : List aS) (R : aS) : Nat → Int → Option (Int × Int)
 | 0, _ => none
 | n + 1, mQ => wP (qG a0 R n) a0 R mQ
def ry (a0 : List aS) (R : aS) : Option (Int × Int) :=
 (Co R.Body).bind fun ah => cond (!ah) (some (0, 1)) (c2 fun n => qG a0 R n 0)
def Cx (iz : Int → Option Bool) (W9 : Int → Int → Option Bool) (a0 : List aS) (mR : Int) (nW : Int) : Option Bool :=
 cond (decide (nW < mR)) ((bP a0 nW).bind fun bl => (bP a0 mR).bind fun bq => cond (bl.Name == bq.Name) (some false) (W9 mR (IntKind.i64.wrap (nW + 1)))) (iz (IntKind.i64.wrap (mR + 1)))
def ue (iz : Int → Option Bool) (a0 : List aS) : Nat → Int → Int → Option Bool
 | 0, _, _ => none
 | n + 1, mR, nW => Cx iz (ue iz a0 n) a0 mR nW
def Cy (Hr : Int → Option Bool) (a0 : List aS) (oE : Int) : Option Bool :=
 cond (decide (oE < (a0.length : Int))) ((bP a0 oE).bind fun bL => (ry a0 bL).bind fun ch => cond (decide (0 < ch.2)) (some false) (Hr (IntKind.i64.wrap (oE + 1)))) (some true)
def sC (a0 : List aS) : Nat → Int → Option Bool
 | 0, _ => none
 | n + 1, oE => Cy (sC a0 n) a0 oE
def Cz (iz : Int → Option Bool) (a0 : List aS) (fy : Int) : Option Bool :=
 cond (decide (fy < (a0.length : Int))) ((bP a0 fy).bind fun ah => (wL ah.Name).bind fun ak => cond (!ak) (some false) ((lF ah.c_ 0 3).bind fun a6 => cond (!a6) (some false) (c2 fun n => ue iz a0 n fy 0))) (c2 fun n => sC a0 n 0)
def oF (a0 : List aS) : Nat → Int → Option Bool
 | 0, _ => none
 | n + 1, fy => Cz (oF a0 n) a0 fy
def CA (a0 : List aS) : Option Bool :=
 cond (((a0.length : Int) == 0) || (decide (4 < (a0.length : Int)))) (some false) (c2 fun n => oF a0 n 0)
def CB (dX : Int → Option Bool) (a0 : List Int) (oG : Int) : Option Bool :=
 cond (decide (oG < (a0.length : Int))) ((bP a0 oG).bind fun ah => (lF ah 0 63).bind fun ak => cond (!ak) (some false) (dX (IntKind.i64.wrap (oG + 1)))) (some true)
def uf (a0 : List Int) : Nat → Int → Option Bool
 | 0, _ => none
 | n + 1, oG => CB (uf a0 n) a0 oG
def CC (a0 : List Int) : Option Bool :=
 c2 fun n => uf a0 n 0
def wQ (a0 : List aS) (R : dP) : Option Bool :=
 (lF R.dO 0 (IntKind.i64.wrap ((a0.length : Int) - 1))).bind fun ah => cond (!ah) (some false) ((bP a0 R.dO).bind fun ak => (lF R.Part 0 (IntKind.i64.wrap ((ak.Body.length : Int) - 1))).bind fun a6 => cond (!a6) (some false) ((bP ak.Body R.Part).bind fun bl => cond (bl.Kind == 5) (some false) ((rr ak R.Part).bind fun bq => cond ((R.cD.length : Int) == bq) ((CC R.cD).bind fun bL => some bL) (some false))))
def zm (a0 : List Int) : Option ((List Int)) :=
 (room 8 (a0.length)).bind fun _ => some a0
def oH (a0 : Bool) : Option Int :=
 cond a0 (some 1) (some 0)
def CD (dX : Int → Int → Option Int) (a0 : List ba) (a7 : Int) (aO : Int) : Option Int :=
 cond (decide (0 < aO)) ((bP a0 a7).bind fun ah => (Ct ah).bind fun ak => dX (IntKind.i64.wrap (a7 + 1)) (IntKind.i64.wrap (aO + (IntKind.i64.wrap (ak - 1))))) (some a7)
def ug (a0 : List ba) : Nat → Int → Int → Option Int
 | 0, _, _ => none
 | n + 1, a7, aO => CD (ug a0 n) a0 a7 aO
def CE (a0 : List ba) (R : Int) : Option Int :=
 c2 fun n => ug a0 n R 1
def CF (a0 : Int) (R : Int) (a2 : Int) : Option Int :=
 cond (a0 == 0) (some (Int.tmod (IntKind.i64.wrap (R + a2)) 64)) (cond (a0 == 1) (some (Int.tmod (IntKind.i64.wrap ((IntKind.i64.wrap (R - a2)) + 64)) 64)) (cond (a0 == 2) (some (Int.tmod (IntKind.i64.wrap (R * a2)) 64)) (cond (a0 == 3) ((oH (R == a2)).bind fun ah => some ah) (cond (a0 == 4) ((oH (R != a2)).bind fun ak => some ak) (cond (a0 == 5) ((oH (decide (R < a2))).bind fun a6 => some a6) (cond (a0 == 6) ((oH (decide (R ≤ a2))).bind fun bl => some bl) (cond (a0 == 7) (cond (R != 0) ((oH (a2 != 0)).bind fun bq => some bq) ((oH false).bind fun bL => some bL)) (cond (R != 0) ((oH true).bind fun ch => some ch) ((oH (a2 != 0)).bind fun dv => some dv)))))))))
def Hs (wR : (List ba) → (List Int) → Int → Option Int) (a0 : List ba) (R : List Int) (a2 : Int) : Option Int :=
 (bP a0 a2).bind fun ah => cond (ah.Kind == 0) (some ah.Value) (cond (ah.Kind == 1) ((bP R ah.Value).bind fun ak => some ak) (cond (ah.Kind == 3) ((wR a0 R (IntKind.i64.wrap (a2 + 1))).bind fun a6 => (oH (a6 == 0)).bind fun bl => some bl) ((wR a0 R (IntKind.i64.wrap (a2 + 1))).bind fun bq => (CE a0 (IntKind.i64.wrap (a2 + 1))).bind fun bL => (wR a0 R bL).bind fun ch => (CF ah.Value bq ch).bind fun dv => some dv)))
def uh : Nat → (List ba) → (List Int) → Int → Option Int
 | 0, _, _, _ => none
 | n + 1, a0, R, a2 => Hs (uh n) a0 R a2
def Ht (a0 : List ba) (R : List Int) (a2 : Int) : Option Int :=
 c2 fun n => uh n a0 R a2
def ui (a0 : List ba) (R : List Int) : Option Int :=
 (Ht a0 R 0).bind fun ah => some ah
def CG (hb : (List Int) → Int → Option ((List Int))) (a0 : List (List ba)) (R : List Int) (eb : List Int) (hB : Int) : Option ((List Int)) :=
 cond (decide (hB < (a0.length : Int))) ((bP a0 hB).bind fun ah => (ui ah R).bind fun ak => (room 8 (eb.length + 1)).bind fun _ => hb (eb ++ [ak]) (IntKind.i64.wrap (hB + 1))) (some eb)
def uj (a0 : List (List ba)) (R : List Int) : Nat → (List Int) → Int → Option ((List Int))
 | 0, _, _ => none
 | n + 1, eb, hB => CG (uj a0 R n) a0 R eb hB
def zn (a0 : List (List ba)) (R : List Int) : Option ((List Int)) :=
 c2 fun n => uj a0 R n [] 0
def CH (j1 : (List UInt8) → Int → Option ((List UInt8))) (a0 : Int) (rz : List UInt8) (sD : Int) (oI : Int) : Option ((List UInt8)) :=
 (room 1 (rz.length + 1)).bind fun _ => j1 (rz ++ [(mx (IntKind.i64.wrap (48 + oI)))]) (IntKind.i64.wrap (Int.tdiv sD 10))
def NM (W_ : (List UInt8) → Int → Option ((List UInt8))) (lG : List UInt8) (mo : List UInt8) (np : Int) : Option ((List UInt8)) :=
 cond (decide (0 ≤ np)) ((bP lG np).bind fun ah => (room 1 (mo.length + 1)).bind fun _ => W_ (mo ++ [ah]) (IntKind.i64.wrap (np - 1))) (some mo)
def CI (lG : List UInt8) : Nat → (List UInt8) → Int → Option ((List UInt8))
 | 0, _, _ => none
 | n + 1, mo, np => NM (CI lG n) lG mo np
def sE (lG : List UInt8) : Option ((List UInt8)) :=
 c2 fun n => CI lG n [] (IntKind.i64.wrap ((lG.length : Int) - 1))
def CJ (j1 : (List UInt8) → Int → Option ((List UInt8))) (a0 : Int) (fa : List UInt8) (fz : Int) : Option ((List UInt8)) :=
 cond (fz != 0) (cond (decide ((Int.tmod fz 10) < 0)) (CH j1 a0 fa fz (IntKind.i64.wrap (0 - (Int.tmod fz 10)))) (CH j1 a0 fa fz (Int.tmod fz 10))) (cond (decide (a0 < 0)) ((room 1 (fa.length + 1)).bind fun _ => sE (fa ++ [(45 : UInt8)])) (sE fa))
def qH (a0 : Int) : Nat → (List UInt8) → Int → Option ((List UInt8))
 | 0, _, _ => none
 | n + 1, fa, fz => CJ (qH a0 n) a0 fa fz
def zo (a0 : Int) : Option ((List UInt8)) :=
 cond (a0 == 0) (some ([48] : List UInt8)) (c2 fun n => qH a0 n [] a0)
def CK (j1 : (List UInt8) → Int → Option ((List UInt8))) (a0 : List Int) (rA : List UInt8) (rB : Int) : Option ((List UInt8)) :=
 (bP a0 rB).bind fun ah => (zo ah).bind fun ak => (iF (rA.length + ak.length)).bind fun _ => j1 (rA ++ ak) (IntKind.i64.wrap (rB + 1))
def CL (j1 : (List UInt8) → Int → Option ((List UInt8))) (a0 : List Int) (fa : List UInt8) (fz : Int) : Option ((List UInt8)) :=
 cond (decide (fz < (a0.length : Int))) (cond (decide (0 < fz)) ((iF (fa.length + 1)).bind fun _ => CK j1 a0 (fa ++ ([44] : List UInt8)) fz) (CK j1 a0 fa fz)) (some fa)
def sF (a0 : List Int) : Nat → (List UInt8) → Int → Option ((List UInt8))
 | 0, _, _ => none
 | n + 1, fa, fz => CL (sF a0 n) a0 fa fz
def CM (a0 : List Int) : Option ((List UInt8)) :=
 cond ((a0.length : Int) == 0) (some ([45] : List UInt8)) (c2 fun n => sF a0 n ([] : List UInt8) 0)
def CN (a0 : List UInt8) (R : List Int) : Option ((List UInt8)) :=
 cond ((R.length : Int) == 0) (some a0) ((iF (a0.length + 1)).bind fun _ => (CM R).bind fun ah => (iF ((a0 ++ ([40] : List UInt8)).length + ah.length)).bind fun _ => (iF (((a0 ++ ([40] : List UInt8)) ++ ah).length + 1)).bind fun _ => some (((a0 ++ ([40] : List UInt8)) ++ ah) ++ ([41] : List UInt8)))
def CO (iz : Int → Option Bool) (a0 : List Int) (R : List Int) (cE : Int) : Option Bool :=
 cond (decide (cE < (a0.length : Int))) ((bP a0 cE).bind fun ah => (bP R cE).bind fun ak => cond (ah != ak) (some false) (iz (IntKind.i64.wrap (cE + 1)))) (some true)
def uk (a0 : List Int) (R : List Int) : Nat → Int → Option Bool
 | 0, _ => none
 | n + 1, cE => CO (uk a0 R n) a0 R cE
def CP (a0 : List Int) (R : List Int) : Option Bool :=
 cond ((a0.length : Int) != (R.length : Int)) (some false) (c2 fun n => uk a0 R n 0)
def Hu (a0 : dP) (R : dP) : Option Bool :=
 cond (a0.dO == R.dO) (cond (a0.Part == R.Part) ((CP a0.cD R.cD).bind fun ah => some ah) (some false)) (some false)
def CQ (dX : Int → Option ((List bd))) (a0 : List bd) (R : bd) (aO : Int) : Option ((List bd)) :=
 cond (decide (aO < (a0.length : Int))) ((bP a0 aO).bind fun ah => cond (ah.Label == R.Label) ((Hu ah.Next R.Next).bind fun ak => cond ak (some a0) (dX (IntKind.i64.wrap (aO + 1)))) (dX (IntKind.i64.wrap (aO + 1)))) ((room 56 (a0.length + 1)).bind fun _ => some (a0 ++ [R]))
def um (a0 : List bd) (R : bd) : Nat → Int → Option ((List bd))
 | 0, _ => none
 | n + 1, aO => CQ (um a0 R n) a0 R aO
def CR (a0 : List bd) (R : bd) : Option ((List bd)) :=
 c2 fun n => um a0 R n 0
def uo (jM : (List aS) → Int → Int → (List Int) → (List bd) → Option ((List bd))) (a0 : List aS) (R : Int) (a2 : Int) (a3 : List Int) (wS : List bd) : Option ((List bd)) :=
 some wS
def zp (jM : (List aS) → Int → Int → (List Int) → (List bd) → Option ((List bd))) (a3 : List Int) (a4 : List bd) (ak : bs) (uq : Int) (ur : Int) (uu : List Int) : Option ((List bd)) :=
 (zn ak.bN a3).bind fun bl => (CN ak.Name bl).bind fun bq => (CR a4 (bd.mk bq (dP.mk uq ur uu))).bind fun bL => some bL
def CS (jM : (List aS) → Int → Int → (List Int) → (List bd) → Option ((List bd))) (Hr : (List bd) → Int → Option ((List bd))) (a0 : List aS) (R : Int) (a2 : Int) (a3 : List Int) (ak : bs) (oJ : List bd) (i6 : Int) : Option ((List bd)) :=
 cond (decide (i6 ≤ ak.Number)) ((zm a3).bind fun hK => (room 8 (hK.length + 1)).bind fun _ => (jM a0 R (IntKind.i64.wrap (a2 + 1)) (hK ++ [i6]) oJ).bind fun iO => Hr iO (IntKind.i64.wrap (i6 + 1))) (uo jM a0 R a2 a3 oJ)
def uv (jM : (List aS) → Int → Int → (List Int) → (List bd) → Option ((List bd))) (a0 : List aS) (R : Int) (a2 : Int) (a3 : List Int) (ak : bs) : Nat → (List bd) → Int → Option ((List bd))
 | 0, _, _ => none
 | n + 1, oJ, i6 => CS jM (uv jM a0 R a2 a3 ak n) a0 R a2 a3 ak oJ i6
def sG (jM : (List aS) → Int → Int → (List Int) → (List bd) → Option ((List bd))) (a0 : List aS) (R : Int) (a2 : Int) (a3 : List Int) (a4 : List bd) : Option ((List bd)) :=
 (bP a0 R).bind fun ah => (bP ah.Body a2).bind fun ak => cond (decide (200 < (a4.length : Int))) (some a4) (cond (ak.Kind == 1) ((zm a3).bind fun a6 => (bP ah.Body (IntKind.i64.wrap (a2 + 1))).bind fun ch => cond (ch.Kind == 5) ((zn ch.bN a3).bind fun dv => zp jM a3 a4 ak ch.Number 0 dv) (zp jM a3 a4 ak R (IntKind.i64.wrap (a2 + 1)) a6)) (cond (ak.Kind == 2) ((jM a0 R (IntKind.i64.wrap (a2 + 1)) a3 a4).bind fun dk => (zh ah.Body (IntKind.i64.wrap (a2 + 1))).bind fun dt => (jM a0 R dt a3 dk).bind fun eW => some eW) (cond (ak.Kind == 3) ((bP ak.bN 0).bind fun iP => (ui iP a3).bind fun kg => cond (kg != 0) ((jM a0 R (IntKind.i64.wrap (a2 + 1)) a3 a4).bind fun gP => some gP) (uo jM a0 R a2 a3 a4)) (cond (ak.Kind == 4) (c2 fun n => uv jM a0 R a2 a3 ak n a4 0) (uo jM a0 R a2 a3 a4)))))
def oK : Nat → (List aS) → Int → Int → (List Int) → (List bd) → Option ((List bd))
 | 0, _, _, _, _, _ => none
 | n + 1, a0, R, a2, a3, a4 => sG (oK n) a0 R a2 a3 a4
def CT (a0 : List aS) (R : Int) (a2 : Int) (a3 : List Int) (a4 : List bd) : Option ((List bd)) :=
 c2 fun n => oK n a0 R a2 a3 a4
def Hv (a0 : List aS) (ie : Int) (j2 : Int) (j3 : List Int) : Option ((List bd) × Bool) :=
 (CT a0 ie j2 j3 []).bind fun ah => some (ah, (decide ((ah.length : Int) ≤ 200)))
def CU (a0 : List aS) (R : dP) : Option ((List bd) × Int) :=
 (CA a0).bind fun ah => cond (!ah) (some ([], 1)) ((wQ a0 R).bind fun ak => cond (!ak) (some ([], 1)) ((Hv a0 R.dO R.Part R.cD).bind fun a6 => cond (!a6.2) (some ([], 5)) (some (a6.1, 0))))
def j4 (a0 : Int) (R : Int) (a2 : Int) : Option Bool :=
 some ((decide (R ≤ a0)) && (decide (a0 ≤ a2)))
def Hw (a0 : aS) : Option Bool :=
 (j4 a0.c_ 0 3).bind fun ah => some (!ah)
def CV (dX : Int → Option Int) (a0 : List aS) (dH : Int) : Option Int :=
 cond (decide (dH < (a0.length : Int))) ((bP a0 dH).bind fun ah => (Hw ah).bind fun ak => cond ak (some dH) (dX (IntKind.i64.wrap (dH + 1)))) (some (-1))
def wT (a0 : List aS) : Nat → Int → Option Int
 | 0, _ => none
 | n + 1, dH => CV (wT a0 n) a0 dH
def Hx (a0 : List aS) : Option Int :=
 c2 fun n => wT a0 n 0
def Hy (a0 : List aS) : Option Bool :=
 (Hx a0).bind fun ah => some (decide (0 ≤ ah))
def CW (a0 : List aS) : Option Bool :=
 (Hy a0).bind fun ah => some (!ah)
def Hz (a0 : UInt8) : Option Bool :=
 some ((decide (48 ≤ (a0.toNat : Int))) && (decide ((a0.toNat : Int) ≤ 57)))
def zq (dX : Int → Option Bool) (a0 : List UInt8) (lH : Int) : Option Bool :=
 cond (decide (lH < (a0.length : Int))) ((bP a0 lH).bind fun ah => cond (!((decide (97 ≤ (ah.toNat : Int))) && (decide ((ah.toNat : Int) ≤ 122)))) (cond (lH == 0) (some false) ((Hz ah).bind fun ak => cond (!ak) (some false) (dX (IntKind.i64.wrap (lH + 1))))) (dX (IntKind.i64.wrap (lH + 1)))) (some ((decide (1 ≤ (a0.length : Int))) && (decide ((a0.length : Int) ≤ 10))))
def rC (a0 : List UInt8) : Nat → Int → Option Bool
 | 0, _ => none
 | n + 1, lH => zq (rC a0 n) a0 lH
def zr (a0 : List UInt8) : Option Bool :=
 c2 fun n => rC a0 n 0
def HA (a0 : aS) (R : List UInt8) : Option Bool :=
 some (a0.Name == R)
def CX (dX : Int → Option Int) (a0 : List aS) (R : List UInt8) (dH : Int) : Option Int :=
 cond (decide (dH < (a0.length : Int))) ((bP a0 dH).bind fun ah => (HA ah R).bind fun ak => cond ak (some dH) (dX (IntKind.i64.wrap (dH + 1)))) (some (-1))
def wU (a0 : List aS) (R : List UInt8) : Nat → Int → Option Int
 | 0, _ => none
 | n + 1, dH => CX (wU a0 R n) a0 R dH
def HB (a0 : List aS) (R : List UInt8) : Option Int :=
 c2 fun n => wU a0 R n 0
def CY (a0 : List aS) (R : List UInt8) : Option Int :=
 (HB a0 R).bind fun ah => some ah
def zs (a0 : bs) (gb : Bool) : Option Int :=
 cond gb (some 1) (cond (a0.Kind == 2) (some 2) (some 0))
def zt (a0 : bs) : Option Int :=
 cond (a0.Kind == 1) (zs a0 true) (cond (a0.Kind == 3) (zs a0 true) (zs a0 (a0.Kind == 4)))
def CZ (dX : Int → Int → Option Int) (a0 : aS) (a7 : Int) (aO : Int) : Option Int :=
 cond (decide (0 < aO)) (cond (decide ((a0.Body.length : Int) ≤ a7)) (some (-1)) ((bP a0.Body a7).bind fun ah => (zt ah).bind fun ak => dX (IntKind.i64.wrap (a7 + 1)) (IntKind.i64.wrap (aO + (IntKind.i64.wrap (ak - 1)))))) (some a7)
def uw (a0 : aS) : Nat → Int → Int → Option Int
 | 0, _, _ => none
 | n + 1, a7, aO => CZ (uw a0 n) a0 a7 aO
def zu (a0 : aS) (R : Int) : Option Int :=
 c2 fun n => uw a0 n R 1
def C0 (mq : Int → cn → (List cn) → aS → Option (Int × (List cn))) (Xa : (List cn) → Int → Int → Option (Int × (List cn))) (a3 : aS) (lf : Int) (ak : bs) (a6 : Int) (pL : List cn) (nX : Int) (oL : Int) : Option (Int × (List cn)) :=
 cond (decide (oL < a6)) ((mq nX (cn.mk lf (ak.Kind == 1)) pL a3).bind fun bl => Xa bl.2 bl.1 (IntKind.i64.wrap (oL + 1))) (some (nX, pL))
def sH (mq : Int → cn → (List cn) → aS → Option (Int × (List cn))) (a3 : aS) (lf : Int) (ak : bs) (a6 : Int) : Nat → (List cn) → Int → Int → Option (Int × (List cn))
 | 0, _, _, _ => none
 | n + 1, pL, nX, oL => C0 mq (sH mq a3 lf ak a6 n) a3 lf ak a6 pL nX oL
def C1 (mq : Int → cn → (List cn) → aS → Option (Int × (List cn))) (a0 : Int) (R : cn) (a2 : List cn) (a3 : aS) (ak : bs) (lf : Int) : Option (Int × (List cn)) :=
 (zt ak).bind fun a6 => c2 fun n => sH mq a3 lf ak a6 n (List.set a2 (Int.toNat a0) R) (IntKind.i64.wrap (a0 + 1)) 0
def HC (mq : Int → cn → (List cn) → aS → Option (Int × (List cn))) (a0 : Int) (R : cn) (a2 : List cn) (a3 : aS) : Option (Int × (List cn)) :=
 (bP a2 a0).bind fun ah => (bP a3.Body a0).bind fun ak => cond (ak.Kind == 4) (C1 mq a0 R a2 a3 ak (IntKind.i64.wrap (R.scope + 1))) (C1 mq a0 R a2 a3 ak R.scope)
def ux : Nat → Int → cn → (List cn) → aS → Option (Int × (List cn))
 | 0, _, _, _, _ => none
 | n + 1, a0, R, a2, a3 => HC (ux n) a0 R a2 a3
def C2 (a0 : Int) (R : cn) (a2 : List cn) (a3 : aS) : Option (Int × (List cn)) :=
 c2 fun n => ux n a0 R a2 a3
def wV (a0 : aS) : Option ((List cn)) :=
 (o9 16 (a0.Body.length : Int)).bind fun _ => (C2 0 (cn.mk a0.c_ false) (List.replicate (Int.toNat (a0.Body.length : Int)) (cn.mk 0 false)) a0).bind fun ah => some ah.2
def HD (a0 : bs) : Option Bool :=
 (j4 a0.Kind 0 5).bind fun ah => some (((ah && (((a0.Kind == 4) || (a0.Kind == 5)) || (a0.Number == 0))) && ((a0.Kind == 1) || (a0.Name == ([] : List UInt8)))) && ((((a0.Kind == 1) || (a0.Kind == 3)) || (a0.Kind == 5)) || ((a0.bN.length : Int) == 0)))
def zv (a0 : List UInt8) : Option Bool :=
 (zr a0).bind fun ah => some (ah && (!(a0 == ([116, 97, 117] : List UInt8))))
def uy (a0 : Int) (R : Int) : Option Bool :=
 (j4 a0 0 (IntKind.i64.wrap (R - 1))).bind fun ah => some ah
def HE (a0 : bs) (R : List aS) : Option Bool :=
 cond (a0.Kind == 1) (some (((a0.bN.length : Int) == 0) || ((!(a0.Name == ([116, 97, 117] : List UInt8))) && (decide ((a0.bN.length : Int) ≤ 2))))) (cond (a0.Kind == 3) (some ((a0.bN.length : Int) == 1)) (cond (a0.Kind == 5) ((bP R a0.Number).bind fun ah => some ((a0.bN.length : Int) == ah.c_)) (some true)))
def zw (a0 : Int) : Option Bool :=
 (j4 a0 0 63).bind fun ah => some ah
def C3 (a0 : ba) (R : Int) : Option Bool :=
 cond (a0.Kind == 0) ((zw a0.Value).bind fun ah => some ah) (cond (a0.Kind == 1) ((j4 a0.Value 0 (IntKind.i64.wrap (R - 1))).bind fun ak => some ak) (cond (a0.Kind == 2) ((j4 a0.Value 0 8).bind fun a6 => some a6) (cond (a0.Kind == 3) (some (a0.Value == 0)) (some false))))
def C4 (a0 : ba) : Option Int :=
 cond (a0.Kind == 2) (some 2) (cond (a0.Kind == 3) (some 1) (some 0))
def C5 (j1 : Int → Int → Option Bool) (a0 : List ba) (R : Int) (hv : Int) (nY : Int) : Option Bool :=
 cond (decide (nY < (a0.length : Int))) ((bP a0 nY).bind fun bl => cond (hv == 0) (some false) ((C3 bl R).bind fun bq => cond (!bq) (some false) ((C4 bl).bind fun bL => j1 (IntKind.i64.wrap (hv + (IntKind.i64.wrap (bL - 1)))) (IntKind.i64.wrap (nY + 1))))) (some (hv == 0))
def uz (a0 : List ba) (R : Int) : Nat → Int → Int → Option Bool
 | 0, _, _ => none
 | n + 1, hv, nY => C5 (uz a0 R n) a0 R hv nY
def C6 (a0 : List ba) (R : Int) (a2 : Int) : Option Bool :=
 (j4 R 0 29).bind fun ah => cond (!ah) (some false) ((j4 a2 1 60).bind fun ak => cond (!ak) (some false) ((j4 (a0.length : Int) 1 a2).bind fun a6 => cond (!a6) (some false) (c2 fun n => uz a0 R n 1 0)))
def HF (a0 : List ba) (R : cn) : Option Bool :=
 (C6 a0 R.scope 15).bind fun ah => some (!ah)
def C7 (dX : Int → Option Int) (a0 : List (List ba)) (R : cn) (dH : Int) : Option Int :=
 cond (decide (dH < (a0.length : Int))) ((bP a0 dH).bind fun ah => (HF ah R).bind fun ak => cond ak (some dH) (dX (IntKind.i64.wrap (dH + 1)))) (some (-1))
def wW (a0 : List (List ba)) (R : cn) : Nat → Int → Option Int
 | 0, _ => none
 | n + 1, dH => C7 (wW a0 R n) a0 R dH
def HG (a0 : List (List ba)) (R : cn) : Option Int :=
 c2 fun n => wW a0 R n 0
def C8 (a0 : List (List ba)) (R : cn) : Option Bool :=
 (HG a0 R).bind fun ah => some (decide (0 ≤ ah))
def uA (a0 : bs) (R : List aS) (a2 : cn) (zx : Bool) : Option Int :=
 cond zx (some 4) ((HE a0 R).bind fun ak => cond (!ak) (some 5) (cond ((a0.Kind == 5) && (!a2.behind)) (some 6) (cond ((a0.Kind == 4) && (decide (6 ≤ a2.scope))) (some 7) ((C8 a0.bN a2).bind fun a6 => cond a6 (some 8) (some 0)))))
def zy (a0 : bs) (R : List aS) (a2 : cn) (zz : Bool) : Option Int :=
 cond zz (some 3) (cond (a0.Kind == 4) ((j4 a0.Number 1 7).bind fun bl => cond (!bl) (uA a0 R a2 true) (cond (a0.Kind == 5) ((uy a0.Number (R.length : Int)).bind fun bq => uA a0 R a2 (!bq)) (uA a0 R a2 false))) (cond (a0.Kind == 5) ((uy a0.Number (R.length : Int)).bind fun bL => uA a0 R a2 (!bL)) (uA a0 R a2 false)))
def zA (a0 : bs) (R : List aS) (a2 : cn) : Option Int :=
 (HD a0).bind fun ah => cond (!ah) (some 2) (cond (a0.Kind == 1) (cond (!(a0.Name == ([116, 97, 117] : List UInt8))) ((zv a0.Name).bind fun ch => zy a0 R a2 (!ch)) (zy a0 R a2 false)) (zy a0 R a2 false))
def zB (j1 : Int → Option (Int × Int)) (a0 : List aS) (R : aS) (a6 : (List cn)) (l1 : Int) : Option (Int × Int) :=
 cond (decide (l1 < (R.Body.length : Int))) ((bP R.Body l1).bind fun bl => (bP a6 l1).bind fun bq => (zA bl a0 bq).bind fun bL => cond (bL != 0) (some (l1, bL)) (j1 (IntKind.i64.wrap (l1 + 1)))) (some (0, 0))
def sI (a0 : List aS) (R : aS) (a6 : (List cn)) : Nat → Int → Option (Int × Int)
 | 0, _ => none
 | n + 1, l1 => zB (sI a0 R a6 n) a0 R a6 l1
def zC (a0 : List aS) (R : aS) : Option (Int × Int) :=
 (j4 (R.Body.length : Int) 1 20).bind fun ah => cond (!ah) (some (0, 1)) ((zu R 0).bind fun ak => cond (ak != (R.Body.length : Int)) (some (0, 1)) ((wV R).bind fun a6 => c2 fun n => sI a0 R a6 n 0))
def C9 (iz : Int → Option Bool) (a0 : List aS) (mS : Int) : Option Bool :=
 cond (decide (mS < (a0.length : Int))) ((bP a0 mS).bind fun a6 => (zr a6.Name).bind fun bl => cond (!bl) (some false) ((kB a0 0 mS).bind fun bq => (CY bq a6.Name).bind fun bL => cond (decide (0 ≤ bL)) (some false) ((zC a0 a6).bind fun ch => cond (ch.2 != 0) (some false) (iz (IntKind.i64.wrap (mS + 1)))))) (some true)
def uB (a0 : List aS) : Nat → Int → Option Bool
 | 0, _ => none
 | n + 1, mS => C9 (uB a0 n) a0 mS
def C_ (a0 : List aS) : Option Bool :=
 (j4 (a0.length : Int) 1 4).bind fun ah => cond (!ah) (some false) ((CW a0).bind fun ak => cond (!ak) (some false) (c2 fun n => uB a0 n 0))
def HH (a0 : Int) : Option Bool :=
 (zw a0).bind fun ah => some (!ah)
def Da (dX : Int → Option Int) (a0 : List Int) (dH : Int) : Option Int :=
 cond (decide (dH < (a0.length : Int))) ((bP a0 dH).bind fun ah => (HH ah).bind fun ak => cond ak (some dH) (dX (IntKind.i64.wrap (dH + 1)))) (some (-1))
def wX (a0 : List Int) : Nat → Int → Option Int
 | 0, _ => none
 | n + 1, dH => Da (wX a0 n) a0 dH
def HI (a0 : List Int) : Option Int :=
 c2 fun n => wX a0 n 0
def HJ (a0 : List Int) : Option Bool :=
 (HI a0).bind fun ah => some (decide (0 ≤ ah))
def zD (a0 : List Int) : Option Bool :=
 (HJ a0).bind fun ah => some (!ah)
def Db (a0 : List aS) (R : dP) : Option Bool :=
 (uy R.dO (a0.length : Int)).bind fun ah => cond (!ah) (some false) ((bP a0 R.dO).bind fun ak => (uy R.Part (ak.Body.length : Int)).bind fun a6 => cond (!a6) (some false) ((bP ak.Body R.Part).bind fun bl => cond (bl.Kind != 5) ((wV ak).bind fun bq => (bP bq R.Part).bind fun bL => cond ((R.cD.length : Int) == bL.scope) ((zD R.cD).bind fun ch => some ch) (some false)) (some false)))
def HK (a0 : List aS) (R : dP) : Option Bool :=
 (C_ a0).bind fun ah => cond ah ((Db a0 R).bind fun ak => some ak) (some false)
def Dc (oM : (List ba) → Option (ba × (List cq) × (List ba))) (p9 : (List cq) → (List ba) → Int → Option (ba × (List cq) × (List ba))) (ah : ba) (a6 : Int) (mT : List cq) (oN : List ba) (nZ : Int) : Option (ba × (List cq) × (List ba)) :=
 cond (decide (nZ < a6)) ((oM oN).bind fun bl => (room 8 (mT.length + 1)).bind fun _ => p9 (mT ++ [(cq.mk bl.1 bl.2.1)]) bl.2.2 (IntKind.i64.wrap (nZ + 1))) (some (ah, mT, oN))
def sJ (oM : (List ba) → Option (ba × (List cq) × (List ba))) (ah : ba) (a6 : Int) : Nat → (List cq) → (List ba) → Int → Option (ba × (List cq) × (List ba))
 | 0, _, _, _ => none
 | n + 1, mT, oN, nZ => Dc oM (sJ oM ah a6 n) ah a6 mT oN nZ
def HL (oM : (List ba) → Option (ba × (List cq) × (List ba))) (a0 : List ba) : Option (ba × (List cq) × (List ba)) :=
 (bP a0 0).bind fun ah => (kB a0 1 (a0.length : Int)).bind fun ak => (C4 ah).bind fun a6 => c2 fun n => sJ oM ah a6 n [] ak 0
def wY : Nat → (List ba) → Option (ba × (List cq) × (List ba))
 | 0, _ => none
 | n + 1, a0 => HL (wY n) a0
def HM (a0 : List ba) : Option (ba × (List cq) × (List ba)) :=
 c2 fun n => wY n a0
def Dd (a0 : List ba) : Option (ba × (List cq)) :=
 (HM a0).bind fun ah => some (ah.1, ah.2.1)
def oO (a0 : Bool) : Option Int :=
 cond a0 (some 1) (some 0)
def De (a0 : Int) (R : Int) (a2 : Int) : Option Int :=
 cond (a0 == 0) (some (Int.tmod (IntKind.i64.wrap (R + a2)) 64)) (cond (a0 == 1) (some (Int.tmod (IntKind.i64.wrap ((IntKind.i64.wrap (R - a2)) + 64)) 64)) (cond (a0 == 2) (some (Int.tmod (IntKind.i64.wrap (R * a2)) 64)) (cond (a0 == 3) ((oO (R == a2)).bind fun ah => some ah) (cond (a0 == 4) ((oO (R != a2)).bind fun ak => some ak) (cond (a0 == 5) ((oO (decide (R < a2))).bind fun a6 => some a6) (cond (a0 == 6) ((oO (decide (R ≤ a2))).bind fun bl => some bl) (cond (a0 == 7) (cond (R != 0) ((oO (a2 != 0)).bind fun bq => some bq) ((oO false).bind fun bL => some bL)) (cond (R != 0) ((oO true).bind fun ch => some ch) ((oO (a2 != 0)).bind fun dv => some dv)))))))))
def HN (wZ : cq → (List Int) → Option Int) (a0 : cq) (R : List Int) : Option Int :=
 cond (a0.term.Kind == 0) (some a0.term.Value) (cond (a0.term.Kind == 1) ((bP R a0.term.Value).bind fun ah => some ah) (cond (a0.term.Kind == 3) ((bP a0.args 0).bind fun ak => (wZ ak R).bind fun a6 => (oO (a6 == 0)).bind fun bl => some bl) ((bP a0.args 0).bind fun bq => (wZ bq R).bind fun bL => (bP a0.args 1).bind fun ch => (wZ ch R).bind fun dv => (De a0.term.Value bL dv).bind fun dk => some dk)))
def uC : Nat → cq → (List Int) → Option Int
 | 0, _, _ => none
 | n + 1, a0, R => HN (uC n) a0 R
def HO (a0 : cq) (R : List Int) : Option Int :=
 c2 fun n => uC n a0 R
def w1 (a0 : List ba) (R : List Int) : Option Int :=
 (Dd a0).bind fun ah => (HO (cq.mk ah.1 ah.2) R).bind fun ak => some ak
def Df (hb : (List Int) → Int → Option ((List Int))) (a0 : List (List ba)) (R : List Int) (eb : List Int) (nq : Int) : Option ((List Int)) :=
 cond (decide (nq < (a0.length : Int))) ((bP a0 nq).bind fun ah => (w1 ah R).bind fun ak => (room 8 (eb.length + 1)).bind fun _ => hb (eb ++ [ak]) (IntKind.i64.wrap (nq + 1))) (some eb)
def uD (a0 : List (List ba)) (R : List Int) : Nat → (List Int) → Int → Option ((List Int))
 | 0, _, _ => none
 | n + 1, eb, nq => Df (uD a0 R n) a0 R eb nq
def zE (a0 : List (List ba)) (R : List Int) : Option ((List Int)) :=
 c2 fun n => uD a0 R n [] 0
def zF (a0 R : Int) : Option (List UInt8) := if 0 ≤ a0 ∧ a0 < 100 ∧ R = 10 then some (jS a0.toNat) else none
def uE (a0 : Int) : Option ((List UInt8)) :=
 (zF a0 10).bind fun ah => some ah
def strings_Join (a0 : List (List UInt8)) (R : List UInt8) : Option (List UInt8) := if a0.length ≤ 140737488355328 ∧ (jR a0 R).length ≤ 140737488355328 then some (jR a0 R) else none
def Dg (hb : (List (List UInt8)) → Int → Option ((List UInt8))) (a0 : List Int) (R : List UInt8) (eb : List (List UInt8)) (lg : Int) : Option ((List UInt8)) :=
 cond (decide (lg < (a0.length : Int))) ((bP a0 lg).bind fun ah => (uE ah).bind fun ak => (bP eb lg).bind fun a6 => hb (List.set eb (Int.toNat lg) ak) (IntKind.i64.wrap (lg + 1))) ((strings_Join eb R).bind fun bl => some bl)
def uF (a0 : List Int) (R : List UInt8) : Nat → (List (List UInt8)) → Int → Option ((List UInt8))
 | 0, _, _ => none
 | n + 1, eb, lg => Dg (uF a0 R n) a0 R eb lg
def w2 (a0 : List Int) (R : List UInt8) : Option ((List UInt8)) :=
 (o9 16 (a0.length : Int)).bind fun _ => c2 fun n => uF a0 R n (List.replicate (Int.toNat (a0.length : Int)) ([] : List UInt8)) 0
def Dh (a0 : List UInt8) (R : List Int) : Option ((List UInt8) × Bool) :=
 cond (a0 == ([116, 97, 117] : List UInt8)) (some (([116, 97, 117] : List UInt8), ((R.length : Int) == 0))) ((zv a0).bind fun ak => cond (!ak) (some (([] : List UInt8), false)) (cond (decide (2 < (R.length : Int))) (some (([] : List UInt8), false)) ((zD R).bind fun a6 => cond (!a6) (some (([] : List UInt8), false)) (cond ((R.length : Int) == 0) (some (a0, true)) ((iF (a0.length + 1)).bind fun _ => (w2 R ([44] : List UInt8)).bind fun bl => (iF ((a0 ++ ([40] : List UInt8)).length + bl.length)).bind fun _ => (iF (((a0 ++ ([40] : List UInt8)) ++ bl).length + 1)).bind fun _ => some ((((a0 ++ ([40] : List UInt8)) ++ bl) ++ ([41] : List UInt8)), true))))))
def zG (a0 : List Int) : Option ((List Int)) :=
 cond a0.isEmpty (both (some []) ((room 8 (a0.length)).bind fun _ => some a0)) ((room 8 (a0.length)).bind fun _ => some a0)
def HP (a0 : Int) : Option Bool :=
 (j4 a0 (-1000000000000) 1000000000000).bind fun ah => some (!ah)
def Di (dX : Int → Option Int) (a0 : List Int) (dH : Int) : Option Int :=
 cond (decide (dH < (a0.length : Int))) ((bP a0 dH).bind fun ah => (HP ah).bind fun ak => cond ak (some dH) (dX (IntKind.i64.wrap (dH + 1)))) (some (-1))
def uG (a0 : List Int) : Nat → Int → Option Int
 | 0, _ => none
 | n + 1, dH => Di (uG a0 n) a0 dH
def HQ (a0 : List Int) : Option Int :=
 c2 fun n => uG a0 n 0
def HR (a0 : List Int) : Option Bool :=
 (HQ a0).bind fun ah => some (decide (0 ≤ ah))
def Dj (a0 : List Int) : Option Bool :=
 cond (decide ((a0.length : Int) ≤ 64)) ((HR a0).bind fun ah => some (!ah)) (some false)
def zH (a0 : List Int) : Option ((List UInt8)) :=
 (Dj a0).bind fun ah => cond (!ah) (some ([] : List UInt8)) (cond ((a0.length : Int) == 0) (some ([45] : List UInt8)) ((w2 a0 ([44] : List UInt8)).bind fun ak => some ak))
def HS (a0 : dP) : Option ((List UInt8)) :=
 (uE a0.Part).bind fun ah => (iF (ah.length + 1)).bind fun _ => (zH a0.cD).bind fun ak => (iF ((ah ++ ([58] : List UInt8)).length + ak.length)).bind fun _ => some ((ah ++ ([58] : List UInt8)) ++ ak)
def Dk (a0 : dP) : Option ((List UInt8)) :=
 (uE a0.dO).bind fun ah => (iF (ah.length + 1)).bind fun _ => (HS a0).bind fun ak => (iF ((ah ++ ([58] : List UInt8)).length + ak.length)).bind fun _ => some ((ah ++ ([58] : List UInt8)) ++ ak)
def Dl (eN : List aS) (eO : List bd) (eH : List (List UInt8 × Bool)) (ie : List UInt8) (j2 : Int) (j3 : Int) (qI : List Int) : Option ((List aS) × (List bd) × (List (List UInt8 × Bool))) :=
 (iF (ie.length + 1)).bind fun _ => (Dk (dP.mk j2 j3 qI)).bind fun ah => (iF ((ie ++ ([32] : List UInt8)).length + ah.length)).bind fun _ => cond (!(kC ((ie ++ ([32] : List UInt8)) ++ ah) eH)) ((room 56 (eO.length + 1)).bind fun _ => some (eN, (eO ++ [(bd.mk ie (dP.mk j2 j3 qI))]), (kD ((ie ++ ([32] : List UInt8)) ++ ah) true eH))) (some (eN, eO, eH))
def Dm (lh : (List aS) → (List bd) → (List (List UInt8 × Bool)) → Int → Int → (List Int) → Option ((List aS) × (List bd) × (List (List UInt8 × Bool)))) (eN : List aS) (eO : List bd) (eH : List (List UInt8 × Bool)) (bl : (List UInt8) × Bool) (w3 : Int) (w4 : Int) (w5 : List Int) : Option ((List aS) × (List bd) × (List (List UInt8 × Bool))) :=
 (Dl eN eO eH bl.1 w3 w4 w5).bind fun bL => some (bL.1, bL.2.1, bL.2.2)
def Dn (lh : (List aS) → (List bd) → (List (List UInt8 × Bool)) → Int → Int → (List Int) → Option ((List aS) × (List bd) × (List (List UInt8 × Bool)))) (Xb : (List aS) → (List bd) → (List (List UInt8 × Bool)) → Int → Option ((List aS) × (List bd) × (List (List UInt8 × Bool)))) (R : Int) (a2 : Int) (a3 : List Int) (ak : bs) (pM : List aS) (pN : List bd) (pO : List (List UInt8 × Bool)) (i7 : Int) : Option ((List aS) × (List bd) × (List (List UInt8 × Bool))) :=
 cond (decide (i7 < (IntKind.i64.wrap (ak.Number + 1)))) ((zG a3).bind fun hK => (room 8 (hK.length + 1)).bind fun _ => (lh pM pN pO R (IntKind.i64.wrap (a2 + 1)) (hK ++ [i7])).bind fun iO => Xb iO.1 iO.2.1 iO.2.2 (IntKind.i64.wrap (i7 + 1))) (some (pM, pN, pO))
def uH (lh : (List aS) → (List bd) → (List (List UInt8 × Bool)) → Int → Int → (List Int) → Option ((List aS) × (List bd) × (List (List UInt8 × Bool)))) (R : Int) (a2 : Int) (a3 : List Int) (ak : bs) : Nat → (List aS) → (List bd) → (List (List UInt8 × Bool)) → Int → Option ((List aS) × (List bd) × (List (List UInt8 × Bool)))
 | 0, _, _, _, _ => none
 | n + 1, pM, pN, pO, i7 => Dn lh (uH lh R a2 a3 ak n) R a2 a3 ak pM pN pO i7
def sK (lh : (List aS) → (List bd) → (List (List UInt8 × Bool)) → Int → Int → (List Int) → Option ((List aS) × (List bd) × (List (List UInt8 × Bool)))) (eN : List aS) (eO : List bd) (eH : List (List UInt8 × Bool)) (R : Int) (a2 : Int) (a3 : List Int) : Option ((List aS) × (List bd) × (List (List UInt8 × Bool))) :=
 (bP eN R).bind fun ah => (bP ah.Body a2).bind fun ak => cond (ak.Kind == 1) ((zE ak.bN a3).bind fun a6 => (Dh ak.Name a6).bind fun bl => (zG a3).bind fun bq => (bP ah.Body (IntKind.i64.wrap (a2 + 1))).bind fun ch => cond (ch.Kind == 5) ((zE ch.bN a3).bind fun dv => Dm lh eN eO eH bl ch.Number 0 dv) (Dm lh eN eO eH bl R (IntKind.i64.wrap (a2 + 1)) bq)) (cond (ak.Kind == 2) ((lh eN eO eH R (IntKind.i64.wrap (a2 + 1)) a3).bind fun dk => (zu ah (IntKind.i64.wrap (a2 + 1))).bind fun dt => (lh dk.1 dk.2.1 dk.2.2 R dt a3).bind fun eW => some (eW.1, eW.2.1, eW.2.2)) (cond (ak.Kind == 3) ((bP ak.bN 0).bind fun iP => (w1 iP a3).bind fun kg => cond (kg != 0) ((lh eN eO eH R (IntKind.i64.wrap (a2 + 1)) a3).bind fun gP => some (gP.1, gP.2.1, gP.2.2)) (some (eN, eO, eH))) (cond (ak.Kind == 4) (c2 fun n => uH lh R a2 a3 ak n eN eO eH 0) (some (eN, eO, eH)))))
def oP : Nat → (List aS) → (List bd) → (List (List UInt8 × Bool)) → Int → Int → (List Int) → Option ((List aS) × (List bd) × (List (List UInt8 × Bool)))
 | 0, _, _, _, _, _, _ => none
 | n + 1, eN, eO, eH, R, a2, a3 => sK (oP n) eN eO eH R a2 a3
def Dp (eN : List aS) (eO : List bd) (eH : List (List UInt8 × Bool)) (R : Int) (a2 : Int) (a3 : List Int) : Option ((List aS) × (List bd) × (List (List UInt8 × Bool))) :=
 c2 fun n => oP n eN eO eH R a2 a3
def HT (a0 : List aS) (R : dP) : Option ((List bd) × Bool) :=
 (Dp a0 [] [] R.dO R.Part R.cD).bind fun ah => some (ah.2.1, (decide ((ah.2.1.length : Int) ≤ 200)))
def zI (a0 : List aS) (R : dP) : Option ((List bd) × Int) :=
 (HK a0 R).bind fun ah => cond (!ah) (some ([], 1)) ((HT a0 R).bind fun ak => cond (!ak.2) (some ([], 5)) (some (ak.1, 0)))
def NN (iz : Int → Option Bool) (a0 : List Int) (R : List Int) (cE : Int) : Option Bool :=
 cond (decide (cE < (a0.length : Int))) ((bP a0 cE).bind fun ah => (bP R cE).bind fun ak => cond (ah != ak) (some false) (iz (IntKind.i64.wrap (cE + 1)))) (some true)
def Dq (a0 : List Int) (R : List Int) : Nat → Int → Option Bool
 | 0, _ => none
 | n + 1, cE => NN (Dq a0 R n) a0 R cE
def Dr (a0 : List Int) (R : List Int) : Option Bool :=
 cond ((a0.length : Int) != (R.length : Int)) (some false) (c2 fun n => Dq a0 R n 0)
def zJ (a0 : dP) (R : dP) : Option Bool :=
 cond (a0.dO != R.dO) (some false) (cond (a0.Part != R.Part) (some false) ((Dr a0.cD R.cD).bind fun ah => cond (!ah) (some false) (some true)))
def zK (a0 : bd) (R : bd) : Option Bool :=
 cond (!(a0.Label == R.Label)) (some false) ((zJ a0.Next R.Next).bind fun ah => cond (!ah) (some false) (some true))
def NO (iz : Int → Option Bool) (a0 : List bd) (R : List bd) (cE : Int) : Option Bool :=
 cond (decide (cE < (a0.length : Int))) ((bP a0 cE).bind fun ah => (bP R cE).bind fun ak => (zK ah ak).bind fun a6 => cond (!a6) (some false) (iz (IntKind.i64.wrap (cE + 1)))) (some true)
def Ds (a0 : List bd) (R : List bd) : Nat → Int → Option Bool
 | 0, _ => none
 | n + 1, cE => NO (Ds a0 R n) a0 R cE
def w6 (a0 : List bd) (R : List bd) : Option Bool :=
 cond ((a0.length : Int) != (R.length : Int)) (some false) (c2 fun n => Ds a0 R n 0)
def zL (a0 : ba) (R : ba) : Option Bool :=
 cond (a0.Kind != R.Kind) (some false) (cond (a0.Value != R.Value) (some false) (some true))
def NP (iz : Int → Option Bool) (a0 : List ba) (R : List ba) (cE : Int) : Option Bool :=
 cond (decide (cE < (a0.length : Int))) ((bP a0 cE).bind fun ah => (bP R cE).bind fun ak => (zL ah ak).bind fun a6 => cond (!a6) (some false) (iz (IntKind.i64.wrap (cE + 1)))) (some true)
def Dt (a0 : List ba) (R : List ba) : Nat → Int → Option Bool
 | 0, _ => none
 | n + 1, cE => NP (Dt a0 R n) a0 R cE
def zM (a0 : List ba) (R : List ba) : Option Bool :=
 cond ((a0.length : Int) != (R.length : Int)) (some false) (c2 fun n => Dt a0 R n 0)
def NQ (iz : Int → Option Bool) (a0 : List (List ba)) (R : List (List ba)) (cE : Int) : Option Bool :=
 cond (decide (cE < (a0.length : Int))) ((bP a0 cE).bind fun ah => (bP R cE).bind fun ak => (zM ah ak).bind fun a6 => cond (!a6) (some false) (iz (IntKind.i64.wrap (cE + 1)))) (some true)
def Du (a0 : List (List ba)) (R : List (List ba)) : Nat → Int → Option Bool
 | 0, _ => none
 | n + 1, cE => NQ (Du a0 R n) a0 R cE
def Dv (a0 : List (List ba)) (R : List (List ba)) : Option Bool :=
 cond ((a0.length : Int) != (R.length : Int)) (some false) (c2 fun n => Du a0 R n 0)
def zN (a0 : bs) (R : bs) : Option Bool :=
 cond (a0.Kind != R.Kind) (some false) (cond (a0.Number != R.Number) (some false) (cond (!(a0.Name == R.Name)) (some false) ((Dv a0.bN R.bN).bind fun ah => cond (!ah) (some false) (some true))))
def NR (iz : Int → Option Bool) (a0 : List bs) (R : List bs) (cE : Int) : Option Bool :=
 cond (decide (cE < (a0.length : Int))) ((bP a0 cE).bind fun ah => (bP R cE).bind fun ak => (zN ah ak).bind fun a6 => cond (!a6) (some false) (iz (IntKind.i64.wrap (cE + 1)))) (some true)
def Dw (a0 : List bs) (R : List bs) : Nat → Int → Option Bool
 | 0, _ => none
 | n + 1, cE => NR (Dw a0 R n) a0 R cE
def Dx (a0 : List bs) (R : List bs) : Option Bool :=
 cond ((a0.length : Int) != (R.length : Int)) (some false) (c2 fun n => Dw a0 R n 0)
def zO (a0 : aS) (R : aS) : Option Bool :=
 cond (!(a0.Name == R.Name)) (some false) (cond (a0.c_ != R.c_) (some false) ((Dx a0.Body R.Body).bind fun ah => cond (!ah) (some false) (some true)))
def NS (iz : Int → Option Bool) (a0 : List aS) (R : List aS) (cE : Int) : Option Bool :=
 cond (decide (cE < (a0.length : Int))) ((bP a0 cE).bind fun ah => (bP R cE).bind fun ak => (zO ah ak).bind fun a6 => cond (!a6) (some false) (iz (IntKind.i64.wrap (cE + 1)))) (some true)
def Dy (a0 : List aS) (R : List aS) : Nat → Int → Option Bool
 | 0, _ => none
 | n + 1, cE => NS (Dy a0 R n) a0 R cE
def zP (a0 : List aS) (R : List aS) : Option Bool :=
 cond ((a0.length : Int) != (R.length : Int)) (some false) (c2 fun n => Dy a0 R n 0)
def zQ (iz : Int → (List UInt8) → Option ((List UInt8))) (kv : Int) (fy : List UInt8) : Option ((List UInt8)) :=
 cond (decide (0 < kv)) ((iF (1 + fy.length)).bind fun _ => iz (IntKind.i64.wrap (Int.tdiv kv 10)) ([(mx (IntKind.i64.wrap (48 + (Int.tmod kv 10))))] ++ fy)) ((iF (1 + fy.length)).bind fun _ => some (([109] : List UInt8) ++ fy))
def sL : Nat → Int → (List UInt8) → Option ((List UInt8))
 | 0, _, _ => none
 | n + 1, kv, fy => zQ (sL n) kv fy
def uI (a0 : Int) : Option ((List UInt8)) :=
 cond (decide (a0 ≤ 0)) (some ([109, 48] : List UInt8)) (c2 fun n => sL n a0 ([] : List UInt8))
def Dz (dX : (List ba) → Int → Int → Option (Int × (List ba))) (cb : List ba) (a7 : Int) (aO : Int) : Option (Int × (List ba)) :=
 cond (decide (aO < (cb.length : Int))) ((bP cb aO).bind fun ah => (bP (List.set cb (Int.toNat aO) (ba.mk a7 ah.Value)) aO).bind fun ak => dX (List.set (List.set cb (Int.toNat aO) (ba.mk a7 ah.Value)) (Int.toNat aO) (ba.mk ak.Kind (IntKind.i64.wrap (a7 + 1)))) (IntKind.i64.wrap ((IntKind.i64.wrap (a7 + 1)) + 1)) (IntKind.i64.wrap (aO + 1))) (some (a7, cb))
def uJ : Nat → (List ba) → Int → Int → Option (Int × (List ba))
 | 0, _, _, _ => none
 | n + 1, cb, a7, aO => Dz (uJ n) cb a7 aO
def DA (a0 : List ba) (R : Int) : Option (Int × (List ba)) :=
 c2 fun n => uJ n a0 R 0
def DB (dX : (List (List ba)) → Int → Int → Option (Int × (List (List ba)))) (cb : List (List ba)) (a7 : Int) (aO : Int) : Option (Int × (List (List ba))) :=
 cond (decide (aO < (cb.length : Int))) ((bP cb aO).bind fun ah => (DA ah a7).bind fun ak => dX (List.set cb (Int.toNat aO) ak.2) ak.1 (IntKind.i64.wrap (aO + 1))) (some (a7, cb))
def uK : Nat → (List (List ba)) → Int → Int → Option (Int × (List (List ba)))
 | 0, _, _, _ => none
 | n + 1, cb, a7, aO => DB (uK n) cb a7 aO
def DC (a0 : List (List ba)) (R : Int) : Option (Int × (List (List ba))) :=
 c2 fun n => uK n a0 R 0
def DD (dX : (List bs) → Int → Int → Option (Int × (List bs))) (cb : List bs) (a7 : Int) (aO : Int) : Option (Int × (List bs)) :=
 cond (decide (aO < (cb.length : Int))) ((bP cb aO).bind fun ah => (bP (List.set cb (Int.toNat aO) (bs.mk a7 ah.Number ah.Name ah.bN)) aO).bind fun ak => (uI (IntKind.i64.wrap ((IntKind.i64.wrap (a7 + 1)) + 1))).bind fun a6 => (bP (List.set (List.set cb (Int.toNat aO) (bs.mk a7 ah.Number ah.Name ah.bN)) (Int.toNat aO) (bs.mk ak.Kind (IntKind.i64.wrap (a7 + 1)) ak.Name ak.bN)) aO).bind fun bl => (bP (List.set (List.set (List.set cb (Int.toNat aO) (bs.mk a7 ah.Number ah.Name ah.bN)) (Int.toNat aO) (bs.mk ak.Kind (IntKind.i64.wrap (a7 + 1)) ak.Name ak.bN)) (Int.toNat aO) (bs.mk bl.Kind bl.Number a6 bl.bN)) aO).bind fun bq => (DC bq.bN (IntKind.i64.wrap ((IntKind.i64.wrap ((IntKind.i64.wrap (a7 + 1)) + 1)) + 1))).bind fun bL => dX (List.set (List.set (List.set (List.set cb (Int.toNat aO) (bs.mk a7 ah.Number ah.Name ah.bN)) (Int.toNat aO) (bs.mk ak.Kind (IntKind.i64.wrap (a7 + 1)) ak.Name ak.bN)) (Int.toNat aO) (bs.mk bl.Kind bl.Number a6 bl.bN)) (Int.toNat aO) (bs.mk bq.Kind bq.Number bq.Name bL.2)) bL.1 (IntKind.i64.wrap (aO + 1))) (some (a7, cb))
def uL : Nat → (List bs) → Int → Int → Option (Int × (List bs))
 | 0, _, _, _ => none
 | n + 1, cb, a7, aO => DD (uL n) cb a7 aO
def DE (a0 : List bs) (R : Int) : Option (Int × (List bs)) :=
 c2 fun n => uL n a0 R 0
def DF (dX : (List aS) → Int → Int → Option (Int × (List aS))) (cb : List aS) (a7 : Int) (aO : Int) : Option (Int × (List aS)) :=
 cond (decide (aO < (cb.length : Int))) ((uI a7).bind fun ah => (bP cb aO).bind fun ak => (bP (List.set cb (Int.toNat aO) (aS.mk ah ak.c_ ak.Body)) aO).bind fun a6 => (bP (List.set (List.set cb (Int.toNat aO) (aS.mk ah ak.c_ ak.Body)) (Int.toNat aO) (aS.mk a6.Name (IntKind.i64.wrap (a7 + 1)) a6.Body)) aO).bind fun bl => (DE bl.Body (IntKind.i64.wrap ((IntKind.i64.wrap (a7 + 1)) + 1))).bind fun bq => dX (List.set (List.set (List.set cb (Int.toNat aO) (aS.mk ah ak.c_ ak.Body)) (Int.toNat aO) (aS.mk a6.Name (IntKind.i64.wrap (a7 + 1)) a6.Body)) (Int.toNat aO) (aS.mk bl.Name bl.c_ bq.2)) bq.1 (IntKind.i64.wrap (aO + 1))) (some (a7, cb))
def uM : Nat → (List aS) → Int → Int → Option (Int × (List aS))
 | 0, _, _, _ => none
 | n + 1, cb, a7, aO => DF (uM n) cb a7 aO
def DG (a0 : List aS) (R : Int) : Option (Int × (List aS)) :=
 c2 fun n => uM n a0 R 0
def DH (dX : (List Int) → Int → Int → Option (Int × (List Int))) (cb : List Int) (a7 : Int) (aO : Int) : Option (Int × (List Int)) :=
 cond (decide (aO < (cb.length : Int))) ((bP cb aO).bind fun ah => dX (List.set cb (Int.toNat aO) a7) (IntKind.i64.wrap (a7 + 1)) (IntKind.i64.wrap (aO + 1))) (some (a7, cb))
def uN : Nat → (List Int) → Int → Int → Option (Int × (List Int))
 | 0, _, _, _ => none
 | n + 1, cb, a7, aO => DH (uN n) cb a7 aO
def zR (a0 : List Int) (R : Int) : Option (Int × (List Int)) :=
 c2 fun n => uN n a0 R 0
def DI (eN : Int) (eO : Int) (eH : List Int) (R : Int) : Option (Int × Int × Int × (List Int)) :=
 (zR eH R).bind fun ah => some (ah.1, eN, eO, ah.2)
def DJ (dX : (List bd) → Int → Int → Option (Int × (List bd))) (cb : List bd) (a7 : Int) (aO : Int) : Option (Int × (List bd)) :=
 cond (decide (aO < (cb.length : Int))) ((uI a7).bind fun ah => (bP cb aO).bind fun ak => (bP (List.set cb (Int.toNat aO) (bd.mk ah ak.Next)) aO).bind fun a6 => (bP (List.set (List.set cb (Int.toNat aO) (bd.mk ah ak.Next)) (Int.toNat aO) (bd.mk a6.Label (dP.mk (IntKind.i64.wrap (a7 + 1)) a6.Next.Part a6.Next.cD))) aO).bind fun bl => (bP (List.set (List.set (List.set cb (Int.toNat aO) (bd.mk ah ak.Next)) (Int.toNat aO) (bd.mk a6.Label (dP.mk (IntKind.i64.wrap (a7 + 1)) a6.Next.Part a6.Next.cD))) (Int.toNat aO) (bd.mk bl.Label (dP.mk bl.Next.dO (IntKind.i64.wrap ((IntKind.i64.wrap (a7 + 1)) + 1)) bl.Next.cD))) aO).bind fun bq => (zR bq.Next.cD (IntKind.i64.wrap ((IntKind.i64.wrap ((IntKind.i64.wrap (a7 + 1)) + 1)) + 1))).bind fun bL => dX (List.set (List.set (List.set (List.set cb (Int.toNat aO) (bd.mk ah ak.Next)) (Int.toNat aO) (bd.mk a6.Label (dP.mk (IntKind.i64.wrap (a7 + 1)) a6.Next.Part a6.Next.cD))) (Int.toNat aO) (bd.mk bl.Label (dP.mk bl.Next.dO (IntKind.i64.wrap ((IntKind.i64.wrap (a7 + 1)) + 1)) bl.Next.cD))) (Int.toNat aO) (bd.mk bq.Label (dP.mk bq.Next.dO bq.Next.Part bL.2))) bL.1 (IntKind.i64.wrap (aO + 1))) (some (a7, cb))
def uO : Nat → (List bd) → Int → Int → Option (Int × (List bd))
 | 0, _, _, _ => none
 | n + 1, cb, a7, aO => DJ (uO n) cb a7 aO
def DK (a0 : List bd) (R : Int) : Option (Int × (List bd)) :=
 c2 fun n => uO n a0 R 0
def DL (dX : Int → Int → Option Int) (a0 : List Int) (a7 : Int) (aO : Int) : Option Int :=
 cond (decide (aO < (a0.length : Int))) ((bP a0 aO).bind fun ah => cond (ah != a7) (some (-1)) (dX (IntKind.i64.wrap (a7 + 1)) (IntKind.i64.wrap (aO + 1)))) (some a7)
def uP (a0 : List Int) : Nat → Int → Int → Option Int
 | 0, _, _ => none
 | n + 1, a7, aO => DL (uP a0 n) a0 a7 aO
def DM (a0 : List Int) (R : Int) : Option Int :=
 c2 fun n => uP a0 n R 0
def DN (dX : Int → Int → Option Int) (a0 : List bd) (a7 : Int) (aO : Int) : Option Int :=
 cond (decide (aO < (a0.length : Int))) ((bP a0 aO).bind fun ah => (uI a7).bind fun ak => cond (!(ah.Label == ak)) (some (-1)) (cond (ah.Next.dO != (IntKind.i64.wrap (a7 + 1))) (some (-1)) (cond (ah.Next.Part != (IntKind.i64.wrap ((IntKind.i64.wrap (a7 + 1)) + 1))) (some (-1)) ((DM ah.Next.cD (IntKind.i64.wrap ((IntKind.i64.wrap ((IntKind.i64.wrap (a7 + 1)) + 1)) + 1))).bind fun a6 => cond (decide (a6 < 0)) (some (-1)) (dX a6 (IntKind.i64.wrap (aO + 1))))))) (some a7)
def uQ (a0 : List bd) : Nat → Int → Int → Option Int
 | 0, _, _ => none
 | n + 1, a7, aO => DN (uQ a0 n) a0 a7 aO
def zS (a0 : List bd) (R : Int) : Option Int :=
 c2 fun n => uQ a0 n R 0
def HU (a0 : List ic) (R : lE) : Option Bool :=
 (y9 a0 1048576).bind fun ah => cond (decide (ah < 0)) (some true) ((Cd R ah).bind fun ak => cond (decide (ak < 0)) (some true) ((sA a0).bind fun a6 => (ua R).bind fun bl => (CU a6 bl).bind fun bq => (sA a0).bind fun bL => (ua R).bind fun ch => (zI bL ch).bind fun dv => (w6 dv.1 bq.1).bind fun dk => cond ((!dk) || (dv.2 != bq.2)) (some false) ((sA a0).bind fun dt => (zP bL dt).bind fun eW => cond (!eW) (some false) ((ua R).bind fun iP => (zJ ch iP).bind fun kg => cond (!kg) (some false) ((DG bL 1).bind fun gP => (DI ch.dO ch.Part ch.cD gP.1).bind fun hK => cond (decide (hK.1 < 0)) (some false) ((w6 dv.1 bq.1).bind fun iO => cond ((!iO) || (dv.2 != bq.2)) (some false) ((DK dv.1 1).bind fun jy => (zS jy.2 1).bind fun sM => cond (decide (sM < 0)) (some false) (cond (sM != jy.1) (some false) ((sA a0).bind fun sN => (ua R).bind fun w7 => (zI sN w7).bind fun qJ => (w6 qJ.1 bq.1).bind fun w8 => cond ((!w8) || (qJ.2 != bq.2)) (some false) ((zS jy.2 1).bind fun zT => cond (decide (zT < 0)) (some false) (cond (zT != jy.1) (some false) (some true))))))))))))
end
end Go.eR
