/- Part of a proof that a law returns true for every input. No condition. -/
import Derived.Test.YtbemmmimelklkaaGreatFwA
namespace Go.fJ
open Go Go.dg
set_option linter.unusedVariables false
noncomputable section
structure gO where
 Kind : Int
 Value : Int
def uD (x : gO) : Prop := (-9223372036854775808 ≤ x.Kind ∧ x.Kind ≤ 9223372036854775807) ∧ (-9223372036854775808 ≤ x.Value ∧ x.Value ≤ 9223372036854775807)
structure ic where
 Kind : Int
 Number : Int
 Name : List UInt8
 cr : List (List gO)
def wO (x : ic) : Prop := (-9223372036854775808 ≤ x.Kind ∧ x.Kind ≤ 9223372036854775807) ∧ (-9223372036854775808 ≤ x.Number ∧ x.Number ≤ 9223372036854775807) ∧ x.Name.length ≤ 9223372036854775807 ∧ (x.cr.length ≤ 9223372036854775807 ∧ ∀ y ∈ x.cr, (y.length ≤ 9223372036854775807 ∧ ∀ z ∈ y, uD z))
structure h2 where
 Name : List UInt8
 cZ : Int
 Body : List ic
def uE (x : h2) : Prop := x.Name.length ≤ 9223372036854775807 ∧ (-9223372036854775808 ≤ x.cZ ∧ x.cZ ≤ 9223372036854775807) ∧ (x.Body.length ≤ 9223372036854775807 ∧ ∀ y ∈ x.Body, wO y)
structure ie where
 gP : Int
 fk : List Int
def wP (x : ie) : Prop := (-9223372036854775808 ≤ x.gP ∧ x.gP ≤ 9223372036854775807) ∧ (x.fk.length ≤ 9223372036854775807 ∧ ∀ y ∈ x.fk, (-9223372036854775808 ≤ y ∧ y ≤ 9223372036854775807))
structure h3 where
 Left : List UInt8
 b_ : List UInt8
 Result : List UInt8
def wQ (x : h3) : Prop := x.Left.length ≤ 9223372036854775807 ∧ x.b_.length ≤ 9223372036854775807 ∧ x.Result.length ≤ 9223372036854775807
structure km where
 bQ : List h2
 cX : List ie
 gX : List h3
 gQ : List (List UInt8)
 gR : List (List UInt8)
def wR (x : km) : Prop := (x.bQ.length ≤ 9223372036854775807 ∧ ∀ y ∈ x.bQ, uE y) ∧ (x.cX.length ≤ 9223372036854775807 ∧ ∀ y ∈ x.cX, wP y) ∧ (x.gX.length ≤ 9223372036854775807 ∧ ∀ y ∈ x.gX, wQ y) ∧ (x.gQ.length ≤ 9223372036854775807 ∧ ∀ y ∈ x.gQ, y.length ≤ 9223372036854775807) ∧ (x.gR.length ≤ 9223372036854775807 ∧ ∀ y ∈ x.gR, y.length ≤ 9223372036854775807)
structure bO where
 Kind : Int
 Value : Int
def SD (x : bO) : Prop := (-9223372036854775808 ≤ x.Kind ∧ x.Kind ≤ 9223372036854775807) ∧ (-9223372036854775808 ≤ x.Value ∧ x.Value ≤ 9223372036854775807)
structure bx where
 Kind : Int
 Number : Int
 Name : List UInt8
 cr : List (List bO)
def SE (x : bx) : Prop := (-9223372036854775808 ≤ x.Kind ∧ x.Kind ≤ 9223372036854775807) ∧ (-9223372036854775808 ≤ x.Number ∧ x.Number ≤ 9223372036854775807) ∧ x.Name.length ≤ 9223372036854775807 ∧ (x.cr.length ≤ 9223372036854775807 ∧ ∀ y ∈ x.cr, (y.length ≤ 9223372036854775807 ∧ ∀ z ∈ y, SD z))
structure a9 where
 Name : List UInt8
 cZ : Int
 Body : List bx
def SF (x : a9) : Prop := x.Name.length ≤ 9223372036854775807 ∧ (-9223372036854775808 ≤ x.cZ ∧ x.cZ ≤ 9223372036854775807) ∧ (x.Body.length ≤ 9223372036854775807 ∧ ∀ y ∈ x.Body, SE y)
structure c2 where
 gP : Int
 fk : List Int
def SG (x : c2) : Prop := (-9223372036854775808 ≤ x.gP ∧ x.gP ≤ 9223372036854775807) ∧ (x.fk.length ≤ 9223372036854775807 ∧ ∀ y ∈ x.fk, (-9223372036854775808 ≤ y ∧ y ≤ 9223372036854775807))
structure bR where
 Left : List UInt8
 b_ : List UInt8
 Result : List UInt8
def SH (x : bR) : Prop := x.Left.length ≤ 9223372036854775807 ∧ x.b_.length ≤ 9223372036854775807 ∧ x.Result.length ≤ 9223372036854775807
structure dU where
 bQ : List a9
 cX : List c2
 gX : List bR
 gQ : List (List UInt8)
 gR : List (List UInt8)
def avo (x : dU) : Prop := (x.bQ.length ≤ 9223372036854775807 ∧ ∀ y ∈ x.bQ, SF y) ∧ (x.cX.length ≤ 9223372036854775807 ∧ ∀ y ∈ x.cX, SG y) ∧ (x.gX.length ≤ 9223372036854775807 ∧ ∀ y ∈ x.gX, SH y) ∧ (x.gQ.length ≤ 9223372036854775807 ∧ ∀ y ∈ x.gQ, y.length ≤ 9223372036854775807) ∧ (x.gR.length ≤ 9223372036854775807 ∧ ∀ y ∈ x.gR, y.length ≤ 9223372036854775807)
structure cg where
 scope : Int
 behind : Bool
def avp (x : cg) : Prop := (-9223372036854775808 ≤ x.scope ∧ x.scope ≤ 9223372036854775807) ∧ True
def wS (J : List gO) (ab : Int) : Option Int :=
 cond (decide ((IntKind.i64.wrap (ab - (J.length : Int))) < 0)) (some (-1)) (some (IntKind.i64.wrap (ab - (J.length : Int))))
def J4 (kn : Int → Int → Option Int) (J : List (List gO)) (dn : Int) (df : Int) : Option Int :=
 cond (decide (df < (J.length : Int))) ((bI J df).bind fun af => (wS af dn).bind fun an => cond (decide (an < 0)) (some (-1)) (kn an (IntKind.i64.wrap (df + 1)))) (some dn)
def zY (J : List (List gO)) : Nat → Int → Int → Option Int
 | 0, _, _ => none
 | n + 1, dn, df => J4 (zY J n) J dn df
def zZ (J : List (List gO)) (ab : Int) : Option Int :=
 cond (decide ((IntKind.i64.wrap (ab - (J.length : Int))) < 0)) (some (-1)) (cO fun n => zY J n (IntKind.i64.wrap (ab - (J.length : Int))) 0)
def wT (J : ic) (ab : Int) : Option Int :=
 cond (decide ((IntKind.i64.wrap (ab - (J.Name.length : Int))) < 0)) (some (-1)) ((zZ J.cr (IntKind.i64.wrap (ab - (J.Name.length : Int)))).bind fun af => cond (decide (af < 0)) (some (-1)) (some af))
def J5 (kn : Int → Int → Option Int) (J : List ic) (dn : Int) (df : Int) : Option Int :=
 cond (decide (df < (J.length : Int))) ((bI J df).bind fun af => (wT af dn).bind fun an => cond (decide (an < 0)) (some (-1)) (kn an (IntKind.i64.wrap (df + 1)))) (some dn)
def z0 (J : List ic) : Nat → Int → Int → Option Int
 | 0, _, _ => none
 | n + 1, dn, df => J5 (z0 J n) J dn df
def z1 (J : List ic) (ab : Int) : Option Int :=
 cond (decide ((IntKind.i64.wrap (ab - (J.length : Int))) < 0)) (some (-1)) (cO fun n => z0 J n (IntKind.i64.wrap (ab - (J.length : Int))) 0)
def wU (J : h2) (ab : Int) : Option Int :=
 cond (decide ((IntKind.i64.wrap (ab - (J.Name.length : Int))) < 0)) (some (-1)) ((z1 J.Body (IntKind.i64.wrap (ab - (J.Name.length : Int)))).bind fun af => cond (decide (af < 0)) (some (-1)) (some af))
def J6 (kn : Int → Int → Option Int) (J : List h2) (dn : Int) (df : Int) : Option Int :=
 cond (decide (df < (J.length : Int))) ((bI J df).bind fun af => (wU af dn).bind fun an => cond (decide (an < 0)) (some (-1)) (kn an (IntKind.i64.wrap (df + 1)))) (some dn)
def z2 (J : List h2) : Nat → Int → Int → Option Int
 | 0, _, _ => none
 | n + 1, dn, df => J6 (z2 J n) J dn df
def wV (J : List h2) (ab : Int) : Option Int :=
 cond (decide ((IntKind.i64.wrap (ab - (J.length : Int))) < 0)) (some (-1)) (cO fun n => z2 J n (IntKind.i64.wrap (ab - (J.length : Int))) 0)
def z3 (J : List Int) (ab : Int) : Option Int :=
 cond (decide ((IntKind.i64.wrap (ab - (J.length : Int))) < 0)) (some (-1)) (some (IntKind.i64.wrap (ab - (J.length : Int))))
def wW (J : ie) (ab : Int) : Option Int :=
 (z3 J.fk ab).bind fun af => cond (decide (af < 0)) (some (-1)) (some af)
def J7 (kn : Int → Int → Option Int) (J : List ie) (dn : Int) (df : Int) : Option Int :=
 cond (decide (df < (J.length : Int))) ((bI J df).bind fun af => (wW af dn).bind fun an => cond (decide (an < 0)) (some (-1)) (kn an (IntKind.i64.wrap (df + 1)))) (some dn)
def z4 (J : List ie) : Nat → Int → Int → Option Int
 | 0, _, _ => none
 | n + 1, dn, df => J7 (z4 J n) J dn df
def z5 (J : List ie) (ab : Int) : Option Int :=
 cond (decide ((IntKind.i64.wrap (ab - (J.length : Int))) < 0)) (some (-1)) (cO fun n => z4 J n (IntKind.i64.wrap (ab - (J.length : Int))) 0)
def wX (J : h3) (ab : Int) : Option Int :=
 cond (decide ((IntKind.i64.wrap (ab - (J.Left.length : Int))) < 0)) (some (-1)) (cond (decide ((IntKind.i64.wrap ((IntKind.i64.wrap (ab - (J.Left.length : Int))) - (J.b_.length : Int))) < 0)) (some (-1)) (cond (decide ((IntKind.i64.wrap ((IntKind.i64.wrap ((IntKind.i64.wrap (ab - (J.Left.length : Int))) - (J.b_.length : Int))) - (J.Result.length : Int))) < 0)) (some (-1)) (some (IntKind.i64.wrap ((IntKind.i64.wrap ((IntKind.i64.wrap (ab - (J.Left.length : Int))) - (J.b_.length : Int))) - (J.Result.length : Int))))))
def J8 (kn : Int → Int → Option Int) (J : List h3) (dn : Int) (df : Int) : Option Int :=
 cond (decide (df < (J.length : Int))) ((bI J df).bind fun af => (wX af dn).bind fun an => cond (decide (an < 0)) (some (-1)) (kn an (IntKind.i64.wrap (df + 1)))) (some dn)
def z6 (J : List h3) : Nat → Int → Int → Option Int
 | 0, _, _ => none
 | n + 1, dn, df => J8 (z6 J n) J dn df
def z7 (J : List h3) (ab : Int) : Option Int :=
 cond (decide ((IntKind.i64.wrap (ab - (J.length : Int))) < 0)) (some (-1)) (cO fun n => z6 J n (IntKind.i64.wrap (ab - (J.length : Int))) 0)
def J9 (kn : Int → Int → Option Int) (J : List (List UInt8)) (dn : Int) (df : Int) : Option Int :=
 cond (decide (df < (J.length : Int))) ((bI J df).bind fun af => cond (decide ((IntKind.i64.wrap (dn - (af.length : Int))) < 0)) (some (-1)) (kn (IntKind.i64.wrap (dn - (af.length : Int))) (IntKind.i64.wrap (df + 1)))) (some dn)
def z8 (J : List (List UInt8)) : Nat → Int → Int → Option Int
 | 0, _, _ => none
 | n + 1, dn, df => J9 (z8 J n) J dn df
def wY (J : List (List UInt8)) (ab : Int) : Option Int :=
 cond (decide ((IntKind.i64.wrap (ab - (J.length : Int))) < 0)) (some (-1)) (cO fun n => z8 J n (IntKind.i64.wrap (ab - (J.length : Int))) 0)
def wZ (J : km) (ab : Int) : Option Int :=
 (wV J.bQ ab).bind fun af => cond (decide (af < 0)) (some (-1)) ((z5 J.cX af).bind fun an => cond (decide (an < 0)) (some (-1)) ((z7 J.gX an).bind fun a0 => cond (decide (a0 < 0)) (some (-1)) ((wY J.gQ a0).bind fun bp => cond (decide (bp < 0)) (some (-1)) ((wY J.gR bp).bind fun bs => cond (decide (bs < 0)) (some (-1)) (some bs)))))
def w1 (J : gO) : Option bO :=
 some (bO.mk J.Kind J.Value)
def J_ (eD : (List bO) → Int → Option ((List bO))) (J : List gO) (bC : List bO) (bt : Int) : Option ((List bO)) :=
 cond (decide (bt < (J.length : Int))) ((bI J bt).bind fun af => (w1 af).bind fun an => (bI bC bt).bind fun a0 => eD (List.set bC (Int.toNat bt) an) (IntKind.i64.wrap (bt + 1))) (some bC)
def z9 (J : List gO) : Nat → (List bO) → Int → Option ((List bO))
 | 0, _, _ => none
 | n + 1, bC, bt => J_ (z9 J n) J bC bt
def w2 (J : List gO) : Option ((List bO)) :=
 (mx 16 (J.length : Int)).bind fun _ => cO fun n => z9 J n (List.replicate (Int.toNat (J.length : Int)) (bO.mk 0 0)) 0
def Ka (eD : (List (List bO)) → Int → Option ((List (List bO)))) (J : List (List gO)) (bC : List (List bO)) (bt : Int) : Option ((List (List bO))) :=
 cond (decide (bt < (J.length : Int))) ((bI J bt).bind fun af => (w2 af).bind fun an => (bI bC bt).bind fun a0 => eD (List.set bC (Int.toNat bt) an) (IntKind.i64.wrap (bt + 1))) (some bC)
def z_ (J : List (List gO)) : Nat → (List (List bO)) → Int → Option ((List (List bO)))
 | 0, _, _ => none
 | n + 1, bC, bt => Ka (z_ J n) J bC bt
def Aa (J : List (List gO)) : Option ((List (List bO))) :=
 (mx 24 (J.length : Int)).bind fun _ => cO fun n => z_ J n (List.replicate (Int.toNat (J.length : Int)) []) 0
def w3 (J : ic) : Option bx :=
 (Aa J.cr).bind fun af => some (bx.mk J.Kind J.Number J.Name af)
def Kb (eD : (List bx) → Int → Option ((List bx))) (J : List ic) (bC : List bx) (bt : Int) : Option ((List bx)) :=
 cond (decide (bt < (J.length : Int))) ((bI J bt).bind fun af => (w3 af).bind fun an => (bI bC bt).bind fun a0 => eD (List.set bC (Int.toNat bt) an) (IntKind.i64.wrap (bt + 1))) (some bC)
def Ab (J : List ic) : Nat → (List bx) → Int → Option ((List bx))
 | 0, _, _ => none
 | n + 1, bC, bt => Kb (Ab J n) J bC bt
def Ac (J : List ic) : Option ((List bx)) :=
 (mx 56 (J.length : Int)).bind fun _ => cO fun n => Ab J n (List.replicate (Int.toNat (J.length : Int)) (bx.mk 0 0 ([] : List UInt8) [])) 0
def w4 (J : h2) : Option a9 :=
 (Ac J.Body).bind fun af => some (a9.mk J.Name J.cZ af)
def Kc (eD : (List a9) → Int → Option ((List a9))) (J : List h2) (bC : List a9) (bt : Int) : Option ((List a9)) :=
 cond (decide (bt < (J.length : Int))) ((bI J bt).bind fun af => (w4 af).bind fun an => (bI bC bt).bind fun a0 => eD (List.set bC (Int.toNat bt) an) (IntKind.i64.wrap (bt + 1))) (some bC)
def Ad (J : List h2) : Nat → (List a9) → Int → Option ((List a9))
 | 0, _, _ => none
 | n + 1, bC, bt => Kc (Ad J n) J bC bt
def w5 (J : List h2) : Option ((List a9)) :=
 (mx 48 (J.length : Int)).bind fun _ => cO fun n => Ad J n (List.replicate (Int.toNat (J.length : Int)) (a9.mk ([] : List UInt8) 0 [])) 0
def Kd (eD : (List Int) → Int → Option ((List Int))) (J : List Int) (bC : List Int) (bt : Int) : Option ((List Int)) :=
 cond (decide (bt < (J.length : Int))) ((bI J bt).bind fun af => (bI bC bt).bind fun an => eD (List.set bC (Int.toNat bt) af) (IntKind.i64.wrap (bt + 1))) (some bC)
def Ae (J : List Int) : Nat → (List Int) → Int → Option ((List Int))
 | 0, _, _ => none
 | n + 1, bC, bt => Kd (Ae J n) J bC bt
def Af (J : List Int) : Option ((List Int)) :=
 (mx 8 (J.length : Int)).bind fun _ => cO fun n => Ae J n (List.replicate (Int.toNat (J.length : Int)) 0) 0
def w6 (J : ie) : Option c2 :=
 (Af J.fk).bind fun af => some (c2.mk J.gP af)
def Ke (eD : (List c2) → Int → Option ((List c2))) (J : List ie) (bC : List c2) (bt : Int) : Option ((List c2)) :=
 cond (decide (bt < (J.length : Int))) ((bI J bt).bind fun af => (w6 af).bind fun an => (bI bC bt).bind fun a0 => eD (List.set bC (Int.toNat bt) an) (IntKind.i64.wrap (bt + 1))) (some bC)
def Ag (J : List ie) : Nat → (List c2) → Int → Option ((List c2))
 | 0, _, _ => none
 | n + 1, bC, bt => Ke (Ag J n) J bC bt
def Ah (J : List ie) : Option ((List c2)) :=
 (mx 32 (J.length : Int)).bind fun _ => cO fun n => Ag J n (List.replicate (Int.toNat (J.length : Int)) (c2.mk 0 [])) 0
def w7 (J : h3) : Option bR :=
 some (bR.mk J.Left J.b_ J.Result)
def Kf (eD : (List bR) → Int → Option ((List bR))) (J : List h3) (bC : List bR) (bt : Int) : Option ((List bR)) :=
 cond (decide (bt < (J.length : Int))) ((bI J bt).bind fun af => (w7 af).bind fun an => (bI bC bt).bind fun a0 => eD (List.set bC (Int.toNat bt) an) (IntKind.i64.wrap (bt + 1))) (some bC)
def Ai (J : List h3) : Nat → (List bR) → Int → Option ((List bR))
 | 0, _, _ => none
 | n + 1, bC, bt => Kf (Ai J n) J bC bt
def Aj (J : List h3) : Option ((List bR)) :=
 (mx 48 (J.length : Int)).bind fun _ => cO fun n => Ai J n (List.replicate (Int.toNat (J.length : Int)) (bR.mk ([] : List UInt8) ([] : List UInt8) ([] : List UInt8))) 0
def Kg (eD : (List (List UInt8)) → Int → Option ((List (List UInt8)))) (J : List (List UInt8)) (bC : List (List UInt8)) (bt : Int) : Option ((List (List UInt8))) :=
 cond (decide (bt < (J.length : Int))) ((bI J bt).bind fun af => (bI bC bt).bind fun an => eD (List.set bC (Int.toNat bt) af) (IntKind.i64.wrap (bt + 1))) (some bC)
def Ak (J : List (List UInt8)) : Nat → (List (List UInt8)) → Int → Option ((List (List UInt8)))
 | 0, _, _ => none
 | n + 1, bC, bt => Kg (Ak J n) J bC bt
def w8 (J : List (List UInt8)) : Option ((List (List UInt8))) :=
 (mx 16 (J.length : Int)).bind fun _ => cO fun n => Ak J n (List.replicate (Int.toNat (J.length : Int)) ([] : List UInt8)) 0
def qK (J : km) : Option dU :=
 (w5 J.bQ).bind fun af => (Ah J.cX).bind fun an => (Aj J.gX).bind fun a0 => (w8 J.gQ).bind fun bp => (w8 J.gR).bind fun bs => some (dU.mk af an a0 bp bs)
def w9 (J : UInt8) : Option Bool :=
 some ((decide (97 ≤ (J.toNat : Int))) && (decide ((J.toNat : Int) ≤ 122)))
def EU (J : UInt8) : Option Bool :=
 some ((decide (48 ≤ (J.toNat : Int))) && (decide ((J.toNat : Int) ≤ 57)))
def Al (fK : Int → Option Bool) (J : List UInt8) (cM : Int) : Option Bool :=
 cond (decide (cM < (J.length : Int))) ((bI J cM).bind fun a0 => (w9 a0).bind fun bp => cond (!bp) ((EU a0).bind fun bs => cond (!bs) (some false) (fK (IntKind.i64.wrap (cM + 1)))) (fK (IntKind.i64.wrap (cM + 1)))) (some true)
def uF (J : List UInt8) : Nat → Int → Option Bool
 | 0, _ => none
 | n + 1, cM => Al (uF J n) J cM
def uG (J : List UInt8) : Option Bool :=
 cond (J == ([] : List UInt8)) (some false) (cond (decide (10 < (J.length : Int))) (some false) ((bI J 0).bind fun af => (w9 af).bind fun an => cond (!an) (some false) (cO fun n => uF J n 0)))
def lL (J : Int) (ab : Int) (bj : Int) : Option Bool :=
 some ((decide (ab ≤ J)) && (decide (J ≤ bj)))
def w_ (J : bx) (gY : Bool) : Option Int :=
 cond gY (some 1) (cond (J.Kind == 2) (some 2) (some 0))
def xa (J : bx) : Option Int :=
 cond (J.Kind == 1) (w_ J true) (cond (J.Kind == 3) (w_ J true) (w_ J (J.Kind == 4)))
def Am (kn : Int → Int → Option Bool) (J : List bx) (mN : Int) (nr : Int) : Option Bool :=
 cond (decide (nr < (J.length : Int))) (cond (mN == 0) (some false) ((bI J nr).bind fun af => (xa af).bind fun an => kn (IntKind.i64.wrap (mN + (IntKind.i64.wrap (an - 1)))) (IntKind.i64.wrap (nr + 1)))) (some (mN == 0))
def r7 (J : List bx) : Nat → Int → Int → Option Bool
 | 0, _, _ => none
 | n + 1, mN, nr => Am (r7 J n) J mN nr
def An (J : List bx) : Option Bool :=
 cond (((J.length : Int) == 0) || (decide (20 < (J.length : Int)))) (some false) (cO fun n => r7 J n 1 0)
def Ao (J : bx) (xb : Bool) : Option Bool :=
 cond xb (some (((J.Number == 0) && (J.Name == ([] : List UInt8))) && ((J.cr.length : Int) == 0))) (cond (J.Kind == 1) (some (J.Number == 0)) (cond (J.Kind == 3) (some ((J.Number == 0) && (J.Name == ([] : List UInt8)))) (cond (J.Kind == 4) (some ((J.Name == ([] : List UInt8)) && ((J.cr.length : Int) == 0))) (cond (J.Kind == 5) (some (J.Name == ([] : List UInt8))) (some false)))))
def EV (J : bx) : Option Bool :=
 cond (J.Kind == 0) (Ao J true) (Ao J (J.Kind == 2))
def Ap (dG : Int → Int → Option Int) (J : List bx) (aY : Int) (aJ : Int) : Option Int :=
 cond (decide (0 < aJ)) ((bI J aY).bind fun af => (xa af).bind fun an => dG (IntKind.i64.wrap (aY + 1)) (IntKind.i64.wrap (aJ + (IntKind.i64.wrap (an - 1))))) (some aY)
def r8 (J : List bx) : Nat → Int → Int → Option Int
 | 0, _, _ => none
 | n + 1, aY, aJ => Ap (r8 J n) J aY aJ
def Aq (J : List bx) (ab : Int) : Option Int :=
 cO fun n => r8 J n ab 1
def xc (eD : Int → Int → Option Int) (J : a9) (ab : Int) (uH : Int) (uI : Int) : Option Int :=
 eD uH (IntKind.i64.wrap (uI + 1))
def Ar (eD : Int → Int → Option Int) (J : a9) (ab : Int) (k6 : Int) (ko : Int) : Option Int :=
 cond (decide (ko < ab)) ((bI J.Body ko).bind fun af => cond (af.Kind == 4) ((Aq J.Body ko).bind fun an => cond (decide (ab < an)) (xc eD J ab (IntKind.i64.wrap (k6 + 1)) ko) (xc eD J ab k6 ko)) (xc eD J ab k6 ko)) (some k6)
def qL (J : a9) (ab : Int) : Nat → Int → Int → Option Int
 | 0, _, _ => none
 | n + 1, k6, ko => Ar (qL J ab n) J ab k6 ko
def uJ (J : a9) (ab : Int) : Option Int :=
 cO fun n => qL J ab n J.cZ 0
def As (J : bO) (ab : Int) : Option Bool :=
 cond (J.Kind == 0) ((lL J.Value 0 63).bind fun af => some af) (cond (J.Kind == 1) ((lL J.Value 0 (IntKind.i64.wrap (ab - 1))).bind fun an => some an) (cond (J.Kind == 2) ((lL J.Value 0 8).bind fun a0 => some a0) (cond (J.Kind == 3) (some (J.Value == 0)) (some false))))
def EW (J : bO) : Option Int :=
 cond (J.Kind == 2) (some 2) (cond (J.Kind == 3) (some 1) (some 0))
def At (kn : Int → Int → Option Bool) (J : List bO) (ab : Int) (gY : Int) (mO : Int) : Option Bool :=
 cond (decide (mO < (J.length : Int))) (cond (gY == 0) (some false) ((bI J mO).bind fun af => (As af ab).bind fun an => cond (!an) (some false) ((EW af).bind fun a0 => kn (IntKind.i64.wrap (gY + (IntKind.i64.wrap (a0 - 1)))) (IntKind.i64.wrap (mO + 1))))) (some (gY == 0))
def r9 (J : List bO) (ab : Int) : Nat → Int → Int → Option Bool
 | 0, _, _ => none
 | n + 1, gY, mO => At (r9 J ab n) J ab gY mO
def Au (J : List bO) (ab : Int) (bj : Int) : Option Bool :=
 cond (decide (bj < (J.length : Int))) (some false) (cO fun n => r9 J ab n 1 0)
def Av (SI : Int → Int → Option Int) (af : bx) (ns : Int) (nt : Int) : Option Int :=
 cond (decide (nt < (af.cr.length : Int))) ((bI af.cr nt).bind fun bp => (Au bp ns 15).bind fun bs => cond (!bs) (some 8) (SI ns (IntKind.i64.wrap (nt + 1)))) (some 0)
def qM (af : bx) : Nat → Int → Int → Option Int
 | 0, _, _ => none
 | n + 1, ns, nt => Av (qM af n) af ns nt
def uK (ab : a9) (bj : Int) (af : bx) (xd : Bool) : Option Int :=
 cond xd (some 6) ((uJ ab bj).bind fun a0 => cond ((af.Kind == 4) && (decide (6 ≤ a0))) (some 7) (cO fun n => qM af n a0 0))
def r_ (ab : a9) (bj : Int) (af : bx) : Option Int :=
 cond (af.Kind == 5) (cond (bj == 0) (uK ab bj af true) ((bI ab.Body (IntKind.i64.wrap (bj - 1))).bind fun b7 => uK ab bj af (b7.Kind != 1))) (uK ab bj af false)
def sa (J : List a9) (ab : a9) (bj : Int) (af : bx) (xe : Bool) : Option Int :=
 cond xe (some 4) (cond (af.Kind == 1) (cond ((decide (2 < (af.cr.length : Int))) || ((decide (0 < (af.cr.length : Int))) && (af.Name == ([116, 97, 117] : List UInt8)))) (some 5) (r_ ab bj af)) (cond (af.Kind == 3) (cond ((af.cr.length : Int) != 1) (some 5) (r_ ab bj af)) (cond (af.Kind == 5) ((bI J af.Number).bind fun dk => cond ((af.cr.length : Int) != dk.cZ) (some 5) (r_ ab bj af)) (r_ ab bj af))))
def Aw (J : List a9) (ab : a9) (bj : Int) (af : bx) (xf : Bool) : Option Int :=
 cond xf (some 3) (cond (af.Kind == 4) ((lL af.Number 1 7).bind fun gi => cond (!gi) (sa J ab bj af true) (cond (af.Kind == 5) ((lL af.Number 0 (IntKind.i64.wrap ((J.length : Int) - 1))).bind fun dv => sa J ab bj af (!dv)) (sa J ab bj af false))) (cond (af.Kind == 5) ((lL af.Number 0 (IntKind.i64.wrap ((J.length : Int) - 1))).bind fun c5 => sa J ab bj af (!c5)) (sa J ab bj af false)))
def xg (J : List a9) (ab : a9) (bj : Int) : Option Int :=
 (bI ab.Body bj).bind fun af => (EV af).bind fun an => cond (!an) (some 2) (cond (af.Kind == 1) ((uG af.Name).bind fun eF => Aw J ab bj af (!eF)) (Aw J ab bj af false))
def xh (fK : Int → Option (Int × Int)) (J : List a9) (ab : a9) (lM : Int) : Option (Int × Int) :=
 cond (decide (lM < (ab.Body.length : Int))) ((xg J ab lM).bind fun an => cond (decide (0 < an)) (some (lM, an)) (fK (IntKind.i64.wrap (lM + 1)))) (some (0, 0))
def qN (J : List a9) (ab : a9) : Nat → Int → Option (Int × Int)
 | 0, _ => none
 | n + 1, lM => xh (qN J ab n) J ab lM
def sb (J : List a9) (ab : a9) : Option (Int × Int) :=
 (An ab.Body).bind fun af => cond (!af) (some (0, 1)) (cO fun n => qN J ab n 0)
def Ax (fK : Int → Option Bool) (SJ : Int → Int → Option Bool) (J : List a9) (lN : Int) (mP : Int) : Option Bool :=
 cond (decide (mP < lN)) ((bI J mP).bind fun bp => (bI J lN).bind fun bs => cond (bp.Name == bs.Name) (some false) (SJ lN (IntKind.i64.wrap (mP + 1)))) (fK (IntKind.i64.wrap (lN + 1)))
def sc (fK : Int → Option Bool) (J : List a9) : Nat → Int → Int → Option Bool
 | 0, _, _ => none
 | n + 1, lN, mP => Ax fK (sc fK J n) J lN mP
def Ay (SK : Int → Option Bool) (J : List a9) (nu : Int) : Option Bool :=
 cond (decide (nu < (J.length : Int))) ((bI J nu).bind fun b7 => (sb J b7).bind fun dk => cond (decide (0 < dk.2)) (some false) (SK (IntKind.i64.wrap (nu + 1)))) (some true)
def qO (J : List a9) : Nat → Int → Option Bool
 | 0, _ => none
 | n + 1, nu => Ay (qO J n) J nu
def Az (fK : Int → Option Bool) (J : List a9) (cM : Int) : Option Bool :=
 cond (decide (cM < (J.length : Int))) ((bI J cM).bind fun af => (uG af.Name).bind fun an => cond (!an) (some false) ((lL af.cZ 0 3).bind fun a0 => cond (!a0) (some false) (cO fun n => sc fK J n cM 0))) (cO fun n => qO J n 0)
def nv (J : List a9) : Nat → Int → Option Bool
 | 0, _ => none
 | n + 1, cM => Az (nv J n) J cM
def AA (J : List a9) : Option Bool :=
 cond (((J.length : Int) == 0) || (decide (4 < (J.length : Int)))) (some false) (cO fun n => nv J n 0)
def AB (dG : Int → Option Bool) (J : List Int) (iT : Int) : Option Bool :=
 cond (decide (iT < (J.length : Int))) ((bI J iT).bind fun af => (lL af 0 63).bind fun an => cond (!an) (some false) (dG (IntKind.i64.wrap (iT + 1)))) (some true)
def sd (J : List Int) : Nat → Int → Option Bool
 | 0, _ => none
 | n + 1, iT => AB (sd J n) J iT
def AD (J : List Int) : Option Bool :=
 cO fun n => sd J n 0
def AE (fK : Int → Option Bool) (J : dU) (cM : Int) : Option Bool :=
 cond (decide (cM < (J.cX.length : Int))) ((bI J.cX cM).bind fun af => (lL af.gP 0 (IntKind.i64.wrap ((J.bQ.length : Int) - 1))).bind fun an => cond (!an) (some false) ((bI J.bQ af.gP).bind fun a0 => cond ((af.fk.length : Int) != a0.cZ) (some false) ((AD af.fk).bind fun bp => cond (!bp) (some false) (fK (IntKind.i64.wrap (cM + 1)))))) (some true)
def se (J : dU) : Nat → Int → Option Bool
 | 0, _ => none
 | n + 1, cM => AE (se J n) J cM
def AF (J : dU) : Option Bool :=
 cond (((J.cX.length : Int) == 0) || (decide (3 < (J.cX.length : Int)))) (some false) (cO fun n => se J n 0)
def sf (J : List UInt8) : Option Bool :=
 (uG J).bind fun af => some (af && (!(J == ([116, 97, 117] : List UInt8))))
def xi (fK : Int → Option Bool) (SL : Int → Int → Option Bool) (J : List bR) (af : bR) (js : Int) (jI : Int) : Option Bool :=
 cond (decide (jI < (J.length : Int))) ((bI J jI).bind fun dk => cond ((dk.Left == af.Result) || (dk.b_ == af.Result)) (some false) (SL js (IntKind.i64.wrap (jI + 1)))) (fK (IntKind.i64.wrap (js + 1)))
def oa (fK : Int → Option Bool) (J : List bR) (af : bR) : Nat → Int → Int → Option Bool
 | 0, _, _ => none
 | n + 1, js, jI => xi fK (oa fK J af n) J af js jI
def AG (fK : Int → Option Bool) (J : List bR) (cM : Int) : Option Bool :=
 cond (decide (cM < (J.length : Int))) ((bI J cM).bind fun af => (sf af.Left).bind fun an => cond (!an) (some false) ((sf af.b_).bind fun a0 => cond (!a0) (some false) ((sf af.Result).bind fun bp => cond ((!bp) || (!(Op.bytesLess af.Left af.b_ || af.Left == af.b_))) (some false) (cond (decide (0 < cM)) ((bI J (IntKind.i64.wrap (cM - 1))).bind fun bs => cond ((!(Op.bytesLess bs.Left af.Left || bs.Left == af.Left)) || ((bs.Left == af.Left) && (!(Op.bytesLess bs.b_ af.b_)))) (some false) (cO fun n => oa fK J af n cM 0)) (cO fun n => oa fK J af n cM 0))))) (some true)
def lo (J : List bR) : Nat → Int → Option Bool
 | 0, _ => none
 | n + 1, cM => AG (lo J n) J cM
def AH (J : List bR) : Option Bool :=
 cond (decide (6 < (J.length : Int))) (some false) (cO fun n => lo J n 0)
def AJ (dG : Int → Option Bool) (J : List (List UInt8)) (iT : Int) : Option Bool :=
 cond (decide (iT < (J.length : Int))) ((bI J iT).bind fun af => (sf af).bind fun an => cond (!an) (some false) (dG (IntKind.i64.wrap (iT + 1)))) (some true)
def sg (J : List (List UInt8)) : Nat → Int → Option Bool
 | 0, _ => none
 | n + 1, iT => AJ (sg J n) J iT
def AK (J : List (List UInt8)) : Option Bool :=
 cO fun n => sg J n 0
def xj (fK : Int → Option Bool) (J : List (List UInt8)) (cM : Int) : Option Bool :=
 cond (decide (cM < (J.length : Int))) ((bI J (IntKind.i64.wrap (cM - 1))).bind fun an => (bI J cM).bind fun a0 => cond (!(Op.bytesLess an a0)) (some false) (fK (IntKind.i64.wrap (cM + 1)))) (some true)
def mQ (J : List (List UInt8)) : Nat → Int → Option Bool
 | 0, _ => none
 | n + 1, cM => xj (mQ J n) J cM
def xk (J : List (List UInt8)) : Option Bool :=
 cond (decide (12 < (J.length : Int))) (some false) ((AK J).bind fun af => cond (!af) (some false) (cO fun n => mQ J n 1))
def AL (J : dU) : Option Int :=
 (AA J.bQ).bind fun af => cond (!af) (some 1) ((AF J).bind fun an => cond (!an) (some 2) ((AH J.gX).bind fun a0 => cond (!a0) (some 3) ((xk J.gQ).bind fun bp => cond (!bp) (some 4) ((xk J.gR).bind fun bs => cond (!bs) (some 5) (some 0)))))
def AM (J : dU) : Option Bool :=
 (AL J).bind fun af => some (af == 0)
def avq : List Int := [0, 0]
def avr : List Int := [0, 1]
def xl (eD : (List (List Int)) → Int → Option ((List (List Int)))) (xm : (List (List Int)) → Int → Int → Option ((List (List Int)))) (J : dU) (af : a9) (mR : List (List Int)) (mS : Int) (uL : Int) : Option ((List (List Int))) :=
 xm mR mS (IntKind.i64.wrap (uL + 1))
def AN (eD : (List (List Int)) → Int → Option ((List (List Int)))) (xm : (List (List Int)) → Int → Int → Option ((List (List Int)))) (J : dU) (af : a9) (kL : List (List Int)) (i4 : Int) (iU : Int) : Option ((List (List Int))) :=
 cond (decide (iU < (af.Body.length : Int))) ((bI af.Body (IntKind.i64.wrap (iU - 1))).bind fun an => cond (an.Kind == 1) ((bI af.Body iU).bind fun a0 => cond (a0.Kind != 5) ((room 24 (kL.length + 1)).bind fun _ => xl eD xm J af (kL ++ [[i4, iU]]) i4 iU) (xl eD xm J af kL i4 iU)) (xl eD xm J af kL i4 iU)) (eD kL (IntKind.i64.wrap (i4 + 1)))
def pM (eD : (List (List Int)) → Int → Option ((List (List Int)))) (J : dU) (af : a9) : Nat → (List (List Int)) → Int → Int → Option ((List (List Int)))
 | 0, _, _, _ => none
 | n + 1, kL, i4, iU => AN eD (pM eD J af n) J af kL i4 iU
def AO (eD : (List (List Int)) → Int → Option ((List (List Int)))) (J : dU) (bC : List (List Int)) (bt : Int) : Option ((List (List Int))) :=
 cond (decide (bt < (J.bQ.length : Int))) ((bI J.bQ bt).bind fun af => (room 24 (bC.length + 1)).bind fun _ => cO fun n => pM eD J af n (bC ++ [[bt, 0]]) bt 1) (some bC)
def nw (J : dU) : Nat → (List (List Int)) → Int → Option ((List (List Int)))
 | 0, _, _ => none
 | n + 1, bC, bt => AO (nw J n) J bC bt
def AP (J : dU) : Option ((List (List Int))) :=
 cO fun n => nw J n [] 0
def AQ (J : dU) : Option ((List (List Int)) × Int) :=
 (AM J).bind fun af => cond (!af) (some ([], 1)) ((AP J).bind fun an => cond (decide (64 < (an.length : Int))) (some ([], 5)) (some (an, 0)))
def jf (J : Int) (ab : Int) (bj : Int) : Option Bool :=
 some ((decide (ab ≤ J)) && (decide (J ≤ bj)))
def EX (J : a9) : Option Bool :=
 (jf J.cZ 0 3).bind fun af => some (!af)
def AR (dG : Int → Option Int) (J : List a9) (c3 : Int) : Option Int :=
 cond (decide (c3 < (J.length : Int))) ((bI J c3).bind fun af => (EX af).bind fun an => cond an (some c3) (dG (IntKind.i64.wrap (c3 + 1)))) (some (-1))
def uM (J : List a9) : Nat → Int → Option Int
 | 0, _ => none
 | n + 1, c3 => AR (uM J n) J c3
def EY (J : List a9) : Option Int :=
 cO fun n => uM J n 0
def EZ (J : List a9) : Option Bool :=
 (EY J).bind fun af => some (decide (0 ≤ af))
def AS (J : List a9) : Option Bool :=
 (EZ J).bind fun af => some (!af)
def E0 (J : UInt8) : Option Bool :=
 some ((decide (48 ≤ (J.toNat : Int))) && (decide ((J.toNat : Int) ≤ 57)))
def xn (dG : Int → Option Bool) (J : List UInt8) (eG : Int) : Option Bool :=
 cond (decide (eG < (J.length : Int))) ((bI J eG).bind fun af => cond (!((decide (97 ≤ (af.toNat : Int))) && (decide ((af.toNat : Int) ≤ 122)))) (cond (eG == 0) (some false) ((E0 af).bind fun an => cond (!an) (some false) (dG (IntKind.i64.wrap (eG + 1))))) (dG (IntKind.i64.wrap (eG + 1)))) (some ((decide (1 ≤ (J.length : Int))) && (decide ((J.length : Int) ≤ 10))))
def pN (J : List UInt8) : Nat → Int → Option Bool
 | 0, _ => none
 | n + 1, eG => xn (pN J n) J eG
def xo (J : List UInt8) : Option Bool :=
 cO fun n => pN J n 0
def E1 (J : a9) (ab : List UInt8) : Option Bool :=
 some (J.Name == ab)
def AU (dG : Int → Option Int) (J : List a9) (ab : List UInt8) (c3 : Int) : Option Int :=
 cond (decide (c3 < (J.length : Int))) ((bI J c3).bind fun af => (E1 af ab).bind fun an => cond an (some c3) (dG (IntKind.i64.wrap (c3 + 1)))) (some (-1))
def uN (J : List a9) (ab : List UInt8) : Nat → Int → Option Int
 | 0, _ => none
 | n + 1, c3 => AU (uN J ab n) J ab c3
def E2 (J : List a9) (ab : List UInt8) : Option Int :=
 cO fun n => uN J ab n 0
def AV (J : List a9) (ab : List UInt8) : Option Int :=
 (E2 J ab).bind fun af => some af
def xp (J : bx) (df : Bool) : Option Int :=
 cond df (some 1) (cond (J.Kind == 2) (some 2) (some 0))
def xq (J : bx) : Option Int :=
 cond (J.Kind == 1) (xp J true) (cond (J.Kind == 3) (xp J true) (xp J (J.Kind == 4)))
def AW (dG : Int → Int → Option Int) (J : a9) (aY : Int) (aJ : Int) : Option Int :=
 cond (decide (0 < aJ)) (cond (decide ((J.Body.length : Int) ≤ aY)) (some (-1)) ((bI J.Body aY).bind fun af => (xq af).bind fun an => dG (IntKind.i64.wrap (aY + 1)) (IntKind.i64.wrap (aJ + (IntKind.i64.wrap (an - 1)))))) (some aY)
def si (J : a9) : Nat → Int → Int → Option Int
 | 0, _, _ => none
 | n + 1, aY, aJ => AW (si J n) J aY aJ
def AX (J : a9) (ab : Int) : Option Int :=
 cO fun n => si J n ab 1
def AY (lp : Int → cg → (List cg) → a9 → Option (Int × (List cg))) (SM : (List cg) → Int → Int → Option (Int × (List cg))) (dy : a9) (kp : Int) (an : bx) (a0 : Int) (ob : List cg) (mT : Int) (nx : Int) : Option (Int × (List cg)) :=
 cond (decide (nx < a0)) ((lp mT (cg.mk kp (an.Kind == 1)) ob dy).bind fun bp => SM bp.2 bp.1 (IntKind.i64.wrap (nx + 1))) (some (mT, ob))
def qP (lp : Int → cg → (List cg) → a9 → Option (Int × (List cg))) (dy : a9) (kp : Int) (an : bx) (a0 : Int) : Nat → (List cg) → Int → Int → Option (Int × (List cg))
 | 0, _, _, _ => none
 | n + 1, ob, mT, nx => AY lp (qP lp dy kp an a0 n) dy kp an a0 ob mT nx
def AZ (lp : Int → cg → (List cg) → a9 → Option (Int × (List cg))) (J : Int) (ab : cg) (bj : List cg) (dy : a9) (an : bx) (kp : Int) : Option (Int × (List cg)) :=
 (xq an).bind fun a0 => cO fun n => qP lp dy kp an a0 n (List.set bj (Int.toNat J) ab) (IntKind.i64.wrap (J + 1)) 0
def E3 (lp : Int → cg → (List cg) → a9 → Option (Int × (List cg))) (J : Int) (ab : cg) (bj : List cg) (dy : a9) : Option (Int × (List cg)) :=
 (bI bj J).bind fun af => (bI dy.Body J).bind fun an => cond (an.Kind == 4) (AZ lp J ab bj dy an (IntKind.i64.wrap (ab.scope + 1))) (AZ lp J ab bj dy an ab.scope)
def sj : Nat → Int → cg → (List cg) → a9 → Option (Int × (List cg))
 | 0, _, _, _, _ => none
 | n + 1, J, ab, bj, dy => E3 (sj n) J ab bj dy
def A0 (J : Int) (ab : cg) (bj : List cg) (dy : a9) : Option (Int × (List cg)) :=
 cO fun n => sj n J ab bj dy
def xr (J : a9) : Option ((List cg)) :=
 (mx 16 (J.Body.length : Int)).bind fun _ => (A0 0 (cg.mk J.cZ false) (List.replicate (Int.toNat (J.Body.length : Int)) (cg.mk 0 false)) J).bind fun af => some af.2
def E4 (J : bx) : Option Bool :=
 (jf J.Kind 0 5).bind fun af => some (((af && (((J.Kind == 4) || (J.Kind == 5)) || (J.Number == 0))) && ((J.Kind == 1) || (J.Name == ([] : List UInt8)))) && ((((J.Kind == 1) || (J.Kind == 3)) || (J.Kind == 5)) || ((J.cr.length : Int) == 0)))
def pO (J : List UInt8) : Option Bool :=
 (xo J).bind fun af => some (af && (!(J == ([116, 97, 117] : List UInt8))))
def uO (J : Int) (ab : Int) : Option Bool :=
 (jf J 0 (IntKind.i64.wrap (ab - 1))).bind fun af => some af
def E5 (J : bx) (ab : List a9) : Option Bool :=
 cond (J.Kind == 1) (some (((J.cr.length : Int) == 0) || ((!(J.Name == ([116, 97, 117] : List UInt8))) && (decide ((J.cr.length : Int) ≤ 2))))) (cond (J.Kind == 3) (some ((J.cr.length : Int) == 1)) (cond (J.Kind == 5) ((bI ab J.Number).bind fun af => some ((J.cr.length : Int) == af.cZ)) (some true)))
def xt (J : Int) : Option Bool :=
 (jf J 0 63).bind fun af => some af
def A1 (J : bO) (ab : Int) : Option Bool :=
 cond (J.Kind == 0) ((xt J.Value).bind fun af => some af) (cond (J.Kind == 1) ((jf J.Value 0 (IntKind.i64.wrap (ab - 1))).bind fun an => some an) (cond (J.Kind == 2) ((jf J.Value 0 8).bind fun a0 => some a0) (cond (J.Kind == 3) (some (J.Value == 0)) (some false))))
def E6 (J : bO) : Option Int :=
 cond (J.Kind == 2) (some 2) (cond (J.Kind == 3) (some 1) (some 0))
def A2 (kn : Int → Int → Option Bool) (J : List bO) (ab : Int) (gY : Int) (mU : Int) : Option Bool :=
 cond (decide (mU < (J.length : Int))) ((bI J mU).bind fun bp => cond (gY == 0) (some false) ((A1 bp ab).bind fun bs => cond (!bs) (some false) ((E6 bp).bind fun b7 => kn (IntKind.i64.wrap (gY + (IntKind.i64.wrap (b7 - 1)))) (IntKind.i64.wrap (mU + 1))))) (some (gY == 0))
def sk (J : List bO) (ab : Int) : Nat → Int → Int → Option Bool
 | 0, _, _ => none
 | n + 1, gY, mU => A2 (sk J ab n) J ab gY mU
def A3 (J : List bO) (ab : Int) (bj : Int) : Option Bool :=
 (jf ab 0 29).bind fun af => cond (!af) (some false) ((jf bj 1 60).bind fun an => cond (!an) (some false) ((jf (J.length : Int) 1 bj).bind fun a0 => cond (!a0) (some false) (cO fun n => sk J ab n 1 0)))
def E7 (J : List bO) (ab : cg) : Option Bool :=
 (A3 J ab.scope 15).bind fun af => some (!af)
def A4 (dG : Int → Option Int) (J : List (List bO)) (ab : cg) (c3 : Int) : Option Int :=
 cond (decide (c3 < (J.length : Int))) ((bI J c3).bind fun af => (E7 af ab).bind fun an => cond an (some c3) (dG (IntKind.i64.wrap (c3 + 1)))) (some (-1))
def uP (J : List (List bO)) (ab : cg) : Nat → Int → Option Int
 | 0, _ => none
 | n + 1, c3 => A4 (uP J ab n) J ab c3
def E8 (J : List (List bO)) (ab : cg) : Option Int :=
 cO fun n => uP J ab n 0
def A5 (J : List (List bO)) (ab : cg) : Option Bool :=
 (E8 J ab).bind fun af => some (decide (0 ≤ af))
def sl (J : bx) (ab : List a9) (bj : cg) (xu : Bool) : Option Int :=
 cond xu (some 4) ((E5 J ab).bind fun an => cond (!an) (some 5) (cond ((J.Kind == 5) && (!bj.behind)) (some 6) (cond ((J.Kind == 4) && (decide (6 ≤ bj.scope))) (some 7) ((A5 J.cr bj).bind fun a0 => cond a0 (some 8) (some 0)))))
def xv (J : bx) (ab : List a9) (bj : cg) (xw : Bool) : Option Int :=
 cond xw (some 3) (cond (J.Kind == 4) ((jf J.Number 1 7).bind fun bp => cond (!bp) (sl J ab bj true) (cond (J.Kind == 5) ((uO J.Number (ab.length : Int)).bind fun bs => sl J ab bj (!bs)) (sl J ab bj false))) (cond (J.Kind == 5) ((uO J.Number (ab.length : Int)).bind fun b7 => sl J ab bj (!b7)) (sl J ab bj false)))
def xx (J : bx) (ab : List a9) (bj : cg) : Option Int :=
 (E4 J).bind fun af => cond (!af) (some 2) (cond (J.Kind == 1) (cond (!(J.Name == ([116, 97, 117] : List UInt8))) ((pO J.Name).bind fun dk => xv J ab bj (!dk)) (xv J ab bj false)) (xv J ab bj false))
def xy (kn : Int → Option (Int × Int)) (J : List a9) (ab : a9) (a0 : (List cg)) (k7 : Int) : Option (Int × Int) :=
 cond (decide (k7 < (ab.Body.length : Int))) ((bI ab.Body k7).bind fun bp => (bI a0 k7).bind fun bs => (xx bp J bs).bind fun b7 => cond (b7 != 0) (some (k7, b7)) (kn (IntKind.i64.wrap (k7 + 1)))) (some (0, 0))
def qQ (J : List a9) (ab : a9) (a0 : (List cg)) : Nat → Int → Option (Int × Int)
 | 0, _ => none
 | n + 1, k7 => xy (qQ J ab a0 n) J ab a0 k7
def xz (J : List a9) (ab : a9) : Option (Int × Int) :=
 (jf (ab.Body.length : Int) 1 20).bind fun af => cond (!af) (some (0, 1)) ((AX ab 0).bind fun an => cond (an != (ab.Body.length : Int)) (some (0, 1)) ((xr ab).bind fun a0 => cO fun n => qQ J ab a0 n 0))
def A6 (fK : Int → Option Bool) (J : List a9) (lO : Int) : Option Bool :=
 cond (decide (lO < (J.length : Int))) ((bI J lO).bind fun a0 => (xo a0.Name).bind fun bp => cond (!bp) (some false) ((jx J 0 lO).bind fun bs => (AV bs a0.Name).bind fun b7 => cond (decide (0 ≤ b7)) (some false) ((xz J a0).bind fun dk => cond (dk.2 != 0) (some false) (fK (IntKind.i64.wrap (lO + 1)))))) (some true)
def sm (J : List a9) : Nat → Int → Option Bool
 | 0, _ => none
 | n + 1, lO => A6 (sm J n) J lO
def A7 (J : List a9) : Option Bool :=
 (jf (J.length : Int) 1 4).bind fun af => cond (!af) (some false) ((AS J).bind fun an => cond (!an) (some false) (cO fun n => sm J n 0))
def E9 (J : Int) : Option Bool :=
 (xt J).bind fun af => some (!af)
def A8 (dG : Int → Option Int) (J : List Int) (c3 : Int) : Option Int :=
 cond (decide (c3 < (J.length : Int))) ((bI J c3).bind fun af => (E9 af).bind fun an => cond an (some c3) (dG (IntKind.i64.wrap (c3 + 1)))) (some (-1))
def uQ (J : List Int) : Nat → Int → Option Int
 | 0, _ => none
 | n + 1, c3 => A8 (uQ J n) J c3
def E_ (J : List Int) : Option Int :=
 cO fun n => uQ J n 0
def Fa (J : List Int) : Option Bool :=
 (E_ J).bind fun af => some (decide (0 ≤ af))
def A9 (J : List Int) : Option Bool :=
 (Fa J).bind fun af => some (!af)
def A_ (J : List a9) (ab : c2) : Option Bool :=
 (uO ab.gP (J.length : Int)).bind fun af => cond af ((bI J ab.gP).bind fun an => cond ((ab.fk.length : Int) == an.cZ) ((A9 ab.fk).bind fun a0 => some a0) (some false)) (some false)
def Fb (J : c2) (ab : dU) : Option Bool :=
 (A_ ab.bQ J).bind fun af => some (!af)
def Ba (dG : Int → Option Int) (J : List c2) (ab : dU) (c3 : Int) : Option Int :=
 cond (decide (c3 < (J.length : Int))) ((bI J c3).bind fun af => (Fb af ab).bind fun an => cond an (some c3) (dG (IntKind.i64.wrap (c3 + 1)))) (some (-1))
def uR (J : List c2) (ab : dU) : Nat → Int → Option Int
 | 0, _ => none
 | n + 1, c3 => Ba (uR J ab n) J ab c3
def Fe (J : List c2) (ab : dU) : Option Int :=
 cO fun n => uR J ab n 0
def Bb (J : List c2) (ab : dU) : Option Bool :=
 (Fe J ab).bind fun af => some (decide (0 ≤ af))
def Bc (J : List UInt8) : Option Bool :=
 some false
def Bd (J : List UInt8) (ab : List UInt8) : Option Int :=
 (Bc J).bind fun af => (Bc ab).bind fun an => cond af (cond an (some 0) (some (-1))) (cond an (some 1) (cond (Op.bytesLess J ab) (some (-1)) (cond (!(Op.bytesLess J ab || J == ab)) (some 1) (some 0))))
def Ff (dG : Int → Option Int) (J : List (List UInt8)) (ab : List (List UInt8)) (mg : Int) : Option Int :=
 cond (decide (mg < (J.length : Int))) ((bI J mg).bind fun af => cond (decide ((ab.length : Int) ≤ mg)) (some 1) ((bI ab mg).bind fun an => (Bd af an).bind fun a0 => cond (a0 != 0) (some a0) (dG (IntKind.i64.wrap (mg + 1))))) (cond (decide ((J.length : Int) < (ab.length : Int))) (some (-1)) (some 0))
def xA (J : List (List UInt8)) (ab : List (List UInt8)) : Nat → Int → Option Int
 | 0, _ => none
 | n + 1, mg => Ff (xA J ab n) J ab mg
def Be (J : List (List UInt8)) (ab : List (List UInt8)) : Option Int :=
 cO fun n => xA J ab n 0
def Bf (J : bR) (ab : bR) : Option Int :=
 (Be [J.Left, J.b_] [ab.Left, ab.b_]).bind fun af => some af
def Fg (J : bR) (ab : bR) : Option Bool :=
 some ((J.Left == ab.Result) || (J.b_ == ab.Result))
def Bg (dG : Int → Option Int) (J : List bR) (ab : bR) (c3 : Int) : Option Int :=
 cond (decide (c3 < (J.length : Int))) ((bI J c3).bind fun af => (Fg af ab).bind fun an => cond an (some c3) (dG (IntKind.i64.wrap (c3 + 1)))) (some (-1))
def uS (J : List bR) (ab : bR) : Nat → Int → Option Int
 | 0, _ => none
 | n + 1, c3 => Bg (uS J ab n) J ab c3
def Fh (J : List bR) (ab : bR) : Option Int :=
 cO fun n => uS J ab n 0
def xB (J : List bR) (ab : bR) : Option Bool :=
 (Fh J ab).bind fun af => some (decide (0 ≤ af))
def Bh (dG : Int → Option Bool) (J : List bR) (eG : Int) : Option Bool :=
 cond (decide (eG < (J.length : Int))) ((bI J eG).bind fun af => (pO af.Left).bind fun bs => cond (!bs) (some false) ((pO af.b_).bind fun b7 => cond (!b7) (some false) ((pO af.Result).bind fun dk => cond (!dk) (some false) (cond (!(Op.bytesLess af.Left af.b_ || af.Left == af.b_)) (some false) (cond (decide (0 < eG)) ((bI J (IntKind.i64.wrap (eG - 1))).bind fun gi => (Bf gi af).bind fun dv => cond (decide (0 ≤ dv)) (some false) ((xB J af).bind fun c5 => cond c5 (some false) (dG (IntKind.i64.wrap (eG + 1))))) ((xB J af).bind fun eF => cond eF (some false) (dG (IntKind.i64.wrap (eG + 1))))))))) (some (decide ((J.length : Int) ≤ 6)))
def sn (J : List bR) : Nat → Int → Option Bool
 | 0, _ => none
 | n + 1, eG => Bh (sn J n) J eG
def Bi (J : List bR) : Option Bool :=
 cO fun n => sn J n 0
def Bj (dG : Int → Option Bool) (J : List (List UInt8)) (eG : Int) : Option Bool :=
 cond (decide (eG < (J.length : Int))) ((bI J eG).bind fun af => (pO af).bind fun an => cond (!an) (some false) (cond (decide (0 < eG)) ((bI J (IntKind.i64.wrap (eG - 1))).bind fun a0 => cond (Op.bytesLess af a0 || af == a0) (some false) (dG (IntKind.i64.wrap (eG + 1)))) (dG (IntKind.i64.wrap (eG + 1))))) (some (decide ((J.length : Int) ≤ 12)))
def so (J : List (List UInt8)) : Nat → Int → Option Bool
 | 0, _ => none
 | n + 1, eG => Bj (so J n) J eG
def xC (J : List (List UInt8)) : Option Bool :=
 cO fun n => so J n 0
def Bk (J : dU) : Option Int :=
 (A7 J.bQ).bind fun af => cond (!af) (some 1) ((jf (J.cX.length : Int) 1 3).bind fun an => cond (!an) (some 2) ((Bb J.cX J).bind fun a0 => cond a0 (some 2) ((Bi J.gX).bind fun bp => cond (!bp) (some 3) ((xC J.gQ).bind fun bs => cond (!bs) (some 4) ((xC J.gR).bind fun b7 => cond (!b7) (some 5) (some 0))))))
def Bl (J : dU) : Option Bool :=
 (Bk J).bind fun af => some (af == 0)
def avs : List Int := [0, 0]
def sq (eD : (List (List Int)) → Int → Option ((List (List Int)))) (uT : (List (List Int)) → Int → Int → Int → Option ((List (List Int)))) (J : dU) (af : a9) (an : (List cg)) (mR : List (List Int)) (mS : Int) (uU : Int) (uV : Int) : Option ((List (List Int))) :=
 uT mR mS uU (IntKind.i64.wrap (uV + 1))
def xD (eD : (List (List Int)) → Int → Option ((List (List Int)))) (uT : (List (List Int)) → Int → Int → Int → Option ((List (List Int)))) (J : dU) (af : a9) (an : (List cg)) (jt : List (List Int)) (hx : Int) (j5 : Int) (gS : Int) : Option ((List (List Int))) :=
 cond (decide (gS < (an.length : Int))) ((bI an gS).bind fun a0 => cond (gS == 0) ((room 24 (jt.length + 1)).bind fun _ => sq eD uT J af an (jt ++ [[hx, gS]]) hx j5 gS) (cond a0.behind ((bI af.Body gS).bind fun bp => cond (bp.Kind != 5) ((room 24 (jt.length + 1)).bind fun _ => sq eD uT J af an (jt ++ [[hx, gS]]) hx j5 gS) (sq eD uT J af an jt hx j5 gS)) (sq eD uT J af an jt hx j5 gS))) (eD jt (IntKind.i64.wrap (j5 + 1)))
def o7 (eD : (List (List Int)) → Int → Option ((List (List Int)))) (J : dU) (af : a9) (an : (List cg)) : Nat → (List (List Int)) → Int → Int → Int → Option ((List (List Int)))
 | 0, _, _, _, _ => none
 | n + 1, jt, hx, j5, gS => xD eD (o7 eD J af an n) J af an jt hx j5 gS
def Bm (eD : (List (List Int)) → Int → Option ((List (List Int)))) (J : dU) (bC : List (List Int)) (mh : Int) : Option ((List (List Int))) :=
 cond (decide (mh < (J.bQ.length : Int))) ((bI J.bQ mh).bind fun af => (xr af).bind fun an => cO fun n => o7 eD J af an n bC mh mh 0) (some bC)
def ny (J : dU) : Nat → (List (List Int)) → Int → Option ((List (List Int)))
 | 0, _, _ => none
 | n + 1, bC, mh => Bm (ny J n) J bC mh
def Bn (J : dU) : Option ((List (List Int))) :=
 cO fun n => ny J n [] 0
def xE (J : dU) : Option ((List (List Int)) × Int) :=
 (Bl J).bind fun af => cond (!af) (some ([], 1)) ((Bn J).bind fun an => cond (decide (64 < (an.length : Int))) (some ([], 5)) (some (an, 0)))
def Kh (fK : Int → Option Bool) (J : List Int) (ab : List Int) (bS : Int) : Option Bool :=
 cond (decide (bS < (J.length : Int))) ((bI J bS).bind fun af => (bI ab bS).bind fun an => cond (af != an) (some false) (fK (IntKind.i64.wrap (bS + 1)))) (some true)
def Bo (J : List Int) (ab : List Int) : Nat → Int → Option Bool
 | 0, _ => none
 | n + 1, bS => Kh (Bo J ab n) J ab bS
def uW (J : List Int) (ab : List Int) : Option Bool :=
 cond ((J.length : Int) != (ab.length : Int)) (some false) (cO fun n => Bo J ab n 0)
def Ki (fK : Int → Option Bool) (J : List (List Int)) (ab : List (List Int)) (bS : Int) : Option Bool :=
 cond (decide (bS < (J.length : Int))) ((bI J bS).bind fun af => (bI ab bS).bind fun an => (uW af an).bind fun a0 => cond (!a0) (some false) (fK (IntKind.i64.wrap (bS + 1)))) (some true)
def Bp (J : List (List Int)) (ab : List (List Int)) : Nat → Int → Option Bool
 | 0, _ => none
 | n + 1, bS => Ki (Bp J ab n) J ab bS
def uX (J : List (List Int)) (ab : List (List Int)) : Option Bool :=
 cond ((J.length : Int) != (ab.length : Int)) (some false) (cO fun n => Bp J ab n 0)
def xF (J : bO) (ab : bO) : Option Bool :=
 cond (J.Kind != ab.Kind) (some false) (cond (J.Value != ab.Value) (some false) (some true))
def Kj (fK : Int → Option Bool) (J : List bO) (ab : List bO) (bS : Int) : Option Bool :=
 cond (decide (bS < (J.length : Int))) ((bI J bS).bind fun af => (bI ab bS).bind fun an => (xF af an).bind fun a0 => cond (!a0) (some false) (fK (IntKind.i64.wrap (bS + 1)))) (some true)
def Bq (J : List bO) (ab : List bO) : Nat → Int → Option Bool
 | 0, _ => none
 | n + 1, bS => Kj (Bq J ab n) J ab bS
def xG (J : List bO) (ab : List bO) : Option Bool :=
 cond ((J.length : Int) != (ab.length : Int)) (some false) (cO fun n => Bq J ab n 0)
def Kk (fK : Int → Option Bool) (J : List (List bO)) (ab : List (List bO)) (bS : Int) : Option Bool :=
 cond (decide (bS < (J.length : Int))) ((bI J bS).bind fun af => (bI ab bS).bind fun an => (xG af an).bind fun a0 => cond (!a0) (some false) (fK (IntKind.i64.wrap (bS + 1)))) (some true)
def Br (J : List (List bO)) (ab : List (List bO)) : Nat → Int → Option Bool
 | 0, _ => none
 | n + 1, bS => Kk (Br J ab n) J ab bS
def Bs (J : List (List bO)) (ab : List (List bO)) : Option Bool :=
 cond ((J.length : Int) != (ab.length : Int)) (some false) (cO fun n => Br J ab n 0)
def xH (J : bx) (ab : bx) : Option Bool :=
 cond (J.Kind != ab.Kind) (some false) (cond (J.Number != ab.Number) (some false) (cond (!(J.Name == ab.Name)) (some false) ((Bs J.cr ab.cr).bind fun af => cond (!af) (some false) (some true))))
def Kl (fK : Int → Option Bool) (J : List bx) (ab : List bx) (bS : Int) : Option Bool :=
 cond (decide (bS < (J.length : Int))) ((bI J bS).bind fun af => (bI ab bS).bind fun an => (xH af an).bind fun a0 => cond (!a0) (some false) (fK (IntKind.i64.wrap (bS + 1)))) (some true)
def Bt (J : List bx) (ab : List bx) : Nat → Int → Option Bool
 | 0, _ => none
 | n + 1, bS => Kl (Bt J ab n) J ab bS
def Bu (J : List bx) (ab : List bx) : Option Bool :=
 cond ((J.length : Int) != (ab.length : Int)) (some false) (cO fun n => Bt J ab n 0)
def xI (J : a9) (ab : a9) : Option Bool :=
 cond (!(J.Name == ab.Name)) (some false) (cond (J.cZ != ab.cZ) (some false) ((Bu J.Body ab.Body).bind fun af => cond (!af) (some false) (some true)))
def Km (fK : Int → Option Bool) (J : List a9) (ab : List a9) (bS : Int) : Option Bool :=
 cond (decide (bS < (J.length : Int))) ((bI J bS).bind fun af => (bI ab bS).bind fun an => (xI af an).bind fun a0 => cond (!a0) (some false) (fK (IntKind.i64.wrap (bS + 1)))) (some true)
def Bv (J : List a9) (ab : List a9) : Nat → Int → Option Bool
 | 0, _ => none
 | n + 1, bS => Km (Bv J ab n) J ab bS
def xJ (J : List a9) (ab : List a9) : Option Bool :=
 cond ((J.length : Int) != (ab.length : Int)) (some false) (cO fun n => Bv J ab n 0)
def xK (J : c2) (ab : c2) : Option Bool :=
 cond (J.gP != ab.gP) (some false) ((uW J.fk ab.fk).bind fun af => cond (!af) (some false) (some true))
def Kn (fK : Int → Option Bool) (J : List c2) (ab : List c2) (bS : Int) : Option Bool :=
 cond (decide (bS < (J.length : Int))) ((bI J bS).bind fun af => (bI ab bS).bind fun an => (xK af an).bind fun a0 => cond (!a0) (some false) (fK (IntKind.i64.wrap (bS + 1)))) (some true)
def Bw (J : List c2) (ab : List c2) : Nat → Int → Option Bool
 | 0, _ => none
 | n + 1, bS => Kn (Bw J ab n) J ab bS
def Bx (J : List c2) (ab : List c2) : Option Bool :=
 cond ((J.length : Int) != (ab.length : Int)) (some false) (cO fun n => Bw J ab n 0)
def xL (J : bR) (ab : bR) : Option Bool :=
 cond (!(J.Left == ab.Left)) (some false) (cond (!(J.b_ == ab.b_)) (some false) (cond (!(J.Result == ab.Result)) (some false) (some true)))
def Ko (fK : Int → Option Bool) (J : List bR) (ab : List bR) (bS : Int) : Option Bool :=
 cond (decide (bS < (J.length : Int))) ((bI J bS).bind fun af => (bI ab bS).bind fun an => (xL af an).bind fun a0 => cond (!a0) (some false) (fK (IntKind.i64.wrap (bS + 1)))) (some true)
def Bz (J : List bR) (ab : List bR) : Nat → Int → Option Bool
 | 0, _ => none
 | n + 1, bS => Ko (Bz J ab n) J ab bS
def BA (J : List bR) (ab : List bR) : Option Bool :=
 cond ((J.length : Int) != (ab.length : Int)) (some false) (cO fun n => Bz J ab n 0)
def Kp (fK : Int → Option Bool) (J : List (List UInt8)) (ab : List (List UInt8)) (bS : Int) : Option Bool :=
 cond (decide (bS < (J.length : Int))) ((bI J bS).bind fun af => (bI ab bS).bind fun an => cond (!(af == an)) (some false) (fK (IntKind.i64.wrap (bS + 1)))) (some true)
def BB (J : List (List UInt8)) (ab : List (List UInt8)) : Nat → Int → Option Bool
 | 0, _ => none
 | n + 1, bS => Kp (BB J ab n) J ab bS
def xM (J : List (List UInt8)) (ab : List (List UInt8)) : Option Bool :=
 cond ((J.length : Int) != (ab.length : Int)) (some false) (cO fun n => BB J ab n 0)
def xN (J : dU) (ab : dU) : Option Bool :=
 (xJ J.bQ ab.bQ).bind fun af => cond (!af) (some false) ((Bx J.cX ab.cX).bind fun an => cond (!an) (some false) ((BA J.gX ab.gX).bind fun a0 => cond (!a0) (some false) ((xM J.gQ ab.gQ).bind fun bp => cond (!bp) (some false) ((xM J.gR ab.gR).bind fun bs => cond (!bs) (some false) (some true)))))
def xO (fK : Int → (List UInt8) → Option ((List UInt8))) (jJ : Int) (cM : List UInt8) : Option ((List UInt8)) :=
 cond (decide (0 < jJ)) ((oJ (1 + cM.length)).bind fun _ => fK (IntKind.i64.wrap (Int.tdiv jJ 10)) ([(pq (IntKind.i64.wrap (48 + (Int.tmod jJ 10))))] ++ cM)) ((oJ (1 + cM.length)).bind fun _ => some (([109] : List UInt8) ++ cM))
def qR : Nat → Int → (List UInt8) → Option ((List UInt8))
 | 0, _, _ => none
 | n + 1, jJ, cM => xO (qR n) jJ cM
def pP (J : Int) : Option ((List UInt8)) :=
 cond (decide (J ≤ 0)) (some ([109, 48] : List UInt8)) (cO fun n => qR n J ([] : List UInt8))
def BC (dG : (List bO) → Int → Int → Option (Int × (List bO))) (bz : List bO) (aY : Int) (aJ : Int) : Option (Int × (List bO)) :=
 cond (decide (aJ < (bz.length : Int))) ((bI bz aJ).bind fun af => (bI (List.set bz (Int.toNat aJ) (bO.mk aY af.Value)) aJ).bind fun an => dG (List.set (List.set bz (Int.toNat aJ) (bO.mk aY af.Value)) (Int.toNat aJ) (bO.mk an.Kind (IntKind.i64.wrap (aY + 1)))) (IntKind.i64.wrap ((IntKind.i64.wrap (aY + 1)) + 1)) (IntKind.i64.wrap (aJ + 1))) (some (aY, bz))
def sr : Nat → (List bO) → Int → Int → Option (Int × (List bO))
 | 0, _, _, _ => none
 | n + 1, bz, aY, aJ => BC (sr n) bz aY aJ
def BD (J : List bO) (ab : Int) : Option (Int × (List bO)) :=
 cO fun n => sr n J ab 0
def BE (dG : (List (List bO)) → Int → Int → Option (Int × (List (List bO)))) (bz : List (List bO)) (aY : Int) (aJ : Int) : Option (Int × (List (List bO))) :=
 cond (decide (aJ < (bz.length : Int))) ((bI bz aJ).bind fun af => (BD af aY).bind fun an => dG (List.set bz (Int.toNat aJ) an.2) an.1 (IntKind.i64.wrap (aJ + 1))) (some (aY, bz))
def ss : Nat → (List (List bO)) → Int → Int → Option (Int × (List (List bO)))
 | 0, _, _, _ => none
 | n + 1, bz, aY, aJ => BE (ss n) bz aY aJ
def BF (J : List (List bO)) (ab : Int) : Option (Int × (List (List bO))) :=
 cO fun n => ss n J ab 0
def BG (dG : (List bx) → Int → Int → Option (Int × (List bx))) (bz : List bx) (aY : Int) (aJ : Int) : Option (Int × (List bx)) :=
 cond (decide (aJ < (bz.length : Int))) ((bI bz aJ).bind fun af => (bI (List.set bz (Int.toNat aJ) (bx.mk aY af.Number af.Name af.cr)) aJ).bind fun an => (pP (IntKind.i64.wrap ((IntKind.i64.wrap (aY + 1)) + 1))).bind fun a0 => (bI (List.set (List.set bz (Int.toNat aJ) (bx.mk aY af.Number af.Name af.cr)) (Int.toNat aJ) (bx.mk an.Kind (IntKind.i64.wrap (aY + 1)) an.Name an.cr)) aJ).bind fun bp => (bI (List.set (List.set (List.set bz (Int.toNat aJ) (bx.mk aY af.Number af.Name af.cr)) (Int.toNat aJ) (bx.mk an.Kind (IntKind.i64.wrap (aY + 1)) an.Name an.cr)) (Int.toNat aJ) (bx.mk bp.Kind bp.Number a0 bp.cr)) aJ).bind fun bs => (BF bs.cr (IntKind.i64.wrap ((IntKind.i64.wrap ((IntKind.i64.wrap (aY + 1)) + 1)) + 1))).bind fun b7 => dG (List.set (List.set (List.set (List.set bz (Int.toNat aJ) (bx.mk aY af.Number af.Name af.cr)) (Int.toNat aJ) (bx.mk an.Kind (IntKind.i64.wrap (aY + 1)) an.Name an.cr)) (Int.toNat aJ) (bx.mk bp.Kind bp.Number a0 bp.cr)) (Int.toNat aJ) (bx.mk bs.Kind bs.Number bs.Name b7.2)) b7.1 (IntKind.i64.wrap (aJ + 1))) (some (aY, bz))
def su : Nat → (List bx) → Int → Int → Option (Int × (List bx))
 | 0, _, _, _ => none
 | n + 1, bz, aY, aJ => BG (su n) bz aY aJ
def BH (J : List bx) (ab : Int) : Option (Int × (List bx)) :=
 cO fun n => su n J ab 0
def BI (dG : (List a9) → Int → Int → Option (Int × (List a9))) (bz : List a9) (aY : Int) (aJ : Int) : Option (Int × (List a9)) :=
 cond (decide (aJ < (bz.length : Int))) ((pP aY).bind fun af => (bI bz aJ).bind fun an => (bI (List.set bz (Int.toNat aJ) (a9.mk af an.cZ an.Body)) aJ).bind fun a0 => (bI (List.set (List.set bz (Int.toNat aJ) (a9.mk af an.cZ an.Body)) (Int.toNat aJ) (a9.mk a0.Name (IntKind.i64.wrap (aY + 1)) a0.Body)) aJ).bind fun bp => (BH bp.Body (IntKind.i64.wrap ((IntKind.i64.wrap (aY + 1)) + 1))).bind fun bs => dG (List.set (List.set (List.set bz (Int.toNat aJ) (a9.mk af an.cZ an.Body)) (Int.toNat aJ) (a9.mk a0.Name (IntKind.i64.wrap (aY + 1)) a0.Body)) (Int.toNat aJ) (a9.mk bp.Name bp.cZ bs.2)) bs.1 (IntKind.i64.wrap (aJ + 1))) (some (aY, bz))
def sv : Nat → (List a9) → Int → Int → Option (Int × (List a9))
 | 0, _, _, _ => none
 | n + 1, bz, aY, aJ => BI (sv n) bz aY aJ
def BJ (J : List a9) (ab : Int) : Option (Int × (List a9)) :=
 cO fun n => sv n J ab 0
def BK (dG : (List Int) → Int → Int → Option (Int × (List Int))) (bz : List Int) (aY : Int) (aJ : Int) : Option (Int × (List Int)) :=
 cond (decide (aJ < (bz.length : Int))) ((bI bz aJ).bind fun af => dG (List.set bz (Int.toNat aJ) aY) (IntKind.i64.wrap (aY + 1)) (IntKind.i64.wrap (aJ + 1))) (some (aY, bz))
def sw : Nat → (List Int) → Int → Int → Option (Int × (List Int))
 | 0, _, _, _ => none
 | n + 1, bz, aY, aJ => BK (sw n) bz aY aJ
def xP (J : List Int) (ab : Int) : Option (Int × (List Int)) :=
 cO fun n => sw n J ab 0
def BL (dG : (List c2) → Int → Int → Option (Int × (List c2))) (bz : List c2) (aY : Int) (aJ : Int) : Option (Int × (List c2)) :=
 cond (decide (aJ < (bz.length : Int))) ((bI bz aJ).bind fun af => (bI (List.set bz (Int.toNat aJ) (c2.mk aY af.fk)) aJ).bind fun an => (xP an.fk (IntKind.i64.wrap (aY + 1))).bind fun a0 => dG (List.set (List.set bz (Int.toNat aJ) (c2.mk aY af.fk)) (Int.toNat aJ) (c2.mk an.gP a0.2)) a0.1 (IntKind.i64.wrap (aJ + 1))) (some (aY, bz))
def sx : Nat → (List c2) → Int → Int → Option (Int × (List c2))
 | 0, _, _, _ => none
 | n + 1, bz, aY, aJ => BL (sx n) bz aY aJ
def BM (J : List c2) (ab : Int) : Option (Int × (List c2)) :=
 cO fun n => sx n J ab 0
def BN (dG : (List bR) → Int → Int → Option (Int × (List bR))) (bz : List bR) (aY : Int) (aJ : Int) : Option (Int × (List bR)) :=
 cond (decide (aJ < (bz.length : Int))) ((pP aY).bind fun af => (bI bz aJ).bind fun an => (pP (IntKind.i64.wrap (aY + 1))).bind fun a0 => (bI (List.set bz (Int.toNat aJ) (bR.mk af an.b_ an.Result)) aJ).bind fun bp => (pP (IntKind.i64.wrap ((IntKind.i64.wrap (aY + 1)) + 1))).bind fun bs => (bI (List.set (List.set bz (Int.toNat aJ) (bR.mk af an.b_ an.Result)) (Int.toNat aJ) (bR.mk bp.Left a0 bp.Result)) aJ).bind fun b7 => dG (List.set (List.set (List.set bz (Int.toNat aJ) (bR.mk af an.b_ an.Result)) (Int.toNat aJ) (bR.mk bp.Left a0 bp.Result)) (Int.toNat aJ) (bR.mk b7.Left b7.b_ bs)) (IntKind.i64.wrap ((IntKind.i64.wrap ((IntKind.i64.wrap (aY + 1)) + 1)) + 1)) (IntKind.i64.wrap (aJ + 1))) (some (aY, bz))
def sy : Nat → (List bR) → Int → Int → Option (Int × (List bR))
 | 0, _, _, _ => none
 | n + 1, bz, aY, aJ => BN (sy n) bz aY aJ
def BO (J : List bR) (ab : Int) : Option (Int × (List bR)) :=
 cO fun n => sy n J ab 0
def BP (dG : (List (List UInt8)) → Int → Int → Option (Int × (List (List UInt8)))) (bz : List (List UInt8)) (aY : Int) (aJ : Int) : Option (Int × (List (List UInt8))) :=
 cond (decide (aJ < (bz.length : Int))) ((pP aY).bind fun af => (bI bz aJ).bind fun an => dG (List.set bz (Int.toNat aJ) af) (IntKind.i64.wrap (aY + 1)) (IntKind.i64.wrap (aJ + 1))) (some (aY, bz))
def sA : Nat → (List (List UInt8)) → Int → Int → Option (Int × (List (List UInt8)))
 | 0, _, _, _ => none
 | n + 1, bz, aY, aJ => BP (sA n) bz aY aJ
def xQ (J : List (List UInt8)) (ab : Int) : Option (Int × (List (List UInt8))) :=
 cO fun n => sA n J ab 0
def BQ (sB : List a9) (qS : List c2) (pQ : List bR) (o8 : List (List UInt8)) (oc : List (List UInt8)) (ab : Int) : Option (Int × (List a9) × (List c2) × (List bR) × (List (List UInt8)) × (List (List UInt8))) :=
 (BJ sB ab).bind fun af => (BM qS af.1).bind fun an => (BO pQ an.1).bind fun a0 => (xQ o8 a0.1).bind fun bp => (xQ oc bp.1).bind fun bs => some (bs.1, af.2, an.2, a0.2, bp.2, bs.2)
def BR (dG : (List (List Int)) → Int → Int → Option (Int × (List (List Int)))) (bz : List (List Int)) (aY : Int) (aJ : Int) : Option (Int × (List (List Int))) :=
 cond (decide (aJ < (bz.length : Int))) ((bI bz aJ).bind fun af => (xP af aY).bind fun an => dG (List.set bz (Int.toNat aJ) an.2) an.1 (IntKind.i64.wrap (aJ + 1))) (some (aY, bz))
def sC : Nat → (List (List Int)) → Int → Int → Option (Int × (List (List Int)))
 | 0, _, _, _ => none
 | n + 1, bz, aY, aJ => BR (sC n) bz aY aJ
def BS (J : List (List Int)) (ab : Int) : Option (Int × (List (List Int))) :=
 cO fun n => sC n J ab 0
def BT (dG : Int → Int → Option Int) (J : List Int) (aY : Int) (aJ : Int) : Option Int :=
 cond (decide (aJ < (J.length : Int))) ((bI J aJ).bind fun af => cond (af != aY) (some (-1)) (dG (IntKind.i64.wrap (aY + 1)) (IntKind.i64.wrap (aJ + 1)))) (some aY)
def sD (J : List Int) : Nat → Int → Int → Option Int
 | 0, _, _ => none
 | n + 1, aY, aJ => BT (sD J n) J aY aJ
def BU (J : List Int) (ab : Int) : Option Int :=
 cO fun n => sD J n ab 0
def BV (dG : Int → Int → Option Int) (J : List (List Int)) (aY : Int) (aJ : Int) : Option Int :=
 cond (decide (aJ < (J.length : Int))) ((bI J aJ).bind fun af => (BU af aY).bind fun an => cond (decide (an < 0)) (some (-1)) (dG an (IntKind.i64.wrap (aJ + 1)))) (some aY)
def sE (J : List (List Int)) : Nat → Int → Int → Option Int
 | 0, _, _ => none
 | n + 1, aY, aJ => BV (sE J n) J aY aJ
def xR (J : List (List Int)) (ab : Int) : Option Int :=
 cO fun n => sE J n ab 0
def Fi (J : km) : Option Bool :=
 (wZ J 1048576).bind fun af => cond (decide (af < 0)) (some true) ((qK J).bind fun an => (AQ an).bind fun a0 => (qK J).bind fun bp => (xE bp).bind fun bs => (uX bs.1 a0.1).bind fun b7 => cond ((!b7) || (bs.2 != a0.2)) (some false) ((qK J).bind fun dk => (xN bp dk).bind fun gi => cond (!gi) (some false) ((BQ bp.bQ bp.cX bp.gX bp.gQ bp.gR 1).bind fun dv => cond (decide (dv.1 < 0)) (some false) ((uX bs.1 a0.1).bind fun c5 => cond ((!c5) || (bs.2 != a0.2)) (some false) ((BS bs.1 1).bind fun eF => (xR eF.2 1).bind fun i5 => cond (decide (i5 < 0)) (some false) (cond (i5 != eF.1) (some false) ((qK J).bind fun jg => (xE jg).bind fun hn => (uX hn.1 a0.1).bind fun jh => cond ((!jh) || (hn.2 != a0.2)) (some false) ((xR eF.2 1).bind fun lP => cond (decide (lP < 0)) (some false) (cond (lP != eF.1) (some false) (some true))))))))))
end
end Go.fJ
