/- Part of a proof that a law returns true for every input. No condition. -/
import Derived.Test.YtjedocbdhlppdaaFwA
namespace Go.fi
open Go Go.b7
set_option linter.unusedVariables false
noncomputable section
structure a6 where
 Name : List UInt8
 bx : List UInt8
def OI (x : a6) : Prop := x.Name.length ≤ 9223372036854775807 ∧ x.bx.length ≤ 9223372036854775807
def qO (a0 : UInt8) : Option Bool :=
 some ((decide (97 ≤ (a0.toNat : Int))) && (decide ((a0.toNat : Int) ≤ 122)))
def vJ (a0 : UInt8) : Option Bool :=
 some ((decide (48 ≤ (a0.toNat : Int))) && (decide ((a0.toNat : Int) ≤ 57)))
def sy (lD : Int → Option Bool) (a0 : List UInt8) (cY : Int) : Option Bool :=
 cond (decide (cY < (a0.length : Int))) ((cE a0 cY).bind fun a_ => (qO a_).bind fun cy => cond (!cy) ((vJ a_).bind fun cw => cond (!cw) (some false) (lD (IntKind.i64.wrap (cY + 1)))) (lD (IntKind.i64.wrap (cY + 1)))) (some true)
def o_ (a0 : List UInt8) : Nat → Int → Option Bool
 | 0, _ => none
 | n + 1, cY => sy (o_ a0 n) a0 cY
def qP (a0 : List UInt8) : Option Bool :=
 cond (a0 == ([] : List UInt8)) (some false) (cond (decide (10 < (a0.length : Int))) (some false) ((cE a0 0).bind fun aR => (qO aR).bind fun aQ => cond (!aQ) (some false) (eo fun n => o_ a0 n 0)))
def qQ (c4 : Int → Int → Option Int) (sA : Int → Int → Int → Option Int) (a0 : List UInt8) (pa : Int) (pb : Int) (pc : Int) : Option Int :=
 sA pa pb (IntKind.i64.wrap (pc + 1))
def qR (c4 : Int → Int → Option Int) (sA : Int → Int → Int → Option Int) (a0 : List UInt8) (hV : Int) (iu : Int) (iT : Int) : Option Int :=
 cond (decide (iT < 8)) (cond (decide (65535 < (IntKind.i64.wrap (hV * 2)))) (qQ c4 sA a0 (bitsOf .xor .i64 (bitsOf .and .i64 (IntKind.i64.wrap (hV * 2)) 65535) 4129) iu iT) (qQ c4 sA a0 (IntKind.i64.wrap (hV * 2)) iu iT)) (c4 hV (IntKind.i64.wrap (iu + 1)))
def kW (c4 : Int → Int → Option Int) (a0 : List UInt8) : Nat → Int → Int → Int → Option Int
 | 0, _, _, _ => none
 | n + 1, hV, iu, iT => qR c4 (kW c4 a0 n) a0 hV iu iT
def qS (c4 : Int → Int → Option Int) (a0 : List UInt8) (cX : Int) (cH : Int) : Option Int :=
 cond (decide (cH < (a0.length : Int))) ((cE a0 cH).bind fun aR => eo fun n => kW c4 a0 n (bitsOf .xor .i64 cX (IntKind.i64.wrap ((aR.toNat : Int) * 256))) cH 0) (some cX)
def hW (a0 : List UInt8) : Nat → Int → Int → Option Int
 | 0, _, _ => none
 | n + 1, cX, cH => qS (hW a0 n) a0 cX cH
def pd (a0 : List UInt8) (a7 : Int) : Option Int :=
 eo fun n => hW a0 n a7 0
def sB (a0 : Int) (a7 : Int) (a2 : Int) : Option Bool :=
 some ((decide (a7 ≤ a0)) && (decide (a0 ≤ a2)))
def nG (a0 : List UInt8) : Option (Int × Int) :=
 cond (decide ((a0.length : Int) < 3)) (some (0, 11)) ((eh a0 0 (IntKind.i64.wrap ((a0.length : Int) - 2))).bind fun aR => (pd aR 65535).bind fun aQ => (cE a0 (IntKind.i64.wrap ((a0.length : Int) - 2))).bind fun a_ => (cE a0 (IntKind.i64.wrap ((a0.length : Int) - 1))).bind fun cy => cond (aQ != (IntKind.i64.wrap ((IntKind.i64.wrap ((a_.toNat : Int) * 256)) + (cy.toNat : Int)))) (some (0, 10)) ((cE a0 0).bind fun cw => (sB (cw.toNat : Int) 1 3).bind fun cD => cond ((!cD) || (decide (6000 < (a0.length : Int)))) (some (0, 9)) (some ((cw.toNat : Int), 0))))
def sC (a0 : List UInt8) (a7 : Int) : Option (a6 × Int × Bool) :=
 cond (decide ((a0.length : Int) < (IntKind.i64.wrap (a7 + 2)))) (some ((a6.mk ([] : List UInt8) ([] : List UInt8)), a7, false)) ((cE a0 a7).bind fun aR => cond ((aR.toNat : Int) != 35) (some ((a6.mk ([] : List UInt8) ([] : List UInt8)), a7, false)) ((cE a0 (IntKind.i64.wrap (a7 + 1))).bind fun aQ => cond ((decide (10 < (aQ.toNat : Int))) || (decide ((a0.length : Int) < (IntKind.i64.wrap ((IntKind.i64.wrap ((IntKind.i64.wrap (a7 + 2)) + (aQ.toNat : Int))) + 2))))) (some ((a6.mk ([] : List UInt8) ([] : List UInt8)), a7, false)) ((eh a0 (IntKind.i64.wrap (a7 + 2)) (IntKind.i64.wrap ((IntKind.i64.wrap (a7 + 2)) + (aQ.toNat : Int)))).bind fun a_ => (cE a0 (IntKind.i64.wrap ((IntKind.i64.wrap (a7 + 2)) + (aQ.toNat : Int)))).bind fun cy => (cE a0 (IntKind.i64.wrap ((IntKind.i64.wrap ((IntKind.i64.wrap (a7 + 2)) + (aQ.toNat : Int))) + 1))).bind fun cw => (qP a_).bind fun cD => cond ((!cD) || (decide ((a0.length : Int) < (IntKind.i64.wrap ((IntKind.i64.wrap ((IntKind.i64.wrap ((IntKind.i64.wrap (a7 + 2)) + (aQ.toNat : Int))) + 2)) + (IntKind.i64.wrap ((IntKind.i64.wrap ((cy.toNat : Int) * 256)) + (cw.toNat : Int)))))))) (some ((a6.mk ([] : List UInt8) ([] : List UInt8)), a7, false)) ((eh a0 (IntKind.i64.wrap ((IntKind.i64.wrap ((IntKind.i64.wrap (a7 + 2)) + (aQ.toNat : Int))) + 2)) (IntKind.i64.wrap ((IntKind.i64.wrap ((IntKind.i64.wrap ((IntKind.i64.wrap (a7 + 2)) + (aQ.toNat : Int))) + 2)) + (IntKind.i64.wrap ((IntKind.i64.wrap ((cy.toNat : Int) * 256)) + (cw.toNat : Int)))))).bind fun eY => (nG eY).bind fun hX => some ((a6.mk a_ eY), (IntKind.i64.wrap ((IntKind.i64.wrap ((IntKind.i64.wrap ((IntKind.i64.wrap (a7 + 2)) + (aQ.toNat : Int))) + 2)) + (IntKind.i64.wrap ((IntKind.i64.wrap ((cy.toNat : Int) * 256)) + (cw.toNat : Int))))), (hX.2 == 0))))))
def sD (lD : Int → Option Bool) (a0 : List a6) (cY : Int) : Option Bool :=
 cond (decide (cY < (a0.length : Int))) ((cE a0 cY).bind fun aR => (qP aR.Name).bind fun aQ => cond (!aQ) (some false) (cond (decide (0 < cY)) ((cE a0 (IntKind.i64.wrap (cY - 1))).bind fun a_ => cond (!(Op.bytesLess a_.Name aR.Name)) (some false) ((nG aR.bx).bind fun cy => cond (cy.2 != 0) (some false) (lD (IntKind.i64.wrap (cY + 1))))) ((nG aR.bx).bind fun cw => cond (cw.2 != 0) (some false) (lD (IntKind.i64.wrap (cY + 1)))))) (some true)
def pe (a0 : List a6) : Nat → Int → Option Bool
 | 0, _ => none
 | n + 1, cY => sD (pe a0 n) a0 cY
def sE (a0 : List a6) : Option Bool :=
 cond (decide (16 < (a0.length : Int))) (some false) (eo fun n => pe a0 n 0)
def sF (a0 : a6) : Option ((List UInt8)) :=
 (eU (1 + 1)).bind fun _ => (eU ((([35] : List UInt8) ++ [(c0 (a0.Name.length : Int))]).length + a0.Name.length)).bind fun _ => (eU (((([35] : List UInt8) ++ [(c0 (a0.Name.length : Int))]) ++ a0.Name).length + 2)).bind fun _ => (eU ((((([35] : List UInt8) ++ [(c0 (a0.Name.length : Int))]) ++ a0.Name) ++ [(c0 (IntKind.i64.wrap (Int.tdiv (a0.bx.length : Int) 256))), (c0 (Int.tmod (a0.bx.length : Int) 256))]).length + a0.bx.length)).bind fun _ => some ((((([35] : List UInt8) ++ [(c0 (a0.Name.length : Int))]) ++ a0.Name) ++ [(c0 (IntKind.i64.wrap (Int.tdiv (a0.bx.length : Int) 256))), (c0 (Int.tmod (a0.bx.length : Int) 256))]) ++ a0.bx)
def Aj (hr : (List UInt8) → Int → Option ((List UInt8))) (a0 : List a6) (iv : List UInt8) (iU : Int) : Option ((List UInt8)) :=
 cond (decide (iU < (a0.length : Int))) ((cE a0 iU).bind fun aR => (sF aR).bind fun aQ => (eU (iv.length + aQ.length)).bind fun _ => hr (iv ++ aQ) (IntKind.i64.wrap (iU + 1))) (some iv)
def sG (a0 : List a6) : Nat → (List UInt8) → Int → Option ((List UInt8))
 | 0, _, _ => none
 | n + 1, iv, iU => Aj (sG a0 n) a0 iv iU
def sH (a0 : List a6) : Option ((List UInt8)) :=
 eo fun n => sG a0 n ([80, 65] : List UInt8) 0
def vK (jf : (List a6) → Int → Option ((List a6) × Int)) (a0 : List UInt8) (da : List a6) (dJ : Int) : Option ((List a6) × Int) :=
 cond (decide (dJ < (a0.length : Int))) ((sC a0 dJ).bind fun aR => cond ((!aR.2.2) || ((da.length : Int) == 16)) (some ([], 9)) ((room 32 (da.length + 1)).bind fun _ => jf (da ++ [aR.1]) aR.2.1)) ((sE da).bind fun aQ => cond (!aQ) (some ([], 9)) ((sH da).bind fun a_ => cond (!(a_ == a0)) (some ([], 9)) (some (da, 0))))
def pf (a0 : List UInt8) : Nat → (List a6) → Int → Option ((List a6) × Int)
 | 0, _, _ => none
 | n + 1, da, dJ => vK (pf a0 n) a0 da dJ
def sI (a0 : List UInt8) : Option ((List a6) × Int) :=
 cond (decide ((a0.length : Int) < 2)) (some ([], 11)) (eo fun n => pf a0 n [] 2)
def mG (mH : List UInt8) (sJ : Bool) : Option (Int × (List UInt8) × Bool) :=
 cond (mH == ([] : List UInt8)) (some (0, mH, true)) ((cE mH 0).bind fun aR => (eh mH 1 (mH.length : Int)).bind fun aQ => some ((aR.toNat : Int), aQ, sJ))
def vL (a0 : UInt8) : Option Bool :=
 some ((decide (48 ≤ (a0.toNat : Int))) && (decide ((a0.toNat : Int) ≤ 57)))
def qT (c4 : Int → Option Bool) (a0 : List UInt8) (dP : Int) : Option Bool :=
 cond (decide (dP < (a0.length : Int))) ((cE a0 dP).bind fun aR => cond (!((decide (97 ≤ (aR.toNat : Int))) && (decide ((aR.toNat : Int) ≤ 122)))) (cond (dP == 0) (some false) ((vL aR).bind fun aQ => cond (!aQ) (some false) (c4 (IntKind.i64.wrap (dP + 1))))) (c4 (IntKind.i64.wrap (dP + 1)))) (some ((decide (1 ≤ (a0.length : Int))) && (decide ((a0.length : Int) ≤ 10))))
def lE (a0 : List UInt8) : Nat → Int → Option Bool
 | 0, _ => none
 | n + 1, dP => qT (lE a0 n) a0 dP
def qU (a0 : List UInt8) : Option Bool :=
 eo fun n => lE a0 n 0
def qV (a0 : Int) (a7 : Int) (a2 : Int) : Option Bool :=
 some ((decide (a7 ≤ a0)) && (decide (a0 ≤ a2)))
def sK (jf : Int → Int → Option Int) (sL : Int → Int → Int → Option Int) (a0 : List UInt8) (pg : Int) (ph : Int) (pj : Int) : Option Int :=
 sL pg ph (IntKind.i64.wrap (pj + 1))
def vM (jf : Int → Int → Option Int) (sL : Int → Int → Int → Option Int) (a0 : List UInt8) (iw : Int) (iV : Int) (jg : Int) : Option Int :=
 cond (decide (jg < 8)) (cond (decide (65535 < (IntKind.i64.wrap (iw * 2)))) (sK jf sL a0 (bitsOf .xor .i64 (bitsOf .and .i64 (IntKind.i64.wrap (iw * 2)) 65535) 4129) iV jg) (sK jf sL a0 (IntKind.i64.wrap (iw * 2)) iV jg)) (jf iw (IntKind.i64.wrap (iV + 1)))
def nH (jf : Int → Int → Option Int) (a0 : List UInt8) : Nat → Int → Int → Int → Option Int
 | 0, _, _, _ => none
 | n + 1, iw, iV, jg => vM jf (nH jf a0 n) a0 iw iV jg
def vN (jf : Int → Int → Option Int) (a0 : List UInt8) (dJ : Int) (jT : Int) : Option Int :=
 cond (decide (jT < (a0.length : Int))) ((cE a0 jT).bind fun aQ => eo fun n => nH jf a0 n (bitsOf .xor .i64 dJ (IntKind.i64.wrap ((aQ.toNat : Int) * 256))) jT 0) (some dJ)
def jU (a0 : List UInt8) : Nat → Int → Int → Option Int
 | 0, _, _ => none
 | n + 1, dJ, jT => vN (jU a0 n) a0 dJ jT
def qW (a0 : List UInt8) (a7 : Int) : Option Int :=
 (qV a7 0 65535).bind fun aR => cond (!aR) (some 0) (eo fun n => jU a0 n a7 0)
def sM (a0 : List UInt8) : Option (Int × Int) :=
 cond (decide ((a0.length : Int) < 3)) (some (0, 11)) ((eh a0 0 (IntKind.i64.wrap ((a0.length : Int) - 2))).bind fun aR => (qW aR 65535).bind fun aQ => (cE a0 0).bind fun a_ => (cE a0 (IntKind.i64.wrap ((a0.length : Int) - 2))).bind fun cy => (cE a0 (IntKind.i64.wrap ((a0.length : Int) - 1))).bind fun cw => cond ((IntKind.i64.wrap ((IntKind.i64.wrap ((cy.toNat : Int) * 256)) + (cw.toNat : Int))) != aQ) (some (0, 10)) ((qV (a_.toNat : Int) 1 3).bind fun cD => cond ((!cD) || (decide (6000 < (a0.length : Int)))) (some (0, 9)) (some ((a_.toNat : Int), 0))))
def pk (a0 : List UInt8) : Option Bool :=
 (sM a0).bind fun aR => some (aR.2 == 0)
def sN (a0 : List UInt8) : Option (a6 × Int × Bool) :=
 (mG a0 false).bind fun aR => (mG aR.2.1 aR.2.2).bind fun aQ => cond ((aR.1 != 35) || (decide ((aQ.2.1.length : Int) < aQ.1))) (some ((a6.mk ([] : List UInt8) ([] : List UInt8)), 0, false)) ((eh aQ.2.1 0 aQ.1).bind fun a_ => (eh aQ.2.1 aQ.1 (aQ.2.1.length : Int)).bind fun cy => (mG cy aQ.2.2).bind fun cw => (mG cw.2.1 cw.2.2).bind fun cD => cond (cD.2.2 || (decide ((cD.2.1.length : Int) < (IntKind.i64.wrap ((IntKind.i64.wrap (cw.1 * 256)) + cD.1))))) (some ((a6.mk ([] : List UInt8) ([] : List UInt8)), 0, false)) ((eh cD.2.1 0 (IntKind.i64.wrap ((IntKind.i64.wrap (cw.1 * 256)) + cD.1))).bind fun eY => (qU a_).bind fun hX => cond hX ((pk eY).bind fun hA => some ((a6.mk a_ eY), (IntKind.i64.wrap ((IntKind.i64.wrap ((a0.length : Int) - (cD.2.1.length : Int))) + (IntKind.i64.wrap ((IntKind.i64.wrap (cw.1 * 256)) + cD.1)))), hA)) (some ((a6.mk a_ eY), (IntKind.i64.wrap ((IntKind.i64.wrap ((a0.length : Int) - (cD.2.1.length : Int))) + (IntKind.i64.wrap ((IntKind.i64.wrap (cw.1 * 256)) + cD.1)))), false))))
def sO (c4 : Int → Option Bool) (a0 : List a6) (dP : Int) : Option Bool :=
 cond (decide (dP < (a0.length : Int))) ((cE a0 dP).bind fun aR => (qU aR.Name).bind fun aQ => cond (!aQ) (some false) ((pk aR.bx).bind fun a_ => cond (!a_) (some false) (cond (decide (0 < dP)) ((cE a0 (IntKind.i64.wrap (dP - 1))).bind fun cy => cond (Op.bytesLess aR.Name cy.Name || aR.Name == cy.Name) (some false) (c4 (IntKind.i64.wrap (dP + 1)))) (c4 (IntKind.i64.wrap (dP + 1)))))) (some (decide ((a0.length : Int) ≤ 16)))
def pn (a0 : List a6) : Nat → Int → Option Bool
 | 0, _ => none
 | n + 1, dP => sO (pn a0 n) a0 dP
def sP (a0 : List a6) : Option Bool :=
 eo fun n => pn a0 n 0
def mI (a0 a7 : List UInt8) : Option (List UInt8) := if a0.length + a7.length ≤ 140737488355328 then some (a0 ++ a7) else none
def vO (a0 : List UInt8) : Option (List UInt8) := some a0
def Ak (GZ : (List UInt8) → Int → Option ((List UInt8))) (a0 : List a6) (jV : List UInt8) (jh : Int) : Option ((List UInt8)) :=
 cond (decide (jh < (a0.length : Int))) ((cE a0 jh).bind fun a_ => (eU (1 + 1)).bind fun _ => (eU ((([35] : List UInt8) ++ [(c0 (a_.Name.length : Int))]).length + a_.Name.length)).bind fun _ => (eU (((([35] : List UInt8) ++ [(c0 (a_.Name.length : Int))]) ++ a_.Name).length + 2)).bind fun _ => (eU ((((([35] : List UInt8) ++ [(c0 (a_.Name.length : Int))]) ++ a_.Name) ++ [(c0 (IntKind.i64.wrap (Int.tdiv (a_.bx.length : Int) 256))), (c0 (Int.tmod (a_.bx.length : Int) 256))]).length + a_.bx.length)).bind fun _ => (mI jV ((((([35] : List UInt8) ++ [(c0 (a_.Name.length : Int))]) ++ a_.Name) ++ [(c0 (IntKind.i64.wrap (Int.tdiv (a_.bx.length : Int) 256))), (c0 (Int.tmod (a_.bx.length : Int) 256))]) ++ a_.bx)).bind fun cy => GZ cy (IntKind.i64.wrap (jh + 1))) ((vO jV).bind fun cw => some cw)
def sQ (a0 : List a6) : Nat → (List UInt8) → Int → Option ((List UInt8))
 | 0, _, _ => none
 | n + 1, jV, jh => Ak (sQ a0 n) a0 jV jh
def sR (a0 : List a6) : Option ((List UInt8)) :=
 (sP a0).bind fun aR => cond (!aR) (some ([] : List UInt8)) ((mI [] ([80, 65] : List UInt8)).bind fun aQ => eo fun n => sQ a0 n aQ 0)
def vP (jf : (List a6) → Int → Option ((List a6) × Int)) (a0 : List UInt8) (da : List a6) (dJ : Int) : Option ((List a6) × Int) :=
 cond (decide (dJ < (a0.length : Int))) ((eh a0 dJ (a0.length : Int)).bind fun aR => (sN aR).bind fun aQ => cond ((!aQ.2.2) || ((da.length : Int) == 16)) (some ([], 9)) ((room 32 (da.length + 1)).bind fun _ => jf (da ++ [aQ.1]) (IntKind.i64.wrap (dJ + aQ.2.1)))) ((sR da).bind fun a_ => cond (!(a_ == a0)) (some ([], 9)) (some (da, 0)))
def po (a0 : List UInt8) : Nat → (List a6) → Int → Option ((List a6) × Int)
 | 0, _, _ => none
 | n + 1, da, dJ => vP (po a0 n) a0 da dJ
def qX (a0 : List UInt8) : Option ((List a6) × Int) :=
 cond (decide ((a0.length : Int) < 2)) (some ([], 11)) (eo fun n => po a0 n [] 2)
def qY (a0 : a6) (a7 : a6) : Option Bool :=
 cond (!(a0.Name == a7.Name)) (some false) (cond (!(a0.bx == a7.bx)) (some false) (some true))
def Al (lD : Int → Option Bool) (a0 : List a6) (a7 : List a6) (iW : Int) : Option Bool :=
 cond (decide (iW < (a0.length : Int))) ((cE a0 iW).bind fun aR => (cE a7 iW).bind fun aQ => (qY aR aQ).bind fun a_ => cond (!a_) (some false) (lD (IntKind.i64.wrap (iW + 1)))) (some true)
def sS (a0 : List a6) (a7 : List a6) : Nat → Int → Option Bool
 | 0, _ => none
 | n + 1, iW => Al (sS a0 a7 n) a0 a7 iW
def qZ (a0 : List a6) (a7 : List a6) : Option Bool :=
 cond ((a0.length : Int) != (a7.length : Int)) (some false) (eo fun n => sS a0 a7 n 0)
def q0 (lD : Int → (List UInt8) → Option ((List UInt8))) (gv : Int) (cY : List UInt8) : Option ((List UInt8)) :=
 cond (decide (0 < gv)) ((eU (1 + cY.length)).bind fun _ => lD (IntKind.i64.wrap (Int.tdiv gv 10)) ([(c0 (IntKind.i64.wrap (48 + (Int.tmod gv 10))))] ++ cY)) ((eU (1 + cY.length)).bind fun _ => some (([109] : List UInt8) ++ cY))
def mJ : Nat → Int → (List UInt8) → Option ((List UInt8))
 | 0, _, _ => none
 | n + 1, gv, cY => q0 (mJ n) gv cY
def nI (a0 : Int) : Option ((List UInt8)) :=
 cond (decide (a0 ≤ 0)) (some ([109, 48] : List UInt8)) (eo fun n => mJ n a0 ([] : List UInt8))
def sT (c4 : (List a6) → Int → Int → Option (Int × (List a6))) (gK : List a6) (cX : Int) (cH : Int) : Option (Int × (List a6)) :=
 cond (decide (cH < (gK.length : Int))) ((nI cX).bind fun aR => (cE gK cH).bind fun aQ => (nI (IntKind.i64.wrap (cX + 1))).bind fun a_ => (cE (List.set gK (Int.toNat cH) (a6.mk aR aQ.bx)) cH).bind fun cy => c4 (List.set (List.set gK (Int.toNat cH) (a6.mk aR aQ.bx)) (Int.toNat cH) (a6.mk cy.Name a_)) (IntKind.i64.wrap ((IntKind.i64.wrap (cX + 1)) + 1)) (IntKind.i64.wrap (cH + 1))) (some (cX, gK))
def nJ : Nat → (List a6) → Int → Int → Option (Int × (List a6))
 | 0, _, _, _ => none
 | n + 1, gK, cX, cH => sT (nJ n) gK cX cH
def sU (a0 : List a6) (a7 : Int) : Option (Int × (List a6)) :=
 eo fun n => nJ n a0 a7 0
def sV (c4 : Int → Int → Option Int) (a0 : List a6) (cX : Int) (cH : Int) : Option Int :=
 cond (decide (cH < (a0.length : Int))) ((cE a0 cH).bind fun aR => (nI cX).bind fun aQ => cond (!(aR.Name == aQ)) (some (-1)) ((nI (IntKind.i64.wrap (cX + 1))).bind fun a_ => cond (!(aR.bx == a_)) (some (-1)) (c4 (IntKind.i64.wrap ((IntKind.i64.wrap (cX + 1)) + 1)) (IntKind.i64.wrap (cH + 1))))) (some cX)
def nK (a0 : List a6) : Nat → Int → Int → Option Int
 | 0, _, _ => none
 | n + 1, cX, cH => sV (nK a0 n) a0 cX cH
def q1 (a0 : List a6) (a7 : Int) : Option Int :=
 eo fun n => nK a0 n a7 0
def vQ (a0 : List UInt8) : Option Bool :=
 cond (decide (1048576 < (a0.length : Int))) (some true) ((sI a0).bind fun aR => (qX a0).bind fun aQ => (qZ aQ.1 aR.1).bind fun a_ => cond ((!a_) || (aQ.2 != aR.2)) (some false) ((sU aQ.1 1).bind fun cy => (q1 cy.2 1).bind fun cw => cond (decide (cw < 0)) (some false) (cond (cw != cy.1) (some false) ((qX a0).bind fun cD => (qZ cD.1 aR.1).bind fun eY => cond ((!eY) || (cD.2 != aR.2)) (some false) ((q1 cy.2 1).bind fun hX => cond (decide (hX < 0)) (some false) (cond (hX != cy.1) (some false) (some true)))))))
end
end Go.fi
