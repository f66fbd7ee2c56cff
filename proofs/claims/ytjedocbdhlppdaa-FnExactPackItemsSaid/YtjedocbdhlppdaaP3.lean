/- Part of a proof that a law returns true for every input. No condition. -/
import Derived.Test.YtjedocbdhlppdaaFwA
namespace Go.fg
open Go Go.b1
set_option linter.unusedVariables false
noncomputable section
structure dL where
 Name : List UInt8
 bp : List UInt8
def lL (x : dL) : Prop := x.Name.length ≤ 9223372036854775807 ∧ x.bp.length ≤ 9223372036854775807
structure bS where
 Name : List UInt8
 bp : List UInt8
def L5 (x : bS) : Prop := x.Name.length ≤ 9223372036854775807 ∧ x.bp.length ≤ 9223372036854775807
def mT (a0 : dL) (bh : Int) : Option Int :=
 cond (decide ((IntKind.i64.wrap (bh - (a0.Name.length : Int))) < 0)) (some (-1)) (cond (decide ((IntKind.i64.wrap ((IntKind.i64.wrap (bh - (a0.Name.length : Int))) - (a0.bp.length : Int))) < 0)) (some (-1)) (some (IntKind.i64.wrap ((IntKind.i64.wrap (bh - (a0.Name.length : Int))) - (a0.bp.length : Int)))))
def qg (jM : Int → Int → Option Int) (a0 : List dL) (i_ : Int) (fh : Int) : Option Int :=
 cond (decide (fh < (a0.length : Int))) ((cJ a0 fh).bind fun bL => (mT bL i_).bind fun bZ => cond (decide (bZ < 0)) (some (-1)) (jM bZ (IntKind.i64.wrap (fh + 1)))) (some i_)
def lM (a0 : List dL) : Nat → Int → Int → Option Int
 | 0, _, _ => none
 | n + 1, i_, fh => qg (lM a0 n) a0 i_ fh
def oy (a0 : List dL) (bh : Int) : Option Int :=
 cond (decide ((IntKind.i64.wrap (bh - (a0.length : Int))) < 0)) (some (-1)) (eR fun n => lM a0 n (IntKind.i64.wrap (bh - (a0.length : Int))) 0)
def oz (a0 : dL) : Option bS :=
 some (bS.mk a0.Name a0.bp)
def rQ (gn : (List bS) → Int → Option ((List bS))) (a0 : List dL) (ez : List bS) (d_ : Int) : Option ((List bS)) :=
 cond (decide (d_ < (a0.length : Int))) ((cJ a0 d_).bind fun bL => (oz bL).bind fun bZ => (cJ ez d_).bind fun bG => gn (List.set ez (Int.toNat d_) bZ) (IntKind.i64.wrap (d_ + 1))) (some ez)
def mU (a0 : List dL) : Nat → (List bS) → Int → Option ((List bS))
 | 0, _, _ => none
 | n + 1, ez, d_ => rQ (mU a0 n) a0 ez d_
def lN (a0 : List dL) : Option ((List bS)) :=
 (lZ 32 (a0.length : Int)).bind fun _ => eR fun n => mU a0 n (List.replicate (Int.toNat (a0.length : Int)) (bS.mk ([] : List UInt8) ([] : List UInt8))) 0
def qh (a0 : UInt8) : Option Bool :=
 some ((decide (97 ≤ (a0.toNat : Int))) && (decide ((a0.toNat : Int) ≤ 122)))
def uZ (a0 : UInt8) : Option Bool :=
 some ((decide (48 ≤ (a0.toNat : Int))) && (decide ((a0.toNat : Int) ≤ 57)))
def rR (mV : Int → Option Bool) (a0 : List UInt8) (dS : Int) : Option Bool :=
 cond (decide (dS < (a0.length : Int))) ((cJ a0 dS).bind fun bG => (qh bG).bind fun dT => cond (!dT) ((uZ bG).bind fun dU => cond (!dU) (some false) (mV (IntKind.i64.wrap (dS + 1)))) (mV (IntKind.i64.wrap (dS + 1)))) (some true)
def oA (a0 : List UInt8) : Nat → Int → Option Bool
 | 0, _ => none
 | n + 1, dS => rR (oA a0 n) a0 dS
def rS (a0 : List UInt8) : Option Bool :=
 cond (a0 == ([] : List UInt8)) (some false) (cond (decide (10 < (a0.length : Int))) (some false) ((cJ a0 0).bind fun bL => (qh bL).bind fun bZ => cond (!bZ) (some false) (eR fun n => oA a0 n 0)))
def qi (c0 : Int → Int → Option Int) (rT : Int → Int → Int → Option Int) (a0 : List UInt8) (oB : Int) (oC : Int) (oD : Int) : Option Int :=
 rT oB oC (IntKind.i64.wrap (oD + 1))
def qj (c0 : Int → Int → Option Int) (rT : Int → Int → Int → Option Int) (a0 : List UInt8) (hn : Int) (hM : Int) (h2 : Int) : Option Int :=
 cond (decide (h2 < 8)) (cond (decide (65535 < (IntKind.i64.wrap (hn * 2)))) (qi c0 rT a0 (bitsOf .xor .i64 (bitsOf .and .i64 (IntKind.i64.wrap (hn * 2)) 65535) 4129) hM h2) (qi c0 rT a0 (IntKind.i64.wrap (hn * 2)) hM h2)) (c0 hn (IntKind.i64.wrap (hM + 1)))
def kh (c0 : Int → Int → Option Int) (a0 : List UInt8) : Nat → Int → Int → Int → Option Int
 | 0, _, _, _ => none
 | n + 1, hn, hM, h2 => qj c0 (kh c0 a0 n) a0 hn hM h2
def qk (c0 : Int → Int → Option Int) (a0 : List UInt8) (iw : Int) (ix : Int) : Option Int :=
 cond (decide (ix < (a0.length : Int))) ((cJ a0 ix).bind fun bL => eR fun n => kh c0 a0 n (bitsOf .xor .i64 iw (IntKind.i64.wrap ((bL.toNat : Int) * 256))) ix 0) (some iw)
def ho (a0 : List UInt8) : Nat → Int → Int → Option Int
 | 0, _, _ => none
 | n + 1, iw, ix => qk (ho a0 n) a0 iw ix
def oE (a0 : List UInt8) (bh : Int) : Option Int :=
 eR fun n => ho a0 n bh 0
def rU (a0 : Int) (bh : Int) (a2 : Int) : Option Bool :=
 some ((decide (bh ≤ a0)) && (decide (a0 ≤ a2)))
def oF (a0 : List UInt8) : Option (Int × Int) :=
 cond (decide ((a0.length : Int) < 3)) (some (0, 11)) ((fM a0 0 (IntKind.i64.wrap ((a0.length : Int) - 2))).bind fun bL => (oE bL 65535).bind fun bZ => (cJ a0 (IntKind.i64.wrap ((a0.length : Int) - 2))).bind fun bG => (cJ a0 (IntKind.i64.wrap ((a0.length : Int) - 1))).bind fun dT => cond (bZ != (IntKind.i64.wrap ((IntKind.i64.wrap ((bG.toNat : Int) * 256)) + (dT.toNat : Int)))) (some (0, 10)) ((cJ a0 0).bind fun dU => (rU (dU.toNat : Int) 1 3).bind fun f_ => cond ((!f_) || (decide (6000 < (a0.length : Int)))) (some (0, 9)) (some ((dU.toNat : Int), 0))))
def rV (mV : Int → Option Bool) (a0 : List bS) (dS : Int) : Option Bool :=
 cond (decide (dS < (a0.length : Int))) ((cJ a0 dS).bind fun bL => (rS bL.Name).bind fun bZ => cond (!bZ) (some false) (cond (decide (0 < dS)) ((cJ a0 (IntKind.i64.wrap (dS - 1))).bind fun bG => cond (!(Op.bytesLess bG.Name bL.Name)) (some false) ((oF bL.bp).bind fun dT => cond (dT.2 != 0) (some false) (mV (IntKind.i64.wrap (dS + 1))))) ((oF bL.bp).bind fun dU => cond (dU.2 != 0) (some false) (mV (IntKind.i64.wrap (dS + 1)))))) (some true)
def oG (a0 : List bS) : Nat → Int → Option Bool
 | 0, _ => none
 | n + 1, dS => rV (oG a0 n) a0 dS
def rW (a0 : List bS) : Option Bool :=
 cond (decide (16 < (a0.length : Int))) (some false) (eR fun n => oG a0 n 0)
def rX (a0 : bS) : Option ((List UInt8)) :=
 (fD (1 + 1)).bind fun _ => (fD ((([35] : List UInt8) ++ [(cX (a0.Name.length : Int))]).length + a0.Name.length)).bind fun _ => (fD (((([35] : List UInt8) ++ [(cX (a0.Name.length : Int))]) ++ a0.Name).length + 2)).bind fun _ => (fD ((((([35] : List UInt8) ++ [(cX (a0.Name.length : Int))]) ++ a0.Name) ++ [(cX (IntKind.i64.wrap (Int.tdiv (a0.bp.length : Int) 256))), (cX (Int.tmod (a0.bp.length : Int) 256))]).length + a0.bp.length)).bind fun _ => some ((((([35] : List UInt8) ++ [(cX (a0.Name.length : Int))]) ++ a0.Name) ++ [(cX (IntKind.i64.wrap (Int.tdiv (a0.bp.length : Int) 256))), (cX (Int.tmod (a0.bp.length : Int) 256))]) ++ a0.bp)
def zw (gn : (List UInt8) → Int → Option ((List UInt8))) (a0 : List bS) (ez : List UInt8) (d_ : Int) : Option ((List UInt8)) :=
 cond (decide (d_ < (a0.length : Int))) ((cJ a0 d_).bind fun bL => (rX bL).bind fun bZ => (fD (ez.length + bZ.length)).bind fun _ => gn (ez ++ bZ) (IntKind.i64.wrap (d_ + 1))) (some ez)
def rY (a0 : List bS) : Nat → (List UInt8) → Int → Option ((List UInt8))
 | 0, _, _ => none
 | n + 1, ez, d_ => zw (rY a0 n) a0 ez d_
def rZ (a0 : List bS) : Option ((List UInt8)) :=
 eR fun n => rY a0 n ([80, 65] : List UInt8) 0
def r0 (a0 : List bS) : Option ((List UInt8)) :=
 (rW a0).bind fun bL => cond (!bL) (some ([] : List UInt8)) ((rZ a0).bind fun bZ => some bZ)
def u0 (a0 : UInt8) : Option Bool :=
 some ((decide (48 ≤ (a0.toNat : Int))) && (decide ((a0.toNat : Int) ≤ 57)))
def ql (c0 : Int → Option Bool) (a0 : List UInt8) (dy : Int) : Option Bool :=
 cond (decide (dy < (a0.length : Int))) ((cJ a0 dy).bind fun bL => cond (!((decide (97 ≤ (bL.toNat : Int))) && (decide ((bL.toNat : Int) ≤ 122)))) (cond (dy == 0) (some false) ((u0 bL).bind fun bZ => cond (!bZ) (some false) (c0 (IntKind.i64.wrap (dy + 1))))) (c0 (IntKind.i64.wrap (dy + 1)))) (some ((decide (1 ≤ (a0.length : Int))) && (decide ((a0.length : Int) ≤ 10))))
def k4 (a0 : List UInt8) : Nat → Int → Option Bool
 | 0, _ => none
 | n + 1, dy => ql (k4 a0 n) a0 dy
def r1 (a0 : List UInt8) : Option Bool :=
 eR fun n => k4 a0 n 0
def qm (a0 : Int) (bh : Int) (a2 : Int) : Option Bool :=
 some ((decide (bh ≤ a0)) && (decide (a0 ≤ a2)))
def r2 (jM : Int → Int → Option Int) (r3 : Int → Int → Int → Option Int) (a0 : List UInt8) (oH : Int) (oI : Int) (oJ : Int) : Option Int :=
 r3 oH oI (IntKind.i64.wrap (oJ + 1))
def u1 (jM : Int → Int → Option Int) (r3 : Int → Int → Int → Option Int) (a0 : List UInt8) (hN : Int) (h3 : Int) (iy : Int) : Option Int :=
 cond (decide (iy < 8)) (cond (decide (65535 < (IntKind.i64.wrap (hN * 2)))) (r2 jM r3 a0 (bitsOf .xor .i64 (bitsOf .and .i64 (IntKind.i64.wrap (hN * 2)) 65535) 4129) h3 iy) (r2 jM r3 a0 (IntKind.i64.wrap (hN * 2)) h3 iy)) (jM hN (IntKind.i64.wrap (h3 + 1)))
def mW (jM : Int → Int → Option Int) (a0 : List UInt8) : Nat → Int → Int → Int → Option Int
 | 0, _, _, _ => none
 | n + 1, hN, h3, iy => u1 jM (mW jM a0 n) a0 hN h3 iy
def u2 (jM : Int → Int → Option Int) (a0 : List UInt8) (fh : Int) (ja : Int) : Option Int :=
 cond (decide (ja < (a0.length : Int))) ((cJ a0 ja).bind fun bZ => eR fun n => mW jM a0 n (bitsOf .xor .i64 fh (IntKind.i64.wrap ((bZ.toNat : Int) * 256))) ja 0) (some fh)
def jb (a0 : List UInt8) : Nat → Int → Int → Option Int
 | 0, _, _ => none
 | n + 1, fh, ja => u2 (jb a0 n) a0 fh ja
def qn (a0 : List UInt8) (bh : Int) : Option Int :=
 (qm bh 0 65535).bind fun bL => cond (!bL) (some 0) (eR fun n => jb a0 n bh 0)
def r4 (a0 : List UInt8) : Option (Int × Int) :=
 cond (decide ((a0.length : Int) < 3)) (some (0, 11)) ((fM a0 0 (IntKind.i64.wrap ((a0.length : Int) - 2))).bind fun bL => (qn bL 65535).bind fun bZ => (cJ a0 0).bind fun bG => (cJ a0 (IntKind.i64.wrap ((a0.length : Int) - 2))).bind fun dT => (cJ a0 (IntKind.i64.wrap ((a0.length : Int) - 1))).bind fun dU => cond ((IntKind.i64.wrap ((IntKind.i64.wrap ((dT.toNat : Int) * 256)) + (dU.toNat : Int))) != bZ) (some (0, 10)) ((qm (bG.toNat : Int) 1 3).bind fun f_ => cond ((!f_) || (decide (6000 < (a0.length : Int)))) (some (0, 9)) (some ((bG.toNat : Int), 0))))
def u3 (a0 : List UInt8) : Option Bool :=
 (r4 a0).bind fun bL => some (bL.2 == 0)
def r5 (c0 : Int → Option Bool) (a0 : List bS) (dy : Int) : Option Bool :=
 cond (decide (dy < (a0.length : Int))) ((cJ a0 dy).bind fun bL => (r1 bL.Name).bind fun bZ => cond (!bZ) (some false) ((u3 bL.bp).bind fun bG => cond (!bG) (some false) (cond (decide (0 < dy)) ((cJ a0 (IntKind.i64.wrap (dy - 1))).bind fun dT => cond (Op.bytesLess bL.Name dT.Name || bL.Name == dT.Name) (some false) (c0 (IntKind.i64.wrap (dy + 1)))) (c0 (IntKind.i64.wrap (dy + 1)))))) (some (decide ((a0.length : Int) ≤ 16)))
def oK (a0 : List bS) : Nat → Int → Option Bool
 | 0, _ => none
 | n + 1, dy => r5 (oK a0 n) a0 dy
def r6 (a0 : List bS) : Option Bool :=
 eR fun n => oK a0 n 0
def lO (a0 bh : List UInt8) : Option (List UInt8) := if a0.length + bh.length ≤ 140737488355328 then some (a0 ++ bh) else none
def u4 (a0 : List UInt8) : Option (List UInt8) := some a0
def zx (FP : (List UInt8) → Int → Option ((List UInt8))) (a0 : List bS) (jc : List UInt8) (iz : Int) : Option ((List UInt8)) :=
 cond (decide (iz < (a0.length : Int))) ((cJ a0 iz).bind fun bG => (fD (1 + 1)).bind fun _ => (fD ((([35] : List UInt8) ++ [(cX (bG.Name.length : Int))]).length + bG.Name.length)).bind fun _ => (fD (((([35] : List UInt8) ++ [(cX (bG.Name.length : Int))]) ++ bG.Name).length + 2)).bind fun _ => (fD ((((([35] : List UInt8) ++ [(cX (bG.Name.length : Int))]) ++ bG.Name) ++ [(cX (IntKind.i64.wrap (Int.tdiv (bG.bp.length : Int) 256))), (cX (Int.tmod (bG.bp.length : Int) 256))]).length + bG.bp.length)).bind fun _ => (lO jc ((((([35] : List UInt8) ++ [(cX (bG.Name.length : Int))]) ++ bG.Name) ++ [(cX (IntKind.i64.wrap (Int.tdiv (bG.bp.length : Int) 256))), (cX (Int.tmod (bG.bp.length : Int) 256))]) ++ bG.bp)).bind fun dT => FP dT (IntKind.i64.wrap (iz + 1))) ((u4 jc).bind fun dU => some dU)
def r7 (a0 : List bS) : Nat → (List UInt8) → Int → Option ((List UInt8))
 | 0, _, _ => none
 | n + 1, jc, iz => zx (r7 a0 n) a0 jc iz
def r8 (a0 : List bS) : Option ((List UInt8)) :=
 (r6 a0).bind fun bL => cond (!bL) (some ([] : List UInt8)) ((lO [] ([80, 65] : List UInt8)).bind fun bZ => eR fun n => r7 a0 n bZ 0)
def mX (a0 : bS) (bh : bS) : Option Bool :=
 cond (!(a0.Name == bh.Name)) (some false) (cond (!(a0.bp == bh.bp)) (some false) (some true))
def r9 (mV : Int → Option Bool) (a0 : List bS) (bh : List bS) (h4 : Int) : Option Bool :=
 cond (decide (h4 < (a0.length : Int))) ((cJ a0 h4).bind fun bL => (cJ bh h4).bind fun bZ => (mX bL bZ).bind fun bG => cond (!bG) (some false) (mV (IntKind.i64.wrap (h4 + 1)))) (some true)
def oL (a0 : List bS) (bh : List bS) : Nat → Int → Option Bool
 | 0, _ => none
 | n + 1, h4 => r9 (oL a0 bh n) a0 bh h4
def oM (a0 : List bS) (bh : List bS) : Option Bool :=
 cond ((a0.length : Int) != (bh.length : Int)) (some false) (eR fun n => oL a0 bh n 0)
def u5 (a0 : List dL) : Option Bool :=
 (oy a0 1048576).bind fun bL => cond (decide (bL < 0)) (some true) ((lN a0).bind fun bZ => (r0 bZ).bind fun bG => (lN a0).bind fun dT => (r8 dT).bind fun dU => cond (!(dU == bG)) (some false) ((lN a0).bind fun f_ => (oM dT f_).bind fun iA => cond (!iA) (some false) (some true)))
end
end Go.fg
