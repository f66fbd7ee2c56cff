/- Part of a proof that a law returns true for every input. No condition. -/
import Derived.Test.YtpddiknnnoomoaaFwA
namespace Go.fm
open Go Go.bZ
set_option linter.unusedVariables false
noncomputable section
structure eA where
 Name:List UInt8
 ck:List UInt8
def nO (x:eA):Prop:=x.Name.length≤9223372036854775807∧x.ck.length≤9223372036854775807
structure aP where
 Name:List UInt8
 ck:List UInt8
def RV (x:aP):Prop:=x.Name.length≤9223372036854775807∧x.ck.length≤9223372036854775807
def qn (a0:eA) (aA:Int):Option Int:=
 cond (decide ((IntKind.i64.wrap (aA-(a0.Name.length:Int)))<0)) (some (-1)) (cond (decide ((IntKind.i64.wrap ((IntKind.i64.wrap (aA-(a0.Name.length:Int)))-(a0.ck.length:Int)))<0)) (some (-1)) (some (IntKind.i64.wrap ((IntKind.i64.wrap (aA-(a0.Name.length:Int)))-(a0.ck.length:Int)))))
def B1 (ko:Int→Int→Option Int) (a0:List eA) (kp:Int) (fW:Int):Option Int:=
 cond (decide (fW<(a0.length:Int))) ((cX a0 fW).bind fun bd=>(qn bd kp).bind fun bP=>cond (decide (bP<0)) (some (-1)) (ko bP (IntKind.i64.wrap (fW+1)))) (some kp)
def tJ (a0:List eA):Nat→Int→Int→Option Int
 |0,_,_=>none
 |n+1,kp,fW=>B1 (tJ a0 n) a0 kp fW
def tK (a0:List eA) (aA:Int):Option Int:=
 cond (decide ((IntKind.i64.wrap (aA-(a0.length:Int)))<0)) (some (-1)) (ft fun n=>tJ a0 n (IntKind.i64.wrap (aA-(a0.length:Int))) 0)
def nP (a0:eA):Option aP:=
 some (aP.mk a0.Name a0.ck)
def B2 (fH:(List aP)→Int→Option ((List aP))) (a0:List eA) (i1:List aP) (hi:Int):Option ((List aP)):=
 cond (decide (hi<(a0.length:Int))) ((cX a0 hi).bind fun bd=>(nP bd).bind fun bP=>(cX i1 hi).bind fun cv=>fH (List.set i1 (Int.toNat hi) bP) (IntKind.i64.wrap (hi+1))) (some i1)
def tL (a0:List eA):Nat→(List aP)→Int→Option ((List aP))
 |0,_,_=>none
 |n+1,i1,hi=>B2 (tL a0 n) a0 i1 hi
def oR (a0:List eA):Option ((List aP)):=
 (qO 32 (a0.length:Int)).bind fun _=>ft fun n=>tL a0 n (List.replicate (Int.toNat (a0.length:Int)) (aP.mk ([]:List UInt8) ([]:List UInt8))) 0
def r_ (a0:UInt8):Option Bool:=
 some ((decide (97≤(a0.toNat:Int)))&&(decide ((a0.toNat:Int)≤122)))
def xf (a0:UInt8):Option Bool:=
 some ((decide (48≤(a0.toNat:Int)))&&(decide ((a0.toNat:Int)≤57)))
def tM (mO:Int→Option Bool) (a0:List UInt8) (c4:Int):Option Bool:=
 cond (decide (c4<(a0.length:Int))) ((cX a0 c4).bind fun cv=>(r_ cv).bind fun cL=>cond (!cL) ((xf cv).bind fun ca=>cond (!ca) (some false) (mO (IntKind.i64.wrap (c4+1)))) (mO (IntKind.i64.wrap (c4+1)))) (some true)
def qo (a0:List UInt8):Nat→Int→Option Bool
 |0,_=>none
 |n+1,c4=>tM (qo a0 n) a0 c4
def sa (a0:List UInt8):Option Bool:=
 cond (a0==([]:List UInt8)) (some false) (cond (decide (10<(a0.length:Int))) (some false) ((cX a0 0).bind fun bd=>(r_ bd).bind fun bP=>cond (!bP) (some false) (ft fun n=>qo a0 n 0)))
def sb (cY:Int→Int→Option Int) (tN:Int→Int→Int→Option Int) (a0:List UInt8) (qp:Int) (qq:Int) (qs:Int):Option Int:=
 tN qp qq (IntKind.i64.wrap (qs+1))
def sc (cY:Int→Int→Option Int) (tN:Int→Int→Int→Option Int) (a0:List UInt8) (iA:Int) (i2:Int) (ju:Int):Option Int:=
 cond (decide (ju<8)) (cond (decide (65535<(IntKind.i64.wrap (iA*2)))) (sb cY tN a0 (bitsOf .xor .i64 (bitsOf .and .i64 (IntKind.i64.wrap (iA*2)) 65535) 4129) i2 ju) (sb cY tN a0 (IntKind.i64.wrap (iA*2)) i2 ju)) (cY iA (IntKind.i64.wrap (i2+1)))
def lZ (cY:Int→Int→Option Int) (a0:List UInt8):Nat→Int→Int→Int→Option Int
 |0,_,_,_=>none
 |n+1,iA,i2,ju=>sc cY (lZ cY a0 n) a0 iA i2 ju
def sd (cY:Int→Int→Option Int) (a0:List UInt8) (c1:Int) (cN:Int):Option Int:=
 cond (decide (cN<(a0.length:Int))) ((cX a0 cN).bind fun bd=>ft fun n=>lZ cY a0 n (bitsOf .xor .i64 c1 (IntKind.i64.wrap ((bd.toNat:Int)*256))) cN 0) (some c1)
def iB (a0:List UInt8):Nat→Int→Int→Option Int
 |0,_,_=>none
 |n+1,c1,cN=>sd (iB a0 n) a0 c1 cN
def qt (a0:List UInt8) (aA:Int):Option Int:=
 ft fun n=>iB a0 n aA 0
def tO (a0:Int) (aA:Int) (cn:Int):Option Bool:=
 some ((decide (aA≤a0))&&(decide (a0≤cn)))
def oS (a0:List UInt8):Option (Int×Int):=
 cond (decide ((a0.length:Int)<3)) (some (0,11)) ((hL a0 0 (IntKind.i64.wrap ((a0.length:Int)-2))).bind fun bd=>(qt bd 65535).bind fun bP=>(cX a0 (IntKind.i64.wrap ((a0.length:Int)-2))).bind fun cv=>(cX a0 (IntKind.i64.wrap ((a0.length:Int)-1))).bind fun cL=>cond (bP !=(IntKind.i64.wrap ((IntKind.i64.wrap ((cv.toNat:Int)*256))+(cL.toNat:Int)))) (some (0,10)) ((cX a0 0).bind fun ca=>(tO (ca.toNat:Int) 1 3).bind fun eB=>cond ((!eB)||(decide (6000<(a0.length:Int)))) (some (0,9)) (some ((ca.toNat:Int),0))))
def tP (mO:Int→Option Bool) (a0:List aP) (c4:Int):Option Bool:=
 cond (decide (c4<(a0.length:Int))) ((cX a0 c4).bind fun bd=>(sa bd.Name).bind fun bP=>cond (!bP) (some false) (cond (decide (0<c4)) ((cX a0 (IntKind.i64.wrap (c4-1))).bind fun cv=>cond (!(Op.bytesLess cv.Name bd.Name)) (some false) ((oS bd.ck).bind fun cL=>cond (cL.2 !=0) (some false) (mO (IntKind.i64.wrap (c4+1))))) ((oS bd.ck).bind fun ca=>cond (ca.2 !=0) (some false) (mO (IntKind.i64.wrap (c4+1)))))) (some true)
def qu (a0:List aP):Nat→Int→Option Bool
 |0,_=>none
 |n+1,c4=>tP (qu a0 n) a0 c4
def tQ (a0:List aP):Option Bool:=
 cond (decide (16<(a0.length:Int))) (some false) (ft fun n=>qu a0 n 0)
def tR (hZ:(List aP)→Bool→Int→Option ((List aP))) (a0:List aP) (aA:aP) (gH:List aP) (qv:Bool) (qw:Int):Option ((List aP)):=
 hZ gH qv (IntKind.i64.wrap (qw+1))
def se (hZ:(List aP)→Bool→Int→Option ((List aP))) (a0:List aP) (aA:aP) (k6:List aP) (l0:Bool) (k7:Int):Option ((List aP)):=
 (cX a0 k7).bind fun bd=>cond (!(bd.Name==aA.Name)) ((room 32 (k6.length+1)).bind fun _=>tR hZ a0 aA (k6++[bd]) l0 k7) (tR hZ a0 aA k6 l0 k7)
def tS (qx:List aP):Option ((List aP)):=
 some qx
def tT (hZ:(List aP)→Bool→Int→Option ((List aP))) (a0:List aP) (aA:aP) (fX:List aP) (l1:Bool) (g4:Int):Option ((List aP)):=
 cond (decide (g4<(a0.length:Int))) (cond (!l1) ((cX a0 g4).bind fun bP=>cond (!(Op.bytesLess bP.Name aA.Name)) ((room 32 (fX.length+1)).bind fun _=>se hZ a0 aA (fX++[aA]) true g4) (se hZ a0 aA fX false g4)) (se hZ a0 aA fX true g4)) (cond (!l1) ((room 32 (fX.length+1)).bind fun _=>tS (fX++[aA])) (tS fX))
def mP (a0:List aP) (aA:aP):Nat→(List aP)→Bool→Int→Option ((List aP))
 |0,_,_,_=>none
 |n+1,fX,l1,g4=>tT (mP a0 aA n) a0 aA fX l1 g4
def tU (a0:List aP) (aA:aP):Option ((List aP)):=
 ft fun n=>mP a0 aA n [] false 0
def tV (a0:List aP) (aA:aP):Option ((List aP)×Int):=
 (tQ a0).bind fun bd=>cond (!bd) (some ([],1)) ((sa aA.Name).bind fun bP=>cond (!bP) (some ([],2)) ((oS aA.ck).bind fun cv=>cond (cv.2 !=0) (some ([],cv.2)) ((tU a0 aA).bind fun cL=>cond (decide (16<(cL.length:Int))) (some ([],5)) (some (cL,0)))))
def xg (a0:UInt8):Option Bool:=
 some ((decide (48≤(a0.toNat:Int)))&&(decide ((a0.toNat:Int)≤57)))
def sf (cY:Int→Option Bool) (a0:List UInt8) (dU:Int):Option Bool:=
 cond (decide (dU<(a0.length:Int))) ((cX a0 dU).bind fun bd=>cond (!((decide (97≤(bd.toNat:Int)))&&(decide ((bd.toNat:Int)≤122)))) (cond (dU==0) (some false) ((xg bd).bind fun bP=>cond (!bP) (some false) (cY (IntKind.i64.wrap (dU+1))))) (cY (IntKind.i64.wrap (dU+1)))) (some ((decide (1≤(a0.length:Int)))&&(decide ((a0.length:Int)≤10))))
def mQ (a0:List UInt8):Nat→Int→Option Bool
 |0,_=>none
 |n+1,dU=>sf (mQ a0 n) a0 dU
def sg (a0:List UInt8):Option Bool:=
 ft fun n=>mQ a0 n 0
def si (a0:Int) (aA:Int) (cn:Int):Option Bool:=
 some ((decide (aA≤a0))&&(decide (a0≤cn)))
def tW (ko:Int→Int→Option Int) (tX:Int→Int→Int→Option Int) (a0:List UInt8) (qy:Int) (qz:Int) (qA:Int):Option Int:=
 tX qy qz (IntKind.i64.wrap (qA+1))
def xh (ko:Int→Int→Option Int) (tX:Int→Int→Int→Option Int) (a0:List UInt8) (gH:Int) (jv:Int) (jS:Int):Option Int:=
 cond (decide (jS<8)) (cond (decide (65535<(IntKind.i64.wrap (gH*2)))) (tW ko tX a0 (bitsOf .xor .i64 (bitsOf .and .i64 (IntKind.i64.wrap (gH*2)) 65535) 4129) jv jS) (tW ko tX a0 (IntKind.i64.wrap (gH*2)) jv jS)) (ko gH (IntKind.i64.wrap (jv+1)))
def oT (ko:Int→Int→Option Int) (a0:List UInt8):Nat→Int→Int→Int→Option Int
 |0,_,_,_=>none
 |n+1,gH,jv,jS=>xh ko (oT ko a0 n) a0 gH jv jS
def xi (ko:Int→Int→Option Int) (a0:List UInt8) (fW:Int) (kq:Int):Option Int:=
 cond (decide (kq<(a0.length:Int))) ((cX a0 kq).bind fun bP=>ft fun n=>oT ko a0 n (bitsOf .xor .i64 fW (IntKind.i64.wrap ((bP.toNat:Int)*256))) kq 0) (some fW)
def kr (a0:List UInt8):Nat→Int→Int→Option Int
 |0,_,_=>none
 |n+1,fW,kq=>xi (kr a0 n) a0 fW kq
def tY (a0:List UInt8) (aA:Int):Option Int:=
 (si aA 0 65535).bind fun bd=>cond (!bd) (some 0) (ft fun n=>kr a0 n aA 0)
def sj (a0:List UInt8):Option (Int×Int):=
 cond (decide ((a0.length:Int)<3)) (some (0,11)) ((hL a0 0 (IntKind.i64.wrap ((a0.length:Int)-2))).bind fun bd=>(tY bd 65535).bind fun bP=>(cX a0 0).bind fun cv=>(cX a0 (IntKind.i64.wrap ((a0.length:Int)-2))).bind fun cL=>(cX a0 (IntKind.i64.wrap ((a0.length:Int)-1))).bind fun ca=>cond ((IntKind.i64.wrap ((IntKind.i64.wrap ((cL.toNat:Int)*256))+(ca.toNat:Int))) !=bP) (some (0,10)) ((si (cv.toNat:Int) 1 3).bind fun eB=>cond ((!eB)||(decide (6000<(a0.length:Int)))) (some (0,9)) (some ((cv.toNat:Int),0))))
def xj (a0:List UInt8):Option Bool:=
 (sj a0).bind fun bd=>some (bd.2==0)
def tZ (cY:Int→Option Bool) (a0:List aP) (dU:Int):Option Bool:=
 cond (decide (dU<(a0.length:Int))) ((cX a0 dU).bind fun bd=>(sg bd.Name).bind fun bP=>cond (!bP) (some false) ((xj bd.ck).bind fun cv=>cond (!cv) (some false) (cond (decide (0<dU)) ((cX a0 (IntKind.i64.wrap (dU-1))).bind fun cL=>cond (Op.bytesLess bd.Name cL.Name||bd.Name==cL.Name) (some false) (cY (IntKind.i64.wrap (dU+1)))) (cY (IntKind.i64.wrap (dU+1)))))) (some (decide ((a0.length:Int)≤16)))
def qB (a0:List aP):Nat→Int→Option Bool
 |0,_=>none
 |n+1,dU=>tZ (qB a0 n) a0 dU
def t_ (a0:List aP):Option Bool:=
 ft fun n=>qB a0 n 0
def ua (a0:List aP):Option ((List aP)):=
 cond a0.isEmpty (both (some []) ((room 32 (a0.length)).bind fun _=>some a0)) ((room 32 (a0.length)).bind fun _=>some a0)
def eC:List UInt8→List UInt8→Int
 |[],[]=>0
 |[],_::_=> -1
 |_::_,[]=>1
 |a::x,b::y=>if a<b then-1 else if b<a then 1 else eC x y
def B3 (a0:List UInt8) (aA:List UInt8):Option Int:=some (eC a0 aA)
def B4 (a0:List UInt8) (aA:List UInt8):Option Int:=
 (B3 a0 aA).bind fun bd=>some bd
def B5 (a0:List UInt8) (aA:List UInt8):Option Int:=
 (B4 a0 aA).bind fun bd=>some bd
def ub (a0:aP) (aA:List UInt8):Option Int:=
 (B5 a0.Name aA).bind fun bd=>some bd
def uc (fH:Int→Int→Option (Int×Bool)) (a0:List aP) (aA:List UInt8) (fY:Int) (hI:Int):Option (Int×Bool):=
 cond (decide (fY<hI)) ((cX a0 (IntKind.i64.wrap (Int.fdiv (IntKind.u64.wrap (IntKind.i64.wrap (fY+hI))) 2))).bind fun bd=>(ub bd aA).bind fun bP=>cond (decide (bP<0)) (fH (IntKind.i64.wrap ((IntKind.i64.wrap (Int.fdiv (IntKind.u64.wrap (IntKind.i64.wrap (fY+hI))) 2))+1)) hI) (fH fY (IntKind.i64.wrap (Int.fdiv (IntKind.u64.wrap (IntKind.i64.wrap (fY+hI))) 2)))) (cond (decide (fY<(a0.length:Int))) ((cX a0 fY).bind fun cv=>(ub cv aA).bind fun cL=>some (fY,(cL==0))) (some (fY,false)))
def oU (a0:List aP) (aA:List UInt8):Nat→Int→Int→Option (Int×Bool)
 |0,_,_=>none
 |n+1,fY,hI=>uc (oU a0 aA n) a0 aA fY hI
def xk (a0:List aP) (aA:List UInt8):Option (Int×Bool):=
 ft fun n=>oU a0 aA n 0 (a0.length:Int)
def qC (a0:List aP) (aA:Int) (cn:List aP):Option (List aP):=if 0≤aA∧aA≤a0.length∧cn.length=1∧(a0.length+1)*32≤140737488355328 then some (a0.take aA.toNat++(cn++a0.drop aA.toNat))else none
def ud (qD:List aP):Option ((List aP)×Int):=
 some (qD,0)
def sk (a0:List aP) (aA:aP):Option ((List aP)×Int):=
 (t_ a0).bind fun bd=>cond (!bd) (some ([],1)) ((sg aA.Name).bind fun bP=>cond (!bP) (some ([],2)) ((sj aA.ck).bind fun cv=>cond (cv.2 !=0) (some ([],cv.2)) ((ua a0).bind fun cL=>(xk cL aA.Name).bind fun ca=>cond ca.2 ((cX cL ca.1).bind fun eB=>ud (List.set cL (Int.toNat ca.1) aA)) (cond (decide (16≤(cL.length:Int))) (some ([],5)) ((qC cL ca.1 [aA]).bind fun gI=>ud gI)))))
def oV (a0:aP) (aA:aP):Option Bool:=
 cond (!(a0.Name==aA.Name)) (some false) (cond (!(a0.ck==aA.ck)) (some false) (some true))
def ue (mO:Int→Option Bool) (a0:List aP) (aA:List aP) (jw:Int):Option Bool:=
 cond (decide (jw<(a0.length:Int))) ((cX a0 jw).bind fun bd=>(cX aA jw).bind fun bP=>(oV bd bP).bind fun cv=>cond (!cv) (some false) (mO (IntKind.i64.wrap (jw+1)))) (some true)
def qE (a0:List aP) (aA:List aP):Nat→Int→Option Bool
 |0,_=>none
 |n+1,jw=>ue (qE a0 aA n) a0 aA jw
def l3 (a0:List aP) (aA:List aP):Option Bool:=
 cond ((a0.length:Int) !=(aA.length:Int)) (some false) (ft fun n=>qE a0 aA n 0)
def sl (mO:Int→(List UInt8)→Option ((List UInt8))) (gU:Int) (c4:List UInt8):Option ((List UInt8)):=
 cond (decide (0<gU)) ((lo (1+c4.length)).bind fun _=>mO (IntKind.i64.wrap (Int.tdiv gU 10)) ([(mg (IntKind.i64.wrap (48+(Int.tmod gU 10))))]++c4)) ((lo (1+c4.length)).bind fun _=>some (([109]:List UInt8)++c4))
def nQ:Nat→Int→(List UInt8)→Option ((List UInt8))
 |0,_,_=>none
 |n+1,gU,c4=>sl (nQ n) gU c4
def oW (a0:Int):Option ((List UInt8)):=
 cond (decide (a0≤0)) (some ([109,48]:List UInt8)) (ft fun n=>nQ n a0 ([]:List UInt8))
def uf (cY:(List aP)→Int→Int→Option (Int×(List aP))) (hj:List aP) (c1:Int) (cN:Int):Option (Int×(List aP)):=
 cond (decide (cN<(hj.length:Int))) ((oW c1).bind fun bd=>(cX hj cN).bind fun bP=>(oW (IntKind.i64.wrap (c1+1))).bind fun cv=>(cX (List.set hj (Int.toNat cN) (aP.mk bd bP.ck)) cN).bind fun cL=>cY (List.set (List.set hj (Int.toNat cN) (aP.mk bd bP.ck)) (Int.toNat cN) (aP.mk cL.Name cv)) (IntKind.i64.wrap ((IntKind.i64.wrap (c1+1))+1)) (IntKind.i64.wrap (cN+1))) (some (c1,hj))
def oX:Nat→(List aP)→Int→Int→Option (Int×(List aP))
 |0,_,_,_=>none
 |n+1,hj,c1,cN=>uf (oX n) hj c1 cN
def sm (a0:List aP) (aA:Int):Option (Int×(List aP)):=
 ft fun n=>oX n a0 aA 0
def ug (cY:Int→Int→Option Int) (a0:List aP) (c1:Int) (cN:Int):Option Int:=
 cond (decide (cN<(a0.length:Int))) ((cX a0 cN).bind fun bd=>(oW c1).bind fun bP=>cond (!(bd.Name==bP)) (some (-1)) ((oW (IntKind.i64.wrap (c1+1))).bind fun cv=>cond (!(bd.ck==cv)) (some (-1)) (cY (IntKind.i64.wrap ((IntKind.i64.wrap (c1+1))+1)) (IntKind.i64.wrap (cN+1))))) (some c1)
def oY (a0:List aP):Nat→Int→Int→Option Int
 |0,_,_=>none
 |n+1,c1,cN=>ug (oY a0 n) a0 c1 cN
def sn (a0:List aP) (aA:Int):Option Int:=
 ft fun n=>oY a0 n aA 0
def xl (a0:List eA) (aA:eA):Option Bool:=
 (tK a0 1048576).bind fun bd=>cond (decide (bd<0)) (some true) ((qn aA bd).bind fun bP=>cond (decide (bP<0)) (some true) ((oR a0).bind fun cv=>(nP aA).bind fun cL=>(tV cv cL).bind fun ca=>(oR a0).bind fun eB=>(nP aA).bind fun gI=>(sk eB gI).bind fun e5=>(l3 e5.1 ca.1).bind fun iC=>cond ((!iC)||(e5.2 !=ca.2)) (some false) ((oR a0).bind fun hJ=>(l3 eB hJ).bind fun k8=>cond (!k8) (some false) ((sm eB 1).bind fun oZ=>cond (decide (oZ.1<0)) (some false) ((l3 e5.1 ca.1).bind fun k9=>cond ((!k9)||(e5.2 !=ca.2)) (some false) ((sm e5.1 1).bind fun gy=>(sn gy.2 1).bind fun k_=>cond (decide (k_<0)) (some false) (cond (k_ !=gy.1) (some false) ((oR a0).bind fun mR=>(nP aA).bind fun so=>(sk mR so).bind fun mS=>(l3 mS.1 ca.1).bind fun qF=>cond ((!qF)||(mS.2 !=ca.2)) (some false) ((sn gy.2 1).bind fun qG=>cond (decide (qG<0)) (some false) (cond (qG !=gy.1) (some false) (some true)))))))))))
end
end Go.fm
