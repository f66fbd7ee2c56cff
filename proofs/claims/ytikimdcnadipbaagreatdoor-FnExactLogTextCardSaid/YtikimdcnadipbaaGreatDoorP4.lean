/- Part of a proof that a law returns true for every input. No condition. -/
import Derived.Test.YtikimdcnadipbaaGreatDoorFwA
namespace Go.eL
open Go Go.bZ
set_option linter.unusedVariables false
noncomputable section
structure fl where
 Choice:Int
 dJ:Int
 Second:Int
 Label:List UInt8
def q4 (x:fl):Prop:=(-9223372036854775808≤x.Choice∧x.Choice≤9223372036854775807)∧(-9223372036854775808≤x.dJ∧x.dJ≤9223372036854775807)∧(-9223372036854775808≤x.Second∧x.Second≤9223372036854775807)∧x.Label.length≤9223372036854775807
structure b3 where
 Choice:Int
 dJ:Int
 Second:Int
 Label:List UInt8
def YG (x:b3):Prop:=(-9223372036854775808≤x.Choice∧x.Choice≤9223372036854775807)∧(-9223372036854775808≤x.dJ∧x.dJ≤9223372036854775807)∧(-9223372036854775808≤x.Second∧x.Second≤9223372036854775807)∧x.Label.length≤9223372036854775807
def s5 (a0:fl) (aA:Int):Option Int:=
 cond (decide ((IntKind.i64.wrap (aA-(a0.Label.length:Int)))<0)) (some (-1)) (some (IntKind.i64.wrap (aA-(a0.Label.length:Int))))
def Ec (iT:Int→Int→Option Int) (a0:List fl) (k8:Int) (gf:Int):Option Int:=
 cond (decide (gf<(a0.length:Int))) ((c1 a0 gf).bind fun aH=>(s5 aH k8).bind fun aU=>cond (decide (aU<0)) (some (-1)) (iT aU (IntKind.i64.wrap (gf+1)))) (some k8)
def vc (a0:List fl):Nat→Int→Int→Option Int
 |0,_,_=>none
 |n+1,k8,gf=>Ec (vc a0 n) a0 k8 gf
def vd (a0:List fl) (aA:Int):Option Int:=
 cond (decide ((IntKind.i64.wrap (aA-(a0.length:Int)))<0)) (some (-1)) (dT fun n=>vc a0 n (IntKind.i64.wrap (aA-(a0.length:Int))) 0)
def s6 (a0:fl):Option b3:=
 some (b3.mk a0.Choice a0.dJ a0.Second a0.Label)
def Ed (gW:(List b3)→Int→Option ((List b3))) (a0:List fl) (jA:List b3) (eM:Int):Option ((List b3)):=
 cond (decide (eM<(a0.length:Int))) ((c1 a0 eM).bind fun aH=>(s6 aH).bind fun aU=>(c1 jA eM).bind fun bI=>gW (List.set jA (Int.toNat eM) aU) (IntKind.i64.wrap (eM+1))) (some jA)
def ve (a0:List fl):Nat→(List b3)→Int→Option ((List b3))
 |0,_,_=>none
 |n+1,jA,eM=>Ed (ve a0 n) a0 jA eM
def q5 (a0:List fl):Option ((List b3)):=
 (mM 40 (a0.length:Int)).bind fun _=>dT fun n=>ve a0 n (List.replicate (Int.toNat (a0.length:Int)) (b3.mk 0 0 0 ([]:List UInt8))) 0
def pE (a0:Int) (aA:Int) (a2:Int):Option Bool:=
 some ((decide (aA≤a0))&&(decide (a0≤a2)))
def vf (dj:Int→Option Int) (a0:List UInt8) (j4:Int):Option Int:=
 cond (decide (j4<(a0.length:Int))) ((c1 a0 j4).bind fun aH=>cond ((aH.toNat:Int)==40) (some j4) (dj (IntKind.i64.wrap (j4+1)))) (some (a0.length:Int))
def nu (a0:List UInt8):Nat→Int→Option Int
 |0,_=>none
 |n+1,j4=>vf (nu a0 n) a0 j4
def q6 (a0:List UInt8):Option Int:=
 dT fun n=>nu a0 n 0
def s7 (a0:UInt8):Option Bool:=
 some ((decide (97≤(a0.toNat:Int)))&&(decide ((a0.toNat:Int)≤122)))
def q7 (a0:UInt8):Option Bool:=
 some ((decide (48≤(a0.toNat:Int)))&&(decide ((a0.toNat:Int)≤57)))
def vg (q8:Int→Option Bool) (a0:List UInt8) (fE:Int):Option Bool:=
 cond (decide (fE<(a0.length:Int))) ((c1 a0 fE).bind fun bI=>(s7 bI).bind fun bV=>cond (!bV) ((q7 bI).bind fun dq=>cond (!dq) (some false) (q8 (IntKind.i64.wrap (fE+1)))) (q8 (IntKind.i64.wrap (fE+1)))) (some true)
def q9 (a0:List UInt8):Nat→Int→Option Bool
 |0,_=>none
 |n+1,fE=>vg (q9 a0 n) a0 fE
def s8 (a0:List UInt8):Option Bool:=
 cond (a0==([]:List UInt8)) (some false) (cond (decide (10<(a0.length:Int))) (some false) ((c1 a0 0).bind fun aH=>(s7 aH).bind fun aU=>cond (!aU) (some false) (dT fun n=>q9 a0 n 0)))
def vh (a0:List UInt8):Option Bool:=
 (s8 a0).bind fun aH=>some (aH&&(!(a0==([116,97,117]:List UInt8))))
def vi (jo:(List (List UInt8))→Int→Int→Option ((List (List UInt8)))) (a0:List UInt8) (aA:UInt8) (q_:List (List UInt8)) (ra:Int) (rb:Int):Option ((List (List UInt8))):=
 jo q_ ra (IntKind.i64.wrap (rb+1))
def vj (jo:(List (List UInt8))→Int→Int→Option ((List (List UInt8)))) (a0:List UInt8) (aA:UInt8) (eN:List (List UInt8)) (k9:Int) (hx:Int):Option ((List (List UInt8))):=
 cond (decide (hx<(a0.length:Int))) ((c1 a0 hx).bind fun aH=>cond ((aH.toNat:Int)==(aA.toNat:Int)) ((dZ a0 k9 hx).bind fun aU=>(room 16 (eN.length+1)).bind fun _=>vi jo a0 aA (eN++[aU]) (IntKind.i64.wrap (hx+1)) hx) (vi jo a0 aA eN k9 hx)) ((dZ a0 k9 (a0.length:Int)).bind fun bI=>(room 16 (eN.length+1)).bind fun _=>some (eN++[bI]))
def ou (a0:List UInt8) (aA:UInt8):Nat→(List (List UInt8))→Int→Int→Option ((List (List UInt8)))
 |0,_,_,_=>none
 |n+1,eN,k9,hx=>vj (ou a0 aA n) a0 aA eN k9 hx
def vk (a0:List UInt8) (aA:UInt8):Option ((List (List UInt8))):=
 dT fun n=>ou a0 aA n [] 0 0
def s9 (lN:Int):Option (Int×Bool):=
 some (lN,true)
def s_ (LZ:Int→Int→Option (Int×Bool)) (a0:List UInt8) (ey:Int) (gF:Int) (hI:Int):Option (Int×Bool):=
 cond (decide (hI<(a0.length:Int))) ((c1 a0 hI).bind fun bV=>(q7 bV).bind fun dq=>cond (!dq) (some (0,false)) (LZ (IntKind.i64.wrap ((IntKind.i64.wrap (10*gF))+(IntKind.i64.wrap (IntKind.u8.wrap ((bV.toNat:Int)-48))))) (IntKind.i64.wrap (hI+1)))) (cond (ey==1) (s9 (IntKind.i64.wrap (0-gF))) (s9 gF))
def lO (a0:List UInt8) (ey:Int):Nat→Int→Int→Option (Int×Bool)
 |0,_,_=>none
 |n+1,gF,hI=>s_ (lO a0 ey n) a0 ey gF hI
def re (a0:List UInt8) (ey:Int):Option (Int×Bool):=
 cond ((a0.length:Int)==ey) (some (0,false)) (cond (decide (18<(IntKind.i64.wrap ((a0.length:Int)-ey)))) (some (0,false)) ((c1 a0 ey).bind fun aH=>cond ((aH.toNat:Int)==48) (cond (decide (1<(a0.length:Int))) (some (0,false)) (dT fun n=>lO a0 ey n 0 ey)) (dT fun n=>lO a0 ey n 0 ey)))
def vl (a0:List UInt8):Option (Int×Bool):=
 cond (decide (0<(a0.length:Int))) ((c1 a0 0).bind fun e3=>cond ((e3.toNat:Int)==45) (re a0 1) (re a0 0)) (re a0 0)
def vm (L0:(List Int)→Int→Option ((List Int)×Bool)) (eh:(List (List UInt8))) (h3:List Int) (jB:Int):Option ((List Int)×Bool):=
 cond (decide (jB<(eh.length:Int))) ((c1 eh jB).bind fun j5=>(vl j5).bind fun fF=>cond (!fF.2) (some ([],false)) ((pE fF.1 0 63).bind fun hz=>cond (!hz) (some ([],false)) ((room 8 (h3.length+1)).bind fun _=>L0 (h3++[fF.1]) (IntKind.i64.wrap (jB+1))))) (some (h3,(decide ((h3.length:Int)≤2))))
def ov (eh:(List (List UInt8))):Nat→(List Int)→Int→Option ((List Int)×Bool)
 |0,_,_=>none
 |n+1,h3,jB=>vm (ov eh n) eh h3 jB
def ta (a0:List UInt8):Option ((List Int)×Bool):=
 (q6 a0).bind fun aH=>cond (aH==(a0.length:Int)) ((s8 a0).bind fun aU=>some ([],aU)) ((dZ a0 0 aH).bind fun bI=>(vh bI).bind fun bV=>cond (!bV) (some ([],false)) ((c1 a0 (IntKind.i64.wrap ((a0.length:Int)-1))).bind fun dq=>cond ((dq.toNat:Int) !=41) (some ([],false)) ((dZ a0 (IntKind.i64.wrap (aH+1)) (IntKind.i64.wrap ((a0.length:Int)-1))).bind fun e3=>(vk e3 (44:UInt8)).bind fun eh=>dT fun n=>ov eh n [] 0)))
def mz (a0:List UInt8):Option Bool:=
 (ta a0).bind fun aH=>some aH.2
def vn (a0:b3):Option Bool:=
 (pE a0.Choice 0 199).bind fun aH=>cond aH ((pE a0.dJ 0 2).bind fun aU=>cond aU ((pE a0.Second (-1) 2).bind fun bI=>cond bI ((mz a0.Label).bind fun bV=>some bV) (some false)) (some false)) (some false)
def vo (q8:Int→Option Bool) (a0:List b3) (fE:Int):Option Bool:=
 cond (decide (fE<(a0.length:Int))) ((c1 a0 fE).bind fun aH=>(vn aH).bind fun aU=>cond (!aU) (some false) (q8 (IntKind.i64.wrap (fE+1)))) (some true)
def pF (a0:List b3):Nat→Int→Option Bool
 |0,_=>none
 |n+1,fE=>vo (pF a0 n) a0 fE
def vp (a0:List b3):Option Bool:=
 cond (decide (60<(a0.length:Int))) (some false) (dT fun n=>pF a0 n 0)
def tb (iT:(List UInt8)→Int→Option ((List UInt8))) (a0:Int) (nv:List UInt8) (ow:Int) (k_:Int):Option ((List UInt8)):=
 (room 1 (nv.length+1)).bind fun _=>iT (nv++[(kF (IntKind.i64.wrap (48+k_)))]) (IntKind.i64.wrap (Int.tdiv ow 10))
def vq (L1:(List UInt8)→Int→Option ((List UInt8))) (h4:List UInt8) (iU:List UInt8) (j6:Int):Option ((List UInt8)):=
 cond (decide (0≤j6)) ((c1 h4 j6).bind fun aH=>(room 1 (iU.length+1)).bind fun _=>L1 (iU++[aH]) (IntKind.i64.wrap (j6-1))) (some iU)
def pG (h4:List UInt8):Nat→(List UInt8)→Int→Option ((List UInt8))
 |0,_,_=>none
 |n+1,iU,j6=>vq (pG h4 n) h4 iU j6
def tc (h4:List UInt8):Option ((List UInt8)):=
 dT fun n=>pG h4 n [] (IntKind.i64.wrap ((h4.length:Int)-1))
def rf (iT:(List UInt8)→Int→Option ((List UInt8))) (a0:Int) (h5:List UInt8) (h6:Int):Option ((List UInt8)):=
 cond (h6 !=0) (cond (decide ((Int.tmod h6 10)<0)) (tb iT a0 h5 h6 (IntKind.i64.wrap (0-(Int.tmod h6 10)))) (tb iT a0 h5 h6 (Int.tmod h6 10))) (cond (decide (a0<0)) ((room 1 (h5.length+1)).bind fun _=>tc (h5++[(45:UInt8)])) (tc h5))
def jC (a0:Int):Nat→(List UInt8)→Int→Option ((List UInt8))
 |0,_,_=>none
 |n+1,h5,h6=>rf (jC a0 n) a0 h5 h6
def ox (a0:Int):Option ((List UInt8)):=
 cond (a0==0) (some ([48]:List UInt8)) (dT fun n=>jC a0 n [] a0)
def td (dj:Int→Int→Option Int) (vr:Int→Int→Int→Option Int) (a0:List UInt8) (rh:Int) (ri:Int) (rj:Int):Option Int:=
 vr rh ri (IntKind.i64.wrap (rj+1))
def te (dj:Int→Int→Option Int) (vr:Int→Int→Int→Option Int) (a0:List UInt8) (iV:Int) (jD:Int) (j7:Int):Option Int:=
 cond (decide (j7<8)) (cond (decide (65535<(IntKind.i64.wrap (iV*2)))) (td dj vr a0 (bitsOf .xor .i64 (bitsOf .and .i64 (IntKind.i64.wrap (iV*2)) 65535) 4129) jD j7) (td dj vr a0 (IntKind.i64.wrap (iV*2)) jD j7)) (dj iV (IntKind.i64.wrap (jD+1)))
def mA (dj:Int→Int→Option Int) (a0:List UInt8):Nat→Int→Int→Int→Option Int
 |0,_,_,_=>none
 |n+1,iV,jD,j7=>te dj (mA dj a0 n) a0 iV jD j7
def tf (dj:Int→Int→Option Int) (a0:List UInt8) (ku:Int) (kv:Int):Option Int:=
 cond (decide (kv<(a0.length:Int))) ((c1 a0 kv).bind fun aH=>dT fun n=>mA dj a0 n (bitsOf .xor .i64 ku (IntKind.i64.wrap ((aH.toNat:Int)*256))) kv 0) (some ku)
def iW (a0:List UInt8):Nat→Int→Int→Option Int
 |0,_,_=>none
 |n+1,ku,kv=>tf (iW a0 n) a0 ku kv
def pH (a0:List UInt8) (aA:Int):Option Int:=
 dT fun n=>iW a0 n aA 0
def vt (a0:b3) (aA:Int):Option ((List UInt8)×Int):=
 (ox a0.Choice).bind fun aH=>(fp (aH.length+1)).bind fun _=>(ox a0.dJ).bind fun aU=>(fp ((aH++([32]:List UInt8)).length+aU.length)).bind fun _=>(fp (((aH++([32]:List UInt8))++aU).length+1)).bind fun _=>(ox a0.Second).bind fun bI=>(fp ((((aH++([32]:List UInt8))++aU)++([32]:List UInt8)).length+bI.length)).bind fun _=>(fp (((((aH++([32]:List UInt8))++aU)++([32]:List UInt8))++bI).length+1)).bind fun _=>(fp ((((((aH++([32]:List UInt8))++aU)++([32]:List UInt8))++bI)++([32]:List UInt8)).length+a0.Label.length)).bind fun _=>(pH ((((((aH++([32]:List UInt8))++aU)++([32]:List UInt8))++bI)++([32]:List UInt8))++a0.Label) aA).bind fun bV=>(fp (((((((aH++([32]:List UInt8))++aU)++([32]:List UInt8))++bI)++([32]:List UInt8))++a0.Label).length+1)).bind fun _=>(ox bV).bind fun dq=>(fp ((((((((aH++([32]:List UInt8))++aU)++([32]:List UInt8))++bI)++([32]:List UInt8))++a0.Label)++([32]:List UInt8)).length+dq.length)).bind fun _=>some (((((((((aH++([32]:List UInt8))++aU)++([32]:List UInt8))++bI)++([32]:List UInt8))++a0.Label)++([32]:List UInt8))++dq),bV)
def vu (jo:(List UInt8)→Int→Int→Option ((List UInt8))) (a0:List b3) (iX:List UInt8) (ey:Int) (eN:Int):Option ((List UInt8)):=
 cond (decide (eN<(a0.length:Int))) ((c1 a0 eN).bind fun aH=>(vt aH ey).bind fun aU=>(fp (aU.1.length+1)).bind fun _=>(fp (iX.length+(aU.1++([10]:List UInt8)).length)).bind fun _=>jo (iX++(aU.1++([10]:List UInt8))) aU.2 (IntKind.i64.wrap (eN+1))) (some iX)
def pI (a0:List b3):Nat→(List UInt8)→Int→Int→Option ((List UInt8))
 |0,_,_,_=>none
 |n+1,iX,ey,eN=>vu (pI a0 n) a0 iX ey eN
def vv (a0:List b3):Option ((List UInt8)):=
 dT fun n=>pI a0 n ([]:List UInt8) 65535 0
def vw (a0:List b3):Option ((List UInt8)):=
 (vp a0).bind fun aH=>cond (!aH) (some ([]:List UInt8)) ((vv a0).bind fun aU=>some aU)
def nw (a0:Int) (aA:Int) (a2:Int):Option Bool:=
 some ((decide (aA≤a0))&&(decide (a0≤a2)))
def lP:List UInt8→UInt8→Int
 |[],_=> -1
 |b::l,c=>if b==c then 0 else if lP l c== -1 then-1 else lP l c+1
def yY (a0:List UInt8) (aA:UInt8):Option Int:=some (lP a0 aA)
def yZ (a0:List UInt8) (aA:UInt8):Option Int:=
 (yY a0 aA).bind fun aH=>some aH
def nx (a0:List UInt8) (aA:List UInt8):Option Int:=
 cond (((aA.length:Int)==0)||(aA==a0)) (some 0) (cond ((aA.length:Int)==1) ((c1 aA 0).bind fun aH=>(yZ a0 aH).bind fun aU=>some aU) (cond (decide ((a0.length:Int)≤(aA.length:Int))) (some (-1)) (none)))
def vx (a0:List UInt8) (aA:List UInt8):Option ((List UInt8)×(List UInt8)×Bool):=
 (nx a0 aA).bind fun aH=>cond (decide (0≤aH)) ((dZ a0 0 aH).bind fun aU=>(dZ a0 (IntKind.i64.wrap (aH+(aA.length:Int))) (a0.length:Int)).bind fun bI=>some (aU,bI,true)) (some (a0,([]:List UInt8),false))
def rk (a0:List UInt8) (aA:List UInt8):Option ((List UInt8)×(List UInt8)×Bool):=
 (vx a0 aA).bind fun aH=>some (aH.1,aH.2.1,aH.2.2)
def vy (a0:List UInt8) (aA:List UInt8):Option Bool:=
 cond (decide ((aA.length:Int)≤(a0.length:Int))) ((dZ a0 (IntKind.i64.wrap ((a0.length:Int)-(aA.length:Int))) (a0.length:Int)).bind fun aH=>some (aH==aA)) (some false)
def vz (a0:List UInt8) (aA:List UInt8):Option ((List UInt8)):=
 (vy a0 aA).bind fun aH=>cond aH ((dZ a0 0 (IntKind.i64.wrap ((a0.length:Int)-(aA.length:Int)))).bind fun aU=>some aU) (some a0)
def strings_TrimSuffix (a0:List UInt8) (aA:List UInt8):Option ((List UInt8)):=
 (vz a0 aA).bind fun aH=>some aH
def y0 (a0:List UInt8) (aA:UInt8):Option Int:=some (a0.count aA:Nat)
def tg (a0:List UInt8) (aA:List UInt8):Option Int:=
 (nx a0 aA).bind fun aH=>some aH
def Ee (L2:(List UInt8)→Int→Option Int) (aA:List UInt8) (la:List UInt8) (lb:Int):Option Int:=
 (tg la aA).bind fun bI=>cond (bI==(-1)) (some lb) ((dZ la (IntKind.i64.wrap (bI+(aA.length:Int))) (la.length:Int)).bind fun bV=>L2 bV (IntKind.i64.wrap (lb+1)))
def vA (aA:List UInt8):Nat→(List UInt8)→Int→Option Int
 |0,_,_=>none
 |n+1,la,lb=>Ee (vA aA n) aA la lb
def y1 (a0:List UInt8) (aA:List UInt8):Option Int:=
 cond ((aA.length:Int)==0) (none) (cond ((aA.length:Int)==1) ((c1 aA 0).bind fun aH=>(y0 a0 aH).bind fun aU=>some aU) (dT fun n=>vA aA n a0 0))
def th (a0:List UInt8) (aA:List UInt8) (a2:Int) (e4:Int) (rl:List UInt8) (pJ:List (List UInt8)) (ny:Int):Option ((List (List UInt8))):=
 (c1 pJ ny).bind fun aH=>(dZ (List.set pJ (Int.toNat ny) rl) 0 (IntKind.i64.wrap (ny+1))).bind fun aU=>some aU
def vB (L3:(List UInt8)→(List (List UInt8))→Int→Option ((List (List UInt8)))) (a0:List UInt8) (aA:List UInt8) (a2:Int) (e4:Int) (h7:List UInt8) (hA:List (List UInt8)) (fT:Int):Option ((List (List UInt8))):=
 cond (decide (fT<(IntKind.i64.wrap ((fL false e4 (IntKind.i64.wrap ((a0.length:Int)+1)))-1)))) ((tg h7 aA).bind fun bI=>cond (decide (bI<0)) (th a0 aA a2 e4 h7 hA fT) ((dZ h7 0 (IntKind.i64.wrap (bI+a2))).bind fun bV=>(c1 hA fT).bind fun dq=>(dZ h7 (IntKind.i64.wrap (bI+(aA.length:Int))) (h7.length:Int)).bind fun e3=>L3 e3 (List.set hA (Int.toNat fT) bV) (IntKind.i64.wrap (fT+1)))) (th a0 aA a2 e4 h7 hA fT)
def oy (a0:List UInt8) (aA:List UInt8) (a2:Int) (e4:Int):Nat→(List UInt8)→(List (List UInt8))→Int→Option ((List (List UInt8)))
 |0,_,_,_=>none
 |n+1,h7,hA,fT=>vB (oy a0 aA a2 e4 n) a0 aA a2 e4 h7 hA fT
def vC (a0:List UInt8) (aA:List UInt8) (a2:Int) (e4:Int):Option ((List (List UInt8))):=
 (mM 16 (fL false e4 (IntKind.i64.wrap ((a0.length:Int)+1)))).bind fun _=>dT fun n=>oy a0 aA a2 e4 n a0 (List.replicate (Int.toNat (fL false e4 (IntKind.i64.wrap ((a0.length:Int)+1)))) ([]:List UInt8)) 0
def y2 (a0:List UInt8) (aA:List UInt8) (a2:Int) (a3:Int):Option ((List (List UInt8))):=
 cond (a3==0) (some []) (cond (aA==([]:List UInt8)) (none) (cond (decide (a3<0)) ((y1 a0 aA).bind fun eh=>vC a0 aA a2 (IntKind.i64.wrap (eh+1))) (vC a0 aA a2 a3)))
def vD (a0:List UInt8) (aA:List UInt8):Option ((List (List UInt8))):=
 (y2 a0 aA 0 (-1)).bind fun aH=>some aH
def dA (c:UInt8):Bool:=decide (48≤c.toNat)&&decide (c.toNat≤57)
def fJ (d:List UInt8):Nat:=d.foldl (fun n c=>10*n+(c.toNat-48)) 0
def iY (k:Nat) (d:List UInt8):Int×Bool:=if d≠[]∧d.length≤18∧d.all dA=true∧¬(d.head? =some 48∧1<d.length+k)then(if k=1 then-(fJ d:Int)else fJ d,true)else(0,false)
def fm (s:List UInt8):Int×Bool:=if s.head? =some 45 then iY 1 s.tail else iY 0 s
def vE (a0:List UInt8):Option (Int×Bool):=some (fm a0)
def vF (gW:(List Int)→Int→Option ((List Int)×Bool)) (a0:List (List UInt8)) (eM:List Int) (j8:Int):Option ((List Int)×Bool):=
 cond (decide (j8<(a0.length:Int))) ((c1 a0 j8).bind fun aH=>(vE aH).bind fun aU=>cond (!aU.2) (some ([],false)) ((room 8 (eM.length+1)).bind fun _=>gW (eM++[aU.1]) (IntKind.i64.wrap (j8+1)))) (some (eM,true))
def pK (a0:List (List UInt8)):Nat→(List Int)→Int→Option ((List Int)×Bool)
 |0,_,_=>none
 |n+1,eM,j8=>vF (pK a0 n) a0 eM j8
def vG (a0:List (List UInt8)):Option ((List Int)×Bool):=
 dT fun n=>pK a0 n [] 0
def y3 (a0:UInt8):Option Bool:=
 some ((decide (48≤(a0.toNat:Int)))&&(decide ((a0.toNat:Int)≤57)))
def ti (dj:Int→Option Bool) (a0:List UInt8) (h8:Int):Option Bool:=
 cond (decide (h8<(a0.length:Int))) ((c1 a0 h8).bind fun aH=>cond (!((decide (97≤(aH.toNat:Int)))&&(decide ((aH.toNat:Int)≤122)))) (cond (h8==0) (some false) ((y3 aH).bind fun aU=>cond (!aU) (some false) (dj (IntKind.i64.wrap (h8+1))))) (dj (IntKind.i64.wrap (h8+1)))) (some ((decide (1≤(a0.length:Int)))&&(decide ((a0.length:Int)≤10))))
def nz (a0:List UInt8):Nat→Int→Option Bool
 |0,_=>none
 |n+1,h8=>ti (nz a0 n) a0 h8
def vH (a0:List UInt8):Option Bool:=
 dT fun n=>nz a0 n 0
def vI (a0:List UInt8):Option Bool:=
 (vH a0).bind fun aH=>some (aH&&(!(a0==([116,97,117]:List UInt8))))
def y4 (a0:Int):Option Bool:=
 (nw a0 0 63).bind fun aH=>some aH
def y5 (a0:Int):Option Bool:=
 (y4 a0).bind fun aH=>some (!aH)
def vJ (dj:Int→Option Int) (a0:List Int) (fy:Int):Option Int:=
 cond (decide (fy<(a0.length:Int))) ((c1 a0 fy).bind fun aH=>(y5 aH).bind fun aU=>cond aU (some fy) (dj (IntKind.i64.wrap (fy+1)))) (some (-1))
def pL (a0:List Int):Nat→Int→Option Int
 |0,_=>none
 |n+1,fy=>vJ (pL a0 n) a0 fy
def y6 (a0:List Int):Option Int:=
 dT fun n=>pL a0 n 0
def y7 (a0:List Int):Option Bool:=
 (y6 a0).bind fun aH=>some (decide (0≤aH))
def vK (a0:List Int):Option Bool:=
 (y7 a0).bind fun aH=>some (!aH)
def h9 (n:Nat):List UInt8:=if h:n<10 then [UInt8.ofNat (48+n)]else h9 (n/10)++[UInt8.ofNat (48+n%10)]
 termination_by n
 decreasing_by omega
def fb (n:Int):List UInt8:=if n<0 then 45::h9 n.natAbs else h9 n.toNat
def rm (a0 aA:Int):Option (List UInt8):=if-9223372036854775808≤a0∧a0≤9223372036854775807∧aA=10 then some (fb a0)else none
def mB (a0:Int):Option ((List UInt8)):=
 (rm a0 10).bind fun aH=>some aH
def strings_Join (a0:List (List UInt8)) (aA:List UInt8):Option (List UInt8):=if a0.length≤140737488355328∧(gy a0 aA).length≤140737488355328 then some (gy a0 aA)else none
def rn (gW:(List (List UInt8))→Int→Option ((List UInt8))) (a0:List Int) (aA:List UInt8) (jE:List (List UInt8)) (hJ:Int):Option ((List UInt8)):=
 cond (decide (hJ<(a0.length:Int))) ((c1 a0 hJ).bind fun aH=>(mB aH).bind fun aU=>(c1 jE hJ).bind fun bI=>gW (List.set jE (Int.toNat hJ) aU) (IntKind.i64.wrap (hJ+1))) ((strings_Join jE aA).bind fun bV=>some bV)
def mC (a0:List Int) (aA:List UInt8):Nat→(List (List UInt8))→Int→Option ((List UInt8))
 |0,_,_=>none
 |n+1,jE,hJ=>rn (mC a0 aA n) a0 aA jE hJ
def pM (a0:List Int) (aA:List UInt8):Option ((List UInt8)):=
 (mM 16 (a0.length:Int)).bind fun _=>dT fun n=>mC a0 aA n (List.replicate (Int.toNat (a0.length:Int)) ([]:List UInt8)) 0
def vL (a0:List UInt8) (aA:List Int):Option ((List UInt8)×Bool):=
 cond (a0==([116,97,117]:List UInt8)) (some (([116,97,117]:List UInt8),((aA.length:Int)==0))) ((vI a0).bind fun aU=>cond (!aU) (some (([]:List UInt8),false)) (cond (decide (2<(aA.length:Int))) (some (([]:List UInt8),false)) ((vK aA).bind fun bI=>cond (!bI) (some (([]:List UInt8),false)) (cond ((aA.length:Int)==0) (some (a0,true)) ((fp (a0.length+1)).bind fun _=>(pM aA ([44]:List UInt8)).bind fun bV=>(fp ((a0++([40]:List UInt8)).length+bV.length)).bind fun _=>(fp (((a0++([40]:List UInt8))++bV).length+1)).bind fun _=>some ((((a0++([40]:List UInt8))++bV)++([41]:List UInt8)),true))))))
def tj (a0:List UInt8) (aH:(List UInt8)×(List UInt8)×Bool) (mD:List Int):Option ((List UInt8)×(List Int)×Bool):=
 (vL aH.1 mD).bind fun aU=>cond ((!aU.2)||(!(aU.1==a0))) (some (([]:List UInt8),[],false)) (some (aH.1,mD,true))
def vM (a0:List UInt8):Option ((List UInt8)×(List Int)×Bool):=
 (rk a0 ([40]:List UInt8)).bind fun aH=>cond aH.2.2 ((strings_TrimSuffix aH.2.1 ([41]:List UInt8)).bind fun bI=>(vD bI ([44]:List UInt8)).bind fun bV=>(vG bV).bind fun dq=>cond (!dq.2) (some (([]:List UInt8),[],false)) (tj a0 aH dq.1)) (tj a0 aH [])
def pN (a0:List UInt8):Option Bool:=
 (vM a0).bind fun aH=>some aH.2.2
def vN (a0:b3):Option Bool:=
 (nw a0.Choice 0 199).bind fun aH=>cond aH ((nw a0.dJ 0 2).bind fun aU=>cond aU ((nw a0.Second (-1) 2).bind fun bI=>cond bI ((pN a0.Label).bind fun bV=>some bV) (some false)) (some false)) (some false)
def y8 (a0:b3):Option Bool:=
 (vN a0).bind fun aH=>some (!aH)
def vO (dj:Int→Option Int) (a0:List b3) (fy:Int):Option Int:=
 cond (decide (fy<(a0.length:Int))) ((c1 a0 fy).bind fun aH=>(y8 aH).bind fun aU=>cond aU (some fy) (dj (IntKind.i64.wrap (fy+1)))) (some (-1))
def pO (a0:List b3):Nat→Int→Option Int
 |0,_=>none
 |n+1,fy=>vO (pO a0 n) a0 fy
def y9 (a0:List b3):Option Int:=
 dT fun n=>pO a0 n 0
def y_ (a0:List b3):Option Bool:=
 (y9 a0).bind fun aH=>some (decide (0≤aH))
def vP (a0:List b3):Option Bool:=
 cond (decide ((a0.length:Int)≤60)) ((y_ a0).bind fun aH=>some (!aH)) (some false)
def vQ (iT:Int→Int→Option Int) (vR:Int→Int→Int→Option Int) (a0:List UInt8) (rp:Int) (rq:Int) (rr:Int):Option Int:=
 vR rp rq (IntKind.i64.wrap (rr+1))
def za (iT:Int→Int→Option Int) (vR:Int→Int→Int→Option Int) (a0:List UInt8) (jF:Int) (j9:Int) (kx:Int):Option Int:=
 cond (decide (kx<8)) (cond (decide (65535<(IntKind.i64.wrap (jF*2)))) (vQ iT vR a0 (bitsOf .xor .i64 (bitsOf .and .i64 (IntKind.i64.wrap (jF*2)) 65535) 4129) j9 kx) (vQ iT vR a0 (IntKind.i64.wrap (jF*2)) j9 kx)) (iT jF (IntKind.i64.wrap (j9+1)))
def pP (iT:Int→Int→Option Int) (a0:List UInt8):Nat→Int→Int→Int→Option Int
 |0,_,_,_=>none
 |n+1,jF,j9,kx=>za iT (pP iT a0 n) a0 jF j9 kx
def zb (iT:Int→Int→Option Int) (a0:List UInt8) (gf:Int) (ld:Int):Option Int:=
 cond (decide (ld<(a0.length:Int))) ((c1 a0 ld).bind fun aU=>dT fun n=>pP iT a0 n (bitsOf .xor .i64 gf (IntKind.i64.wrap ((aU.toNat:Int)*256))) ld 0) (some gf)
def lf (a0:List UInt8):Nat→Int→Int→Option Int
 |0,_,_=>none
 |n+1,gf,ld=>zb (lf a0 n) a0 gf ld
def ru (a0:List UInt8) (aA:Int):Option Int:=
 (nw aA 0 65535).bind fun aH=>cond (!aH) (some 0) (dT fun n=>lf a0 n aA 0)
def vS (a0:b3) (aA:Int):Option ((List UInt8)×Int):=
 (pM [a0.Choice,a0.dJ,a0.Second] ([32]:List UInt8)).bind fun aH=>(fp (aH.length+1)).bind fun _=>(fp ((aH++([32]:List UInt8)).length+a0.Label.length)).bind fun _=>(ru ((aH++([32]:List UInt8))++a0.Label) aA).bind fun aU=>(fp (((aH++([32]:List UInt8))++a0.Label).length+1)).bind fun _=>(mB aU).bind fun bI=>(fp ((((aH++([32]:List UInt8))++a0.Label)++([32]:List UInt8)).length+bI.length)).bind fun _=>(fp (((((aH++([32]:List UInt8))++a0.Label)++([32]:List UInt8))++bI).length+1)).bind fun _=>some ((((((aH++([32]:List UInt8))++a0.Label)++([32]:List UInt8))++bI)++([10]:List UInt8)),aU)
def tk (a0 aA:List UInt8):Option (List UInt8):=if a0.length+aA.length≤140737488355328 then some (a0++aA)else none
def vT (a0:List UInt8):Option (List UInt8):=some a0
def vU (L4:(List UInt8)→Int→Int→Option ((List UInt8))) (a0:List b3) (lg:List UInt8) (mE:Int) (ky:Int):Option ((List UInt8)):=
 cond (decide (ky<(a0.length:Int))) ((c1 a0 ky).bind fun aU=>(vS aU mE).bind fun bI=>(tk lg bI.1).bind fun bV=>L4 bV bI.2 (IntKind.i64.wrap (ky+1))) ((vT lg).bind fun dq=>some dq)
def oz (a0:List b3):Nat→(List UInt8)→Int→Int→Option ((List UInt8))
 |0,_,_,_=>none
 |n+1,lg,mE,ky=>vU (oz a0 n) a0 lg mE ky
def vV (a0:List b3):Option ((List UInt8)):=
 (vP a0).bind fun aH=>cond (!aH) (some ([]:List UInt8)) (dT fun n=>oz a0 n [] 65535 0)
def tl (a0:b3) (aA:b3):Option Bool:=
 cond (a0.Choice !=aA.Choice) (some false) (cond (a0.dJ !=aA.dJ) (some false) (cond (a0.Second !=aA.Second) (some false) (cond (!(a0.Label==aA.Label)) (some false) (some true))))
def Ef (q8:Int→Option Bool) (a0:List b3) (aA:List b3) (j_:Int):Option Bool:=
 cond (decide (j_<(a0.length:Int))) ((c1 a0 j_).bind fun aH=>(c1 aA j_).bind fun aU=>(tl aH aU).bind fun bI=>cond (!bI) (some false) (q8 (IntKind.i64.wrap (j_+1)))) (some true)
def vW (a0:List b3) (aA:List b3):Nat→Int→Option Bool
 |0,_=>none
 |n+1,j_=>Ef (vW a0 aA n) a0 aA j_
def vX (a0:List b3) (aA:List b3):Option Bool:=
 cond ((a0.length:Int) !=(aA.length:Int)) (some false) (dT fun n=>vW a0 aA n 0)
def zc (a0:List fl):Option Bool:=
 (vd a0 1048576).bind fun aH=>cond (decide (aH<0)) (some true) ((q5 a0).bind fun aU=>(vw aU).bind fun bI=>(q5 a0).bind fun bV=>(vV bV).bind fun dq=>cond (!(dq==bI)) (some false) ((q5 a0).bind fun e3=>(vX bV e3).bind fun eh=>cond (!eh) (some false) (some true)))
end
end Go.eL
