/- Part of a proof that a law returns true for every input. No condition. -/
import Derived.Test.YtipllbfpaepajaaGreatDoorFwA
namespace Go.e3
open Go Go.b9
set_option linter.unusedVariables false
noncomputable section
def D9 (rh:Int→Int→Option Int) (a0:List (List UInt8)) (kz:Int) (la:Int):Option Int:=
 cond (decide (la<(a0.length:Int))) ((cF a0 la).bind fun aG=>cond (decide ((IntKind.i64.wrap (kz-(aG.length:Int)))<0)) (some (-1)) (rh (IntKind.i64.wrap (kz-(aG.length:Int))) (IntKind.i64.wrap (la+1)))) (some kz)
def vj (a0:List (List UInt8)):Nat→Int→Int→Option Int
 |0,_,_=>none
 |n+1,kz,la=>D9 (vj a0 n) a0 kz la
def vk (a0:List (List UInt8)) (ah:Int):Option Int:=
 cond (decide ((IntKind.i64.wrap (ah-(a0.length:Int)))<0)) (some (-1)) (en fun n=>vj a0 n (IntKind.i64.wrap (ah-(a0.length:Int))) 0)
def D_ (gH:(List (List UInt8))→Int→Option ((List (List UInt8)))) (a0:List (List UInt8)) (ff:List (List UInt8)) (c1:Int):Option ((List (List UInt8))):=
 cond (decide (c1<(a0.length:Int))) ((cF a0 c1).bind fun aG=>(cF ff c1).bind fun aU=>gH (List.set ff (Int.toNat c1) aG) (IntKind.i64.wrap (c1+1))) (some ff)
def vl (a0:List (List UInt8)):Nat→(List (List UInt8))→Int→Option ((List (List UInt8)))
 |0,_,_=>none
 |n+1,ff,c1=>D_ (vl a0 n) a0 ff c1
def ri (a0:List (List UInt8)):Option ((List (List UInt8))):=
 (l3 16 (a0.length:Int)).bind fun _=>en fun n=>vl a0 n (List.replicate (Int.toNat (a0.length:Int)) ([]:List UInt8)) 0
def Ea (gH:(List Int)→Int→Option ((List Int))) (a0:List Int) (ff:List Int) (c1:Int):Option ((List Int)):=
 cond (decide (c1<(a0.length:Int))) ((cF a0 c1).bind fun aG=>(cF ff c1).bind fun aU=>gH (List.set ff (Int.toNat c1) aG) (IntKind.i64.wrap (c1+1))) (some ff)
def vm (a0:List Int):Nat→(List Int)→Int→Option ((List Int))
 |0,_,_=>none
 |n+1,ff,c1=>Ea (vm a0 n) a0 ff c1
def rj (a0:List Int):Option ((List Int)):=
 (l3 8 (a0.length:Int)).bind fun _=>en fun n=>vm a0 n (List.replicate (Int.toNat (a0.length:Int)) 0) 0
def vn (eH:Int→Option Int) (a0:List UInt8) (j7:Int):Option Int:=
 cond (decide (j7<(a0.length:Int))) ((cF a0 j7).bind fun aG=>cond ((aG.toNat:Int)==40) (some j7) (eH (IntKind.i64.wrap (j7+1)))) (some (a0.length:Int))
def nC (a0:List UInt8):Nat→Int→Option Int
 |0,_=>none
 |n+1,j7=>vn (nC a0 n) a0 j7
def rk (a0:List UInt8):Option Int:=
 en fun n=>nC a0 n 0
def tg (a0:UInt8):Option Bool:=
 some ((decide (97≤(a0.toNat:Int)))&&(decide ((a0.toNat:Int)≤122)))
def rl (a0:UInt8):Option Bool:=
 some ((decide (48≤(a0.toNat:Int)))&&(decide ((a0.toNat:Int)≤57)))
def vo (oC:Int→Option Bool) (a0:List UInt8) (jE:Int):Option Bool:=
 cond (decide (jE<(a0.length:Int))) ((cF a0 jE).bind fun aY=>(tg aY).bind fun bE=>cond (!bE) ((rl aY).bind fun cc=>cond (!cc) (some false) (oC (IntKind.i64.wrap (jE+1)))) (oC (IntKind.i64.wrap (jE+1)))) (some true)
def rm (a0:List UInt8):Nat→Int→Option Bool
 |0,_=>none
 |n+1,jE=>vo (rm a0 n) a0 jE
def th (a0:List UInt8):Option Bool:=
 cond (a0==([]:List UInt8)) (some false) (cond (decide (10<(a0.length:Int))) (some false) ((cF a0 0).bind fun aG=>(tg aG).bind fun aU=>cond (!aU) (some false) (en fun n=>rm a0 n 0)))
def vp (a0:List UInt8):Option Bool:=
 (th a0).bind fun aG=>some (aG&&(!(a0==([116,97,117]:List UInt8))))
def vq (kn:(List (List UInt8))→Int→Int→Option ((List (List UInt8)))) (a0:List UInt8) (ah:UInt8) (rn:List (List UInt8)) (rp:Int) (rq:Int):Option ((List (List UInt8))):=
 kn rn rp (IntKind.i64.wrap (rq+1))
def vr (kn:(List (List UInt8))→Int→Int→Option ((List (List UInt8)))) (a0:List UInt8) (ah:UInt8) (hT:List (List UInt8)) (gB:Int) (hC:Int):Option ((List (List UInt8))):=
 cond (decide (hC<(a0.length:Int))) ((cF a0 hC).bind fun aG=>cond ((aG.toNat:Int)==(ah.toNat:Int)) ((ej a0 gB hC).bind fun aU=>(room 16 (hT.length+1)).bind fun _=>vq kn a0 ah (hT++[aU]) (IntKind.i64.wrap (hC+1)) hC) (vq kn a0 ah hT gB hC)) ((ej a0 gB (a0.length:Int)).bind fun aY=>(room 16 (hT.length+1)).bind fun _=>some (hT++[aY]))
def oD (a0:List UInt8) (ah:UInt8):Nat→(List (List UInt8))→Int→Int→Option ((List (List UInt8)))
 |0,_,_,_=>none
 |n+1,hT,gB,hC=>vr (oD a0 ah n) a0 ah hT gB hC
def vt (a0:List UInt8) (ah:UInt8):Option ((List (List UInt8))):=
 en fun n=>oD a0 ah n [] 0 0
def ti (lU:Int):Option (Int×Bool):=
 some (lU,true)
def tj (LG:Int→Int→Option (Int×Bool)) (a0:List UInt8) (fY:Int) (gO:Int) (hU:Int):Option (Int×Bool):=
 cond (decide (hU<(a0.length:Int))) ((cF a0 hU).bind fun bE=>(rl bE).bind fun cc=>cond (!cc) (some (0,false)) (LG (IntKind.i64.wrap ((IntKind.i64.wrap (10*gO))+(IntKind.i64.wrap (IntKind.u8.wrap ((bE.toNat:Int)-48))))) (IntKind.i64.wrap (hU+1)))) (cond (fY==1) (ti (IntKind.i64.wrap (0-gO))) (ti gO))
def lV (a0:List UInt8) (fY:Int):Nat→Int→Int→Option (Int×Bool)
 |0,_,_=>none
 |n+1,gO,hU=>tj (lV a0 fY n) a0 fY gO hU
def rr (a0:List UInt8) (fY:Int):Option (Int×Bool):=
 cond ((a0.length:Int)==fY) (some (0,false)) (cond (decide (18<(IntKind.i64.wrap ((a0.length:Int)-fY)))) (some (0,false)) ((cF a0 fY).bind fun aG=>cond ((aG.toNat:Int)==48) (cond (decide (1<(a0.length:Int))) (some (0,false)) (en fun n=>lV a0 fY n 0 fY)) (en fun n=>lV a0 fY n 0 fY)))
def vu (a0:List UInt8):Option (Int×Bool):=
 cond (decide (0<(a0.length:Int))) ((cF a0 0).bind fun cK=>cond ((cK.toNat:Int)==45) (rr a0 1) (rr a0 0)) (rr a0 0)
def tk (a0:Int) (ah:Int) (a2:Int):Option Bool:=
 some ((decide (ah≤a0))&&(decide (a0≤a2)))
def vv (LH:(List Int)→Int→Option ((List Int)×Bool)) (dm:(List (List UInt8))) (h9:List Int) (jF:Int):Option ((List Int)×Bool):=
 cond (decide (jF<(dm.length:Int))) ((cF dm jF).bind fun hl=>(vu hl).bind fun eE=>cond (!eE.2) (some ([],false)) ((tk eE.1 0 63).bind fun fP=>cond (!fP) (some ([],false)) ((room 8 (h9.length+1)).bind fun _=>LH (h9++[eE.1]) (IntKind.i64.wrap (jF+1))))) (some (h9,(decide ((h9.length:Int)≤2))))
def oE (dm:(List (List UInt8))):Nat→(List Int)→Int→Option ((List Int)×Bool)
 |0,_,_=>none
 |n+1,h9,jF=>vv (oE dm n) dm h9 jF
def tl (a0:List UInt8):Option ((List Int)×Bool):=
 (rk a0).bind fun aG=>cond (aG==(a0.length:Int)) ((th a0).bind fun aU=>some ([],aU)) ((ej a0 0 aG).bind fun aY=>(vp aY).bind fun bE=>cond (!bE) (some ([],false)) ((cF a0 (IntKind.i64.wrap ((a0.length:Int)-1))).bind fun cc=>cond ((cc.toNat:Int) !=41) (some ([],false)) ((ej a0 (IntKind.i64.wrap (aG+1)) (IntKind.i64.wrap ((a0.length:Int)-1))).bind fun cK=>(vt cK (44:UInt8)).bind fun dm=>en fun n=>oE dm n [] 0)))
def mE (a0:List UInt8):Option Bool:=
 (tl a0).bind fun aG=>some aG.2
def vw (LI:Int→Option Int) (ah:List Int) (lb:Int):Option Int:=
 cond (decide (lb<(ah.length:Int))) ((cF ah lb).bind fun aY=>(tk aY 0 3).bind fun bE=>cond (!bE) (some 7) (LI (IntKind.i64.wrap (lb+1)))) (some 0)
def pO (ah:List Int):Nat→Int→Option Int
 |0,_=>none
 |n+1,lb=>vw (pO ah n) ah lb
def vx (oC:Int→Option Int) (a0:List (List UInt8)) (ah:List Int) (eb:Int):Option Int:=
 cond (decide (eb<(a0.length:Int))) ((cF a0 eb).bind fun aG=>(mE aG).bind fun aU=>cond (!aU) (some 2) (oC (IntKind.i64.wrap (eb+1)))) (cond (decide (200<(ah.length:Int))) (some 7) (en fun n=>pO ah n 0))
def pP (a0:List (List UInt8)) (ah:List Int):Nat→Int→Option Int
 |0,_=>none
 |n+1,eb=>vx (pP a0 ah n) a0 ah eb
def vy (a0:List (List UInt8)) (ah:List Int):Option Int:=
 cond (decide (60<(a0.length:Int))) (some 2) (en fun n=>pP a0 ah n 0)
def tm (a0:Int) (ah:Int):Option Int:=
 cond (decide (ah<a0)) (some a0) (some ah)
def vz (dM:Int) (eu:Int) (dN:Int) (ei:Int) (ld:Int) (ru:Int):Option (Int×Int×Int×Int×Int×Int):=
 some (dM,eu,ru,dN,ei,ru)
def pQ (dM:Int) (eu:Int) (ed:Int) (dN:Int) (ei:Int) (ld:Int) (ah:Int):Option (Int×Int×Int×Int×Int×Int):=
 cond (ah==ed) (vz dM eu dN ei ld (IntKind.i64.wrap (ed+1))) (vz dM eu dN ei ld ed)
def vA (a2:Int) (j8:Int) (j9:Int) (j_:Int) (ka:Int) (kA:Int) (h_:Int) (tn:Bool):Option (Int×Int×Int×Int×Int×Int):=
 cond tn ((tm j9 h_).bind fun aG=>some (j8,aG,j_,ka,kA,h_)) (cond (a2==3) (some (j8,j9,j_,ka,h_,h_)) (some (j8,j9,j_,ka,kA,h_)))
def oF (a2:Int) (j8:Int) (j9:Int) (j_:Int) (ka:Int) (kA:Int) (h_:Int):Option (Int×Int×Int×Int×Int×Int):=
 cond (decide (h_<0)) (some (j8,j9,j_,ka,kA,h_)) (cond (a2==0) (vA a2 j8 j9 j_ ka kA h_ true) (vA a2 j8 j9 j_ ka kA h_ (a2==2)))
def tp (ah:Int) (a2:Int) (iL:Int) (fF:Int) (jG:Int) (kB:Int) (jH:Int) (jI:Int):Option (Int×Int×Int×Int×Int×Int):=
 cond (decide (fF<iL)) (cond (ah==0) ((pQ iL fF jG kB jH jI fF).bind fun aU=>oF a2 aU.1 aU.2.1 aU.2.2.1 aU.2.2.2.1 aU.2.2.2.2.1 aU.2.2.2.2.2) (cond (ah==2) ((pQ iL fF jG kB jH jI fF).bind fun aY=>(pQ aY.1 aY.2.1 aY.2.2.1 aY.2.2.2.1 aY.2.2.2.2.1 aY.2.2.2.2.2 fF).bind fun bE=>oF a2 bE.1 bE.2.1 bE.2.2.1 bE.2.2.2.1 bE.2.2.2.2.1 bE.2.2.2.2.2) (cond (ah==3) (oF a2 iL fF jG fF jH jI) (oF a2 iL fF jG kB jH jI)))) (oF a2 iL fF jG kB jH jI)
def tq (ah:Int) (a2:Int) (dM:Int) (ed:Int) (dN:Int) (oG:Int):Option (Int×Int×Int×Int×Int×Int):=
 cond (decide (0≤dN)) ((pQ dM oG ed (-1) (-1) (-1) dN).bind fun cc=>tp ah a2 cc.1 cc.2.1 cc.2.2.1 cc.2.2.2.1 cc.2.2.2.2.1 cc.2.2.2.2.2) (tp ah a2 dM oG ed (-1) (-1) (-1))
def tr (dM:Int) (eu:Int) (ed:Int) (dN:Int) (ei:Int) (ld:Int) (ah:Int) (a2:Int):Option (Int×Int×Int×Int×Int×Int):=
 cond (decide (0≤ei)) ((tm eu ei).bind fun cK=>tq ah a2 dM ed dN cK) (tq ah a2 dM ed dN eu)
def y7 (a0:Int) (ah:List Int) (rv:Int) (ry:Int) (rz:Int) (rA:Int) (rB:Int) (rC:Int) (rD:Int) (vB:Int):Option (Int×Int×Int×Int×Int×Int×Int):=
 some (rv,ry,rz,rA,rB,rC,rD)
def ts (rh:Int→Int→Int→Int→Int→Int→Int→Int→Option (Int×Int×Int×Int×Int×Int×Int)) (a0:Int) (ah:List Int) (rE:Int) (rF:Int) (rG:Int) (rH:Int) (rI:Int) (rJ:Int) (rK:Int) (rL:Int):Option (Int×Int×Int×Int×Int×Int×Int):=
 rh rE rF rG rH rI rJ rK (IntKind.i64.wrap (rL+1))
def tt (rh:Int→Int→Int→Int→Int→Int→Int→Int→Option (Int×Int×Int×Int×Int×Int×Int)) (a0:Int) (ah:List Int) (jJ:Int) (ia:Int) (jK:Int) (ib:Int) (iM:Int) (jL:Int) (hD:Int) (gC:Int):Option (Int×Int×Int×Int×Int×Int×Int):=
 cond (decide ((IntKind.i64.wrap ((IntKind.i64.wrap (2*gC))+1))<(ah.length:Int))) (cond (((ia==a0)&&(decide (ib<0)))&&(decide (iM<0))) (y7 a0 ah jJ ia jK ib iM jL hD gC) ((cF ah (IntKind.i64.wrap (2*gC))).bind fun aG=>(cF ah (IntKind.i64.wrap ((IntKind.i64.wrap (2*gC))+1))).bind fun aU=>(tr jJ ia jK ib iM jL aG aU).bind fun aY=>cond ((decide (hD<0))&&(aY.2.1==a0)) (ts rh a0 ah aY.1 aY.2.1 aY.2.2.1 aY.2.2.2.1 aY.2.2.2.2.1 aY.2.2.2.2.2 (IntKind.i64.wrap (gC+1)) gC) (ts rh a0 ah aY.1 aY.2.1 aY.2.2.1 aY.2.2.2.1 aY.2.2.2.2.1 aY.2.2.2.2.2 hD gC))) (y7 a0 ah jJ ia jK ib iM jL hD gC)
def lW (a0:Int) (ah:List Int):Nat→Int→Int→Int→Int→Int→Int→Int→Int→Option (Int×Int×Int×Int×Int×Int×Int)
 |0,_,_,_,_,_,_,_,_=>none
 |n+1,jJ,ia,jK,ib,iM,jL,hD,gC=>tt (lW a0 ah n) a0 ah jJ ia jK ib iM jL hD gC
def tu (a0:Int) (ah:List Int) (rM:Int):Option (Int×Int×Int×Int×Int×Int×Int):=
 en fun n=>lW a0 ah n a0 0 0 (-1) (-1) (-1) rM 0
def tv (a0:Int) (ah:List Int):Option (Int×Int×Int×Int×Int×Int×Int):=
 cond (a0==0) (tu a0 ah 0) (tu a0 ah (-1))
def vC (a0:List (List UInt8)) (ah:List Int):Option (Int×Int):=
 (vy a0 ah).bind fun aG=>cond (aG !=0) (some (0,aG)) ((tv (a0.length:Int) ah).bind fun aU=>cond (decide (aU.2.2.2.2.2.2<0)) (some (0,3)) (some (aU.2.2.2.2.2.2,0)))
def lX:List UInt8→UInt8→Int
 |[],_=> -1
 |b::l,c=>if b==c then 0 else if lX l c== -1 then-1 else lX l c+1
def y8 (a0:List UInt8) (ah:UInt8):Option Int:=some (lX a0 ah)
def y9 (a0:List UInt8) (ah:UInt8):Option Int:=
 (y8 a0 ah).bind fun aG=>some aG
def nD (a0:List UInt8) (ah:List UInt8):Option Int:=
 cond (((ah.length:Int)==0)||(ah==a0)) (some 0) (cond ((ah.length:Int)==1) ((cF ah 0).bind fun aG=>(y9 a0 aG).bind fun aU=>some aU) (cond (decide ((a0.length:Int)≤(ah.length:Int))) (some (-1)) (none)))
def vD (a0:List UInt8) (ah:List UInt8):Option ((List UInt8)×(List UInt8)×Bool):=
 (nD a0 ah).bind fun aG=>cond (decide (0≤aG)) ((ej a0 0 aG).bind fun aU=>(ej a0 (IntKind.i64.wrap (aG+(ah.length:Int))) (a0.length:Int)).bind fun aY=>some (aU,aY,true)) (some (a0,([]:List UInt8),false))
def rN (a0:List UInt8) (ah:List UInt8):Option ((List UInt8)×(List UInt8)×Bool):=
 (vD a0 ah).bind fun aG=>some (aG.1,aG.2.1,aG.2.2)
def vE (a0:List UInt8) (ah:List UInt8):Option Bool:=
 cond (decide ((ah.length:Int)≤(a0.length:Int))) ((ej a0 (IntKind.i64.wrap ((a0.length:Int)-(ah.length:Int))) (a0.length:Int)).bind fun aG=>some (aG==ah)) (some false)
def vF (a0:List UInt8) (ah:List UInt8):Option ((List UInt8)):=
 (vE a0 ah).bind fun aG=>cond aG ((ej a0 0 (IntKind.i64.wrap ((a0.length:Int)-(ah.length:Int)))).bind fun aU=>some aU) (some a0)
def strings_TrimSuffix (a0:List UInt8) (ah:List UInt8):Option ((List UInt8)):=
 (vF a0 ah).bind fun aG=>some aG
def y_ (a0:List UInt8) (ah:UInt8):Option Int:=some (a0.count ah:Nat)
def tw (a0:List UInt8) (ah:List UInt8):Option Int:=
 (nD a0 ah).bind fun aG=>some aG
def Eb (LJ:(List UInt8)→Int→Option Int) (ah:List UInt8) (lf:List UInt8) (lg:Int):Option Int:=
 (tw lf ah).bind fun aY=>cond (aY==(-1)) (some lg) ((ej lf (IntKind.i64.wrap (aY+(ah.length:Int))) (lf.length:Int)).bind fun bE=>LJ bE (IntKind.i64.wrap (lg+1)))
def vG (ah:List UInt8):Nat→(List UInt8)→Int→Option Int
 |0,_,_=>none
 |n+1,lf,lg=>Eb (vG ah n) ah lf lg
def za (a0:List UInt8) (ah:List UInt8):Option Int:=
 cond ((ah.length:Int)==0) (none) (cond ((ah.length:Int)==1) ((cF ah 0).bind fun aG=>(y_ a0 aG).bind fun aU=>some aU) (en fun n=>vG ah n a0 0))
def tx (a0:List UInt8) (ah:List UInt8) (a2:Int) (e8:Int) (rO:List UInt8) (pR:List (List UInt8)) (nE:Int):Option ((List (List UInt8))):=
 (cF pR nE).bind fun aG=>(ej (List.set pR (Int.toNat nE) rO) 0 (IntKind.i64.wrap (nE+1))).bind fun aU=>some aU
def vH (LK:(List UInt8)→(List (List UInt8))→Int→Option ((List (List UInt8)))) (a0:List UInt8) (ah:List UInt8) (a2:Int) (e8:Int) (ic:List UInt8) (hE:List (List UInt8)) (fZ:Int):Option ((List (List UInt8))):=
 cond (decide (fZ<(IntKind.i64.wrap ((eo false e8 (IntKind.i64.wrap ((a0.length:Int)+1)))-1)))) ((tw ic ah).bind fun aY=>cond (decide (aY<0)) (tx a0 ah a2 e8 ic hE fZ) ((ej ic 0 (IntKind.i64.wrap (aY+a2))).bind fun bE=>(cF hE fZ).bind fun cc=>(ej ic (IntKind.i64.wrap (aY+(ah.length:Int))) (ic.length:Int)).bind fun cK=>LK cK (List.set hE (Int.toNat fZ) bE) (IntKind.i64.wrap (fZ+1)))) (tx a0 ah a2 e8 ic hE fZ)
def oH (a0:List UInt8) (ah:List UInt8) (a2:Int) (e8:Int):Nat→(List UInt8)→(List (List UInt8))→Int→Option ((List (List UInt8)))
 |0,_,_,_=>none
 |n+1,ic,hE,fZ=>vH (oH a0 ah a2 e8 n) a0 ah a2 e8 ic hE fZ
def vI (a0:List UInt8) (ah:List UInt8) (a2:Int) (e8:Int):Option ((List (List UInt8))):=
 (l3 16 (eo false e8 (IntKind.i64.wrap ((a0.length:Int)+1)))).bind fun _=>en fun n=>oH a0 ah a2 e8 n a0 (List.replicate (Int.toNat (eo false e8 (IntKind.i64.wrap ((a0.length:Int)+1)))) ([]:List UInt8)) 0
def zb (a0:List UInt8) (ah:List UInt8) (a2:Int) (a3:Int):Option ((List (List UInt8))):=
 cond (a3==0) (some []) (cond (ah==([]:List UInt8)) (none) (cond (decide (a3<0)) ((za a0 ah).bind fun dm=>vI a0 ah a2 (IntKind.i64.wrap (dm+1))) (vI a0 ah a2 a3)))
def vJ (a0:List UInt8) (ah:List UInt8):Option ((List (List UInt8))):=
 (zb a0 ah 0 (-1)).bind fun aG=>some aG
def dv (c:UInt8):Bool:=decide (48≤c.toNat)&&decide (c.toNat≤57)
def fQ (d:List UInt8):Nat:=d.foldl (fun n c=>10*n+(c.toNat-48)) 0
def jb (k:Nat) (d:List UInt8):Int×Bool:=if d≠[]∧d.length≤18∧d.all dv=true∧¬(d.head? =some 48∧1<d.length+k)then(if k=1 then-(fQ d:Int)else fQ d,true)else(0,false)
def fu (s:List UInt8):Int×Bool:=if s.head? =some 45 then jb 1 s.tail else jb 0 s
def vK (a0:List UInt8):Option (Int×Bool):=some (fu a0)
def vL (gH:(List Int)→Int→Option ((List Int)×Bool)) (a0:List (List UInt8)) (c1:List Int) (kb:Int):Option ((List Int)×Bool):=
 cond (decide (kb<(a0.length:Int))) ((cF a0 kb).bind fun aG=>(vK aG).bind fun aU=>cond (!aU.2) (some ([],false)) ((room 8 (c1.length+1)).bind fun _=>gH (c1++[aU.1]) (IntKind.i64.wrap (kb+1)))) (some (c1,true))
def pS (a0:List (List UInt8)):Nat→(List Int)→Int→Option ((List Int)×Bool)
 |0,_,_=>none
 |n+1,c1,kb=>vL (pS a0 n) a0 c1 kb
def vM (a0:List (List UInt8)):Option ((List Int)×Bool):=
 en fun n=>pS a0 n [] 0
def zc (a0:UInt8):Option Bool:=
 some ((decide (48≤(a0.toNat:Int)))&&(decide ((a0.toNat:Int)≤57)))
def tz (eH:Int→Option Bool) (a0:List UInt8) (ie:Int):Option Bool:=
 cond (decide (ie<(a0.length:Int))) ((cF a0 ie).bind fun aG=>cond (!((decide (97≤(aG.toNat:Int)))&&(decide ((aG.toNat:Int)≤122)))) (cond (ie==0) (some false) ((zc aG).bind fun aU=>cond (!aU) (some false) (eH (IntKind.i64.wrap (ie+1))))) (eH (IntKind.i64.wrap (ie+1)))) (some ((decide (1≤(a0.length:Int)))&&(decide ((a0.length:Int)≤10))))
def nF (a0:List UInt8):Nat→Int→Option Bool
 |0,_=>none
 |n+1,ie=>tz (nF a0 n) a0 ie
def vN (a0:List UInt8):Option Bool:=
 en fun n=>nF a0 n 0
def vO (a0:List UInt8):Option Bool:=
 (vN a0).bind fun aG=>some (aG&&(!(a0==([116,97,117]:List UInt8))))
def tA (a0:Int) (ah:Int) (a2:Int):Option Bool:=
 some ((decide (ah≤a0))&&(decide (a0≤a2)))
def zd (a0:Int):Option Bool:=
 (tA a0 0 63).bind fun aG=>some aG
def ze (a0:Int):Option Bool:=
 (zd a0).bind fun aG=>some (!aG)
def vP (eH:Int→Option Int) (a0:List Int) (dO:Int):Option Int:=
 cond (decide (dO<(a0.length:Int))) ((cF a0 dO).bind fun aG=>(ze aG).bind fun aU=>cond aU (some dO) (eH (IntKind.i64.wrap (dO+1)))) (some (-1))
def pT (a0:List Int):Nat→Int→Option Int
 |0,_=>none
 |n+1,dO=>vP (pT a0 n) a0 dO
def zf (a0:List Int):Option Int:=
 en fun n=>pT a0 n 0
def zg (a0:List Int):Option Bool:=
 (zf a0).bind fun aG=>some (decide (0≤aG))
def vQ (a0:List Int):Option Bool:=
 (zg a0).bind fun aG=>some (!aG)
def tB (a0 ah:Int):Option (List UInt8):=if 0≤a0∧a0<100∧ah=10 then some (lp a0.toNat)else none
def tC (a0:Int):Option ((List UInt8)):=
 (tB a0 10).bind fun aG=>some aG
def strings_Join (a0:List (List UInt8)) (ah:List UInt8):Option (List UInt8):=if a0.length≤140737488355328∧(hq a0 ah).length≤140737488355328 then some (hq a0 ah)else none
def vR (gH:(List (List UInt8))→Int→Option ((List UInt8))) (a0:List Int) (ah:List UInt8) (jM:List (List UInt8)) (hV:Int):Option ((List UInt8)):=
 cond (decide (hV<(a0.length:Int))) ((cF a0 hV).bind fun aG=>(tC aG).bind fun aU=>(cF jM hV).bind fun aY=>gH (List.set jM (Int.toNat hV) aU) (IntKind.i64.wrap (hV+1))) ((strings_Join jM ah).bind fun bE=>some bE)
def pU (a0:List Int) (ah:List UInt8):Nat→(List (List UInt8))→Int→Option ((List UInt8))
 |0,_,_=>none
 |n+1,jM,hV=>vR (pU a0 ah n) a0 ah jM hV
def vS (a0:List Int) (ah:List UInt8):Option ((List UInt8)):=
 (l3 16 (a0.length:Int)).bind fun _=>en fun n=>pU a0 ah n (List.replicate (Int.toNat (a0.length:Int)) ([]:List UInt8)) 0
def vT (a0:List UInt8) (ah:List Int):Option ((List UInt8)×Bool):=
 cond (a0==([116,97,117]:List UInt8)) (some (([116,97,117]:List UInt8),((ah.length:Int)==0))) ((vO a0).bind fun aU=>cond (!aU) (some (([]:List UInt8),false)) (cond (decide (2<(ah.length:Int))) (some (([]:List UInt8),false)) ((vQ ah).bind fun aY=>cond (!aY) (some (([]:List UInt8),false)) (cond ((ah.length:Int)==0) (some (a0,true)) ((oX (a0.length+1)).bind fun _=>(vS ah ([44]:List UInt8)).bind fun bE=>(oX ((a0++([40]:List UInt8)).length+bE.length)).bind fun _=>(oX (((a0++([40]:List UInt8))++bE).length+1)).bind fun _=>some ((((a0++([40]:List UInt8))++bE)++([41]:List UInt8)),true))))))
def tD (a0:List UInt8) (aG:(List UInt8)×(List UInt8)×Bool) (mF:List Int):Option ((List UInt8)×(List Int)×Bool):=
 (vT aG.1 mF).bind fun aU=>cond ((!aU.2)||(!(aU.1==a0))) (some (([]:List UInt8),[],false)) (some (aG.1,mF,true))
def vU (a0:List UInt8):Option ((List UInt8)×(List Int)×Bool):=
 (rN a0 ([40]:List UInt8)).bind fun aG=>cond aG.2.2 ((strings_TrimSuffix aG.2.1 ([41]:List UInt8)).bind fun aY=>(vJ aY ([44]:List UInt8)).bind fun bE=>(vM bE).bind fun cc=>cond (!cc.2) (some (([]:List UInt8),[],false)) (tD a0 aG cc.1)) (tD a0 aG [])
def pV (a0:List UInt8):Option Bool:=
 (vU a0).bind fun aG=>some aG.2.2
def zh (a0:List UInt8):Option Bool:=
 (pV a0).bind fun aG=>some (!aG)
def vV (eH:Int→Option Int) (a0:List (List UInt8)) (dO:Int):Option Int:=
 cond (decide (dO<(a0.length:Int))) ((cF a0 dO).bind fun aG=>(zh aG).bind fun aU=>cond aU (some dO) (eH (IntKind.i64.wrap (dO+1)))) (some (-1))
def pW (a0:List (List UInt8)):Nat→Int→Option Int
 |0,_=>none
 |n+1,dO=>vV (pW a0 n) a0 dO
def zi (a0:List (List UInt8)):Option Int:=
 en fun n=>pW a0 n 0
def zj (a0:List (List UInt8)):Option Bool:=
 (zi a0).bind fun aG=>some (decide (0≤aG))
def vW (a0:List (List UInt8)):Option Bool:=
 (zj a0).bind fun aG=>some (!aG)
def zk (a0:Int):Option Bool:=
 (tA a0 0 3).bind fun aG=>some (!aG)
def vX (eH:Int→Option Int) (a0:List Int) (dO:Int):Option Int:=
 cond (decide (dO<(a0.length:Int))) ((cF a0 dO).bind fun aG=>(zk aG).bind fun aU=>cond aU (some dO) (eH (IntKind.i64.wrap (dO+1)))) (some (-1))
def pX (a0:List Int):Nat→Int→Option Int
 |0,_=>none
 |n+1,dO=>vX (pX a0 n) a0 dO
def zl (a0:List Int):Option Int:=
 en fun n=>pX a0 n 0
def vY (a0:List Int):Option Bool:=
 (zl a0).bind fun aG=>some (decide (0≤aG))
def vZ (a0:List (List UInt8)) (ah:List Int):Option Int:=
 cond (decide (60<(a0.length:Int))) (some 2) ((vW a0).bind fun aG=>cond (!aG) (some 2) (cond (decide (200<(ah.length:Int))) (some 7) ((vY ah).bind fun aU=>cond aU (some 7) (some 0))))
def tE (dM:Int) (eu:Int) (ed:Int) (dN:Int) (ei:Int) (ah:Int):Option (Int×Int×Int×Int×Int):=
 some (dM,(eo true eu ah),ed,dN,ei)
def v7 (dM:Int) (eu:Int) (dN:Int) (ei:Int) (pY:Int):Option (Int×Int×Int×Int×Int×Int):=
 some (pY,dM,eu,pY,dN,ei)
def pZ (dM:Int) (eu:Int) (ed:Int) (dN:Int) (ei:Int) (ah:Int):Option (Int×Int×Int×Int×Int×Int):=
 cond (ah==ed) (v7 dM eu dN ei (IntKind.i64.wrap (ed+1))) (v7 dM eu dN ei ed)
def oI (a2:Int) (nG:Int) (nH:Int) (nI:Int) (nJ:Int) (oJ:Int) (nK:Int):Option (Int×Int×Int×Int×Int):=
 cond (decide (nK<0)) (some (nG,nH,nI,nJ,oJ)) (cond (a2==3) (some (nG,nH,nI,nJ,nK)) (cond (a2 !=1) ((tE nG nH nI nJ oJ nK).bind fun aU=>some (aU.1,aU.2.1,aU.2.2.1,aU.2.2.2.1,aU.2.2.2.2)) (some (nG,nH,nI,nJ,oJ))))
def nL (ah:Int) (a2:Int) (iN:Int) (fG:Int) (jN:Int) (v8:Int) (v_:Int) (gB:Int):Option (Int×Int×Int×Int×Int):=
 cond (decide (fG<iN)) (cond (ah==0) ((pZ iN fG jN (-1) (-1) fG).bind fun aY=>oI a2 aY.2.1 aY.2.2.1 aY.2.2.2.1 aY.2.2.2.2.1 aY.2.2.2.2.2 aY.1) (cond (ah==2) ((pZ iN fG jN (-1) (-1) fG).bind fun bE=>(pZ bE.2.1 bE.2.2.1 bE.2.2.2.1 bE.2.2.2.2.1 bE.2.2.2.2.2 fG).bind fun cc=>oI a2 cc.2.1 cc.2.2.1 cc.2.2.2.1 cc.2.2.2.2.1 cc.2.2.2.2.2 cc.1) (cond (ah==3) (oI a2 iN fG jN fG (-1) gB) (oI a2 iN fG jN (-1) (-1) gB)))) (oI a2 iN fG jN (-1) (-1) gB)
def wa (dM:Int) (eu:Int) (ed:Int) (dN:Int) (ei:Int) (ah:Int) (a2:Int):Option (Int×Int×Int×Int×Int):=
 (tE dM eu ed dN ei ei).bind fun aG=>cond (decide (0≤aG.2.2.2.1)) ((pZ aG.1 aG.2.1 aG.2.2.1 aG.2.2.2.1 aG.2.2.2.2 aG.2.2.2.1).bind fun cK=>nL ah a2 cK.2.1 cK.2.2.1 cK.2.2.2.1 cK.2.2.2.2.1 cK.2.2.2.2.2 cK.1) (nL ah a2 aG.1 aG.2.1 aG.2.2.1 aG.2.2.2.1 aG.2.2.2.2 (-1))
def kC (hz:Int→Int→Int→Int→Int→Int→Int→Option (Int×Int×Int×Int×Int×Int)) (ah:List Int) (oK:Int) (oL:Int) (oM:Int) (oN:Int) (oO:Int) (nM:Int) (mG:Int):Option (Int×Int×Int×Int×Int×Int):=
 cond (decide ((ah.length:Int)≤(IntKind.i64.wrap ((IntKind.i64.wrap (2*mG))+1)))) (some (oK,oL,oM,oN,oO,nM)) ((cF ah (IntKind.i64.wrap (2*mG))).bind fun aG=>(cF ah (IntKind.i64.wrap ((IntKind.i64.wrap (2*mG))+1))).bind fun aU=>(wa oK oL oM oN oO aG aU).bind fun aY=>hz aY.1 aY.2.1 aY.2.2.1 aY.2.2.2.1 aY.2.2.2.2 nM (IntKind.i64.wrap (mG+1)))
def p0 (hz:Int→Int→Int→Int→Int→Int→Int→Option (Int×Int×Int×Int×Int×Int)) (ah:List Int) (jO:Int) (jP:Int) (kD:Int) (kE:Int) (kF:Int) (kc:Int) (jQ:Int):Option (Int×Int×Int×Int×Int×Int):=
 cond ((decide (kc<0))&&(jP==jO)) (kC hz ah jO jP kD kE kF jQ jQ) (kC hz ah jO jP kD kE kF kc jQ)
def ig (ah:List Int):Nat→Int→Int→Int→Int→Int→Int→Int→Option (Int×Int×Int×Int×Int×Int)
 |0,_,_,_,_,_,_,_=>none
 |n+1,jO,jP,kD,kE,kF,kc,jQ=>p0 (ig ah n) ah jO jP kD kE kF kc jQ
def wb (a0:List (List UInt8)) (ah:List Int):Option (Int×Int×Int×Int×Int×Int):=
 en fun n=>ig ah n (a0.length:Int) 0 0 (-1) (-1) (-1) 0
def wc (a0:List (List UInt8)) (ah:List Int):Option (Int×Int):=
 (vZ a0 ah).bind fun aG=>cond (aG !=0) (some (0,aG)) ((wb a0 ah).bind fun aU=>cond (decide (aU.2.2.2.2.2<0)) (some (0,3)) (some (aU.2.2.2.2.2,0)))
def Ec (oC:Int→Option Bool) (a0:List (List UInt8)) (ah:List (List UInt8)) (eb:Int):Option Bool:=
 cond (decide (eb<(a0.length:Int))) ((cF a0 eb).bind fun aG=>(cF ah eb).bind fun aU=>cond (!(aG==aU)) (some false) (oC (IntKind.i64.wrap (eb+1)))) (some true)
def we (a0:List (List UInt8)) (ah:List (List UInt8)):Nat→Int→Option Bool
 |0,_=>none
 |n+1,eb=>Ec (we a0 ah n) a0 ah eb
def wg (a0:List (List UInt8)) (ah:List (List UInt8)):Option Bool:=
 cond ((a0.length:Int) !=(ah.length:Int)) (some false) (en fun n=>we a0 ah n 0)
def Ed (oC:Int→Option Bool) (a0:List Int) (ah:List Int) (eb:Int):Option Bool:=
 cond (decide (eb<(a0.length:Int))) ((cF a0 eb).bind fun aG=>(cF ah eb).bind fun aU=>cond (aG !=aU) (some false) (oC (IntKind.i64.wrap (eb+1)))) (some true)
def wh (a0:List Int) (ah:List Int):Nat→Int→Option Bool
 |0,_=>none
 |n+1,eb=>Ed (wh a0 ah n) a0 ah eb
def wi (a0:List Int) (ah:List Int):Option Bool:=
 cond ((a0.length:Int) !=(ah.length:Int)) (some false) (en fun n=>wh a0 ah n 0)
def zm (a0:List (List UInt8)) (ah:List Int):Option Bool:=
 cond (decide (1048576<(ah.length:Int))) (some true) ((vk a0 1048576).bind fun aG=>cond (decide (aG<0)) (some true) ((ri a0).bind fun aU=>(rj ah).bind fun aY=>(vC aU aY).bind fun bE=>(ri a0).bind fun cc=>(rj ah).bind fun cK=>(wc cc cK).bind fun dm=>cond ((dm.1 !=bE.1)||(dm.2 !=bE.2)) (some false) ((ri a0).bind fun hl=>(wg cc hl).bind fun eE=>cond (!eE) (some false) ((rj ah).bind fun fP=>(wi cK fP).bind fun mH=>cond (!mH) (some false) (some true)))))
end
end Go.e3
