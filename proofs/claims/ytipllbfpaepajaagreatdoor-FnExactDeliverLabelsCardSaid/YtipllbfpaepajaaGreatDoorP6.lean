/- Part of a proof that a law returns true for every input. No condition. -/
import Derived.Test.YtipllbfpaepajaaGreatDoorFwA
namespace Go.ff
open Go Go.ca
set_option linter.unusedVariables false
noncomputable section
def EZ (rR:Int→Int→Option Int) (a0:List (List UInt8)) (ld:Int) (lT:Int):Option Int:=
 cond (decide (lT<(a0.length:Int))) ((cD a0 lT).bind fun aI=>cond (decide ((IntKind.i64.wrap (ld-(aI.length:Int)))<0)) (some (-1)) (rR (IntKind.i64.wrap (ld-(aI.length:Int))) (IntKind.i64.wrap (lT+1)))) (some ld)
def vY (a0:List (List UInt8)):Nat→Int→Int→Option Int
 |0,_,_=>none
 |n+1,ld,lT=>EZ (vY a0 n) a0 ld lT
def vZ (a0:List (List UInt8)) (ah:Int):Option Int:=
 cond (decide ((IntKind.i64.wrap (ah-(a0.length:Int)))<0)) (some (-1)) (dG fun n=>vY a0 n (IntKind.i64.wrap (ah-(a0.length:Int))) 0)
def E0 (gZ:(List (List UInt8))→Int→Option ((List (List UInt8)))) (a0:List (List UInt8)) (fy:List (List UInt8)) (dc:Int):Option ((List (List UInt8))):=
 cond (decide (dc<(a0.length:Int))) ((cD a0 dc).bind fun aI=>(cD fy dc).bind fun aT=>gZ (List.set fy (Int.toNat dc) aI) (IntKind.i64.wrap (dc+1))) (some fy)
def v7 (a0:List (List UInt8)):Nat→(List (List UInt8))→Int→Option ((List (List UInt8)))
 |0,_,_=>none
 |n+1,fy,dc=>E0 (v7 a0 n) a0 fy dc
def qa (a0:List (List UInt8)):Option ((List (List UInt8))):=
 (mF 16 (a0.length:Int)).bind fun _=>dG fun n=>v7 a0 n (List.replicate (Int.toNat (a0.length:Int)) ([]:List UInt8)) 0
def E1 (gZ:(List Int)→Int→Option ((List Int))) (a0:List Int) (fy:List Int) (dc:Int):Option ((List Int)):=
 cond (decide (dc<(a0.length:Int))) ((cD a0 dc).bind fun aI=>(cD fy dc).bind fun aT=>gZ (List.set fy (Int.toNat dc) aI) (IntKind.i64.wrap (dc+1))) (some fy)
def v8 (a0:List Int):Nat→(List Int)→Int→Option ((List Int))
 |0,_,_=>none
 |n+1,fy,dc=>E1 (v8 a0 n) a0 fy dc
def qb (a0:List Int):Option ((List Int)):=
 (mF 8 (a0.length:Int)).bind fun _=>dG fun n=>v8 a0 n (List.replicate (Int.toNat (a0.length:Int)) 0) 0
def v_ (dZ:Int→Option Int) (a0:List UInt8) (kD:Int):Option Int:=
 cond (decide (kD<(a0.length:Int))) ((cD a0 kD).bind fun aI=>cond ((aI.toNat:Int)==40) (some kD) (dZ (IntKind.i64.wrap (kD+1)))) (some (a0.length:Int))
def n5 (a0:List UInt8):Nat→Int→Option Int
 |0,_=>none
 |n+1,kD=>v_ (n5 a0 n) a0 kD
def rS (a0:List UInt8):Option Int:=
 dG fun n=>n5 a0 n 0
def tO (a0:UInt8):Option Bool:=
 some ((decide (97≤(a0.toNat:Int)))&&(decide ((a0.toNat:Int)≤122)))
def rT (a0:UInt8):Option Bool:=
 some ((decide (48≤(a0.toNat:Int)))&&(decide ((a0.toNat:Int)≤57)))
def wa (nk:Int→Option Bool) (a0:List UInt8) (fg:Int):Option Bool:=
 cond (decide (fg<(a0.length:Int))) ((cD a0 fg).bind fun aZ=>(tO aZ).bind fun a6=>cond (!a6) ((rT aZ).bind fun b5=>cond (!b5) (some false) (nk (IntKind.i64.wrap (fg+1)))) (nk (IntKind.i64.wrap (fg+1)))) (some true)
def rU (a0:List UInt8):Nat→Int→Option Bool
 |0,_=>none
 |n+1,fg=>wa (rU a0 n) a0 fg
def tP (a0:List UInt8):Option Bool:=
 cond (a0==([]:List UInt8)) (some false) (cond (decide (10<(a0.length:Int))) (some false) ((cD a0 0).bind fun aI=>(tO aI).bind fun aT=>cond (!aT) (some false) (dG fun n=>rU a0 n 0)))
def wb (a0:List UInt8):Option Bool:=
 (tP a0).bind fun aI=>some (aI&&(!(a0==([116,97,117]:List UInt8))))
def wc (kT:(List (List UInt8))→Int→Int→Option ((List (List UInt8)))) (a0:List UInt8) (ah:UInt8) (rV:List (List UInt8)) (rW:Int) (rX:Int):Option ((List (List UInt8))):=
 kT rV rW (IntKind.i64.wrap (rX+1))
def we (kT:(List (List UInt8))→Int→Int→Option ((List (List UInt8)))) (a0:List UInt8) (ah:UInt8) (ig:List (List UInt8)) (gW:Int) (hX:Int):Option ((List (List UInt8))):=
 cond (decide (hX<(a0.length:Int))) ((cD a0 hX).bind fun aI=>cond ((aI.toNat:Int)==(ah.toNat:Int)) ((ea a0 gW hX).bind fun aT=>(room 16 (ig.length+1)).bind fun _=>wc kT a0 ah (ig++[aT]) (IntKind.i64.wrap (hX+1)) hX) (wc kT a0 ah ig gW hX)) ((ea a0 gW (a0.length:Int)).bind fun aZ=>(room 16 (ig.length+1)).bind fun _=>some (ig++[aZ]))
def o3 (a0:List UInt8) (ah:UInt8):Nat→(List (List UInt8))→Int→Int→Option ((List (List UInt8)))
 |0,_,_,_=>none
 |n+1,ig,gW,hX=>we (o3 a0 ah n) a0 ah ig gW hX
def wg (a0:List UInt8) (ah:UInt8):Option ((List (List UInt8))):=
 dG fun n=>o3 a0 ah n [] 0 0
def tQ (mw:Int):Option (Int×Bool):=
 some (mw,true)
def tR (MN:Int→Int→Option (Int×Bool)) (a0:List UInt8) (gy:Int) (hd:Int) (ij:Int):Option (Int×Bool):=
 cond (decide (ij<(a0.length:Int))) ((cD a0 ij).bind fun a6=>(rT a6).bind fun b5=>cond (!b5) (some (0,false)) (MN (IntKind.i64.wrap ((IntKind.i64.wrap (10*hd))+(IntKind.i64.wrap (IntKind.u8.wrap ((a6.toNat:Int)-48))))) (IntKind.i64.wrap (ij+1)))) (cond (gy==1) (tQ (IntKind.i64.wrap (0-hd))) (tQ hd))
def mx (a0:List UInt8) (gy:Int):Nat→Int→Int→Option (Int×Bool)
 |0,_,_=>none
 |n+1,hd,ij=>tR (mx a0 gy n) a0 gy hd ij
def rY (a0:List UInt8) (gy:Int):Option (Int×Bool):=
 cond ((a0.length:Int)==gy) (some (0,false)) (cond (decide (18<(IntKind.i64.wrap ((a0.length:Int)-gy)))) (some (0,false)) ((cD a0 gy).bind fun aI=>cond ((aI.toNat:Int)==48) (cond (decide (1<(a0.length:Int))) (some (0,false)) (dG fun n=>mx a0 gy n 0 gy)) (dG fun n=>mx a0 gy n 0 gy)))
def wh (a0:List UInt8):Option (Int×Bool):=
 cond (decide (0<(a0.length:Int))) ((cD a0 0).bind fun cw=>cond ((cw.toNat:Int)==45) (rY a0 1) (rY a0 0)) (rY a0 0)
def tS (a0:Int) (ah:Int) (a2:Int):Option Bool:=
 some ((decide (ah≤a0))&&(decide (a0≤a2)))
def wi (MO:(List Int)→Int→Option ((List Int)×Bool)) (cn:(List (List UInt8))) (iE:List Int) (j5:Int):Option ((List Int)×Bool):=
 cond (decide (j5<(cn.length:Int))) ((cD cn j5).bind fun hf=>(wh hf).bind fun d_=>cond (!d_.2) (some ([],false)) ((tS d_.1 0 63).bind fun fK=>cond (!fK) (some ([],false)) ((room 8 (iE.length+1)).bind fun _=>MO (iE++[d_.1]) (IntKind.i64.wrap (j5+1))))) (some (iE,(decide ((iE.length:Int)≤2))))
def o4 (cn:(List (List UInt8))):Nat→(List Int)→Int→Option ((List Int)×Bool)
 |0,_,_=>none
 |n+1,iE,j5=>wi (o4 cn n) cn iE j5
def tT (a0:List UInt8):Option ((List Int)×Bool):=
 (rS a0).bind fun aI=>cond (aI==(a0.length:Int)) ((tP a0).bind fun aT=>some ([],aT)) ((ea a0 0 aI).bind fun aZ=>(wb aZ).bind fun a6=>cond (!a6) (some ([],false)) ((cD a0 (IntKind.i64.wrap ((a0.length:Int)-1))).bind fun b5=>cond ((b5.toNat:Int) !=41) (some ([],false)) ((ea a0 (IntKind.i64.wrap (aI+1)) (IntKind.i64.wrap ((a0.length:Int)-1))).bind fun cw=>(wg cw (44:UInt8)).bind fun cn=>dG fun n=>o4 cn n [] 0)))
def nm (a0:List UInt8):Option Bool:=
 (tT a0).bind fun aI=>some aI.2
def wj (MP:Int→Option Int) (ah:List Int) (lU:Int):Option Int:=
 cond (decide (lU<(ah.length:Int))) ((cD ah lU).bind fun aZ=>(tS aZ 0 3).bind fun a6=>cond (!a6) (some 7) (MP (IntKind.i64.wrap (lU+1)))) (some 0)
def qc (ah:List Int):Nat→Int→Option Int
 |0,_=>none
 |n+1,lU=>wj (qc ah n) ah lU
def wk (nk:Int→Option Int) (a0:List (List UInt8)) (ah:List Int) (ek:Int):Option Int:=
 cond (decide (ek<(a0.length:Int))) ((cD a0 ek).bind fun aI=>(nm aI).bind fun aT=>cond (!aT) (some 2) (nk (IntKind.i64.wrap (ek+1)))) (cond (decide (200<(ah.length:Int))) (some 7) (dG fun n=>qc ah n 0))
def qd (a0:List (List UInt8)) (ah:List Int):Nat→Int→Option Int
 |0,_=>none
 |n+1,ek=>wk (qd a0 ah n) a0 ah ek
def wm (a0:List (List UInt8)) (ah:List Int):Option Int:=
 cond (decide (60<(a0.length:Int))) (some 2) (dG fun n=>qd a0 ah n 0)
def tU (a0:Int) (ah:Int):Option Int:=
 cond (decide (ah<a0)) (some a0) (some ah)
def wo (dV:Int) (eE:Int) (dW:Int) (et:Int) (lV:Int) (ez:Int):Option (Int×Int×Int×Int×Int×Int):=
 some (dV,eE,ez,dW,et,ez)
def qe (dV:Int) (eE:Int) (el:Int) (dW:Int) (et:Int) (lV:Int) (ah:Int):Option (Int×Int×Int×Int×Int×Int):=
 cond (ah==el) (wo dV eE dW et lV (IntKind.i64.wrap (el+1))) (wo dV eE dW et lV el)
def wq (a2:Int) (kE:Int) (kF:Int) (kG:Int) (kH:Int) (lf:Int) (iF:Int) (tV:Bool):Option (Int×Int×Int×Int×Int×Int):=
 cond tV ((tU kF iF).bind fun aI=>some (kE,aI,kG,kH,lf,iF)) (cond (a2==3) (some (kE,kF,kG,kH,iF,iF)) (some (kE,kF,kG,kH,lf,iF)))
def o5 (a2:Int) (kE:Int) (kF:Int) (kG:Int) (kH:Int) (lf:Int) (iF:Int):Option (Int×Int×Int×Int×Int×Int):=
 cond (decide (iF<0)) (some (kE,kF,kG,kH,lf,iF)) (cond (a2==0) (wq a2 kE kF kG kH lf iF true) (wq a2 kE kF kG kH lf iF (a2==2)))
def tW (ah:Int) (a2:Int) (jh:Int) (fT:Int) (j6:Int) (lg:Int) (j7:Int) (j8:Int):Option (Int×Int×Int×Int×Int×Int):=
 cond (decide (fT<jh)) (cond (ah==0) ((qe jh fT j6 lg j7 j8 fT).bind fun aT=>o5 a2 aT.1 aT.2.1 aT.2.2.1 aT.2.2.2.1 aT.2.2.2.2.1 aT.2.2.2.2.2) (cond (ah==2) ((qe jh fT j6 lg j7 j8 fT).bind fun aZ=>(qe aZ.1 aZ.2.1 aZ.2.2.1 aZ.2.2.2.1 aZ.2.2.2.2.1 aZ.2.2.2.2.2 fT).bind fun a6=>o5 a2 a6.1 a6.2.1 a6.2.2.1 a6.2.2.2.1 a6.2.2.2.2.1 a6.2.2.2.2.2) (cond (ah==3) (o5 a2 jh fT j6 fT j7 j8) (o5 a2 jh fT j6 lg j7 j8)))) (o5 a2 jh fT j6 lg j7 j8)
def tX (ah:Int) (a2:Int) (dV:Int) (el:Int) (dW:Int) (o6:Int):Option (Int×Int×Int×Int×Int×Int):=
 cond (decide (0≤dW)) ((qe dV o6 el (-1) (-1) (-1) dW).bind fun b5=>tW ah a2 b5.1 b5.2.1 b5.2.2.1 b5.2.2.2.1 b5.2.2.2.2.1 b5.2.2.2.2.2) (tW ah a2 dV o6 el (-1) (-1) (-1))
def tY (dV:Int) (eE:Int) (el:Int) (dW:Int) (et:Int) (lV:Int) (ah:Int) (a2:Int):Option (Int×Int×Int×Int×Int×Int):=
 cond (decide (0≤et)) ((tU eE et).bind fun cw=>tX ah a2 dV el dW cw) (tX ah a2 dV el dW eE)
def zN (a0:Int) (ah:List Int) (rZ:Int) (r0:Int) (r1:Int) (r2:Int) (r3:Int) (r4:Int) (r5:Int) (wt:Int):Option (Int×Int×Int×Int×Int×Int×Int):=
 some (rZ,r0,r1,r2,r3,r4,r5)
def tZ (rR:Int→Int→Int→Int→Int→Int→Int→Int→Option (Int×Int×Int×Int×Int×Int×Int)) (a0:Int) (ah:List Int) (r6:Int) (r7:Int) (r8:Int) (r9:Int) (r_:Int) (sa:Int) (sb:Int) (sc:Int):Option (Int×Int×Int×Int×Int×Int×Int):=
 rR r6 r7 r8 r9 r_ sa sb (IntKind.i64.wrap (sc+1))
def t_ (rR:Int→Int→Int→Int→Int→Int→Int→Int→Option (Int×Int×Int×Int×Int×Int×Int)) (a0:Int) (ah:List Int) (j9:Int) (iG:Int) (j_:Int) (iH:Int) (ji:Int) (ka:Int) (hY:Int) (gX:Int):Option (Int×Int×Int×Int×Int×Int×Int):=
 cond (decide ((IntKind.i64.wrap ((IntKind.i64.wrap (2*gX))+1))<(ah.length:Int))) (cond (((iG==a0)&&(decide (iH<0)))&&(decide (ji<0))) (zN a0 ah j9 iG j_ iH ji ka hY gX) ((cD ah (IntKind.i64.wrap (2*gX))).bind fun aI=>(cD ah (IntKind.i64.wrap ((IntKind.i64.wrap (2*gX))+1))).bind fun aT=>(tY j9 iG j_ iH ji ka aI aT).bind fun aZ=>cond ((decide (hY<0))&&(aZ.2.1==a0)) (tZ rR a0 ah aZ.1 aZ.2.1 aZ.2.2.1 aZ.2.2.2.1 aZ.2.2.2.2.1 aZ.2.2.2.2.2 (IntKind.i64.wrap (gX+1)) gX) (tZ rR a0 ah aZ.1 aZ.2.1 aZ.2.2.1 aZ.2.2.2.1 aZ.2.2.2.2.1 aZ.2.2.2.2.2 hY gX))) (zN a0 ah j9 iG j_ iH ji ka hY gX)
def my (a0:Int) (ah:List Int):Nat→Int→Int→Int→Int→Int→Int→Int→Int→Option (Int×Int×Int×Int×Int×Int×Int)
 |0,_,_,_,_,_,_,_,_=>none
 |n+1,j9,iG,j_,iH,ji,ka,hY,gX=>t_ (my a0 ah n) a0 ah j9 iG j_ iH ji ka hY gX
def ua (a0:Int) (ah:List Int) (sd:Int):Option (Int×Int×Int×Int×Int×Int×Int):=
 dG fun n=>my a0 ah n a0 0 0 (-1) (-1) (-1) sd 0
def ub (a0:Int) (ah:List Int):Option (Int×Int×Int×Int×Int×Int×Int):=
 cond (a0==0) (ua a0 ah 0) (ua a0 ah (-1))
def wu (a0:List (List UInt8)) (ah:List Int):Option ((List (List UInt8))×Int×Int):=
 (wm a0 ah).bind fun aI=>cond (aI !=0) (some ([],0,aI)) ((ub (a0.length:Int) ah).bind fun aT=>(ea a0 0 aT.2.2.1).bind fun aZ=>(room 16 (aZ.length)).bind fun _=>some (aZ,aT.2.1,0))
def mz:List UInt8→UInt8→Int
 |[],_=> -1
 |b::l,c=>if b==c then 0 else if mz l c== -1 then-1 else mz l c+1
def zO (a0:List UInt8) (ah:UInt8):Option Int:=some (mz a0 ah)
def zP (a0:List UInt8) (ah:UInt8):Option Int:=
 (zO a0 ah).bind fun aI=>some aI
def n6 (a0:List UInt8) (ah:List UInt8):Option Int:=
 cond (((ah.length:Int)==0)||(ah==a0)) (some 0) (cond ((ah.length:Int)==1) ((cD ah 0).bind fun aI=>(zP a0 aI).bind fun aT=>some aT) (cond (decide ((a0.length:Int)≤(ah.length:Int))) (some (-1)) (none)))
def wv (a0:List UInt8) (ah:List UInt8):Option ((List UInt8)×(List UInt8)×Bool):=
 (n6 a0 ah).bind fun aI=>cond (decide (0≤aI)) ((ea a0 0 aI).bind fun aT=>(ea a0 (IntKind.i64.wrap (aI+(ah.length:Int))) (a0.length:Int)).bind fun aZ=>some (aT,aZ,true)) (some (a0,([]:List UInt8),false))
def se (a0:List UInt8) (ah:List UInt8):Option ((List UInt8)×(List UInt8)×Bool):=
 (wv a0 ah).bind fun aI=>some (aI.1,aI.2.1,aI.2.2)
def wx (a0:List UInt8) (ah:List UInt8):Option Bool:=
 cond (decide ((ah.length:Int)≤(a0.length:Int))) ((ea a0 (IntKind.i64.wrap ((a0.length:Int)-(ah.length:Int))) (a0.length:Int)).bind fun aI=>some (aI==ah)) (some false)
def wy (a0:List UInt8) (ah:List UInt8):Option ((List UInt8)):=
 (wx a0 ah).bind fun aI=>cond aI ((ea a0 0 (IntKind.i64.wrap ((a0.length:Int)-(ah.length:Int)))).bind fun aT=>some aT) (some a0)
def strings_TrimSuffix (a0:List UInt8) (ah:List UInt8):Option ((List UInt8)):=
 (wy a0 ah).bind fun aI=>some aI
def zQ (a0:List UInt8) (ah:UInt8):Option Int:=some (a0.count ah:Nat)
def uc (a0:List UInt8) (ah:List UInt8):Option Int:=
 (n6 a0 ah).bind fun aI=>some aI
def E2 (MQ:(List UInt8)→Int→Option Int) (ah:List UInt8) (lW:List UInt8) (lX:Int):Option Int:=
 (uc lW ah).bind fun aZ=>cond (aZ==(-1)) (some lX) ((ea lW (IntKind.i64.wrap (aZ+(ah.length:Int))) (lW.length:Int)).bind fun a6=>MQ a6 (IntKind.i64.wrap (lX+1)))
def wz (ah:List UInt8):Nat→(List UInt8)→Int→Option Int
 |0,_,_=>none
 |n+1,lW,lX=>E2 (wz ah n) ah lW lX
def zR (a0:List UInt8) (ah:List UInt8):Option Int:=
 cond ((ah.length:Int)==0) (none) (cond ((ah.length:Int)==1) ((cD ah 0).bind fun aI=>(zQ a0 aI).bind fun aT=>some aT) (dG fun n=>wz ah n a0 0))
def ud (a0:List UInt8) (ah:List UInt8) (a2:Int) (fp:Int) (sf:List UInt8) (qf:List (List UInt8)) (n7:Int):Option ((List (List UInt8))):=
 (cD qf n7).bind fun aI=>(ea (List.set qf (Int.toNat n7) sf) 0 (IntKind.i64.wrap (n7+1))).bind fun aT=>some aT
def wA (MR:(List UInt8)→(List (List UInt8))→Int→Option ((List (List UInt8)))) (a0:List UInt8) (ah:List UInt8) (a2:Int) (fp:Int) (iI:List UInt8) (hZ:List (List UInt8)) (gz:Int):Option ((List (List UInt8))):=
 cond (decide (gz<(IntKind.i64.wrap ((eA false fp (IntKind.i64.wrap ((a0.length:Int)+1)))-1)))) ((uc iI ah).bind fun aZ=>cond (decide (aZ<0)) (ud a0 ah a2 fp iI hZ gz) ((ea iI 0 (IntKind.i64.wrap (aZ+a2))).bind fun a6=>(cD hZ gz).bind fun b5=>(ea iI (IntKind.i64.wrap (aZ+(ah.length:Int))) (iI.length:Int)).bind fun cw=>MR cw (List.set hZ (Int.toNat gz) a6) (IntKind.i64.wrap (gz+1)))) (ud a0 ah a2 fp iI hZ gz)
def o7 (a0:List UInt8) (ah:List UInt8) (a2:Int) (fp:Int):Nat→(List UInt8)→(List (List UInt8))→Int→Option ((List (List UInt8)))
 |0,_,_,_=>none
 |n+1,iI,hZ,gz=>wA (o7 a0 ah a2 fp n) a0 ah a2 fp iI hZ gz
def wB (a0:List UInt8) (ah:List UInt8) (a2:Int) (fp:Int):Option ((List (List UInt8))):=
 (mF 16 (eA false fp (IntKind.i64.wrap ((a0.length:Int)+1)))).bind fun _=>dG fun n=>o7 a0 ah a2 fp n a0 (List.replicate (Int.toNat (eA false fp (IntKind.i64.wrap ((a0.length:Int)+1)))) ([]:List UInt8)) 0
def zS (a0:List UInt8) (ah:List UInt8) (a2:Int) (a3:Int):Option ((List (List UInt8))):=
 cond (a3==0) (some []) (cond (ah==([]:List UInt8)) (none) (cond (decide (a3<0)) ((zR a0 ah).bind fun cn=>wB a0 ah a2 (IntKind.i64.wrap (cn+1))) (wB a0 ah a2 a3)))
def wC (a0:List UInt8) (ah:List UInt8):Option ((List (List UInt8))):=
 (zS a0 ah 0 (-1)).bind fun aI=>some aI
def dF (c:UInt8):Bool:=decide (48≤c.toNat)&&decide (c.toNat≤57)
def gk (d:List UInt8):Nat:=d.foldl (fun n c=>10*n+(c.toNat-48)) 0
def jE (k:Nat) (d:List UInt8):Int×Bool:=if d≠[]∧d.length≤18∧d.all dF=true∧¬(d.head? =some 48∧1<d.length+k)then(if k=1 then-(gk d:Int)else gk d,true)else(0,false)
def fL (s:List UInt8):Int×Bool:=if s.head? =some 45 then jE 1 s.tail else jE 0 s
def wD (a0:List UInt8):Option (Int×Bool):=some (fL a0)
def wE (gZ:(List Int)→Int→Option ((List Int)×Bool)) (a0:List (List UInt8)) (dc:List Int) (kI:Int):Option ((List Int)×Bool):=
 cond (decide (kI<(a0.length:Int))) ((cD a0 kI).bind fun aI=>(wD aI).bind fun aT=>cond (!aT.2) (some ([],false)) ((room 8 (dc.length+1)).bind fun _=>gZ (dc++[aT.1]) (IntKind.i64.wrap (kI+1)))) (some (dc,true))
def qg (a0:List (List UInt8)):Nat→(List Int)→Int→Option ((List Int)×Bool)
 |0,_,_=>none
 |n+1,dc,kI=>wE (qg a0 n) a0 dc kI
def wF (a0:List (List UInt8)):Option ((List Int)×Bool):=
 dG fun n=>qg a0 n [] 0
def zT (a0:UInt8):Option Bool:=
 some ((decide (48≤(a0.toNat:Int)))&&(decide ((a0.toNat:Int)≤57)))
def ue (dZ:Int→Option Bool) (a0:List UInt8) (iJ:Int):Option Bool:=
 cond (decide (iJ<(a0.length:Int))) ((cD a0 iJ).bind fun aI=>cond (!((decide (97≤(aI.toNat:Int)))&&(decide ((aI.toNat:Int)≤122)))) (cond (iJ==0) (some false) ((zT aI).bind fun aT=>cond (!aT) (some false) (dZ (IntKind.i64.wrap (iJ+1))))) (dZ (IntKind.i64.wrap (iJ+1)))) (some ((decide (1≤(a0.length:Int)))&&(decide ((a0.length:Int)≤10))))
def n8 (a0:List UInt8):Nat→Int→Option Bool
 |0,_=>none
 |n+1,iJ=>ue (n8 a0 n) a0 iJ
def wG (a0:List UInt8):Option Bool:=
 dG fun n=>n8 a0 n 0
def wH (a0:List UInt8):Option Bool:=
 (wG a0).bind fun aI=>some (aI&&(!(a0==([116,97,117]:List UInt8))))
def uf (a0:Int) (ah:Int) (a2:Int):Option Bool:=
 some ((decide (ah≤a0))&&(decide (a0≤a2)))
def zU (a0:Int):Option Bool:=
 (uf a0 0 63).bind fun aI=>some aI
def zV (a0:Int):Option Bool:=
 (zU a0).bind fun aI=>some (!aI)
def wI (dZ:Int→Option Int) (a0:List Int) (dX:Int):Option Int:=
 cond (decide (dX<(a0.length:Int))) ((cD a0 dX).bind fun aI=>(zV aI).bind fun aT=>cond aT (some dX) (dZ (IntKind.i64.wrap (dX+1)))) (some (-1))
def qh (a0:List Int):Nat→Int→Option Int
 |0,_=>none
 |n+1,dX=>wI (qh a0 n) a0 dX
def zW (a0:List Int):Option Int:=
 dG fun n=>qh a0 n 0
def zX (a0:List Int):Option Bool:=
 (zW a0).bind fun aI=>some (decide (0≤aI))
def wJ (a0:List Int):Option Bool:=
 (zX a0).bind fun aI=>some (!aI)
def ug (a0 ah:Int):Option (List UInt8):=if 0≤a0∧a0<100∧ah=10 then some (l4 a0.toNat)else none
def uh (a0:Int):Option ((List UInt8)):=
 (ug a0 10).bind fun aI=>some aI
def strings_Join (a0:List (List UInt8)) (ah:List UInt8):Option (List UInt8):=if a0.length≤140737488355328∧(hN a0 ah).length≤140737488355328 then some (hN a0 ah)else none
def wK (gZ:(List (List UInt8))→Int→Option ((List UInt8))) (a0:List Int) (ah:List UInt8) (kb:List (List UInt8)) (ik:Int):Option ((List UInt8)):=
 cond (decide (ik<(a0.length:Int))) ((cD a0 ik).bind fun aI=>(uh aI).bind fun aT=>(cD kb ik).bind fun aZ=>gZ (List.set kb (Int.toNat ik) aT) (IntKind.i64.wrap (ik+1))) ((strings_Join kb ah).bind fun a6=>some a6)
def qi (a0:List Int) (ah:List UInt8):Nat→(List (List UInt8))→Int→Option ((List UInt8))
 |0,_,_=>none
 |n+1,kb,ik=>wK (qi a0 ah n) a0 ah kb ik
def wL (a0:List Int) (ah:List UInt8):Option ((List UInt8)):=
 (mF 16 (a0.length:Int)).bind fun _=>dG fun n=>qi a0 ah n (List.replicate (Int.toNat (a0.length:Int)) ([]:List UInt8)) 0
def wM (a0:List UInt8) (ah:List Int):Option ((List UInt8)×Bool):=
 cond (a0==([116,97,117]:List UInt8)) (some (([116,97,117]:List UInt8),((ah.length:Int)==0))) ((wH a0).bind fun aT=>cond (!aT) (some (([]:List UInt8),false)) (cond (decide (2<(ah.length:Int))) (some (([]:List UInt8),false)) ((wJ ah).bind fun aZ=>cond (!aZ) (some (([]:List UInt8),false)) (cond ((ah.length:Int)==0) (some (a0,true)) ((jL (a0.length+1)).bind fun _=>(wL ah ([44]:List UInt8)).bind fun a6=>(jL ((a0++([40]:List UInt8)).length+a6.length)).bind fun _=>(jL (((a0++([40]:List UInt8))++a6).length+1)).bind fun _=>some ((((a0++([40]:List UInt8))++a6)++([41]:List UInt8)),true))))))
def ui (a0:List UInt8) (aI:(List UInt8)×(List UInt8)×Bool) (nn:List Int):Option ((List UInt8)×(List Int)×Bool):=
 (wM aI.1 nn).bind fun aT=>cond ((!aT.2)||(!(aT.1==a0))) (some (([]:List UInt8),[],false)) (some (aI.1,nn,true))
def wN (a0:List UInt8):Option ((List UInt8)×(List Int)×Bool):=
 (se a0 ([40]:List UInt8)).bind fun aI=>cond aI.2.2 ((strings_TrimSuffix aI.2.1 ([41]:List UInt8)).bind fun aZ=>(wC aZ ([44]:List UInt8)).bind fun a6=>(wF a6).bind fun b5=>cond (!b5.2) (some (([]:List UInt8),[],false)) (ui a0 aI b5.1)) (ui a0 aI [])
def qj (a0:List UInt8):Option Bool:=
 (wN a0).bind fun aI=>some aI.2.2
def zY (a0:List UInt8):Option Bool:=
 (qj a0).bind fun aI=>some (!aI)
def wO (dZ:Int→Option Int) (a0:List (List UInt8)) (dX:Int):Option Int:=
 cond (decide (dX<(a0.length:Int))) ((cD a0 dX).bind fun aI=>(zY aI).bind fun aT=>cond aT (some dX) (dZ (IntKind.i64.wrap (dX+1)))) (some (-1))
def qk (a0:List (List UInt8)):Nat→Int→Option Int
 |0,_=>none
 |n+1,dX=>wO (qk a0 n) a0 dX
def zZ (a0:List (List UInt8)):Option Int:=
 dG fun n=>qk a0 n 0
def z1 (a0:List (List UInt8)):Option Bool:=
 (zZ a0).bind fun aI=>some (decide (0≤aI))
def wP (a0:List (List UInt8)):Option Bool:=
 (z1 a0).bind fun aI=>some (!aI)
def z6 (a0:Int):Option Bool:=
 (uf a0 0 3).bind fun aI=>some (!aI)
def wQ (dZ:Int→Option Int) (a0:List Int) (dX:Int):Option Int:=
 cond (decide (dX<(a0.length:Int))) ((cD a0 dX).bind fun aI=>(z6 aI).bind fun aT=>cond aT (some dX) (dZ (IntKind.i64.wrap (dX+1)))) (some (-1))
def ql (a0:List Int):Nat→Int→Option Int
 |0,_=>none
 |n+1,dX=>wQ (ql a0 n) a0 dX
def z7 (a0:List Int):Option Int:=
 dG fun n=>ql a0 n 0
def wR (a0:List Int):Option Bool:=
 (z7 a0).bind fun aI=>some (decide (0≤aI))
def wS (a0:List (List UInt8)) (ah:List Int):Option Int:=
 cond (decide (60<(a0.length:Int))) (some 2) ((wP a0).bind fun aI=>cond (!aI) (some 2) (cond (decide (200<(ah.length:Int))) (some 7) ((wR ah).bind fun aT=>cond aT (some 7) (some 0))))
def uj (dV:Int) (eE:Int) (el:Int) (dW:Int) (et:Int) (ah:Int):Option (Int×Int×Int×Int×Int):=
 some (dV,(eA true eE ah),el,dW,et)
def wT (dV:Int) (eE:Int) (dW:Int) (et:Int) (qm:Int):Option (Int×Int×Int×Int×Int×Int):=
 some (qm,dV,eE,qm,dW,et)
def qn (dV:Int) (eE:Int) (el:Int) (dW:Int) (et:Int) (ah:Int):Option (Int×Int×Int×Int×Int×Int):=
 cond (ah==el) (wT dV eE dW et (IntKind.i64.wrap (el+1))) (wT dV eE dW et el)
def o8 (a2:Int) (n9:Int) (n_:Int) (oa:Int) (ob:Int) (o9:Int) (oc:Int):Option (Int×Int×Int×Int×Int):=
 cond (decide (oc<0)) (some (n9,n_,oa,ob,o9)) (cond (a2==3) (some (n9,n_,oa,ob,oc)) (cond (a2 !=1) ((uj n9 n_ oa ob o9 oc).bind fun aT=>some (aT.1,aT.2.1,aT.2.2.1,aT.2.2.2.1,aT.2.2.2.2)) (some (n9,n_,oa,ob,o9))))
def od (ah:Int) (a2:Int) (jj:Int) (fU:Int) (kc:Int) (wU:Int) (wV:Int) (gW:Int):Option (Int×Int×Int×Int×Int):=
 cond (decide (fU<jj)) (cond (ah==0) ((qn jj fU kc (-1) (-1) fU).bind fun aZ=>o8 a2 aZ.2.1 aZ.2.2.1 aZ.2.2.2.1 aZ.2.2.2.2.1 aZ.2.2.2.2.2 aZ.1) (cond (ah==2) ((qn jj fU kc (-1) (-1) fU).bind fun a6=>(qn a6.2.1 a6.2.2.1 a6.2.2.2.1 a6.2.2.2.2.1 a6.2.2.2.2.2 fU).bind fun b5=>o8 a2 b5.2.1 b5.2.2.1 b5.2.2.2.1 b5.2.2.2.2.1 b5.2.2.2.2.2 b5.1) (cond (ah==3) (o8 a2 jj fU kc fU (-1) gW) (o8 a2 jj fU kc (-1) (-1) gW)))) (o8 a2 jj fU kc (-1) (-1) gW)
def wW (dV:Int) (eE:Int) (el:Int) (dW:Int) (et:Int) (ah:Int) (a2:Int):Option (Int×Int×Int×Int×Int):=
 (uj dV eE el dW et et).bind fun aI=>cond (decide (0≤aI.2.2.2.1)) ((qn aI.1 aI.2.1 aI.2.2.1 aI.2.2.2.1 aI.2.2.2.2 aI.2.2.2.1).bind fun cw=>od ah a2 cw.2.1 cw.2.2.1 cw.2.2.2.1 cw.2.2.2.2.1 cw.2.2.2.2.2 cw.1) (od ah a2 aI.1 aI.2.1 aI.2.2.1 aI.2.2.2.1 aI.2.2.2.2 (-1))
def lh (hT:Int→Int→Int→Int→Int→Int→Int→Option (Int×Int×Int×Int×Int×Int)) (ah:List Int) (o_:Int) (pa:Int) (pb:Int) (pc:Int) (pd:Int) (oe:Int) (np:Int):Option (Int×Int×Int×Int×Int×Int):=
 cond (decide ((ah.length:Int)≤(IntKind.i64.wrap ((IntKind.i64.wrap (2*np))+1)))) (some (o_,pa,pb,pc,pd,oe)) ((cD ah (IntKind.i64.wrap (2*np))).bind fun aI=>(cD ah (IntKind.i64.wrap ((IntKind.i64.wrap (2*np))+1))).bind fun aT=>(wW o_ pa pb pc pd aI aT).bind fun aZ=>hT aZ.1 aZ.2.1 aZ.2.2.1 aZ.2.2.2.1 aZ.2.2.2.2 oe (IntKind.i64.wrap (np+1)))
def qo (hT:Int→Int→Int→Int→Int→Int→Int→Option (Int×Int×Int×Int×Int×Int)) (ah:List Int) (kd:Int) (ke:Int) (lj:Int) (lk:Int) (ll:Int) (kJ:Int) (kf:Int):Option (Int×Int×Int×Int×Int×Int):=
 cond ((decide (kJ<0))&&(ke==kd)) (lh hT ah kd ke lj lk ll kf kf) (lh hT ah kd ke lj lk ll kJ kf)
def iK (ah:List Int):Nat→Int→Int→Int→Int→Int→Int→Int→Option (Int×Int×Int×Int×Int×Int)
 |0,_,_,_,_,_,_,_=>none
 |n+1,kd,ke,lj,lk,ll,kJ,kf=>qo (iK ah n) ah kd ke lj lk ll kJ kf
def wX (a0:List (List UInt8)) (ah:List Int):Option (Int×Int×Int×Int×Int×Int):=
 dG fun n=>iK ah n (a0.length:Int) 0 0 (-1) (-1) (-1) 0
def wY (a0:List (List UInt8)):Option ((List (List UInt8))):=
 cond a0.isEmpty (both (some []) ((room 16 (a0.length)).bind fun _=>some a0)) ((room 16 (a0.length)).bind fun _=>some a0)
def uk (a0:List (List UInt8)) (ah:List Int):Option ((List (List UInt8))×Int×Int):=
 (wS a0 ah).bind fun aI=>cond (aI !=0) (some ([],0,aI)) ((wX a0 ah).bind fun aT=>(ea a0 0 aT.2.2.1).bind fun aZ=>(wY aZ).bind fun a6=>some (a6,aT.2.1,0))
def E3 (nk:Int→Option Bool) (a0:List (List UInt8)) (ah:List (List UInt8)) (ek:Int):Option Bool:=
 cond (decide (ek<(a0.length:Int))) ((cD a0 ek).bind fun aI=>(cD ah ek).bind fun aT=>cond (!(aI==aT)) (some false) (nk (IntKind.i64.wrap (ek+1)))) (some true)
def wZ (a0:List (List UInt8)) (ah:List (List UInt8)):Nat→Int→Option Bool
 |0,_=>none
 |n+1,ek=>E3 (wZ a0 ah n) a0 ah ek
def qp (a0:List (List UInt8)) (ah:List (List UInt8)):Option Bool:=
 cond ((a0.length:Int) !=(ah.length:Int)) (some false) (dG fun n=>wZ a0 ah n 0)
def E4 (nk:Int→Option Bool) (a0:List Int) (ah:List Int) (ek:Int):Option Bool:=
 cond (decide (ek<(a0.length:Int))) ((cD a0 ek).bind fun aI=>(cD ah ek).bind fun aT=>cond (aI !=aT) (some false) (nk (IntKind.i64.wrap (ek+1)))) (some true)
def w1 (a0:List Int) (ah:List Int):Nat→Int→Option Bool
 |0,_=>none
 |n+1,ek=>E4 (w1 a0 ah n) a0 ah ek
def w2 (a0:List Int) (ah:List Int):Option Bool:=
 cond ((a0.length:Int) !=(ah.length:Int)) (some false) (dG fun n=>w1 a0 ah n 0)
def um (nk:Int→(List UInt8)→Option ((List UInt8))) (hI:Int) (fg:List UInt8):Option ((List UInt8)):=
 cond (decide (0<hI)) ((jL (1+fg.length)).bind fun _=>nk (IntKind.i64.wrap (Int.tdiv hI 10)) ([(nE (IntKind.i64.wrap (48+(Int.tmod hI 10))))]++fg)) ((jL (1+fg.length)).bind fun _=>some (([109]:List UInt8)++fg))
def pe:Nat→Int→(List UInt8)→Option ((List UInt8))
 |0,_,_=>none
 |n+1,hI,fg=>um (pe n) hI fg
def uo (a0:Int):Option ((List UInt8)):=
 cond (decide (a0≤0)) (some ([109,48]:List UInt8)) (dG fun n=>pe n a0 ([]:List UInt8))
def w3 (dZ:(List (List UInt8))→Int→Int→Option (Int×(List (List UInt8)))) (ez:List (List UInt8)) (dj:Int) (dd:Int):Option (Int×(List (List UInt8))):=
 cond (decide (dd<(ez.length:Int))) ((uo dj).bind fun aI=>(cD ez dd).bind fun aT=>dZ (List.set ez (Int.toNat dd) aI) (IntKind.i64.wrap (dj+1)) (IntKind.i64.wrap (dd+1))) (some (dj,ez))
def qq:Nat→(List (List UInt8))→Int→Int→Option (Int×(List (List UInt8)))
 |0,_,_,_=>none
 |n+1,ez,dj,dd=>w3 (qq n) ez dj dd
def uq (a0:List (List UInt8)) (ah:Int):Option (Int×(List (List UInt8))):=
 dG fun n=>qq n a0 ah 0
def w4 (dZ:(List Int)→Int→Int→Option (Int×(List Int))) (ez:List Int) (dj:Int) (dd:Int):Option (Int×(List Int)):=
 cond (decide (dd<(ez.length:Int))) ((cD ez dd).bind fun aI=>dZ (List.set ez (Int.toNat dd) dj) (IntKind.i64.wrap (dj+1)) (IntKind.i64.wrap (dd+1))) (some (dj,ez))
def qs:Nat→(List Int)→Int→Int→Option (Int×(List Int))
 |0,_,_,_=>none
 |n+1,ez,dj,dd=>w4 (qs n) ez dj dd
def w5 (a0:List Int) (ah:Int):Option (Int×(List Int)):=
 dG fun n=>qs n a0 ah 0
def w6 (dZ:Int→Int→Option Int) (a0:List (List UInt8)) (dj:Int) (dd:Int):Option Int:=
 cond (decide (dd<(a0.length:Int))) ((cD a0 dd).bind fun aI=>(uo dj).bind fun aT=>cond (!(aI==aT)) (some (-1)) (dZ (IntKind.i64.wrap (dj+1)) (IntKind.i64.wrap (dd+1)))) (some dj)
def qt (a0:List (List UInt8)):Nat→Int→Int→Option Int
 |0,_,_=>none
 |n+1,dj,dd=>w6 (qt a0 n) a0 dj dd
def ur (a0:List (List UInt8)) (ah:Int):Option Int:=
 dG fun n=>qt a0 n ah 0
def z8 (a0:List (List UInt8)) (ah:List Int):Option Bool:=
 cond (decide (1048576<(ah.length:Int))) (some true) ((vZ a0 1048576).bind fun aI=>cond (decide (aI<0)) (some true) ((qa a0).bind fun aT=>(qb ah).bind fun aZ=>(wu aT aZ).bind fun a6=>(qa a0).bind fun b5=>(qb ah).bind fun cw=>(uk b5 cw).bind fun cn=>(qp cn.1 a6.1).bind fun hf=>cond (((!hf)||(cn.2.1 !=a6.2.1))||(cn.2.2 !=a6.2.2)) (some false) ((qa a0).bind fun d_=>(qp b5 d_).bind fun fK=>cond (!fK) (some false) ((qb ah).bind fun mA=>(w2 cw mA).bind fun qu=>cond (!qu) (some false) ((uq b5 1).bind fun kK=>(w5 cw kK.1).bind fun nq=>cond (decide (nq.1<0)) (some false) ((qp cn.1 a6.1).bind fun mB=>cond (((!mB)||(cn.2.1 !=a6.2.1))||(cn.2.2 !=a6.2.2)) (some false) ((uq cn.1 1).bind fun hr=>(ur hr.2 1).bind fun uu=>cond (decide (uu<0)) (some false) (cond (uu !=hr.1) (some false) ((qa a0).bind fun sg=>(qb ah).bind fun si=>(uk sg si).bind fun ln=>(qp ln.1 a6.1).bind fun sj=>cond (((!sj)||(ln.2.1 !=a6.2.1))||(ln.2.2 !=a6.2.2)) (some false) ((ur hr.2 1).bind fun og=>cond (decide (og<0)) (some false) (cond (og !=hr.1) (some false) (some true))))))))))))
end
end Go.ff
