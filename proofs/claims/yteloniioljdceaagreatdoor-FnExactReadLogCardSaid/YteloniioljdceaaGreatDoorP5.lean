/- Part of a proof that a law returns true for every input. No condition. -/
import Derived.Test.YteloniioljdceaaGreatDoorFwA
namespace Go.lj
open List Option Go.IntKind Nat Or
open Go Go.b_
set_option linter.unusedVariables false
noncomputable section
structure aX where
 Choice:Int
 bP:Int
 Second:Int
 Label:RB
abbrev RK:=List aX
def Q7 (x:aX):Prop:=(-9223372036854775808<=x.Choice/\x.Choice<=9223372036854775807)/\(-9223372036854775808<=x.bP/\x.bP<=9223372036854775807)/\(-9223372036854775808<=x.Second/\x.Second<=9223372036854775807)/\x.Label.length<=9223372036854775807
def uR (jM:RA->Int->Int->Option RA) (a0:RB) (aw:UInt8) (qn:RA) (qo qp:Int):Option RA:=
 jM qn qo (i64.wrap (qp+1))
def yp (jM:RA->Int->Int->Option RA) (a0:RB) (aw:UInt8) (ia:RA) (l3 hM:Int):Option RA:=
 cond (decide (hM<(a0.length:Int))) ((cj a0 hM).bind λaA=>cond ((aA.toNat:Int)==(aw.toNat:Int)) ((c8 a0 l3 hM).bind λaM=>(room 16 (ia.length+1)).bind λ_=>uR jM a0 aw (ia++[aM]) (i64.wrap (hM+1)) hM) (uR jM a0 aw ia l3 hM)) ((c8 a0 l3 (a0.length:Int)).bind λaY=>(room 16 (ia.length+1)).bind λ_=>some (ia++[aY]))
def o9 (a0:RB) (aw:UInt8):Nat->RA->Int->Int->Option RA
 |0,_,_,_=>none
 |n+1,ia,l3,hM=>yp (o9 a0 aw n) a0 aw ia l3 hM
def ss (a0:RB) (aw:UInt8):Option RA:=
 eg λn=>o9 a0 aw n [] 0 0
def qq (a0:UInt8):RF:=
 some ((decide (48<=(a0.toNat:Int)))&&(decide ((a0.toNat:Int)<=57)))
def su (lk:Int):Option (Int×Bool):=
 some (lk,true)
def yq (LC:Int->Int->Option (Int×Bool)) (a0:RB) (gu hp ja:Int):Option (Int×Bool):=
 cond (decide (ja<(a0.length:Int))) ((cj a0 ja).bind λbu=>(qq bu).bind λbY=>cond (!bY) (some (0,false)) (LC (i64.wrap ((i64.wrap (10*hp))+(i64.wrap (u8.wrap ((bu.toNat:Int)-48))))) (i64.wrap (ja+1)))) (cond (gu==1) (su (i64.wrap (0-hp))) (su hp))
def mQ (a0:RB) (gu:Int):Nat->Int->Int->Option (Int×Bool)
 |0,_,_=>none
 |n+1,hp,ja=>yq (mQ a0 gu n) a0 gu hp ja
def qs (a0:RB) (gu:Int):Option (Int×Bool):=
 cond ((a0.length:Int)==gu) (some (0,false)) (cond (decide (18<(i64.wrap ((a0.length:Int)-gu)))) (some (0,false)) ((cj a0 gu).bind λaA=>cond ((aA.toNat:Int)==48) (cond (decide (1<(a0.length:Int))) (some (0,false)) (eg λn=>mQ a0 gu n 0 gu)) (eg λn=>mQ a0 gu n 0 gu)))
def o_ (a0:RB):Option (Int×Bool):=
 cond (decide (0<(a0.length:Int))) ((cj a0 0).bind λdI=>cond ((dI.toNat:Int)==45) (qs a0 1) (qs a0 0)) (qs a0 0)
def pa (a0 aw a2:Int):RF:=
 some ((decide (aw<=a0))&&(decide (a0<=a2)))
def yr (dc:Int->RG) (a0:RB) (kD:Int):RG:=
 cond (decide (kD<(a0.length:Int))) ((cj a0 kD).bind λaA=>cond ((aA.toNat:Int)==40) (some kD) (dc (i64.wrap (kD+1)))) (some (a0.length:Int))
def n8 (a0:RB):Nat->Int->RG
 |0,_=>none
 |n+1,kD=>yr (n8 a0 n) a0 kD
def qt (a0:RB):RG:=
 eg λn=>n8 a0 n 0
def sv (a0:UInt8):RF:=
 some ((decide (97<=(a0.toNat:Int)))&&(decide ((a0.toNat:Int)<=122)))
def ys (qu:Int->RF) (a0:RB) (ff:Int):RF:=
 cond (decide (ff<(a0.length:Int))) ((cj a0 ff).bind λaY=>(sv aY).bind λbu=>cond (!bu) ((qq aY).bind λbY=>cond (!bY) (some false) (qu (i64.wrap (ff+1)))) (qu (i64.wrap (ff+1)))) (some true)
def sw (a0:RB):Nat->Int->RF
 |0,_=>none
 |n+1,ff=>ys (sw a0 n) a0 ff
def sx (a0:RB):RF:=
 cond (a0==([]:RB)) (some false) (cond (decide (10<(a0.length:Int))) (some false) ((cj a0 0).bind λaA=>(sv aA).bind λaM=>cond (!aM) (some false) (eg λn=>sw a0 n 0)))
def uS (a0:RB):RF:=
 (sx a0).bind λaA=>some (aA&&(!(a0==([116,97,117]:RB))))
def yt (LD:RD->Int->Option (RD×Bool)) (c6:RA) (jb:RD) (kE:Int):Option (RD×Bool):=
 cond (decide (kE<(c6.length:Int))) ((cj c6 kE).bind λe4=>(o_ e4).bind λfy=>cond (!fy.2) (some ([],false)) ((pa fy.1 0 63).bind λgH=>cond (!gH) (some ([],false)) ((room 8 (jb.length+1)).bind λ_=>LD (jb++[fy.1]) (i64.wrap (kE+1))))) (some (jb,(decide ((jb.length:Int)<=2))))
def pb (c6:RA):Nat->RD->Int->Option (RD×Bool)
 |0,_,_=>none
 |n+1,jb,kE=>yt (pb c6 n) c6 jb kE
def sy (a0:RB):Option (RD×Bool):=
 (qt a0).bind λaA=>cond (aA==(a0.length:Int)) ((sx a0).bind λaM=>some ([],aM)) ((c8 a0 0 aA).bind λaY=>(uS aY).bind λbu=>cond (!bu) (some ([],false)) ((cj a0 (i64.wrap ((a0.length:Int)-1))).bind λbY=>cond ((bY.toNat:Int) !=41) (some ([],false)) ((c8 a0 (i64.wrap (aA+1)) (i64.wrap ((a0.length:Int)-1))).bind λdI=>(ss dI (44:UInt8)).bind λc6=>eg λn=>pb c6 n [] 0)))
def l4 (a0:RB):RF:=
 (sy a0).bind λaA=>some aA.2
def sA (a0:aX):RF:=
 (pa a0.Choice 0 199).bind λaA=>cond aA ((pa a0.bP 0 2).bind λaM=>cond aM ((pa a0.Second (-1) 2).bind λaY=>cond aY ((l4 a0.Label).bind λbu=>some bu) (some false)) (some false)) (some false)
def sC (jw:RB->Int->Option RB) (a0:Int) (mR:RB) (n9 l5:Int):Option RB:=
 (room 1 (mR.length+1)).bind λ_=>jw (mR++[(hV (i64.wrap (48+l5)))]) (i64.wrap (Int.tdiv n9 10))
def yu (LF:RB->Int->Option RB) (iE jY:RB) (kF:Int):Option RB:=
 cond (decide (0<=kF)) ((cj iE kF).bind λaA=>(room 1 (jY.length+1)).bind λ_=>LF (jY++[aA]) (i64.wrap (kF-1))) (some jY)
def qv (iE:RB):Nat->RB->Int->Option RB
 |0,_,_=>none
 |n+1,jY,kF=>yu (qv iE n) iE jY kF
def sD (iE:RB):Option RB:=
 eg λn=>qv iE n [] (i64.wrap ((iE.length:Int)-1))
def sE (jw:RB->Int->Option RB) (a0:Int) (iF:RB) (iG:Int):Option RB:=
 cond (iG !=0) (cond (decide ((Int.tmod iG 10)<0)) (sC jw a0 iF iG (i64.wrap (0-(Int.tmod iG 10)))) (sC jw a0 iF iG (Int.tmod iG 10))) (cond (decide (a0<0)) ((room 1 (iF.length+1)).bind λ_=>sD (iF++[(45:UInt8)])) (sD iF))
def jx (a0:Int):Nat->RB->Int->Option RB
 |0,_,_=>none
 |n+1,iF,iG=>sE (jx a0 n) a0 iF iG
def n_ (a0:Int):Option RB:=
 cond (a0==0) (some ([48]:RB)) (eg λn=>jx a0 n [] a0)
def sF (dc:Int->Int->RG) (uT:Int->Int->Int->RG) (a0:RB) (qw qx qy:Int):RG:=
 uT qw qx (i64.wrap (qy+1))
def uU (dc:Int->Int->RG) (uT:Int->Int->Int->RG) (a0:RB) (jy jZ kG:Int):RG:=
 cond (decide (kG<8)) (cond (decide (65535<(i64.wrap (jy*2)))) (sF dc uT a0 (bitsOf .xor .i64 (bitsOf .and .i64 (i64.wrap (jy*2)) 65535) 4129) jZ kG) (sF dc uT a0 (i64.wrap (jy*2)) jZ kG)) (dc jy (i64.wrap (jZ+1)))
def mS (dc:Int->Int->RG) (a0:RB):Nat->Int->Int->Int->RG
 |0,_,_,_=>none
 |n+1,jy,jZ,kG=>uU dc (mS dc a0 n) a0 jy jZ kG
def uV (dc:Int->Int->RG) (a0:RB) (b1 bZ:Int):RG:=
 cond (decide (bZ<(a0.length:Int))) ((cj a0 bZ).bind λaA=>eg λn=>mS dc a0 n (bitsOf .xor .i64 b1 (i64.wrap ((aA.toNat:Int)*256))) bZ 0) (some b1)
def j0 (a0:RB):Nat->Int->Int->RG
 |0,_,_=>none
 |n+1,b1,bZ=>uV (j0 a0 n) a0 b1 bZ
def pc (a0:RB) (aw:Int):RG:=
 eg λn=>j0 a0 n aw 0
def sG (a0:aX) (aw:Int):Option (RB×Int):=
 (n_ a0.Choice).bind λaA=>(ev (aA.length+1)).bind λ_=>(n_ a0.bP).bind λaM=>(ev ((aA++([32]:RB)).length+aM.length)).bind λ_=>(ev (((aA++([32]:RB))++aM).length+1)).bind λ_=>(n_ a0.Second).bind λaY=>(ev ((((aA++([32]:RB))++aM)++([32]:RB)).length+aY.length)).bind λ_=>(ev (((((aA++([32]:RB))++aM)++([32]:RB))++aY).length+1)).bind λ_=>(ev ((((((aA++([32]:RB))++aM)++([32]:RB))++aY)++([32]:RB)).length+a0.Label.length)).bind λ_=>(pc ((((((aA++([32]:RB))++aM)++([32]:RB))++aY)++([32]:RB))++a0.Label) aw).bind λbu=>(ev (((((((aA++([32]:RB))++aM)++([32]:RB))++aY)++([32]:RB))++a0.Label).length+1)).bind λ_=>(n_ bu).bind λbY=>(ev ((((((((aA++([32]:RB))++aM)++([32]:RB))++aY)++([32]:RB))++a0.Label)++([32]:RB)).length+bY.length)).bind λ_=>some (((((((((aA++([32]:RB))++aM)++([32]:RB))++aY)++([32]:RB))++a0.Label)++([32]:RB))++bY),bu)
def uW (a0:RB) (aw:Int):Option (aX×Int×Bool):=
 (ss a0 (32:UInt8)).bind λaA=>cond ((aA.length:Int) !=5) (some ((aX.mk 0 0 0 ([]:RB)),0,false)) ((cj aA 0).bind λaM=>(o_ aM).bind λaY=>(cj aA 1).bind λbu=>(o_ bu).bind λbY=>(cj aA 2).bind λdI=>(o_ dI).bind λc6=>(cj aA 3).bind λe4=>cond (!aY.2) (some ((aX.mk 0 0 0 ([]:RB)),0,false)) (cond (!bY.2) (some ((aX.mk 0 0 0 ([]:RB)),0,false)) (cond (!c6.2) (some ((aX.mk 0 0 0 ([]:RB)),0,false)) ((sA (aX.mk aY.1 bY.1 c6.1 e4)).bind λfy=>cond (!fy) (some ((aX.mk 0 0 0 ([]:RB)),0,false)) ((sG (aX.mk aY.1 bY.1 c6.1 e4) aw).bind λgH=>some ((aX.mk aY.1 bY.1 c6.1 e4),gH.2,(gH.1==a0)))))))
def pd (a0:RB) (qz:RK) (qA uX:Int):Option (RK×Int):=
 some (qz,qA)
def qB (uY:RK->Int->Int->Int->Option (RK×Int)) (a0:RB) (qC:RK) (qD qE qF:Int):Option (RK×Int):=
 uY qC qD qE (i64.wrap (qF+1))
def pe (uY:RK->Int->Int->Int->Option (RK×Int)) (a0:RB) (gI:RK) (ll jz fz:Int):Option (RK×Int):=
 cond ((decide (fz<(a0.length:Int)))&&(decide ((gI.length:Int)<60))) ((cj a0 fz).bind λaA=>cond ((aA.toNat:Int) !=10) (qB uY a0 gI ll jz fz) ((c8 a0 jz fz).bind λaM=>(uW aM ll).bind λaY=>cond (!aY.2.2) (pd a0 gI jz fz) ((room 40 (gI.length+1)).bind λ_=>qB uY a0 (gI++[aY.1]) aY.2.1 (i64.wrap (fz+1)) fz))) (pd a0 gI jz fz)
def iH (a0:RB):Nat->RK->Int->Int->Int->Option (RK×Int)
 |0,_,_,_,_=>none
 |n+1,gI,ll,jz,fz=>pe (iH a0 n) a0 gI ll jz fz
def uZ (a0:RB):Option (RK×Int):=
 eg λn=>iH a0 n [] 65535 0 0
def u0 (a0:RB):Option (RK×Bool):=
 (uZ a0).bind λaA=>cond (aA.2 !=(a0.length:Int)) (some ([],false)) (some (aA.1,true))
def e5:RB->UInt8->Int
 |[],_=> -1
 |b::l,c=>if b==c then 0 else if e5 l c== -1 then-1 else e5 l c+1
def yv (a0:RB) (aw:UInt8):RG:=some (e5 a0 aw)
def u1 (a0:RB) (aw:UInt8):RG:=
 (yv a0 aw).bind λaA=>some aA
def qG (a0:RB) (aw:UInt8):RG:=
 (u1 a0 aw).bind λaA=>some aA
def u2 (a0 aw:RB):RF:=
 cond (decide ((aw.length:Int)<=(a0.length:Int))) ((c8 a0 (i64.wrap ((a0.length:Int)-(aw.length:Int))) (a0.length:Int)).bind λaA=>some (aA==aw)) (some false)
def u3 (a0 aw:RB):Option RB:=
 (u2 a0 aw).bind λaA=>cond aA ((c8 a0 0 (i64.wrap ((a0.length:Int)-(aw.length:Int)))).bind λaM=>some aM) (some a0)
def strings_TrimSuffix (a0 aw:RB):Option RB:=
 (u3 a0 aw).bind λaA=>some aA
def yw (a0:RB) (aw:UInt8):RG:=some (a0.count aw:Nat)
def mT (a0 aw:RB):RG:=
 cond (((aw.length:Int)==0)||(aw==a0)) (some 0) (cond ((aw.length:Int)==1) ((cj aw 0).bind λaA=>(u1 a0 aA).bind λaM=>some aM) (cond (decide ((a0.length:Int)<=(aw.length:Int))) (some (-1)) (none)))
def sH (a0 aw:RB):RG:=
 (mT a0 aw).bind λaA=>some aA
def LG (LH:RB->Int->RG) (aw l6:RB) (l7:Int):RG:=
 (sH l6 aw).bind λaY=>cond (aY==(-1)) (some l7) ((c8 l6 (i64.wrap (aY+(aw.length:Int))) (l6.length:Int)).bind λbu=>LH bu (i64.wrap (l7+1)))
def yx (aw:RB):Nat->RB->Int->RG
 |0,_,_=>none
 |n+1,l6,l7=>LG (yx aw n) aw l6 l7
def yy (a0 aw:RB):RG:=
 cond ((aw.length:Int)==0) (none) (cond ((aw.length:Int)==1) ((cj aw 0).bind λaA=>(yw a0 aA).bind λaM=>some aM) (eg λn=>yx aw n a0 0))
def sI (a0 aw:RB) (a2 fg:Int) (qH:RB) (pf:RA) (mU:Int):Option RA:=
 (cj pf mU).bind λaA=>(c8 (List.set pf (Int.toNat mU) qH) 0 (i64.wrap (mU+1))).bind λaM=>some aM
def yz (LI:RB->RA->Int->Option RA) (a0 aw:RB) (a2 fg:Int) (iI:RB) (hN:RA) (fX:Int):Option RA:=
 cond (decide (fX<(i64.wrap ((fC false fg (i64.wrap ((a0.length:Int)+1)))-1)))) ((sH iI aw).bind λaY=>cond (decide (aY<0)) (sI a0 aw a2 fg iI hN fX) ((c8 iI 0 (i64.wrap (aY+a2))).bind λbu=>(cj hN fX).bind λbY=>(c8 iI (i64.wrap (aY+(aw.length:Int))) (iI.length:Int)).bind λdI=>LI dI (List.set hN (Int.toNat fX) bu) (i64.wrap (fX+1)))) (sI a0 aw a2 fg iI hN fX)
def pg (a0 aw:RB) (a2 fg:Int):Nat->RB->RA->Int->Option RA
 |0,_,_,_=>none
 |n+1,iI,hN,fX=>yz (pg a0 aw a2 fg n) a0 aw a2 fg iI hN fX
def u4 (a0 aw:RB) (a2 fg:Int):Option RA:=
 (nr 16 (fC false fg (i64.wrap ((a0.length:Int)+1)))).bind λ_=>eg λn=>pg a0 aw a2 fg n a0 (replicate (Int.toNat (fC false fg (i64.wrap ((a0.length:Int)+1)))) ([]:RB)) 0
def yA (a0 aw:RB) (a2 a3:Int):Option RA:=
 cond (a3==0) (some []) (cond (aw==([]:RB)) (none) (cond (decide (a3<0)) ((yy a0 aw).bind λc6=>u4 a0 aw a2 (i64.wrap (c6+1))) (u4 a0 aw a2 a3)))
def sJ (a0 aw:RB):Option RA:=
 (yA a0 aw 0 (-1)).bind λaA=>some aA
def df (c:UInt8):Bool:=decide (48<=c.toNat)&&decide (c.toNat<=57)
def fh (d:RB):Nat:=d.foldl (λn c=>10*n+(c.toNat-48)) 0
def hO (k:Nat) (d:RB):Int×Bool:=if d≠[]/\d.length<=18/\d.all df=true/\¬(d.head? =some 48/\1<d.length+k)then(if k=1 then-(fh d:Int)else fh d,true)else(0,false)
def dz (s:RB):Int×Bool:=if s.head? =some 45 then hO 1 s.tail else hO 0 s
def u5 (a0:RB):Option (Int×Bool):=some (dz a0)
def yB (hd:RD->Int->Option (RD×Bool)) (a0:RA) (j1:RD) (kH:Int):Option (RD×Bool):=
 cond (decide (kH<(a0.length:Int))) ((cj a0 kH).bind λaA=>(u5 aA).bind λaM=>cond (!aM.2) (some ([],false)) ((room 8 (j1.length+1)).bind λ_=>hd (j1++[aM.1]) (i64.wrap (kH+1)))) (some (j1,true))
def qI (a0:RA):Nat->RD->Int->Option (RD×Bool)
 |0,_,_=>none
 |n+1,j1,kH=>yB (qI a0 n) a0 j1 kH
def sK (a0:RA):Option (RD×Bool):=
 eg λn=>qI a0 n [] 0
def mV (a0 aw a2:Int):RF:=
 some ((decide (aw<=a0))&&(decide (a0<=a2)))
def u6 (a0 aw:RB):Option (RB×RB×Bool):=
 (mT a0 aw).bind λaA=>cond (decide (0<=aA)) ((c8 a0 0 aA).bind λaM=>(c8 a0 (i64.wrap (aA+(aw.length:Int))) (a0.length:Int)).bind λaY=>some (aM,aY,true)) (some (a0,([]:RB),false))
def qJ (a0 aw:RB):Option (RB×RB×Bool):=
 (u6 a0 aw).bind λaA=>some (aA.1,aA.2.1,aA.2.2)
def yC (a0:UInt8):RF:=
 some ((decide (48<=(a0.toNat:Int)))&&(decide ((a0.toNat:Int)<=57)))
def u7 (dc:Int->RF) (a0:RB) (jc:Int):RF:=
 cond (decide (jc<(a0.length:Int))) ((cj a0 jc).bind λaA=>cond (!((decide (97<=(aA.toNat:Int)))&&(decide ((aA.toNat:Int)<=122)))) (cond (jc==0) (some false) ((yC aA).bind λaM=>cond (!aM) (some false) (dc (i64.wrap (jc+1))))) (dc (i64.wrap (jc+1)))) (some ((decide (1<=(a0.length:Int)))&&(decide ((a0.length:Int)<=10))))
def oa (a0:RB):Nat->Int->RF
 |0,_=>none
 |n+1,jc=>u7 (oa a0 n) a0 jc
def u9 (a0:RB):RF:=
 eg λn=>oa a0 n 0
def u_ (a0:RB):RF:=
 (u9 a0).bind λaA=>some (aA&&(!(a0==([116,97,117]:RB))))
def yD (a0:Int):RF:=
 (mV a0 0 63).bind λaA=>some aA
def yE (a0:Int):RF:=
 (yD a0).bind λaA=>some (!aA)
def yF (dc:Int->RG) (a0:RD) (kI:Int):RG:=
 cond (decide (kI<(a0.length:Int))) ((cj a0 kI).bind λaA=>(yE aA).bind λaM=>cond aM (some kI) (dc (i64.wrap (kI+1)))) (some (-1))
def qK (a0:RD):Nat->Int->RG
 |0,_=>none
 |n+1,kI=>yF (qK a0 n) a0 kI
def yG (a0:RD):RG:=
 eg λn=>qK a0 n 0
def yH (a0:RD):RF:=
 (yG a0).bind λaA=>some (decide (0<=aA))
def va (a0:RD):RF:=
 (yH a0).bind λaA=>some (!aA)
def hP (n:Nat):RB:=if h:n<10 then [UInt8.ofNat (48+n)]else hP (n/10)++[UInt8.ofNat (48+n%10)]
 termination_by n
 decreasing_by omega
def eV (n:Int):RB:=if n<0 then 45::hP n.natAbs else hP n.toNat
def qL (a0 aw:Int):Option RB:=if-9223372036854775808<=a0/\a0<=9223372036854775807/\aw=10 then some (eV a0)else none
def l8 (a0:Int):Option RB:=
 (qL a0 10).bind λaA=>some aA
def strings_Join (a0:RA) (aw:RB):Option RB:=if a0.length<=140737488355328/\(fQ a0 aw).length<=140737488355328 then some (fQ a0 aw)else none
def sL (hd:RA->Int->Option RB) (a0:RD) (aw:RB) (j2:RA) (ib:Int):Option RB:=
 cond (decide (ib<(a0.length:Int))) ((cj a0 ib).bind λaA=>(l8 aA).bind λaM=>(cj j2 ib).bind λaY=>hd (List.set j2 (Int.toNat ib) aM) (i64.wrap (ib+1))) ((strings_Join j2 aw).bind λbu=>some bu)
def mW (a0:RD) (aw:RB):Nat->RA->Int->Option RB
 |0,_,_=>none
 |n+1,j2,ib=>sL (mW a0 aw n) a0 aw j2 ib
def ph (a0:RD) (aw:RB):Option RB:=
 (nr 16 (a0.length:Int)).bind λ_=>eg λn=>mW a0 aw n (replicate (Int.toNat (a0.length:Int)) ([]:RB)) 0
def vb (a0:RB) (aw:RD):Option (RB×Bool):=
 cond (a0==([116,97,117]:RB)) (some (([116,97,117]:RB),((aw.length:Int)==0))) ((u_ a0).bind λaM=>cond (!aM) (some (([]:RB),false)) (cond (decide (2<(aw.length:Int))) (some (([]:RB),false)) ((va aw).bind λaY=>cond (!aY) (some (([]:RB),false)) (cond ((aw.length:Int)==0) (some (a0,true)) ((ev (a0.length+1)).bind λ_=>(ph aw ([44]:RB)).bind λbu=>(ev ((a0++([40]:RB)).length+bu.length)).bind λ_=>(ev (((a0++([40]:RB))++bu).length+1)).bind λ_=>some ((((a0++([40]:RB))++bu)++([41]:RB)),true))))))
def sM (a0:RB) (aA:RB×RB×Bool) (l9:RD):Option (RB×RD×Bool):=
 (vb aA.1 l9).bind λaM=>cond ((!aM.2)||(!(aM.1==a0))) (some (([]:RB),[],false)) (some (aA.1,l9,true))
def vc (a0:RB):Option (RB×RD×Bool):=
 (qJ a0 ([40]:RB)).bind λaA=>cond aA.2.2 ((strings_TrimSuffix aA.2.1 ([41]:RB)).bind λaY=>(sJ aY ([44]:RB)).bind λbu=>(sK bu).bind λbY=>cond (!bY.2) (some (([]:RB),[],false)) (sM a0 aA bY.1)) (sM a0 aA [])
def pj (a0:RB):RF:=
 (vc a0).bind λaA=>some aA.2.2
def sN (a0:aX):RF:=
 (mV a0.Choice 0 199).bind λaA=>cond aA ((mV a0.bP 0 2).bind λaM=>cond aM ((mV a0.Second (-1) 2).bind λaY=>cond aY ((pj a0.Label).bind λbu=>some bu) (some false)) (some false)) (some false)
def pk (a0:RB):Option (aX×Bool):=
 (sJ a0 ([32]:RB)).bind λaA=>cond ((aA.length:Int) !=5) (some ((aX.mk 0 0 0 ([]:RB)),false)) ((c8 aA 0 3).bind λaM=>(sK aM).bind λaY=>cond (!aY.2) (some ((aX.mk 0 0 0 ([]:RB)),false)) ((cj aY.1 0).bind λbu=>(cj aY.1 1).bind λbY=>(cj aY.1 2).bind λdI=>(cj aA 3).bind λc6=>(sN (aX.mk bu bY dI c6)).bind λe4=>some ((aX.mk bu bY dI c6),e4)))
def vd (jw:Int->Int->RG) (ve:Int->Int->Int->RG) (a0:RB) (qM qN qO:Int):RG:=
 ve qM qN (i64.wrap (qO+1))
def DV (jw:Int->Int->RG) (ve:Int->Int->Int->RG) (a0:RB) (j3 kJ ln:Int):RG:=
 cond (decide (ln<8)) (cond (decide (65535<(i64.wrap (j3*2)))) (vd jw ve a0 (bitsOf .xor .i64 (bitsOf .and .i64 (i64.wrap (j3*2)) 65535) 4129) kJ ln) (vd jw ve a0 (i64.wrap (j3*2)) kJ ln)) (jw j3 (i64.wrap (kJ+1)))
def qP (jw:Int->Int->RG) (a0:RB):Nat->Int->Int->Int->RG
 |0,_,_,_=>none
 |n+1,j3,kJ,ln=>DV jw (qP jw a0 n) a0 j3 kJ ln
def DW (jw:Int->Int->RG) (a0:RB) (l_ ma:Int):RG:=
 cond (decide (ma<(a0.length:Int))) ((cj a0 ma).bind λaM=>eg λn=>qP jw a0 n (bitsOf .xor .i64 l_ (i64.wrap ((aM.toNat:Int)*256))) ma 0) (some l_)
def mX (a0:RB):Nat->Int->Int->RG
 |0,_,_=>none
 |n+1,l_,ma=>DW (mX a0 n) a0 l_ ma
def qQ (a0:RB) (aw:Int):RG:=
 (mV aw 0 65535).bind λaA=>cond (!aA) (some 0) (eg λn=>mX a0 n aw 0)
def pn (a0:aX) (aw:Int):Option (RB×Int):=
 (ph [a0.Choice,a0.bP,a0.Second] ([32]:RB)).bind λaA=>(ev (aA.length+1)).bind λ_=>(ev ((aA++([32]:RB)).length+a0.Label.length)).bind λ_=>(qQ ((aA++([32]:RB))++a0.Label) aw).bind λaM=>(ev (((aA++([32]:RB))++a0.Label).length+1)).bind λ_=>(l8 aM).bind λaY=>(ev ((((aA++([32]:RB))++a0.Label)++([32]:RB)).length+aY.length)).bind λ_=>(ev (((((aA++([32]:RB))++a0.Label)++([32]:RB))++aY).length+1)).bind λ_=>some ((((((aA++([32]:RB))++a0.Label)++([32]:RB))++aY)++([10]:RB)),aM)
def jA:Nat->RB->RK->Int->Int->Option (RK×Int)
 |0,_,_,_,_=>none
 |k+1,t,o,z,c=>if t=[]then some (o,z)else
  (qG t 10).bind λi=>(if 0<=i then(c8 t 0 (i+1)).bind λx=>(c8 t (i+1) t.length).bind λy=>some (x,y)else some (t,[])).bind λl=>
  (strings_TrimSuffix l.1 [10]).bind λu=>(pk u).bind λe=>(pn e.1 c).bind λg=>
  if e.2=false\/g.1≠l.1\/o.length=60 then some (o,z)else jA k l.2 (o++[e.1]) (i64.wrap (z+l.1.length)) g.2
def qR (a0:RB):Option (RK×Int):=if a0.length<=1048576 then jA (a0.length+1) a0 [] 0 65535 else none
def sO (a0:RB):Option (RK×Bool):=
 (qR a0).bind λaA=>cond (aA.2 !=(a0.length:Int)) (some ([],false)) (some (aA.1,true))
def sP (a0 aw:aX):RF:=
 cond (a0.Choice !=aw.Choice) (some false) (cond (a0.bP !=aw.bP) (some false) (cond (a0.Second !=aw.Second) (some false) (cond (!(a0.Label==aw.Label)) (some false) (some true))))
def LJ (qu:Int->RF) (a0 aw:RK) (lo:Int):RF:=
 cond (decide (lo<(a0.length:Int))) ((cj a0 lo).bind λaA=>(cj aw lo).bind λaM=>(sP aA aM).bind λaY=>cond (!aY) (some false) (qu (i64.wrap (lo+1)))) (some true)
def yI (a0 aw:RK):Nat->Int->RF
 |0,_=>none
 |n+1,lo=>LJ (yI a0 aw n) a0 aw lo
def sQ (a0 aw:RK):RF:=
 cond ((a0.length:Int) !=(aw.length:Int)) (some false) (eg λn=>yI a0 aw n 0)
def vf (qu:Int->RB->Option RB) (ic:Int) (ff:RB):Option RB:=
 cond (decide (0<ic)) ((ev (1+ff.length)).bind λ_=>qu (i64.wrap (Int.tdiv ic 10)) ([(hV (i64.wrap (48+(Int.tmod ic 10))))]++ff)) ((ev (1+ff.length)).bind λ_=>some (([109]:RB)++ff))
def po:Nat->Int->RB->Option RB
 |0,_,_=>none
 |n+1,ic,ff=>vf (po n) ic ff
def sR (a0:Int):Option RB:=
 cond (decide (a0<=0)) (some ([109,48]:RB)) (eg λn=>po n a0 ([]:RB))
def yJ (dc:RK->Int->Int->Option (Int×RK)) (gj:RK) (b1 bZ:Int):Option (Int×RK):=
 cond (decide (bZ<(gj.length:Int))) ((cj gj bZ).bind λaA=>(cj (List.set gj (Int.toNat bZ) (aX.mk b1 aA.bP aA.Second aA.Label)) bZ).bind λaM=>(cj (List.set (List.set gj (Int.toNat bZ) (aX.mk b1 aA.bP aA.Second aA.Label)) (Int.toNat bZ) (aX.mk aM.Choice (i64.wrap (b1+1)) aM.Second aM.Label)) bZ).bind λaY=>(sR (i64.wrap ((i64.wrap ((i64.wrap (b1+1))+1))+1))).bind λbu=>(cj (List.set (List.set (List.set gj (Int.toNat bZ) (aX.mk b1 aA.bP aA.Second aA.Label)) (Int.toNat bZ) (aX.mk aM.Choice (i64.wrap (b1+1)) aM.Second aM.Label)) (Int.toNat bZ) (aX.mk aY.Choice aY.bP (i64.wrap ((i64.wrap (b1+1))+1)) aY.Label)) bZ).bind λbY=>dc (List.set (List.set (List.set (List.set gj (Int.toNat bZ) (aX.mk b1 aA.bP aA.Second aA.Label)) (Int.toNat bZ) (aX.mk aM.Choice (i64.wrap (b1+1)) aM.Second aM.Label)) (Int.toNat bZ) (aX.mk aY.Choice aY.bP (i64.wrap ((i64.wrap (b1+1))+1)) aY.Label)) (Int.toNat bZ) (aX.mk bY.Choice bY.bP bY.Second bu)) (i64.wrap ((i64.wrap ((i64.wrap ((i64.wrap (b1+1))+1))+1))+1)) (i64.wrap (bZ+1))) (some (b1,gj))
def qS:Nat->RK->Int->Int->Option (Int×RK)
 |0,_,_,_=>none
 |n+1,gj,b1,bZ=>yJ (qS n) gj b1 bZ
def vg (a0:RK) (aw:Int):Option (Int×RK):=
 eg λn=>qS n a0 aw 0
def yK (dc:Int->Int->RG) (a0:RK) (b1 bZ:Int):RG:=
 cond (decide (bZ<(a0.length:Int))) ((cj a0 bZ).bind λaA=>cond (aA.Choice !=b1) (some (-1)) (cond (aA.bP !=(i64.wrap (b1+1))) (some (-1)) (cond (aA.Second !=(i64.wrap ((i64.wrap (b1+1))+1))) (some (-1)) ((sR (i64.wrap ((i64.wrap ((i64.wrap (b1+1))+1))+1))).bind λaM=>cond (!(aA.Label==aM)) (some (-1)) (dc (i64.wrap ((i64.wrap ((i64.wrap ((i64.wrap (b1+1))+1))+1))+1)) (i64.wrap (bZ+1))))))) (some b1)
def qT (a0:RK):Nat->Int->Int->RG
 |0,_,_=>none
 |n+1,b1,bZ=>yK (qT a0 n) a0 b1 bZ
def sS (a0:RK) (aw:Int):RG:=
 eg λn=>qT a0 n aw 0
def yL (a0:RB):RF:=
 cond (decide (1048576<(a0.length:Int))) (some true) ((u0 a0).bind λaA=>(sO a0).bind λaM=>(sQ aM.1 aA.1).bind λaY=>cond ((!aY)||(!(aM.2==aA.2))) (some false) ((vg aM.1 1).bind λbu=>(sS bu.2 1).bind λbY=>cond (decide (bY<0)) (some false) (cond (bY !=bu.1) (some false) ((sO a0).bind λdI=>(sQ dI.1 aA.1).bind λc6=>cond ((!c6)||(!(dI.2==aA.2))) (some false) ((sS bu.2 1).bind λe4=>cond (decide (e4<0)) (some false) (cond (e4 !=bu.1) (some false) (some true)))))))
end
end Go.lj
