/- Part of a proof that a law returns true for every input. No condition. -/
import Derived.Test.YteloniioljdceaaGreatDoorFwA
namespace Go.lj
open List Option Go.IntKind Nat Or
open Go Go.b_
set_option linter.unusedVariables false
noncomputable section
structure aX where
 Choice:Int
 bP:Int
 Second:Int
 Label:RC
abbrev RL:=List aX
def Q8 (x:aX):Prop:=(-9223372036854775808<=x.Choice/\x.Choice<=9223372036854775807)/\(-9223372036854775808<=x.bP/\x.bP<=9223372036854775807)/\(-9223372036854775808<=x.Second/\x.Second<=9223372036854775807)/\x.Label.length<=9223372036854775807
def uQ (jM:RB->Int->Int->Option RB) (a0:RC) (aw:UInt8) (qn:RB) (qo qp:Int):Option RB:=
 jM qn qo (i64.wrap (qp+1))
def yo (jM:RB->Int->Int->Option RB) (a0:RC) (aw:UInt8) (ia:RB) (l3 hM:Int):Option RB:=
 cond (decide (hM<(a0.length:Int))) ((cj a0 hM).bind λaA=>cond ((aA.toNat:Int)==(aw.toNat:Int)) ((c8 a0 l3 hM).bind λaM=>(room 16 (ia.length+1)).bind λ_=>uQ jM a0 aw (ia++[aM]) (i64.wrap (hM+1)) hM) (uQ jM a0 aw ia l3 hM)) ((c8 a0 l3 (a0.length:Int)).bind λaY=>(room 16 (ia.length+1)).bind λ_=>some (ia++[aY]))
def o9 (a0:RC) (aw:UInt8):Nat->RB->Int->Int->Option RB
 |0,_,_,_=>none
 |n+1,ia,l3,hM=>yo (o9 a0 aw n) a0 aw ia l3 hM
def ss (a0:RC) (aw:UInt8):Option RB:=
 eg λn=>o9 a0 aw n [] 0 0
def qq (a0:UInt8):RG:=
 some ((decide (48<=(a0.toNat:Int)))&&(decide ((a0.toNat:Int)<=57)))
def su (lk:Int):Option (Int×Bool):=
 some (lk,true)
def yp (LC:Int->Int->Option (Int×Bool)) (a0:RC) (gu hp ja:Int):Option (Int×Bool):=
 cond (decide (ja<(a0.length:Int))) ((cj a0 ja).bind λbu=>(qq bu).bind λbY=>cond (!bY) (some (0,false)) (LC (i64.wrap ((i64.wrap (10*hp))+(i64.wrap (u8.wrap ((bu.toNat:Int)-48))))) (i64.wrap (ja+1)))) (cond (gu==1) (su (i64.wrap (0-hp))) (su hp))
def mQ (a0:RC) (gu:Int):Nat->Int->Int->Option (Int×Bool)
 |0,_,_=>none
 |n+1,hp,ja=>yp (mQ a0 gu n) a0 gu hp ja
def qs (a0:RC) (gu:Int):Option (Int×Bool):=
 cond ((a0.length:Int)==gu) (some (0,false)) (cond (decide (18<(i64.wrap ((a0.length:Int)-gu)))) (some (0,false)) ((cj a0 gu).bind λaA=>cond ((aA.toNat:Int)==48) (cond (decide (1<(a0.length:Int))) (some (0,false)) (eg λn=>mQ a0 gu n 0 gu)) (eg λn=>mQ a0 gu n 0 gu)))
def o_ (a0:RC):Option (Int×Bool):=
 cond (decide (0<(a0.length:Int))) ((cj a0 0).bind λdI=>cond ((dI.toNat:Int)==45) (qs a0 1) (qs a0 0)) (qs a0 0)
def pa (a0 aw a2:Int):RG:=
 some ((decide (aw<=a0))&&(decide (a0<=a2)))
def yq (dc:Int->RH) (a0:RC) (kD:Int):RH:=
 cond (decide (kD<(a0.length:Int))) ((cj a0 kD).bind λaA=>cond ((aA.toNat:Int)==40) (some kD) (dc (i64.wrap (kD+1)))) (some (a0.length:Int))
def n8 (a0:RC):Nat->Int->RH
 |0,_=>none
 |n+1,kD=>yq (n8 a0 n) a0 kD
def qt (a0:RC):RH:=
 eg λn=>n8 a0 n 0
def sv (a0:UInt8):RG:=
 some ((decide (97<=(a0.toNat:Int)))&&(decide ((a0.toNat:Int)<=122)))
def yr (qu:Int->RG) (a0:RC) (ff:Int):RG:=
 cond (decide (ff<(a0.length:Int))) ((cj a0 ff).bind λaY=>(sv aY).bind λbu=>cond (!bu) ((qq aY).bind λbY=>cond (!bY) (some false) (qu (i64.wrap (ff+1)))) (qu (i64.wrap (ff+1)))) (some true)
def sw (a0:RC):Nat->Int->RG
 |0,_=>none
 |n+1,ff=>yr (sw a0 n) a0 ff
def sx (a0:RC):RG:=
 cond (a0==([]:RC)) (some false) (cond (decide (10<(a0.length:Int))) (some false) ((cj a0 0).bind λaA=>(sv aA).bind λaM=>cond (!aM) (some false) (eg λn=>sw a0 n 0)))
def uR (a0:RC):RG:=
 (sx a0).bind λaA=>some (aA&&(!(a0==([116,97,117]:RC))))
def ys (LD:RE->Int->Option (RE×Bool)) (c6:RB) (jb:RE) (kE:Int):Option (RE×Bool):=
 cond (decide (kE<(c6.length:Int))) ((cj c6 kE).bind λe4=>(o_ e4).bind λfy=>cond (!fy.2) (some ([],false)) ((pa fy.1 0 63).bind λgH=>cond (!gH) (some ([],false)) ((room 8 (jb.length+1)).bind λ_=>LD (jb++[fy.1]) (i64.wrap (kE+1))))) (some (jb,(decide ((jb.length:Int)<=2))))
def pb (c6:RB):Nat->RE->Int->Option (RE×Bool)
 |0,_,_=>none
 |n+1,jb,kE=>ys (pb c6 n) c6 jb kE
def sy (a0:RC):Option (RE×Bool):=
 (qt a0).bind λaA=>cond (aA==(a0.length:Int)) ((sx a0).bind λaM=>some ([],aM)) ((c8 a0 0 aA).bind λaY=>(uR aY).bind λbu=>cond (!bu) (some ([],false)) ((cj a0 (i64.wrap ((a0.length:Int)-1))).bind λbY=>cond ((bY.toNat:Int) !=41) (some ([],false)) ((c8 a0 (i64.wrap (aA+1)) (i64.wrap ((a0.length:Int)-1))).bind λdI=>(ss dI (44:UInt8)).bind λc6=>eg λn=>pb c6 n [] 0)))
def l4 (a0:RC):RG:=
 (sy a0).bind λaA=>some aA.2
def sA (a0:aX):RG:=
 (pa a0.Choice 0 199).bind λaA=>cond aA ((pa a0.bP 0 2).bind λaM=>cond aM ((pa a0.Second (-1) 2).bind λaY=>cond aY ((l4 a0.Label).bind λbu=>some bu) (some false)) (some false)) (some false)
def sC (jw:RC->Int->Option RC) (a0:Int) (mR:RC) (n9 l5:Int):Option RC:=
 (room 1 (mR.length+1)).bind λ_=>jw (mR++[(hV (i64.wrap (48+l5)))]) (i64.wrap (Int.tdiv n9 10))
def yt (LF:RC->Int->Option RC) (iE jY:RC) (kF:Int):Option RC:=
 cond (decide (0<=kF)) ((cj iE kF).bind λaA=>(room 1 (jY.length+1)).bind λ_=>LF (jY++[aA]) (i64.wrap (kF-1))) (some jY)
def qv (iE:RC):Nat->RC->Int->Option RC
 |0,_,_=>none
 |n+1,jY,kF=>yt (qv iE n) iE jY kF
def sD (iE:RC):Option RC:=
 eg λn=>qv iE n [] (i64.wrap ((iE.length:Int)-1))
def sE (jw:RC->Int->Option RC) (a0:Int) (iF:RC) (iG:Int):Option RC:=
 cond (iG !=0) (cond (decide ((Int.tmod iG 10)<0)) (sC jw a0 iF iG (i64.wrap (0-(Int.tmod iG 10)))) (sC jw a0 iF iG (Int.tmod iG 10))) (cond (decide (a0<0)) ((room 1 (iF.length+1)).bind λ_=>sD (iF++[(45:UInt8)])) (sD iF))
def jx (a0:Int):Nat->RC->Int->Option RC
 |0,_,_=>none
 |n+1,iF,iG=>sE (jx a0 n) a0 iF iG
def n_ (a0:Int):Option RC:=
 cond (a0==0) (some ([48]:RC)) (eg λn=>jx a0 n [] a0)
def sF (dc:Int->Int->RH) (uS:Int->Int->Int->RH) (a0:RC) (qw qx qy:Int):RH:=
 uS qw qx (i64.wrap (qy+1))
def uT (dc:Int->Int->RH) (uS:Int->Int->Int->RH) (a0:RC) (jy jZ kG:Int):RH:=
 cond (decide (kG<8)) (cond (decide (65535<(i64.wrap (jy*2)))) (sF dc uS a0 (bitsOf .xor .i64 (bitsOf .and .i64 (i64.wrap (jy*2)) 65535) 4129) jZ kG) (sF dc uS a0 (i64.wrap (jy*2)) jZ kG)) (dc jy (i64.wrap (jZ+1)))
def mS (dc:Int->Int->RH) (a0:RC):Nat->Int->Int->Int->RH
 |0,_,_,_=>none
 |n+1,jy,jZ,kG=>uT dc (mS dc a0 n) a0 jy jZ kG
def uU (dc:Int->Int->RH) (a0:RC) (b1 bZ:Int):RH:=
 cond (decide (bZ<(a0.length:Int))) ((cj a0 bZ).bind λaA=>eg λn=>mS dc a0 n (bitsOf .xor .i64 b1 (i64.wrap ((aA.toNat:Int)*256))) bZ 0) (some b1)
def j0 (a0:RC):Nat->Int->Int->RH
 |0,_,_=>none
 |n+1,b1,bZ=>uU (j0 a0 n) a0 b1 bZ
def pc (a0:RC) (aw:Int):RH:=
 eg λn=>j0 a0 n aw 0
def sG (a0:aX) (aw:Int):Option (RC×Int):=
 (n_ a0.Choice).bind λaA=>(ev (aA.length+1)).bind λ_=>(n_ a0.bP).bind λaM=>(ev ((aA++([32]:RC)).length+aM.length)).bind λ_=>(ev (((aA++([32]:RC))++aM).length+1)).bind λ_=>(n_ a0.Second).bind λaY=>(ev ((((aA++([32]:RC))++aM)++([32]:RC)).length+aY.length)).bind λ_=>(ev (((((aA++([32]:RC))++aM)++([32]:RC))++aY).length+1)).bind λ_=>(ev ((((((aA++([32]:RC))++aM)++([32]:RC))++aY)++([32]:RC)).length+a0.Label.length)).bind λ_=>(pc ((((((aA++([32]:RC))++aM)++([32]:RC))++aY)++([32]:RC))++a0.Label) aw).bind λbu=>(ev (((((((aA++([32]:RC))++aM)++([32]:RC))++aY)++([32]:RC))++a0.Label).length+1)).bind λ_=>(n_ bu).bind λbY=>(ev ((((((((aA++([32]:RC))++aM)++([32]:RC))++aY)++([32]:RC))++a0.Label)++([32]:RC)).length+bY.length)).bind λ_=>some (((((((((aA++([32]:RC))++aM)++([32]:RC))++aY)++([32]:RC))++a0.Label)++([32]:RC))++bY),bu)
def uV (a0:RC) (aw:Int):Option (aX×Int×Bool):=
 (ss a0 (32:UInt8)).bind λaA=>cond ((aA.length:Int) !=5) (some ((aX.mk 0 0 0 ([]:RC)),0,false)) ((cj aA 0).bind λaM=>(o_ aM).bind λaY=>(cj aA 1).bind λbu=>(o_ bu).bind λbY=>(cj aA 2).bind λdI=>(o_ dI).bind λc6=>(cj aA 3).bind λe4=>cond (!aY.2) (some ((aX.mk 0 0 0 ([]:RC)),0,false)) (cond (!bY.2) (some ((aX.mk 0 0 0 ([]:RC)),0,false)) (cond (!c6.2) (some ((aX.mk 0 0 0 ([]:RC)),0,false)) ((sA (aX.mk aY.1 bY.1 c6.1 e4)).bind λfy=>cond (!fy) (some ((aX.mk 0 0 0 ([]:RC)),0,false)) ((sG (aX.mk aY.1 bY.1 c6.1 e4) aw).bind λgH=>some ((aX.mk aY.1 bY.1 c6.1 e4),gH.2,(gH.1==a0)))))))
def pd (a0:RC) (qz:RL) (qA uW:Int):Option (RL×Int):=
 some (qz,qA)
def qB (uX:RL->Int->Int->Int->Option (RL×Int)) (a0:RC) (qC:RL) (qD qE qF:Int):Option (RL×Int):=
 uX qC qD qE (i64.wrap (qF+1))
def pe (uX:RL->Int->Int->Int->Option (RL×Int)) (a0:RC) (gI:RL) (ll jz fz:Int):Option (RL×Int):=
 cond ((decide (fz<(a0.length:Int)))&&(decide ((gI.length:Int)<60))) ((cj a0 fz).bind λaA=>cond ((aA.toNat:Int) !=10) (qB uX a0 gI ll jz fz) ((c8 a0 jz fz).bind λaM=>(uV aM ll).bind λaY=>cond (!aY.2.2) (pd a0 gI jz fz) ((room 40 (gI.length+1)).bind λ_=>qB uX a0 (gI++[aY.1]) aY.2.1 (i64.wrap (fz+1)) fz))) (pd a0 gI jz fz)
def iH (a0:RC):Nat->RL->Int->Int->Int->Option (RL×Int)
 |0,_,_,_,_=>none
 |n+1,gI,ll,jz,fz=>pe (iH a0 n) a0 gI ll jz fz
def uY (a0:RC):Option (RL×Int):=
 eg λn=>iH a0 n [] 65535 0 0
def uZ (a0:RC):Option (RL×Bool):=
 (uY a0).bind λaA=>cond (aA.2 !=(a0.length:Int)) (some ([],false)) (some (aA.1,true))
def e5:RC->UInt8->Int
 |[],_=> -1
 |b::l,c=>if b==c then 0 else if e5 l c== -1 then-1 else e5 l c+1
def yu (a0:RC) (aw:UInt8):RH:=some (e5 a0 aw)
def u0 (a0:RC) (aw:UInt8):RH:=
 (yu a0 aw).bind λaA=>some aA
def qG (a0:RC) (aw:UInt8):RH:=
 (u0 a0 aw).bind λaA=>some aA
def u1 (a0 aw:RC):RG:=
 cond (decide ((aw.length:Int)<=(a0.length:Int))) ((c8 a0 (i64.wrap ((a0.length:Int)-(aw.length:Int))) (a0.length:Int)).bind λaA=>some (aA==aw)) (some false)
def u2 (a0 aw:RC):Option RC:=
 (u1 a0 aw).bind λaA=>cond aA ((c8 a0 0 (i64.wrap ((a0.length:Int)-(aw.length:Int)))).bind λaM=>some aM) (some a0)
def strings_TrimSuffix (a0 aw:RC):Option RC:=
 (u2 a0 aw).bind λaA=>some aA
def yv (a0:RC) (aw:UInt8):RH:=some (a0.count aw:Nat)
def mT (a0 aw:RC):RH:=
 cond (((aw.length:Int)==0)||(aw==a0)) (some 0) (cond ((aw.length:Int)==1) ((cj aw 0).bind λaA=>(u0 a0 aA).bind λaM=>some aM) (cond (decide ((a0.length:Int)<=(aw.length:Int))) (some (-1)) (none)))
def sH (a0 aw:RC):RH:=
 (mT a0 aw).bind λaA=>some aA
def LG (LH:RC->Int->RH) (aw l6:RC) (l7:Int):RH:=
 (sH l6 aw).bind λaY=>cond (aY==(-1)) (some l7) ((c8 l6 (i64.wrap (aY+(aw.length:Int))) (l6.length:Int)).bind λbu=>LH bu (i64.wrap (l7+1)))
def yw (aw:RC):Nat->RC->Int->RH
 |0,_,_=>none
 |n+1,l6,l7=>LG (yw aw n) aw l6 l7
def yx (a0 aw:RC):RH:=
 cond ((aw.length:Int)==0) (none) (cond ((aw.length:Int)==1) ((cj aw 0).bind λaA=>(yv a0 aA).bind λaM=>some aM) (eg λn=>yw aw n a0 0))
def sI (a0 aw:RC) (a2 fg:Int) (qH:RC) (pf:RB) (mU:Int):Option RB:=
 (cj pf mU).bind λaA=>(c8 (List.set pf (Int.toNat mU) qH) 0 (i64.wrap (mU+1))).bind λaM=>some aM
def yy (LI:RC->RB->Int->Option RB) (a0 aw:RC) (a2 fg:Int) (iI:RC) (hN:RB) (fX:Int):Option RB:=
 cond (decide (fX<(i64.wrap ((fC false fg (i64.wrap ((a0.length:Int)+1)))-1)))) ((sH iI aw).bind λaY=>cond (decide (aY<0)) (sI a0 aw a2 fg iI hN fX) ((c8 iI 0 (i64.wrap (aY+a2))).bind λbu=>(cj hN fX).bind λbY=>(c8 iI (i64.wrap (aY+(aw.length:Int))) (iI.length:Int)).bind λdI=>LI dI (List.set hN (Int.toNat fX) bu) (i64.wrap (fX+1)))) (sI a0 aw a2 fg iI hN fX)
def pg (a0 aw:RC) (a2 fg:Int):Nat->RC->RB->Int->Option RB
 |0,_,_,_=>none
 |n+1,iI,hN,fX=>yy (pg a0 aw a2 fg n) a0 aw a2 fg iI hN fX
def u3 (a0 aw:RC) (a2 fg:Int):Option RB:=
 (nr 16 (fC false fg (i64.wrap ((a0.length:Int)+1)))).bind λ_=>eg λn=>pg a0 aw a2 fg n a0 (replicate (Int.toNat (fC false fg (i64.wrap ((a0.length:Int)+1)))) ([]:RC)) 0
def yz (a0 aw:RC) (a2 a3:Int):Option RB:=
 cond (a3==0) (some []) (cond (aw==([]:RC)) (none) (cond (decide (a3<0)) ((yx a0 aw).bind λc6=>u3 a0 aw a2 (i64.wrap (c6+1))) (u3 a0 aw a2 a3)))
def sJ (a0 aw:RC):Option RB:=
 (yz a0 aw 0 (-1)).bind λaA=>some aA
def df (c:UInt8):Bool:=decide (48<=c.toNat)&&decide (c.toNat<=57)
def fh (d:RC):Nat:=d.foldl (λn c=>10*n+(c.toNat-48)) 0
def hO (k:Nat) (d:RC):Int×Bool:=if d≠[]/\d.length<=18/\d.all df=true/\¬(d.head? =some 48/\1<d.length+k)then(if k=1 then-(fh d:Int)else fh d,true)else(0,false)
def dz (s:RC):Int×Bool:=if s.head? =some 45 then hO 1 s.tail else hO 0 s
def u4 (a0:RC):Option (Int×Bool):=some (dz a0)
def yA (hd:RE->Int->Option (RE×Bool)) (a0:RB) (j1:RE) (kH:Int):Option (RE×Bool):=
 cond (decide (kH<(a0.length:Int))) ((cj a0 kH).bind λaA=>(u4 aA).bind λaM=>cond (!aM.2) (some ([],false)) ((room 8 (j1.length+1)).bind λ_=>hd (j1++[aM.1]) (i64.wrap (kH+1)))) (some (j1,true))
def qI (a0:RB):Nat->RE->Int->Option (RE×Bool)
 |0,_,_=>none
 |n+1,j1,kH=>yA (qI a0 n) a0 j1 kH
def sK (a0:RB):Option (RE×Bool):=
 eg λn=>qI a0 n [] 0
def mV (a0 aw a2:Int):RG:=
 some ((decide (aw<=a0))&&(decide (a0<=a2)))
def u5 (a0 aw:RC):Option (RC×RC×Bool):=
 (mT a0 aw).bind λaA=>cond (decide (0<=aA)) ((c8 a0 0 aA).bind λaM=>(c8 a0 (i64.wrap (aA+(aw.length:Int))) (a0.length:Int)).bind λaY=>some (aM,aY,true)) (some (a0,([]:RC),false))
def qJ (a0 aw:RC):Option (RC×RC×Bool):=
 (u5 a0 aw).bind λaA=>some (aA.1,aA.2.1,aA.2.2)
def yB (a0:UInt8):RG:=
 some ((decide (48<=(a0.toNat:Int)))&&(decide ((a0.toNat:Int)<=57)))
def u6 (dc:Int->RG) (a0:RC) (jc:Int):RG:=
 cond (decide (jc<(a0.length:Int))) ((cj a0 jc).bind λaA=>cond (!((decide (97<=(aA.toNat:Int)))&&(decide ((aA.toNat:Int)<=122)))) (cond (jc==0) (some false) ((yB aA).bind λaM=>cond (!aM) (some false) (dc (i64.wrap (jc+1))))) (dc (i64.wrap (jc+1)))) (some ((decide (1<=(a0.length:Int)))&&(decide ((a0.length:Int)<=10))))
def oa (a0:RC):Nat->Int->RG
 |0,_=>none
 |n+1,jc=>u6 (oa a0 n) a0 jc
def u7 (a0:RC):RG:=
 eg λn=>oa a0 n 0
def u9 (a0:RC):RG:=
 (u7 a0).bind λaA=>some (aA&&(!(a0==([116,97,117]:RC))))
def yC (a0:Int):RG:=
 (mV a0 0 63).bind λaA=>some aA
def yD (a0:Int):RG:=
 (yC a0).bind λaA=>some (!aA)
def yE (dc:Int->RH) (a0:RE) (kI:Int):RH:=
 cond (decide (kI<(a0.length:Int))) ((cj a0 kI).bind λaA=>(yD aA).bind λaM=>cond aM (some kI) (dc (i64.wrap (kI+1)))) (some (-1))
def qK (a0:RE):Nat->Int->RH
 |0,_=>none
 |n+1,kI=>yE (qK a0 n) a0 kI
def yF (a0:RE):RH:=
 eg λn=>qK a0 n 0
def yG (a0:RE):RG:=
 (yF a0).bind λaA=>some (decide (0<=aA))
def u_ (a0:RE):RG:=
 (yG a0).bind λaA=>some (!aA)
def hP (n:Nat):RC:=if h:n<10 then [UInt8.ofNat (48+n)]else hP (n/10)++[UInt8.ofNat (48+n%10)]
 termination_by n
 decreasing_by omega
def eV (n:Int):RC:=if n<0 then 45::hP n.natAbs else hP n.toNat
def qL (a0 aw:Int):Option RC:=if-9223372036854775808<=a0/\a0<=9223372036854775807/\aw=10 then some (eV a0)else none
def l8 (a0:Int):Option RC:=
 (qL a0 10).bind λaA=>some aA
def strings_Join (a0:RB) (aw:RC):Option RC:=if a0.length<=140737488355328/\(fQ a0 aw).length<=140737488355328 then some (fQ a0 aw)else none
def sL (hd:RB->Int->Option RC) (a0:RE) (aw:RC) (j2:RB) (ib:Int):Option RC:=
 cond (decide (ib<(a0.length:Int))) ((cj a0 ib).bind λaA=>(l8 aA).bind λaM=>(cj j2 ib).bind λaY=>hd (List.set j2 (Int.toNat ib) aM) (i64.wrap (ib+1))) ((strings_Join j2 aw).bind λbu=>some bu)
def mW (a0:RE) (aw:RC):Nat->RB->Int->Option RC
 |0,_,_=>none
 |n+1,j2,ib=>sL (mW a0 aw n) a0 aw j2 ib
def ph (a0:RE) (aw:RC):Option RC:=
 (nr 16 (a0.length:Int)).bind λ_=>eg λn=>mW a0 aw n (replicate (Int.toNat (a0.length:Int)) ([]:RC)) 0
def va (a0:RC) (aw:RE):Option (RC×Bool):=
 cond (a0==([116,97,117]:RC)) (some (([116,97,117]:RC),((aw.length:Int)==0))) ((u9 a0).bind λaM=>cond (!aM) (some (([]:RC),false)) (cond (decide (2<(aw.length:Int))) (some (([]:RC),false)) ((u_ aw).bind λaY=>cond (!aY) (some (([]:RC),false)) (cond ((aw.length:Int)==0) (some (a0,true)) ((ev (a0.length+1)).bind λ_=>(ph aw ([44]:RC)).bind λbu=>(ev ((a0++([40]:RC)).length+bu.length)).bind λ_=>(ev (((a0++([40]:RC))++bu).length+1)).bind λ_=>some ((((a0++([40]:RC))++bu)++([41]:RC)),true))))))
def sM (a0:RC) (aA:RC×RC×Bool) (l9:RE):Option (RC×RE×Bool):=
 (va aA.1 l9).bind λaM=>cond ((!aM.2)||(!(aM.1==a0))) (some (([]:RC),[],false)) (some (aA.1,l9,true))
def vb (a0:RC):Option (RC×RE×Bool):=
 (qJ a0 ([40]:RC)).bind λaA=>cond aA.2.2 ((strings_TrimSuffix aA.2.1 ([41]:RC)).bind λaY=>(sJ aY ([44]:RC)).bind λbu=>(sK bu).bind λbY=>cond (!bY.2) (some (([]:RC),[],false)) (sM a0 aA bY.1)) (sM a0 aA [])
def pj (a0:RC):RG:=
 (vb a0).bind λaA=>some aA.2.2
def sN (a0:aX):RG:=
 (mV a0.Choice 0 199).bind λaA=>cond aA ((mV a0.bP 0 2).bind λaM=>cond aM ((mV a0.Second (-1) 2).bind λaY=>cond aY ((pj a0.Label).bind λbu=>some bu) (some false)) (some false)) (some false)
def pk (a0:RC):Option (aX×Bool):=
 (sJ a0 ([32]:RC)).bind λaA=>cond ((aA.length:Int) !=5) (some ((aX.mk 0 0 0 ([]:RC)),false)) ((c8 aA 0 3).bind λaM=>(sK aM).bind λaY=>cond (!aY.2) (some ((aX.mk 0 0 0 ([]:RC)),false)) ((cj aY.1 0).bind λbu=>(cj aY.1 1).bind λbY=>(cj aY.1 2).bind λdI=>(cj aA 3).bind λc6=>(sN (aX.mk bu bY dI c6)).bind λe4=>some ((aX.mk bu bY dI c6),e4)))
def vc (jw:Int->Int->RH) (vd:Int->Int->Int->RH) (a0:RC) (qM qN qO:Int):RH:=
 vd qM qN (i64.wrap (qO+1))
def DV (jw:Int->Int->RH) (vd:Int->Int->Int->RH) (a0:RC) (j3 kJ ln:Int):RH:=
 cond (decide (ln<8)) (cond (decide (65535<(i64.wrap (j3*2)))) (vc jw vd a0 (bitsOf .xor .i64 (bitsOf .and .i64 (i64.wrap (j3*2)) 65535) 4129) kJ ln) (vc jw vd a0 (i64.wrap (j3*2)) kJ ln)) (jw j3 (i64.wrap (kJ+1)))
def qP (jw:Int->Int->RH) (a0:RC):Nat->Int->Int->Int->RH
 |0,_,_,_=>none
 |n+1,j3,kJ,ln=>DV jw (qP jw a0 n) a0 j3 kJ ln
def DW (jw:Int->Int->RH) (a0:RC) (l_ ma:Int):RH:=
 cond (decide (ma<(a0.length:Int))) ((cj a0 ma).bind λaM=>eg λn=>qP jw a0 n (bitsOf .xor .i64 l_ (i64.wrap ((aM.toNat:Int)*256))) ma 0) (some l_)
def mX (a0:RC):Nat->Int->Int->RH
 |0,_,_=>none
 |n+1,l_,ma=>DW (mX a0 n) a0 l_ ma
def qQ (a0:RC) (aw:Int):RH:=
 (mV aw 0 65535).bind λaA=>cond (!aA) (some 0) (eg λn=>mX a0 n aw 0)
def pn (a0:aX) (aw:Int):Option (RC×Int):=
 (ph [a0.Choice,a0.bP,a0.Second] ([32]:RC)).bind λaA=>(ev (aA.length+1)).bind λ_=>(ev ((aA++([32]:RC)).length+a0.Label.length)).bind λ_=>(qQ ((aA++([32]:RC))++a0.Label) aw).bind λaM=>(ev (((aA++([32]:RC))++a0.Label).length+1)).bind λ_=>(l8 aM).bind λaY=>(ev ((((aA++([32]:RC))++a0.Label)++([32]:RC)).length+aY.length)).bind λ_=>(ev (((((aA++([32]:RC))++a0.Label)++([32]:RC))++aY).length+1)).bind λ_=>some ((((((aA++([32]:RC))++a0.Label)++([32]:RC))++aY)++([10]:RC)),aM)
def jA:Nat->RC->RL->Int->Int->Option (RL×Int)
 |0,_,_,_,_=>none
 |k+1,t,o,z,c=>if t=[]then some (o,z)else
  (qG t 10).bind λi=>(if 0<=i then(c8 t 0 (i+1)).bind λx=>(c8 t (i+1) t.length).bind λy=>some (x,y)else some (t,[])).bind λl=>
  (strings_TrimSuffix l.1 [10]).bind λu=>(pk u).bind λe=>(pn e.1 c).bind λg=>
  if e.2=false\/g.1≠l.1\/o.length=60 then some (o,z)else jA k l.2 (o++[e.1]) (i64.wrap (z+l.1.length)) g.2
def qR (a0:RC):Option (RL×Int):=if a0.length<=1048576 then jA (a0.length+1) a0 [] 0 65535 else none
def sO (a0:RC):Option (RL×Bool):=
 (qR a0).bind λaA=>cond (aA.2 !=(a0.length:Int)) (some ([],false)) (some (aA.1,true))
def sP (a0 aw:aX):RG:=
 cond (a0.Choice !=aw.Choice) (some false) (cond (a0.bP !=aw.bP) (some false) (cond (a0.Second !=aw.Second) (some false) (cond (!(a0.Label==aw.Label)) (some false) (some true))))
def LJ (qu:Int->RG) (a0 aw:RL) (lo:Int):RG:=
 cond (decide (lo<(a0.length:Int))) ((cj a0 lo).bind λaA=>(cj aw lo).bind λaM=>(sP aA aM).bind λaY=>cond (!aY) (some false) (qu (i64.wrap (lo+1)))) (some true)
def yH (a0 aw:RL):Nat->Int->RG
 |0,_=>none
 |n+1,lo=>LJ (yH a0 aw n) a0 aw lo
def sQ (a0 aw:RL):RG:=
 cond ((a0.length:Int) !=(aw.length:Int)) (some false) (eg λn=>yH a0 aw n 0)
def ve (qu:Int->RC->Option RC) (ic:Int) (ff:RC):Option RC:=
 cond (decide (0<ic)) ((ev (1+ff.length)).bind λ_=>qu (i64.wrap (Int.tdiv ic 10)) ([(hV (i64.wrap (48+(Int.tmod ic 10))))]++ff)) ((ev (1+ff.length)).bind λ_=>some (([109]:RC)++ff))
def po:Nat->Int->RC->Option RC
 |0,_,_=>none
 |n+1,ic,ff=>ve (po n) ic ff
def sR (a0:Int):Option RC:=
 cond (decide (a0<=0)) (some ([109,48]:RC)) (eg λn=>po n a0 ([]:RC))
def yI (dc:RL->Int->Int->Option (Int×RL)) (gj:RL) (b1 bZ:Int):Option (Int×RL):=
 cond (decide (bZ<(gj.length:Int))) ((cj gj bZ).bind λaA=>(cj (List.set gj (Int.toNat bZ) (aX.mk b1 aA.bP aA.Second aA.Label)) bZ).bind λaM=>(cj (List.set (List.set gj (Int.toNat bZ) (aX.mk b1 aA.bP aA.Second aA.Label)) (Int.toNat bZ) (aX.mk aM.Choice (i64.wrap (b1+1)) aM.Second aM.Label)) bZ).bind λaY=>(sR (i64.wrap ((i64.wrap ((i64.wrap (b1+1))+1))+1))).bind λbu=>(cj (List.set (List.set (List.set gj (Int.toNat bZ) (aX.mk b1 aA.bP aA.Second aA.Label)) (Int.toNat bZ) (aX.mk aM.Choice (i64.wrap (b1+1)) aM.Second aM.Label)) (Int.toNat bZ) (aX.mk aY.Choice aY.bP (i64.wrap ((i64.wrap (b1+1))+1)) aY.Label)) bZ).bind λbY=>dc (List.set (List.set (List.set (List.set gj (Int.toNat bZ) (aX.mk b1 aA.bP aA.Second aA.Label)) (Int.toNat bZ) (aX.mk aM.Choice (i64.wrap (b1+1)) aM.Second aM.Label)) (Int.toNat bZ) (aX.mk aY.Choice aY.bP (i64.wrap ((i64.wrap (b1+1))+1)) aY.Label)) (Int.toNat bZ) (aX.mk bY.Choice bY.bP bY.Second bu)) (i64.wrap ((i64.wrap ((i64.wrap ((i64.wrap (b1+1))+1))+1))+1)) (i64.wrap (bZ+1))) (some (b1,gj))
def qS:Nat->RL->Int->Int->Option (Int×RL)
 |0,_,_,_=>none
 |n+1,gj,b1,bZ=>yI (qS n) gj b1 bZ
def vf (a0:RL) (aw:Int):Option (Int×RL):=
 eg λn=>qS n a0 aw 0
def yJ (dc:Int->Int->RH) (a0:RL) (b1 bZ:Int):RH:=
 cond (decide (bZ<(a0.length:Int))) ((cj a0 bZ).bind λaA=>cond (aA.Choice !=b1) (some (-1)) (cond (aA.bP !=(i64.wrap (b1+1))) (some (-1)) (cond (aA.Second !=(i64.wrap ((i64.wrap (b1+1))+1))) (some (-1)) ((sR (i64.wrap ((i64.wrap ((i64.wrap (b1+1))+1))+1))).bind λaM=>cond (!(aA.Label==aM)) (some (-1)) (dc (i64.wrap ((i64.wrap ((i64.wrap ((i64.wrap (b1+1))+1))+1))+1)) (i64.wrap (bZ+1))))))) (some b1)
def qT (a0:RL):Nat->Int->Int->RH
 |0,_,_=>none
 |n+1,b1,bZ=>yJ (qT a0 n) a0 b1 bZ
def sS (a0:RL) (aw:Int):RH:=
 eg λn=>qT a0 n aw 0
def yK (a0:RC):RG:=
 cond (decide (1048576<(a0.length:Int))) (some true) ((uZ a0).bind λaA=>(sO a0).bind λaM=>(sQ aM.1 aA.1).bind λaY=>cond ((!aY)||(!(aM.2==aA.2))) (some false) ((vf aM.1 1).bind λbu=>(sS bu.2 1).bind λbY=>cond (decide (bY<0)) (some false) (cond (bY !=bu.1) (some false) ((sO a0).bind λdI=>(sQ dI.1 aA.1).bind λc6=>cond ((!c6)||(!(dI.2==aA.2))) (some false) ((sS bu.2 1).bind λe4=>cond (decide (e4<0)) (some false) (cond (e4 !=bu.1) (some false) (some true)))))))
end
end Go.lj
