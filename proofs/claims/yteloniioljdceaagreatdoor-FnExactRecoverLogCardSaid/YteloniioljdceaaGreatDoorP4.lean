/- Part of a proof that a law returns true for every input. No condition. -/
import Derived.Test.YteloniioljdceaaGreatDoorFwA
namespace Go.lh
open List Option Go.IntKind Nat Or
open Go Go.ca
set_option linter.unusedVariables false
noncomputable section
structure aX where
 Choice:Int
 bP:Int
 Second:Int
 Label:RD
abbrev RM:=List aX
def Q9 (x:aX):Prop:=(-9223372036854775808<=x.Choice/\x.Choice<=9223372036854775807)/\(-9223372036854775808<=x.bP/\x.bP<=9223372036854775807)/\(-9223372036854775808<=x.Second/\x.Second<=9223372036854775807)/\x.Label.length<=9223372036854775807
def uQ (jL:RC->Int->Int->Option RC) (a0:RD) (aw:UInt8) (qn:RC) (qo qp:Int):Option RC:=
 jL qn qo (i64.wrap (qp+1))
def yo (jL:RC->Int->Int->Option RC) (a0:RD) (aw:UInt8) (ia:RC) (l3 hJ:Int):Option RC:=
 cond (decide (hJ<(a0.length:Int))) ((cj a0 hJ).bind λaA=>cond ((aA.toNat:Int)==(aw.toNat:Int)) ((c8 a0 l3 hJ).bind λaM=>(room 16 (ia.length+1)).bind λ_=>uQ jL a0 aw (ia++[aM]) (i64.wrap (hJ+1)) hJ) (uQ jL a0 aw ia l3 hJ)) ((c8 a0 l3 (a0.length:Int)).bind λaY=>(room 16 (ia.length+1)).bind λ_=>some (ia++[aY]))
def o9 (a0:RD) (aw:UInt8):Nat->RC->Int->Int->Option RC
 |0,_,_,_=>none
 |n+1,ia,l3,hJ=>yo (o9 a0 aw n) a0 aw ia l3 hJ
def ss (a0:RD) (aw:UInt8):Option RC:=
 eg λn=>o9 a0 aw n [] 0 0
def qq (a0:UInt8):RH:=
 some ((decide (48<=(a0.toNat:Int)))&&(decide ((a0.toNat:Int)<=57)))
def su (lj:Int):Option (Int×Bool):=
 some (lj,true)
def yp (LB:Int->Int->Option (Int×Bool)) (a0:RD) (gu hp i_:Int):Option (Int×Bool):=
 cond (decide (i_<(a0.length:Int))) ((cj a0 i_).bind λbu=>(qq bu).bind λbY=>cond (!bY) (some (0,false)) (LB (i64.wrap ((i64.wrap (10*hp))+(i64.wrap (u8.wrap ((bu.toNat:Int)-48))))) (i64.wrap (i_+1)))) (cond (gu==1) (su (i64.wrap (0-hp))) (su hp))
def mQ (a0:RD) (gu:Int):Nat->Int->Int->Option (Int×Bool)
 |0,_,_=>none
 |n+1,hp,i_=>yp (mQ a0 gu n) a0 gu hp i_
def qs (a0:RD) (gu:Int):Option (Int×Bool):=
 cond ((a0.length:Int)==gu) (some (0,false)) (cond (decide (18<(i64.wrap ((a0.length:Int)-gu)))) (some (0,false)) ((cj a0 gu).bind λaA=>cond ((aA.toNat:Int)==48) (cond (decide (1<(a0.length:Int))) (some (0,false)) (eg λn=>mQ a0 gu n 0 gu)) (eg λn=>mQ a0 gu n 0 gu)))
def o_ (a0:RD):Option (Int×Bool):=
 cond (decide (0<(a0.length:Int))) ((cj a0 0).bind λdK=>cond ((dK.toNat:Int)==45) (qs a0 1) (qs a0 0)) (qs a0 0)
def pa (a0 aw a2:Int):RH:=
 some ((decide (aw<=a0))&&(decide (a0<=a2)))
def yq (db:Int->RI) (a0:RD) (kB:Int):RI:=
 cond (decide (kB<(a0.length:Int))) ((cj a0 kB).bind λaA=>cond ((aA.toNat:Int)==40) (some kB) (db (i64.wrap (kB+1)))) (some (a0.length:Int))
def n8 (a0:RD):Nat->Int->RI
 |0,_=>none
 |n+1,kB=>yq (n8 a0 n) a0 kB
def qt (a0:RD):RI:=
 eg λn=>n8 a0 n 0
def sv (a0:UInt8):RH:=
 some ((decide (97<=(a0.toNat:Int)))&&(decide ((a0.toNat:Int)<=122)))
def yr (qu:Int->RH) (a0:RD) (ff:Int):RH:=
 cond (decide (ff<(a0.length:Int))) ((cj a0 ff).bind λaY=>(sv aY).bind λbu=>cond (!bu) ((qq aY).bind λbY=>cond (!bY) (some false) (qu (i64.wrap (ff+1)))) (qu (i64.wrap (ff+1)))) (some true)
def sw (a0:RD):Nat->Int->RH
 |0,_=>none
 |n+1,ff=>yr (sw a0 n) a0 ff
def sx (a0:RD):RH:=
 cond (a0==([]:RD)) (some false) (cond (decide (10<(a0.length:Int))) (some false) ((cj a0 0).bind λaA=>(sv aA).bind λaM=>cond (!aM) (some false) (eg λn=>sw a0 n 0)))
def uR (a0:RD):RH:=
 (sx a0).bind λaA=>some (aA&&(!(a0==([116,97,117]:RD))))
def ys (LC:RF->Int->Option (RF×Bool)) (c7:RC) (ja:RF) (kC:Int):Option (RF×Bool):=
 cond (decide (kC<(c7.length:Int))) ((cj c7 kC).bind λe4=>(o_ e4).bind λfy=>cond (!fy.2) (some ([],false)) ((pa fy.1 0 63).bind λgH=>cond (!gH) (some ([],false)) ((room 8 (ja.length+1)).bind λ_=>LC (ja++[fy.1]) (i64.wrap (kC+1))))) (some (ja,(decide ((ja.length:Int)<=2))))
def pb (c7:RC):Nat->RF->Int->Option (RF×Bool)
 |0,_,_=>none
 |n+1,ja,kC=>ys (pb c7 n) c7 ja kC
def sy (a0:RD):Option (RF×Bool):=
 (qt a0).bind λaA=>cond (aA==(a0.length:Int)) ((sx a0).bind λaM=>some ([],aM)) ((c8 a0 0 aA).bind λaY=>(uR aY).bind λbu=>cond (!bu) (some ([],false)) ((cj a0 (i64.wrap ((a0.length:Int)-1))).bind λbY=>cond ((bY.toNat:Int) !=41) (some ([],false)) ((c8 a0 (i64.wrap (aA+1)) (i64.wrap ((a0.length:Int)-1))).bind λdK=>(ss dK (44:UInt8)).bind λc7=>eg λn=>pb c7 n [] 0)))
def l4 (a0:RD):RH:=
 (sy a0).bind λaA=>some aA.2
def sA (a0:aX):RH:=
 (pa a0.Choice 0 199).bind λaA=>cond aA ((pa a0.bP 0 2).bind λaM=>cond aM ((pa a0.Second (-1) 2).bind λaY=>cond aY ((l4 a0.Label).bind λbu=>some bu) (some false)) (some false)) (some false)
def sC (jv:RD->Int->Option RD) (a0:Int) (mR:RD) (n9 l5:Int):Option RD:=
 (room 1 (mR.length+1)).bind λ_=>jv (mR++[(hT (i64.wrap (48+l5)))]) (i64.wrap (Int.tdiv n9 10))
def yt (LD:RD->Int->Option RD) (iE jU:RD) (kD:Int):Option RD:=
 cond (decide (0<=kD)) ((cj iE kD).bind λaA=>(room 1 (jU.length+1)).bind λ_=>LD (jU++[aA]) (i64.wrap (kD-1))) (some jU)
def qv (iE:RD):Nat->RD->Int->Option RD
 |0,_,_=>none
 |n+1,jU,kD=>yt (qv iE n) iE jU kD
def sD (iE:RD):Option RD:=
 eg λn=>qv iE n [] (i64.wrap ((iE.length:Int)-1))
def sE (jv:RD->Int->Option RD) (a0:Int) (iF:RD) (iG:Int):Option RD:=
 cond (iG !=0) (cond (decide ((Int.tmod iG 10)<0)) (sC jv a0 iF iG (i64.wrap (0-(Int.tmod iG 10)))) (sC jv a0 iF iG (Int.tmod iG 10))) (cond (decide (a0<0)) ((room 1 (iF.length+1)).bind λ_=>sD (iF++[(45:UInt8)])) (sD iF))
def jw (a0:Int):Nat->RD->Int->Option RD
 |0,_,_=>none
 |n+1,iF,iG=>sE (jw a0 n) a0 iF iG
def n_ (a0:Int):Option RD:=
 cond (a0==0) (some ([48]:RD)) (eg λn=>jw a0 n [] a0)
def sF (db:Int->Int->RI) (uS:Int->Int->Int->RI) (a0:RD) (qw qx qy:Int):RI:=
 uS qw qx (i64.wrap (qy+1))
def uT (db:Int->Int->RI) (uS:Int->Int->Int->RI) (a0:RD) (jx jV kE:Int):RI:=
 cond (decide (kE<8)) (cond (decide (65535<(i64.wrap (jx*2)))) (sF db uS a0 (bitsOf .xor .i64 (bitsOf .and .i64 (i64.wrap (jx*2)) 65535) 4129) jV kE) (sF db uS a0 (i64.wrap (jx*2)) jV kE)) (db jx (i64.wrap (jV+1)))
def mS (db:Int->Int->RI) (a0:RD):Nat->Int->Int->Int->RI
 |0,_,_,_=>none
 |n+1,jx,jV,kE=>uT db (mS db a0 n) a0 jx jV kE
def uU (db:Int->Int->RI) (a0:RD) (b1 bZ:Int):RI:=
 cond (decide (bZ<(a0.length:Int))) ((cj a0 bZ).bind λaA=>eg λn=>mS db a0 n (bitsOf .xor .i64 b1 (i64.wrap ((aA.toNat:Int)*256))) bZ 0) (some b1)
def jW (a0:RD):Nat->Int->Int->RI
 |0,_,_=>none
 |n+1,b1,bZ=>uU (jW a0 n) a0 b1 bZ
def pc (a0:RD) (aw:Int):RI:=
 eg λn=>jW a0 n aw 0
def sG (a0:aX) (aw:Int):Option (RD×Int):=
 (n_ a0.Choice).bind λaA=>(ev (aA.length+1)).bind λ_=>(n_ a0.bP).bind λaM=>(ev ((aA++([32]:RD)).length+aM.length)).bind λ_=>(ev (((aA++([32]:RD))++aM).length+1)).bind λ_=>(n_ a0.Second).bind λaY=>(ev ((((aA++([32]:RD))++aM)++([32]:RD)).length+aY.length)).bind λ_=>(ev (((((aA++([32]:RD))++aM)++([32]:RD))++aY).length+1)).bind λ_=>(ev ((((((aA++([32]:RD))++aM)++([32]:RD))++aY)++([32]:RD)).length+a0.Label.length)).bind λ_=>(pc ((((((aA++([32]:RD))++aM)++([32]:RD))++aY)++([32]:RD))++a0.Label) aw).bind λbu=>(ev (((((((aA++([32]:RD))++aM)++([32]:RD))++aY)++([32]:RD))++a0.Label).length+1)).bind λ_=>(n_ bu).bind λbY=>(ev ((((((((aA++([32]:RD))++aM)++([32]:RD))++aY)++([32]:RD))++a0.Label)++([32]:RD)).length+bY.length)).bind λ_=>some (((((((((aA++([32]:RD))++aM)++([32]:RD))++aY)++([32]:RD))++a0.Label)++([32]:RD))++bY),bu)
def uV (a0:RD) (aw:Int):Option (aX×Int×Bool):=
 (ss a0 (32:UInt8)).bind λaA=>cond ((aA.length:Int) !=5) (some ((aX.mk 0 0 0 ([]:RD)),0,false)) ((cj aA 0).bind λaM=>(o_ aM).bind λaY=>(cj aA 1).bind λbu=>(o_ bu).bind λbY=>(cj aA 2).bind λdK=>(o_ dK).bind λc7=>(cj aA 3).bind λe4=>cond (!aY.2) (some ((aX.mk 0 0 0 ([]:RD)),0,false)) (cond (!bY.2) (some ((aX.mk 0 0 0 ([]:RD)),0,false)) (cond (!c7.2) (some ((aX.mk 0 0 0 ([]:RD)),0,false)) ((sA (aX.mk aY.1 bY.1 c7.1 e4)).bind λfy=>cond (!fy) (some ((aX.mk 0 0 0 ([]:RD)),0,false)) ((sG (aX.mk aY.1 bY.1 c7.1 e4) aw).bind λgH=>some ((aX.mk aY.1 bY.1 c7.1 e4),gH.2,(gH.1==a0)))))))
def pd (a0:RD) (qz:RM) (qA uW:Int):Option (RM×Int):=
 some (qz,qA)
def qB (uX:RM->Int->Int->Int->Option (RM×Int)) (a0:RD) (qC:RM) (qD qE qF:Int):Option (RM×Int):=
 uX qC qD qE (i64.wrap (qF+1))
def pe (uX:RM->Int->Int->Int->Option (RM×Int)) (a0:RD) (gI:RM) (lk jy fz:Int):Option (RM×Int):=
 cond ((decide (fz<(a0.length:Int)))&&(decide ((gI.length:Int)<60))) ((cj a0 fz).bind λaA=>cond ((aA.toNat:Int) !=10) (qB uX a0 gI lk jy fz) ((c8 a0 jy fz).bind λaM=>(uV aM lk).bind λaY=>cond (!aY.2.2) (pd a0 gI jy fz) ((room 40 (gI.length+1)).bind λ_=>qB uX a0 (gI++[aY.1]) aY.2.1 (i64.wrap (fz+1)) fz))) (pd a0 gI jy fz)
def iH (a0:RD):Nat->RM->Int->Int->Int->Option (RM×Int)
 |0,_,_,_,_=>none
 |n+1,gI,lk,jy,fz=>pe (iH a0 n) a0 gI lk jy fz
def uY (a0:RD):Option (RM×Int):=
 eg λn=>iH a0 n [] 65535 0 0
def uZ (a0:RD):Option (RM×Int):=
 cond (decide (4000<(a0.length:Int))) (some ([],0)) ((uY a0).bind λaA=>some (aA.1,aA.2))
def e5:RD->UInt8->Int
 |[],_=> -1
 |b::l,c=>if b==c then 0 else if e5 l c== -1 then-1 else e5 l c+1
def yu (a0:RD) (aw:UInt8):RI:=some (e5 a0 aw)
def u0 (a0:RD) (aw:UInt8):RI:=
 (yu a0 aw).bind λaA=>some aA
def qG (a0:RD) (aw:UInt8):RI:=
 (u0 a0 aw).bind λaA=>some aA
def u1 (a0 aw:RD):RH:=
 cond (decide ((aw.length:Int)<=(a0.length:Int))) ((c8 a0 (i64.wrap ((a0.length:Int)-(aw.length:Int))) (a0.length:Int)).bind λaA=>some (aA==aw)) (some false)
def u2 (a0 aw:RD):Option RD:=
 (u1 a0 aw).bind λaA=>cond aA ((c8 a0 0 (i64.wrap ((a0.length:Int)-(aw.length:Int)))).bind λaM=>some aM) (some a0)
def strings_TrimSuffix (a0 aw:RD):Option RD:=
 (u2 a0 aw).bind λaA=>some aA
def yv (a0:RD) (aw:UInt8):RI:=some (a0.count aw:Nat)
def mT (a0 aw:RD):RI:=
 cond (((aw.length:Int)==0)||(aw==a0)) (some 0) (cond ((aw.length:Int)==1) ((cj aw 0).bind λaA=>(u0 a0 aA).bind λaM=>some aM) (cond (decide ((a0.length:Int)<=(aw.length:Int))) (some (-1)) (none)))
def sH (a0 aw:RD):RI:=
 (mT a0 aw).bind λaA=>some aA
def LF (LG:RD->Int->RI) (aw l6:RD) (l7:Int):RI:=
 (sH l6 aw).bind λaY=>cond (aY==(-1)) (some l7) ((c8 l6 (i64.wrap (aY+(aw.length:Int))) (l6.length:Int)).bind λbu=>LG bu (i64.wrap (l7+1)))
def yw (aw:RD):Nat->RD->Int->RI
 |0,_,_=>none
 |n+1,l6,l7=>LF (yw aw n) aw l6 l7
def yx (a0 aw:RD):RI:=
 cond ((aw.length:Int)==0) (none) (cond ((aw.length:Int)==1) ((cj aw 0).bind λaA=>(yv a0 aA).bind λaM=>some aM) (eg λn=>yw aw n a0 0))
def sI (a0 aw:RD) (a2 fg:Int) (qH:RD) (pf:RC) (mU:Int):Option RC:=
 (cj pf mU).bind λaA=>(c8 (List.set pf (Int.toNat mU) qH) 0 (i64.wrap (mU+1))).bind λaM=>some aM
def yy (LH:RD->RC->Int->Option RC) (a0 aw:RD) (a2 fg:Int) (iI:RD) (hL:RC) (fX:Int):Option RC:=
 cond (decide (fX<(i64.wrap ((fC false fg (i64.wrap ((a0.length:Int)+1)))-1)))) ((sH iI aw).bind λaY=>cond (decide (aY<0)) (sI a0 aw a2 fg iI hL fX) ((c8 iI 0 (i64.wrap (aY+a2))).bind λbu=>(cj hL fX).bind λbY=>(c8 iI (i64.wrap (aY+(aw.length:Int))) (iI.length:Int)).bind λdK=>LH dK (List.set hL (Int.toNat fX) bu) (i64.wrap (fX+1)))) (sI a0 aw a2 fg iI hL fX)
def pg (a0 aw:RD) (a2 fg:Int):Nat->RD->RC->Int->Option RC
 |0,_,_,_=>none
 |n+1,iI,hL,fX=>yy (pg a0 aw a2 fg n) a0 aw a2 fg iI hL fX
def u3 (a0 aw:RD) (a2 fg:Int):Option RC:=
 (nr 16 (fC false fg (i64.wrap ((a0.length:Int)+1)))).bind λ_=>eg λn=>pg a0 aw a2 fg n a0 (replicate (Int.toNat (fC false fg (i64.wrap ((a0.length:Int)+1)))) ([]:RD)) 0
def yz (a0 aw:RD) (a2 a3:Int):Option RC:=
 cond (a3==0) (some []) (cond (aw==([]:RD)) (none) (cond (decide (a3<0)) ((yx a0 aw).bind λc7=>u3 a0 aw a2 (i64.wrap (c7+1))) (u3 a0 aw a2 a3)))
def sJ (a0 aw:RD):Option RC:=
 (yz a0 aw 0 (-1)).bind λaA=>some aA
def de (c:UInt8):Bool:=decide (48<=c.toNat)&&decide (c.toNat<=57)
def fh (d:RD):Nat:=d.foldl (λn c=>10*n+(c.toNat-48)) 0
def hM (k:Nat) (d:RD):Int×Bool:=if d≠[]/\d.length<=18/\d.all de=true/\¬(d.head? =some 48/\1<d.length+k)then(if k=1 then-(fh d:Int)else fh d,true)else(0,false)
def dA (s:RD):Int×Bool:=if s.head? =some 45 then hM 1 s.tail else hM 0 s
def u4 (a0:RD):Option (Int×Bool):=some (dA a0)
def yA (hd:RF->Int->Option (RF×Bool)) (a0:RC) (jX:RF) (kF:Int):Option (RF×Bool):=
 cond (decide (kF<(a0.length:Int))) ((cj a0 kF).bind λaA=>(u4 aA).bind λaM=>cond (!aM.2) (some ([],false)) ((room 8 (jX.length+1)).bind λ_=>hd (jX++[aM.1]) (i64.wrap (kF+1)))) (some (jX,true))
def qI (a0:RC):Nat->RF->Int->Option (RF×Bool)
 |0,_,_=>none
 |n+1,jX,kF=>yA (qI a0 n) a0 jX kF
def sK (a0:RC):Option (RF×Bool):=
 eg λn=>qI a0 n [] 0
def mV (a0 aw a2:Int):RH:=
 some ((decide (aw<=a0))&&(decide (a0<=a2)))
def u5 (a0 aw:RD):Option (RD×RD×Bool):=
 (mT a0 aw).bind λaA=>cond (decide (0<=aA)) ((c8 a0 0 aA).bind λaM=>(c8 a0 (i64.wrap (aA+(aw.length:Int))) (a0.length:Int)).bind λaY=>some (aM,aY,true)) (some (a0,([]:RD),false))
def qJ (a0 aw:RD):Option (RD×RD×Bool):=
 (u5 a0 aw).bind λaA=>some (aA.1,aA.2.1,aA.2.2)
def yB (a0:UInt8):RH:=
 some ((decide (48<=(a0.toNat:Int)))&&(decide ((a0.toNat:Int)<=57)))
def u6 (db:Int->RH) (a0:RD) (jb:Int):RH:=
 cond (decide (jb<(a0.length:Int))) ((cj a0 jb).bind λaA=>cond (!((decide (97<=(aA.toNat:Int)))&&(decide ((aA.toNat:Int)<=122)))) (cond (jb==0) (some false) ((yB aA).bind λaM=>cond (!aM) (some false) (db (i64.wrap (jb+1))))) (db (i64.wrap (jb+1)))) (some ((decide (1<=(a0.length:Int)))&&(decide ((a0.length:Int)<=10))))
def oa (a0:RD):Nat->Int->RH
 |0,_=>none
 |n+1,jb=>u6 (oa a0 n) a0 jb
def u7 (a0:RD):RH:=
 eg λn=>oa a0 n 0
def u9 (a0:RD):RH:=
 (u7 a0).bind λaA=>some (aA&&(!(a0==([116,97,117]:RD))))
def yC (a0:Int):RH:=
 (mV a0 0 63).bind λaA=>some aA
def yD (a0:Int):RH:=
 (yC a0).bind λaA=>some (!aA)
def yE (db:Int->RI) (a0:RF) (kG:Int):RI:=
 cond (decide (kG<(a0.length:Int))) ((cj a0 kG).bind λaA=>(yD aA).bind λaM=>cond aM (some kG) (db (i64.wrap (kG+1)))) (some (-1))
def qK (a0:RF):Nat->Int->RI
 |0,_=>none
 |n+1,kG=>yE (qK a0 n) a0 kG
def yF (a0:RF):RI:=
 eg λn=>qK a0 n 0
def yG (a0:RF):RH:=
 (yF a0).bind λaA=>some (decide (0<=aA))
def u_ (a0:RF):RH:=
 (yG a0).bind λaA=>some (!aA)
def hN (n:Nat):RD:=if h:n<10 then [UInt8.ofNat (48+n)]else hN (n/10)++[UInt8.ofNat (48+n%10)]
 termination_by n
 decreasing_by omega
def eV (n:Int):RD:=if n<0 then 45::hN n.natAbs else hN n.toNat
def qL (a0 aw:Int):Option RD:=if-9223372036854775808<=a0/\a0<=9223372036854775807/\aw=10 then some (eV a0)else none
def l8 (a0:Int):Option RD:=
 (qL a0 10).bind λaA=>some aA
def strings_Join (a0:RC) (aw:RD):Option RD:=if a0.length<=140737488355328/\(fQ a0 aw).length<=140737488355328 then some (fQ a0 aw)else none
def sL (hd:RC->Int->Option RD) (a0:RF) (aw:RD) (jY:RC) (ib:Int):Option RD:=
 cond (decide (ib<(a0.length:Int))) ((cj a0 ib).bind λaA=>(l8 aA).bind λaM=>(cj jY ib).bind λaY=>hd (List.set jY (Int.toNat ib) aM) (i64.wrap (ib+1))) ((strings_Join jY aw).bind λbu=>some bu)
def mW (a0:RF) (aw:RD):Nat->RC->Int->Option RD
 |0,_,_=>none
 |n+1,jY,ib=>sL (mW a0 aw n) a0 aw jY ib
def ph (a0:RF) (aw:RD):Option RD:=
 (nr 16 (a0.length:Int)).bind λ_=>eg λn=>mW a0 aw n (replicate (Int.toNat (a0.length:Int)) ([]:RD)) 0
def va (a0:RD) (aw:RF):Option (RD×Bool):=
 cond (a0==([116,97,117]:RD)) (some (([116,97,117]:RD),((aw.length:Int)==0))) ((u9 a0).bind λaM=>cond (!aM) (some (([]:RD),false)) (cond (decide (2<(aw.length:Int))) (some (([]:RD),false)) ((u_ aw).bind λaY=>cond (!aY) (some (([]:RD),false)) (cond ((aw.length:Int)==0) (some (a0,true)) ((ev (a0.length+1)).bind λ_=>(ph aw ([44]:RD)).bind λbu=>(ev ((a0++([40]:RD)).length+bu.length)).bind λ_=>(ev (((a0++([40]:RD))++bu).length+1)).bind λ_=>some ((((a0++([40]:RD))++bu)++([41]:RD)),true))))))
def sM (a0:RD) (aA:RD×RD×Bool) (l9:RF):Option (RD×RF×Bool):=
 (va aA.1 l9).bind λaM=>cond ((!aM.2)||(!(aM.1==a0))) (some (([]:RD),[],false)) (some (aA.1,l9,true))
def vb (a0:RD):Option (RD×RF×Bool):=
 (qJ a0 ([40]:RD)).bind λaA=>cond aA.2.2 ((strings_TrimSuffix aA.2.1 ([41]:RD)).bind λaY=>(sJ aY ([44]:RD)).bind λbu=>(sK bu).bind λbY=>cond (!bY.2) (some (([]:RD),[],false)) (sM a0 aA bY.1)) (sM a0 aA [])
def pj (a0:RD):RH:=
 (vb a0).bind λaA=>some aA.2.2
def sN (a0:aX):RH:=
 (mV a0.Choice 0 199).bind λaA=>cond aA ((mV a0.bP 0 2).bind λaM=>cond aM ((mV a0.Second (-1) 2).bind λaY=>cond aY ((pj a0.Label).bind λbu=>some bu) (some false)) (some false)) (some false)
def pk (a0:RD):Option (aX×Bool):=
 (sJ a0 ([32]:RD)).bind λaA=>cond ((aA.length:Int) !=5) (some ((aX.mk 0 0 0 ([]:RD)),false)) ((c8 aA 0 3).bind λaM=>(sK aM).bind λaY=>cond (!aY.2) (some ((aX.mk 0 0 0 ([]:RD)),false)) ((cj aY.1 0).bind λbu=>(cj aY.1 1).bind λbY=>(cj aY.1 2).bind λdK=>(cj aA 3).bind λc7=>(sN (aX.mk bu bY dK c7)).bind λe4=>some ((aX.mk bu bY dK c7),e4)))
def vc (jv:Int->Int->RI) (vd:Int->Int->Int->RI) (a0:RD) (qM qN qO:Int):RI:=
 vd qM qN (i64.wrap (qO+1))
def DV (jv:Int->Int->RI) (vd:Int->Int->Int->RI) (a0:RD) (jZ kH ll:Int):RI:=
 cond (decide (ll<8)) (cond (decide (65535<(i64.wrap (jZ*2)))) (vc jv vd a0 (bitsOf .xor .i64 (bitsOf .and .i64 (i64.wrap (jZ*2)) 65535) 4129) kH ll) (vc jv vd a0 (i64.wrap (jZ*2)) kH ll)) (jv jZ (i64.wrap (kH+1)))
def qP (jv:Int->Int->RI) (a0:RD):Nat->Int->Int->Int->RI
 |0,_,_,_=>none
 |n+1,jZ,kH,ll=>DV jv (qP jv a0 n) a0 jZ kH ll
def DW (jv:Int->Int->RI) (a0:RD) (l_ ma:Int):RI:=
 cond (decide (ma<(a0.length:Int))) ((cj a0 ma).bind λaM=>eg λn=>qP jv a0 n (bitsOf .xor .i64 l_ (i64.wrap ((aM.toNat:Int)*256))) ma 0) (some l_)
def mX (a0:RD):Nat->Int->Int->RI
 |0,_,_=>none
 |n+1,l_,ma=>DW (mX a0 n) a0 l_ ma
def qQ (a0:RD) (aw:Int):RI:=
 (mV aw 0 65535).bind λaA=>cond (!aA) (some 0) (eg λn=>mX a0 n aw 0)
def pn (a0:aX) (aw:Int):Option (RD×Int):=
 (ph [a0.Choice,a0.bP,a0.Second] ([32]:RD)).bind λaA=>(ev (aA.length+1)).bind λ_=>(ev ((aA++([32]:RD)).length+a0.Label.length)).bind λ_=>(qQ ((aA++([32]:RD))++a0.Label) aw).bind λaM=>(ev (((aA++([32]:RD))++a0.Label).length+1)).bind λ_=>(l8 aM).bind λaY=>(ev ((((aA++([32]:RD))++a0.Label)++([32]:RD)).length+aY.length)).bind λ_=>(ev (((((aA++([32]:RD))++a0.Label)++([32]:RD))++aY).length+1)).bind λ_=>some ((((((aA++([32]:RD))++a0.Label)++([32]:RD))++aY)++([10]:RD)),aM)
def jz:Nat->RD->RM->Int->Int->Option (RM×Int)
 |0,_,_,_,_=>none
 |k+1,t,o,z,c=>if t=[]then some (o,z)else
  (qG t 10).bind λi=>(if 0<=i then(c8 t 0 (i+1)).bind λx=>(c8 t (i+1) t.length).bind λy=>some (x,y)else some (t,[])).bind λl=>
  (strings_TrimSuffix l.1 [10]).bind λu=>(pk u).bind λe=>(pn e.1 c).bind λg=>
  if e.2=false\/g.1≠l.1\/o.length=60 then some (o,z)else jz k l.2 (o++[e.1]) (i64.wrap (z+l.1.length)) g.2
def qR (a0:RD):Option (RM×Int):=if a0.length<=1048576 then jz (a0.length+1) a0 [] 0 65535 else none
def sO (a0:RD):Option (RM×Int):=
 cond (decide (4000<(a0.length:Int))) (some ([],0)) ((qR a0).bind λaA=>some (aA.1,aA.2))
def sP (a0 aw:aX):RH:=
 cond (a0.Choice !=aw.Choice) (some false) (cond (a0.bP !=aw.bP) (some false) (cond (a0.Second !=aw.Second) (some false) (cond (!(a0.Label==aw.Label)) (some false) (some true))))
def LI (qu:Int->RH) (a0 aw:RM) (ln:Int):RH:=
 cond (decide (ln<(a0.length:Int))) ((cj a0 ln).bind λaA=>(cj aw ln).bind λaM=>(sP aA aM).bind λaY=>cond (!aY) (some false) (qu (i64.wrap (ln+1)))) (some true)
def yH (a0 aw:RM):Nat->Int->RH
 |0,_=>none
 |n+1,ln=>LI (yH a0 aw n) a0 aw ln
def sQ (a0 aw:RM):RH:=
 cond ((a0.length:Int) !=(aw.length:Int)) (some false) (eg λn=>yH a0 aw n 0)
def ve (qu:Int->RD->Option RD) (ic:Int) (ff:RD):Option RD:=
 cond (decide (0<ic)) ((ev (1+ff.length)).bind λ_=>qu (i64.wrap (Int.tdiv ic 10)) ([(hT (i64.wrap (48+(Int.tmod ic 10))))]++ff)) ((ev (1+ff.length)).bind λ_=>some (([109]:RD)++ff))
def po:Nat->Int->RD->Option RD
 |0,_,_=>none
 |n+1,ic,ff=>ve (po n) ic ff
def sR (a0:Int):Option RD:=
 cond (decide (a0<=0)) (some ([109,48]:RD)) (eg λn=>po n a0 ([]:RD))
def yI (db:RM->Int->Int->Option (Int×RM)) (gj:RM) (b1 bZ:Int):Option (Int×RM):=
 cond (decide (bZ<(gj.length:Int))) ((cj gj bZ).bind λaA=>(cj (List.set gj (Int.toNat bZ) (aX.mk b1 aA.bP aA.Second aA.Label)) bZ).bind λaM=>(cj (List.set (List.set gj (Int.toNat bZ) (aX.mk b1 aA.bP aA.Second aA.Label)) (Int.toNat bZ) (aX.mk aM.Choice (i64.wrap (b1+1)) aM.Second aM.Label)) bZ).bind λaY=>(sR (i64.wrap ((i64.wrap ((i64.wrap (b1+1))+1))+1))).bind λbu=>(cj (List.set (List.set (List.set gj (Int.toNat bZ) (aX.mk b1 aA.bP aA.Second aA.Label)) (Int.toNat bZ) (aX.mk aM.Choice (i64.wrap (b1+1)) aM.Second aM.Label)) (Int.toNat bZ) (aX.mk aY.Choice aY.bP (i64.wrap ((i64.wrap (b1+1))+1)) aY.Label)) bZ).bind λbY=>db (List.set (List.set (List.set (List.set gj (Int.toNat bZ) (aX.mk b1 aA.bP aA.Second aA.Label)) (Int.toNat bZ) (aX.mk aM.Choice (i64.wrap (b1+1)) aM.Second aM.Label)) (Int.toNat bZ) (aX.mk aY.Choice aY.bP (i64.wrap ((i64.wrap (b1+1))+1)) aY.Label)) (Int.toNat bZ) (aX.mk bY.Choice bY.bP bY.Second bu)) (i64.wrap ((i64.wrap ((i64.wrap ((i64.wrap (b1+1))+1))+1))+1)) (i64.wrap (bZ+1))) (some (b1,gj))
def qS:Nat->RM->Int->Int->Option (Int×RM)
 |0,_,_,_=>none
 |n+1,gj,b1,bZ=>yI (qS n) gj b1 bZ
def vf (a0:RM) (aw:Int):Option (Int×RM):=
 eg λn=>qS n a0 aw 0
def yJ (db:Int->Int->RI) (a0:RM) (b1 bZ:Int):RI:=
 cond (decide (bZ<(a0.length:Int))) ((cj a0 bZ).bind λaA=>cond (aA.Choice !=b1) (some (-1)) (cond (aA.bP !=(i64.wrap (b1+1))) (some (-1)) (cond (aA.Second !=(i64.wrap ((i64.wrap (b1+1))+1))) (some (-1)) ((sR (i64.wrap ((i64.wrap ((i64.wrap (b1+1))+1))+1))).bind λaM=>cond (!(aA.Label==aM)) (some (-1)) (db (i64.wrap ((i64.wrap ((i64.wrap ((i64.wrap (b1+1))+1))+1))+1)) (i64.wrap (bZ+1))))))) (some b1)
def qT (a0:RM):Nat->Int->Int->RI
 |0,_,_=>none
 |n+1,b1,bZ=>yJ (qT a0 n) a0 b1 bZ
def sS (a0:RM) (aw:Int):RI:=
 eg λn=>qT a0 n aw 0
def yK (a0:RD):RH:=
 cond (decide (1048576<(a0.length:Int))) (some true) ((uZ a0).bind λaA=>(sO a0).bind λaM=>(sQ aM.1 aA.1).bind λaY=>cond ((!aY)||(aM.2 !=aA.2)) (some false) ((vf aM.1 1).bind λbu=>(sS bu.2 1).bind λbY=>cond (decide (bY<0)) (some false) (cond (bY !=bu.1) (some false) ((sO a0).bind λdK=>(sQ dK.1 aA.1).bind λc7=>cond ((!c7)||(dK.2 !=aA.2)) (some false) ((sS bu.2 1).bind λe4=>cond (decide (e4<0)) (some false) (cond (e4 !=bu.1) (some false) (some true)))))))
end
end Go.lh
