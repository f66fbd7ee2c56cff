/- Part of a proof that a law returns true for every input. No condition. -/
import Derived.Test.YtcmimclaknmnbaaGreatDoorFwA
namespace Go.lT
open List Option Go.IntKind Nat Or
open Go Go.cC
set_option linter.unusedVariables false
noncomputable section
structure hi where
 Kind:Int
 Value:Int
def um (x:hi):Prop:=(-9223372036854775808<=x.Kind/\x.Kind<=9223372036854775807)/\(-9223372036854775808<=x.Value/\x.Value<=9223372036854775807)
structure jH where
 a7:anT
 Guard:List hi
 Name:anR
 bU:List (List hi)
 Next:List (List hi)
def Bg (x:jH):Prop:=(x.a7.length<=9223372036854775807/\∀y∈x.a7,(-9223372036854775808<=y/\y<=9223372036854775807))/\(x.Guard.length<=9223372036854775807/\∀y∈x.Guard,um y)/\x.Name.length<=9223372036854775807/\(x.bU.length<=9223372036854775807/\∀y∈x.bU,(y.length<=9223372036854775807/\∀z∈y,um z))/\(x.Next.length<=9223372036854775807/\∀y∈x.Next,(y.length<=9223372036854775807/\∀z∈y,um z))
structure nP where
 eY:Int
 Start:anT
 cG:List jH
def Ec (x:nP):Prop:=(-9223372036854775808<=x.eY/\x.eY<=9223372036854775807)/\(x.Start.length<=9223372036854775807/\∀y∈x.Start,(-9223372036854775808<=y/\y<=9223372036854775807))/\(x.cG.length<=9223372036854775807/\∀y∈x.cG,Bg y)
structure aO where
 Kind:Int
 Value:Int
def I2 (x:aO):Prop:=(-9223372036854775808<=x.Kind/\x.Kind<=9223372036854775807)/\(-9223372036854775808<=x.Value/\x.Value<=9223372036854775807)
structure bS where
 a7:anT
 Guard:List aO
 Name:anR
 bU:List (List aO)
 Next:List (List aO)
def ab4 (x:bS):Prop:=(x.a7.length<=9223372036854775807/\∀y∈x.a7,(-9223372036854775808<=y/\y<=9223372036854775807))/\(x.Guard.length<=9223372036854775807/\∀y∈x.Guard,I2 y)/\x.Name.length<=9223372036854775807/\(x.bU.length<=9223372036854775807/\∀y∈x.bU,(y.length<=9223372036854775807/\∀z∈y,I2 z))/\(x.Next.length<=9223372036854775807/\∀y∈x.Next,(y.length<=9223372036854775807/\∀z∈y,I2 z))
structure dw where
 eY:Int
 Start:anT
 cG:List bS
def amY (x:dw):Prop:=(-9223372036854775808<=x.eY/\x.eY<=9223372036854775807)/\(x.Start.length<=9223372036854775807/\∀y∈x.Start,(-9223372036854775808<=y/\y<=9223372036854775807))/\(x.cG.length<=9223372036854775807/\∀y∈x.cG,ab4 y)
structure bB where
 Label:anR
 Next:anT
abbrev aoc:=List hi
abbrev aod:=List jH
abbrev aoe:=List aO
abbrev aof:=List bS
abbrev aog:=List bB
abbrev aoa:=List (List hi)
abbrev aob:=List (List aO)
def amZ (x:bB):Prop:=x.Label.length<=9223372036854775807/\(x.Next.length<=9223372036854775807/\∀y∈x.Next,(-9223372036854775808<=y/\y<=9223372036854775807))
inductive b7 where
 |mk (term:aO) (args:List b7)
def b7.term:b7->aO
 | .mk a _=>a
def b7.args:b7->List b7
 | .mk _ a=>a
def Bh (a0:anT) (J:Int):anW:=
 cond (decide ((i64.wrap (J-(a0.length:Int)))<0)) (some (-1)) (some (i64.wrap (J-(a0.length:Int))))
def yj (a0:aoc) (J:Int):anW:=
 cond (decide ((i64.wrap (J-(a0.length:Int)))<0)) (some (-1)) (some (i64.wrap (J-(a0.length:Int))))
def ab5 (kt:Int->Int->anW) (a0:aoa) (hj hD:Int):anW:=
 cond (decide (hD<(a0.length:Int))) ((bI a0 hD).bind λaf=>(yj af hj).bind λaw=>cond (decide (aw<0)) (some (-1)) (kt aw (i64.wrap (hD+1)))) (some hj)
def I3 (a0:aoa):Nat->Int->Int->anW
 |0,_,_=>none
 |n+1,hj,hD=>ab5 (I3 a0 n) a0 hj hD
def Bi (a0:aoa) (J:Int):anW:=
 cond (decide ((i64.wrap (J-(a0.length:Int)))<0)) (some (-1)) (lim λn=>I3 a0 n (i64.wrap (J-(a0.length:Int))) 0)
def Bj (a0:jH) (J:Int):anW:=
 (Bh a0.a7 J).bind λaf=>cond (decide (af<0)) (some (-1)) ((yj a0.Guard af).bind λaw=>cond (decide (aw<0)) (some (-1)) (cond (decide ((i64.wrap (aw-(a0.Name.length:Int)))<0)) (some (-1)) ((Bi a0.bU (i64.wrap (aw-(a0.Name.length:Int)))).bind λaS=>cond (decide (aS<0)) (some (-1)) ((Bi a0.Next aS).bind λbu=>cond (decide (bu<0)) (some (-1)) (some bu)))))
def ab6 (kt:Int->Int->anW) (a0:aod) (hj hD:Int):anW:=
 cond (decide (hD<(a0.length:Int))) ((bI a0 hD).bind λaf=>(Bj af hj).bind λaw=>cond (decide (aw<0)) (some (-1)) (kt aw (i64.wrap (hD+1)))) (some hj)
def I4 (a0:aod):Nat->Int->Int->anW
 |0,_,_=>none
 |n+1,hj,hD=>ab6 (I4 a0 n) a0 hj hD
def Ed (a0:aod) (J:Int):anW:=
 cond (decide ((i64.wrap (J-(a0.length:Int)))<0)) (some (-1)) (lim λn=>I4 a0 n (i64.wrap (J-(a0.length:Int))) 0)
def Ee (a0:nP) (J:Int):anW:=
 (Bh a0.Start J).bind λaf=>cond (decide (af<0)) (some (-1)) ((Ed a0.cG af).bind λaw=>cond (decide (aw<0)) (some (-1)) (some aw))
def ab7 (kt:Int->Int->anW) (a0:anQ) (hj hD:Int):anW:=
 cond (decide (hD<(a0.length:Int))) ((bI a0 hD).bind λaf=>cond (decide ((i64.wrap (hj-(af.length:Int)))<0)) (some (-1)) (kt (i64.wrap (hj-(af.length:Int))) (i64.wrap (hD+1)))) (some hj)
def I5 (a0:anQ):Nat->Int->Int->anW
 |0,_,_=>none
 |n+1,hj,hD=>ab7 (I5 a0 n) a0 hj hD
def Ef (a0:anQ) (J:Int):anW:=
 cond (decide ((i64.wrap (J-(a0.length:Int)))<0)) (some (-1)) (lim λn=>I5 a0 n (i64.wrap (J-(a0.length:Int))) 0)
def ab8 (cM:anT->Int->Option anT) (a0 cm:anT) (cv:Int):Option anT:=
 cond (decide (cv<(a0.length:Int))) ((bI a0 cv).bind λaf=>(bI cm cv).bind λaw=>cM (List.set cm (Int.toNat cv) af) (i64.wrap (cv+1))) (some cm)
def I6 (a0:anT):Nat->anT->Int->Option anT
 |0,_,_=>none
 |n+1,cm,cv=>ab8 (I6 a0 n) a0 cm cv
def Bk (a0:anT):Option anT:=
 (kg 8 (a0.length:Int)).bind λ_=>lim λn=>I6 a0 n (replicate (Int.toNat (a0.length:Int)) 0) 0
def Bl (a0:hi):Option aO:=
 some (aO.mk a0.Kind a0.Value)
def ab9 (cM:aoe->Int->Option aoe) (a0:aoc) (cm:aoe) (cv:Int):Option aoe:=
 cond (decide (cv<(a0.length:Int))) ((bI a0 cv).bind λaf=>(Bl af).bind λaw=>(bI cm cv).bind λaS=>cM (List.set cm (Int.toNat cv) aw) (i64.wrap (cv+1))) (some cm)
def I7 (a0:aoc):Nat->aoe->Int->Option aoe
 |0,_,_=>none
 |n+1,cm,cv=>ab9 (I7 a0 n) a0 cm cv
def yk (a0:aoc):Option aoe:=
 (kg 16 (a0.length:Int)).bind λ_=>lim λn=>I7 a0 n (replicate (Int.toNat (a0.length:Int)) (aO.mk 0 0)) 0
def ab_ (cM:aob->Int->Option aob) (a0:aoa) (cm:aob) (cv:Int):Option aob:=
 cond (decide (cv<(a0.length:Int))) ((bI a0 cv).bind λaf=>(yk af).bind λaw=>(bI cm cv).bind λaS=>cM (List.set cm (Int.toNat cv) aw) (i64.wrap (cv+1))) (some cm)
def I8 (a0:aoa):Nat->aob->Int->Option aob
 |0,_,_=>none
 |n+1,cm,cv=>ab_ (I8 a0 n) a0 cm cv
def Bm (a0:aoa):Option aob:=
 (kg 24 (a0.length:Int)).bind λ_=>lim λn=>I8 a0 n (replicate (Int.toNat (a0.length:Int)) []) 0
def Bn (a0:jH):Option bS:=
 (Bk a0.a7).bind λaf=>(yk a0.Guard).bind λaw=>(Bm a0.bU).bind λaS=>(Bm a0.Next).bind λbu=>some (bS.mk af aw a0.Name aS bu)
def aca (cM:aof->Int->Option aof) (a0:aod) (cm:aof) (cv:Int):Option aof:=
 cond (decide (cv<(a0.length:Int))) ((bI a0 cv).bind λaf=>(Bn af).bind λaw=>(bI cm cv).bind λaS=>cM (List.set cm (Int.toNat cv) aw) (i64.wrap (cv+1))) (some cm)
def I9 (a0:aod):Nat->aof->Int->Option aof
 |0,_,_=>none
 |n+1,cm,cv=>aca (I9 a0 n) a0 cm cv
def Eg (a0:aod):Option aof:=
 (kg 112 (a0.length:Int)).bind λ_=>lim λn=>I9 a0 n (replicate (Int.toNat (a0.length:Int)) (bS.mk [] [] ([]:anR) [] [])) 0
def we (a0:nP):Option dw:=
 (Bk a0.Start).bind λaf=>(Eg a0.cG).bind λaw=>some (dw.mk a0.eY af aw)
def acb (cM:anQ->Int->Option anQ) (a0 cm:anQ) (cv:Int):Option anQ:=
 cond (decide (cv<(a0.length:Int))) ((bI a0 cv).bind λaf=>(bI cm cv).bind λaw=>cM (List.set cm (Int.toNat cv) af) (i64.wrap (cv+1))) (some cm)
def I_ (a0:anQ):Nat->anQ->Int->Option anQ
 |0,_,_=>none
 |n+1,cm,cv=>acb (I_ a0 n) a0 cm cv
def wg (a0:anQ):Option anQ:=
 (kg 16 (a0.length:Int)).bind λ_=>lim λn=>I_ a0 n (replicate (Int.toNat (a0.length:Int)) ([]:anR)) 0
def pd (a0 J a2:Int):anV:=
 some ((decide (J<=a0))&&(decide (a0<=a2)))
def Ja (dJ:Int->anV) (a0:anT) (ha:Int):anV:=
 cond (decide (ha<(a0.length:Int))) ((bI a0 ha).bind λaf=>(pd af 0 63).bind λaw=>cond (!aw) (some false) (dJ (i64.wrap (ha+1)))) (some true)
def Bo (a0:anT):Nat->Int->anV
 |0,_=>none
 |n+1,ha=>Ja (Bo a0 n) a0 ha
def Eh (a0:anT):anV:=
 lim λn=>Bo a0 n 0
def Ei (a0:anT) (J:Int):anV:=
 cond ((a0.length:Int)==J) ((Eh a0).bind λaf=>some af) (some false)
def Jb (kt:Int->Int->anW) (a0:anT) (fM gb:Int):anW:=
 cond (decide (gb<(a0.length:Int))) ((bI a0 gb).bind λaf=>(pd af 1 7).bind λaw=>cond (!aw) (some 0) (kt (i64.wrap (fM*(i64.wrap (af+1)))) (i64.wrap (gb+1)))) (cond (decide (4096<fM)) (some 0) (some fM))
def yl (a0:anT):Nat->Int->Int->anW
 |0,_,_=>none
 |n+1,fM,gb=>Jb (yl a0 n) a0 fM gb
def Ej (a0:anT):anW:=
 cond (decide (8<(a0.length:Int))) (some 0) (lim λn=>yl a0 n 1 0)
def Ek (a0:aO) (J:Int):anV:=
 cond (a0.Kind==0) ((pd a0.Value 0 63).bind λaf=>some af) (cond (a0.Kind==1) ((pd a0.Value 0 (i64.wrap (J-1))).bind λaw=>some aw) (cond (a0.Kind==2) ((pd a0.Value 0 8).bind λaS=>some aS) (cond (a0.Kind==3) (some (a0.Value==0)) (some false))))
def El (a0:aO):anW:=
 cond (a0.Kind==2) (some 2) (cond (a0.Kind==3) (some 1) (some 0))
def Jc (kt:Int->Int->anV) (a0:aoe) (J j0 rZ:Int):anV:=
 cond (decide (rZ<(a0.length:Int))) (cond (j0==0) (some false) ((bI a0 rZ).bind λaf=>(Ek af J).bind λaw=>cond (!aw) (some false) ((El af).bind λaS=>kt (i64.wrap (j0+(i64.wrap (aS-1)))) (i64.wrap (rZ+1))))) (some (j0==0))
def ym (a0:aoe) (J:Int):Nat->Int->Int->anV
 |0,_,_=>none
 |n+1,j0,rZ=>Jc (ym a0 J n) a0 J j0 rZ
def Bp (a0:aoe) (J a2:Int):anV:=
 cond (decide (a2<(a0.length:Int))) (some false) (lim λn=>ym a0 J n 1 0)
def Jd (dJ:Int->anV) (a0:aob) (J aR:Int):anV:=
 cond (decide (aR<(a0.length:Int))) ((bI a0 aR).bind λaf=>(Bp af J 60).bind λaw=>cond (!aw) (some false) (dJ (i64.wrap (aR+1)))) (some true)
def Bq (a0:aob) (J:Int):Nat->Int->anV
 |0,_=>none
 |n+1,aR=>Jd (Bq a0 J n) a0 J aR
def wh (a0:aob) (J:Int):anV:=
 lim λn=>Bq a0 J n 0
def Br (a0:UInt8):anV:=
 some ((decide (97<=(a0.toNat:Int)))&&(decide ((a0.toNat:Int)<=122)))
def yn (a0:UInt8):anV:=
 some ((decide (48<=(a0.toNat:Int)))&&(decide ((a0.toNat:Int)<=57)))
def Je (kV:Int->anV) (a0:anR) (gm:Int):anV:=
 cond (decide (gm<(a0.length:Int))) ((bI a0 gm).bind λaS=>(Br aS).bind λbu=>cond (!bu) ((yn aS).bind λbw=>cond (!bw) (some false) (kV (i64.wrap (gm+1)))) (kV (i64.wrap (gm+1)))) (some true)
def Bs (a0:anR):Nat->Int->anV
 |0,_=>none
 |n+1,gm=>Je (Bs a0 n) a0 gm
def Bt (a0:anR):anV:=
 cond (a0==([]:anR)) (some false) (cond (decide (10<(a0.length:Int))) (some false) ((bI a0 0).bind λaf=>(Br af).bind λaw=>cond (!aw) (some false) (lim λn=>Bs a0 n 0)))
def wi (a0:anR):anV:=
 (Bt a0).bind λaf=>some (af&&(!(a0==([116,97,117]:anR))))
def Em (a0:bS) (J:Int):anV:=
 (Ej a0.a7).bind λaf=>cond (af==0) (some false) ((Bp a0.Guard (i64.wrap (J+(a0.a7.length:Int))) 60).bind λaw=>cond ((!aw)||((a0.Next.length:Int) !=J)) (some false) (cond (a0.Name==([116,97,117]:anR)) (cond (decide (0<(a0.bU.length:Int))) (some false) (cond (decide (2<(a0.bU.length:Int))) (some false) ((wh a0.bU (i64.wrap (J+(a0.a7.length:Int)))).bind λaS=>cond aS ((wh a0.Next (i64.wrap (J+(a0.a7.length:Int)))).bind λbu=>some bu) (some false)))) ((wi a0.Name).bind λbw=>cond (!bw) (some false) (cond (decide (2<(a0.bU.length:Int))) (some false) ((wh a0.bU (i64.wrap (J+(a0.a7.length:Int)))).bind λbF=>cond bF ((wh a0.Next (i64.wrap (J+(a0.a7.length:Int)))).bind λb8=>some b8) (some false))))))
def Jf (kV:Int->anV) (a0:dw) (gm:Int):anV:=
 cond (decide (gm<(a0.cG.length:Int))) ((bI a0.cG gm).bind λaS=>(Em aS a0.eY).bind λbu=>cond (!bu) (some false) (kV (i64.wrap (gm+1)))) (some true)
def Bu (a0:dw):Nat->Int->anV
 |0,_=>none
 |n+1,gm=>Jf (Bu a0 n) a0 gm
def En (a0:dw):anV:=
 (pd a0.eY 0 21).bind λaf=>cond (!af) (some false) ((Ei a0.Start a0.eY).bind λaw=>cond ((!aw)||(decide (60<(a0.cG.length:Int)))) (some false) (lim λn=>Bu a0 n 0))
def Jg (dJ:Int->anW) (a0:anR) (ha:Int):anW:=
 cond (decide (ha<(a0.length:Int))) ((bI a0 ha).bind λaf=>cond ((af.toNat:Int)==40) (some ha) (dJ (i64.wrap (ha+1)))) (some (a0.length:Int))
def uo (a0:anR):Nat->Int->anW
 |0,_=>none
 |n+1,ha=>Jg (uo a0 n) a0 ha
def yo (a0:anR):anW:=
 lim λn=>uo a0 n 0
def Eo (mn:anQ->Int->Int->Option anQ) (a0:anR) (J:UInt8) (yp:anQ) (yq yr:Int):Option anQ:=
 mn yp yq (i64.wrap (yr+1))
def Jh (mn:anQ->Int->Int->Option anQ) (a0:anR) (J:UInt8) (gw:anQ) (lp lU:Int):Option anQ:=
 cond (decide (lU<(a0.length:Int))) ((bI a0 lU).bind λaf=>cond ((af.toNat:Int)==(J.toNat:Int)) ((fw a0 lp lU).bind λaw=>(room 16 (gw.length+1)).bind λ_=>Eo mn a0 J (gw++[aw]) (i64.wrap (lU+1)) lU) (Eo mn a0 J gw lp lU)) ((fw a0 lp (a0.length:Int)).bind λaS=>(room 16 (gw.length+1)).bind λ_=>some (gw++[aS]))
def wj (a0:anR) (J:UInt8):Nat->anQ->Int->Int->Option anQ
 |0,_,_,_=>none
 |n+1,gw,lp,lU=>Jh (wj a0 J n) a0 J gw lp lU
def Ep (a0:anR) (J:UInt8):Option anQ:=
 lim λn=>wj a0 J n [] 0 0
def Bv (qJ:Int):Option (Int×Bool):=
 some (qJ,true)
def Ji (iF:Int->Int->Option (Int×Bool)) (a0:anR) (gP lq nQ:Int):Option (Int×Bool):=
 cond (decide (nQ<(a0.length:Int))) ((bI a0 nQ).bind λbu=>(yn bu).bind λbw=>cond (!bw) (some (0,false)) (iF (i64.wrap ((i64.wrap (10*lq))+(i64.wrap (u8.wrap ((bu.toNat:Int)-48))))) (i64.wrap (nQ+1)))) (cond (gP==1) (Bv (i64.wrap (0-lq))) (Bv lq))
def sV (a0:anR) (gP:Int):Nat->Int->Int->Option (Int×Bool)
 |0,_,_=>none
 |n+1,lq,nQ=>Ji (sV a0 gP n) a0 gP lq nQ
def yt (a0:anR) (gP:Int):Option (Int×Bool):=
 cond ((a0.length:Int)==gP) (some (0,false)) (cond (decide (18<(i64.wrap ((a0.length:Int)-gP)))) (some (0,false)) ((bI a0 gP).bind λaf=>cond ((af.toNat:Int)==48) (cond (decide (1<(a0.length:Int))) (some (0,false)) (lim λn=>sV a0 gP n 0 gP)) (lim λn=>sV a0 gP n 0 gP)))
def Er (a0:anR):Option (Int×Bool):=
 cond (decide (0<(a0.length:Int))) ((bI a0 0).bind λbF=>cond ((bF.toNat:Int)==45) (yt a0 1) (yt a0 0)) (yt a0 0)
def Jj (acd:anT->Int->Option (anT×Bool)) (b8:anQ) (nR:anT) (pY:Int):Option (anT×Bool):=
 cond (decide (pY<(b8.length:Int))) ((bI b8 pY).bind λcA=>(Er cA).bind λdf=>cond (!df.2) (some ([],false)) ((pd df.1 0 63).bind λeQ=>cond (!eQ) (some ([],false)) ((room 8 (nR.length+1)).bind λ_=>acd (nR++[df.1]) (i64.wrap (pY+1))))) (some (nR,(decide ((nR.length:Int)<=2))))
def wk (b8:anQ):Nat->anT->Int->Option (anT×Bool)
 |0,_,_=>none
 |n+1,nR,pY=>Jj (wk b8 n) b8 nR pY
def Bw (a0:anR):Option (anT×Bool):=
 (yo a0).bind λaf=>cond (af==(a0.length:Int)) ((Bt a0).bind λaw=>some ([],aw)) ((fw a0 0 af).bind λaS=>(wi aS).bind λbu=>cond (!bu) (some ([],false)) ((bI a0 (i64.wrap ((a0.length:Int)-1))).bind λbw=>cond ((bw.toNat:Int) !=41) (some ([],false)) ((fw a0 (i64.wrap (af+1)) (i64.wrap ((a0.length:Int)-1))).bind λbF=>(Ep bF (44:UInt8)).bind λb8=>lim λn=>wk b8 n [] 0)))
def r0 (a0:anR):anV:=
 (Bw a0).bind λaf=>some af.2
def Jk (dJ:Int->anV) (a0:anQ) (ha:Int):anV:=
 cond (decide (ha<(a0.length:Int))) ((bI a0 ha).bind λaf=>(r0 af).bind λaw=>cond (!aw) (some false) (dJ (i64.wrap (ha+1)))) (some true)
def yu (a0:anQ):Nat->Int->anV
 |0,_=>none
 |n+1,ha=>Jk (yu a0 n) a0 ha
def Es (a0:anQ):anV:=
 lim λn=>yu a0 n 0
def Bx (a0:anT):Option anT:=
 (room 8 (a0.length)).bind λ_=>some a0
def pZ (a0:Bool):anW:=
 cond a0 (some 1) (some 0)
def Jl (dJ:Int->Int->anW) (a0:aoe) (bW aR:Int):anW:=
 cond (decide (0<aR)) ((bI a0 bW).bind λaf=>(El af).bind λaw=>dJ (i64.wrap (bW+1)) (i64.wrap (aR+(i64.wrap (aw-1))))) (some bW)
def yv (a0:aoe):Nat->Int->Int->anW
 |0,_,_=>none
 |n+1,bW,aR=>Jl (yv a0 n) a0 bW aR
def Et (a0:aoe) (J:Int):anW:=
 lim λn=>yv a0 n J 1
def Eu (a0 J a2:Int):anW:=
 cond (a0==0) (some (Int.tmod (i64.wrap (J+a2)) 64)) (cond (a0==1) (some (Int.tmod (i64.wrap ((i64.wrap (J-a2))+64)) 64)) (cond (a0==2) (some (Int.tmod (i64.wrap (J*a2)) 64)) (cond (a0==3) ((pZ (J==a2)).bind λaf=>some af) (cond (a0==4) ((pZ (J !=a2)).bind λaw=>some aw) (cond (a0==5) ((pZ (decide (J<a2))).bind λaS=>some aS) (cond (a0==6) ((pZ (decide (J<=a2))).bind λbu=>some bu) (cond (a0==7) (cond (J !=0) ((pZ (a2 !=0)).bind λbw=>some bw) ((pZ false).bind λbF=>some bF)) (cond (J !=0) ((pZ true).bind λb8=>some b8) ((pZ (a2 !=0)).bind λcA=>some cA)))))))))
def Jm (yw:aoe->anT->Int->anW) (a0:aoe) (J:anT) (a2:Int):anW:=
 (bI a0 a2).bind λaf=>cond (af.Kind==0) (some af.Value) (cond (af.Kind==1) ((bI J af.Value).bind λaw=>some aw) (cond (af.Kind==3) ((yw a0 J (i64.wrap (a2+1))).bind λaS=>(pZ (aS==0)).bind λbu=>some bu) ((yw a0 J (i64.wrap (a2+1))).bind λbw=>(Et a0 (i64.wrap (a2+1))).bind λbF=>(yw a0 J bF).bind λb8=>(Eu af.Value bw b8).bind λcA=>some cA)))
def wm:Nat->aoe->anT->Int->anW
 |0,_,_,_=>none
 |n+1,a0,J,a2=>Jm (wm n) a0 J a2
def Jn (a0:aoe) (J:anT) (a2:Int):anW:=
 lim λn=>wm n a0 J a2
def wo (a0:aoe) (J:anT):anW:=
 (Jn a0 J 0).bind λaf=>some af
def Jo (cM:anT->Int->Option anT) (a0:aob) (J eR:anT) (jI:Int):Option anT:=
 cond (decide (jI<(a0.length:Int))) ((bI a0 jI).bind λaf=>(wo af J).bind λaw=>(room 8 (eR.length+1)).bind λ_=>cM (eR++[aw]) (i64.wrap (jI+1))) (some eR)
def yx (a0:aob) (J:anT):Nat->anT->Int->Option anT
 |0,_,_=>none
 |n+1,eR,jI=>Jo (yx a0 J n) a0 J eR jI
def wq (a0:aob) (J:anT):Option anT:=
 lim λn=>yx a0 J n [] 0
def Ev (kt:anR->Int->Option anR) (a0:Int) (sW:anR) (uq r1:Int):Option anR:=
 (room 1 (sW.length+1)).bind λ_=>kt (sW++[(ns (i64.wrap (48+r1)))]) (i64.wrap (Int.tdiv uq 10))
def ace (acf:anR->Int->Option anR) (na pe:anR) (p0:Int):Option anR:=
 cond (decide (0<=p0)) ((bI na p0).bind λaf=>(room 1 (pe.length+1)).bind λ_=>acf (pe++[af]) (i64.wrap (p0-1))) (some pe)
def Jp (na:anR):Nat->anR->Int->Option anR
 |0,_,_=>none
 |n+1,pe,p0=>ace (Jp na n) na pe p0
def ur (na:anR):Option anR:=
 lim λn=>Jp na n [] (i64.wrap ((na.length:Int)-1))
def Jq (kt:anR->Int->Option anR) (a0:Int) (fM:anR) (gb:Int):Option anR:=
 cond (gb !=0) (cond (decide ((Int.tmod gb 10)<0)) (Ev kt a0 fM gb (i64.wrap (0-(Int.tmod gb 10)))) (Ev kt a0 fM gb (Int.tmod gb 10))) (cond (decide (a0<0)) ((room 1 (fM.length+1)).bind λ_=>ur (fM++[(45:UInt8)])) (ur fM))
def sX (a0:Int):Nat->anR->Int->Option anR
 |0,_,_=>none
 |n+1,fM,gb=>Jq (sX a0 n) a0 fM gb
def Bz (a0:Int):Option anR:=
 cond (a0==0) (some ([48]:anR)) (lim λn=>sX a0 n [] a0)
def Ew (kt:anR->Int->Option anR) (a0:anT) (sY:anR) (sZ:Int):Option anR:=
 (bI a0 sZ).bind λaf=>(Bz af).bind λaw=>(iO (sY.length+aw.length)).bind λ_=>kt (sY++aw) (i64.wrap (sZ+1))
def Jr (kt:anR->Int->Option anR) (a0:anT) (fM:anR) (gb:Int):Option anR:=
 cond (decide (gb<(a0.length:Int))) (cond (decide (0<gb)) ((iO (fM.length+1)).bind λ_=>Ew kt a0 (fM++([44]:anR)) gb) (Ew kt a0 fM gb)) (some fM)
def wt (a0:anT):Nat->anR->Int->Option anR
 |0,_,_=>none
 |n+1,fM,gb=>Jr (wt a0 n) a0 fM gb
def Ex (a0:anT):Option anR:=
 cond ((a0.length:Int)==0) (some ([45]:anR)) (lim λn=>wt a0 n ([]:anR) 0)
def BA (a0:anR) (J:anT):Option anR:=
 cond ((J.length:Int)==0) (some a0) ((iO (a0.length+1)).bind λ_=>(Ex J).bind λaf=>(iO ((a0++([40]:anR)).length+af.length)).bind λ_=>(iO (((a0++([40]:anR))++af).length+1)).bind λ_=>some (((a0++([40]:anR))++af)++([41]:anR)))
def Js (dJ:anT->Int->Option (Bool×anT)) (J cd:anT) (aR:Int):Option (Bool×anT):=
 cond (decide (0<=aR)) ((bI cd aR).bind λaf=>(bI J aR).bind λaw=>cond (decide (af<aw)) (some (true,(List.set cd (Int.toNat aR) (i64.wrap (af+1))))) (dJ (List.set cd (Int.toNat aR) 0) (i64.wrap (aR-1)))) (some (false,cd))
def yy (J:anT):Nat->anT->Int->Option (Bool×anT)
 |0,_,_=>none
 |n+1,cd,aR=>Js (yy J n) J cd aR
def Ey (a0 J:anT):Option (Bool×anT):=
 lim λn=>yy J n a0 (i64.wrap ((a0.length:Int)-1))
def Jt (kV:Int->anV) (a0 J:anT) (cW:Int):anV:=
 cond (decide (cW<(a0.length:Int))) ((bI a0 cW).bind λaf=>(bI J cW).bind λaw=>cond (af !=aw) (some false) (kV (i64.wrap (cW+1)))) (some true)
def yz (a0 J:anT):Nat->Int->anV
 |0,_=>none
 |n+1,cW=>Jt (yz a0 J n) a0 J cW
def BB (a0 J:anT):anV:=
 cond ((a0.length:Int) !=(J.length:Int)) (some false) (lim λn=>yz a0 J n 0)
def s0 (cM:aog->Int->Option aog) (jJ:aog->Int->anT->Option aog) (a0:dw) (J:anT) (af:bS) (s3:aog) (s4:Int) (yA:anT):Option aog:=
 (Ey yA af.a7).bind λaS=>cond (!aS.1) (cM s3 (i64.wrap (s4+1))) (jJ s3 s4 aS.2)
def Ju (cM:aog->Int->Option aog) (jJ:aog->Int->anT->Option aog) (Jv:aog->Int->anT->anR->anT->Bool->Int->Option aog) (a0:dw) (J:anT) (af:bS) (ku:aog) (lV:Int) (lW:anT) (mC:anR) (lX:anT) (uu:Bool) (nS:Int):Option aog:=
 cond (decide (nS<(ku.length:Int))) (cond uu (Jv ku lV lW mC lX true (i64.wrap (nS+1))) ((bI ku nS).bind λcA=>cond (cA.Label==mC) ((BB cA.Next lX).bind λdf=>Jv ku lV lW mC lX df (i64.wrap (nS+1))) (Jv ku lV lW mC lX false (i64.wrap (nS+1))))) (cond (!uu) ((room 40 (ku.length+1)).bind λ_=>s0 cM jJ a0 J af (ku++[(bB.mk mC lX)]) lV lW) (s0 cM jJ a0 J af ku lV lW))
def wu (cM:aog->Int->Option aog) (jJ:aog->Int->anT->Option aog) (a0:dw) (J:anT) (af:bS):Nat->aog->Int->anT->anR->anT->Bool->Int->Option aog
 |0,_,_,_,_,_,_,_=>none
 |n+1,ku,lV,lW,mC,lX,uu,nS=>Ju cM jJ (wu cM jJ a0 J af n) a0 J af ku lV lW mC lX uu nS
def Jw (cM:aog->Int->Option aog) (jJ:aog->Int->anT->Option aog) (a0:dw) (J:anT) (af:bS) (pf:aog) (pg:Int) (gT:anT):Option aog:=
 (Bx J).bind λaw=>(room 8 (aw.length+gT.length)).bind λ_=>(wo af.Guard (aw++gT)).bind λbu=>cond (bu !=0) ((wq af.bU (aw++gT)).bind λbw=>(BA af.Name bw).bind λbF=>(wq af.Next (aw++gT)).bind λb8=>lim λn=>wu cM jJ a0 J af n pf pg gT bF b8 false 0) (s0 cM jJ a0 J af pf pg gT)
def qK (cM:aog->Int->Option aog) (a0:dw) (J:anT) (af:bS):Nat->aog->Int->anT->Option aog
 |0,_,_,_=>none
 |n+1,pf,pg,gT=>Jw cM (qK cM a0 J af n) a0 J af pf pg gT
def Jx (cM:aog->Int->Option aog) (a0:dw) (J:anT) (eR:aog) (jI:Int):Option aog:=
 cond (decide (jI<(a0.cG.length:Int))) ((bI a0.cG jI).bind λaf=>(kg 8 (af.a7.length:Int)).bind λ_=>lim λn=>qK cM a0 J af n eR jI (replicate (Int.toNat (af.a7.length:Int)) 0)) (some eR)
def qL (a0:dw) (J:anT):Nat->aog->Int->Option aog
 |0,_,_=>none
 |n+1,eR,jI=>Jx (qL a0 J n) a0 J eR jI
def wv (a0:dw) (J:anT):Option aog:=
 lim λn=>qL a0 J n [] 0
def Ez (dJ:Int->anW) (a0:List anT) (J:anT) (aR:Int):anW:=
 cond (decide (aR<(a0.length:Int))) ((bI a0 aR).bind λaf=>(BB af J).bind λaw=>cond aw (some aR) (dJ (i64.wrap (aR+1)))) (some (-1))
def wx (a0:List anT) (J:anT):Nat->Int->anW
 |0,_=>none
 |n+1,aR=>Ez (wx a0 J n) a0 J aR
def EA (a0:List anT) (J:anT):anW:=
 lim λn=>wx a0 J n 0
def Jy (dJ:Int->anW) (a0 J:anT) (aR:Int):anW:=
 cond ((decide (aR<(a0.length:Int)))&&(decide (aR<(J.length:Int)))) ((bI a0 aR).bind λaf=>(bI J aR).bind λaw=>cond (decide (af<aw)) (some (-1)) (cond (decide (aw<af)) (some 1) (dJ (i64.wrap (aR+1))))) (cond (decide ((a0.length:Int)<(J.length:Int))) (some (-1)) (cond (decide ((J.length:Int)<(a0.length:Int))) (some 1) (some 0)))
def yB (a0 J:anT):Nat->Int->anW
 |0,_=>none
 |n+1,aR=>Jy (yB a0 J n) a0 J aR
def EB (a0 J:anT):anW:=
 lim λn=>yB a0 J n 0
def BC (iF:(List anT)->Int->Option ((List anT)×Int)) (ph:(List anT)->Int->(List anT)->Int->Option ((List anT)×Int)) (BD:(List anT)->Int->(List anT)->Int->(List (Bool×bB))->Int->Option ((List anT)×Int)) (a0:dw) (J:anQ) (yC:List anT) (yD:Int) (yE:List anT) (yF:Int) (yG:List (Bool×bB)) (yH:Int):Option ((List anT)×Int):=
 BD yC yD yE yF yG (i64.wrap (yH+1))
def Jz (iF:(List anT)->Int->Option ((List anT)×Int)) (ph:(List anT)->Int->(List anT)->Int->Option ((List anT)×Int)) (BD:(List anT)->Int->(List anT)->Int->(List (Bool×bB))->Int->Option ((List anT)×Int)) (a0:dw) (J:anQ) (mD:List anT) (lY:Int) (kv:List anT) (mE:Int) (mF:List (Bool×bB)) (kW:Int):Option ((List anT)×Int):=
 cond (decide (kW<(mF.length:Int))) ((bI mF kW).bind λbF=>(xj (!bF.1)).bind λ_=>(bI J lY).bind λb8=>cond (!(bF.2.Label==b8)) (BC iF ph BD a0 J mD lY kv mE mF kW) ((EA kv bF.2.Next).bind λcA=>cond (decide (0<=cA)) (BC iF ph BD a0 J mD lY kv mE mF kW) (cond ((kv.length:Int)==40) (some ([],5)) ((room 24 (kv.length+1)).bind λ_=>BC iF ph BD a0 J mD lY (kv++[bF.2.Next]) mE (List.set mF (Int.toNat kW) (true,bF.2)) kW)))) (ph mD lY kv (i64.wrap (mE+1)))
def wy (iF:(List anT)->Int->Option ((List anT)×Int)) (ph:(List anT)->Int->(List anT)->Int->Option ((List anT)×Int)) (a0:dw) (J:anQ):Nat->(List anT)->Int->(List anT)->Int->(List (Bool×bB))->Int->Option ((List anT)×Int)
 |0,_,_,_,_,_,_=>none
 |n+1,mD,lY,kv,mE,mF,kW=>Jz iF ph (wy iF ph a0 J n) a0 J mD lY kv mE mF kW
def JA (iF:(List anT)->Int->Option ((List anT)×Int)) (ph:(List anT)->Int->(List anT)->Int->Option ((List anT)×Int)) (a0:dw) (J:anQ) (p1:List anT) (p2:Int) (p3:List anT) (p4:Int):Option ((List anT)×Int):=
 cond (decide (p4<(p1.length:Int))) ((bI p1 p4).bind λbu=>(wv a0 bu).bind λbw=>lim λn=>wy iF ph a0 J n p1 p2 p3 p4 (map (λx=>(false,x)) bw) 0) (iF p3 (i64.wrap (p2+1)))
def p5 (iF:(List anT)->Int->Option ((List anT)×Int)) (a0:dw) (J:anQ):Nat->(List anT)->Int->(List anT)->Int->Option ((List anT)×Int)
 |0,_,_,_,_=>none
 |n+1,p1,p2,p3,p4=>JA iF (p5 iF a0 J n) a0 J p1 p2 p3 p4
def JB (jK:(List anT)->(List anT)->Int->Option ((List anT)×Int)) (acg:(List anT)->(List anT)->Int->Int->Int->Option ((List anT)×Int)) (jk iG:List anT) (jl iY iH:Int):Option ((List anT)×Int):=
 cond (decide (iY<iH)) ((bI iG (i64.wrap (iH-1))).bind λpj=>(bI iG iH).bind λiw=>acg jk (List.set iG (Int.toNat iH) pj) jl iY (i64.wrap (iH-1))) ((bI jk jl).bind λnb=>(bI iG iY).bind λpk=>jK jk (List.set iG (Int.toNat iY) nb) (i64.wrap (jl+1)))
def s5 (jK:(List anT)->(List anT)->Int->Option ((List anT)×Int)):Nat->(List anT)->(List anT)->Int->Int->Int->Option ((List anT)×Int)
 |0,_,_,_,_,_=>none
 |n+1,jk,iG,jl,iY,iH=>JB jK (s5 jK n) jk iG jl iY iH
def JC (jK:(List anT)->(List anT)->Int->Option ((List anT)×Int)) (ach:(List anT)->(List anT)->Int->Int->Option ((List anT)×Int)) (lr hR:List anT) (lu kX:Int):Option ((List anT)×Int):=
 cond (decide (0<kX)) ((bI lr lu).bind λdf=>(bI hR (i64.wrap (kX-1))).bind λeQ=>(EB df eQ).bind λkx=>cond (decide (kx<0)) (ach lr hR lu (i64.wrap (kX-1))) ((room 24 (hR.length+1)).bind λ_=>lim λn=>s5 jK n lr (hR++[[]]) lu kX (i64.wrap (((hR++[[]]).length:Int)-1)))) ((room 24 (hR.length+1)).bind λ_=>lim λn=>s5 jK n lr (hR++[[]]) lu kX (i64.wrap (((hR++[[]]).length:Int)-1)))
def wz (jK:(List anT)->(List anT)->Int->Option ((List anT)×Int)):Nat->(List anT)->(List anT)->Int->Int->Option ((List anT)×Int)
 |0,_,_,_,_=>none
 |n+1,lr,hR,lu,kX=>JC jK (wz jK n) lr hR lu kX
def JD (jK:(List anT)->(List anT)->Int->Option ((List anT)×Int)) (s6 p6:List anT) (s7:Int):Option ((List anT)×Int):=
 cond (decide (s7<(s6.length:Int))) (lim λn=>wz jK n s6 p6 s7 (p6.length:Int)) (some (p6,0))
def qM:Nat->(List anT)->(List anT)->Int->Option ((List anT)×Int)
 |0,_,_,_=>none
 |n+1,s6,p6,s7=>JD (qM n) s6 p6 s7
def EC (iF:(List anT)->Int->Option ((List anT)×Int)) (a0:dw) (J:anQ) (nc:List anT) (p7:Int):Option ((List anT)×Int):=
 cond ((decide (p7<(J.length:Int)))&&(decide (0<(nc.length:Int)))) (lim λn=>p5 iF a0 J n nc p7 [] 0) (cond ((nc.length:Int)==0) (some ([],3)) (lim λn=>qM n nc [] 0))
def mG (a0:dw) (J:anQ):Nat->(List anT)->Int->Option ((List anT)×Int)
 |0,_,_=>none
 |n+1,nc,p7=>EC (mG a0 J n) a0 J nc p7
def ED (a0:dw) (J:anQ):Option ((List anT)×Int):=
 (En a0).bind λaf=>cond (!af) (some ([],1)) ((Es J).bind λaw=>cond (!aw) (some ([],2)) ((Bx a0.Start).bind λaS=>lim λn=>mG a0 J n [aS] 0))
def oF (a0 J a2:Int):anV:=
 some ((decide (J<=a0))&&(decide (a0<=a2)))
def BE (a0:Int):anV:=
 (oF a0 0 63).bind λaf=>some af
def BF (a0:Int):anV:=
 (BE a0).bind λaf=>some (!af)
def BG (dJ:Int->anW) (a0:anT) (e1:Int):anW:=
 cond (decide (e1<(a0.length:Int))) ((bI a0 e1).bind λaf=>(BF af).bind λaw=>cond aw (some e1) (dJ (i64.wrap (e1+1)))) (some (-1))
def uv (a0:anT):Nat->Int->anW
 |0,_=>none
 |n+1,e1=>BG (uv a0 n) a0 e1
def BH (a0:anT):anW:=
 lim λn=>uv a0 n 0
def BI (a0:anT):anV:=
 (BH a0).bind λaf=>some (decide (0<=af))
def uw (a0:anT):anV:=
 (BI a0).bind λaf=>some (!af)
def EE (a0:dw) (J:anT):anV:=
 cond ((J.length:Int)==a0.eY) ((uw J).bind λaf=>some af) (some false)
def JE (cM:Int->Int->anV) (a0:bS) (cm r2:Int):anV:=
 cond (decide (r2<(a0.a7.length:Int))) ((bI a0.a7 r2).bind λaf=>(oF af 1 7).bind λaw=>cond (!aw) (some false) (cM (i64.wrap (cm*(i64.wrap (af+1)))) (i64.wrap (r2+1)))) (some ((decide ((a0.a7.length:Int)<=8))&&(decide (cm<=4096))))
def yI (a0:bS):Nat->Int->Int->anV
 |0,_,_=>none
 |n+1,cm,r2=>JE (yI a0 n) a0 cm r2
def EF (a0:bS):anV:=
 lim λn=>yI a0 n 1 0
def JF (a0:UInt8):anV:=
 some ((decide (48<=(a0.toNat:Int)))&&(decide ((a0.toNat:Int)<=57)))
def EG (dJ:Int->anV) (a0:anR) (nT:Int):anV:=
 cond (decide (nT<(a0.length:Int))) ((bI a0 nT).bind λaf=>cond (!((decide (97<=(af.toNat:Int)))&&(decide ((af.toNat:Int)<=122)))) (cond (nT==0) (some false) ((JF af).bind λaw=>cond (!aw) (some false) (dJ (i64.wrap (nT+1))))) (dJ (i64.wrap (nT+1)))) (some ((decide (1<=(a0.length:Int)))&&(decide ((a0.length:Int)<=10))))
def ux (a0:anR):Nat->Int->anV
 |0,_=>none
 |n+1,nT=>EG (ux a0 n) a0 nT
def EH (a0:anR):anV:=
 lim λn=>ux a0 n 0
def uy (a0:anR):anV:=
 (EH a0).bind λaf=>some (af&&(!(a0==([116,97,117]:anR))))
def EI:Option Unit:=
 some ()
def JG (J:Int):Option Unit:=
 cond (decide (0<(i64.wrap (J-(i64.wrap 0))))) ((kg 24 (i64.wrap (J-(i64.wrap 0)))).bind λ_=>EI) (EI)
def EJ (J:Int):Option Unit:=
 cond (decide (J<0)) (none) (JG J)
def JH (cM:Int->Int->Option aob) (a0:List aob) (pn po:Int) (s8:Bool):Option aob:=
 cM pn (i64.wrap (po+1))
def JI (wA:aob->Int->Option aob) (a0:List aob) (iI:aob) (jm:Int):Option aob:=
 cond (decide (jm<(a0.length:Int))) ((bI a0 jm).bind λaS=>(room 24 (iI.length+aS.length)).bind λ_=>wA (iI++aS) (i64.wrap (jm+1))) (some iI)
def wB (a0:List aob):Nat->aob->Int->Option aob
 |0,_,_=>none
 |n+1,iI,jm=>JI (wB a0 n) a0 iI jm
def JJ (cM:Int->Int->Option aob) (a0:List aob) (cm hb:Int):Option aob:=
 cond (decide (hb<(a0.length:Int))) ((bI a0 hb).bind λaf=>cond (decide ((i64.wrap (cm+(af.length:Int)))<0)) (none) (JH cM a0 (i64.wrap (cm+(af.length:Int))) hb (decide ((i64.wrap (cm+(af.length:Int)))<0)))) ((EJ cm).bind λaw=>lim λn=>wB a0 n [] 0)
def wC (a0:List aob):Nat->Int->Int->Option aob
 |0,_,_=>none
 |n+1,cm,hb=>JJ (wC a0 n) a0 cm hb
def EK (a0:List aob):Option aob:=
 lim λn=>wC a0 n 0 0
def yJ (a0:bS):Option aob:=
 (EK [[a0.Guard],a0.bU,a0.Next]).bind λaf=>some af
def EL (a0:aO) (J:Int):anV:=
 cond (a0.Kind==0) ((BE a0.Value).bind λaf=>some af) (cond (a0.Kind==1) ((oF a0.Value 0 (i64.wrap (J-1))).bind λaw=>some aw) (cond (a0.Kind==2) ((oF a0.Value 0 8).bind λaS=>some aS) (cond (a0.Kind==3) (some (a0.Value==0)) (some false))))
def EM (a0:aO):anW:=
 cond (a0.Kind==2) (some 2) (cond (a0.Kind==3) (some 1) (some 0))
def JK (kt:Int->Int->anV) (a0:aoe) (J j0 r3:Int):anV:=
 cond (decide (r3<(a0.length:Int))) ((bI a0 r3).bind λbu=>cond (j0==0) (some false) ((EL bu J).bind λbw=>cond (!bw) (some false) ((EM bu).bind λbF=>kt (i64.wrap (j0+(i64.wrap (bF-1)))) (i64.wrap (r3+1))))) (some (j0==0))
def yK (a0:aoe) (J:Int):Nat->Int->Int->anV
 |0,_,_=>none
 |n+1,j0,r3=>JK (yK a0 J n) a0 J j0 r3
def EN (a0:aoe) (J a2:Int):anV:=
 (oF J 0 29).bind λaf=>cond (!af) (some false) ((oF a2 1 60).bind λaw=>cond (!aw) (some false) ((oF (a0.length:Int) 1 a2).bind λaS=>cond (!aS) (some false) (lim λn=>yK a0 J n 1 0)))
def EO (a0:aoe) (J:Int) (a2:bS):anV:=
 (EN a0 (i64.wrap (J+(a2.a7.length:Int))) 60).bind λaf=>some (!af)
def Ru (dJ:Int->anW) (a0:aob) (eN:Int) (et:bS) (e1:Int):anW:=
 cond (decide (e1<(a0.length:Int))) ((bI a0 e1).bind λaf=>(EO af eN et).bind λaw=>cond aw (some e1) (dJ (i64.wrap (e1+1)))) (some (-1))
def EP (a0:aob) (eN:Int) (et:bS):Nat->Int->anW
 |0,_=>none
 |n+1,e1=>Ru (EP a0 eN et n) a0 eN et e1
def JL (a0:aob) (eN:Int) (et:bS):anW:=
 lim λn=>EP a0 eN et n 0
def wD (a0:aob) (eN:Int) (et:bS):anV:=
 (JL a0 eN et).bind λaf=>some (decide (0<=af))
def ER (a0:bS) (J:Int):anV:=
 (EF a0).bind λaf=>cond ((!af)||((a0.Next.length:Int) !=J)) (some false) (cond (decide (0<(a0.bU.length:Int))) (cond (a0.Name==([116,97,117]:anR)) (some false) (cond (decide (2<(a0.bU.length:Int))) (some false) ((uy a0.Name).bind λaw=>cond (!aw) (some false) ((yJ a0).bind λaS=>(wD aS J a0).bind λbu=>some (!bu))))) (cond (!(a0.Name==([116,97,117]:anR))) ((uy a0.Name).bind λbw=>cond (!bw) (some false) ((yJ a0).bind λbF=>(wD bF J a0).bind λb8=>some (!b8))) ((yJ a0).bind λcA=>(wD cA J a0).bind λdf=>some (!df))))
def ES (a0:bS) (J:dw):anV:=
 (ER a0 J.eY).bind λaf=>some (!af)
def Rv (dJ:Int->anW) (a0:aof) (J:dw) (e1:Int):anW:=
 cond (decide (e1<(a0.length:Int))) ((bI a0 e1).bind λaf=>(ES af J).bind λaw=>cond aw (some e1) (dJ (i64.wrap (e1+1)))) (some (-1))
def ET (a0:aof) (J:dw):Nat->Int->anW
 |0,_=>none
 |n+1,e1=>Rv (ET a0 J n) a0 J e1
def JM (a0:aof) (J:dw):anW:=
 lim λn=>ET a0 J n 0
def JN (a0:aof) (J:dw):anV:=
 (JM a0 J).bind λaf=>some (decide (0<=af))
def EU (a0:dw):anV:=
 (oF a0.eY 0 21).bind λaf=>cond (!af) (some false) ((EE a0 a0.Start).bind λaw=>cond ((!aw)||(decide (60<(a0.cG.length:Int)))) (some false) ((JN a0.cG a0).bind λaS=>some (!aS)))
def qN:anR->UInt8->Int
 |[],_=> -1
 |b::l,c=>if b==c then 0 else if qN l c== -1 then-1 else qN l c+1
def JO (a0:anR) (J:UInt8):anW:=some (qN a0 J)
def JP (a0:anR) (J:UInt8):anW:=
 (JO a0 J).bind λaf=>some af
def s9 (a0 J:anR):anW:=
 cond (((J.length:Int)==0)||(J==a0)) (some 0) (cond ((J.length:Int)==1) ((bI J 0).bind λaf=>(JP a0 af).bind λaw=>some aw) (cond (decide ((a0.length:Int)<=(J.length:Int))) (some (-1)) (none)))
def EV (a0 J:anR):Option (anR×anR×Bool):=
 (s9 a0 J).bind λaf=>cond (decide (0<=af)) ((fw a0 0 af).bind λaw=>(fw a0 (i64.wrap (af+(J.length:Int))) (a0.length:Int)).bind λaS=>some (aw,aS,true)) (some (a0,([]:anR),false))
def yL (a0 J:anR):Option (anR×anR×Bool):=
 (EV a0 J).bind λaf=>some (af.1,af.2.1,af.2.2)
def EW (a0 J:anR):anV:=
 cond (decide ((J.length:Int)<=(a0.length:Int))) ((fw a0 (i64.wrap ((a0.length:Int)-(J.length:Int))) (a0.length:Int)).bind λaf=>some (af==J)) (some false)
def EX (a0 J:anR):Option anR:=
 (EW a0 J).bind λaf=>cond af ((fw a0 0 (i64.wrap ((a0.length:Int)-(J.length:Int)))).bind λaw=>some aw) (some a0)
def strings_TrimSuffix (a0 J:anR):Option anR:=
 (EX a0 J).bind λaf=>some af
def JQ (a0:anR) (J:UInt8):anW:=some (a0.count J:Nat)
def BJ (a0 J:anR):anW:=
 (s9 a0 J).bind λaf=>some af
def aci (acj:anR->Int->anW) (J r4:anR) (r5:Int):anW:=
 (BJ r4 J).bind λaS=>cond (aS==(-1)) (some r5) ((fw r4 (i64.wrap (aS+(J.length:Int))) (r4.length:Int)).bind λbu=>acj bu (i64.wrap (r5+1)))
def JR (J:anR):Nat->anR->Int->anW
 |0,_,_=>none
 |n+1,r4,r5=>aci (JR J n) J r4 r5
def JS (a0 J:anR):anW:=
 cond ((J.length:Int)==0) (none) (cond ((J.length:Int)==1) ((bI J 0).bind λaf=>(JQ a0 af).bind λaw=>some aw) (lim λn=>JR J n a0 0))
def BK (a0 J:anR) (a2 h8:Int) (yM:anR) (wE:anQ) (s_:Int):Option anQ:=
 (bI wE s_).bind λaf=>(fw (List.set wE (Int.toNat s_) yM) 0 (i64.wrap (s_+1))).bind λaw=>some aw
def JT (ack:anR->anQ->Int->Option anQ) (a0 J:anR) (a2 h8:Int) (nd:anR) (lZ:anQ) (jL:Int):Option anQ:=
 cond (decide (jL<(i64.wrap ((i_ false h8 (i64.wrap ((a0.length:Int)+1)))-1)))) ((BJ nd J).bind λaS=>cond (decide (aS<0)) (BK a0 J a2 h8 nd lZ jL) ((fw nd 0 (i64.wrap (aS+a2))).bind λbu=>(bI lZ jL).bind λbw=>(fw nd (i64.wrap (aS+(J.length:Int))) (nd.length:Int)).bind λbF=>ack bF (List.set lZ (Int.toNat jL) bu) (i64.wrap (jL+1)))) (BK a0 J a2 h8 nd lZ jL)
def wF (a0 J:anR) (a2 h8:Int):Nat->anR->anQ->Int->Option anQ
 |0,_,_,_=>none
 |n+1,nd,lZ,jL=>JT (wF a0 J a2 h8 n) a0 J a2 h8 nd lZ jL
def EY (a0 J:anR) (a2 h8:Int):Option anQ:=
 (kg 16 (i_ false h8 (i64.wrap ((a0.length:Int)+1)))).bind λ_=>lim λn=>wF a0 J a2 h8 n a0 (replicate (Int.toNat (i_ false h8 (i64.wrap ((a0.length:Int)+1)))) ([]:anR)) 0
def JU (a0 J:anR) (a2 a3:Int):Option anQ:=
 cond (a3==0) (some []) (cond (J==([]:anR)) (none) (cond (decide (a3<0)) ((JS a0 J).bind λb8=>EY a0 J a2 (i64.wrap (b8+1))) (EY a0 J a2 a3)))
def EZ (a0 J:anR):Option anQ:=
 (JU a0 J 0 (-1)).bind λaf=>some af
def fp (c:UInt8):Bool:=decide (48<=c.toNat)&&decide (c.toNat<=57)
def iJ (d:anR):Nat:=d.foldl (λn c=>10*n+(c.toNat-48)) 0
def nf (k:Nat) (d:anR):Int×Bool:=if d≠[]/\d.length<=18/\d.all fp=true/\¬(d.head? =some 48/\1<d.length+k)then(if k=1 then-(iJ d:Int)else iJ d,true)else(0,false)
def hU (s:anR):Int×Bool:=if s.head? =some 45 then nf 1 s.tail else nf 0 s
def E0 (a0:anR):Option (Int×Bool):=some (hU a0)
def JV (cM:anT->Int->Option (anT×Bool)) (a0:anQ) (cv:anT) (hb:Int):Option (anT×Bool):=
 cond (decide (hb<(a0.length:Int))) ((bI a0 hb).bind λaf=>(E0 af).bind λaw=>cond (!aw.2) (some ([],false)) ((room 8 (cv.length+1)).bind λ_=>cM (cv++[aw.1]) (i64.wrap (hb+1)))) (some (cv,true))
def yN (a0:anQ):Nat->anT->Int->Option (anT×Bool)
 |0,_,_=>none
 |n+1,cv,hb=>JV (yN a0 n) a0 cv hb
def E1 (a0:anQ):Option (anT×Bool):=
 lim λn=>yN a0 n [] 0
def wG (n:Nat):anR:=if h:n<10 then [UInt8.ofNat (48+n)]else wG (n/10)++[UInt8.ofNat (48+n%10)]
 termination_by n
 decreasing_by omega
def E2 (n:Int):anR:=if n<0 then 45::wG n.natAbs else wG n.toNat
def BL (a0 J:Int):Option anR:=if-9223372036854775808<=a0/\a0<=9223372036854775807/\J=10 then some (E2 a0)else none
def BM (a0:Int):Option anR:=
 (BL a0 10).bind λaf=>some af
def strings_Join (a0:anQ) (J:anR):Option anR:=if a0.length<=140737488355328/\(gV a0 J).length<=140737488355328 then some (gV a0 J)else none
def JW (cM:anQ->Int->Option anR) (a0:anT) (J:anR) (eR:anQ) (mH:Int):Option anR:=
 cond (decide (mH<(a0.length:Int))) ((bI a0 mH).bind λaf=>(BM af).bind λaw=>(bI eR mH).bind λaS=>cM (List.set eR (Int.toNat mH) aw) (i64.wrap (mH+1))) ((strings_Join eR J).bind λbu=>some bu)
def yO (a0:anT) (J:anR):Nat->anQ->Int->Option anR
 |0,_,_=>none
 |n+1,eR,mH=>JW (yO a0 J n) a0 J eR mH
def yP (a0:anT) (J:anR):Option anR:=
 (kg 16 (a0.length:Int)).bind λ_=>lim λn=>yO a0 J n (replicate (Int.toNat (a0.length:Int)) ([]:anR)) 0
def wH (a0:anR) (J:anT):Option (anR×Bool):=
 cond (a0==([116,97,117]:anR)) (some (([116,97,117]:anR),((J.length:Int)==0))) ((uy a0).bind λaw=>cond (!aw) (some (([]:anR),false)) (cond (decide (2<(J.length:Int))) (some (([]:anR),false)) ((uw J).bind λaS=>cond (!aS) (some (([]:anR),false)) (cond ((J.length:Int)==0) (some (a0,true)) ((iO (a0.length+1)).bind λ_=>(yP J ([44]:anR)).bind λbu=>(iO ((a0++([40]:anR)).length+bu.length)).bind λ_=>(iO (((a0++([40]:anR))++bu).length+1)).bind λ_=>some ((((a0++([40]:anR))++bu)++([41]:anR)),true))))))
def BN (a0:anR) (af:anR×anR×Bool) (gT:anT):Option (anR×anT×Bool):=
 (wH af.1 gT).bind λaw=>cond ((!aw.2)||(!(aw.1==a0))) (some (([]:anR),[],false)) (some (af.1,gT,true))
def E3 (a0:anR):Option (anR×anT×Bool):=
 (yL a0 ([40]:anR)).bind λaf=>cond af.2.2 ((strings_TrimSuffix af.2.1 ([41]:anR)).bind λaS=>(EZ aS ([44]:anR)).bind λbu=>(E1 bu).bind λbw=>cond (!bw.2) (some (([]:anR),[],false)) (BN a0 af bw.1)) (BN a0 af [])
def wI (a0:anR):anV:=
 (E3 a0).bind λaf=>some af.2.2
def JX (a0:anR):anV:=
 (wI a0).bind λaf=>some (!af)
def JY (dJ:Int->anW) (a0:anQ) (e1:Int):anW:=
 cond (decide (e1<(a0.length:Int))) ((bI a0 e1).bind λaf=>(JX af).bind λaw=>cond aw (some e1) (dJ (i64.wrap (e1+1)))) (some (-1))
def yQ (a0:anQ):Nat->Int->anW
 |0,_=>none
 |n+1,e1=>JY (yQ a0 n) a0 e1
def JZ (a0:anQ):anW:=
 lim λn=>yQ a0 n 0
def J0 (a0:anQ):anV:=
 (JZ a0).bind λaf=>some (decide (0<=af))
def E4 (a0:anQ):anV:=
 (J0 a0).bind λaf=>some (!af)
def E5 (a0:anT):Option anT:=
 cond a0.isEmpty (both (some []) ((room 8 (a0.length)).bind λ_=>some a0)) ((room 8 (a0.length)).bind λ_=>some a0)
def J1 (r6:aoe->Option (aO×(List b7)×aoe)) (mn:(List b7)->aoe->Int->Option (aO×(List b7)×aoe)) (af:aO) (aS:Int) (gP:List b7) (gw:aoe) (qO:Int):Option (aO×(List b7)×aoe):=
 cond (decide (qO<aS)) ((r6 gw).bind λbu=>(room 8 (gP.length+1)).bind λ_=>mn (gP++[(b7.mk bu.1 bu.2.1)]) bu.2.2 (i64.wrap (qO+1))) (some (af,gP,gw))
def wJ (r6:aoe->Option (aO×(List b7)×aoe)) (af:aO) (aS:Int):Nat->(List b7)->aoe->Int->Option (aO×(List b7)×aoe)
 |0,_,_,_=>none
 |n+1,gP,gw,qO=>J1 r6 (wJ r6 af aS n) af aS gP gw qO
def J2 (r6:aoe->Option (aO×(List b7)×aoe)) (a0:aoe):Option (aO×(List b7)×aoe):=
 (bI a0 0).bind λaf=>(fw a0 1 (a0.length:Int)).bind λaw=>(EM af).bind λaS=>lim λn=>wJ r6 af aS n [] aw 0
def yR:Nat->aoe->Option (aO×(List b7)×aoe)
 |0,_=>none
 |n+1,a0=>J2 (yR n) a0
def J3 (a0:aoe):Option (aO×(List b7)×aoe):=
 lim λn=>yR n a0
def yS (a0:aoe):Option (aO×(List b7)):=
 (J3 a0).bind λaf=>some (af.1,af.2.1)
def E6:Option anT:=
 some []
def J4 (J:Int):Option anT:=
 cond (decide (0<(i64.wrap (J-(i64.wrap 0))))) ((kg 8 (i64.wrap (J-(i64.wrap 0)))).bind λ_=>E6) (E6)
def E7 (J:Int):Option anT:=
 cond (decide (J<0)) (none) (J4 J)
def J5 (cM:Int->Int->Option anT) (a0:List anT) (pn po:Int) (s8:Bool):Option anT:=
 cM pn (i64.wrap (po+1))
def J6 (wA:anT->Int->Option anT) (a0:List anT) (iI:anT) (jm:Int):Option anT:=
 cond (decide (jm<(a0.length:Int))) ((bI a0 jm).bind λaS=>(room 8 (iI.length+aS.length)).bind λ_=>wA (iI++aS) (i64.wrap (jm+1))) (some iI)
def wK (a0:List anT):Nat->anT->Int->Option anT
 |0,_,_=>none
 |n+1,iI,jm=>J6 (wK a0 n) a0 iI jm
def J7 (cM:Int->Int->Option anT) (a0:List anT) (cm hb:Int):Option anT:=
 cond (decide (hb<(a0.length:Int))) ((bI a0 hb).bind λaf=>cond (decide ((i64.wrap (cm+(af.length:Int)))<0)) (none) (J5 cM a0 (i64.wrap (cm+(af.length:Int))) hb (decide ((i64.wrap (cm+(af.length:Int)))<0)))) ((E7 cm).bind λaw=>lim λn=>wK a0 n aw 0)
def wL (a0:List anT):Nat->Int->Int->Option anT
 |0,_,_=>none
 |n+1,cm,hb=>J7 (wL a0 n) a0 cm hb
def BO (a0:List anT):Option anT:=
 lim λn=>wL a0 n 0 0
def p8 (a0:Bool):anW:=
 cond a0 (some 1) (some 0)
def E8 (a0 J a2:Int):anW:=
 cond (a0==0) (some (Int.tmod (i64.wrap (J+a2)) 64)) (cond (a0==1) (some (Int.tmod (i64.wrap ((i64.wrap (J-a2))+64)) 64)) (cond (a0==2) (some (Int.tmod (i64.wrap (J*a2)) 64)) (cond (a0==3) ((p8 (J==a2)).bind λaf=>some af) (cond (a0==4) ((p8 (J !=a2)).bind λaw=>some aw) (cond (a0==5) ((p8 (decide (J<a2))).bind λaS=>some aS) (cond (a0==6) ((p8 (decide (J<=a2))).bind λbu=>some bu) (cond (a0==7) (cond (J !=0) ((p8 (a2 !=0)).bind λbw=>some bw) ((p8 false).bind λbF=>some bF)) (cond (J !=0) ((p8 true).bind λb8=>some b8) ((p8 (a2 !=0)).bind λcA=>some cA)))))))))
def J8 (yT:b7->anT->anW) (a0:b7) (J:anT):anW:=
 cond (a0.term.Kind==0) (some a0.term.Value) (cond (a0.term.Kind==1) ((bI J a0.term.Value).bind λaf=>some af) (cond (a0.term.Kind==3) ((bI a0.args 0).bind λaw=>(yT aw J).bind λaS=>(p8 (aS==0)).bind λbu=>some bu) ((bI a0.args 0).bind λbw=>(yT bw J).bind λbF=>(bI a0.args 1).bind λb8=>(yT b8 J).bind λcA=>(E8 a0.term.Value bF cA).bind λdf=>some df)))
def wM:Nat->b7->anT->anW
 |0,_,_=>none
 |n+1,a0,J=>J8 (wM n) a0 J
def BP (a0:b7) (J:anT):anW:=
 lim λn=>wM n a0 J
def yU (a0:aoe) (J:anT):anW:=
 (yS a0).bind λaf=>(BP (b7.mk af.1 af.2) J).bind λaw=>some aw
def J9 (cM:anT->Int->Option anT) (a0:aob) (J eR:anT) (p9:Int):Option anT:=
 cond (decide (p9<(a0.length:Int))) ((bI a0 p9).bind λaf=>(yU af J).bind λaw=>(room 8 (eR.length+1)).bind λ_=>cM (eR++[aw]) (i64.wrap (p9+1))) (some eR)
def yV (a0:aob) (J:anT):Nat->anT->Int->Option anT
 |0,_,_=>none
 |n+1,eR,p9=>J9 (yV a0 J n) a0 J eR p9
def BQ (a0:aob) (J:anT):Option anT:=
 lim λn=>yV a0 J n [] 0
def E9 (a0 eN:anT) (et:aoe) (gG:anR) (oG oH:aob) (a2:anP) (a3:aog):Option (anP×aog):=
 (BQ oG a0).bind λaf=>(wH gG af).bind λaw=>(BQ oH a0).bind λaS=>(iO (aw.1.length+1)).bind λ_=>(yP aS ([44]:anR)).bind λbu=>(iO ((aw.1++([32]:anR)).length+bu.length)).bind λ_=>cond (!(kE ((aw.1++([32]:anR))++bu) a2)) ((room 40 (a3.length+1)).bind λ_=>some ((kF ((aw.1++([32]:anR))++bu) true a2),(a3++[(bB.mk aw.1 aS)]))) (some (a2,a3))
def J_ (a0 nU:anT) (nV:aoe) (nW:anR) (nX nY:aob) (BR:anP) (BS:aog):Option (Bool×anT×aoe×anR×aob×aob×anP×aog):=
 some (true,nU,nV,nW,nX,nY,BR,BS)
def E_ (a0 J:anT) (jn a201:Int) (mI:List b7) (nU:anT) (nV:aoe) (nW:anR) (nX nY:aob) (r7:anP) (r8:aog):Option (Bool×anT×aoe×anR×aob×aob×anP×aog):=
 (BO [J,a0]).bind λaf=>(BP (b7.mk (aO.mk jn a201) mI) af).bind λaw=>cond (aw !=0) ((E9 af nU nV nW nX nY r7 r8).bind λaS=>J_ a0 nU nV nW nX nY aS.1 aS.2) (J_ a0 nU nV nW nX nY r7 r8)
def Ka (dm:anT->aoe->anR->aob->aob->anP->aog->anT->Option (anT×Int×Int×(List b7)×anT×aoe×anR×aob×aob×anP×aog)) (acm:anT->aoe->anR->aob->aob->anP->aog->anT->Int->Option (anT×Int×Int×(List b7)×anT×aoe×anR×aob×aob×anP×aog)) (a0 eN:anT) (et:aO) (gG:List b7) (l0:anT) (l1:aoe) (l3:anR) (l4 l5:aob) (l6:anP) (l7:aog) (l8:anT) (iZ:Int):Option (anT×Int×Int×(List b7)×anT×aoe×anR×aob×aob×anP×aog):=
 cond (decide (0<=iZ)) ((bI l8 iZ).bind λaw=>(bI a0 iZ).bind λaS=>cond (aw==aS) (acm l0 l1 l3 l4 l5 l6 l7 (List.set l8 (Int.toNat iZ) 0) (i64.wrap (iZ-1))) (cond (decide (iZ<0)) (some (eN,et.Kind,et.Value,gG,l0,l1,l3,l4,l5,l6,l7)) (dm l0 l1 l3 l4 l5 l6 l7 (List.set l8 (Int.toNat iZ) (i64.wrap (aw+1)))))) (cond (decide (iZ<0)) (some (eN,et.Kind,et.Value,gG,l0,l1,l3,l4,l5,l6,l7)) ((bI l8 iZ).bind λbu=>dm l0 l1 l3 l4 l5 l6 l7 (List.set l8 (Int.toNat iZ) (i64.wrap (bu+1)))))
def wN (dm:anT->aoe->anR->aob->aob->anP->aog->anT->Option (anT×Int×Int×(List b7)×anT×aoe×anR×aob×aob×anP×aog)) (a0 eN:anT) (et:aO) (gG:List b7):Nat->anT->aoe->anR->aob->aob->anP->aog->anT->Int->Option (anT×Int×Int×(List b7)×anT×aoe×anR×aob×aob×anP×aog)
 |0,_,_,_,_,_,_,_,_,_=>none
 |n+1,l0,l1,l3,l4,l5,l6,l7,l8,iZ=>Ka dm (wN dm a0 eN et gG n) a0 eN et gG l0 l1 l3 l4 l5 l6 l7 l8 iZ
def Kb (dm:anT->aoe->anR->aob->aob->anP->aog->anT->Option (anT×Int×Int×(List b7)×anT×aoe×anR×aob×aob×anP×aog)) (a0 eN:anT) (et:aO) (gG:List b7) (uz:anT) (uA:aoe) (uB:anR) (uC uD:aob) (uE:anP) (uF:aog) (pq:anT):Option (anT×Int×Int×(List b7)×anT×aoe×anR×aob×aob×anP×aog):=
 (E_ pq eN et.Kind et.Value gG uz uA uB uC uD uE uF).bind λaf=>cond af.1 (lim λn=>wN dm a0 eN et gG n af.2.1 af.2.2.1 af.2.2.2.1 af.2.2.2.2.1 af.2.2.2.2.2.1 af.2.2.2.2.2.2.1 af.2.2.2.2.2.2.2 pq (i64.wrap ((pq.length:Int)-1))) (some (eN,et.Kind,et.Value,gG,af.2.1,af.2.2.1,af.2.2.2.1,af.2.2.2.2.1,af.2.2.2.2.2.1,af.2.2.2.2.2.2.1,af.2.2.2.2.2.2.2))
def ta (a0 eN:anT) (et:aO) (gG:List b7):Nat->anT->aoe->anR->aob->aob->anP->aog->anT->Option (anT×Int×Int×(List b7)×anT×aoe×anR×aob×aob×anP×aog)
 |0,_,_,_,_,_,_,_,_=>none
 |n+1,uz,uA,uB,uC,uD,uE,uF,pq=>Kb (ta a0 eN et gG n) a0 eN et gG uz uA uB uC uD uE uF pq
def Fa (a0 eN:anT) (et:aO) (gG:List b7) (oG:anT) (oH:aoe) (a105:anR) (wO a107:aob) (wP:anP) (a109:aog):Option (anT×Int×Int×(List b7)×anT×aoe×anR×aob×aob×anP×aog):=
 (kg 8 (a0.length:Int)).bind λ_=>lim λn=>ta a0 eN et gG n oG oH a105 wO a107 wP a109 (replicate (Int.toNat (a0.length:Int)) 0)
def Kc (a0:bS) (J:anT) (jn:bS) (a201:anP) (mI:aog):Option (anT×aoe×anR×aob×aob×anP×aog):=
 (yS a0.Guard).bind λaf=>(Fa a0.a7 J af.1 af.2 jn.a7 jn.Guard jn.Name jn.bU jn.Next a201 mI).bind λaw=>some (aw.2.2.2.2.1,aw.2.2.2.2.2.1,aw.2.2.2.2.2.2.1,aw.2.2.2.2.2.2.2.1,aw.2.2.2.2.2.2.2.2.1,aw.2.2.2.2.2.2.2.2.2.1,aw.2.2.2.2.2.2.2.2.2.2)
def Kd (mn:aog->anP->Int->Option aog) (a0:dw) (J:anT) (gw:aog) (lp:anP) (qP:Int):Option aog:=
 cond (decide (qP<(a0.cG.length:Int))) ((bI a0.cG qP).bind λaf=>(Kc af J af lp gw).bind λaw=>mn aw.2.2.2.2.2.2 aw.2.2.2.2.2.1 (i64.wrap (qP+1))) (some gw)
def yW (a0:dw) (J:anT):Nat->aog->anP->Int->Option aog
 |0,_,_,_=>none
 |n+1,gw,lp,qP=>Kd (yW a0 J n) a0 J gw lp qP
def yX (a0:dw) (J:anT):Option aog:=
 lim λn=>yW a0 J n [] [] 0
def pr (p:anT):Bool:=decide (p.length<=1099511627776)
def c_:anT->anT->Int
 |[],[]=>0
 |[],_::_=> -1
 |_::_,[]=>1
 |a::x,b::y=>if a<b then-1 else if b<a then 1 else c_ x y
def yY (a0:List anT):Option (List anT):=if a0.length<4611686018427387904/\a0.all pr=true then some (a0.mergeSort λx y=>decide (c_ x y<=0))else none
def qQ {α:Type} (eq:α->α->Bool) (p:α):List α->List α
 |[]=>[]
 |x::l=>if eq x p=true then qQ eq x l else x::qQ eq x l
def uG {α:Type} (eq:α->α->Bool):List α->List α
 |[]=>[]
 |x::l=>x::qQ eq x l
def yZ (a0:List anT):Option (List anT):=if a0.length<=4611686018427387904/\a0.all pr=true then some (uG (λx y=>x==y) a0)else none
def Fb (cM:(List anT)->Int->Option ((List anT))) (jJ:(List anT)->Int->(List (Bool×bB))->Int->Option ((List anT))) (a0:dw) (J:List anT) (a2:anR) (aw:aog) (y0:List anT) (y1:Int) (y2:List (Bool×bB)) (y3:Int):Option ((List anT)):=
 jJ y0 y1 y2 (i64.wrap (y3+1))
def Ke (cM:(List anT)->Int->Option ((List anT))) (jJ:(List anT)->Int->(List (Bool×bB))->Int->Option ((List anT))) (a0:dw) (J:List anT) (a2:anR) (aw:aog) (ng:List anT) (nZ:Int) (oI:List (Bool×bB)) (kb:Int):Option ((List anT)):=
 cond (decide (kb<(aw.length:Int))) ((bI oI kb).bind λaS=>(xj (!aS.1)).bind λ_=>cond (aS.2.Label==a2) ((room 24 (ng.length+1)).bind λ_=>Fb cM jJ a0 J a2 aw (ng++[aS.2.Next]) nZ (List.set oI (Int.toNat kb) (true,aS.2)) kb) (Fb cM jJ a0 J a2 aw ng nZ (List.set oI (Int.toNat kb) (true,aS.2)) kb)) (cM ng (i64.wrap (nZ+1)))
def wQ (cM:(List anT)->Int->Option ((List anT))) (a0:dw) (J:List anT) (a2:anR) (aw:aog):Nat->(List anT)->Int->(List (Bool×bB))->Int->Option ((List anT))
 |0,_,_,_,_=>none
 |n+1,ng,nZ,oI,kb=>Ke cM (wQ cM a0 J a2 aw n) a0 J a2 aw ng nZ oI kb
def Kf (cM:(List anT)->Int->Option ((List anT))) (a0:dw) (J:List anT) (a2:anR) (qR:List anT) (qS:Int):Option ((List anT)):=
 cond (decide (qS<(J.length:Int))) ((bI J qS).bind λaf=>(yX a0 af).bind λaw=>lim λn=>wQ cM a0 J a2 aw n qR qS (map (λx=>(false,x)) aw) 0) ((yY qR).bind λbu=>(yZ bu).bind λbw=>some bw)
def qT (a0:dw) (J:List anT) (a2:anR):Nat->(List anT)->Int->Option ((List anT))
 |0,_,_=>none
 |n+1,qR,qS=>Kf (qT a0 J a2 n) a0 J a2 qR qS
def Fe (a0:dw) (J:List anT) (a2:anR):Option ((List anT)):=
 lim λn=>qT a0 J a2 n [] 0
def Kg (acn:(List anT)->Int->Option ((List anT)×Int)) (a0:dw) (J:anQ) (r9:List anT) (qU:Int):Option ((List anT)×Int):=
 cond (decide (qU<(J.length:Int))) ((bI J qU).bind λbu=>(Fe a0 r9 bu).bind λbw=>cond (decide (40<(bw.length:Int))) (some ([],5)) (cond ((bw.length:Int)==0) (some ([],3)) (acn bw (i64.wrap (qU+1))))) (some (r9,0))
def uH (a0:dw) (J:anQ):Nat->(List anT)->Int->Option ((List anT)×Int)
 |0,_,_=>none
 |n+1,r9,qU=>Kg (uH a0 J n) a0 J r9 qU
def BT (a0:dw) (J:anQ):Option ((List anT)×Int):=
 (EU a0).bind λaf=>cond (!af) (some ([],1)) ((E4 J).bind λaw=>cond (!aw) (some ([],2)) ((E5 a0.Start).bind λaS=>lim λn=>uH a0 J n [aS] 0))
def aco (kV:Int->anV) (a0 J:anT) (cW:Int):anV:=
 cond (decide (cW<(a0.length:Int))) ((bI a0 cW).bind λaf=>(bI J cW).bind λaw=>cond (af !=aw) (some false) (kV (i64.wrap (cW+1)))) (some true)
def Kh (a0 J:anT):Nat->Int->anV
 |0,_=>none
 |n+1,cW=>aco (Kh a0 J n) a0 J cW
def wR (a0 J:anT):anV:=
 cond ((a0.length:Int) !=(J.length:Int)) (some false) (lim λn=>Kh a0 J n 0)
def acp (kV:Int->anV) (a0 J:List anT) (cW:Int):anV:=
 cond (decide (cW<(a0.length:Int))) ((bI a0 cW).bind λaf=>(bI J cW).bind λaw=>(wR af aw).bind λaS=>cond (!aS) (some false) (kV (i64.wrap (cW+1)))) (some true)
def Ki (a0 J:List anT):Nat->Int->anV
 |0,_=>none
 |n+1,cW=>acp (Ki a0 J n) a0 J cW
def y4 (a0 J:List anT):anV:=
 cond ((a0.length:Int) !=(J.length:Int)) (some false) (lim λn=>Ki a0 J n 0)
def BU (a0 J:aO):anV:=
 cond (a0.Kind !=J.Kind) (some false) (cond (a0.Value !=J.Value) (some false) (some true))
def acq (kV:Int->anV) (a0 J:aoe) (cW:Int):anV:=
 cond (decide (cW<(a0.length:Int))) ((bI a0 cW).bind λaf=>(bI J cW).bind λaw=>(BU af aw).bind λaS=>cond (!aS) (some false) (kV (i64.wrap (cW+1)))) (some true)
def Kj (a0 J:aoe):Nat->Int->anV
 |0,_=>none
 |n+1,cW=>acq (Kj a0 J n) a0 J cW
def y5 (a0 J:aoe):anV:=
 cond ((a0.length:Int) !=(J.length:Int)) (some false) (lim λn=>Kj a0 J n 0)
def acr (kV:Int->anV) (a0 J:aob) (cW:Int):anV:=
 cond (decide (cW<(a0.length:Int))) ((bI a0 cW).bind λaf=>(bI J cW).bind λaw=>(y5 af aw).bind λaS=>cond (!aS) (some false) (kV (i64.wrap (cW+1)))) (some true)
def Kk (a0 J:aob):Nat->Int->anV
 |0,_=>none
 |n+1,cW=>acr (Kk a0 J n) a0 J cW
def BV (a0 J:aob):anV:=
 cond ((a0.length:Int) !=(J.length:Int)) (some false) (lim λn=>Kk a0 J n 0)
def BW (a0 J:bS):anV:=
 (wR a0.a7 J.a7).bind λaf=>cond (!af) (some false) ((y5 a0.Guard J.Guard).bind λaw=>cond (!aw) (some false) (cond (!(a0.Name==J.Name)) (some false) ((BV a0.bU J.bU).bind λaS=>cond (!aS) (some false) ((BV a0.Next J.Next).bind λbu=>cond (!bu) (some false) (some true)))))
def acs (kV:Int->anV) (a0 J:aof) (cW:Int):anV:=
 cond (decide (cW<(a0.length:Int))) ((bI a0 cW).bind λaf=>(bI J cW).bind λaw=>(BW af aw).bind λaS=>cond (!aS) (some false) (kV (i64.wrap (cW+1)))) (some true)
def Kl (a0 J:aof):Nat->Int->anV
 |0,_=>none
 |n+1,cW=>acs (Kl a0 J n) a0 J cW
def Ff (a0 J:aof):anV:=
 cond ((a0.length:Int) !=(J.length:Int)) (some false) (lim λn=>Kl a0 J n 0)
def Fg (a0 J:dw):anV:=
 cond (a0.eY !=J.eY) (some false) ((wR a0.Start J.Start).bind λaf=>cond (!af) (some false) ((Ff a0.cG J.cG).bind λaw=>cond (!aw) (some false) (some true)))
def acu (kV:Int->anV) (a0 J:anQ) (cW:Int):anV:=
 cond (decide (cW<(a0.length:Int))) ((bI a0 cW).bind λaf=>(bI J cW).bind λaw=>cond (!(af==aw)) (some false) (kV (i64.wrap (cW+1)))) (some true)
def Km (a0 J:anQ):Nat->Int->anV
 |0,_=>none
 |n+1,cW=>acu (Km a0 J n) a0 J cW
def Fh (a0 J:anQ):anV:=
 cond ((a0.length:Int) !=(J.length:Int)) (some false) (lim λn=>Km a0 J n 0)
def Kn (dJ:anT->Int->Int->Option (Int×anT)) (cd:anT) (bW aR:Int):Option (Int×anT):=
 cond (decide (aR<(cd.length:Int))) ((bI cd aR).bind λaf=>dJ (List.set cd (Int.toNat aR) bW) (i64.wrap (bW+1)) (i64.wrap (aR+1))) (some (bW,cd))
def y6:Nat->anT->Int->Int->Option (Int×anT)
 |0,_,_,_=>none
 |n+1,cd,bW,aR=>Kn (y6 n) cd bW aR
def y7 (a0:anT) (J:Int):Option (Int×anT):=
 lim λn=>y6 n a0 J 0
def Ko (dJ:aoe->Int->Int->Option (Int×aoe)) (cd:aoe) (bW aR:Int):Option (Int×aoe):=
 cond (decide (aR<(cd.length:Int))) ((bI cd aR).bind λaf=>(bI (List.set cd (Int.toNat aR) (aO.mk bW af.Value)) aR).bind λaw=>dJ (List.set (List.set cd (Int.toNat aR) (aO.mk bW af.Value)) (Int.toNat aR) (aO.mk aw.Kind (i64.wrap (bW+1)))) (i64.wrap ((i64.wrap (bW+1))+1)) (i64.wrap (aR+1))) (some (bW,cd))
def y8:Nat->aoe->Int->Int->Option (Int×aoe)
 |0,_,_,_=>none
 |n+1,cd,bW,aR=>Ko (y8 n) cd bW aR
def BX (a0:aoe) (J:Int):Option (Int×aoe):=
 lim λn=>y8 n a0 J 0
def Fi (kV:Int->anR->Option anR) (mJ:Int) (gm:anR):Option anR:=
 cond (decide (0<mJ)) ((iO (1+gm.length)).bind λ_=>kV (i64.wrap (Int.tdiv mJ 10)) ([(ns (i64.wrap (48+(Int.tmod mJ 10))))]++gm)) ((iO (1+gm.length)).bind λ_=>some (([109]:anR)++gm))
def wS:Nat->Int->anR->Option anR
 |0,_,_=>none
 |n+1,mJ,gm=>Fi (wS n) mJ gm
def BZ (a0:Int):Option anR:=
 cond (decide (a0<=0)) (some ([109,48]:anR)) (lim λn=>wS n a0 ([]:anR))
def Kp (dJ:aob->Int->Int->Option (Int×aob)) (cd:aob) (bW aR:Int):Option (Int×aob):=
 cond (decide (aR<(cd.length:Int))) ((bI cd aR).bind λaf=>(BX af bW).bind λaw=>dJ (List.set cd (Int.toNat aR) aw.2) aw.1 (i64.wrap (aR+1))) (some (bW,cd))
def y9:Nat->aob->Int->Int->Option (Int×aob)
 |0,_,_,_=>none
 |n+1,cd,bW,aR=>Kp (y9 n) cd bW aR
def B0 (a0:aob) (J:Int):Option (Int×aob):=
 lim λn=>y9 n a0 J 0
def Kq (dJ:aof->Int->Int->Option (Int×aof)) (cd:aof) (bW aR:Int):Option (Int×aof):=
 cond (decide (aR<(cd.length:Int))) ((bI cd aR).bind λaf=>(y7 af.a7 bW).bind λaw=>(bI (List.set cd (Int.toNat aR) (bS.mk aw.2 af.Guard af.Name af.bU af.Next)) aR).bind λaS=>(BX aS.Guard aw.1).bind λbu=>(BZ bu.1).bind λbw=>(bI (List.set (List.set cd (Int.toNat aR) (bS.mk aw.2 af.Guard af.Name af.bU af.Next)) (Int.toNat aR) (bS.mk aS.a7 bu.2 aS.Name aS.bU aS.Next)) aR).bind λbF=>(bI (List.set (List.set (List.set cd (Int.toNat aR) (bS.mk aw.2 af.Guard af.Name af.bU af.Next)) (Int.toNat aR) (bS.mk aS.a7 bu.2 aS.Name aS.bU aS.Next)) (Int.toNat aR) (bS.mk bF.a7 bF.Guard bw bF.bU bF.Next)) aR).bind λb8=>(B0 b8.bU (i64.wrap (bu.1+1))).bind λcA=>(bI (List.set (List.set (List.set (List.set cd (Int.toNat aR) (bS.mk aw.2 af.Guard af.Name af.bU af.Next)) (Int.toNat aR) (bS.mk aS.a7 bu.2 aS.Name aS.bU aS.Next)) (Int.toNat aR) (bS.mk bF.a7 bF.Guard bw bF.bU bF.Next)) (Int.toNat aR) (bS.mk b8.a7 b8.Guard b8.Name cA.2 b8.Next)) aR).bind λdf=>(B0 df.Next cA.1).bind λeQ=>dJ (List.set (List.set (List.set (List.set (List.set cd (Int.toNat aR) (bS.mk aw.2 af.Guard af.Name af.bU af.Next)) (Int.toNat aR) (bS.mk aS.a7 bu.2 aS.Name aS.bU aS.Next)) (Int.toNat aR) (bS.mk bF.a7 bF.Guard bw bF.bU bF.Next)) (Int.toNat aR) (bS.mk b8.a7 b8.Guard b8.Name cA.2 b8.Next)) (Int.toNat aR) (bS.mk df.a7 df.Guard df.Name df.bU eQ.2)) eQ.1 (i64.wrap (aR+1))) (some (bW,cd))
def y_:Nat->aof->Int->Int->Option (Int×aof)
 |0,_,_,_=>none
 |n+1,cd,bW,aR=>Kq (y_ n) cd bW aR
def Fj (a0:aof) (J:Int):Option (Int×aof):=
 lim λn=>y_ n a0 J 0
def Fk (wT:Int) (za:anT) (wU:aof) (J:Int):Option (Int×Int×anT×aof):=
 (y7 za J).bind λaf=>(Fj wU af.1).bind λaw=>some (aw.1,wT,af.2,aw.2)
def Kr (dJ:anQ->Int->Int->Option (Int×anQ)) (cd:anQ) (bW aR:Int):Option (Int×anQ):=
 cond (decide (aR<(cd.length:Int))) ((BZ bW).bind λaf=>(bI cd aR).bind λaw=>dJ (List.set cd (Int.toNat aR) af) (i64.wrap (bW+1)) (i64.wrap (aR+1))) (some (bW,cd))
def zb:Nat->anQ->Int->Int->Option (Int×anQ)
 |0,_,_,_=>none
 |n+1,cd,bW,aR=>Kr (zb n) cd bW aR
def Fl (a0:anQ) (J:Int):Option (Int×anQ):=
 lim λn=>zb n a0 J 0
def Ks (dJ:(List anT)->Int->Int->Option (Int×(List anT))) (cd:List anT) (bW aR:Int):Option (Int×(List anT)):=
 cond (decide (aR<(cd.length:Int))) ((bI cd aR).bind λaf=>(y7 af bW).bind λaw=>dJ (List.set cd (Int.toNat aR) aw.2) aw.1 (i64.wrap (aR+1))) (some (bW,cd))
def zc:Nat->(List anT)->Int->Int->Option (Int×(List anT))
 |0,_,_,_=>none
 |n+1,cd,bW,aR=>Ks (zc n) cd bW aR
def Fm (a0:List anT) (J:Int):Option (Int×(List anT)):=
 lim λn=>zc n a0 J 0
def Kt (dJ:Int->Int->anW) (a0:anT) (bW aR:Int):anW:=
 cond (decide (aR<(a0.length:Int))) ((bI a0 aR).bind λaf=>cond (af !=bW) (some (-1)) (dJ (i64.wrap (bW+1)) (i64.wrap (aR+1)))) (some bW)
def zd (a0:anT):Nat->Int->Int->anW
 |0,_,_=>none
 |n+1,bW,aR=>Kt (zd a0 n) a0 bW aR
def Fo (a0:anT) (J:Int):anW:=
 lim λn=>zd a0 n J 0
def Ku (dJ:Int->Int->anW) (a0:List anT) (bW aR:Int):anW:=
 cond (decide (aR<(a0.length:Int))) ((bI a0 aR).bind λaf=>(Fo af bW).bind λaw=>cond (decide (aw<0)) (some (-1)) (dJ aw (i64.wrap (aR+1)))) (some bW)
def ze (a0:List anT):Nat->Int->Int->anW
 |0,_,_=>none
 |n+1,bW,aR=>Ku (ze a0 n) a0 bW aR
def B1 (a0:List anT) (J:Int):anW:=
 lim λn=>ze a0 n J 0
def Kv (a0:nP) (J:anQ):anV:=
 (Ee a0 1048576).bind λaf=>cond (decide (af<0)) (some true) ((Ef J af).bind λaw=>cond (decide (aw<0)) (some true) ((we a0).bind λaS=>(wg J).bind λbu=>(ED aS bu).bind λbw=>(we a0).bind λbF=>(wg J).bind λb8=>(BT bF b8).bind λcA=>(y4 cA.1 bw.1).bind λdf=>cond ((!df)||(cA.2 !=bw.2)) (some false) ((we a0).bind λeQ=>(Fg bF eQ).bind λkx=>cond (!kx) (some false) ((wg J).bind λtb=>(Fh b8 tb).bind λwV=>cond (!wV) (some false) ((Fk bF.eY bF.Start bF.cG 1).bind λn0=>(Fl b8 n0.1).bind λuI=>cond (decide (uI.1<0)) (some false) ((y4 cA.1 bw.1).bind λpj=>cond ((!pj)||(cA.2 !=bw.2)) (some false) ((Fm cA.1 1).bind λiw=>(B1 iw.2 1).bind λnb=>cond (decide (nb<0)) (some false) (cond (nb !=iw.1) (some false) ((we a0).bind λpk=>(wg J).bind λKw=>(BT pk Kw).bind λuJ=>(y4 uJ.1 bw.1).bind λwW=>cond ((!wW)||(uJ.2 !=bw.2)) (some false) ((B1 iw.2 1).bind λzf=>cond (decide (zf<0)) (some false) (cond (zf !=iw.1) (some false) (some true))))))))))))
end
end Go.lT
