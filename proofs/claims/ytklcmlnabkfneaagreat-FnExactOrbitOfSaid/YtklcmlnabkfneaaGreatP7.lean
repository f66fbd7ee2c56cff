/- Part of a proof that a law returns true for every input. No condition. -/
import Derived.Test.YtklcmlnabkfneaaGreatFwA
namespace Go.l3
open List Option Go.IntKind Nat Or
open Go Go.de
set_option linter.unusedVariables false
noncomputable section
structure hS where
 Kind:Int
 Value:Int
def vq (x:hS):Prop:=(-9223372036854775808<=x.Kind/\x.Kind<=9223372036854775807)/\(-9223372036854775808<=x.Value/\x.Value<=9223372036854775807)
structure jk where
 Kind:Int
 Number:Int
 Name:alO
 cw:List (List hS)
def yC (x:jk):Prop:=(-9223372036854775808<=x.Kind/\x.Kind<=9223372036854775807)/\(-9223372036854775808<=x.Number/\x.Number<=9223372036854775807)/\x.Name.length<=9223372036854775807/\(x.cw.length<=9223372036854775807/\∀y∈x.cw,(y.length<=9223372036854775807/\∀z∈y,vq z))
structure jl where
 Name:alO
 db:Int
 Body:List jk
def yD (x:jl):Prop:=x.Name.length<=9223372036854775807/\(-9223372036854775808<=x.db/\x.db<=9223372036854775807)/\(x.Body.length<=9223372036854775807/\∀y∈x.Body,yC y)
structure jm where
 b6:Int
 bL:alQ
def yE (x:jm):Prop:=(-9223372036854775808<=x.b6/\x.b6<=9223372036854775807)/\(x.bL.length<=9223372036854775807/\∀y∈x.bL,(-9223372036854775808<=y/\y<=9223372036854775807))
structure iZ where
 Left:alO
 b_:alO
 Result:alO
def yF (x:iZ):Prop:=x.Left.length<=9223372036854775807/\x.b_.length<=9223372036854775807/\x.Result.length<=9223372036854775807
structure l4 where
 dU:List jl
 cU:List jm
 gV:List iZ
 gP:alN
 gQ:alN
def yG (x:l4):Prop:=(x.dU.length<=9223372036854775807/\∀y∈x.dU,yD y)/\(x.cU.length<=9223372036854775807/\∀y∈x.cU,yE y)/\(x.gV.length<=9223372036854775807/\∀y∈x.gV,yF y)/\(x.gP.length<=9223372036854775807/\∀y∈x.gP,y.length<=9223372036854775807)/\(x.gQ.length<=9223372036854775807/\∀y∈x.gQ,y.length<=9223372036854775807)
structure jn where
 b6:Int
 Part:Int
 bL:alQ
def vr (x:jn):Prop:=(-9223372036854775808<=x.b6/\x.b6<=9223372036854775807)/\(-9223372036854775808<=x.Part/\x.Part<=9223372036854775807)/\(x.bL.length<=9223372036854775807/\∀y∈x.bL,(-9223372036854775808<=y/\y<=9223372036854775807))
structure ct where
 Kind:Int
 Value:Int
def Yd (x:ct):Prop:=(-9223372036854775808<=x.Kind/\x.Kind<=9223372036854775807)/\(-9223372036854775808<=x.Value/\x.Value<=9223372036854775807)
structure bT where
 Kind:Int
 Number:Int
 Name:alO
 cw:List (List ct)
def Ye (x:bT):Prop:=(-9223372036854775808<=x.Kind/\x.Kind<=9223372036854775807)/\(-9223372036854775808<=x.Number/\x.Number<=9223372036854775807)/\x.Name.length<=9223372036854775807/\(x.cw.length<=9223372036854775807/\∀y∈x.cw,(y.length<=9223372036854775807/\∀z∈y,Yd z))
structure bs where
 Name:alO
 db:Int
 Body:List bT
def Yf (x:bs):Prop:=x.Name.length<=9223372036854775807/\(-9223372036854775808<=x.db/\x.db<=9223372036854775807)/\(x.Body.length<=9223372036854775807/\∀y∈x.Body,Ye y)
structure dR where
 b6:Int
 bL:alQ
def Yg (x:dR):Prop:=(-9223372036854775808<=x.b6/\x.b6<=9223372036854775807)/\(x.bL.length<=9223372036854775807/\∀y∈x.bL,(-9223372036854775808<=y/\y<=9223372036854775807))
structure cA where
 Left:alO
 b_:alO
 Result:alO
def Yh (x:cA):Prop:=x.Left.length<=9223372036854775807/\x.b_.length<=9223372036854775807/\x.Result.length<=9223372036854775807
structure e1 where
 dU:List bs
 cU:List dR
 gV:List cA
 gP:alN
 gQ:alN
def akM (x:e1):Prop:=(x.dU.length<=9223372036854775807/\∀y∈x.dU,Yf y)/\(x.cU.length<=9223372036854775807/\∀y∈x.cU,Yg y)/\(x.gV.length<=9223372036854775807/\∀y∈x.gV,Yh y)/\(x.gP.length<=9223372036854775807/\∀y∈x.gP,y.length<=9223372036854775807)/\(x.gQ.length<=9223372036854775807/\∀y∈x.gQ,y.length<=9223372036854775807)
structure aT where
 b6:Int
 Part:Int
 bL:alQ
def akN (x:aT):Prop:=(-9223372036854775808<=x.b6/\x.b6<=9223372036854775807)/\(-9223372036854775808<=x.Part/\x.Part<=9223372036854775807)/\(x.bL.length<=9223372036854775807/\∀y∈x.bL,(-9223372036854775808<=y/\y<=9223372036854775807))
structure c5 where
 scope:Int
 behind:Bool
abbrev ama:=List hS
abbrev amb:=List jk
abbrev amc:=List jl
abbrev amd:=List jm
abbrev ame:=List iZ
abbrev amf:=List jn
abbrev amg:=List ct
abbrev amh:=List bT
abbrev ami:=List bs
abbrev amj:=List dR
abbrev amk:=List cA
abbrev aml:=List aT
abbrev amm:=List c5
abbrev alX:=List (List hS)
abbrev alY:=List (List ct)
abbrev alZ:=List (List aT)
def akO (x:c5):Prop:=(-9223372036854775808<=x.scope/\x.scope<=9223372036854775807)/\True
def yH (a0:ama) (J:Int):alT:=
 cond (decide ((i64.wrap (J-(a0.length:Int)))<0)) (some (-1)) (some (i64.wrap (J-(a0.length:Int))))
def Yi (kd:Int->Int->alT) (a0:alX) (dy dm:Int):alT:=
 cond (decide (dm<(a0.length:Int))) ((bl a0 dm).bind λU=>(yH U dy).bind λah=>cond (decide (ah<0)) (some (-1)) (kd ah (i64.wrap (dm+1)))) (some dy)
def GD (a0:alX):Nat->Int->Int->alT
 |0,_,_=>none
 |n+1,dy,dm=>Yi (GD a0 n) a0 dy dm
def BV (a0:alX) (J:Int):alT:=
 cond (decide ((i64.wrap (J-(a0.length:Int)))<0)) (some (-1)) (lim λn=>GD a0 n (i64.wrap (J-(a0.length:Int))) 0)
def yI (a0:jk) (J:Int):alT:=
 cond (decide ((i64.wrap (J-(a0.Name.length:Int)))<0)) (some (-1)) ((BV a0.cw (i64.wrap (J-(a0.Name.length:Int)))).bind λU=>cond (decide (U<0)) (some (-1)) (some U))
def Yj (kd:Int->Int->alT) (a0:amb) (dy dm:Int):alT:=
 cond (decide (dm<(a0.length:Int))) ((bl a0 dm).bind λU=>(yI U dy).bind λah=>cond (decide (ah<0)) (some (-1)) (kd ah (i64.wrap (dm+1)))) (some dy)
def GF (a0:amb):Nat->Int->Int->alT
 |0,_,_=>none
 |n+1,dy,dm=>Yj (GF a0 n) a0 dy dm
def BW (a0:amb) (J:Int):alT:=
 cond (decide ((i64.wrap (J-(a0.length:Int)))<0)) (some (-1)) (lim λn=>GF a0 n (i64.wrap (J-(a0.length:Int))) 0)
def yJ (a0:jl) (J:Int):alT:=
 cond (decide ((i64.wrap (J-(a0.Name.length:Int)))<0)) (some (-1)) ((BW a0.Body (i64.wrap (J-(a0.Name.length:Int)))).bind λU=>cond (decide (U<0)) (some (-1)) (some U))
def Yk (kd:Int->Int->alT) (a0:amc) (dy dm:Int):alT:=
 cond (decide (dm<(a0.length:Int))) ((bl a0 dm).bind λU=>(yJ U dy).bind λah=>cond (decide (ah<0)) (some (-1)) (kd ah (i64.wrap (dm+1)))) (some dy)
def GG (a0:amc):Nat->Int->Int->alT
 |0,_,_=>none
 |n+1,dy,dm=>Yk (GG a0 n) a0 dy dm
def BX (a0:amc) (J:Int):alT:=
 cond (decide ((i64.wrap (J-(a0.length:Int)))<0)) (some (-1)) (lim λn=>GG a0 n (i64.wrap (J-(a0.length:Int))) 0)
def yK (a0:alQ) (J:Int):alT:=
 cond (decide ((i64.wrap (J-(a0.length:Int)))<0)) (some (-1)) (some (i64.wrap (J-(a0.length:Int))))
def yL (a0:jm) (J:Int):alT:=
 (yK a0.bL J).bind λU=>cond (decide (U<0)) (some (-1)) (some U)
def Yl (kd:Int->Int->alT) (a0:amd) (dy dm:Int):alT:=
 cond (decide (dm<(a0.length:Int))) ((bl a0 dm).bind λU=>(yL U dy).bind λah=>cond (decide (ah<0)) (some (-1)) (kd ah (i64.wrap (dm+1)))) (some dy)
def GH (a0:amd):Nat->Int->Int->alT
 |0,_,_=>none
 |n+1,dy,dm=>Yl (GH a0 n) a0 dy dm
def BZ (a0:amd) (J:Int):alT:=
 cond (decide ((i64.wrap (J-(a0.length:Int)))<0)) (some (-1)) (lim λn=>GH a0 n (i64.wrap (J-(a0.length:Int))) 0)
def yM (a0:iZ) (J:Int):alT:=
 cond (decide ((i64.wrap (J-(a0.Left.length:Int)))<0)) (some (-1)) (cond (decide ((i64.wrap ((i64.wrap (J-(a0.Left.length:Int)))-(a0.b_.length:Int)))<0)) (some (-1)) (cond (decide ((i64.wrap ((i64.wrap ((i64.wrap (J-(a0.Left.length:Int)))-(a0.b_.length:Int)))-(a0.Result.length:Int)))<0)) (some (-1)) (some (i64.wrap ((i64.wrap ((i64.wrap (J-(a0.Left.length:Int)))-(a0.b_.length:Int)))-(a0.Result.length:Int))))))
def Ym (kd:Int->Int->alT) (a0:ame) (dy dm:Int):alT:=
 cond (decide (dm<(a0.length:Int))) ((bl a0 dm).bind λU=>(yM U dy).bind λah=>cond (decide (ah<0)) (some (-1)) (kd ah (i64.wrap (dm+1)))) (some dy)
def GI (a0:ame):Nat->Int->Int->alT
 |0,_,_=>none
 |n+1,dy,dm=>Ym (GI a0 n) a0 dy dm
def B0 (a0:ame) (J:Int):alT:=
 cond (decide ((i64.wrap (J-(a0.length:Int)))<0)) (some (-1)) (lim λn=>GI a0 n (i64.wrap (J-(a0.length:Int))) 0)
def Yn (kd:Int->Int->alT) (a0:alN) (dy dm:Int):alT:=
 cond (decide (dm<(a0.length:Int))) ((bl a0 dm).bind λU=>cond (decide ((i64.wrap (dy-(U.length:Int)))<0)) (some (-1)) (kd (i64.wrap (dy-(U.length:Int))) (i64.wrap (dm+1)))) (some dy)
def GJ (a0:alN):Nat->Int->Int->alT
 |0,_,_=>none
 |n+1,dy,dm=>Yn (GJ a0 n) a0 dy dm
def yN (a0:alN) (J:Int):alT:=
 cond (decide ((i64.wrap (J-(a0.length:Int)))<0)) (some (-1)) (lim λn=>GJ a0 n (i64.wrap (J-(a0.length:Int))) 0)
def yO (a0:l4) (J:Int):alT:=
 (BX a0.dU J).bind λU=>cond (decide (U<0)) (some (-1)) ((BZ a0.cU U).bind λah=>cond (decide (ah<0)) (some (-1)) ((B0 a0.gV ah).bind λaO=>cond (decide (aO<0)) (some (-1)) ((yN a0.gP aO).bind λbx=>cond (decide (bx<0)) (some (-1)) ((yN a0.gQ bx).bind λa7=>cond (decide (a7<0)) (some (-1)) (some a7)))))
def yP (a0:jn) (J:Int):alT:=
 (yK a0.bL J).bind λU=>cond (decide (U<0)) (some (-1)) (some U)
def Yo (kd:Int->Int->alT) (a0:amf) (dy dm:Int):alT:=
 cond (decide (dm<(a0.length:Int))) ((bl a0 dm).bind λU=>(yP U dy).bind λah=>cond (decide (ah<0)) (some (-1)) (kd ah (i64.wrap (dm+1)))) (some dy)
def GK (a0:amf):Nat->Int->Int->alT
 |0,_,_=>none
 |n+1,dy,dm=>Yo (GK a0 n) a0 dy dm
def B1 (a0:amf) (J:Int):alT:=
 cond (decide ((i64.wrap (J-(a0.length:Int)))<0)) (some (-1)) (lim λn=>GK a0 n (i64.wrap (J-(a0.length:Int))) 0)
def yQ (a0:hS):Option ct:=
 some (ct.mk a0.Kind a0.Value)
def Yp (dM:amg->Int->Option amg) (a0:ama) (bt:amg) (bp:Int):Option amg:=
 cond (decide (bp<(a0.length:Int))) ((bl a0 bp).bind λU=>(yQ U).bind λah=>(bl bt bp).bind λaO=>dM (List.set bt (Int.toNat bp) ah) (i64.wrap (bp+1))) (some bt)
def GL (a0:ama):Nat->amg->Int->Option amg
 |0,_,_=>none
 |n+1,bt,bp=>Yp (GL a0 n) a0 bt bp
def yR (a0:ama):Option amg:=
 (mF 16 (a0.length:Int)).bind λ_=>lim λn=>GL a0 n (replicate (Int.toNat (a0.length:Int)) (ct.mk 0 0)) 0
def Yq (dM:alY->Int->Option alY) (a0:alX) (bt:alY) (bp:Int):Option alY:=
 cond (decide (bp<(a0.length:Int))) ((bl a0 bp).bind λU=>(yR U).bind λah=>(bl bt bp).bind λaO=>dM (List.set bt (Int.toNat bp) ah) (i64.wrap (bp+1))) (some bt)
def GM (a0:alX):Nat->alY->Int->Option alY
 |0,_,_=>none
 |n+1,bt,bp=>Yq (GM a0 n) a0 bt bp
def B2 (a0:alX):Option alY:=
 (mF 24 (a0.length:Int)).bind λ_=>lim λn=>GM a0 n (replicate (Int.toNat (a0.length:Int)) []) 0
def yS (a0:jk):Option bT:=
 (B2 a0.cw).bind λU=>some (bT.mk a0.Kind a0.Number a0.Name U)
def Yr (dM:amh->Int->Option amh) (a0:amb) (bt:amh) (bp:Int):Option amh:=
 cond (decide (bp<(a0.length:Int))) ((bl a0 bp).bind λU=>(yS U).bind λah=>(bl bt bp).bind λaO=>dM (List.set bt (Int.toNat bp) ah) (i64.wrap (bp+1))) (some bt)
def GN (a0:amb):Nat->amh->Int->Option amh
 |0,_,_=>none
 |n+1,bt,bp=>Yr (GN a0 n) a0 bt bp
def B3 (a0:amb):Option amh:=
 (mF 56 (a0.length:Int)).bind λ_=>lim λn=>GN a0 n (replicate (Int.toNat (a0.length:Int)) (bT.mk 0 0 ([]:alO) [])) 0
def yT (a0:jl):Option bs:=
 (B3 a0.Body).bind λU=>some (bs.mk a0.Name a0.db U)
def Ys (dM:ami->Int->Option ami) (a0:amc) (bt:ami) (bp:Int):Option ami:=
 cond (decide (bp<(a0.length:Int))) ((bl a0 bp).bind λU=>(yT U).bind λah=>(bl bt bp).bind λaO=>dM (List.set bt (Int.toNat bp) ah) (i64.wrap (bp+1))) (some bt)
def GO (a0:amc):Nat->ami->Int->Option ami
 |0,_,_=>none
 |n+1,bt,bp=>Ys (GO a0 n) a0 bt bp
def B4 (a0:amc):Option ami:=
 (mF 48 (a0.length:Int)).bind λ_=>lim λn=>GO a0 n (replicate (Int.toNat (a0.length:Int)) (bs.mk ([]:alO) 0 [])) 0
def Yt (dM:alQ->Int->Option alQ) (a0 bt:alQ) (bp:Int):Option alQ:=
 cond (decide (bp<(a0.length:Int))) ((bl a0 bp).bind λU=>(bl bt bp).bind λah=>dM (List.set bt (Int.toNat bp) U) (i64.wrap (bp+1))) (some bt)
def GP (a0:alQ):Nat->alQ->Int->Option alQ
 |0,_,_=>none
 |n+1,bt,bp=>Yt (GP a0 n) a0 bt bp
def yU (a0:alQ):Option alQ:=
 (mF 8 (a0.length:Int)).bind λ_=>lim λn=>GP a0 n (replicate (Int.toNat (a0.length:Int)) 0) 0
def yV (a0:jm):Option dR:=
 (yU a0.bL).bind λU=>some (dR.mk a0.b6 U)
def Yu (dM:amj->Int->Option amj) (a0:amd) (bt:amj) (bp:Int):Option amj:=
 cond (decide (bp<(a0.length:Int))) ((bl a0 bp).bind λU=>(yV U).bind λah=>(bl bt bp).bind λaO=>dM (List.set bt (Int.toNat bp) ah) (i64.wrap (bp+1))) (some bt)
def GQ (a0:amd):Nat->amj->Int->Option amj
 |0,_,_=>none
 |n+1,bt,bp=>Yu (GQ a0 n) a0 bt bp
def B5 (a0:amd):Option amj:=
 (mF 32 (a0.length:Int)).bind λ_=>lim λn=>GQ a0 n (replicate (Int.toNat (a0.length:Int)) (dR.mk 0 [])) 0
def yW (a0:iZ):Option cA:=
 some (cA.mk a0.Left a0.b_ a0.Result)
def Yv (dM:amk->Int->Option amk) (a0:ame) (bt:amk) (bp:Int):Option amk:=
 cond (decide (bp<(a0.length:Int))) ((bl a0 bp).bind λU=>(yW U).bind λah=>(bl bt bp).bind λaO=>dM (List.set bt (Int.toNat bp) ah) (i64.wrap (bp+1))) (some bt)
def GR (a0:ame):Nat->amk->Int->Option amk
 |0,_,_=>none
 |n+1,bt,bp=>Yv (GR a0 n) a0 bt bp
def B6 (a0:ame):Option amk:=
 (mF 48 (a0.length:Int)).bind λ_=>lim λn=>GR a0 n (replicate (Int.toNat (a0.length:Int)) (cA.mk ([]:alO) ([]:alO) ([]:alO))) 0
def Yw (dM:alN->Int->Option alN) (a0 bt:alN) (bp:Int):Option alN:=
 cond (decide (bp<(a0.length:Int))) ((bl a0 bp).bind λU=>(bl bt bp).bind λah=>dM (List.set bt (Int.toNat bp) U) (i64.wrap (bp+1))) (some bt)
def GS (a0:alN):Nat->alN->Int->Option alN
 |0,_,_=>none
 |n+1,bt,bp=>Yw (GS a0 n) a0 bt bp
def yX (a0:alN):Option alN:=
 (mF 16 (a0.length:Int)).bind λ_=>lim λn=>GS a0 n (replicate (Int.toNat (a0.length:Int)) ([]:alO)) 0
def sr (a0:l4):Option e1:=
 (B4 a0.dU).bind λU=>(B5 a0.cU).bind λah=>(B6 a0.gV).bind λaO=>(yX a0.gP).bind λbx=>(yX a0.gQ).bind λa7=>some (e1.mk U ah aO bx a7)
def yY (a0:jn):Option aT:=
 (yU a0.bL).bind λU=>some (aT.mk a0.b6 a0.Part U)
def Yx (dM:aml->Int->Option aml) (a0:amf) (bt:aml) (bp:Int):Option aml:=
 cond (decide (bp<(a0.length:Int))) ((bl a0 bp).bind λU=>(yY U).bind λah=>(bl bt bp).bind λaO=>dM (List.set bt (Int.toNat bp) ah) (i64.wrap (bp+1))) (some bt)
def GU (a0:amf):Nat->aml->Int->Option aml
 |0,_,_=>none
 |n+1,bt,bp=>Yx (GU a0 n) a0 bt bp
def tK (a0:amf):Option aml:=
 (mF 40 (a0.length:Int)).bind λ_=>lim λn=>GU a0 n (replicate (Int.toNat (a0.length:Int)) (aT.mk 0 0 [])) 0
def yZ (a0:UInt8):alS:=
 some ((decide (97<=(a0.toNat:Int)))&&(decide ((a0.toNat:Int)<=122)))
def GV (a0:UInt8):alS:=
 some ((decide (48<=(a0.toNat:Int)))&&(decide ((a0.toNat:Int)<=57)))
def GW (e2:Int->alS) (a0:alO) (dn:Int):alS:=
 cond (decide (dn<(a0.length:Int))) ((bl a0 dn).bind λaO=>(yZ aO).bind λbx=>cond (!bx) ((GV aO).bind λa7=>cond (!a7) (some false) (e2 (i64.wrap (dn+1)))) (e2 (i64.wrap (dn+1)))) (some true)
def y0 (a0:alO):Nat->Int->alS
 |0,_=>none
 |n+1,dn=>GW (y0 a0 n) a0 dn
def vt (a0:alO):alS:=
 cond (a0==([]:alO)) (some false) (cond (decide (10<(a0.length:Int))) (some false) ((bl a0 0).bind λU=>(yZ U).bind λah=>cond (!ah) (some false) (lim λn=>y0 a0 n 0)))
def kX (a0 J a2:Int):alS:=
 some ((decide (J<=a0))&&(decide (a0<=a2)))
def y1 (a0:bT) (ij:Bool):alT:=
 cond ij (some 1) (cond (a0.Kind==2) (some 2) (some 0))
def y2 (a0:bT):alT:=
 cond (a0.Kind==1) (y1 a0 true) (cond (a0.Kind==3) (y1 a0 true) (y1 a0 (a0.Kind==4)))
def GX (kd:Int->Int->alS) (a0:amh) (o5 qc:Int):alS:=
 cond (decide (qc<(a0.length:Int))) (cond (o5==0) (some false) ((bl a0 qc).bind λU=>(y2 U).bind λah=>kd (i64.wrap (o5+(i64.wrap (ah-1)))) (i64.wrap (qc+1)))) (some (o5==0))
def vu (a0:amh):Nat->Int->Int->alS
 |0,_,_=>none
 |n+1,o5,qc=>GX (vu a0 n) a0 o5 qc
def B7 (a0:amh):alS:=
 cond (((a0.length:Int)==0)||(decide (20<(a0.length:Int)))) (some false) (lim λn=>vu a0 n 1 0)
def B8 (a0:bT) (y3:Bool):alS:=
 cond y3 (some (((a0.Number==0)&&(a0.Name==([]:alO)))&&((a0.cw.length:Int)==0))) (cond (a0.Kind==1) (some (a0.Number==0)) (cond (a0.Kind==3) (some ((a0.Number==0)&&(a0.Name==([]:alO)))) (cond (a0.Kind==4) (some ((a0.Name==([]:alO))&&((a0.cw.length:Int)==0))) (cond (a0.Kind==5) (some (a0.Name==([]:alO))) (some false)))))
def GY (a0:bT):alS:=
 cond (a0.Kind==0) (B8 a0 true) (B8 a0 (a0.Kind==2))
def GZ (cW:Int->Int->alT) (a0:amh) (aU aG:Int):alT:=
 cond (decide (0<aG)) ((bl a0 aU).bind λU=>(y2 U).bind λah=>cW (i64.wrap (aU+1)) (i64.wrap (aG+(i64.wrap (ah-1))))) (some aU)
def vv (a0:amh):Nat->Int->Int->alT
 |0,_,_=>none
 |n+1,aU,aG=>GZ (vv a0 n) a0 aU aG
def B9 (a0:amh) (J:Int):alT:=
 lim λn=>vv a0 n J 1
def y4 (dM:Int->Int->alT) (a0:bs) (J vw vx:Int):alT:=
 dM vw (i64.wrap (vx+1))
def G0 (dM:Int->Int->alT) (a0:bs) (J fW ik:Int):alT:=
 cond (decide (ik<J)) ((bl a0.Body ik).bind λU=>cond (U.Kind==4) ((B9 a0.Body ik).bind λah=>cond (decide (J<ah)) (y4 dM a0 J (i64.wrap (fW+1)) ik) (y4 dM a0 J fW ik)) (y4 dM a0 J fW ik)) (some fW)
def tL (a0:bs) (J:Int):Nat->Int->Int->alT
 |0,_,_=>none
 |n+1,fW,ik=>G0 (tL a0 J n) a0 J fW ik
def ss (a0:bs) (J:Int):alT:=
 lim λn=>tL a0 J n a0.db 0
def B_ (a0:ct) (J:Int):alS:=
 cond (a0.Kind==0) ((kX a0.Value 0 63).bind λU=>some U) (cond (a0.Kind==1) ((kX a0.Value 0 (i64.wrap (J-1))).bind λah=>some ah) (cond (a0.Kind==2) ((kX a0.Value 0 8).bind λaO=>some aO) (cond (a0.Kind==3) (some (a0.Value==0)) (some false))))
def G1 (a0:ct):alT:=
 cond (a0.Kind==2) (some 2) (cond (a0.Kind==3) (some 1) (some 0))
def G2 (kd:Int->Int->alS) (a0:amg) (J ij qd:Int):alS:=
 cond (decide (qd<(a0.length:Int))) (cond (ij==0) (some false) ((bl a0 qd).bind λU=>(B_ U J).bind λah=>cond (!ah) (some false) ((G1 U).bind λaO=>kd (i64.wrap (ij+(i64.wrap (aO-1)))) (i64.wrap (qd+1))))) (some (ij==0))
def vy (a0:amg) (J:Int):Nat->Int->Int->alS
 |0,_,_=>none
 |n+1,ij,qd=>G2 (vy a0 J n) a0 J ij qd
def Ca (a0:amg) (J a2:Int):alS:=
 cond (decide (a2<(a0.length:Int))) (some false) (lim λn=>vy a0 J n 1 0)
def G3 (Yy:Int->Int->alT) (U:bT) (qe qf:Int):alT:=
 cond (decide (qf<(U.cw.length:Int))) ((bl U.cw qf).bind λbx=>(Ca bx qe 15).bind λa7=>cond (!a7) (some 8) (Yy qe (i64.wrap (qf+1)))) (some 0)
def tM (U:bT):Nat->Int->Int->alT
 |0,_,_=>none
 |n+1,qe,qf=>G3 (tM U n) U qe qf
def vz (J:bs) (a2:Int) (U:bT) (y5:Bool):alT:=
 cond y5 (some 6) ((ss J a2).bind λaO=>cond ((U.Kind==4)&&(decide (6<=aO))) (some 7) (lim λn=>tM U n aO 0))
def tN (J:bs) (a2:Int) (U:bT):alT:=
 cond (U.Kind==5) (cond (a2==0) (vz J a2 U true) ((bl J.Body (i64.wrap (a2-1))).bind λbM=>vz J a2 U (bM.Kind !=1))) (vz J a2 U false)
def tO (a0:ami) (J:bs) (a2:Int) (U:bT) (y6:Bool):alT:=
 cond y6 (some 4) (cond (U.Kind==1) (cond ((decide (2<(U.cw.length:Int)))||((decide (0<(U.cw.length:Int)))&&(U.Name==([116,97,117]:alO)))) (some 5) (tN J a2 U)) (cond (U.Kind==3) (cond ((U.cw.length:Int) !=1) (some 5) (tN J a2 U)) (cond (U.Kind==5) ((bl a0 U.Number).bind λcG=>cond ((U.cw.length:Int) !=cG.db) (some 5) (tN J a2 U)) (tN J a2 U))))
def Cb (a0:ami) (J:bs) (a2:Int) (U:bT) (y7:Bool):alT:=
 cond y7 (some 3) (cond (U.Kind==4) ((kX U.Number 1 7).bind λeD=>cond (!eD) (tO a0 J a2 U true) (cond (U.Kind==5) ((kX U.Number 0 (i64.wrap ((a0.length:Int)-1))).bind λdT=>tO a0 J a2 U (!dT)) (tO a0 J a2 U false))) (cond (U.Kind==5) ((kX U.Number 0 (i64.wrap ((a0.length:Int)-1))).bind λdh=>tO a0 J a2 U (!dh)) (tO a0 J a2 U false)))
def y8 (a0:ami) (J:bs) (a2:Int):alT:=
 (bl J.Body a2).bind λU=>(GY U).bind λah=>cond (!ah) (some 2) (cond (U.Kind==1) ((vt U.Name).bind λgG=>Cb a0 J a2 U (!gG)) (Cb a0 J a2 U false))
def Cc (e2:Int->Option (Int×Int)) (a0:ami) (J:bs) (nz:Int):Option (Int×Int):=
 cond (decide (nz<(J.Body.length:Int))) ((y8 a0 J nz).bind λah=>cond (decide (0<ah)) (some (nz,ah)) (e2 (i64.wrap (nz+1)))) (some (0,0))
def tP (a0:ami) (J:bs):Nat->Int->Option (Int×Int)
 |0,_=>none
 |n+1,nz=>Cc (tP a0 J n) a0 J nz
def tQ (a0:ami) (J:bs):Option (Int×Int):=
 (B7 J.Body).bind λU=>cond (!U) (some (0,1)) (lim λn=>tP a0 J n 0)
def G4 (e2:Int->alS) (G5:Int->Int->alS) (a0:ami) (ev eR:Int):alS:=
 cond (decide (eR<ev)) ((bl a0 eR).bind λbx=>(bl a0 ev).bind λa7=>cond (bx.Name==a7.Name) (some false) (G5 ev (i64.wrap (eR+1)))) (e2 (i64.wrap (ev+1)))
def vA (e2:Int->alS) (a0:ami):Nat->Int->Int->alS
 |0,_,_=>none
 |n+1,ev,eR=>G4 e2 (vA e2 a0 n) a0 ev eR
def G6 (Yz:Int->alS) (a0:ami) (qg:Int):alS:=
 cond (decide (qg<(a0.length:Int))) ((bl a0 qg).bind λbM=>(tQ a0 bM).bind λcG=>cond (decide (0<cG.2)) (some false) (Yz (i64.wrap (qg+1)))) (some true)
def tR (a0:ami):Nat->Int->alS
 |0,_=>none
 |n+1,qg=>G6 (tR a0 n) a0 qg
def G7 (e2:Int->alS) (a0:ami) (dn:Int):alS:=
 cond (decide (dn<(a0.length:Int))) ((bl a0 dn).bind λU=>(vt U.Name).bind λah=>cond (!ah) (some false) ((kX U.db 0 3).bind λaO=>cond (!aO) (some false) (lim λn=>vA e2 a0 n dn 0))) (lim λn=>tR a0 n 0)
def q9 (a0:ami):Nat->Int->alS
 |0,_=>none
 |n+1,dn=>G7 (q9 a0 n) a0 dn
def Cd (a0:ami):alS:=
 cond (((a0.length:Int)==0)||(decide (4<(a0.length:Int)))) (some false) (lim λn=>q9 a0 n 0)
def G8 (cW:Int->alS) (a0:alQ) (gx:Int):alS:=
 cond (decide (gx<(a0.length:Int))) ((bl a0 gx).bind λU=>(kX U 0 63).bind λah=>cond (!ah) (some false) (cW (i64.wrap (gx+1)))) (some true)
def vB (a0:alQ):Nat->Int->alS
 |0,_=>none
 |n+1,gx=>G8 (vB a0 n) a0 gx
def y9 (a0:alQ):alS:=
 lim λn=>vB a0 n 0
def G9 (e2:Int->alS) (a0:e1) (dn:Int):alS:=
 cond (decide (dn<(a0.cU.length:Int))) ((bl a0.cU dn).bind λU=>(kX U.b6 0 (i64.wrap ((a0.dU.length:Int)-1))).bind λah=>cond (!ah) (some false) ((bl a0.dU U.b6).bind λaO=>cond ((U.bL.length:Int) !=aO.db) (some false) ((y9 U.bL).bind λbx=>cond (!bx) (some false) (e2 (i64.wrap (dn+1)))))) (some true)
def vC (a0:e1):Nat->Int->alS
 |0,_=>none
 |n+1,dn=>G9 (vC a0 n) a0 dn
def Ce (a0:e1):alS:=
 cond (((a0.cU.length:Int)==0)||(decide (3<(a0.cU.length:Int)))) (some false) (lim λn=>vC a0 n 0)
def tS (a0:alO):alS:=
 (vt a0).bind λU=>some (U&&(!(a0==([116,97,117]:alO))))
def G_ (e2:Int->alS) (YA:Int->Int->alS) (a0:amk) (U:cA) (la lH:Int):alS:=
 cond (decide (lH<(a0.length:Int))) ((bl a0 lH).bind λcG=>cond ((cG.Left==U.Result)||(cG.b_==U.Result)) (some false) (YA la (i64.wrap (lH+1)))) (e2 (i64.wrap (la+1)))
def q_ (e2:Int->alS) (a0:amk) (U:cA):Nat->Int->Int->alS
 |0,_,_=>none
 |n+1,la,lH=>G_ e2 (q_ e2 a0 U n) a0 U la lH
def Ha (e2:Int->alS) (a0:amk) (dn:Int):alS:=
 cond (decide (dn<(a0.length:Int))) ((bl a0 dn).bind λU=>(tS U.Left).bind λah=>cond (!ah) (some false) ((tS U.b_).bind λaO=>cond (!aO) (some false) ((tS U.Result).bind λbx=>cond ((!bx)||(!(Op.bytesLess U.Left U.b_||U.Left==U.b_))) (some false) (cond (decide (0<dn)) ((bl a0 (i64.wrap (dn-1))).bind λa7=>cond ((!(Op.bytesLess a7.Left U.Left||a7.Left==U.Left))||((a7.Left==U.Left)&&(!(Op.bytesLess a7.b_ U.b_)))) (some false) (lim λn=>q_ e2 a0 U n dn 0)) (lim λn=>q_ e2 a0 U n dn 0))))) (some true)
def o6 (a0:amk):Nat->Int->alS
 |0,_=>none
 |n+1,dn=>Ha (o6 a0 n) a0 dn
def Cf (a0:amk):alS:=
 cond (decide (6<(a0.length:Int))) (some false) (lim λn=>o6 a0 n 0)
def Hb (cW:Int->alS) (a0:alN) (gx:Int):alS:=
 cond (decide (gx<(a0.length:Int))) ((bl a0 gx).bind λU=>(tS U).bind λah=>cond (!ah) (some false) (cW (i64.wrap (gx+1)))) (some true)
def vD (a0:alN):Nat->Int->alS
 |0,_=>none
 |n+1,gx=>Hb (vD a0 n) a0 gx
def Cg (a0:alN):alS:=
 lim λn=>vD a0 n 0
def Ch (e2:Int->alS) (a0:alN) (dn:Int):alS:=
 cond (decide (dn<(a0.length:Int))) ((bl a0 (i64.wrap (dn-1))).bind λah=>(bl a0 dn).bind λaO=>cond (!(Op.bytesLess ah aO)) (some false) (e2 (i64.wrap (dn+1)))) (some true)
def oh (a0:alN):Nat->Int->alS
 |0,_=>none
 |n+1,dn=>Ch (oh a0 n) a0 dn
def y_ (a0:alN):alS:=
 cond (decide (12<(a0.length:Int))) (some false) ((Cg a0).bind λU=>cond (!U) (some false) (lim λn=>oh a0 n 1))
def Ci (a0:e1):alT:=
 (Cd a0.dU).bind λU=>cond (!U) (some 1) ((Ce a0).bind λah=>cond (!ah) (some 2) ((Cf a0.gV).bind λaO=>cond (!aO) (some 3) ((y_ a0.gP).bind λbx=>cond (!bx) (some 4) ((y_ a0.gQ).bind λa7=>cond (!a7) (some 5) (some 0)))))
def Cj (a0:e1):alS:=
 (Ci a0).bind λU=>some (U==0)
def su (a0:ami) (J:aT):alS:=
 (kX J.b6 0 (i64.wrap ((a0.length:Int)-1))).bind λU=>cond (!U) (some false) ((bl a0 J.b6).bind λah=>(kX J.Part 0 (i64.wrap ((ah.Body.length:Int)-1))).bind λaO=>cond (!aO) (some false) ((bl ah.Body J.Part).bind λbx=>cond (bx.Kind==5) (some false) ((ss ah J.Part).bind λa7=>cond ((J.bL.length:Int)==a7) ((y9 J.bL).bind λbM=>some bM) (some false))))
def Hc (e2:Int->alS) (a0:e1) (J:aml) (bN:Int):alS:=
 cond (decide (bN<(J.length:Int))) ((bl J bN).bind λU=>(su a0.dU U).bind λah=>cond (!ah) (some false) (e2 (i64.wrap (bN+1)))) (some true)
def vE (a0:e1) (J:aml):Nat->Int->alS
 |0,_=>none
 |n+1,bN=>Hc (vE a0 J n) a0 J bN
def Ck (a0:e1) (J:aml):alS:=
 cond ((J.length:Int) !=(a0.cU.length:Int)) (some false) (lim λn=>vE a0 J n 0)
def Hd (dM:alQ->Int->Option alQ) (a0:Int) (bt:alQ) (bp:Int):Option alQ:=
 cond (decide (bp<a0)) ((room 8 (bt.length+1)).bind λ_=>dM (bt++[bp]) (i64.wrap (bp+1))) (some bt)
def vF (a0:Int):Nat->alQ->Int->Option alQ
 |0,_,_=>none
 |n+1,bt,bp=>Hd (vF a0 n) a0 bt bp
def Cl (a0:Int):Option alQ:=
 lim λn=>vF a0 n [] 0
def za (a0:alQ):Option alQ:=
 (room 8 (a0.length)).bind λ_=>some a0
def OP (dM:aml->Int->Option aml) (a0:aml) (J:alQ) (fW:aml) (ik:Int):Option aml:=
 cond (decide (ik<(J.length:Int))) ((bl J ik).bind λU=>(bl a0 U).bind λah=>(za ah.bL).bind λaO=>(room 40 (fW.length+1)).bind λ_=>dM (fW++[(aT.mk ah.b6 ah.Part aO)]) (i64.wrap (ik+1))) (some fW)
def Cm (a0:aml) (J:alQ):Nat->aml->Int->Option aml
 |0,_,_=>none
 |n+1,fW,ik=>OP (Cm a0 J n) a0 J fW ik
def Cn (a0:aml) (J:alQ):Option aml:=
 lim λn=>Cm a0 J n [] 0
def He (cW:Int->alT) (a0 J:alQ) (aG:Int):alT:=
 cond ((decide (aG<(a0.length:Int)))&&(decide (aG<(J.length:Int)))) ((bl a0 aG).bind λU=>(bl J aG).bind λah=>cond (decide (U<ah)) (some (-1)) (cond (decide (ah<U)) (some 1) (cW (i64.wrap (aG+1))))) (cond (decide ((a0.length:Int)<(J.length:Int))) (some (-1)) (cond (decide ((J.length:Int)<(a0.length:Int))) (some 1) (some 0)))
def vG (a0 J:alQ):Nat->Int->alT
 |0,_=>none
 |n+1,aG=>He (vG a0 J n) a0 J aG
def zb (a0 J:alQ):alT:=
 lim λn=>vG a0 J n 0
def Co (a0 J:aT):alT:=
 (zb [a0.b6,a0.Part] [J.b6,J.Part]).bind λU=>cond (U !=0) (some U) ((zb a0.bL J.bL).bind λah=>some ah)
def Hf (cW:Int->alS) (a0 J:aml) (aG:Int):alS:=
 cond (decide (aG<(a0.length:Int))) ((bl a0 aG).bind λU=>(bl J aG).bind λah=>(Co U ah).bind λaO=>cond (aO !=0) (some (decide (aO<0))) (cW (i64.wrap (aG+1)))) (some false)
def vH (a0 J:aml):Nat->Int->alS
 |0,_=>none
 |n+1,aG=>Hf (vH a0 J n) a0 J aG
def Cp (a0 J:aml):alS:=
 lim λn=>vH a0 J n 0
def Hg (e2:Int->alS) (a0 J:alQ) (bN:Int):alS:=
 cond (decide (bN<(a0.length:Int))) ((bl a0 bN).bind λU=>(bl J bN).bind λah=>cond (U !=ah) (some false) (e2 (i64.wrap (bN+1)))) (some true)
def vI (a0 J:alQ):Nat->Int->alS
 |0,_=>none
 |n+1,bN=>Hg (vI a0 J n) a0 J bN
def Cq (a0 J:alQ):alS:=
 cond ((a0.length:Int) !=(J.length:Int)) (some false) (lim λn=>vI a0 J n 0)
def Cr (a0 J:aT):alS:=
 cond (a0.b6==J.b6) (cond (a0.Part==J.Part) ((Cq a0.bL J.bL).bind λU=>some U) (some false)) (some false)
def Hh (e2:Int->alS) (a0 J:aml) (bN:Int):alS:=
 cond (decide (bN<(a0.length:Int))) ((bl a0 bN).bind λU=>(bl J bN).bind λah=>(Cr U ah).bind λaO=>cond (!aO) (some false) (e2 (i64.wrap (bN+1)))) (some true)
def vJ (a0 J:aml):Nat->Int->alS
 |0,_=>none
 |n+1,bN=>Hh (vJ a0 J n) a0 J bN
def zc (a0 J:aml):alS:=
 cond ((a0.length:Int) !=(J.length:Int)) (some false) (lim λn=>vJ a0 J n 0)
def YB (YC:alQ->Int->Int->Option (Bool×alQ)) (i1:alQ) (gW hr:Int):Option (Bool×alQ):=
 cond (decide (gW<hr)) ((bl i1 gW).bind λl5=>(bl i1 hr).bind λiC=>(bl (List.set i1 (Int.toNat gW) iC) hr).bind λmx=>YC (List.set (List.set i1 (Int.toNat gW) iC) (Int.toNat hr) l5) (i64.wrap (gW+1)) (i64.wrap (hr-1))) (some (true,i1))
def qh:Nat->alQ->Int->Int->Option (Bool×alQ)
 |0,_,_,_=>none
 |n+1,i1,gW,hr=>YB (qh n) i1 gW hr
def YD (YE:Int->Int->Option (Bool×alQ)) (a0:alQ) (fX hT:Int):Option (Bool×alQ):=
 (bl a0 hT).bind λdT=>(bl a0 fX).bind λdh=>cond (decide (dT<dh)) (YE fX (i64.wrap (hT-1))) ((bl (List.set a0 (Int.toNat fX) dT) hT).bind λgG=>lim λn=>qh n (List.set (List.set a0 (Int.toNat fX) dT) (Int.toNat hT) dh) (i64.wrap (fX+1)) (i64.wrap (((List.set (List.set a0 (Int.toNat fX) dT) (Int.toNat hT) dh).length:Int)-1)))
def o7 (a0:alQ):Nat->Int->Int->Option (Bool×alQ)
 |0,_,_=>none
 |n+1,fX,hT=>YD (o7 a0 n) a0 fX hT
def YF (cW:Int->Option (Bool×alQ)) (a0:alQ) (gx:Int):Option (Bool×alQ):=
 cond (decide (0<=gx)) ((bl a0 gx).bind λU=>(bl a0 (i64.wrap (gx+1))).bind λah=>cond (decide (ah<U)) (cW (i64.wrap (gx-1))) (cond (decide (gx<0)) (some (false,a0)) (lim λn=>o7 a0 n gx (i64.wrap ((a0.length:Int)-1))))) (cond (decide (gx<0)) (some (false,a0)) (lim λn=>o7 a0 n gx (i64.wrap ((a0.length:Int)-1))))
def Hi (a0:alQ):Nat->Int->Option (Bool×alQ)
 |0,_=>none
 |n+1,gx=>YF (Hi a0 n) a0 gx
def j0 (a0:alQ):Option (Bool×alQ):=
 lim λn=>Hi a0 n (i64.wrap ((a0.length:Int)-2))
def o8 (k7:alZ->alQ->Option alZ) (a0:aml) (l6:alZ) (o9:alQ):Option alZ:=
 (j0 o9).bind λiC=>cond (!iC.1) (some l6) (k7 l6 iC.2)
def Hj (k7:alZ->alQ->Option alZ) (G5:alZ->alQ->Int->Int->Option alZ) (a0:aml) (ah:aml) (ev:alZ) (eR:alQ) (fe eS:Int):Option alZ:=
 cond (decide (fe<eS)) ((bl ev (i64.wrap (eS-1))).bind λo_=>(bl ev eS).bind λvK=>G5 (List.set ev (Int.toNat eS) o_) eR fe (i64.wrap (eS-1))) ((bl ev fe).bind λoi=>o8 k7 a0 (List.set ev (Int.toNat fe) ah) eR)
def nA (k7:alZ->alQ->Option alZ) (a0:aml) (ah:aml):Nat->alZ->alQ->Int->Int->Option alZ
 |0,_,_,_,_=>none
 |n+1,ev,eR,fe,eS=>Hj k7 (nA k7 a0 ah n) a0 ah ev eR fe eS
def Cs (k7:alZ->alQ->Option alZ) (YG:alZ->alQ->Int->Option alZ) (a0:aml) (ah:aml) (er:alZ) (gX:alQ) (gR:Int):Option alZ:=
 cond (decide (0<gR)) ((bl er (i64.wrap (gR-1))).bind λaO=>(Cp ah aO).bind λbx=>cond bx (YG er gX (i64.wrap (gR-1))) (cond (gR==0) ((room 24 (er.length+1)).bind λ_=>lim λn=>nA k7 a0 ah n (er++[[]]) gX gR (i64.wrap (((er++[[]]).length:Int)-1))) ((zc aO ah).bind λdT=>cond (!dT) ((room 24 (er.length+1)).bind λ_=>lim λn=>nA k7 a0 ah n (er++[[]]) gX gR (i64.wrap (((er++[[]]).length:Int)-1))) (o8 k7 a0 er gX)))) (cond (gR==0) ((room 24 (er.length+1)).bind λ_=>lim λn=>nA k7 a0 ah n (er++[[]]) gX gR (i64.wrap (((er++[[]]).length:Int)-1))) ((bl er (i64.wrap (gR-1))).bind λjo=>(zc jo ah).bind λqi=>cond (!qi) ((room 24 (er.length+1)).bind λ_=>lim λn=>nA k7 a0 ah n (er++[[]]) gX gR (i64.wrap (((er++[[]]).length:Int)-1))) (o8 k7 a0 er gX)))
def sv (k7:alZ->alQ->Option alZ) (a0:aml) (ah:aml):Nat->alZ->alQ->Int->Option alZ
 |0,_,_,_=>none
 |n+1,er,gX,gR=>Cs k7 (sv k7 a0 ah n) a0 ah er gX gR
def Hk (k7:alZ->alQ->Option alZ) (a0:aml) (pa:alZ) (pb:alQ):Option alZ:=
 (Cn a0 pb).bind λah=>lim λn=>sv k7 a0 ah n pa pb (pa.length:Int)
def my (a0:aml):Nat->alZ->alQ->Option alZ
 |0,_,_=>none
 |n+1,pa,pb=>Hk (my a0 n) a0 pa pb
def vL (a0:aml):Option alZ:=
 (Cl (a0.length:Int)).bind λU=>lim λn=>my a0 n [] U
def Ct (a0:e1) (J:aml):Option (alZ×Int):=
 (Cj a0).bind λU=>cond (!U) (some ([],1)) ((Ck a0 J).bind λah=>cond (!ah) (some ([],1)) ((vL J).bind λaO=>some (aO,0)))
def jB (a0 J a2:Int):alS:=
 some ((decide (J<=a0))&&(decide (a0<=a2)))
def Hl (a0:bs):alS:=
 (jB a0.db 0 3).bind λU=>some (!U)
def Hm (cW:Int->alT) (a0:ami) (cH:Int):alT:=
 cond (decide (cH<(a0.length:Int))) ((bl a0 cH).bind λU=>(Hl U).bind λah=>cond ah (some cH) (cW (i64.wrap (cH+1)))) (some (-1))
def zd (a0:ami):Nat->Int->alT
 |0,_=>none
 |n+1,cH=>Hm (zd a0 n) a0 cH
def Hn (a0:ami):alT:=
 lim λn=>zd a0 n 0
def Ho (a0:ami):alS:=
 (Hn a0).bind λU=>some (decide (0<=U))
def Cu (a0:ami):alS:=
 (Ho a0).bind λU=>some (!U)
def Hp (a0:UInt8):alS:=
 some ((decide (48<=(a0.toNat:Int)))&&(decide ((a0.toNat:Int)<=57)))
def Cv (cW:Int->alS) (a0:alO) (e7:Int):alS:=
 cond (decide (e7<(a0.length:Int))) ((bl a0 e7).bind λU=>cond (!((decide (97<=(U.toNat:Int)))&&(decide ((U.toNat:Int)<=122)))) (cond (e7==0) (some false) ((Hp U).bind λah=>cond (!ah) (some false) (cW (i64.wrap (e7+1))))) (cW (i64.wrap (e7+1)))) (some ((decide (1<=(a0.length:Int)))&&(decide ((a0.length:Int)<=10))))
def sw (a0:alO):Nat->Int->alS
 |0,_=>none
 |n+1,e7=>Cv (sw a0 n) a0 e7
def ze (a0:alO):alS:=
 lim λn=>sw a0 n 0
def Hq (a0:bs) (J:alO):alS:=
 some (a0.Name==J)
def Hr (cW:Int->alT) (a0:ami) (J:alO) (cH:Int):alT:=
 cond (decide (cH<(a0.length:Int))) ((bl a0 cH).bind λU=>(Hq U J).bind λah=>cond ah (some cH) (cW (i64.wrap (cH+1)))) (some (-1))
def zf (a0:ami) (J:alO):Nat->Int->alT
 |0,_=>none
 |n+1,cH=>Hr (zf a0 J n) a0 J cH
def Hs (a0:ami) (J:alO):alT:=
 lim λn=>zf a0 J n 0
def Cw (a0:ami) (J:alO):alT:=
 (Hs a0 J).bind λU=>some U
def zg (a0:bT) (dm:Bool):alT:=
 cond dm (some 1) (cond (a0.Kind==2) (some 2) (some 0))
def zh (a0:bT):alT:=
 cond (a0.Kind==1) (zg a0 true) (cond (a0.Kind==3) (zg a0 true) (zg a0 (a0.Kind==4)))
def Ht (cW:Int->Int->alT) (a0:bs) (aU aG:Int):alT:=
 cond (decide (0<aG)) (cond (decide ((a0.Body.length:Int)<=aU)) (some (-1)) ((bl a0.Body aU).bind λU=>(zh U).bind λah=>cW (i64.wrap (aU+1)) (i64.wrap (aG+(i64.wrap (ah-1)))))) (some aU)
def vM (a0:bs):Nat->Int->Int->alT
 |0,_,_=>none
 |n+1,aU,aG=>Ht (vM a0 n) a0 aU aG
def Cx (a0:bs) (J:Int):alT:=
 lim λn=>vM a0 n J 1
def Hu (mW:Int->c5->amm->bs->Option (Int×amm)) (YH:amm->Int->Int->Option (Int×amm)) (a3:bs) (lI:Int) (ah:bT) (aO:Int) (ra:amm) (pc qj:Int):Option (Int×amm):=
 cond (decide (qj<aO)) ((mW pc (c5.mk lI (ah.Kind==1)) ra a3).bind λbx=>YH bx.2 bx.1 (i64.wrap (qj+1))) (some (pc,ra))
def tT (mW:Int->c5->amm->bs->Option (Int×amm)) (a3:bs) (lI:Int) (ah:bT) (aO:Int):Nat->amm->Int->Int->Option (Int×amm)
 |0,_,_,_=>none
 |n+1,ra,pc,qj=>Hu mW (tT mW a3 lI ah aO n) a3 lI ah aO ra pc qj
def Cy (mW:Int->c5->amm->bs->Option (Int×amm)) (a0:Int) (J:c5) (a2:amm) (a3:bs) (ah:bT) (lI:Int):Option (Int×amm):=
 (zh ah).bind λaO=>lim λn=>tT mW a3 lI ah aO n (List.set a2 (Int.toNat a0) J) (i64.wrap (a0+1)) 0
def Hv (mW:Int->c5->amm->bs->Option (Int×amm)) (a0:Int) (J:c5) (a2:amm) (a3:bs):Option (Int×amm):=
 (bl a2 a0).bind λU=>(bl a3.Body a0).bind λah=>cond (ah.Kind==4) (Cy mW a0 J a2 a3 ah (i64.wrap (J.scope+1))) (Cy mW a0 J a2 a3 ah J.scope)
def tU:Nat->Int->c5->amm->bs->Option (Int×amm)
 |0,_,_,_,_=>none
 |n+1,a0,J,a2,a3=>Hv (tU n) a0 J a2 a3
def Cz (a0:Int) (J:c5) (a2:amm) (a3:bs):Option (Int×amm):=
 lim λn=>tU n a0 J a2 a3
def vN (a0:bs):Option amm:=
 (mF 16 (a0.Body.length:Int)).bind λ_=>(Cz 0 (c5.mk a0.db false) (replicate (Int.toNat (a0.Body.length:Int)) (c5.mk 0 false)) a0).bind λU=>some U.2
def Hw (a0:bT):alS:=
 (jB a0.Kind 0 5).bind λU=>some (((U&&(((a0.Kind==4)||(a0.Kind==5))||(a0.Number==0)))&&((a0.Kind==1)||(a0.Name==([]:alO))))&&((((a0.Kind==1)||(a0.Kind==3))||(a0.Kind==5))||((a0.cw.length:Int)==0)))
def rb (a0:alO):alS:=
 (ze a0).bind λU=>some (U&&(!(a0==([116,97,117]:alO))))
def sx (a0 J:Int):alS:=
 (jB a0 0 (i64.wrap (J-1))).bind λU=>some U
def Hx (a0:bT) (J:ami):alS:=
 cond (a0.Kind==1) (some (((a0.cw.length:Int)==0)||((!(a0.Name==([116,97,117]:alO)))&&(decide ((a0.cw.length:Int)<=2))))) (cond (a0.Kind==3) (some ((a0.cw.length:Int)==1)) (cond (a0.Kind==5) ((bl J a0.Number).bind λU=>some ((a0.cw.length:Int)==U.db)) (some true)))
def zi (a0:Int):alS:=
 (jB a0 0 63).bind λU=>some U
def CA (a0:ct) (J:Int):alS:=
 cond (a0.Kind==0) ((zi a0.Value).bind λU=>some U) (cond (a0.Kind==1) ((jB a0.Value 0 (i64.wrap (J-1))).bind λah=>some ah) (cond (a0.Kind==2) ((jB a0.Value 0 8).bind λaO=>some aO) (cond (a0.Kind==3) (some (a0.Value==0)) (some false))))
def Hy (a0:ct):alT:=
 cond (a0.Kind==2) (some 2) (cond (a0.Kind==3) (some 1) (some 0))
def Hz (kd:Int->Int->alS) (a0:amg) (J ij qk:Int):alS:=
 cond (decide (qk<(a0.length:Int))) ((bl a0 qk).bind λbx=>cond (ij==0) (some false) ((CA bx J).bind λa7=>cond (!a7) (some false) ((Hy bx).bind λbM=>kd (i64.wrap (ij+(i64.wrap (bM-1)))) (i64.wrap (qk+1))))) (some (ij==0))
def vO (a0:amg) (J:Int):Nat->Int->Int->alS
 |0,_,_=>none
 |n+1,ij,qk=>Hz (vO a0 J n) a0 J ij qk
def CB (a0:amg) (J a2:Int):alS:=
 (jB J 0 29).bind λU=>cond (!U) (some false) ((jB a2 1 60).bind λah=>cond (!ah) (some false) ((jB (a0.length:Int) 1 a2).bind λaO=>cond (!aO) (some false) (lim λn=>vO a0 J n 1 0)))
def HA (a0:amg) (J:c5):alS:=
 (CB a0 J.scope 15).bind λU=>some (!U)
def HB (cW:Int->alT) (a0:alY) (J:c5) (cH:Int):alT:=
 cond (decide (cH<(a0.length:Int))) ((bl a0 cH).bind λU=>(HA U J).bind λah=>cond ah (some cH) (cW (i64.wrap (cH+1)))) (some (-1))
def zj (a0:alY) (J:c5):Nat->Int->alT
 |0,_=>none
 |n+1,cH=>HB (zj a0 J n) a0 J cH
def HC (a0:alY) (J:c5):alT:=
 lim λn=>zj a0 J n 0
def CC (a0:alY) (J:c5):alS:=
 (HC a0 J).bind λU=>some (decide (0<=U))
def tV (a0:bT) (J:ami) (a2:c5) (zk:Bool):alT:=
 cond zk (some 4) ((Hx a0 J).bind λah=>cond (!ah) (some 5) (cond ((a0.Kind==5)&&(!a2.behind)) (some 6) (cond ((a0.Kind==4)&&(decide (6<=a2.scope))) (some 7) ((CC a0.cw a2).bind λaO=>cond aO (some 8) (some 0)))))
def zl (a0:bT) (J:ami) (a2:c5) (zm:Bool):alT:=
 cond zm (some 3) (cond (a0.Kind==4) ((jB a0.Number 1 7).bind λbx=>cond (!bx) (tV a0 J a2 true) (cond (a0.Kind==5) ((sx a0.Number (J.length:Int)).bind λa7=>tV a0 J a2 (!a7)) (tV a0 J a2 false))) (cond (a0.Kind==5) ((sx a0.Number (J.length:Int)).bind λbM=>tV a0 J a2 (!bM)) (tV a0 J a2 false)))
def zn (a0:bT) (J:ami) (a2:c5):alT:=
 (Hw a0).bind λU=>cond (!U) (some 2) (cond (a0.Kind==1) (cond (!(a0.Name==([116,97,117]:alO))) ((rb a0.Name).bind λcG=>zl a0 J a2 (!cG)) (zl a0 J a2 false)) (zl a0 J a2 false))
def CD (kd:Int->Option (Int×Int)) (a0:ami) (J:bs) (aO:amm) (nB:Int):Option (Int×Int):=
 cond (decide (nB<(J.Body.length:Int))) ((bl J.Body nB).bind λbx=>(bl aO nB).bind λa7=>(zn bx a0 a7).bind λbM=>cond (bM !=0) (some (nB,bM)) (kd (i64.wrap (nB+1)))) (some (0,0))
def tW (a0:ami) (J:bs) (aO:amm):Nat->Int->Option (Int×Int)
 |0,_=>none
 |n+1,nB=>CD (tW a0 J aO n) a0 J aO nB
def zo (a0:ami) (J:bs):Option (Int×Int):=
 (jB (J.Body.length:Int) 1 20).bind λU=>cond (!U) (some (0,1)) ((Cx J 0).bind λah=>cond (ah !=(J.Body.length:Int)) (some (0,1)) ((vN J).bind λaO=>lim λn=>tW a0 J aO n 0))
def HD (e2:Int->alS) (a0:ami) (oj:Int):alS:=
 cond (decide (oj<(a0.length:Int))) ((bl a0 oj).bind λaO=>(ze aO.Name).bind λbx=>cond (!bx) (some false) ((lk a0 0 oj).bind λa7=>(Cw a7 aO.Name).bind λbM=>cond (decide (0<=bM)) (some false) ((zo a0 aO).bind λcG=>cond (cG.2 !=0) (some false) (e2 (i64.wrap (oj+1)))))) (some true)
def vP (a0:ami):Nat->Int->alS
 |0,_=>none
 |n+1,oj=>HD (vP a0 n) a0 oj
def CE (a0:ami):alS:=
 (jB (a0.length:Int) 1 4).bind λU=>cond (!U) (some false) ((Cu a0).bind λah=>cond (!ah) (some false) (lim λn=>vP a0 n 0))
def HE (a0:Int):alS:=
 (zi a0).bind λU=>some (!U)
def HF (cW:Int->alT) (a0:alQ) (cH:Int):alT:=
 cond (decide (cH<(a0.length:Int))) ((bl a0 cH).bind λU=>(HE U).bind λah=>cond ah (some cH) (cW (i64.wrap (cH+1)))) (some (-1))
def zp (a0:alQ):Nat->Int->alT
 |0,_=>none
 |n+1,cH=>HF (zp a0 n) a0 cH
def HG (a0:alQ):alT:=
 lim λn=>zp a0 n 0
def HH (a0:alQ):alS:=
 (HG a0).bind λU=>some (decide (0<=U))
def zq (a0:alQ):alS:=
 (HH a0).bind λU=>some (!U)
def CF (a0:ami) (J:dR):alS:=
 (sx J.b6 (a0.length:Int)).bind λU=>cond U ((bl a0 J.b6).bind λah=>cond ((J.bL.length:Int)==ah.db) ((zq J.bL).bind λaO=>some aO) (some false)) (some false)
def HI (a0:dR) (J:e1):alS:=
 (CF J.dU a0).bind λU=>some (!U)
def HJ (cW:Int->alT) (a0:amj) (J:e1) (cH:Int):alT:=
 cond (decide (cH<(a0.length:Int))) ((bl a0 cH).bind λU=>(HI U J).bind λah=>cond ah (some cH) (cW (i64.wrap (cH+1)))) (some (-1))
def zr (a0:amj) (J:e1):Nat->Int->alT
 |0,_=>none
 |n+1,cH=>HJ (zr a0 J n) a0 J cH
def HK (a0:amj) (J:e1):alT:=
 lim λn=>zr a0 J n 0
def CG (a0:amj) (J:e1):alS:=
 (HK a0 J).bind λU=>some (decide (0<=U))
def cmp_isNaN_string (a0:alO):alS:=
 some false
def CH (a0 J:alO):alT:=
 (cmp_isNaN_string a0).bind λU=>(cmp_isNaN_string J).bind λah=>cond U (cond ah (some 0) (some (-1))) (cond ah (some 1) (cond (Op.bytesLess a0 J) (some (-1)) (cond (!(Op.bytesLess a0 J||a0==J)) (some 1) (some 0))))
def OQ (cW:Int->alT) (a0 J:alN) (i6:Int):alT:=
 cond (decide (i6<(a0.length:Int))) ((bl a0 i6).bind λU=>cond (decide ((J.length:Int)<=i6)) (some 1) ((bl J i6).bind λah=>(CH U ah).bind λaO=>cond (aO !=0) (some aO) (cW (i64.wrap (i6+1))))) (cond (decide ((a0.length:Int)<(J.length:Int))) (some (-1)) (some 0))
def CI (a0 J:alN):Nat->Int->alT
 |0,_=>none
 |n+1,i6=>OQ (CI a0 J n) a0 J i6
def CJ (a0 J:alN):alT:=
 lim λn=>CI a0 J n 0
def CK (a0 J:cA):alT:=
 (CJ [a0.Left,a0.b_] [J.Left,J.b_]).bind λU=>some U
def HL (a0 J:cA):alS:=
 some ((a0.Left==J.Result)||(a0.b_==J.Result))
def HM (cW:Int->alT) (a0:amk) (J:cA) (cH:Int):alT:=
 cond (decide (cH<(a0.length:Int))) ((bl a0 cH).bind λU=>(HL U J).bind λah=>cond ah (some cH) (cW (i64.wrap (cH+1)))) (some (-1))
def zs (a0:amk) (J:cA):Nat->Int->alT
 |0,_=>none
 |n+1,cH=>HM (zs a0 J n) a0 J cH
def HN (a0:amk) (J:cA):alT:=
 lim λn=>zs a0 J n 0
def zt (a0:amk) (J:cA):alS:=
 (HN a0 J).bind λU=>some (decide (0<=U))
def HO (cW:Int->alS) (a0:amk) (e7:Int):alS:=
 cond (decide (e7<(a0.length:Int))) ((bl a0 e7).bind λU=>(rb U.Left).bind λa7=>cond (!a7) (some false) ((rb U.b_).bind λbM=>cond (!bM) (some false) ((rb U.Result).bind λcG=>cond (!cG) (some false) (cond (!(Op.bytesLess U.Left U.b_||U.Left==U.b_)) (some false) (cond (decide (0<e7)) ((bl a0 (i64.wrap (e7-1))).bind λeD=>(CK eD U).bind λdT=>cond (decide (0<=dT)) (some false) ((zt a0 U).bind λdh=>cond dh (some false) (cW (i64.wrap (e7+1))))) ((zt a0 U).bind λgG=>cond gG (some false) (cW (i64.wrap (e7+1))))))))) (some (decide ((a0.length:Int)<=6)))
def vQ (a0:amk):Nat->Int->alS
 |0,_=>none
 |n+1,e7=>HO (vQ a0 n) a0 e7
def CL (a0:amk):alS:=
 lim λn=>vQ a0 n 0
def HP (cW:Int->alS) (a0:alN) (e7:Int):alS:=
 cond (decide (e7<(a0.length:Int))) ((bl a0 e7).bind λU=>(rb U).bind λah=>cond (!ah) (some false) (cond (decide (0<e7)) ((bl a0 (i64.wrap (e7-1))).bind λaO=>cond (Op.bytesLess U aO||U==aO) (some false) (cW (i64.wrap (e7+1)))) (cW (i64.wrap (e7+1))))) (some (decide ((a0.length:Int)<=12)))
def vR (a0:alN):Nat->Int->alS
 |0,_=>none
 |n+1,e7=>HP (vR a0 n) a0 e7
def zu (a0:alN):alS:=
 lim λn=>vR a0 n 0
def CM (a0:e1):alT:=
 (CE a0.dU).bind λU=>cond (!U) (some 1) ((jB (a0.cU.length:Int) 1 3).bind λah=>cond (!ah) (some 2) ((CG a0.cU a0).bind λaO=>cond aO (some 2) ((CL a0.gV).bind λbx=>cond (!bx) (some 3) ((zu a0.gP).bind λa7=>cond (!a7) (some 4) ((zu a0.gQ).bind λbM=>cond (!bM) (some 5) (some 0))))))
def CN (a0:e1):alS:=
 (CM a0).bind λU=>some (U==0)
def zv (a0:ami) (J:aT):alS:=
 (sx J.b6 (a0.length:Int)).bind λU=>cond (!U) (some false) ((bl a0 J.b6).bind λah=>(sx J.Part (ah.Body.length:Int)).bind λaO=>cond (!aO) (some false) ((bl ah.Body J.Part).bind λbx=>cond (bx.Kind !=5) ((vN ah).bind λa7=>(bl a7 J.Part).bind λbM=>cond ((J.bL.length:Int)==bM.scope) ((zq J.bL).bind λcG=>some cG) (some false)) (some false)))
def HQ (a0:aT) (J:e1):alS:=
 (zv J.dU a0).bind λU=>some (!U)
def HR (cW:Int->alT) (a0:aml) (J:e1) (cH:Int):alT:=
 cond (decide (cH<(a0.length:Int))) ((bl a0 cH).bind λU=>(HQ U J).bind λah=>cond ah (some cH) (cW (i64.wrap (cH+1)))) (some (-1))
def zw (a0:aml) (J:e1):Nat->Int->alT
 |0,_=>none
 |n+1,cH=>HR (zw a0 J n) a0 J cH
def HS (a0:aml) (J:e1):alT:=
 lim λn=>zw a0 J n 0
def CO (a0:aml) (J:e1):alS:=
 (HS a0 J).bind λU=>some (decide (0<=U))
def HT (a0:e1) (J:aml):alS:=
 (CN a0).bind λah=>cond ah (cond ((J.length:Int)==(a0.cU.length:Int)) ((CO J a0).bind λaO=>some (!aO)) (some false)) (some false)
def HU (cW:Int->alT) (a0:alQ) (J cH:Int):alT:=
 cond (decide (cH<(a0.length:Int))) ((bl a0 cH).bind λU=>cond (J==U) (some cH) (cW (i64.wrap (cH+1)))) (some (-1))
def zx (a0:alQ) (J:Int):Nat->Int->alT
 |0,_=>none
 |n+1,cH=>HU (zx a0 J n) a0 J cH
def HV (a0:alQ) (J:Int):alT:=
 lim λn=>zx a0 J n 0
def CP (a0:alQ) (J:Int):alS:=
 (HV a0 J).bind λU=>some (decide (0<=U))
def zy (a0:alQ):Option alQ:=
 cond a0.isEmpty (both (some []) ((room 8 (a0.length)).bind λ_=>some a0)) ((room 8 (a0.length)).bind λ_=>some a0)
def zz (dM:(List alQ)->Int->Option ((List alQ))) (om:(List alQ)->(List alQ)->Int->Int->Int->Option ((List alQ))) (CQ:(List alQ)->(List alQ)->Int->Int->Int->Int->Option ((List alQ))) (a0:Int) (U:alQ) (vS vT:List alQ) (vU vV:Int) (vW vX:Int):Option ((List alQ)):=
 CQ vS vT vU vV vW (i64.wrap (vX+1))
def HW (dM:(List alQ)->Int->Option ((List alQ))) (om:(List alQ)->(List alQ)->Int->Int->Int->Option ((List alQ))) (CQ:(List alQ)->(List alQ)->Int->Int->Int->Int->Option ((List alQ))) (a0:Int) (U:alQ) (nC mX:List alQ) (nD nE:Int) (nF jC:Int):Option ((List alQ)):=
 cond (decide (jC<a0)) ((CP U jC).bind λah=>cond (!ah) ((zy U).bind λaO=>(room 8 (aO.length+1)).bind λ_=>(room 24 (mX.length+1)).bind λ_=>zz dM om CQ a0 U nC (mX++[(aO++[jC])]) nD nE nF jC) (zz dM om CQ a0 U nC mX nD nE nF jC)) (om nC mX nD nE (i64.wrap (nF+1)))
def tX (dM:(List alQ)->Int->Option ((List alQ))) (om:(List alQ)->(List alQ)->Int->Int->Int->Option ((List alQ))) (a0:Int) (U:alQ):Nat->(List alQ)->(List alQ)->Int->Int->Int->Int->Option ((List alQ))
 |0,_,_,_,_,_,_=>none
 |n+1,nC,mX,nD,nE,nF,jC=>HW dM om (tX dM om a0 U n) a0 U nC mX nD nE nF jC
def HX (dM:(List alQ)->Int->Option ((List alQ))) (om:(List alQ)->(List alQ)->Int->Int->Int->Option ((List alQ))) (a0:Int) (re ql:List alQ) (qm rf qn:Int):Option ((List alQ)):=
 cond (decide (qn<rf)) ((bl re qn).bind λU=>lim λn=>tX dM om a0 U n re ql qm rf qn 0) (dM ql (i64.wrap (qm+1)))
def qo (dM:(List alQ)->Int->Option ((List alQ))) (a0:Int):Nat->(List alQ)->(List alQ)->Int->Int->Int->Option ((List alQ))
 |0,_,_,_,_,_=>none
 |n+1,re,ql,qm,rf,qn=>HX dM (qo dM a0 n) a0 re ql qm rf qn
def HY (dM:(List alQ)->Int->Option ((List alQ))) (a0:Int) (bt:List alQ) (gB:Int):Option ((List alQ)):=
 cond (decide (gB<a0)) (lim λn=>qo dM a0 n bt [] gB (bt.length:Int) 0) (some bt)
def mY (a0:Int):Nat->(List alQ)->Int->Option ((List alQ))
 |0,_,_=>none
 |n+1,bt,gB=>HY (mY a0 n) a0 bt gB
def CR (a0:Int):Option ((List alQ)):=
 lim λn=>mY a0 n [[]] 0
def CS (a0:aT):Option aT:=
 (zy a0.bL).bind λU=>some (aT.mk a0.b6 a0.Part U)
def YI (dM:aml->Int->Option aml) (a0:aml) (J:alQ) (fW:aml) (gB:Int):Option aml:=
 cond (decide (gB<(J.length:Int))) ((bl J gB).bind λU=>(bl a0 U).bind λah=>(CS ah).bind λaO=>(room 40 (fW.length+1)).bind λ_=>dM (fW++[aO]) (i64.wrap (gB+1))) (some fW)
def HZ (a0:aml) (J:alQ):Nat->aml->Int->Option aml
 |0,_,_=>none
 |n+1,fW,gB=>YI (HZ a0 J n) a0 J fW gB
def CT (a0:aml) (J:alQ):Option aml:=
 lim λn=>HZ a0 J n [] 0
def CU (a0:Int):alS:=
 some (a0 !=a0)
def vY (a0 J:Int):alT:=
 (CU a0).bind λU=>(CU J).bind λah=>cond U (cond ah (some 0) (some (-1))) (cond ah (some 1) (cond (decide (a0<J)) (some (-1)) (cond (decide (J<a0)) (some 1) (some 0))))
def H0 (cW:Int->alT) (a0 J:alQ) (i6:Int):alT:=
 cond (decide (i6<(a0.length:Int))) ((bl a0 i6).bind λU=>cond (decide ((J.length:Int)<=i6)) (some 1) ((bl J i6).bind λah=>(vY U ah).bind λaO=>cond (aO !=0) (some aO) (cW (i64.wrap (i6+1))))) (cond (decide ((a0.length:Int)<(J.length:Int))) (some (-1)) (some 0))
def vZ (a0 J:alQ):Nat->Int->alT
 |0,_=>none
 |n+1,i6=>H0 (vZ a0 J n) a0 J i6
def CV (a0 J:alQ):alT:=
 lim λn=>vZ a0 J n 0
def OR (dM:Int->alT) (a0:alQ) (qp:Int):alT:=
 cond (decide (qp<(a0.length:Int))) ((bl a0 qp).bind λU=>cond (U !=0) (some U) (dM (i64.wrap (qp+1)))) (some 0)
def zA (a0:alQ):Nat->Int->alT
 |0,_=>none
 |n+1,qp=>OR (zA a0 n) a0 qp
def H2 (a0:alQ):alT:=
 lim λn=>zA a0 n 0
def CW (a0 J:aT):alT:=
 (vY a0.b6 J.b6).bind λU=>(vY a0.Part J.Part).bind λah=>(CV a0.bL J.bL).bind λaO=>(H2 [U,ah,aO]).bind λbx=>some bx
def H3 (cW:Int->alT) (a0 J:aml) (oo:Int):alT:=
 cond (decide (oo<(a0.length:Int))) ((bl a0 oo).bind λU=>cond (decide ((J.length:Int)<=oo)) (some 1) ((bl J oo).bind λah=>(CW U ah).bind λaO=>cond (aO !=0) (some aO) (cW (i64.wrap (oo+1))))) (cond (decide ((a0.length:Int)<(J.length:Int))) (some (-1)) (some 0))
def v7 (a0 J:aml):Nat->Int->alT
 |0,_=>none
 |n+1,oo=>H3 (v7 a0 J n) a0 J oo
def CX (a0 J:aml):alT:=
 lim λn=>v7 a0 J n 0
def v8 (a0 J:aml):alT:=
 (CX a0 J).bind λU=>some U
def mz (p:aml):Bool:=decide (p.length<=1099511627776)&&p.all λq=>decide (q.bL.length<=1099511627776)
def zB (x y:aml):Int:=(v8 x y).getD 0
def v_ (a0:alZ):Option alZ:=if a0≠[]/\a0.length<4611686018427387904/\a0.all mz=true then some (a0.mergeSort λx y=>decide (zB x y<=0))else none
def zC (a0 J:aml):alS:=
 (v8 a0 J).bind λU=>some (U==0)
def nG {α:Type} (eq:α->α->Bool) (p:α):List α->List α
 |[]=>[]
 |x::l=>if eq x p=true then nG eq x l else x::nG eq x l
def H4 {α:Type} (eq:α->α->Bool):List α->List α
 |[]=>[]
 |x::l=>x::nG eq x l
def qq (x y:aml):Bool:=(zC x y).getD false
def wa (a0:alZ):Option alZ:=if a0.length<=4611686018427387904/\a0.all mz=true then some (H4 qq a0)else none
def H5 (dM:alZ->Int->Option alZ) (a0:aml) (U:(List alQ)) (bt:alZ) (gB:Int):Option alZ:=
 cond (decide (gB<(U.length:Int))) ((bl U gB).bind λah=>(CT a0 ah).bind λaO=>(room 24 (bt.length+1)).bind λ_=>dM (bt++[aO]) (i64.wrap (gB+1))) ((v_ bt).bind λbx=>(wa bx).bind λa7=>some a7)
def wb (a0:aml) (U:(List alQ)):Nat->alZ->Int->Option alZ
 |0,_,_=>none
 |n+1,bt,gB=>H5 (wb a0 U n) a0 U bt gB
def zD (a0:aml):Option alZ:=
 (CR (a0.length:Int)).bind λU=>lim λn=>wb a0 U n [] 0
def zE (a0:e1) (J:aml):Option (alZ×Int):=
 (HT a0 J).bind λU=>cond (!U) (some ([],1)) ((zD J).bind λah=>some (ah,0))
def YJ (e2:Int->alS) (a0 J:alQ) (bN:Int):alS:=
 cond (decide (bN<(a0.length:Int))) ((bl a0 bN).bind λU=>(bl J bN).bind λah=>cond (U !=ah) (some false) (e2 (i64.wrap (bN+1)))) (some true)
def H6 (a0 J:alQ):Nat->Int->alS
 |0,_=>none
 |n+1,bN=>YJ (H6 a0 J n) a0 J bN
def zF (a0 J:alQ):alS:=
 cond ((a0.length:Int) !=(J.length:Int)) (some false) (lim λn=>H6 a0 J n 0)
def zG (a0 J:aT):alS:=
 cond (a0.b6 !=J.b6) (some false) (cond (a0.Part !=J.Part) (some false) ((zF a0.bL J.bL).bind λU=>cond (!U) (some false) (some true)))
def YK (e2:Int->alS) (a0 J:aml) (bN:Int):alS:=
 cond (decide (bN<(a0.length:Int))) ((bl a0 bN).bind λU=>(bl J bN).bind λah=>(zG U ah).bind λaO=>cond (!aO) (some false) (e2 (i64.wrap (bN+1)))) (some true)
def H7 (a0 J:aml):Nat->Int->alS
 |0,_=>none
 |n+1,bN=>YK (H7 a0 J n) a0 J bN
def wc (a0 J:aml):alS:=
 cond ((a0.length:Int) !=(J.length:Int)) (some false) (lim λn=>H7 a0 J n 0)
def YL (e2:Int->alS) (a0 J:alZ) (bN:Int):alS:=
 cond (decide (bN<(a0.length:Int))) ((bl a0 bN).bind λU=>(bl J bN).bind λah=>(wc U ah).bind λaO=>cond (!aO) (some false) (e2 (i64.wrap (bN+1)))) (some true)
def H8 (a0 J:alZ):Nat->Int->alS
 |0,_=>none
 |n+1,bN=>YL (H8 a0 J n) a0 J bN
def we (a0 J:alZ):alS:=
 cond ((a0.length:Int) !=(J.length:Int)) (some false) (lim λn=>H8 a0 J n 0)
def zH (a0 J:ct):alS:=
 cond (a0.Kind !=J.Kind) (some false) (cond (a0.Value !=J.Value) (some false) (some true))
def YM (e2:Int->alS) (a0 J:amg) (bN:Int):alS:=
 cond (decide (bN<(a0.length:Int))) ((bl a0 bN).bind λU=>(bl J bN).bind λah=>(zH U ah).bind λaO=>cond (!aO) (some false) (e2 (i64.wrap (bN+1)))) (some true)
def H9 (a0 J:amg):Nat->Int->alS
 |0,_=>none
 |n+1,bN=>YM (H9 a0 J n) a0 J bN
def zI (a0 J:amg):alS:=
 cond ((a0.length:Int) !=(J.length:Int)) (some false) (lim λn=>H9 a0 J n 0)
def YN (e2:Int->alS) (a0 J:alY) (bN:Int):alS:=
 cond (decide (bN<(a0.length:Int))) ((bl a0 bN).bind λU=>(bl J bN).bind λah=>(zI U ah).bind λaO=>cond (!aO) (some false) (e2 (i64.wrap (bN+1)))) (some true)
def H_ (a0 J:alY):Nat->Int->alS
 |0,_=>none
 |n+1,bN=>YN (H_ a0 J n) a0 J bN
def CY (a0 J:alY):alS:=
 cond ((a0.length:Int) !=(J.length:Int)) (some false) (lim λn=>H_ a0 J n 0)
def zJ (a0 J:bT):alS:=
 cond (a0.Kind !=J.Kind) (some false) (cond (a0.Number !=J.Number) (some false) (cond (!(a0.Name==J.Name)) (some false) ((CY a0.cw J.cw).bind λU=>cond (!U) (some false) (some true))))
def YO (e2:Int->alS) (a0 J:amh) (bN:Int):alS:=
 cond (decide (bN<(a0.length:Int))) ((bl a0 bN).bind λU=>(bl J bN).bind λah=>(zJ U ah).bind λaO=>cond (!aO) (some false) (e2 (i64.wrap (bN+1)))) (some true)
def Ia (a0 J:amh):Nat->Int->alS
 |0,_=>none
 |n+1,bN=>YO (Ia a0 J n) a0 J bN
def CZ (a0 J:amh):alS:=
 cond ((a0.length:Int) !=(J.length:Int)) (some false) (lim λn=>Ia a0 J n 0)
def zK (a0 J:bs):alS:=
 cond (!(a0.Name==J.Name)) (some false) (cond (a0.db !=J.db) (some false) ((CZ a0.Body J.Body).bind λU=>cond (!U) (some false) (some true)))
def YP (e2:Int->alS) (a0 J:ami) (bN:Int):alS:=
 cond (decide (bN<(a0.length:Int))) ((bl a0 bN).bind λU=>(bl J bN).bind λah=>(zK U ah).bind λaO=>cond (!aO) (some false) (e2 (i64.wrap (bN+1)))) (some true)
def Ib (a0 J:ami):Nat->Int->alS
 |0,_=>none
 |n+1,bN=>YP (Ib a0 J n) a0 J bN
def C0 (a0 J:ami):alS:=
 cond ((a0.length:Int) !=(J.length:Int)) (some false) (lim λn=>Ib a0 J n 0)
def zL (a0 J:dR):alS:=
 cond (a0.b6 !=J.b6) (some false) ((zF a0.bL J.bL).bind λU=>cond (!U) (some false) (some true))
def YQ (e2:Int->alS) (a0 J:amj) (bN:Int):alS:=
 cond (decide (bN<(a0.length:Int))) ((bl a0 bN).bind λU=>(bl J bN).bind λah=>(zL U ah).bind λaO=>cond (!aO) (some false) (e2 (i64.wrap (bN+1)))) (some true)
def Ic (a0 J:amj):Nat->Int->alS
 |0,_=>none
 |n+1,bN=>YQ (Ic a0 J n) a0 J bN
def C1 (a0 J:amj):alS:=
 cond ((a0.length:Int) !=(J.length:Int)) (some false) (lim λn=>Ic a0 J n 0)
def zM (a0 J:cA):alS:=
 cond (!(a0.Left==J.Left)) (some false) (cond (!(a0.b_==J.b_)) (some false) (cond (!(a0.Result==J.Result)) (some false) (some true)))
def YR (e2:Int->alS) (a0 J:amk) (bN:Int):alS:=
 cond (decide (bN<(a0.length:Int))) ((bl a0 bN).bind λU=>(bl J bN).bind λah=>(zM U ah).bind λaO=>cond (!aO) (some false) (e2 (i64.wrap (bN+1)))) (some true)
def Ie (a0 J:amk):Nat->Int->alS
 |0,_=>none
 |n+1,bN=>YR (Ie a0 J n) a0 J bN
def C2 (a0 J:amk):alS:=
 cond ((a0.length:Int) !=(J.length:Int)) (some false) (lim λn=>Ie a0 J n 0)
def YS (e2:Int->alS) (a0 J:alN) (bN:Int):alS:=
 cond (decide (bN<(a0.length:Int))) ((bl a0 bN).bind λU=>(bl J bN).bind λah=>cond (!(U==ah)) (some false) (e2 (i64.wrap (bN+1)))) (some true)
def Ig (a0 J:alN):Nat->Int->alS
 |0,_=>none
 |n+1,bN=>YS (Ig a0 J n) a0 J bN
def zN (a0 J:alN):alS:=
 cond ((a0.length:Int) !=(J.length:Int)) (some false) (lim λn=>Ig a0 J n 0)
def zO (a0 J:e1):alS:=
 (C0 a0.dU J.dU).bind λU=>cond (!U) (some false) ((C1 a0.cU J.cU).bind λah=>cond (!ah) (some false) ((C2 a0.gV J.gV).bind λaO=>cond (!aO) (some false) ((zN a0.gP J.gP).bind λbx=>cond (!bx) (some false) ((zN a0.gQ J.gQ).bind λa7=>cond (!a7) (some false) (some true)))))
def C3 (e2:Int->alO->Option alO) (lJ:Int) (dn:alO):Option alO:=
 cond (decide (0<lJ)) ((pD (1+dn.length)).bind λ_=>e2 (i64.wrap (Int.tdiv lJ 10)) ([(qJ (i64.wrap (48+(Int.tmod lJ 10))))]++dn)) ((pD (1+dn.length)).bind λ_=>some (([109]:alO)++dn))
def tY:Nat->Int->alO->Option alO
 |0,_,_=>none
 |n+1,lJ,dn=>C3 (tY n) lJ dn
def rh (a0:Int):Option alO:=
 cond (decide (a0<=0)) (some ([109,48]:alO)) (lim λn=>tY n a0 ([]:alO))
def Ih (cW:amg->Int->Int->Option (Int×amg)) (bq:amg) (aU aG:Int):Option (Int×amg):=
 cond (decide (aG<(bq.length:Int))) ((bl bq aG).bind λU=>(bl (List.set bq (Int.toNat aG) (ct.mk aU U.Value)) aG).bind λah=>cW (List.set (List.set bq (Int.toNat aG) (ct.mk aU U.Value)) (Int.toNat aG) (ct.mk ah.Kind (i64.wrap (aU+1)))) (i64.wrap ((i64.wrap (aU+1))+1)) (i64.wrap (aG+1))) (some (aU,bq))
def wg:Nat->amg->Int->Int->Option (Int×amg)
 |0,_,_,_=>none
 |n+1,bq,aU,aG=>Ih (wg n) bq aU aG
def C4 (a0:amg) (J:Int):Option (Int×amg):=
 lim λn=>wg n a0 J 0
def Ii (cW:alY->Int->Int->Option (Int×alY)) (bq:alY) (aU aG:Int):Option (Int×alY):=
 cond (decide (aG<(bq.length:Int))) ((bl bq aG).bind λU=>(C4 U aU).bind λah=>cW (List.set bq (Int.toNat aG) ah.2) ah.1 (i64.wrap (aG+1))) (some (aU,bq))
def wh:Nat->alY->Int->Int->Option (Int×alY)
 |0,_,_,_=>none
 |n+1,bq,aU,aG=>Ii (wh n) bq aU aG
def C5 (a0:alY) (J:Int):Option (Int×alY):=
 lim λn=>wh n a0 J 0
def Ij (cW:amh->Int->Int->Option (Int×amh)) (bq:amh) (aU aG:Int):Option (Int×amh):=
 cond (decide (aG<(bq.length:Int))) ((bl bq aG).bind λU=>(bl (List.set bq (Int.toNat aG) (bT.mk aU U.Number U.Name U.cw)) aG).bind λah=>(rh (i64.wrap ((i64.wrap (aU+1))+1))).bind λaO=>(bl (List.set (List.set bq (Int.toNat aG) (bT.mk aU U.Number U.Name U.cw)) (Int.toNat aG) (bT.mk ah.Kind (i64.wrap (aU+1)) ah.Name ah.cw)) aG).bind λbx=>(bl (List.set (List.set (List.set bq (Int.toNat aG) (bT.mk aU U.Number U.Name U.cw)) (Int.toNat aG) (bT.mk ah.Kind (i64.wrap (aU+1)) ah.Name ah.cw)) (Int.toNat aG) (bT.mk bx.Kind bx.Number aO bx.cw)) aG).bind λa7=>(C5 a7.cw (i64.wrap ((i64.wrap ((i64.wrap (aU+1))+1))+1))).bind λbM=>cW (List.set (List.set (List.set (List.set bq (Int.toNat aG) (bT.mk aU U.Number U.Name U.cw)) (Int.toNat aG) (bT.mk ah.Kind (i64.wrap (aU+1)) ah.Name ah.cw)) (Int.toNat aG) (bT.mk bx.Kind bx.Number aO bx.cw)) (Int.toNat aG) (bT.mk a7.Kind a7.Number a7.Name bM.2)) bM.1 (i64.wrap (aG+1))) (some (aU,bq))
def wi:Nat->amh->Int->Int->Option (Int×amh)
 |0,_,_,_=>none
 |n+1,bq,aU,aG=>Ij (wi n) bq aU aG
def C6 (a0:amh) (J:Int):Option (Int×amh):=
 lim λn=>wi n a0 J 0
def Ik (cW:ami->Int->Int->Option (Int×ami)) (bq:ami) (aU aG:Int):Option (Int×ami):=
 cond (decide (aG<(bq.length:Int))) ((rh aU).bind λU=>(bl bq aG).bind λah=>(bl (List.set bq (Int.toNat aG) (bs.mk U ah.db ah.Body)) aG).bind λaO=>(bl (List.set (List.set bq (Int.toNat aG) (bs.mk U ah.db ah.Body)) (Int.toNat aG) (bs.mk aO.Name (i64.wrap (aU+1)) aO.Body)) aG).bind λbx=>(C6 bx.Body (i64.wrap ((i64.wrap (aU+1))+1))).bind λa7=>cW (List.set (List.set (List.set bq (Int.toNat aG) (bs.mk U ah.db ah.Body)) (Int.toNat aG) (bs.mk aO.Name (i64.wrap (aU+1)) aO.Body)) (Int.toNat aG) (bs.mk bx.Name bx.db a7.2)) a7.1 (i64.wrap (aG+1))) (some (aU,bq))
def wj:Nat->ami->Int->Int->Option (Int×ami)
 |0,_,_,_=>none
 |n+1,bq,aU,aG=>Ik (wj n) bq aU aG
def C7 (a0:ami) (J:Int):Option (Int×ami):=
 lim λn=>wj n a0 J 0
def Il (cW:alQ->Int->Int->Option (Int×alQ)) (bq:alQ) (aU aG:Int):Option (Int×alQ):=
 cond (decide (aG<(bq.length:Int))) ((bl bq aG).bind λU=>cW (List.set bq (Int.toNat aG) aU) (i64.wrap (aU+1)) (i64.wrap (aG+1))) (some (aU,bq))
def wk:Nat->alQ->Int->Int->Option (Int×alQ)
 |0,_,_,_=>none
 |n+1,bq,aU,aG=>Il (wk n) bq aU aG
def zP (a0:alQ) (J:Int):Option (Int×alQ):=
 lim λn=>wk n a0 J 0
def Im (cW:amj->Int->Int->Option (Int×amj)) (bq:amj) (aU aG:Int):Option (Int×amj):=
 cond (decide (aG<(bq.length:Int))) ((bl bq aG).bind λU=>(bl (List.set bq (Int.toNat aG) (dR.mk aU U.bL)) aG).bind λah=>(zP ah.bL (i64.wrap (aU+1))).bind λaO=>cW (List.set (List.set bq (Int.toNat aG) (dR.mk aU U.bL)) (Int.toNat aG) (dR.mk ah.b6 aO.2)) aO.1 (i64.wrap (aG+1))) (some (aU,bq))
def wm:Nat->amj->Int->Int->Option (Int×amj)
 |0,_,_,_=>none
 |n+1,bq,aU,aG=>Im (wm n) bq aU aG
def C8 (a0:amj) (J:Int):Option (Int×amj):=
 lim λn=>wm n a0 J 0
def Io (cW:amk->Int->Int->Option (Int×amk)) (bq:amk) (aU aG:Int):Option (Int×amk):=
 cond (decide (aG<(bq.length:Int))) ((rh aU).bind λU=>(bl bq aG).bind λah=>(rh (i64.wrap (aU+1))).bind λaO=>(bl (List.set bq (Int.toNat aG) (cA.mk U ah.b_ ah.Result)) aG).bind λbx=>(rh (i64.wrap ((i64.wrap (aU+1))+1))).bind λa7=>(bl (List.set (List.set bq (Int.toNat aG) (cA.mk U ah.b_ ah.Result)) (Int.toNat aG) (cA.mk bx.Left aO bx.Result)) aG).bind λbM=>cW (List.set (List.set (List.set bq (Int.toNat aG) (cA.mk U ah.b_ ah.Result)) (Int.toNat aG) (cA.mk bx.Left aO bx.Result)) (Int.toNat aG) (cA.mk bM.Left bM.b_ a7)) (i64.wrap ((i64.wrap ((i64.wrap (aU+1))+1))+1)) (i64.wrap (aG+1))) (some (aU,bq))
def wo:Nat->amk->Int->Int->Option (Int×amk)
 |0,_,_,_=>none
 |n+1,bq,aU,aG=>Io (wo n) bq aU aG
def C9 (a0:amk) (J:Int):Option (Int×amk):=
 lim λn=>wo n a0 J 0
def Ip (cW:alN->Int->Int->Option (Int×alN)) (bq:alN) (aU aG:Int):Option (Int×alN):=
 cond (decide (aG<(bq.length:Int))) ((rh aU).bind λU=>(bl bq aG).bind λah=>cW (List.set bq (Int.toNat aG) U) (i64.wrap (aU+1)) (i64.wrap (aG+1))) (some (aU,bq))
def wq:Nat->alN->Int->Int->Option (Int×alN)
 |0,_,_,_=>none
 |n+1,bq,aU,aG=>Ip (wq n) bq aU aG
def zQ (a0:alN) (J:Int):Option (Int×alN):=
 lim λn=>wq n a0 J 0
def C_ (wt:ami) (tZ:amj) (sy:amk) (ri qs:alN) (J:Int):Option (Int×ami×amj×amk×alN×alN):=
 (C7 wt J).bind λU=>(C8 tZ U.1).bind λah=>(C9 sy ah.1).bind λaO=>(zQ ri aO.1).bind λbx=>(zQ qs bx.1).bind λa7=>some (a7.1,U.2,ah.2,aO.2,bx.2,a7.2)
def Iq (cW:aml->Int->Int->Option (Int×aml)) (bq:aml) (aU aG:Int):Option (Int×aml):=
 cond (decide (aG<(bq.length:Int))) ((bl bq aG).bind λU=>(bl (List.set bq (Int.toNat aG) (aT.mk aU U.Part U.bL)) aG).bind λah=>(bl (List.set (List.set bq (Int.toNat aG) (aT.mk aU U.Part U.bL)) (Int.toNat aG) (aT.mk ah.b6 (i64.wrap (aU+1)) ah.bL)) aG).bind λaO=>(zP aO.bL (i64.wrap ((i64.wrap (aU+1))+1))).bind λbx=>cW (List.set (List.set (List.set bq (Int.toNat aG) (aT.mk aU U.Part U.bL)) (Int.toNat aG) (aT.mk ah.b6 (i64.wrap (aU+1)) ah.bL)) (Int.toNat aG) (aT.mk aO.b6 aO.Part bx.2)) bx.1 (i64.wrap (aG+1))) (some (aU,bq))
def wu:Nat->aml->Int->Int->Option (Int×aml)
 |0,_,_,_=>none
 |n+1,bq,aU,aG=>Iq (wu n) bq aU aG
def zR (a0:aml) (J:Int):Option (Int×aml):=
 lim λn=>wu n a0 J 0
def Ir (cW:alZ->Int->Int->Option (Int×alZ)) (bq:alZ) (aU aG:Int):Option (Int×alZ):=
 cond (decide (aG<(bq.length:Int))) ((bl bq aG).bind λU=>(zR U aU).bind λah=>cW (List.set bq (Int.toNat aG) ah.2) ah.1 (i64.wrap (aG+1))) (some (aU,bq))
def wv:Nat->alZ->Int->Int->Option (Int×alZ)
 |0,_,_,_=>none
 |n+1,bq,aU,aG=>Ir (wv n) bq aU aG
def Da (a0:alZ) (J:Int):Option (Int×alZ):=
 lim λn=>wv n a0 J 0
def Is (cW:Int->Int->alT) (a0:alQ) (aU aG:Int):alT:=
 cond (decide (aG<(a0.length:Int))) ((bl a0 aG).bind λU=>cond (U !=aU) (some (-1)) (cW (i64.wrap (aU+1)) (i64.wrap (aG+1)))) (some aU)
def wx (a0:alQ):Nat->Int->Int->alT
 |0,_,_=>none
 |n+1,aU,aG=>Is (wx a0 n) a0 aU aG
def Db (a0:alQ) (J:Int):alT:=
 lim λn=>wx a0 n J 0
def It (cW:Int->Int->alT) (a0:aml) (aU aG:Int):alT:=
 cond (decide (aG<(a0.length:Int))) ((bl a0 aG).bind λU=>cond (U.b6 !=aU) (some (-1)) (cond (U.Part !=(i64.wrap (aU+1))) (some (-1)) ((Db U.bL (i64.wrap ((i64.wrap (aU+1))+1))).bind λah=>cond (decide (ah<0)) (some (-1)) (cW ah (i64.wrap (aG+1)))))) (some aU)
def wy (a0:aml):Nat->Int->Int->alT
 |0,_,_=>none
 |n+1,aU,aG=>It (wy a0 n) a0 aU aG
def Dc (a0:aml) (J:Int):alT:=
 lim λn=>wy a0 n J 0
def Iu (cW:Int->Int->alT) (a0:alZ) (aU aG:Int):alT:=
 cond (decide (aG<(a0.length:Int))) ((bl a0 aG).bind λU=>(Dc U aU).bind λah=>cond (decide (ah<0)) (some (-1)) (cW ah (i64.wrap (aG+1)))) (some aU)
def wz (a0:alZ):Nat->Int->Int->alT
 |0,_,_=>none
 |n+1,aU,aG=>Iu (wz a0 n) a0 aU aG
def zS (a0:alZ) (J:Int):alT:=
 lim λn=>wz a0 n J 0
def Iv (a0:l4) (J:amf):alS:=
 (yO a0 1048576).bind λU=>cond (decide (U<0)) (some true) ((B1 J U).bind λah=>cond (decide (ah<0)) (some true) ((sr a0).bind λaO=>(tK J).bind λbx=>(Ct aO bx).bind λa7=>(sr a0).bind λbM=>(tK J).bind λcG=>(zE bM cG).bind λeD=>(we eD.1 a7.1).bind λdT=>cond ((!dT)||(eD.2 !=a7.2)) (some false) ((sr a0).bind λdh=>(zO bM dh).bind λgG=>cond (!gG) (some false) ((tK J).bind λl5=>(wc cG l5).bind λiC=>cond (!iC) (some false) ((C_ bM.dU bM.cU bM.gV bM.gP bM.gQ 1).bind λmx=>(zR cG mx.1).bind λoq=>cond (decide (oq.1<0)) (some false) ((we eD.1 a7.1).bind λrj=>cond ((!rj)||(eD.2 !=a7.2)) (some false) ((Da eD.1 1).bind λjo=>(zS jo.2 1).bind λqi=>cond (decide (qi<0)) (some false) (cond (qi !=jo.1) (some false) ((sr a0).bind λo_=>(tK J).bind λvK=>(zE o_ vK).bind λoi=>(we oi.1 a7.1).bind λwA=>cond ((!wA)||(oi.2 !=a7.2)) (some false) ((zS jo.2 1).bind λDd=>cond (decide (Dd<0)) (some false) (cond (Dd !=jo.1) (some false) (some true))))))))))))
end
end Go.l3
