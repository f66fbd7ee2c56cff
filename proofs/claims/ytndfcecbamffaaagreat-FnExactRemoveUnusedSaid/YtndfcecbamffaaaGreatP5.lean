/- Part of a proof that a law returns true for every input. No condition. -/
import Derived.Test.YtndfcecbamffaaaGreatFwA
namespace Go.mn
open List Option Go.IntKind Nat Or
open Go Go.cW
set_option linter.unusedVariables false
noncomputable section
structure gu where
 Kind:Int
 Value:Int
def q9 (x:gu):Prop:=(-9223372036854775808<=x.Kind/\x.Kind<=9223372036854775807)/\(-9223372036854775808<=x.Value/\x.Value<=9223372036854775807)
structure h5 where
 bs:abH
 Guard:List gu
 Name:nq
 bl:List (List gu)
 Next:List (List gu)
def xe (x:h5):Prop:=(x.bs.length<=9223372036854775807/\∀y∈x.bs,(-9223372036854775808<=y/\y<=9223372036854775807))/\(x.Guard.length<=9223372036854775807/\∀y∈x.Guard,q9 y)/\x.Name.length<=9223372036854775807/\(x.bl.length<=9223372036854775807/\∀y∈x.bl,(y.length<=9223372036854775807/\∀z∈y,q9 z))/\(x.Next.length<=9223372036854775807/\∀y∈x.Next,(y.length<=9223372036854775807/\∀z∈y,q9 z))
structure lb where
 a8:Int
 Start:abH
 aW:List h5
def zH (x:lb):Prop:=(-9223372036854775808<=x.a8/\x.a8<=9223372036854775807)/\(x.Start.length<=9223372036854775807/\∀y∈x.Start,(-9223372036854775808<=y/\y<=9223372036854775807))/\(x.aW.length<=9223372036854775807/\∀y∈x.aW,xe y)
structure aG where
 Kind:Int
 Value:Int
def DG (x:aG):Prop:=(-9223372036854775808<=x.Kind/\x.Kind<=9223372036854775807)/\(-9223372036854775808<=x.Value/\x.Value<=9223372036854775807)
structure bc where
 bs:abH
 Guard:List aG
 Name:nq
 bl:List (List aG)
 Next:List (List aG)
def TJ (x:bc):Prop:=(x.bs.length<=9223372036854775807/\∀y∈x.bs,(-9223372036854775808<=y/\y<=9223372036854775807))/\(x.Guard.length<=9223372036854775807/\∀y∈x.Guard,DG y)/\x.Name.length<=9223372036854775807/\(x.bl.length<=9223372036854775807/\∀y∈x.bl,(y.length<=9223372036854775807/\∀z∈y,DG z))/\(x.Next.length<=9223372036854775807/\∀y∈x.Next,(y.length<=9223372036854775807/\∀z∈y,DG z))
structure bj where
 a8:Int
 Start:abH
 aW:List bc
abbrev abQ:=List gu
abbrev abR:=List h5
abbrev abS:=List aG
abbrev abT:=List bc
abbrev abO:=List (List gu)
abbrev abP:=List (List aG)
def aa0 (x:bj):Prop:=(-9223372036854775808<=x.a8/\x.a8<=9223372036854775807)/\(x.Start.length<=9223372036854775807/\∀y∈x.Start,(-9223372036854775808<=y/\y<=9223372036854775807))/\(x.aW.length<=9223372036854775807/\∀y∈x.aW,TJ y)
def xf (a0:abH) (ab:Int):abK:=
 cond (decide ((i64.wrap (ab-(a0.length:Int)))<0)) (some (-1)) (some (i64.wrap (ab-(a0.length:Int))))
def uy (a0:abQ) (ab:Int):abK:=
 cond (decide ((i64.wrap (ab-(a0.length:Int)))<0)) (some (-1)) (some (i64.wrap (ab-(a0.length:Int))))
def TK (n_:Int->Int->abK) (a0:abO) (i1 fz:Int):abK:=
 cond (decide (fz<(a0.length:Int))) ((bS a0 fz).bind λaf=>(uy af i1).bind λaH=>cond (decide (aH<0)) (some (-1)) (n_ aH (i64.wrap (fz+1)))) (some i1)
def DH (a0:abO):Nat->Int->Int->abK
 |0,_,_=>none
 |n+1,i1,fz=>TK (DH a0 n) a0 i1 fz
def xg (a0:abO) (ab:Int):abK:=
 cond (decide ((i64.wrap (ab-(a0.length:Int)))<0)) (some (-1)) (lim λn=>DH a0 n (i64.wrap (ab-(a0.length:Int))) 0)
def xh (a0:h5) (ab:Int):abK:=
 (xf a0.bs ab).bind λaf=>cond (decide (af<0)) (some (-1)) ((uy a0.Guard af).bind λaH=>cond (decide (aH<0)) (some (-1)) (cond (decide ((i64.wrap (aH-(a0.Name.length:Int)))<0)) (some (-1)) ((xg a0.bl (i64.wrap (aH-(a0.Name.length:Int)))).bind λaM=>cond (decide (aM<0)) (some (-1)) ((xg a0.Next aM).bind λaT=>cond (decide (aT<0)) (some (-1)) (some aT)))))
def TL (n_:Int->Int->abK) (a0:abR) (i1 fz:Int):abK:=
 cond (decide (fz<(a0.length:Int))) ((bS a0 fz).bind λaf=>(xh af i1).bind λaH=>cond (decide (aH<0)) (some (-1)) (n_ aH (i64.wrap (fz+1)))) (some i1)
def DI (a0:abR):Nat->Int->Int->abK
 |0,_,_=>none
 |n+1,i1,fz=>TL (DI a0 n) a0 i1 fz
def zI (a0:abR) (ab:Int):abK:=
 cond (decide ((i64.wrap (ab-(a0.length:Int)))<0)) (some (-1)) (lim λn=>DI a0 n (i64.wrap (ab-(a0.length:Int))) 0)
def zJ (a0:lb) (ab:Int):abK:=
 (xf a0.Start ab).bind λaf=>cond (decide (af<0)) (some (-1)) ((zI a0.aW af).bind λaH=>cond (decide (aH<0)) (some (-1)) (some aH))
def TM (cE:abH->Int->Option abH) (a0 b9:abH) (cF:Int):Option abH:=
 cond (decide (cF<(a0.length:Int))) ((bS a0 cF).bind λaf=>(bS b9 cF).bind λaH=>cE (List.set b9 (Int.toNat cF) af) (i64.wrap (cF+1))) (some b9)
def DJ (a0:abH):Nat->abH->Int->Option abH
 |0,_,_=>none
 |n+1,b9,cF=>TM (DJ a0 n) a0 b9 cF
def xi (a0:abH):Option abH:=
 (lA 8 (a0.length:Int)).bind λ_=>lim λn=>DJ a0 n (replicate (Int.toNat (a0.length:Int)) 0) 0
def xj (a0:gu):Option aG:=
 some (aG.mk a0.Kind a0.Value)
def TN (cE:abS->Int->Option abS) (a0:abQ) (b9:abS) (cF:Int):Option abS:=
 cond (decide (cF<(a0.length:Int))) ((bS a0 cF).bind λaf=>(xj af).bind λaH=>(bS b9 cF).bind λaM=>cE (List.set b9 (Int.toNat cF) aH) (i64.wrap (cF+1))) (some b9)
def DK (a0:abQ):Nat->abS->Int->Option abS
 |0,_,_=>none
 |n+1,b9,cF=>TN (DK a0 n) a0 b9 cF
def uz (a0:abQ):Option abS:=
 (lA 16 (a0.length:Int)).bind λ_=>lim λn=>DK a0 n (replicate (Int.toNat (a0.length:Int)) (aG.mk 0 0)) 0
def TO (cE:abP->Int->Option abP) (a0:abO) (b9:abP) (cF:Int):Option abP:=
 cond (decide (cF<(a0.length:Int))) ((bS a0 cF).bind λaf=>(uz af).bind λaH=>(bS b9 cF).bind λaM=>cE (List.set b9 (Int.toNat cF) aH) (i64.wrap (cF+1))) (some b9)
def DL (a0:abO):Nat->abP->Int->Option abP
 |0,_,_=>none
 |n+1,b9,cF=>TO (DL a0 n) a0 b9 cF
def xk (a0:abO):Option abP:=
 (lA 24 (a0.length:Int)).bind λ_=>lim λn=>DL a0 n (replicate (Int.toNat (a0.length:Int)) []) 0
def xl (a0:h5):Option bc:=
 (xi a0.bs).bind λaf=>(uz a0.Guard).bind λaH=>(xk a0.bl).bind λaM=>(xk a0.Next).bind λaT=>some (bc.mk af aH a0.Name aM aT)
def TP (cE:abT->Int->Option abT) (a0:abR) (b9:abT) (cF:Int):Option abT:=
 cond (decide (cF<(a0.length:Int))) ((bS a0 cF).bind λaf=>(xl af).bind λaH=>(bS b9 cF).bind λaM=>cE (List.set b9 (Int.toNat cF) aH) (i64.wrap (cF+1))) (some b9)
def DM (a0:abR):Nat->abT->Int->Option abT
 |0,_,_=>none
 |n+1,b9,cF=>TP (DM a0 n) a0 b9 cF
def zK (a0:abR):Option abT:=
 (lA 112 (a0.length:Int)).bind λ_=>lim λn=>DM a0 n (replicate (Int.toNat (a0.length:Int)) (bc.mk [] [] ([]:nq) [] [])) 0
def sJ (a0:lb):Option bj:=
 (xi a0.Start).bind λaf=>(zK a0.aW).bind λaH=>some (bj.mk a0.a8 af aH)
def oa (a0 ab bF:Int):abJ:=
 some ((decide (ab<=a0))&&(decide (a0<=bF)))
def DN (dH:Int->abJ) (a0:abH) (pg:Int):abJ:=
 cond (decide (pg<(a0.length:Int))) ((bS a0 pg).bind λaf=>(oa af 0 63).bind λaH=>cond (!aH) (some false) (dH (i64.wrap (pg+1)))) (some true)
def xm (a0:abH):Nat->Int->abJ
 |0,_=>none
 |n+1,pg=>DN (xm a0 n) a0 pg
def zL (a0:abH):abJ:=
 lim λn=>xm a0 n 0
def zM (a0:abH) (ab:Int):abJ:=
 cond ((a0.length:Int)==ab) ((zL a0).bind λaf=>some af) (some false)
def DO (n_:Int->Int->abK) (a0:abH) (ob ph:Int):abK:=
 cond (decide (ph<(a0.length:Int))) ((bS a0 ph).bind λaf=>(oa af 1 7).bind λaH=>cond (!aH) (some 0) (n_ (i64.wrap (ob*(i64.wrap (af+1)))) (i64.wrap (ph+1)))) (cond (decide (4096<ob)) (some 0) (some ob))
def uA (a0:abH):Nat->Int->Int->abK
 |0,_,_=>none
 |n+1,ob,ph=>DO (uA a0 n) a0 ob ph
def zN (a0:abH):abK:=
 cond (decide (8<(a0.length:Int))) (some 0) (lim λn=>uA a0 n 1 0)
def zO (a0:aG) (ab:Int):abJ:=
 cond (a0.Kind==0) ((oa a0.Value 0 63).bind λaf=>some af) (cond (a0.Kind==1) ((oa a0.Value 0 (i64.wrap (ab-1))).bind λaH=>some aH) (cond (a0.Kind==2) ((oa a0.Value 0 8).bind λaM=>some aM) (cond (a0.Kind==3) (some (a0.Value==0)) (some false))))
def DP (a0:aG):abK:=
 cond (a0.Kind==2) (some 2) (cond (a0.Kind==3) (some 1) (some 0))
def DQ (n_:Int->Int->abJ) (a0:abS) (ab il pj:Int):abJ:=
 cond (decide (pj<(a0.length:Int))) (cond (il==0) (some false) ((bS a0 pj).bind λaf=>(zO af ab).bind λaH=>cond (!aH) (some false) ((DP af).bind λaM=>n_ (i64.wrap (il+(i64.wrap (aM-1)))) (i64.wrap (pj+1))))) (some (il==0))
def uB (a0:abS) (ab:Int):Nat->Int->Int->abJ
 |0,_,_=>none
 |n+1,il,pj=>DQ (uB a0 ab n) a0 ab il pj
def xn (a0:abS) (ab bF:Int):abJ:=
 cond (decide (bF<(a0.length:Int))) (some false) (lim λn=>uB a0 ab n 1 0)
def DR (dH:Int->abJ) (a0:abP) (ab bd:Int):abJ:=
 cond (decide (bd<(a0.length:Int))) ((bS a0 bd).bind λaf=>(xn af ab 60).bind λaH=>cond (!aH) (some false) (dH (i64.wrap (bd+1)))) (some true)
def xo (a0:abP) (ab:Int):Nat->Int->abJ
 |0,_=>none
 |n+1,bd=>DR (xo a0 ab n) a0 ab bd
def sK (a0:abP) (ab:Int):abJ:=
 lim λn=>xo a0 ab n 0
def xp (a0:UInt8):abJ:=
 some ((decide (97<=(a0.toNat:Int)))&&(decide ((a0.toNat:Int)<=122)))
def DS (a0:UInt8):abJ:=
 some ((decide (48<=(a0.toNat:Int)))&&(decide ((a0.toNat:Int)<=57)))
def DT (lS:Int->abJ) (a0:nq) (fp:Int):abJ:=
 cond (decide (fp<(a0.length:Int))) ((bS a0 fp).bind λaM=>(xp aM).bind λaT=>cond (!aT) ((DS aM).bind λbf=>cond (!bf) (some false) (lS (i64.wrap (fp+1)))) (lS (i64.wrap (fp+1)))) (some true)
def xq (a0:nq):Nat->Int->abJ
 |0,_=>none
 |n+1,fp=>DT (xq a0 n) a0 fp
def zP (a0:nq):abJ:=
 cond (a0==([]:nq)) (some false) (cond (decide (10<(a0.length:Int))) (some false) ((bS a0 0).bind λaf=>(xp af).bind λaH=>cond (!aH) (some false) (lim λn=>xq a0 n 0)))
def zQ (a0:nq):abJ:=
 (zP a0).bind λaf=>some (af&&(!(a0==([116,97,117]:nq))))
def zR (a0:bc) (ab:Int):abJ:=
 (zN a0.bs).bind λaf=>cond (af==0) (some false) ((xn a0.Guard (i64.wrap (ab+(a0.bs.length:Int))) 60).bind λaH=>cond ((!aH)||((a0.Next.length:Int) !=ab)) (some false) (cond (a0.Name==([116,97,117]:nq)) (cond (decide (0<(a0.bl.length:Int))) (some false) (cond (decide (2<(a0.bl.length:Int))) (some false) ((sK a0.bl (i64.wrap (ab+(a0.bs.length:Int)))).bind λaM=>cond aM ((sK a0.Next (i64.wrap (ab+(a0.bs.length:Int)))).bind λaT=>some aT) (some false)))) ((zQ a0.Name).bind λbf=>cond (!bf) (some false) (cond (decide (2<(a0.bl.length:Int))) (some false) ((sK a0.bl (i64.wrap (ab+(a0.bs.length:Int)))).bind λbY=>cond bY ((sK a0.Next (i64.wrap (ab+(a0.bs.length:Int)))).bind λb1=>some b1) (some false))))))
def DU (lS:Int->abJ) (a0:bj) (fp:Int):abJ:=
 cond (decide (fp<(a0.aW.length:Int))) ((bS a0.aW fp).bind λaM=>(zR aM a0.a8).bind λaT=>cond (!aT) (some false) (lS (i64.wrap (fp+1)))) (some true)
def xr (a0:bj):Nat->Int->abJ
 |0,_=>none
 |n+1,fp=>DU (xr a0 n) a0 fp
def zS (a0:bj):abJ:=
 (oa a0.a8 0 21).bind λaf=>cond (!af) (some false) ((zM a0.Start a0.a8).bind λaH=>cond ((!aH)||(decide (60<(a0.aW.length:Int)))) (some false) (lim λn=>xr a0 n 0))
def zT (de:(List Bool)->Int->Option ((List Bool))) (a0:abS) (uC:List Bool) (uD:Int):Option ((List Bool)):=
 de uC (i64.wrap (uD+1))
def DV (de:(List Bool)->Int->Option ((List Bool))) (a0:abS) (kG:List Bool) (lT:Int):Option ((List Bool)):=
 cond (decide (lT<(a0.length:Int))) ((bS a0 lT).bind λaf=>cond ((af.Kind==1)&&(decide (af.Value<(kG.length:Int)))) ((bS kG af.Value).bind λaH=>zT de a0 (List.set kG (Int.toNat af.Value) true) lT) (zT de a0 kG lT)) (some kG)
def sL (a0:abS):Nat->(List Bool)->Int->Option ((List Bool))
 |0,_,_=>none
 |n+1,kG,lT=>DV (sL a0 n) a0 kG lT
def uE (a0:abS) (ab:List Bool):Option ((List Bool)):=
 lim λn=>sL a0 n ab 0
def DW (cE:(List Bool)->Int->Option ((List Bool))) (TQ:(List Bool)->Int->Int->Option ((List Bool))) (a0:bj) (pk:List Bool) (nm j1:Int):Option ((List Bool)):=
 (bS a0.aW nm).bind λaM=>cond (decide (j1<(aM.bl.length:Int))) ((bS aM.bl j1).bind λaT=>(uE aT pk).bind λbf=>TQ bf nm (i64.wrap (j1+1))) (cE pk (i64.wrap (nm+1)))
def sM (cE:(List Bool)->Int->Option ((List Bool))) (a0:bj):Nat->(List Bool)->Int->Int->Option ((List Bool))
 |0,_,_,_=>none
 |n+1,pk,nm,j1=>DW cE (sM cE a0 n) a0 pk nm j1
def zU (lU:(List Bool)->Int->Option ((List Bool))) (qe:(List Bool)->Int->Int->Option ((List Bool))) (zV:(List Bool)->Int->Int->Int->Option ((List Bool))) (a0:bj) (uF:List Bool) (uG uH uI:Int):Option ((List Bool)):=
 zV uF uG uH (i64.wrap (uI+1))
def DX (lU:(List Bool)->Int->Option ((List Bool))) (qe:(List Bool)->Int->Int->Option ((List Bool))) (zV:(List Bool)->Int->Int->Int->Option ((List Bool))) (a0:bj) (mo:List Bool) (mq lV lW:Int):Option ((List Bool)):=
 cond (decide (lW<a0.a8)) ((bS mo lW).bind λbY=>cond bY ((bS a0.aW lV).bind λb1=>(bS b1.Next lW).bind λdB=>(uE dB mo).bind λdr=>zU lU qe zV a0 dr mq lV lW) (zU lU qe zV a0 mo mq lV lW)) (qe mo mq (i64.wrap (lV+1)))
def q_ (lU:(List Bool)->Int->Option ((List Bool))) (qe:(List Bool)->Int->Int->Option ((List Bool))) (a0:bj):Nat->(List Bool)->Int->Int->Int->Option ((List Bool))
 |0,_,_,_,_=>none
 |n+1,mo,mq,lV,lW=>DX lU qe (q_ lU qe a0 n) a0 mo mq lV lW
def DY (lU:(List Bool)->Int->Option ((List Bool))) (qe:(List Bool)->Int->Int->Option ((List Bool))) (a0:bj) (pn:List Bool) (po qf:Int):Option ((List Bool)):=
 cond (decide (qf<(a0.aW.length:Int))) (lim λn=>q_ lU qe a0 n pn po qf 0) (lU pn (i64.wrap (po+1)))
def pq (lU:(List Bool)->Int->Option ((List Bool))) (a0:bj):Nat->(List Bool)->Int->Int->Option ((List Bool))
 |0,_,_,_=>none
 |n+1,pn,po,qf=>DY lU (pq lU a0 n) a0 pn po qf
def DZ (lU:(List Bool)->Int->Option ((List Bool))) (a0:bj) (pr:List Bool) (qg:Int):Option ((List Bool)):=
 cond (decide (qg<=a0.a8)) (lim λn=>pq lU a0 n pr qg 0) (some pr)
def ld (a0:bj):Nat->(List Bool)->Int->Option ((List Bool))
 |0,_,_=>none
 |n+1,pr,qg=>DZ (ld a0 n) a0 pr qg
def D0 (cE:(List Bool)->Int->Option ((List Bool))) (a0:bj) (b9:List Bool) (cF:Int):Option ((List Bool)):=
 cond (decide (cF<(a0.aW.length:Int))) ((bS a0.aW cF).bind λaf=>(uE af.Guard b9).bind λaH=>lim λn=>sM cE a0 n aH cF 0) (lim λn=>ld a0 n b9 0)
def sN (a0:bj):Nat->(List Bool)->Int->Option ((List Bool))
 |0,_,_=>none
 |n+1,b9,cF=>D0 (sN a0 n) a0 b9 cF
def zW (a0:bj):Option ((List Bool)):=
 (lA 1 a0.a8).bind λ_=>lim λn=>sN a0 n (replicate (Int.toNat a0.a8) false) 0
def xt (cE:abH->Int->Option abH) (a0:List Bool) (ab:Bool) (j1:abH) (uJ:Int):Option abH:=
 cE j1 (i64.wrap (uJ+1))
def xu (cE:abH->Int->Option abH) (a0:List Bool) (ab:Bool) (cw:abH) (gF:Int):Option abH:=
 cond (decide (gF<(a0.length:Int))) ((bS a0 gF).bind λaf=>cond (af==ab) ((room 8 (cw.length+1)).bind λ_=>xt cE a0 ab (cw++[gF]) gF) (xt cE a0 ab cw gF)) (some cw)
def pt (a0:List Bool) (ab:Bool):Nat->abH->Int->Option abH
 |0,_,_=>none
 |n+1,cw,gF=>xu (pt a0 ab n) a0 ab cw gF
def pv (a0:List Bool) (ab:Bool):Option abH:=
 lim λn=>pt a0 ab n [] 0
def zX (a0:abH):Option abH:=
 (room 8 (a0.length)).bind λ_=>some a0
def xv (a0:abS):Option abS:=
 (room 16 (a0.length)).bind λ_=>some a0
def uK (cE:abS->Int->Option abS) (ab:List Bool) (bF:abH) (uL:abS) (uM:Int):Option abS:=
 cE uL (i64.wrap (uM+1))
def D1 (cE:abS->Int->Option abS) (ab:List Bool) (bF:abH) (jB:abS) (gf:Int):Option abS:=
 cond (decide (gf<(jB.length:Int))) ((bS jB gf).bind λaM=>cond (aM.Kind==1) (cond (decide (aM.Value<(ab.length:Int))) ((bS ab aM.Value).bind λaT=>cond aT ((bS bF aM.Value).bind λbf=>uK cE ab bF (List.set jB (Int.toNat gf) (aG.mk 0 bf)) gf) (uK cE ab bF jB gf)) (uK cE ab bF jB gf)) (uK cE ab bF jB gf)) (some jB)
def sO (ab:List Bool) (bF:abH):Nat->abS->Int->Option abS
 |0,_,_=>none
 |n+1,jB,gf=>D1 (sO ab bF n) ab bF jB gf
def sP (a0:abS) (ab:List Bool) (bF:abH):Option abS:=
 (xv a0).bind λaf=>lim λn=>sO ab bF n af 0
def uN (cE:abS->Int->Option abS) (ab:List Bool) (uO:abS) (uP:Int):Option abS:=
 cE uO (i64.wrap (uP+1))
def zY (cE:abS->Int->Option abS) (oc:abS->Int->Int->Int->Option abS) (ab:List Bool) (uQ:abS) (uR uS uT:Int):Option abS:=
 oc uQ uR uS (i64.wrap (uT+1))
def D2 (cE:abS->Int->Option abS) (oc:abS->Int->Int->Int->Option abS) (ab:List Bool) (eX:abS) (h6 kH mr:Int):Option abS:=
 cond (decide (mr<(ab.length:Int))) ((bS eX h6).bind λaM=>cond (decide (mr<aM.Value)) ((bS ab mr).bind λaT=>cond aT (zY cE oc ab eX h6 (i64.wrap (kH+1)) mr) (zY cE oc ab eX h6 kH mr)) (uN cE ab (List.set eX (Int.toNat h6) (aG.mk aM.Kind (i64.wrap (aM.Value-kH)))) h6)) ((bS eX h6).bind λbf=>uN cE ab (List.set eX (Int.toNat h6) (aG.mk bf.Kind (i64.wrap (bf.Value-kH)))) h6)
def sQ (cE:abS->Int->Option abS) (ab:List Bool):Nat->abS->Int->Int->Int->Option abS
 |0,_,_,_,_=>none
 |n+1,eX,h6,kH,mr=>D2 cE (sQ cE ab n) ab eX h6 kH mr
def D3 (cE:abS->Int->Option abS) (ab:List Bool) (cw:abS) (gF:Int):Option abS:=
 cond (decide (gF<(cw.length:Int))) ((bS cw gF).bind λaH=>cond (aH.Kind !=1) (uN cE ab cw gF) (lim λn=>sQ cE ab n cw gF 0 0)) (some cw)
def nn (ab:List Bool):Nat->abS->Int->Option abS
 |0,_,_=>none
 |n+1,cw,gF=>D3 (nn ab n) ab cw gF
def sR (a0:abS) (ab:List Bool):Option abS:=
 (xv a0).bind λaf=>lim λn=>nn ab n af 0
def D4 (od:abH->abT->Int->Option bj) (TR:abH->abT->Int->abP->abP->Int->Option bj) (a0:bj) (ab:List Bool) (af:abH) (aT:bc) (bf:abH) (b1:abS) (lX:abH) (lf:abT) (lY:Int) (lZ lg:abP) (np:Int):Option bj:=
 cond (decide (np<(af.length:Int))) ((bS af np).bind λlh=>(bS aT.Next lh).bind λoe=>(sP oe ab a0.Start).bind λe2=>(sR e2 ab).bind λgA=>(room 24 (lg.length+1)).bind λ_=>TR lX lf lY lZ (lg++[gA]) (i64.wrap (np+1))) ((room 112 (lf.length+1)).bind λ_=>od lX (lf++[(bc.mk bf b1 aT.Name lZ lg)]) (i64.wrap (lY+1)))
def uU (od:abH->abT->Int->Option bj) (a0:bj) (ab:List Bool) (af:abH) (aT:bc) (bf:abH) (b1:abS):Nat->abH->abT->Int->abP->abP->Int->Option bj
 |0,_,_,_,_,_,_=>none
 |n+1,lX,lf,lY,lZ,lg,np=>D4 od (uU od a0 ab af aT bf b1 n) a0 ab af aT bf b1 lX lf lY lZ lg np
def D5 (od:abH->abT->Int->Option bj) (TS:abH->abT->Int->abP->Int->Option bj) (a0:bj) (ab:List Bool) (af:abH) (aT:bc) (bf:abH) (b1:abS) (mu:abH) (mv:abT) (mw:Int) (lj:abP) (nr:Int):Option bj:=
 cond (decide (nr<(aT.bl.length:Int))) ((bS aT.bl nr).bind λdB=>(sP dB ab a0.Start).bind λdr=>(sR dr ab).bind λfA=>(room 24 (lj.length+1)).bind λ_=>TS mu mv mw (lj++[fA]) (i64.wrap (nr+1))) (lim λn=>uU od a0 ab af aT bf b1 n mu mv mw lj [] 0)
def uV (od:abH->abT->Int->Option bj) (a0:bj) (ab:List Bool) (af:abH) (aT:bc) (bf:abH) (b1:abS):Nat->abH->abT->Int->abP->Int->Option bj
 |0,_,_,_,_,_=>none
 |n+1,mu,mv,mw,lj,nr=>D5 od (uV od a0 ab af aT bf b1 n) a0 ab af aT bf b1 mu mv mw lj nr
def D6 (od:abH->abT->Int->Option bj) (a0:bj) (ab:List Bool) (af:abH) (ns:abH) (nt:abT) (nu:Int):Option bj:=
 cond (decide (nu<(a0.aW.length:Int))) ((bS a0.aW nu).bind λaT=>(zX aT.bs).bind λbf=>(sP aT.Guard ab a0.Start).bind λbY=>(sR bY ab).bind λb1=>lim λn=>uV od a0 ab af aT bf b1 n ns nt nu [] 0) (some (bj.mk (af.length:Int) ns nt))
def nv (a0:bj) (ab:List Bool) (af:abH):Nat->abH->abT->Int->Option bj
 |0,_,_,_=>none
 |n+1,ns,nt,nu=>D6 (nv a0 ab af n) a0 ab af ns nt nu
def D7 (kb:abH->Int->Option bj) (a0:bj) (ab:List Bool) (af:abH) (lk:abH) (nw:Int):Option bj:=
 cond (decide (nw<(af.length:Int))) ((bS af nw).bind λaH=>(bS a0.Start aH).bind λaM=>(room 8 (lk.length+1)).bind λ_=>kb (lk++[aM]) (i64.wrap (nw+1))) (lim λn=>nv a0 ab af n lk [] 0)
def uW (a0:bj) (ab:List Bool) (af:abH):Nat->abH->Int->Option bj
 |0,_,_=>none
 |n+1,lk,nw=>D7 (uW a0 ab af n) a0 ab af lk nw
def uX (a0:bj) (ab:List Bool):Option bj:=
 (pv ab false).bind λaf=>lim λn=>uW a0 ab af n [] 0
def D8 (n_:(List Bool)->Int->Option (bj×abH×Int)) (a0:bj) (fz:List Bool) (kI:Int):Option (bj×abH×Int):=
 cond (decide (kI<(fz.length:Int))) ((bS fz kI).bind λaM=>n_ (List.set fz (Int.toNat kI) (!aM)) (i64.wrap (kI+1))) ((uX a0 fz).bind λaT=>(pv fz false).bind λbf=>some (aT,bf,0))
def sS (a0:bj):Nat->(List Bool)->Int->Option (bj×abH×Int)
 |0,_,_=>none
 |n+1,fz,kI=>D8 (sS a0 n) a0 fz kI
def zZ (a0:bj):Option (bj×abH×Int):=
 (zS a0).bind λaf=>cond (!af) (some ((bj.mk 0 [] []),[],1)) ((zW a0).bind λaH=>lim λn=>sS a0 n aH 0)
def mx (a0 ab bF:Int):abJ:=
 some ((decide (ab<=a0))&&(decide (a0<=bF)))
def z1 (a0:Int):abJ:=
 (mx a0 0 63).bind λaf=>some af
def D9 (a0:Int):abJ:=
 (z1 a0).bind λaf=>some (!af)
def K6 (dH:Int->abK) (a0:abH) (eh:Int):abK:=
 cond (decide (eh<(a0.length:Int))) ((bS a0 eh).bind λaf=>(D9 af).bind λaH=>cond aH (some eh) (dH (i64.wrap (eh+1)))) (some (-1))
def z2 (a0:abH):Nat->Int->abK
 |0,_=>none
 |n+1,eh=>K6 (z2 a0 n) a0 eh
def D_ (a0:abH):abK:=
 lim λn=>z2 a0 n 0
def Ea (a0:abH):abJ:=
 (D_ a0).bind λaf=>some (decide (0<=af))
def Eb (a0:abH):abJ:=
 (Ea a0).bind λaf=>some (!af)
def z6 (a0:bj) (ab:abH):abJ:=
 cond ((ab.length:Int)==a0.a8) ((Eb ab).bind λaf=>some af) (some false)
def Ec (cE:Int->Int->abJ) (a0:bc) (b9 pw:Int):abJ:=
 cond (decide (pw<(a0.bs.length:Int))) ((bS a0.bs pw).bind λaf=>(mx af 1 7).bind λaH=>cond (!aH) (some false) (cE (i64.wrap (b9*(i64.wrap (af+1)))) (i64.wrap (pw+1)))) (some ((decide ((a0.bs.length:Int)<=8))&&(decide (b9<=4096))))
def uY (a0:bc):Nat->Int->Int->abJ
 |0,_,_=>none
 |n+1,b9,pw=>Ec (uY a0 n) a0 b9 pw
def z7 (a0:bc):abJ:=
 lim λn=>uY a0 n 1 0
def Ed (a0:UInt8):abJ:=
 some ((decide (48<=(a0.toNat:Int)))&&(decide ((a0.toNat:Int)<=57)))
def z8 (dH:Int->abJ) (a0:nq) (ll:Int):abJ:=
 cond (decide (ll<(a0.length:Int))) ((bS a0 ll).bind λaf=>cond (!((decide (97<=(af.toNat:Int)))&&(decide ((af.toNat:Int)<=122)))) (cond (ll==0) (some false) ((Ed af).bind λaH=>cond (!aH) (some false) (dH (i64.wrap (ll+1))))) (dH (i64.wrap (ll+1)))) (some ((decide (1<=(a0.length:Int)))&&(decide ((a0.length:Int)<=10))))
def ra (a0:nq):Nat->Int->abJ
 |0,_=>none
 |n+1,ll=>z8 (ra a0 n) a0 ll
def z_ (a0:nq):abJ:=
 lim λn=>ra a0 n 0
def xw (a0:nq):abJ:=
 (z_ a0).bind λaf=>some (af&&(!(a0==([116,97,117]:nq))))
def Aa:Option Unit:=
 some ()
def Ee (ab:Int):Option Unit:=
 cond (decide (0<(i64.wrap (ab-(i64.wrap 0))))) ((lA 24 (i64.wrap (ab-(i64.wrap 0)))).bind λ_=>Aa) (Aa)
def Ab (ab:Int):Option Unit:=
 cond (decide (ab<0)) (none) (Ee ab)
def Ef (cE:Int->Int->Option abP) (a0:List abP) (uZ my:Int) (Ac:Bool):Option abP:=
 cE uZ (i64.wrap (my+1))
def Eg (Eh:abP->Int->Option abP) (a0:List abP) (mz:abP) (nx:Int):Option abP:=
 cond (decide (nx<(a0.length:Int))) ((bS a0 nx).bind λaM=>(room 24 (mz.length+aM.length)).bind λ_=>Eh (mz++aM) (i64.wrap (nx+1))) (some mz)
def sT (a0:List abP):Nat->abP->Int->Option abP
 |0,_,_=>none
 |n+1,mz,nx=>Eg (sT a0 n) a0 mz nx
def Ei (cE:Int->Int->Option abP) (a0:List abP) (b9 eB:Int):Option abP:=
 cond (decide (eB<(a0.length:Int))) ((bS a0 eB).bind λaf=>cond (decide ((i64.wrap (b9+(af.length:Int)))<0)) (none) (Ef cE a0 (i64.wrap (b9+(af.length:Int))) eB (decide ((i64.wrap (b9+(af.length:Int)))<0)))) ((Ab b9).bind λaH=>lim λn=>sT a0 n [] 0)
def sU (a0:List abP):Nat->Int->Int->Option abP
 |0,_,_=>none
 |n+1,b9,eB=>Ei (sU a0 n) a0 b9 eB
def xx (a0:List abP):Option abP:=
 lim λn=>sU a0 n 0 0
def u0 (a0:bc):Option abP:=
 (xx [[a0.Guard],a0.bl,a0.Next]).bind λaf=>some af
def Ad (a0:aG) (ab:Int):abJ:=
 cond (a0.Kind==0) ((z1 a0.Value).bind λaf=>some af) (cond (a0.Kind==1) ((mx a0.Value 0 (i64.wrap (ab-1))).bind λaH=>some aH) (cond (a0.Kind==2) ((mx a0.Value 0 8).bind λaM=>some aM) (cond (a0.Kind==3) (some (a0.Value==0)) (some false))))
def Ej (a0:aG):abK:=
 cond (a0.Kind==2) (some 2) (cond (a0.Kind==3) (some 1) (some 0))
def Ek (n_:Int->Int->abJ) (a0:abS) (ab il px:Int):abJ:=
 cond (decide (px<(a0.length:Int))) ((bS a0 px).bind λaT=>cond (il==0) (some false) ((Ad aT ab).bind λbf=>cond (!bf) (some false) ((Ej aT).bind λbY=>n_ (i64.wrap (il+(i64.wrap (bY-1)))) (i64.wrap (px+1))))) (some (il==0))
def u1 (a0:abS) (ab:Int):Nat->Int->Int->abJ
 |0,_,_=>none
 |n+1,il,px=>Ek (u1 a0 ab n) a0 ab il px
def Ae (a0:abS) (ab bF:Int):abJ:=
 (mx ab 0 29).bind λaf=>cond (!af) (some false) ((mx bF 1 60).bind λaH=>cond (!aH) (some false) ((mx (a0.length:Int) 1 bF).bind λaM=>cond (!aM) (some false) (lim λn=>u1 a0 ab n 1 0)))
def Af (a0:abS) (ab:Int) (bF:bc):abJ:=
 (Ae a0 (i64.wrap (ab+(bF.bs.length:Int))) 60).bind λaf=>some (!af)
def K7 (dH:Int->abK) (a0:abP) (cj:Int) (ct:bc) (eh:Int):abK:=
 cond (decide (eh<(a0.length:Int))) ((bS a0 eh).bind λaf=>(Af af cj ct).bind λaH=>cond aH (some eh) (dH (i64.wrap (eh+1)))) (some (-1))
def Ag (a0:abP) (cj:Int) (ct:bc):Nat->Int->abK
 |0,_=>none
 |n+1,eh=>K7 (Ag a0 cj ct n) a0 cj ct eh
def El (a0:abP) (cj:Int) (ct:bc):abK:=
 lim λn=>Ag a0 cj ct n 0
def sV (a0:abP) (cj:Int) (ct:bc):abJ:=
 (El a0 cj ct).bind λaf=>some (decide (0<=af))
def Ah (a0:bc) (ab:Int):abJ:=
 (z7 a0).bind λaf=>cond ((!af)||((a0.Next.length:Int) !=ab)) (some false) (cond (decide (0<(a0.bl.length:Int))) (cond (a0.Name==([116,97,117]:nq)) (some false) (cond (decide (2<(a0.bl.length:Int))) (some false) ((xw a0.Name).bind λaH=>cond (!aH) (some false) ((u0 a0).bind λaM=>(sV aM ab a0).bind λaT=>some (!aT))))) (cond (!(a0.Name==([116,97,117]:nq))) ((xw a0.Name).bind λbf=>cond (!bf) (some false) ((u0 a0).bind λbY=>(sV bY ab a0).bind λb1=>some (!b1))) ((u0 a0).bind λdB=>(sV dB ab a0).bind λdr=>some (!dr))))
def Ai (a0:bc) (ab:bj):abJ:=
 (Ah a0 ab.a8).bind λaf=>some (!af)
def K8 (dH:Int->abK) (a0:abT) (ab:bj) (eh:Int):abK:=
 cond (decide (eh<(a0.length:Int))) ((bS a0 eh).bind λaf=>(Ai af ab).bind λaH=>cond aH (some eh) (dH (i64.wrap (eh+1)))) (some (-1))
def Aj (a0:abT) (ab:bj):Nat->Int->abK
 |0,_=>none
 |n+1,eh=>K8 (Aj a0 ab n) a0 ab eh
def Em (a0:abT) (ab:bj):abK:=
 lim λn=>Aj a0 ab n 0
def En (a0:abT) (ab:bj):abJ:=
 (Em a0 ab).bind λaf=>some (decide (0<=af))
def Ak (a0:bj):abJ:=
 (mx a0.a8 0 21).bind λaf=>cond (!af) (some false) ((z6 a0 a0.Start).bind λaH=>cond ((!aH)||(decide (60<(a0.aW.length:Int)))) (some false) ((En a0.aW a0).bind λaM=>some (!aM)))
def rb (a0:abH):Option abH:=if a0.length<4611686018427387904 then some (a0.mergeSort λx y=>decide (x<=y))else none
def Al (a0:abH):Option abH:=some (j5 none a0)
def Am (cE:abH->Int->Option abH) (a0:abS) (ki:abH) (u2:Int):Option abH:=
 cE ki (i64.wrap (u2+1))
def Eo (cE:abH->Int->Option abH) (a0:abS) (b9:abH) (gf:Int):Option abH:=
 cond (decide (gf<(a0.length:Int))) ((bS a0 gf).bind λaf=>cond (af.Kind==1) ((room 8 (b9.length+1)).bind λ_=>Am cE a0 (b9++[af.Value]) gf) (Am cE a0 b9 gf)) ((rb b9).bind λaH=>(Al aH).bind λaM=>some aM)
def sW (a0:abS):Nat->abH->Int->Option abH
 |0,_,_=>none
 |n+1,b9,gf=>Eo (sW a0 n) a0 b9 gf
def An (a0:abS):Option abH:=
 lim λn=>sW a0 n [] 0
def xy (dH:Int->abK) (a0:abH) (ab eh:Int):abK:=
 cond (decide (eh<(a0.length:Int))) ((bS a0 eh).bind λaf=>cond (ab==af) (some eh) (dH (i64.wrap (eh+1)))) (some (-1))
def sX (a0:abH) (ab:Int):Nat->Int->abK
 |0,_=>none
 |n+1,eh=>xy (sX a0 ab n) a0 ab eh
def u3 (a0:abH) (ab:Int):abK:=
 lim λn=>sX a0 ab n 0
def Ao (a0:abH) (ab:Int):abJ:=
 (u3 a0 ab).bind λaf=>some (decide (0<=af))
def xz (cE:abH->Bool->Int->Option (Bool×abH)) (ab:bj) (af:abH) (u4:abH) (u5:Bool) (my:Int):Option (Bool×abH):=
 cE u4 u5 (i64.wrap (my+1))
def Ep (cE:abH->Bool->Int->Option (Bool×abH)) (ab:bj) (af:abH) (jC:abH) (cw:Bool) (eB:Int):Option (Bool×abH):=
 cond (decide (eB<(af.length:Int))) ((bS af eB).bind λaH=>cond (decide (aH<ab.a8)) ((Ao jC aH).bind λaM=>cond (!aM) ((room 8 (jC.length+1)).bind λ_=>xz cE ab af (jC++[aH]) true eB) (xz cE ab af jC cw eB)) (xz cE ab af jC cw eB)) (some (cw,jC))
def sY (ab:bj) (af:abH):Nat->abH->Bool->Int->Option (Bool×abH)
 |0,_,_,_=>none
 |n+1,jC,cw,eB=>Ep (sY ab af n) ab af jC cw eB
def u6 (a0:abS) (ab:bj) (bF:abH):Option (Bool×abH):=
 (An a0).bind λaf=>lim λn=>sY ab af n bF false 0
def Er (kb:abH->Int->Option abH) (TT:abH->Int->abP->Int->Int->Option abH) (a0:bj) (ki:abH) (og:Int) (py:abP) (pz oh:Int):Option abH:=
 cond (decide (oh<pz)) ((bS py oh).bind λaM=>(u6 aM a0 ki).bind λaT=>TT aT.2 og py pz (i64.wrap (oh+1))) (kb ki (i64.wrap (og+1)))
def sZ (kb:abH->Int->Option abH) (a0:bj):Nat->abH->Int->abP->Int->Int->Option abH
 |0,_,_,_,_,_=>none
 |n+1,ki,og,py,pz,oh=>Er kb (sZ kb a0 n) a0 ki og py pz oh
def Es (u7:abH->Int->Option abH) (TU:abH->Int->Int->Option abH) (a0:bj) (oi:abH) (ny oj:Int):Option abH:=
 cond (decide (oj<(a0.aW.length:Int))) ((bS a0.aW oj).bind λbf=>(bS oi ny).bind λbY=>(bS bf.Next bY).bind λb1=>(u6 b1 a0 oi).bind λdB=>TU dB.2 ny (i64.wrap (oj+1))) (u7 oi (i64.wrap (ny+1)))
def s0 (u7:abH->Int->Option abH) (a0:bj):Nat->abH->Int->Int->Option abH
 |0,_,_,_=>none
 |n+1,oi,ny,oj=>Es u7 (s0 u7 a0 n) a0 oi ny oj
def Et (u7:abH->Int->Option abH) (a0:bj) (om:abH) (qh:Int):Option abH:=
 cond (decide (qh<(om.length:Int))) (lim λn=>s0 u7 a0 n om qh 0) ((rb om).bind λdr=>some dr)
def pA (a0:bj):Nat->abH->Int->Option abH
 |0,_,_=>none
 |n+1,om,qh=>Et (pA a0 n) a0 om qh
def Eu (kb:abH->Int->Option abH) (a0:bj) (oo:abH) (oq:Int):Option abH:=
 cond (decide (oq<(a0.aW.length:Int))) ((bS a0.aW oq).bind λaf=>(xx [[af.Guard],af.bl]).bind λaH=>lim λn=>sZ kb a0 n oo oq aH (aH.length:Int) 0) (lim λn=>pA a0 n oo 0)
def s3 (a0:bj):Nat->abH->Int->Option abH
 |0,_,_=>none
 |n+1,oo,oq=>Eu (s3 a0 n) a0 oo oq
def xA (a0:bj):Option abH:=
 lim λn=>s3 a0 n [] 0
def xB (a0:abH):Option abH:=
 cond a0.isEmpty (both (some []) ((room 8 (a0.length)).bind λ_=>some a0)) ((room 8 (a0.length)).bind λ_=>some a0)
def xC (a0:Int):Option abS:=
 some [(aG.mk 1 a0)]
def Ev (a0:Int) (ab:bj) (bF:abH):Option ((Option abS)):=
 cond (decide (ab.a8<=a0)) ((xC (i64.wrap ((i64.wrap (a0-ab.a8))+(bF.length:Int)))).bind λaf=>some (some af)) ((u3 bF a0).bind λaH=>cond (decide (0<=aH)) ((xC aH).bind λaM=>some (some aM)) (some none))
def qi (cE:abS->Int->Option abS) (a0:abS) (cj:bj) (ct:abH) (im iq:abS) (iK:Int):Option abS:=
 (room 16 (im.length+iq.length)).bind λ_=>cE (im++iq) (i64.wrap (iK+1))
def Ew (cE:abS->Int->Option abS) (a0:abS) (cj:bj) (ct:abH) (cw:abS) (eB:Int):Option abS:=
 cond (decide (eB<(a0.length:Int))) ((bS a0 eB).bind λaf=>cond (af.Kind==1) ((Ev af.Value cj ct).bind λaH=>Option.elim aH (qi cE a0 cj ct cw [af] eB) (λaM=>cond aM.isEmpty (both (qi cE a0 cj ct cw [af] eB) (qi cE a0 cj ct cw aM eB)) (qi cE a0 cj ct cw aM eB))) (qi cE a0 cj ct cw [af] eB)) (some cw)
def qj (a0:abS) (cj:bj) (ct:abH):Nat->abS->Int->Option abS
 |0,_,_=>none
 |n+1,cw,eB=>Ew (qj a0 cj ct n) a0 cj ct cw eB
def Ex (a0:abS) (cj:bj) (ct:abH):Option abS:=
 lim λn=>qj a0 cj ct n [] 0
def xD (a0:bc) (ab:abS) (bF:bj) (a3:abH):Option abS:=
 (Ex ab bF a3).bind λaf=>some af
def Ey (cE:abP->Int->Option abP) (a0:abP) (bF:bc) (cj:bj) (ct:abH) (cw:abP) (nz:Int):Option abP:=
 cond (decide (nz<(a0.length:Int))) ((bS a0 nz).bind λaf=>(xD bF af cj ct).bind λaH=>(room 24 (cw.length+1)).bind λ_=>cE (cw++[aH]) (i64.wrap (nz+1))) (some cw)
def u9 (a0:abP) (bF:bc) (cj:bj) (ct:abH):Nat->abP->Int->Option abP
 |0,_,_=>none
 |n+1,cw,nz=>Ey (u9 a0 bF cj ct n) a0 bF cj ct cw nz
def xE (a0:abP) (cj:bj) (ct:abH) (bF:bc):Option abP:=
 lim λn=>u9 a0 bF cj ct n [] 0
def Ez (cE:abT->Int->Option bj) (a0 cj:bj) (ct:abH) (af:abH) (cw:abT) (nA:Int):Option bj:=
 cond (decide (nA<(a0.aW.length:Int))) ((bS a0.aW nA).bind λaH=>(xB aH.bs).bind λaM=>(xD aH aH.Guard cj ct).bind λaT=>(xE aH.bl cj ct aH).bind λbf=>(xE aH.Next cj ct aH).bind λbY=>(room 112 (cw.length+1)).bind λ_=>cE (cw++[(bc.mk aM aT aH.Name bf bY)]) (i64.wrap (nA+1))) (some (bj.mk a0.a8 af cw))
def u_ (a0 cj:bj) (ct:abH) (af:abH):Nat->abT->Int->Option bj
 |0,_,_=>none
 |n+1,cw,nA=>Ez (u_ a0 cj ct af n) a0 cj ct af cw nA
def Ap (a0 cj:bj) (ct:abH):Option bj:=
 (xB a0.Start).bind λaf=>lim λn=>u_ a0 cj ct af n [] 0
def EA (oc:abH->abT->Int->Option bj) (TV:(List (Bool×abS))->abP->Int->Option bj) (ab eX:abH) (er:Int) (g2:abT) (af:bj) (aT:bc) (mA:List (Bool×abS)) (kj:abP) (ln:Int):Option bj:=
 cond (decide (ln<(ab.length:Int))) ((bS ab ln).bind λbf=>(bS mA bf).bind λbY=>(Be (!bY.1)).bind λ_=>(room 24 (kj.length+1)).bind λ_=>TV (List.set mA (Int.toNat bf) (true,bY.2)) (kj++[bY.2]) (i64.wrap (ln+1))) ((bS g2 er).bind λb1=>oc eX (List.set g2 (Int.toNat er) (bc.mk aT.bs aT.Guard aT.Name aT.bl kj)) (i64.wrap (er+1)))
def va (oc:abH->abT->Int->Option bj) (ab eX:abH) (er:Int) (g2:abT) (af:bj) (aT:bc):Nat->(List (Bool×abS))->abP->Int->Option bj
 |0,_,_,_=>none
 |n+1,mA,kj,ln=>EA oc (va oc ab eX er g2 af aT n) ab eX er g2 af aT mA kj ln
def EB (oc:abH->abT->Int->Option bj) (ab:abH) (af:bj) (eX:abH) (g2:abT) (er:Int):Option bj:=
 cond (decide (er<(af.aW.length:Int))) ((bS g2 er).bind λaT=>lim λn=>va oc ab eX er g2 af aT n (map (λx=>(false,x)) aT.Next) [] 0) (some (bj.mk (ab.length:Int) eX g2))
def qk (ab:abH) (af:bj):Nat->abH->abT->Int->Option bj
 |0,_,_,_=>none
 |n+1,eX,g2,er=>EB (qk ab af n) ab af eX g2 er
def EC (TW:abH->Int->Option bj) (a0:bj) (ab:abH) (af:bj) (mB:abH) (nB:Int):Option bj:=
 cond (decide (nB<(ab.length:Int))) ((bS ab nB).bind λaH=>(bS a0.Start aH).bind λaM=>(room 8 (mB.length+1)).bind λ_=>TW (mB++[aM]) (i64.wrap (nB+1))) (lim λn=>qk ab af n mB af.aW 0)
def vb (a0:bj) (ab:abH) (af:bj):Nat->abH->Int->Option bj
 |0,_,_=>none
 |n+1,mB,nB=>EC (vb a0 ab af n) a0 ab af mB nB
def Aq (a0:bj) (ab:abH):Option bj:=
 (Ap a0 a0 ab).bind λaf=>lim λn=>vb a0 ab af n [] 0
def xF (a0:bj):Option (bj×abH×Int):=
 (Ak a0).bind λaf=>cond (!af) (some ((bj.mk 0 [] []),[],1)) ((xA a0).bind λaH=>(Aq a0 aH).bind λaM=>some (aM,aH,0))
def TX (lS:Int->abJ) (a0 ab:abH) (eR:Int):abJ:=
 cond (decide (eR<(a0.length:Int))) ((bS a0 eR).bind λaf=>(bS ab eR).bind λaH=>cond (af !=aH) (some false) (lS (i64.wrap (eR+1)))) (some true)
def ED (a0 ab:abH):Nat->Int->abJ
 |0,_=>none
 |n+1,eR=>TX (ED a0 ab n) a0 ab eR
def re (a0 ab:abH):abJ:=
 cond ((a0.length:Int) !=(ab.length:Int)) (some false) (lim λn=>ED a0 ab n 0)
def xG (a0 ab:aG):abJ:=
 cond (a0.Kind !=ab.Kind) (some false) (cond (a0.Value !=ab.Value) (some false) (some true))
def TY (lS:Int->abJ) (a0 ab:abS) (eR:Int):abJ:=
 cond (decide (eR<(a0.length:Int))) ((bS a0 eR).bind λaf=>(bS ab eR).bind λaH=>(xG af aH).bind λaM=>cond (!aM) (some false) (lS (i64.wrap (eR+1)))) (some true)
def EE (a0 ab:abS):Nat->Int->abJ
 |0,_=>none
 |n+1,eR=>TY (EE a0 ab n) a0 ab eR
def vc (a0 ab:abS):abJ:=
 cond ((a0.length:Int) !=(ab.length:Int)) (some false) (lim λn=>EE a0 ab n 0)
def TZ (lS:Int->abJ) (a0 ab:abP) (eR:Int):abJ:=
 cond (decide (eR<(a0.length:Int))) ((bS a0 eR).bind λaf=>(bS ab eR).bind λaH=>(vc af aH).bind λaM=>cond (!aM) (some false) (lS (i64.wrap (eR+1)))) (some true)
def EF (a0 ab:abP):Nat->Int->abJ
 |0,_=>none
 |n+1,eR=>TZ (EF a0 ab n) a0 ab eR
def xH (a0 ab:abP):abJ:=
 cond ((a0.length:Int) !=(ab.length:Int)) (some false) (lim λn=>EF a0 ab n 0)
def xI (a0 ab:bc):abJ:=
 (re a0.bs ab.bs).bind λaf=>cond (!af) (some false) ((vc a0.Guard ab.Guard).bind λaH=>cond (!aH) (some false) (cond (!(a0.Name==ab.Name)) (some false) ((xH a0.bl ab.bl).bind λaM=>cond (!aM) (some false) ((xH a0.Next ab.Next).bind λaT=>cond (!aT) (some false) (some true)))))
def T0 (lS:Int->abJ) (a0 ab:abT) (eR:Int):abJ:=
 cond (decide (eR<(a0.length:Int))) ((bS a0 eR).bind λaf=>(bS ab eR).bind λaH=>(xI af aH).bind λaM=>cond (!aM) (some false) (lS (i64.wrap (eR+1)))) (some true)
def EG (a0 ab:abT):Nat->Int->abJ
 |0,_=>none
 |n+1,eR=>T0 (EG a0 ab n) a0 ab eR
def Ar (a0 ab:abT):abJ:=
 cond ((a0.length:Int) !=(ab.length:Int)) (some false) (lim λn=>EG a0 ab n 0)
def s4 (a0 ab:bj):abJ:=
 cond (a0.a8 !=ab.a8) (some false) ((re a0.Start ab.Start).bind λaf=>cond (!af) (some false) ((Ar a0.aW ab.aW).bind λaH=>cond (!aH) (some false) (some true)))
def EH (dH:abH->Int->Int->Option (Int×abH)) (c7:abH) (bZ bd:Int):Option (Int×abH):=
 cond (decide (bd<(c7.length:Int))) ((bS c7 bd).bind λaf=>dH (List.set c7 (Int.toNat bd) bZ) (i64.wrap (bZ+1)) (i64.wrap (bd+1))) (some (bZ,c7))
def vd:Nat->abH->Int->Int->Option (Int×abH)
 |0,_,_,_=>none
 |n+1,c7,bZ,bd=>EH (vd n) c7 bZ bd
def ve (a0:abH) (ab:Int):Option (Int×abH):=
 lim λn=>vd n a0 ab 0
def EI (dH:abS->Int->Int->Option (Int×abS)) (c7:abS) (bZ bd:Int):Option (Int×abS):=
 cond (decide (bd<(c7.length:Int))) ((bS c7 bd).bind λaf=>(bS (List.set c7 (Int.toNat bd) (aG.mk bZ af.Value)) bd).bind λaH=>dH (List.set (List.set c7 (Int.toNat bd) (aG.mk bZ af.Value)) (Int.toNat bd) (aG.mk aH.Kind (i64.wrap (bZ+1)))) (i64.wrap ((i64.wrap (bZ+1))+1)) (i64.wrap (bd+1))) (some (bZ,c7))
def vf:Nat->abS->Int->Int->Option (Int×abS)
 |0,_,_,_=>none
 |n+1,c7,bZ,bd=>EI (vf n) c7 bZ bd
def xJ (a0:abS) (ab:Int):Option (Int×abS):=
 lim λn=>vf n a0 ab 0
def As (lS:Int->nq->Option nq) (kk:Int) (fp:nq):Option nq:=
 cond (decide (0<kk)) ((oK (1+fp.length)).bind λ_=>lS (i64.wrap (Int.tdiv kk 10)) ([(pO (i64.wrap (48+(Int.tmod kk 10))))]++fp)) ((oK (1+fp.length)).bind λ_=>some (([109]:nq)++fp))
def s5:Nat->Int->nq->Option nq
 |0,_,_=>none
 |n+1,kk,fp=>As (s5 n) kk fp
def xK (a0:Int):Option nq:=
 cond (decide (a0<=0)) (some ([109,48]:nq)) (lim λn=>s5 n a0 ([]:nq))
def EJ (dH:abP->Int->Int->Option (Int×abP)) (c7:abP) (bZ bd:Int):Option (Int×abP):=
 cond (decide (bd<(c7.length:Int))) ((bS c7 bd).bind λaf=>(xJ af bZ).bind λaH=>dH (List.set c7 (Int.toNat bd) aH.2) aH.1 (i64.wrap (bd+1))) (some (bZ,c7))
def vg:Nat->abP->Int->Int->Option (Int×abP)
 |0,_,_,_=>none
 |n+1,c7,bZ,bd=>EJ (vg n) c7 bZ bd
def xL (a0:abP) (ab:Int):Option (Int×abP):=
 lim λn=>vg n a0 ab 0
def EK (dH:abT->Int->Int->Option (Int×abT)) (c7:abT) (bZ bd:Int):Option (Int×abT):=
 cond (decide (bd<(c7.length:Int))) ((bS c7 bd).bind λaf=>(ve af.bs bZ).bind λaH=>(bS (List.set c7 (Int.toNat bd) (bc.mk aH.2 af.Guard af.Name af.bl af.Next)) bd).bind λaM=>(xJ aM.Guard aH.1).bind λaT=>(xK aT.1).bind λbf=>(bS (List.set (List.set c7 (Int.toNat bd) (bc.mk aH.2 af.Guard af.Name af.bl af.Next)) (Int.toNat bd) (bc.mk aM.bs aT.2 aM.Name aM.bl aM.Next)) bd).bind λbY=>(bS (List.set (List.set (List.set c7 (Int.toNat bd) (bc.mk aH.2 af.Guard af.Name af.bl af.Next)) (Int.toNat bd) (bc.mk aM.bs aT.2 aM.Name aM.bl aM.Next)) (Int.toNat bd) (bc.mk bY.bs bY.Guard bf bY.bl bY.Next)) bd).bind λb1=>(xL b1.bl (i64.wrap (aT.1+1))).bind λdB=>(bS (List.set (List.set (List.set (List.set c7 (Int.toNat bd) (bc.mk aH.2 af.Guard af.Name af.bl af.Next)) (Int.toNat bd) (bc.mk aM.bs aT.2 aM.Name aM.bl aM.Next)) (Int.toNat bd) (bc.mk bY.bs bY.Guard bf bY.bl bY.Next)) (Int.toNat bd) (bc.mk b1.bs b1.Guard b1.Name dB.2 b1.Next)) bd).bind λdr=>(xL dr.Next dB.1).bind λfA=>dH (List.set (List.set (List.set (List.set (List.set c7 (Int.toNat bd) (bc.mk aH.2 af.Guard af.Name af.bl af.Next)) (Int.toNat bd) (bc.mk aM.bs aT.2 aM.Name aM.bl aM.Next)) (Int.toNat bd) (bc.mk bY.bs bY.Guard bf bY.bl bY.Next)) (Int.toNat bd) (bc.mk b1.bs b1.Guard b1.Name dB.2 b1.Next)) (Int.toNat bd) (bc.mk dr.bs dr.Guard dr.Name dr.bl fA.2)) fA.1 (i64.wrap (bd+1))) (some (bZ,c7))
def vh:Nat->abT->Int->Int->Option (Int×abT)
 |0,_,_,_=>none
 |n+1,c7,bZ,bd=>EK (vh n) c7 bZ bd
def Au (a0:abT) (ab:Int):Option (Int×abT):=
 lim λn=>vh n a0 ab 0
def xM (s6:Int) (vi:abH) (s7:abT) (ab:Int):Option (Int×Int×abH×abT):=
 (ve vi ab).bind λaf=>(Au s7 af.1).bind λaH=>some (aH.1,s6,af.2,aH.2)
def EL (dH:Int->Int->abK) (a0:abH) (bZ bd:Int):abK:=
 cond (decide (bd<(a0.length:Int))) ((bS a0 bd).bind λaf=>cond (af !=bZ) (some (-1)) (dH (i64.wrap (bZ+1)) (i64.wrap (bd+1)))) (some bZ)
def vj (a0:abH):Nat->Int->Int->abK
 |0,_,_=>none
 |n+1,bZ,bd=>EL (vj a0 n) a0 bZ bd
def s8 (a0:abH) (ab:Int):abK:=
 lim λn=>vj a0 n ab 0
def EM (dH:Int->Int->abK) (a0:abS) (bZ bd:Int):abK:=
 cond (decide (bd<(a0.length:Int))) ((bS a0 bd).bind λaf=>cond (af.Kind !=bZ) (some (-1)) (cond (af.Value !=(i64.wrap (bZ+1))) (some (-1)) (dH (i64.wrap ((i64.wrap (bZ+1))+1)) (i64.wrap (bd+1))))) (some bZ)
def vk (a0:abS):Nat->Int->Int->abK
 |0,_,_=>none
 |n+1,bZ,bd=>EM (vk a0 n) a0 bZ bd
def xN (a0:abS) (ab:Int):abK:=
 lim λn=>vk a0 n ab 0
def EN (dH:Int->Int->abK) (a0:abP) (bZ bd:Int):abK:=
 cond (decide (bd<(a0.length:Int))) ((bS a0 bd).bind λaf=>(xN af bZ).bind λaH=>cond (decide (aH<0)) (some (-1)) (dH aH (i64.wrap (bd+1)))) (some bZ)
def vl (a0:abP):Nat->Int->Int->abK
 |0,_,_=>none
 |n+1,bZ,bd=>EN (vl a0 n) a0 bZ bd
def xO (a0:abP) (ab:Int):abK:=
 lim λn=>vl a0 n ab 0
def EO (dH:Int->Int->abK) (a0:abT) (bZ bd:Int):abK:=
 cond (decide (bd<(a0.length:Int))) ((bS a0 bd).bind λaf=>(s8 af.bs bZ).bind λaH=>cond (decide (aH<0)) (some (-1)) ((xN af.Guard aH).bind λaM=>cond (decide (aM<0)) (some (-1)) ((xK aM).bind λaT=>cond (!(af.Name==aT)) (some (-1)) ((xO af.bl (i64.wrap (aM+1))).bind λbf=>cond (decide (bf<0)) (some (-1)) ((xO af.Next bf).bind λbY=>cond (decide (bY<0)) (some (-1)) (dH bY (i64.wrap (bd+1)))))))) (some bZ)
def vm (a0:abT):Nat->Int->Int->abK
 |0,_,_=>none
 |n+1,bZ,bd=>EO (vm a0 n) a0 bZ bd
def Av (a0:abT) (ab:Int):abK:=
 lim λn=>vm a0 n ab 0
def xP (a0:bj) (ab:Int):abK:=
 (s8 a0.Start ab).bind λaf=>cond (decide (af<0)) (some (-1)) ((Av a0.aW af).bind λaH=>cond (decide (aH<0)) (some (-1)) (some aH))
def EP (a0:lb):abJ:=
 (zJ a0 1048576).bind λaf=>cond (decide (af<0)) (some true) ((sJ a0).bind λaH=>(zZ aH).bind λaM=>(sJ a0).bind λaT=>(xF aT).bind λbf=>(s4 bf.1 aM.1).bind λbY=>cond (!bY) (some false) ((re bf.2.1 aM.2.1).bind λb1=>cond ((!b1)||(bf.2.2 !=aM.2.2)) (some false) ((sJ a0).bind λdB=>(s4 aT dB).bind λdr=>cond (!dr) (some false) ((xM aT.a8 aT.Start aT.aW 1).bind λfA=>cond (decide (fA.1<0)) (some false) ((s4 bf.1 aM.1).bind λlh=>cond (!lh) (some false) ((re bf.2.1 aM.2.1).bind λoe=>cond ((!oe)||(bf.2.2 !=aM.2.2)) (some false) ((xM bf.1.a8 bf.1.Start bf.1.aW 1).bind λe2=>(ve bf.2.1 e2.1).bind λgA=>(xP (bj.mk e2.2.1 e2.2.2.1 e2.2.2.2) 1).bind λql=>cond (decide (ql<0)) (some false) ((s8 gA.2 ql).bind λs9=>cond (decide (s9<0)) (some false) (cond (s9 !=gA.1) (some false) ((sJ a0).bind λxQ=>(xF xQ).bind λkl=>(s4 kl.1 aM.1).bind λvn=>cond (!vn) (some false) ((re kl.2.1 aM.2.1).bind λvo=>cond ((!vo)||(kl.2.2 !=aM.2.2)) (some false) ((xP (bj.mk e2.2.1 e2.2.2.1 e2.2.2.2) 1).bind λxR=>cond (decide (xR<0)) (some false) ((s8 gA.2 xR).bind λqm=>cond (decide (qm<0)) (some false) (cond (qm !=gA.1) (some false) (some true)))))))))))))))
end
end Go.mn
