/- Part of a proof that a law returns true for every input. No condition. -/
import Derived.Test.YtpdplcdnpaoceaaFwA
namespace Go.nI
open List Option Go.IntKind Nat Or
open Go Go.cM
set_option linter.unusedVariables false
noncomputable section
structure fI where
 Kind:Int
 Value:Int
def pI (x:fI):Prop:=(-9223372036854775808<=x.Kind/\x.Kind<=9223372036854775807)/\(-9223372036854775808<=x.Value/\x.Value<=9223372036854775807)
structure hF where
 bw:Xs
 Guard:List fI
 Name:Xq
 bP:List (List fI)
 Next:List (List fI)
def uF (x:hF):Prop:=(x.bw.length<=9223372036854775807/\∀y∈x.bw,(-9223372036854775808<=y/\y<=9223372036854775807))/\(x.Guard.length<=9223372036854775807/\∀y∈x.Guard,pI y)/\x.Name.length<=9223372036854775807/\(x.bP.length<=9223372036854775807/\∀y∈x.bP,(y.length<=9223372036854775807/\∀z∈y,pI z))/\(x.Next.length<=9223372036854775807/\∀y∈x.Next,(y.length<=9223372036854775807/\∀z∈y,pI z))
structure kx where
 c1:Int
 Start:Xs
 cY:List hF
def w7 (x:kx):Prop:=(-9223372036854775808<=x.c1/\x.c1<=9223372036854775807)/\(x.Start.length<=9223372036854775807/\∀y∈x.Start,(-9223372036854775808<=y/\y<=9223372036854775807))/\(x.cY.length<=9223372036854775807/\∀y∈x.cY,uF y)
structure aK where
 Kind:Int
 Value:Int
def A_ (x:aK):Prop:=(-9223372036854775808<=x.Kind/\x.Kind<=9223372036854775807)/\(-9223372036854775808<=x.Value/\x.Value<=9223372036854775807)
structure bD where
 bw:Xs
 Guard:List aK
 Name:Xq
 bP:List (List aK)
 Next:List (List aK)
def PE (x:bD):Prop:=(x.bw.length<=9223372036854775807/\∀y∈x.bw,(-9223372036854775808<=y/\y<=9223372036854775807))/\(x.Guard.length<=9223372036854775807/\∀y∈x.Guard,A_ y)/\x.Name.length<=9223372036854775807/\(x.bP.length<=9223372036854775807/\∀y∈x.bP,(y.length<=9223372036854775807/\∀z∈y,A_ z))/\(x.Next.length<=9223372036854775807/\∀y∈x.Next,(y.length<=9223372036854775807/\∀z∈y,A_ z))
structure cq where
 c1:Int
 Start:Xs
 cY:List bD
abbrev XB:=List fI
abbrev XC:=List hF
abbrev XD:=List aK
abbrev XE:=List bD
abbrev Xz:=List (List fI)
abbrev XA:=List (List aK)
def Wz (x:cq):Prop:=(-9223372036854775808<=x.c1/\x.c1<=9223372036854775807)/\(x.Start.length<=9223372036854775807/\∀y∈x.Start,(-9223372036854775808<=y/\y<=9223372036854775807))/\(x.cY.length<=9223372036854775807/\∀y∈x.cY,PE y)
inductive bq where
 |mk (term:aK) (args:List bq)
def bq.term:bq->aK
 | .mk a _=>a
def bq.args:bq->List bq
 | .mk _ a=>a
def uG (J:Xs) (ag:Int):Xv:=
 cond (decide ((i64.wrap (ag-(J.length:Int)))<0)) (some (-1)) (some (i64.wrap (ag-(J.length:Int))))
def sb (J:XB) (ag:Int):Xv:=
 cond (decide ((i64.wrap (ag-(J.length:Int)))<0)) (some (-1)) (some (i64.wrap (ag-(J.length:Int))))
def PF (k2:Int->Int->Xv) (J:Xz) (iq eF:Int):Xv:=
 cond (decide (eF<(J.length:Int))) ((bR J eF).bind λak=>(sb ak iq).bind λaG=>cond (decide (aG<0)) (some (-1)) (k2 aG (i64.wrap (eF+1)))) (some iq)
def Ba (J:Xz):Nat->Int->Int->Xv
 |0,_,_=>none
 |n+1,iq,eF=>PF (Ba J n) J iq eF
def uH (J:Xz) (ag:Int):Xv:=
 cond (decide ((i64.wrap (ag-(J.length:Int)))<0)) (some (-1)) (cC λn=>Ba J n (i64.wrap (ag-(J.length:Int))) 0)
def uI (J:hF) (ag:Int):Xv:=
 (uG J.bw ag).bind λak=>cond (decide (ak<0)) (some (-1)) ((sb J.Guard ak).bind λaG=>cond (decide (aG<0)) (some (-1)) (cond (decide ((i64.wrap (aG-(J.Name.length:Int)))<0)) (some (-1)) ((uH J.bP (i64.wrap (aG-(J.Name.length:Int)))).bind λaP=>cond (decide (aP<0)) (some (-1)) ((uH J.Next aP).bind λbu=>cond (decide (bu<0)) (some (-1)) (some bu)))))
def PG (k2:Int->Int->Xv) (J:XC) (iq eF:Int):Xv:=
 cond (decide (eF<(J.length:Int))) ((bR J eF).bind λak=>(uI ak iq).bind λaG=>cond (decide (aG<0)) (some (-1)) (k2 aG (i64.wrap (eF+1)))) (some iq)
def Bb (J:XC):Nat->Int->Int->Xv
 |0,_,_=>none
 |n+1,iq,eF=>PG (Bb J n) J iq eF
def w8 (J:XC) (ag:Int):Xv:=
 cond (decide ((i64.wrap (ag-(J.length:Int)))<0)) (some (-1)) (cC λn=>Bb J n (i64.wrap (ag-(J.length:Int))) 0)
def w9 (J:kx) (ag:Int):Xv:=
 (uG J.Start ag).bind λak=>cond (decide (ak<0)) (some (-1)) ((w8 J.cY ak).bind λaG=>cond (decide (aG<0)) (some (-1)) (some aG))
def PH (dp:Xs->Int->Option Xs) (J bS:Xs) (ck:Int):Option Xs:=
 cond (decide (ck<(J.length:Int))) ((bR J ck).bind λak=>(bR bS ck).bind λaG=>dp (List.set bS (Int.toNat ck) ak) (i64.wrap (ck+1))) (some bS)
def Bc (J:Xs):Nat->Xs->Int->Option Xs
 |0,_,_=>none
 |n+1,bS,ck=>PH (Bc J n) J bS ck
def uJ (J:Xs):Option Xs:=
 (lJ 8 (J.length:Int)).bind λ_=>cC λn=>Bc J n (replicate (Int.toNat (J.length:Int)) 0) 0
def uK (J:fI):Option aK:=
 some (aK.mk J.Kind J.Value)
def PI (dp:XD->Int->Option XD) (J:XB) (bS:XD) (ck:Int):Option XD:=
 cond (decide (ck<(J.length:Int))) ((bR J ck).bind λak=>(uK ak).bind λaG=>(bR bS ck).bind λaP=>dp (List.set bS (Int.toNat ck) aG) (i64.wrap (ck+1))) (some bS)
def Bd (J:XB):Nat->XD->Int->Option XD
 |0,_,_=>none
 |n+1,bS,ck=>PI (Bd J n) J bS ck
def sc (J:XB):Option XD:=
 (lJ 16 (J.length:Int)).bind λ_=>cC λn=>Bd J n (replicate (Int.toNat (J.length:Int)) (aK.mk 0 0)) 0
def PJ (dp:XA->Int->Option XA) (J:Xz) (bS:XA) (ck:Int):Option XA:=
 cond (decide (ck<(J.length:Int))) ((bR J ck).bind λak=>(sc ak).bind λaG=>(bR bS ck).bind λaP=>dp (List.set bS (Int.toNat ck) aG) (i64.wrap (ck+1))) (some bS)
def Be (J:Xz):Nat->XA->Int->Option XA
 |0,_,_=>none
 |n+1,bS,ck=>PJ (Be J n) J bS ck
def uL (J:Xz):Option XA:=
 (lJ 24 (J.length:Int)).bind λ_=>cC λn=>Be J n (replicate (Int.toNat (J.length:Int)) []) 0
def uM (J:hF):Option bD:=
 (uJ J.bw).bind λak=>(sc J.Guard).bind λaG=>(uL J.bP).bind λaP=>(uL J.Next).bind λbu=>some (bD.mk ak aG J.Name aP bu)
def PK (dp:XE->Int->Option XE) (J:XC) (bS:XE) (ck:Int):Option XE:=
 cond (decide (ck<(J.length:Int))) ((bR J ck).bind λak=>(uM ak).bind λaG=>(bR bS ck).bind λaP=>dp (List.set bS (Int.toNat ck) aG) (i64.wrap (ck+1))) (some bS)
def Bf (J:XC):Nat->XE->Int->Option XE
 |0,_,_=>none
 |n+1,bS,ck=>PK (Bf J n) J bS ck
def w_ (J:XC):Option XE:=
 (lJ 112 (J.length:Int)).bind λ_=>cC λn=>Bf J n (replicate (Int.toNat (J.length:Int)) (bD.mk [] [] ([]:Xq) [] [])) 0
def qU (J:kx):Option cq:=
 (uJ J.Start).bind λak=>(w_ J.cY).bind λaG=>some (cq.mk J.c1 ak aG)
def mT (J ag a4:Int):Xu:=
 some ((decide (ag<=J))&&(decide (J<=a4)))
def Bg (dj:Int->Xu) (J:Xs) (nJ:Int):Xu:=
 cond (decide (nJ<(J.length:Int))) ((bR J nJ).bind λak=>(mT ak 0 63).bind λaG=>cond (!aG) (some false) (dj (i64.wrap (nJ+1)))) (some true)
def uN (J:Xs):Nat->Int->Xu
 |0,_=>none
 |n+1,nJ=>Bg (uN J n) J nJ
def xa (J:Xs):Xu:=
 cC λn=>uN J n 0
def xb (J:Xs) (ag:Int):Xu:=
 cond ((J.length:Int)==ag) ((xa J).bind λak=>some ak) (some false)
def Bh (k2:Int->Int->Xv) (J:Xs) (mU nK:Int):Xv:=
 cond (decide (nK<(J.length:Int))) ((bR J nK).bind λak=>(mT ak 1 7).bind λaG=>cond (!aG) (some 0) (k2 (i64.wrap (mU*(i64.wrap (ak+1)))) (i64.wrap (nK+1)))) (cond (decide (4096<mU)) (some 0) (some mU))
def sd (J:Xs):Nat->Int->Int->Xv
 |0,_,_=>none
 |n+1,mU,nK=>Bh (sd J n) J mU nK
def xc (J:Xs):Xv:=
 cond (decide (8<(J.length:Int))) (some 0) (cC λn=>sd J n 1 0)
def xd (J:aK) (ag:Int):Xu:=
 cond (J.Kind==0) ((mT J.Value 0 63).bind λak=>some ak) (cond (J.Kind==1) ((mT J.Value 0 (i64.wrap (ag-1))).bind λaG=>some aG) (cond (J.Kind==2) ((mT J.Value 0 8).bind λaP=>some aP) (cond (J.Kind==3) (some (J.Value==0)) (some false))))
def uO (J:aK):Xv:=
 cond (J.Kind==2) (some 2) (cond (J.Kind==3) (some 1) (some 0))
def Bi (k2:Int->Int->Xu) (J:XD) (ag hP nL:Int):Xu:=
 cond (decide (nL<(J.length:Int))) (cond (hP==0) (some false) ((bR J nL).bind λak=>(xd ak ag).bind λaG=>cond (!aG) (some false) ((uO ak).bind λaP=>k2 (i64.wrap (hP+(i64.wrap (aP-1)))) (i64.wrap (nL+1))))) (some (hP==0))
def se (J:XD) (ag:Int):Nat->Int->Int->Xu
 |0,_,_=>none
 |n+1,hP,nL=>Bi (se J ag n) J ag hP nL
def uP (J:XD) (ag a4:Int):Xu:=
 cond (decide (a4<(J.length:Int))) (some false) (cC λn=>se J ag n 1 0)
def Bj (dj:Int->Xu) (J:XA) (ag a_:Int):Xu:=
 cond (decide (a_<(J.length:Int))) ((bR J a_).bind λak=>(uP ak ag 60).bind λaG=>cond (!aG) (some false) (dj (i64.wrap (a_+1)))) (some true)
def uQ (J:XA) (ag:Int):Nat->Int->Xu
 |0,_=>none
 |n+1,a_=>Bj (uQ J ag n) J ag a_
def qV (J:XA) (ag:Int):Xu:=
 cC λn=>uQ J ag n 0
def uR (J:UInt8):Xu:=
 some ((decide (97<=(J.toNat:Int)))&&(decide ((J.toNat:Int)<=122)))
def Bk (J:UInt8):Xu:=
 some ((decide (48<=(J.toNat:Int)))&&(decide ((J.toNat:Int)<=57)))
def Bl (k3:Int->Xu) (J:Xq) (eQ:Int):Xu:=
 cond (decide (eQ<(J.length:Int))) ((bR J eQ).bind λaP=>(uR aP).bind λbu=>cond (!bu) ((Bk aP).bind λbI=>cond (!bI) (some false) (k3 (i64.wrap (eQ+1)))) (k3 (i64.wrap (eQ+1)))) (some true)
def uS (J:Xq):Nat->Int->Xu
 |0,_=>none
 |n+1,eQ=>Bl (uS J n) J eQ
def xe (J:Xq):Xu:=
 cond (J==([]:Xq)) (some false) (cond (decide (10<(J.length:Int))) (some false) ((bR J 0).bind λak=>(uR ak).bind λaG=>cond (!aG) (some false) (cC λn=>uS J n 0)))
def xf (J:Xq):Xu:=
 (xe J).bind λak=>some (ak&&(!(J==([116,97,117]:Xq))))
def xg (J:bD) (ag:Int):Xu:=
 (xc J.bw).bind λak=>cond (ak==0) (some false) ((uP J.Guard (i64.wrap (ag+(J.bw.length:Int))) 60).bind λaG=>cond ((!aG)||((J.Next.length:Int) !=ag)) (some false) (cond (J.Name==([116,97,117]:Xq)) (cond (decide (0<(J.bP.length:Int))) (some false) (cond (decide (2<(J.bP.length:Int))) (some false) ((qV J.bP (i64.wrap (ag+(J.bw.length:Int)))).bind λaP=>cond aP ((qV J.Next (i64.wrap (ag+(J.bw.length:Int)))).bind λbu=>some bu) (some false)))) ((xf J.Name).bind λbI=>cond (!bI) (some false) (cond (decide (2<(J.bP.length:Int))) (some false) ((qV J.bP (i64.wrap (ag+(J.bw.length:Int)))).bind λbF=>cond bF ((qV J.Next (i64.wrap (ag+(J.bw.length:Int)))).bind λcm=>some cm) (some false))))))
def Bm (k3:Int->Xu) (J:cq) (eQ:Int):Xu:=
 cond (decide (eQ<(J.cY.length:Int))) ((bR J.cY eQ).bind λaP=>(xg aP J.c1).bind λbu=>cond (!bu) (some false) (k3 (i64.wrap (eQ+1)))) (some true)
def uT (J:cq):Nat->Int->Xu
 |0,_=>none
 |n+1,eQ=>Bm (uT J n) J eQ
def xh (J:cq):Xu:=
 (mT J.c1 0 21).bind λak=>cond (!ak) (some false) ((xb J.Start J.c1).bind λaG=>cond ((!aG)||(decide (60<(J.cY.length:Int)))) (some false) (cC λn=>uT J n 0))
def sf (J:XD):Option XD:=
 (room 16 (J.length)).bind λ_=>some J
def sg (dp:XD->Int->Option XD) (ag:List Bool) (a4:Xs) (si:XD) (sj:Int):Option XD:=
 dp si (i64.wrap (sj+1))
def Bn (dp:XD->Int->Option XD) (ag:List Bool) (a4:Xs) (i2:XD) (iH:Int):Option XD:=
 cond (decide (iH<(i2.length:Int))) ((bR i2 iH).bind λaP=>cond (aP.Kind==1) (cond (decide (aP.Value<(ag.length:Int))) ((bR ag aP.Value).bind λbu=>cond bu ((bR a4 aP.Value).bind λbI=>sg dp ag a4 (List.set i2 (Int.toNat iH) (aK.mk 0 bI)) iH) (sg dp ag a4 i2 iH)) (sg dp ag a4 i2 iH)) (sg dp ag a4 i2 iH)) (some i2)
def qW (ag:List Bool) (a4:Xs):Nat->XD->Int->Option XD
 |0,_,_=>none
 |n+1,i2,iH=>Bn (qW ag a4 n) ag a4 i2 iH
def xi (J:XD) (ag:List Bool) (a4:Xs):Option XD:=
 (sf J).bind λak=>cC λn=>qW ag a4 n ak 0
def Bo (dj:Int->Int->Xv) (J:XD) (cd a_:Int):Xv:=
 cond (decide (0<a_)) ((bR J cd).bind λak=>(uO ak).bind λaG=>dj (i64.wrap (cd+1)) (i64.wrap (a_+(i64.wrap (aG-1))))) (some cd)
def sk (J:XD):Nat->Int->Int->Xv
 |0,_,_=>none
 |n+1,cd,a_=>Bo (sk J n) J cd a_
def xj (J:XD) (ag:Int):Xv:=
 cC λn=>sk J n ag 1
def mc (J:Bool):Xv:=
 cond J (some 1) (some 0)
def xk (J ag a4:Int):Xv:=
 cond (J==0) (some (Int.tmod (i64.wrap (ag+a4)) 64)) (cond (J==1) (some (Int.tmod (i64.wrap ((i64.wrap (ag-a4))+64)) 64)) (cond (J==2) (some (Int.tmod (i64.wrap (ag*a4)) 64)) (cond (J==3) ((mc (ag==a4)).bind λak=>some ak) (cond (J==4) ((mc (ag !=a4)).bind λaG=>some aG) (cond (J==5) ((mc (decide (ag<a4))).bind λaP=>some aP) (cond (J==6) ((mc (decide (ag<=a4))).bind λbu=>some bu) (cond (J==7) (cond (ag !=0) ((mc (a4 !=0)).bind λbI=>some bI) ((mc false).bind λbF=>some bF)) (cond (ag !=0) ((mc true).bind λcm=>some cm) ((mc (a4 !=0)).bind λdb=>some db)))))))))
def Bp (uU:XD->Option XD) (J:XD):Option XD:=
 (bR J 0).bind λak=>(uO ak).bind λaG=>cond (aG==0) ((sf J).bind λaP=>some aP) ((xj J 1).bind λbu=>(fF J 1 bu).bind λbI=>(uU bI).bind λbF=>cond (ak.Kind==3) ((bR bF 0).bind λcm=>cond (cm.Kind==0) ((mc (cm.Value==0)).bind λdb=>some [(aK.mk 0 db)]) ((room 16 (1+bF.length)).bind λ_=>some ([ak]++bF))) ((fF J bu (J.length:Int)).bind λdV=>(uU dV).bind λdW=>(bR bF 0).bind λfJ=>cond (fJ.Kind==0) ((bR dW 0).bind λlo=>cond (lo.Kind==0) ((xk ak.Value fJ.Value lo.Value).bind λlp=>some [(aK.mk 0 lp)]) ((room 16 (1+bF.length)).bind λ_=>(room 16 (([ak]++bF).length+dW.length)).bind λ_=>some (([ak]++bF)++dW))) ((room 16 (1+bF.length)).bind λ_=>(room 16 (([ak]++bF).length+dW.length)).bind λ_=>some (([ak]++bF)++dW))))
def sl:Nat->XD->Option XD
 |0,_=>none
 |n+1,J=>Bp (sl n) J
def xl (J:XD):Option XD:=
 cC λn=>sl n J
def Bq (dj:Int->Xu) (J:cq) (ag:List Bool) (a4 g2:Int):Xu:=
 cond (decide (g2<(J.cY.length:Int))) ((bR J.cY g2).bind λak=>(bR ak.Next a4).bind λaG=>(xi aG ag J.Start).bind λaP=>(xl aP).bind λbu=>cond ((bu.length:Int) !=1) (some false) ((bR bu 0).bind λbI=>cond (bI.Kind !=0) (some false) ((bR J.Start a4).bind λbF=>cond (bI.Value !=bF) (some false) (dj (i64.wrap (g2+1)))))) (some true)
def uV (J:cq) (ag:List Bool) (a4:Int):Nat->Int->Xu
 |0,_=>none
 |n+1,g2=>Bq (uV J ag a4 n) J ag a4 g2
def xm (J:cq) (ag:List Bool) (a4:Int):Xu:=
 cC λn=>uV J ag a4 n 0
def uW (jI:(List Bool)->Int->Option ((List Bool))) (uX:(List Bool)->Int->Int->Option ((List Bool))) (J:cq) (sm:List Bool) (sn so:Int):Option ((List Bool)):=
 uX sm sn (i64.wrap (so+1))
def Br (jI:(List Bool)->Int->Option ((List Bool))) (uX:(List Bool)->Int->Int->Option ((List Bool))) (J:cq) (i3:List Bool) (j_ ir:Int):Option ((List Bool)):=
 cond (decide (ir<J.c1)) ((bR i3 ir).bind λaG=>cond aG ((xm J i3 ir).bind λaP=>cond (!aP) (uW jI uX J (List.set i3 (Int.toNat ir) false) j_ ir) (uW jI uX J i3 j_ ir)) (uW jI uX J i3 j_ ir)) (jI i3 (i64.wrap (j_+1)))
def pJ (jI:(List Bool)->Int->Option ((List Bool))) (J:cq):Nat->(List Bool)->Int->Int->Option ((List Bool))
 |0,_,_,_=>none
 |n+1,i3,j_,ir=>Br jI (pJ jI J n) J i3 j_ ir
def Bs (jI:(List Bool)->Int->Option ((List Bool))) (J:cq) (nM:List Bool) (oI:Int):Option ((List Bool)):=
 cond (decide (oI<=J.c1)) (cC λn=>pJ jI J n nM oI 0) (some nM)
def oJ (J:cq):Nat->(List Bool)->Int->Option ((List Bool))
 |0,_,_=>none
 |n+1,nM,oI=>Bs (oJ J n) J nM oI
def Bt (dp:(List Bool)->Int->Option ((List Bool))) (J:cq) (bS:List Bool) (ck:Int):Option ((List Bool)):=
 cond (decide (ck<J.c1)) ((bR bS ck).bind λak=>dp (List.set bS (Int.toNat ck) true) (i64.wrap (ck+1))) (cC λn=>oJ J n bS 0)
def sq (J:cq):Nat->(List Bool)->Int->Option ((List Bool))
 |0,_,_=>none
 |n+1,bS,ck=>Bt (sq J n) J bS ck
def xn (J:cq):Option ((List Bool)):=
 (lJ 1 J.c1).bind λ_=>cC λn=>sq J n (replicate (Int.toNat J.c1) false) 0
def xo (dp:Xs->Int->Option Xs) (J:List Bool) (ag:Bool) (sr:Xs) (ss:Int):Option Xs:=
 dp sr (i64.wrap (ss+1))
def Bu (dp:Xs->Int->Option Xs) (J:List Bool) (ag:Bool) (fm:Xs) (fg:Int):Option Xs:=
 cond (decide (fg<(J.length:Int))) ((bR J fg).bind λak=>cond (ak==ag) ((room 8 (fm.length+1)).bind λ_=>xo dp J ag (fm++[fg]) fg) (xo dp J ag fm fg)) (some fm)
def qX (J:List Bool) (ag:Bool):Nat->Xs->Int->Option Xs
 |0,_,_=>none
 |n+1,fm,fg=>Bu (qX J ag n) J ag fm fg
def xp (J:List Bool) (ag:Bool):Option Xs:=
 cC λn=>qX J ag n [] 0
def xq (J:cq):Option (Xs×Int):=
 (xh J).bind λak=>cond (!ak) (some ([],1)) ((xn J).bind λaG=>(xp aG true).bind λaP=>some (aP,0))
def lq (J ag a4:Int):Xu:=
 some ((decide (ag<=J))&&(decide (J<=a4)))
def xr (J:Int):Xu:=
 (lq J 0 63).bind λak=>some ak
def Bv (J:Int):Xu:=
 (xr J).bind λak=>some (!ak)
def Hr (dj:Int->Xv) (J:Xs) (cz:Int):Xv:=
 cond (decide (cz<(J.length:Int))) ((bR J cz).bind λak=>(Bv ak).bind λaG=>cond aG (some cz) (dj (i64.wrap (cz+1)))) (some (-1))
def xt (J:Xs):Nat->Int->Xv
 |0,_=>none
 |n+1,cz=>Hr (xt J n) J cz
def Bw (J:Xs):Xv:=
 cC λn=>xt J n 0
def Bx (J:Xs):Xu:=
 (Bw J).bind λak=>some (decide (0<=ak))
def Bz (J:Xs):Xu:=
 (Bx J).bind λak=>some (!ak)
def xu (J:cq) (ag:Xs):Xu:=
 cond ((ag.length:Int)==J.c1) ((Bz ag).bind λak=>some ak) (some false)
def BA (dp:Int->Int->Xu) (J:bD) (bS nN:Int):Xu:=
 cond (decide (nN<(J.bw.length:Int))) ((bR J.bw nN).bind λak=>(lq ak 1 7).bind λaG=>cond (!aG) (some false) (dp (i64.wrap (bS*(i64.wrap (ak+1)))) (i64.wrap (nN+1)))) (some ((decide ((J.bw.length:Int)<=8))&&(decide (bS<=4096))))
def su (J:bD):Nat->Int->Int->Xu
 |0,_,_=>none
 |n+1,bS,nN=>BA (su J n) J bS nN
def xv (J:bD):Xu:=
 cC λn=>su J n 1 0
def BB (J:UInt8):Xu:=
 some ((decide (48<=(J.toNat:Int)))&&(decide ((J.toNat:Int)<=57)))
def xw (dj:Int->Xu) (J:Xq) (g2:Int):Xu:=
 cond (decide (g2<(J.length:Int))) ((bR J g2).bind λak=>cond (!((decide (97<=(ak.toNat:Int)))&&(decide ((ak.toNat:Int)<=122)))) (cond (g2==0) (some false) ((BB ak).bind λaG=>cond (!aG) (some false) (dj (i64.wrap (g2+1))))) (dj (i64.wrap (g2+1)))) (some ((decide (1<=(J.length:Int)))&&(decide ((J.length:Int)<=10))))
def pK (J:Xq):Nat->Int->Xu
 |0,_=>none
 |n+1,g2=>xw (pK J n) J g2
def xx (J:Xq):Xu:=
 cC λn=>pK J n 0
def uY (J:Xq):Xu:=
 (xx J).bind λak=>some (ak&&(!(J==([116,97,117]:Xq))))
def xy:Option Unit:=
 some ()
def BC (ag:Int):Option Unit:=
 cond (decide (0<(i64.wrap (ag-(i64.wrap 0))))) ((lJ 24 (i64.wrap (ag-(i64.wrap 0)))).bind λ_=>xy) (xy)
def xz (ag:Int):Option Unit:=
 cond (decide (ag<0)) (none) (BC ag)
def BD (dp:Int->Int->Option XA) (J:List XA) (sv sw:Int) (xA:Bool):Option XA:=
 dp sv (i64.wrap (sw+1))
def BE (BF:XA->Int->Option XA) (J:List XA) (lr:XA) (me:Int):Option XA:=
 cond (decide (me<(J.length:Int))) ((bR J me).bind λaP=>(room 24 (lr.length+aP.length)).bind λ_=>BF (lr++aP) (i64.wrap (me+1))) (some lr)
def qY (J:List XA):Nat->XA->Int->Option XA
 |0,_,_=>none
 |n+1,lr,me=>BE (qY J n) J lr me
def BG (dp:Int->Int->Option XA) (J:List XA) (bS gb:Int):Option XA:=
 cond (decide (gb<(J.length:Int))) ((bR J gb).bind λak=>cond (decide ((i64.wrap (bS+(ak.length:Int)))<0)) (none) (BD dp J (i64.wrap (bS+(ak.length:Int))) gb (decide ((i64.wrap (bS+(ak.length:Int)))<0)))) ((xz bS).bind λaG=>cC λn=>qY J n [] 0)
def qZ (J:List XA):Nat->Int->Int->Option XA
 |0,_,_=>none
 |n+1,bS,gb=>BG (qZ J n) J bS gb
def xB (J:List XA):Option XA:=
 cC λn=>qZ J n 0 0
def sx (J:bD):Option XA:=
 (xB [[J.Guard],J.bP,J.Next]).bind λak=>some ak
def xC (J:aK) (ag:Int):Xu:=
 cond (J.Kind==0) ((xr J.Value).bind λak=>some ak) (cond (J.Kind==1) ((lq J.Value 0 (i64.wrap (ag-1))).bind λaG=>some aG) (cond (J.Kind==2) ((lq J.Value 0 8).bind λaP=>some aP) (cond (J.Kind==3) (some (J.Value==0)) (some false))))
def xD (J:aK):Xv:=
 cond (J.Kind==2) (some 2) (cond (J.Kind==3) (some 1) (some 0))
def BH (k2:Int->Int->Xu) (J:XD) (ag hP nO:Int):Xu:=
 cond (decide (nO<(J.length:Int))) ((bR J nO).bind λbu=>cond (hP==0) (some false) ((xC bu ag).bind λbI=>cond (!bI) (some false) ((xD bu).bind λbF=>k2 (i64.wrap (hP+(i64.wrap (bF-1)))) (i64.wrap (nO+1))))) (some (hP==0))
def sy (J:XD) (ag:Int):Nat->Int->Int->Xu
 |0,_,_=>none
 |n+1,hP,nO=>BH (sy J ag n) J ag hP nO
def xE (J:XD) (ag a4:Int):Xu:=
 (lq ag 0 29).bind λak=>cond (!ak) (some false) ((lq a4 1 60).bind λaG=>cond (!aG) (some false) ((lq (J.length:Int) 1 a4).bind λaP=>cond (!aP) (some false) (cC λn=>sy J ag n 1 0)))
def xF (J:XD) (ag:Int) (a4:bD):Xu:=
 (xE J (i64.wrap (ag+(a4.bw.length:Int))) 60).bind λak=>some (!ak)
def Hs (dj:Int->Xv) (J:XA) (bN:Int) (bO:bD) (cz:Int):Xv:=
 cond (decide (cz<(J.length:Int))) ((bR J cz).bind λak=>(xF ak bN bO).bind λaG=>cond aG (some cz) (dj (i64.wrap (cz+1)))) (some (-1))
def xG (J:XA) (bN:Int) (bO:bD):Nat->Int->Xv
 |0,_=>none
 |n+1,cz=>Hs (xG J bN bO n) J bN bO cz
def BI (J:XA) (bN:Int) (bO:bD):Xv:=
 cC λn=>xG J bN bO n 0
def q0 (J:XA) (bN:Int) (bO:bD):Xu:=
 (BI J bN bO).bind λak=>some (decide (0<=ak))
def xH (J:bD) (ag:Int):Xu:=
 (xv J).bind λak=>cond ((!ak)||((J.Next.length:Int) !=ag)) (some false) (cond (decide (0<(J.bP.length:Int))) (cond (J.Name==([116,97,117]:Xq)) (some false) (cond (decide (2<(J.bP.length:Int))) (some false) ((uY J.Name).bind λaG=>cond (!aG) (some false) ((sx J).bind λaP=>(q0 aP ag J).bind λbu=>some (!bu))))) (cond (!(J.Name==([116,97,117]:Xq))) ((uY J.Name).bind λbI=>cond (!bI) (some false) ((sx J).bind λbF=>(q0 bF ag J).bind λcm=>some (!cm))) ((sx J).bind λdb=>(q0 db ag J).bind λdV=>some (!dV))))
def xI (J:bD) (ag:cq):Xu:=
 (xH J ag.c1).bind λak=>some (!ak)
def Ht (dj:Int->Xv) (J:XE) (ag:cq) (cz:Int):Xv:=
 cond (decide (cz<(J.length:Int))) ((bR J cz).bind λak=>(xI ak ag).bind λaG=>cond aG (some cz) (dj (i64.wrap (cz+1)))) (some (-1))
def xJ (J:XE) (ag:cq):Nat->Int->Xv
 |0,_=>none
 |n+1,cz=>Ht (xJ J ag n) J ag cz
def BJ (J:XE) (ag:cq):Xv:=
 cC λn=>xJ J ag n 0
def BK (J:XE) (ag:cq):Xu:=
 (BJ J ag).bind λak=>some (decide (0<=ak))
def xK (J:cq):Xu:=
 (lq J.c1 0 21).bind λak=>cond (!ak) (some false) ((xu J J.Start).bind λaG=>cond ((!aG)||(decide (60<(J.cY.length:Int)))) (some false) ((BK J.cY J).bind λaP=>some (!aP)))
def BL (dp:Xs->Int->Option Xs) (J:Int) (bS:Xs) (fg:Int):Option Xs:=
 cond (decide (fg<J)) ((room 8 (bS.length+1)).bind λ_=>dp (bS++[fg]) (i64.wrap (fg+1))) (some bS)
def sA (J:Int):Nat->Xs->Int->Option Xs
 |0,_,_=>none
 |n+1,bS,fg=>BL (sA J n) J bS fg
def xL (J:Int):Option Xs:=
 cC λn=>sA J n [] 0
def xM (J:Xs):Option Xs:=
 cond J.isEmpty (both (some []) ((room 8 (J.length)).bind λ_=>some J)) ((room 8 (J.length)).bind λ_=>some J)
def BM (dj:Int->Xv) (J:Xs) (ag cz:Int):Xv:=
 cond (decide (cz<(J.length:Int))) ((bR J cz).bind λak=>cond (ag==ak) (some cz) (dj (i64.wrap (cz+1)))) (some (-1))
def uZ (J:Xs) (ag:Int):Nat->Int->Xv
 |0,_=>none
 |n+1,cz=>BM (uZ J ag n) J ag cz
def BN (J:Xs) (ag:Int):Xv:=
 cC λn=>uZ J ag n 0
def xN (J:Xs) (ag:Int):Xu:=
 (BN J ag).bind λak=>some (decide (0<=ak))
def BO (J:Int):Option XD:=
 some [(aK.mk 0 J)]
def BP (J:Int) (ag:Xs) (a4:cq):Option ((Option XD)):=
 (xN ag J).bind λak=>cond ak ((bR a4.Start J).bind λaG=>(BO aG).bind λaP=>some (some aP)) (some none)
def oK (dp:XD->Int->Option XD) (J:XD) (bN:Xs) (bO:cq) (hQ hR:XD) (h5:Int):Option XD:=
 (room 16 (hQ.length+hR.length)).bind λ_=>dp (hQ++hR) (i64.wrap (h5+1))
def BQ (dp:XD->Int->Option XD) (J:XD) (bN:Xs) (bO:cq) (fm:XD) (gb:Int):Option XD:=
 cond (decide (gb<(J.length:Int))) ((bR J gb).bind λak=>cond (ak.Kind==1) ((BP ak.Value bN bO).bind λaG=>Option.elim aG (oK dp J bN bO fm [ak] gb) (λaP=>cond aP.isEmpty (both (oK dp J bN bO fm [ak] gb) (oK dp J bN bO fm aP gb)) (oK dp J bN bO fm aP gb))) (oK dp J bN bO fm [ak] gb)) (some fm)
def oL (J:XD) (bN:Xs) (bO:cq):Nat->XD->Int->Option XD
 |0,_,_=>none
 |n+1,fm,gb=>BQ (oL J bN bO n) J bN bO fm gb
def BR (J:XD) (bN:Xs) (bO:cq):Option XD:=
 cC λn=>oL J bN bO n [] 0
def xO (J:cq) (ag:XD) (a4:Xs):Option XD:=
 (BR ag a4 J).bind λak=>some ak
def BS (nP:XD->Option (aK×(List bq)×XD)) (mC:(List bq)->XD->Int->Option (aK×(List bq)×XD)) (ak:aK) (aP:Int) (lu:List bq) (nQ:XD) (mV:Int):Option (aK×(List bq)×XD):=
 cond (decide (mV<aP)) ((nP nQ).bind λbu=>(room 8 (lu.length+1)).bind λ_=>mC (lu++[(bq.mk bu.1 bu.2.1)]) bu.2.2 (i64.wrap (mV+1))) (some (ak,lu,nQ))
def q1 (nP:XD->Option (aK×(List bq)×XD)) (ak:aK) (aP:Int):Nat->(List bq)->XD->Int->Option (aK×(List bq)×XD)
 |0,_,_,_=>none
 |n+1,lu,nQ,mV=>BS nP (q1 nP ak aP n) ak aP lu nQ mV
def BT (nP:XD->Option (aK×(List bq)×XD)) (J:XD):Option (aK×(List bq)×XD):=
 (bR J 0).bind λak=>(fF J 1 (J.length:Int)).bind λaG=>(xD ak).bind λaP=>cC λn=>q1 nP ak aP n [] aG 0
def sB:Nat->XD->Option (aK×(List bq)×XD)
 |0,_=>none
 |n+1,J=>BT (sB n) J
def BU (J:XD):Option (aK×(List bq)×XD):=
 cC λn=>sB n J
def xP (J:XD):Option (aK×(List bq)):=
 (BU J).bind λak=>some (ak.1,ak.2.1)
def mf (J:Bool):Xv:=
 cond J (some 1) (some 0)
def xQ (J ag a4:Int):Xv:=
 cond (J==0) (some (Int.tmod (i64.wrap (ag+a4)) 64)) (cond (J==1) (some (Int.tmod (i64.wrap ((i64.wrap (ag-a4))+64)) 64)) (cond (J==2) (some (Int.tmod (i64.wrap (ag*a4)) 64)) (cond (J==3) ((mf (ag==a4)).bind λak=>some ak) (cond (J==4) ((mf (ag !=a4)).bind λaG=>some aG) (cond (J==5) ((mf (decide (ag<a4))).bind λaP=>some aP) (cond (J==6) ((mf (decide (ag<=a4))).bind λbu=>some bu) (cond (J==7) (cond (ag !=0) ((mf (a4 !=0)).bind λbI=>some bI) ((mf false).bind λbF=>some bF)) (cond (ag !=0) ((mf true).bind λcm=>some cm) ((mf (a4 !=0)).bind λdb=>some db)))))))))
def xR (sC:bq->Xs->Xv) (J:bq) (ag:Xs):Xv:=
 cond (J.term.Kind==0) (some J.term.Value) (cond (J.term.Kind==1) ((bR ag J.term.Value).bind λak=>some ak) (cond (J.term.Kind==3) ((bR J.args 0).bind λaG=>(sC aG ag).bind λaP=>(mf (aP==0)).bind λbu=>some bu) ((bR J.args 0).bind λbI=>(sC bI ag).bind λbF=>(bR J.args 1).bind λcm=>(sC cm ag).bind λdb=>(xQ J.term.Value bF db).bind λdV=>some dV)))
def q2:Nat->bq->Xs->Xv
 |0,_,_=>none
 |n+1,J,ag=>xR (q2 n) J ag
def xS (J:bq) (ag:Xs):Xv:=
 cC λn=>q2 n J ag
def BV (J:Int):Option (Int×Int):=
 some (0,J)
def BW (nR:bq->Option bq) (PL:(List bq)->Bool->Int->Option bq) (J:bq) (iu:List bq) (ky:Bool) (kz:Int):Option bq:=
 cond (decide (kz<(J.args.length:Int))) ((bR J.args kz).bind λak=>(nR ak).bind λaG=>(room 8 (iu.length+1)).bind λ_=>PL (iu++[aG]) (ky&&(aG.term.Kind==0)) (i64.wrap (kz+1))) (cond ky ((xS (bq.mk J.term iu) []).bind λaP=>(BV aP).bind λbu=>some (bq.mk (aK.mk bu.1 bu.2) [])) (some (bq.mk J.term iu)))
def q3 (nR:bq->Option bq) (J:bq):Nat->(List bq)->Bool->Int->Option bq
 |0,_,_,_=>none
 |n+1,iu,ky,kz=>BW nR (q3 nR J n) J iu ky kz
def BX (nR:bq->Option bq) (J:bq):Option bq:=
 cond ((J.args.length:Int)==0) (some J) (cC λn=>q3 nR J n [] true 0)
def sD:Nat->bq->Option bq
 |0,_=>none
 |n+1,J=>BX (sD n) J
def xT (J:bq):Option bq:=
 cC λn=>sD n J
def xU (J:bD) (ag:cq) (a4:Int) (gB:Xs):Xu:=
 (bR J.Next a4).bind λak=>(xO ag ak gB).bind λaG=>(xP aG).bind λaP=>(xT (bq.mk aP.1 aP.2)).bind λbu=>(bR ag.Start a4).bind λbI=>some (!((bu.term.Kind==0)&&(bu.term.Value==bI)))
def Hu (dj:Int->Xv) (J:XE) (bN:cq) (bO:Int) (jo:Xs) (cz:Int):Xv:=
 cond (decide (cz<(J.length:Int))) ((bR J cz).bind λak=>(xU ak bN bO jo).bind λaG=>cond aG (some cz) (dj (i64.wrap (cz+1)))) (some (-1))
def xV (J:XE) (bN:cq) (bO:Int) (jo:Xs):Nat->Int->Xv
 |0,_=>none
 |n+1,cz=>Hu (xV J bN bO jo n) J bN bO jo cz
def BZ (J:XE) (bN:cq) (bO:Int) (jo:Xs):Xv:=
 cC λn=>xV J bN bO jo n 0
def B0 (J:XE) (bN:cq) (bO:Int) (jo:Xs):Xu:=
 (BZ J bN bO jo).bind λak=>some (decide (0<=ak))
def q4 (J:Int) (ag:cq) (a4:Xs):Xu:=
 (B0 ag.cY ag J a4).bind λak=>some ak
def Hv (dj:Int->Xv) (J:Xs) (bN:cq) (bO:Xs) (cz:Int):Xv:=
 cond (decide (cz<(J.length:Int))) ((bR J cz).bind λak=>(q4 ak bN bO).bind λaG=>cond aG (some cz) (dj (i64.wrap (cz+1)))) (some (-1))
def xW (J:Xs) (bN:cq) (bO:Xs):Nat->Int->Xv
 |0,_=>none
 |n+1,cz=>Hv (xW J bN bO n) J bN bO cz
def B1 (J:Xs) (bN:cq) (bO:Xs):Xv:=
 cC λn=>xW J bN bO n 0
def xX (k2:Xs->Int->Int->Option Xs) (bN:cq) (bO sE:Xs) (sF sG:Int):Option Xs:=
 k2 sE sF (i64.wrap (sG+1))
def B2 (k2:Xs->Int->Int->Option Xs) (bN:cq) (bO jq:Xs) (eF k4:Int):Option Xs:=
 cond (decide (k4<(jq.length:Int))) ((bR jq k4).bind λaG=>(q4 aG bN bO).bind λaP=>cond (!aP) ((bR jq eF).bind λbu=>xX k2 bN bO (List.set jq (Int.toNat eF) aG) (i64.wrap (eF+1)) k4) (xX k2 bN bO jq eF k4)) ((fF jq 0 eF).bind λbI=>(fF (bI++replicate (jq.length-bI.length) 0) 0 eF).bind λbF=>some bF)
def q5 (bN:cq) (bO:Xs):Nat->Xs->Int->Int->Option Xs
 |0,_,_,_=>none
 |n+1,jq,eF,k4=>B2 (q5 bN bO n) bN bO jq eF k4
def xY (J:Xs) (bN:cq) (bO:Xs):Option Xs:=
 (B1 J bN bO).bind λak=>cond (ak==(-1)) (some J) (cC λn=>q5 bN bO n J ak (i64.wrap (ak+1)))
def Hw (dL:Xs->Option Xs) (J:cq) (k5:Xs):Option Xs:=
 (xM k5).bind λaG=>(xY aG J k5).bind λaP=>cond ((aP.length:Int)==(k5.length:Int)) (some k5) (dL aP)
def sH (J:cq):Nat->Xs->Option Xs
 |0,_=>none
 |n+1,k5=>Hw (sH J n) J k5
def xZ (J:cq):Option Xs:=
 (xL J.c1).bind λak=>cC λn=>sH J n ak
def u0 (J:cq):Option (Xs×Int):=
 (xK J).bind λak=>cond (!ak) (some ([],1)) ((xZ J).bind λaG=>some (aG,0))
def PM (k3:Int->Xu) (J ag:Xs) (d_:Int):Xu:=
 cond (decide (d_<(J.length:Int))) ((bR J d_).bind λak=>(bR ag d_).bind λaG=>cond (ak !=aG) (some false) (k3 (i64.wrap (d_+1)))) (some true)
def B3 (J ag:Xs):Nat->Int->Xu
 |0,_=>none
 |n+1,d_=>PM (B3 J ag n) J ag d_
def pL (J ag:Xs):Xu:=
 cond ((J.length:Int) !=(ag.length:Int)) (some false) (cC λn=>B3 J ag n 0)
def u1 (J ag:aK):Xu:=
 cond (J.Kind !=ag.Kind) (some false) (cond (J.Value !=ag.Value) (some false) (some true))
def PN (k3:Int->Xu) (J ag:XD) (d_:Int):Xu:=
 cond (decide (d_<(J.length:Int))) ((bR J d_).bind λak=>(bR ag d_).bind λaG=>(u1 ak aG).bind λaP=>cond (!aP) (some false) (k3 (i64.wrap (d_+1)))) (some true)
def B4 (J ag:XD):Nat->Int->Xu
 |0,_=>none
 |n+1,d_=>PN (B4 J ag n) J ag d_
def sI (J ag:XD):Xu:=
 cond ((J.length:Int) !=(ag.length:Int)) (some false) (cC λn=>B4 J ag n 0)
def PO (k3:Int->Xu) (J ag:XA) (d_:Int):Xu:=
 cond (decide (d_<(J.length:Int))) ((bR J d_).bind λak=>(bR ag d_).bind λaG=>(sI ak aG).bind λaP=>cond (!aP) (some false) (k3 (i64.wrap (d_+1)))) (some true)
def B5 (J ag:XA):Nat->Int->Xu
 |0,_=>none
 |n+1,d_=>PO (B5 J ag n) J ag d_
def u2 (J ag:XA):Xu:=
 cond ((J.length:Int) !=(ag.length:Int)) (some false) (cC λn=>B5 J ag n 0)
def u3 (J ag:bD):Xu:=
 (pL J.bw ag.bw).bind λak=>cond (!ak) (some false) ((sI J.Guard ag.Guard).bind λaG=>cond (!aG) (some false) (cond (!(J.Name==ag.Name)) (some false) ((u2 J.bP ag.bP).bind λaP=>cond (!aP) (some false) ((u2 J.Next ag.Next).bind λbu=>cond (!bu) (some false) (some true)))))
def PQ (k3:Int->Xu) (J ag:XE) (d_:Int):Xu:=
 cond (decide (d_<(J.length:Int))) ((bR J d_).bind λak=>(bR ag d_).bind λaG=>(u3 ak aG).bind λaP=>cond (!aP) (some false) (k3 (i64.wrap (d_+1)))) (some true)
def B6 (J ag:XE):Nat->Int->Xu
 |0,_=>none
 |n+1,d_=>PQ (B6 J ag n) J ag d_
def x0 (J ag:XE):Xu:=
 cond ((J.length:Int) !=(ag.length:Int)) (some false) (cC λn=>B6 J ag n 0)
def x1 (J ag:cq):Xu:=
 cond (J.c1 !=ag.c1) (some false) ((pL J.Start ag.Start).bind λak=>cond (!ak) (some false) ((x0 J.cY ag.cY).bind λaG=>cond (!aG) (some false) (some true)))
def B7 (dj:Xs->Int->Int->Option (Int×Xs)) (cP:Xs) (cd a_:Int):Option (Int×Xs):=
 cond (decide (a_<(cP.length:Int))) ((bR cP a_).bind λak=>dj (List.set cP (Int.toNat a_) cd) (i64.wrap (cd+1)) (i64.wrap (a_+1))) (some (cd,cP))
def sJ:Nat->Xs->Int->Int->Option (Int×Xs)
 |0,_,_,_=>none
 |n+1,cP,cd,a_=>B7 (sJ n) cP cd a_
def sK (J:Xs) (ag:Int):Option (Int×Xs):=
 cC λn=>sJ n J ag 0
def B8 (dj:XD->Int->Int->Option (Int×XD)) (cP:XD) (cd a_:Int):Option (Int×XD):=
 cond (decide (a_<(cP.length:Int))) ((bR cP a_).bind λak=>(bR (List.set cP (Int.toNat a_) (aK.mk cd ak.Value)) a_).bind λaG=>dj (List.set (List.set cP (Int.toNat a_) (aK.mk cd ak.Value)) (Int.toNat a_) (aK.mk aG.Kind (i64.wrap (cd+1)))) (i64.wrap ((i64.wrap (cd+1))+1)) (i64.wrap (a_+1))) (some (cd,cP))
def sL:Nat->XD->Int->Int->Option (Int×XD)
 |0,_,_,_=>none
 |n+1,cP,cd,a_=>B8 (sL n) cP cd a_
def u4 (J:XD) (ag:Int):Option (Int×XD):=
 cC λn=>sL n J ag 0
def x2 (k3:Int->Xq->Option Xq) (jJ:Int) (eQ:Xq):Option Xq:=
 cond (decide (0<jJ)) ((m7 (1+eQ.length)).bind λ_=>k3 (i64.wrap (Int.tdiv jJ 10)) ([(n3 (i64.wrap (48+(Int.tmod jJ 10))))]++eQ)) ((m7 (1+eQ.length)).bind λ_=>some (([109]:Xq)++eQ))
def q6:Nat->Int->Xq->Option Xq
 |0,_,_=>none
 |n+1,jJ,eQ=>x2 (q6 n) jJ eQ
def x3 (J:Int):Option Xq:=
 cond (decide (J<=0)) (some ([109,48]:Xq)) (cC λn=>q6 n J ([]:Xq))
def B9 (dj:XA->Int->Int->Option (Int×XA)) (cP:XA) (cd a_:Int):Option (Int×XA):=
 cond (decide (a_<(cP.length:Int))) ((bR cP a_).bind λak=>(u4 ak cd).bind λaG=>dj (List.set cP (Int.toNat a_) aG.2) aG.1 (i64.wrap (a_+1))) (some (cd,cP))
def sM:Nat->XA->Int->Int->Option (Int×XA)
 |0,_,_,_=>none
 |n+1,cP,cd,a_=>B9 (sM n) cP cd a_
def u5 (J:XA) (ag:Int):Option (Int×XA):=
 cC λn=>sM n J ag 0
def B_ (dj:XE->Int->Int->Option (Int×XE)) (cP:XE) (cd a_:Int):Option (Int×XE):=
 cond (decide (a_<(cP.length:Int))) ((bR cP a_).bind λak=>(sK ak.bw cd).bind λaG=>(bR (List.set cP (Int.toNat a_) (bD.mk aG.2 ak.Guard ak.Name ak.bP ak.Next)) a_).bind λaP=>(u4 aP.Guard aG.1).bind λbu=>(x3 bu.1).bind λbI=>(bR (List.set (List.set cP (Int.toNat a_) (bD.mk aG.2 ak.Guard ak.Name ak.bP ak.Next)) (Int.toNat a_) (bD.mk aP.bw bu.2 aP.Name aP.bP aP.Next)) a_).bind λbF=>(bR (List.set (List.set (List.set cP (Int.toNat a_) (bD.mk aG.2 ak.Guard ak.Name ak.bP ak.Next)) (Int.toNat a_) (bD.mk aP.bw bu.2 aP.Name aP.bP aP.Next)) (Int.toNat a_) (bD.mk bF.bw bF.Guard bI bF.bP bF.Next)) a_).bind λcm=>(u5 cm.bP (i64.wrap (bu.1+1))).bind λdb=>(bR (List.set (List.set (List.set (List.set cP (Int.toNat a_) (bD.mk aG.2 ak.Guard ak.Name ak.bP ak.Next)) (Int.toNat a_) (bD.mk aP.bw bu.2 aP.Name aP.bP aP.Next)) (Int.toNat a_) (bD.mk bF.bw bF.Guard bI bF.bP bF.Next)) (Int.toNat a_) (bD.mk cm.bw cm.Guard cm.Name db.2 cm.Next)) a_).bind λdV=>(u5 dV.Next db.1).bind λdW=>dj (List.set (List.set (List.set (List.set (List.set cP (Int.toNat a_) (bD.mk aG.2 ak.Guard ak.Name ak.bP ak.Next)) (Int.toNat a_) (bD.mk aP.bw bu.2 aP.Name aP.bP aP.Next)) (Int.toNat a_) (bD.mk bF.bw bF.Guard bI bF.bP bF.Next)) (Int.toNat a_) (bD.mk cm.bw cm.Guard cm.Name db.2 cm.Next)) (Int.toNat a_) (bD.mk dV.bw dV.Guard dV.Name dV.bP dW.2)) dW.1 (i64.wrap (a_+1))) (some (cd,cP))
def sN:Nat->XE->Int->Int->Option (Int×XE)
 |0,_,_,_=>none
 |n+1,cP,cd,a_=>B_ (sN n) cP cd a_
def x4 (J:XE) (ag:Int):Option (Int×XE):=
 cC λn=>sN n J ag 0
def x5 (q7:Int) (sO:Xs) (q8:XE) (ag:Int):Option (Int×Int×Xs×XE):=
 (sK sO ag).bind λak=>(x4 q8 ak.1).bind λaG=>some (aG.1,q7,ak.2,aG.2)
def Ca (dj:Int->Int->Xv) (J:Xs) (cd a_:Int):Xv:=
 cond (decide (a_<(J.length:Int))) ((bR J a_).bind λak=>cond (ak !=cd) (some (-1)) (dj (i64.wrap (cd+1)) (i64.wrap (a_+1)))) (some cd)
def sP (J:Xs):Nat->Int->Int->Xv
 |0,_,_=>none
 |n+1,cd,a_=>Ca (sP J n) J cd a_
def u6 (J:Xs) (ag:Int):Xv:=
 cC λn=>sP J n ag 0
def Cb (J:kx):Xu:=
 (w9 J 1048576).bind λak=>cond (decide (ak<0)) (some true) ((qU J).bind λaG=>(xq aG).bind λaP=>(qU J).bind λbu=>(u0 bu).bind λbI=>(pL bI.1 aP.1).bind λbF=>cond ((!bF)||(bI.2 !=aP.2)) (some false) ((qU J).bind λcm=>(x1 bu cm).bind λdb=>cond (!db) (some false) ((x5 bu.c1 bu.Start bu.cY 1).bind λdV=>cond (decide (dV.1<0)) (some false) ((pL bI.1 aP.1).bind λdW=>cond ((!dW)||(bI.2 !=aP.2)) (some false) ((sK bI.1 1).bind λfJ=>(u6 fJ.2 1).bind λlo=>cond (decide (lo<0)) (some false) (cond (lo !=fJ.1) (some false) ((qU J).bind λlp=>(u0 lp).bind λnS=>(pL nS.1 aP.1).bind λpM=>cond ((!pM)||(nS.2 !=aP.2)) (some false) ((u6 fJ.2 1).bind λq9=>cond (decide (q9<0)) (some false) (cond (q9 !=fJ.1) (some false) (some true))))))))))
end
end Go.nI
