/- Part of a proof that a law returns true for every input. No condition. -/
import Derived.Test.YtndfcecbamffaaaGreatDoorFwA
namespace Go.mY
open List Option Go.IntKind Nat Or
open Go Go.cG
set_option linter.unusedVariables false
noncomputable section
structure gw where
 Kind:Int
 Value:Int
def rq (x:gw):Prop:=(-9223372036854775808<=x.Kind/\x.Kind<=9223372036854775807)/\(-9223372036854775808<=x.Value/\x.Value<=9223372036854775807)
structure iu where
 aY:acd
 Guard:List gw
 Name:aca
 bP:List (List gw)
 Next:List (List gw)
def xn (x:iu):Prop:=(x.aY.length<=9223372036854775807/\∀y∈x.aY,(-9223372036854775808<=y/\y<=9223372036854775807))/\(x.Guard.length<=9223372036854775807/\∀y∈x.Guard,rq y)/\x.Name.length<=9223372036854775807/\(x.bP.length<=9223372036854775807/\∀y∈x.bP,(y.length<=9223372036854775807/\∀z∈y,rq z))/\(x.Next.length<=9223372036854775807/\∀y∈x.Next,(y.length<=9223372036854775807/\∀z∈y,rq z))
structure lS where
 dS:Int
 Start:acd
 cC:List iu
def zJ (x:lS):Prop:=(-9223372036854775808<=x.dS/\x.dS<=9223372036854775807)/\(x.Start.length<=9223372036854775807/\∀y∈x.Start,(-9223372036854775808<=y/\y<=9223372036854775807))/\(x.cC.length<=9223372036854775807/\∀y∈x.cC,xn y)
structure aM where
 Kind:Int
 Value:Int
def DN (x:aM):Prop:=(-9223372036854775808<=x.Kind/\x.Kind<=9223372036854775807)/\(-9223372036854775808<=x.Value/\x.Value<=9223372036854775807)
structure bN where
 aY:acd
 Guard:List aM
 Name:aca
 bP:List (List aM)
 Next:List (List aM)
def TN (x:bN):Prop:=(x.aY.length<=9223372036854775807/\∀y∈x.aY,(-9223372036854775808<=y/\y<=9223372036854775807))/\(x.Guard.length<=9223372036854775807/\∀y∈x.Guard,DN y)/\x.Name.length<=9223372036854775807/\(x.bP.length<=9223372036854775807/\∀y∈x.bP,(y.length<=9223372036854775807/\∀z∈y,DN z))/\(x.Next.length<=9223372036854775807/\∀y∈x.Next,(y.length<=9223372036854775807/\∀z∈y,DN z))
structure ez where
 dS:Int
 Start:acd
 cC:List bN
def abn (x:ez):Prop:=(-9223372036854775808<=x.dS/\x.dS<=9223372036854775807)/\(x.Start.length<=9223372036854775807/\∀y∈x.Start,(-9223372036854775808<=y/\y<=9223372036854775807))/\(x.cC.length<=9223372036854775807/\∀y∈x.cC,TN y)
structure br where
 Label:aca
 Next:acd
abbrev acn:=List gw
abbrev aco:=List iu
abbrev acp:=List aM
abbrev acq:=List bN
abbrev acr:=List br
abbrev ack:=List (List gw)
abbrev acm:=List (List aM)
def abo (x:br):Prop:=x.Label.length<=9223372036854775807/\(x.Next.length<=9223372036854775807/\∀y∈x.Next,(-9223372036854775808<=y/\y<=9223372036854775807))
inductive bY where
 |mk (term:aM) (args:List bY)
def bY.term:bY->aM
 | .mk a _=>a
def bY.args:bY->List bY
 | .mk _ a=>a
def xo (a0:acd) (aa:Int):acg:=
 cond (decide ((i64.wrap (aa-(a0.length:Int)))<0)) (some (-1)) (some (i64.wrap (aa-(a0.length:Int))))
def uX (a0:acn) (aa:Int):acg:=
 cond (decide ((i64.wrap (aa-(a0.length:Int)))<0)) (some (-1)) (some (i64.wrap (aa-(a0.length:Int))))
def TO (jX:Int->Int->acg) (a0:ack) (jd je:Int):acg:=
 cond (decide (je<(a0.length:Int))) ((cg a0 je).bind λaf=>(uX af jd).bind λaA=>cond (decide (aA<0)) (some (-1)) (jX aA (i64.wrap (je+1)))) (some jd)
def DO (a0:ack):Nat->Int->Int->acg
 |0,_,_=>none
 |n+1,jd,je=>TO (DO a0 n) a0 jd je
def xp (a0:ack) (aa:Int):acg:=
 cond (decide ((i64.wrap (aa-(a0.length:Int)))<0)) (some (-1)) (cL λn=>DO a0 n (i64.wrap (aa-(a0.length:Int))) 0)
def xq (a0:iu) (aa:Int):acg:=
 (xo a0.aY aa).bind λaf=>cond (decide (af<0)) (some (-1)) ((uX a0.Guard af).bind λaA=>cond (decide (aA<0)) (some (-1)) (cond (decide ((i64.wrap (aA-(a0.Name.length:Int)))<0)) (some (-1)) ((xp a0.bP (i64.wrap (aA-(a0.Name.length:Int)))).bind λaX=>cond (decide (aX<0)) (some (-1)) ((xp a0.Next aX).bind λbj=>cond (decide (bj<0)) (some (-1)) (some bj)))))
def TP (jX:Int->Int->acg) (a0:aco) (jd je:Int):acg:=
 cond (decide (je<(a0.length:Int))) ((cg a0 je).bind λaf=>(xq af jd).bind λaA=>cond (decide (aA<0)) (some (-1)) (jX aA (i64.wrap (je+1)))) (some jd)
def DP (a0:aco):Nat->Int->Int->acg
 |0,_,_=>none
 |n+1,jd,je=>TP (DP a0 n) a0 jd je
def zK (a0:aco) (aa:Int):acg:=
 cond (decide ((i64.wrap (aa-(a0.length:Int)))<0)) (some (-1)) (cL λn=>DP a0 n (i64.wrap (aa-(a0.length:Int))) 0)
def zL (a0:lS) (aa:Int):acg:=
 (xo a0.Start aa).bind λaf=>cond (decide (af<0)) (some (-1)) ((zK a0.cC af).bind λaA=>cond (decide (aA<0)) (some (-1)) (some aA))
def TQ (cZ:acd->Int->Option acd) (a0 ct:acd) (c7:Int):Option acd:=
 cond (decide (c7<(a0.length:Int))) ((cg a0 c7).bind λaf=>(cg ct c7).bind λaA=>cZ (List.set ct (Int.toNat c7) af) (i64.wrap (c7+1))) (some ct)
def DQ (a0:acd):Nat->acd->Int->Option acd
 |0,_,_=>none
 |n+1,ct,c7=>TQ (DQ a0 n) a0 ct c7
def qp (a0:acd):Option acd:=
 (kz 8 (a0.length:Int)).bind λ_=>cL λn=>DQ a0 n (replicate (Int.toNat (a0.length:Int)) 0) 0
def xr (a0:gw):Option aM:=
 some (aM.mk a0.Kind a0.Value)
def TR (cZ:acp->Int->Option acp) (a0:acn) (ct:acp) (c7:Int):Option acp:=
 cond (decide (c7<(a0.length:Int))) ((cg a0 c7).bind λaf=>(xr af).bind λaA=>(cg ct c7).bind λaX=>cZ (List.set ct (Int.toNat c7) aA) (i64.wrap (c7+1))) (some ct)
def DR (a0:acn):Nat->acp->Int->Option acp
 |0,_,_=>none
 |n+1,ct,c7=>TR (DR a0 n) a0 ct c7
def uY (a0:acn):Option acp:=
 (kz 16 (a0.length:Int)).bind λ_=>cL λn=>DR a0 n (replicate (Int.toNat (a0.length:Int)) (aM.mk 0 0)) 0
def TS (cZ:acm->Int->Option acm) (a0:ack) (ct:acm) (c7:Int):Option acm:=
 cond (decide (c7<(a0.length:Int))) ((cg a0 c7).bind λaf=>(uY af).bind λaA=>(cg ct c7).bind λaX=>cZ (List.set ct (Int.toNat c7) aA) (i64.wrap (c7+1))) (some ct)
def DS (a0:ack):Nat->acm->Int->Option acm
 |0,_,_=>none
 |n+1,ct,c7=>TS (DS a0 n) a0 ct c7
def xt (a0:ack):Option acm:=
 (kz 24 (a0.length:Int)).bind λ_=>cL λn=>DS a0 n (replicate (Int.toNat (a0.length:Int)) []) 0
def xu (a0:iu):Option bN:=
 (qp a0.aY).bind λaf=>(uY a0.Guard).bind λaA=>(xt a0.bP).bind λaX=>(xt a0.Next).bind λbj=>some (bN.mk af aA a0.Name aX bj)
def TT (cZ:acq->Int->Option acq) (a0:aco) (ct:acq) (c7:Int):Option acq:=
 cond (decide (c7<(a0.length:Int))) ((cg a0 c7).bind λaf=>(xu af).bind λaA=>(cg ct c7).bind λaX=>cZ (List.set ct (Int.toNat c7) aA) (i64.wrap (c7+1))) (some ct)
def DT (a0:aco):Nat->acq->Int->Option acq
 |0,_,_=>none
 |n+1,ct,c7=>TT (DT a0 n) a0 ct c7
def zM (a0:aco):Option acq:=
 (kz 112 (a0.length:Int)).bind λ_=>cL λn=>DT a0 n (replicate (Int.toNat (a0.length:Int)) (bN.mk [] [] ([]:aca) [] [])) 0
def s5 (a0:lS):Option ez:=
 (qp a0.Start).bind λaf=>(zM a0.cC).bind λaA=>some (ez.mk a0.dS af aA)
def oF (a0 aa a2:Int):acf:=
 some ((decide (aa<=a0))&&(decide (a0<=a2)))
def DU (dV:Int->acf) (a0:acd) (pG:Int):acf:=
 cond (decide (pG<(a0.length:Int))) ((cg a0 pG).bind λaf=>(oF af 0 63).bind λaA=>cond (!aA) (some false) (dV (i64.wrap (pG+1)))) (some true)
def xv (a0:acd):Nat->Int->acf
 |0,_=>none
 |n+1,pG=>DU (xv a0 n) a0 pG
def zN (a0:acd):acf:=
 cL λn=>xv a0 n 0
def xw (a0:acd) (aa:Int):acf:=
 cond ((a0.length:Int)==aa) ((zN a0).bind λaf=>some af) (some false)
def DV (jX:Int->Int->acg) (a0:acd) (e2 fk:Int):acg:=
 cond (decide (fk<(a0.length:Int))) ((cg a0 fk).bind λaf=>(oF af 1 7).bind λaA=>cond (!aA) (some 0) (jX (i64.wrap (e2*(i64.wrap (af+1)))) (i64.wrap (fk+1)))) (cond (decide (4096<e2)) (some 0) (some e2))
def uZ (a0:acd):Nat->Int->Int->acg
 |0,_,_=>none
 |n+1,e2,fk=>DV (uZ a0 n) a0 e2 fk
def zO (a0:acd):acg:=
 cond (decide (8<(a0.length:Int))) (some 0) (cL λn=>uZ a0 n 1 0)
def zP (a0:aM) (aa:Int):acf:=
 cond (a0.Kind==0) ((oF a0.Value 0 63).bind λaf=>some af) (cond (a0.Kind==1) ((oF a0.Value 0 (i64.wrap (aa-1))).bind λaA=>some aA) (cond (a0.Kind==2) ((oF a0.Value 0 8).bind λaX=>some aX) (cond (a0.Kind==3) (some (a0.Value==0)) (some false))))
def zQ (a0:aM):acg:=
 cond (a0.Kind==2) (some 2) (cond (a0.Kind==3) (some 1) (some 0))
def DW (jX:Int->Int->acf) (a0:acp) (aa iF pH:Int):acf:=
 cond (decide (pH<(a0.length:Int))) (cond (iF==0) (some false) ((cg a0 pH).bind λaf=>(zP af aa).bind λaA=>cond (!aA) (some false) ((zQ af).bind λaX=>jX (i64.wrap (iF+(i64.wrap (aX-1)))) (i64.wrap (pH+1))))) (some (iF==0))
def u0 (a0:acp) (aa:Int):Nat->Int->Int->acf
 |0,_,_=>none
 |n+1,iF,pH=>DW (u0 a0 aa n) a0 aa iF pH
def xx (a0:acp) (aa a2:Int):acf:=
 cond (decide (a2<(a0.length:Int))) (some false) (cL λn=>u0 a0 aa n 1 0)
def DX (dV:Int->acf) (a0:acm) (aa aW:Int):acf:=
 cond (decide (aW<(a0.length:Int))) ((cg a0 aW).bind λaf=>(xx af aa 60).bind λaA=>cond (!aA) (some false) (dV (i64.wrap (aW+1)))) (some true)
def xy (a0:acm) (aa:Int):Nat->Int->acf
 |0,_=>none
 |n+1,aW=>DX (xy a0 aa n) a0 aa aW
def s6 (a0:acm) (aa:Int):acf:=
 cL λn=>xy a0 aa n 0
def xz (a0:UInt8):acf:=
 some ((decide (97<=(a0.toNat:Int)))&&(decide ((a0.toNat:Int)<=122)))
def DY (a0:UInt8):acf:=
 some ((decide (48<=(a0.toNat:Int)))&&(decide ((a0.toNat:Int)<=57)))
def DZ (kh:Int->acf) (a0:aca) (fq:Int):acf:=
 cond (decide (fq<(a0.length:Int))) ((cg a0 fq).bind λaX=>(xz aX).bind λbj=>cond (!bj) ((DY aX).bind λcu=>cond (!cu) (some false) (kh (i64.wrap (fq+1)))) (kh (i64.wrap (fq+1)))) (some true)
def xA (a0:aca):Nat->Int->acf
 |0,_=>none
 |n+1,fq=>DZ (xA a0 n) a0 fq
def zR (a0:aca):acf:=
 cond (a0==([]:aca)) (some false) (cond (decide (10<(a0.length:Int))) (some false) ((cg a0 0).bind λaf=>(xz af).bind λaA=>cond (!aA) (some false) (cL λn=>xA a0 n 0)))
def zS (a0:aca):acf:=
 (zR a0).bind λaf=>some (af&&(!(a0==([116,97,117]:aca))))
def zT (a0:bN) (aa:Int):acf:=
 (zO a0.aY).bind λaf=>cond (af==0) (some false) ((xx a0.Guard (i64.wrap (aa+(a0.aY.length:Int))) 60).bind λaA=>cond ((!aA)||((a0.Next.length:Int) !=aa)) (some false) (cond (a0.Name==([116,97,117]:aca)) (cond (decide (0<(a0.bP.length:Int))) (some false) (cond (decide (2<(a0.bP.length:Int))) (some false) ((s6 a0.bP (i64.wrap (aa+(a0.aY.length:Int)))).bind λaX=>cond aX ((s6 a0.Next (i64.wrap (aa+(a0.aY.length:Int)))).bind λbj=>some bj) (some false)))) ((zS a0.Name).bind λcu=>cond (!cu) (some false) (cond (decide (2<(a0.bP.length:Int))) (some false) ((s6 a0.bP (i64.wrap (aa+(a0.aY.length:Int)))).bind λb2=>cond b2 ((s6 a0.Next (i64.wrap (aa+(a0.aY.length:Int)))).bind λb9=>some b9) (some false))))))
def D0 (kh:Int->acf) (a0:ez) (fq:Int):acf:=
 cond (decide (fq<(a0.cC.length:Int))) ((cg a0.cC fq).bind λaX=>(zT aX a0.dS).bind λbj=>cond (!bj) (some false) (kh (i64.wrap (fq+1)))) (some true)
def xB (a0:ez):Nat->Int->acf
 |0,_=>none
 |n+1,fq=>D0 (xB a0 n) a0 fq
def zU (a0:ez):acf:=
 (oF a0.dS 0 21).bind λaf=>cond (!af) (some false) ((xw a0.Start a0.dS).bind λaA=>cond ((!aA)||(decide (60<(a0.cC.length:Int)))) (some false) (cL λn=>xB a0 n 0))
def zV (a0:acd):Option acd:=
 (room 8 (a0.length)).bind λ_=>some a0
def nW (a0:Bool):acg:=
 cond a0 (some 1) (some 0)
def D1 (dV:Int->Int->acg) (a0:acp) (bW aW:Int):acg:=
 cond (decide (0<aW)) ((cg a0 bW).bind λaf=>(zQ af).bind λaA=>dV (i64.wrap (bW+1)) (i64.wrap (aW+(i64.wrap (aA-1))))) (some bW)
def u1 (a0:acp):Nat->Int->Int->acg
 |0,_,_=>none
 |n+1,bW,aW=>D1 (u1 a0 n) a0 bW aW
def zW (a0:acp) (aa:Int):acg:=
 cL λn=>u1 a0 n aa 1
def zX (a0 aa a2:Int):acg:=
 cond (a0==0) (some (Int.tmod (i64.wrap (aa+a2)) 64)) (cond (a0==1) (some (Int.tmod (i64.wrap ((i64.wrap (aa-a2))+64)) 64)) (cond (a0==2) (some (Int.tmod (i64.wrap (aa*a2)) 64)) (cond (a0==3) ((nW (aa==a2)).bind λaf=>some af) (cond (a0==4) ((nW (aa !=a2)).bind λaA=>some aA) (cond (a0==5) ((nW (decide (aa<a2))).bind λaX=>some aX) (cond (a0==6) ((nW (decide (aa<=a2))).bind λbj=>some bj) (cond (a0==7) (cond (aa !=0) ((nW (a2 !=0)).bind λcu=>some cu) ((nW false).bind λb2=>some b2)) (cond (aa !=0) ((nW true).bind λb9=>some b9) ((nW (a2 !=0)).bind λdM=>some dM)))))))))
def D2 (u2:acp->acd->Int->acg) (a0:acp) (aa:acd) (a2:Int):acg:=
 (cg a0 a2).bind λaf=>cond (af.Kind==0) (some af.Value) (cond (af.Kind==1) ((cg aa af.Value).bind λaA=>some aA) (cond (af.Kind==3) ((u2 a0 aa (i64.wrap (a2+1))).bind λaX=>(nW (aX==0)).bind λbj=>some bj) ((u2 a0 aa (i64.wrap (a2+1))).bind λcu=>(zW a0 (i64.wrap (a2+1))).bind λb2=>(u2 a0 aa b2).bind λb9=>(zX af.Value cu b9).bind λdM=>some dM)))
def s7:Nat->acp->acd->Int->acg
 |0,_,_,_=>none
 |n+1,a0,aa,a2=>D2 (s7 n) a0 aa a2
def D3 (a0:acp) (aa:acd) (a2:Int):acg:=
 cL λn=>s7 n a0 aa a2
def s8 (a0:acp) (aa:acd):acg:=
 (D3 a0 aa 0).bind λaf=>some af
def D4 (cZ:acd->Int->Option acd) (a0:acm) (aa eb:acd) (iv:Int):Option acd:=
 cond (decide (iv<(a0.length:Int))) ((cg a0 iv).bind λaf=>(s8 af aa).bind λaA=>(room 8 (eb.length+1)).bind λ_=>cZ (eb++[aA]) (i64.wrap (iv+1))) (some eb)
def u3 (a0:acm) (aa:acd):Nat->acd->Int->Option acd
 |0,_,_=>none
 |n+1,eb,iv=>D4 (u3 a0 aa n) a0 aa eb iv
def s9 (a0:acm) (aa:acd):Option acd:=
 cL λn=>u3 a0 aa n [] 0
def zY (jX:aca->Int->Option aca) (a0:Int) (qq:aca) (rr pI:Int):Option aca:=
 (room 1 (qq.length+1)).bind λ_=>jX (qq++[(lx (i64.wrap (48+pI)))]) (i64.wrap (Int.tdiv rr 10))
def TU (TV:aca->Int->Option aca) (lj mZ:aca) (nX:Int):Option aca:=
 cond (decide (0<=nX)) ((cg lj nX).bind λaf=>(room 1 (mZ.length+1)).bind λ_=>TV (mZ++[af]) (i64.wrap (nX-1))) (some mZ)
def D5 (lj:aca):Nat->aca->Int->Option aca
 |0,_,_=>none
 |n+1,mZ,nX=>TU (D5 lj n) lj mZ nX
def ru (lj:aca):Option aca:=
 cL λn=>D5 lj n [] (i64.wrap ((lj.length:Int)-1))
def D6 (jX:aca->Int->Option aca) (a0:Int) (e2:aca) (fk:Int):Option aca:=
 cond (fk !=0) (cond (decide ((Int.tmod fk 10)<0)) (zY jX a0 e2 fk (i64.wrap (0-(Int.tmod fk 10)))) (zY jX a0 e2 fk (Int.tmod fk 10))) (cond (decide (a0<0)) ((room 1 (e2.length+1)).bind λ_=>ru (e2++[(45:UInt8)])) (ru e2))
def qs (a0:Int):Nat->aca->Int->Option aca
 |0,_,_=>none
 |n+1,e2,fk=>D6 (qs a0 n) a0 e2 fk
def xC (a0:Int):Option aca:=
 cond (a0==0) (some ([48]:aca)) (cL λn=>qs a0 n [] a0)
def zZ (jX:aca->Int->Option aca) (a0:acd) (qt:aca) (qu:Int):Option aca:=
 (cg a0 qu).bind λaf=>(xC af).bind λaA=>(h8 (qt.length+aA.length)).bind λ_=>jX (qt++aA) (i64.wrap (qu+1))
def D7 (jX:aca->Int->Option aca) (a0:acd) (e2:aca) (fk:Int):Option aca:=
 cond (decide (fk<(a0.length:Int))) (cond (decide (0<fk)) ((h8 (e2.length+1)).bind λ_=>zZ jX a0 (e2++([44]:aca)) fk) (zZ jX a0 e2 fk)) (some e2)
def s_ (a0:acd):Nat->aca->Int->Option aca
 |0,_,_=>none
 |n+1,e2,fk=>D7 (s_ a0 n) a0 e2 fk
def z1 (a0:acd):Option aca:=
 cond ((a0.length:Int)==0) (some ([45]:aca)) (cL λn=>s_ a0 n ([]:aca) 0)
def xD (a0:aca) (aa:acd):Option aca:=
 cond ((aa.length:Int)==0) (some a0) ((h8 (a0.length+1)).bind λ_=>(z1 aa).bind λaf=>(h8 ((a0++([40]:aca)).length+af.length)).bind λ_=>(h8 (((a0++([40]:aca))++af).length+1)).bind λ_=>some (((a0++([40]:aca))++af)++([41]:aca)))
def D8 (dV:acd->Int->Option (Bool×acd)) (aa cl:acd) (aW:Int):Option (Bool×acd):=
 cond (decide (0<=aW)) ((cg cl aW).bind λaf=>(cg aa aW).bind λaA=>cond (decide (af<aA)) (some (true,(List.set cl (Int.toNat aW) (i64.wrap (af+1))))) (dV (List.set cl (Int.toNat aW) 0) (i64.wrap (aW-1)))) (some (false,cl))
def u4 (aa:acd):Nat->acd->Int->Option (Bool×acd)
 |0,_,_=>none
 |n+1,cl,aW=>D8 (u4 aa n) aa cl aW
def z6 (a0 aa:acd):Option (Bool×acd):=
 cL λn=>u4 aa n a0 (i64.wrap ((a0.length:Int)-1))
def D9 (kh:Int->acf) (a0 aa:acd) (c8:Int):acf:=
 cond (decide (c8<(a0.length:Int))) ((cg a0 c8).bind λaf=>(cg aa c8).bind λaA=>cond (af !=aA) (some false) (kh (i64.wrap (c8+1)))) (some true)
def u5 (a0 aa:acd):Nat->Int->acf
 |0,_=>none
 |n+1,c8=>D9 (u5 a0 aa n) a0 aa c8
def z7 (a0 aa:acd):acf:=
 cond ((a0.length:Int) !=(aa.length:Int)) (some false) (cL λn=>u5 a0 aa n 0)
def qv (cZ:acr->Int->Option acr) (jY:acr->Int->acd->Option acr) (a0:ez) (aa:acd) (af:bN) (qw:acr) (qx:Int) (u6:acd):Option acr:=
 (z6 u6 af.aY).bind λaX=>cond (!aX.1) (cZ qw (i64.wrap (qx+1))) (jY qw qx aX.2)
def D_ (cZ:acr->Int->Option acr) (jY:acr->Int->acd->Option acr) (Ea:acr->Int->acd->aca->acd->Bool->Int->Option acr) (a0:ez) (aa:acd) (af:bN) (jf:acr) (ki:Int) (kj:acd) (kP:aca) (kk:acd) (rv:Bool) (lT:Int):Option acr:=
 cond (decide (lT<(jf.length:Int))) (cond rv (Ea jf ki kj kP kk true (i64.wrap (lT+1))) ((cg jf lT).bind λdM=>cond (dM.Label==kP) ((z7 dM.Next kk).bind λdN=>Ea jf ki kj kP kk dN (i64.wrap (lT+1))) (Ea jf ki kj kP kk false (i64.wrap (lT+1))))) (cond (!rv) ((room 40 (jf.length+1)).bind λ_=>qv cZ jY a0 aa af (jf++[(br.mk kP kk)]) ki kj) (qv cZ jY a0 aa af jf ki kj))
def ta (cZ:acr->Int->Option acr) (jY:acr->Int->acd->Option acr) (a0:ez) (aa:acd) (af:bN):Nat->acr->Int->acd->aca->acd->Bool->Int->Option acr
 |0,_,_,_,_,_,_,_=>none
 |n+1,jf,ki,kj,kP,kk,rv,lT=>D_ cZ jY (ta cZ jY a0 aa af n) a0 aa af jf ki kj kP kk rv lT
def Eb (cZ:acr->Int->Option acr) (jY:acr->Int->acd->Option acr) (a0:ez) (aa:acd) (af:bN) (na:acr) (nb:Int) (iw:acd):Option acr:=
 (zV aa).bind λaA=>(room 8 (aA.length+iw.length)).bind λ_=>(s8 af.Guard (aA++iw)).bind λbj=>cond (bj !=0) ((s9 af.bP (aA++iw)).bind λcu=>(xD af.Name cu).bind λb2=>(s9 af.Next (aA++iw)).bind λb9=>cL λn=>ta cZ jY a0 aa af n na nb iw b2 b9 false 0) (qv cZ jY a0 aa af na nb iw)
def oG (cZ:acr->Int->Option acr) (a0:ez) (aa:acd) (af:bN):Nat->acr->Int->acd->Option acr
 |0,_,_,_=>none
 |n+1,na,nb,iw=>Eb cZ (oG cZ a0 aa af n) a0 aa af na nb iw
def Ec (cZ:acr->Int->Option acr) (a0:ez) (aa:acd) (eb:acr) (iv:Int):Option acr:=
 cond (decide (iv<(a0.cC.length:Int))) ((cg a0.cC iv).bind λaf=>(kz 8 (af.aY.length:Int)).bind λ_=>cL λn=>oG cZ a0 aa af n eb iv (replicate (Int.toNat (af.aY.length:Int)) 0)) (some eb)
def oH (a0:ez) (aa:acd):Nat->acr->Int->Option acr
 |0,_,_=>none
 |n+1,eb,iv=>Ec (oH a0 aa n) a0 aa eb iv
def xE (a0:ez) (aa:acd):Option acr:=
 cL λn=>oH a0 aa n [] 0
def z8 (a0:ez) (aa:acd):Option (acr×Int):=
 (zU a0).bind λaf=>cond (!af) (some ([],1)) ((xw aa a0.dS).bind λaA=>cond (!aA) (some ([],2)) ((xE a0 aa).bind λaX=>some (aX,0)))
def nc (a0 aa a2:Int):acf:=
 some ((decide (aa<=a0))&&(decide (a0<=a2)))
def z_ (a0:Int):acf:=
 (nc a0 0 63).bind λaf=>some af
def Aa (a0:Int):acf:=
 (z_ a0).bind λaf=>some (!af)
def Ed (dV:Int->acg) (a0:acd) (fE:Int):acg:=
 cond (decide (fE<(a0.length:Int))) ((cg a0 fE).bind λaf=>(Aa af).bind λaA=>cond aA (some fE) (dV (i64.wrap (fE+1)))) (some (-1))
def xF (a0:acd):Nat->Int->acg
 |0,_=>none
 |n+1,fE=>Ed (xF a0 n) a0 fE
def Ab (a0:acd):acg:=
 cL λn=>xF a0 n 0
def Ac (a0:acd):acf:=
 (Ab a0).bind λaf=>some (decide (0<=af))
def u7 (a0:acd):acf:=
 (Ac a0).bind λaf=>some (!af)
def xG (a0:ez) (aa:acd):acf:=
 cond ((aa.length:Int)==a0.dS) ((u7 aa).bind λaf=>some af) (some false)
def Ee (cZ:Int->Int->acf) (a0:bN) (ct pJ:Int):acf:=
 cond (decide (pJ<(a0.aY.length:Int))) ((cg a0.aY pJ).bind λaf=>(nc af 1 7).bind λaA=>cond (!aA) (some false) (cZ (i64.wrap (ct*(i64.wrap (af+1)))) (i64.wrap (pJ+1)))) (some ((decide ((a0.aY.length:Int)<=8))&&(decide (ct<=4096))))
def u9 (a0:bN):Nat->Int->Int->acf
 |0,_,_=>none
 |n+1,ct,pJ=>Ee (u9 a0 n) a0 ct pJ
def Ad (a0:bN):acf:=
 cL λn=>u9 a0 n 1 0
def Ef (a0:UInt8):acf:=
 some ((decide (48<=(a0.toNat:Int)))&&(decide ((a0.toNat:Int)<=57)))
def Ae (dV:Int->acf) (a0:aca) (lU:Int):acf:=
 cond (decide (lU<(a0.length:Int))) ((cg a0 lU).bind λaf=>cond (!((decide (97<=(af.toNat:Int)))&&(decide ((af.toNat:Int)<=122)))) (cond (lU==0) (some false) ((Ef af).bind λaA=>cond (!aA) (some false) (dV (i64.wrap (lU+1))))) (dV (i64.wrap (lU+1)))) (some ((decide (1<=(a0.length:Int)))&&(decide ((a0.length:Int)<=10))))
def ry (a0:aca):Nat->Int->acf
 |0,_=>none
 |n+1,lU=>Ae (ry a0 n) a0 lU
def Af (a0:aca):acf:=
 cL λn=>ry a0 n 0
def u_ (a0:aca):acf:=
 (Af a0).bind λaf=>some (af&&(!(a0==([116,97,117]:aca))))
def Ag:Option Unit:=
 some ()
def Eg (aa:Int):Option Unit:=
 cond (decide (0<(i64.wrap (aa-(i64.wrap 0))))) ((kz 24 (i64.wrap (aa-(i64.wrap 0)))).bind λ_=>Ag) (Ag)
def Ah (aa:Int):Option Unit:=
 cond (decide (aa<0)) (none) (Eg aa)
def Eh (cZ:Int->Int->Option acm) (a0:List acm) (nd nf:Int) (qy:Bool):Option acm:=
 cZ nd (i64.wrap (nf+1))
def Ei (tb:acm->Int->Option acm) (a0:List acm) (hD:acm) (h2:Int):Option acm:=
 cond (decide (h2<(a0.length:Int))) ((cg a0 h2).bind λaX=>(room 24 (hD.length+aX.length)).bind λ_=>tb (hD++aX) (i64.wrap (h2+1))) (some hD)
def tc (a0:List acm):Nat->acm->Int->Option acm
 |0,_,_=>none
 |n+1,hD,h2=>Ei (tc a0 n) a0 hD h2
def Ej (cZ:Int->Int->Option acm) (a0:List acm) (ct jg:Int):Option acm:=
 cond (decide (jg<(a0.length:Int))) ((cg a0 jg).bind λaf=>cond (decide ((i64.wrap (ct+(af.length:Int)))<0)) (none) (Eh cZ a0 (i64.wrap (ct+(af.length:Int))) jg (decide ((i64.wrap (ct+(af.length:Int)))<0)))) ((Ah ct).bind λaA=>cL λn=>tc a0 n [] 0)
def td (a0:List acm):Nat->Int->Int->Option acm
 |0,_,_=>none
 |n+1,ct,jg=>Ej (td a0 n) a0 ct jg
def Ai (a0:List acm):Option acm:=
 cL λn=>td a0 n 0 0
def va (a0:bN):Option acm:=
 (Ai [[a0.Guard],a0.bP,a0.Next]).bind λaf=>some af
def Aj (a0:aM) (aa:Int):acf:=
 cond (a0.Kind==0) ((z_ a0.Value).bind λaf=>some af) (cond (a0.Kind==1) ((nc a0.Value 0 (i64.wrap (aa-1))).bind λaA=>some aA) (cond (a0.Kind==2) ((nc a0.Value 0 8).bind λaX=>some aX) (cond (a0.Kind==3) (some (a0.Value==0)) (some false))))
def Ak (a0:aM):acg:=
 cond (a0.Kind==2) (some 2) (cond (a0.Kind==3) (some 1) (some 0))
def Ek (jX:Int->Int->acf) (a0:acp) (aa iF pK:Int):acf:=
 cond (decide (pK<(a0.length:Int))) ((cg a0 pK).bind λbj=>cond (iF==0) (some false) ((Aj bj aa).bind λcu=>cond (!cu) (some false) ((Ak bj).bind λb2=>jX (i64.wrap (iF+(i64.wrap (b2-1)))) (i64.wrap (pK+1))))) (some (iF==0))
def vb (a0:acp) (aa:Int):Nat->Int->Int->acf
 |0,_,_=>none
 |n+1,iF,pK=>Ek (vb a0 aa n) a0 aa iF pK
def Al (a0:acp) (aa a2:Int):acf:=
 (nc aa 0 29).bind λaf=>cond (!af) (some false) ((nc a2 1 60).bind λaA=>cond (!aA) (some false) ((nc (a0.length:Int) 1 a2).bind λaX=>cond (!aX) (some false) (cL λn=>vb a0 aa n 1 0)))
def Am (a0:acp) (aa:Int) (a2:bN):acf:=
 (Al a0 (i64.wrap (aa+(a2.aY.length:Int))) 60).bind λaf=>some (!af)
def K7 (dV:Int->acg) (a0:acm) (ea:Int) (dH:bN) (fE:Int):acg:=
 cond (decide (fE<(a0.length:Int))) ((cg a0 fE).bind λaf=>(Am af ea dH).bind λaA=>cond aA (some fE) (dV (i64.wrap (fE+1)))) (some (-1))
def An (a0:acm) (ea:Int) (dH:bN):Nat->Int->acg
 |0,_=>none
 |n+1,fE=>K7 (An a0 ea dH n) a0 ea dH fE
def El (a0:acm) (ea:Int) (dH:bN):acg:=
 cL λn=>An a0 ea dH n 0
def te (a0:acm) (ea:Int) (dH:bN):acf:=
 (El a0 ea dH).bind λaf=>some (decide (0<=af))
def Ao (a0:bN) (aa:Int):acf:=
 (Ad a0).bind λaf=>cond ((!af)||((a0.Next.length:Int) !=aa)) (some false) (cond (decide (0<(a0.bP.length:Int))) (cond (a0.Name==([116,97,117]:aca)) (some false) (cond (decide (2<(a0.bP.length:Int))) (some false) ((u_ a0.Name).bind λaA=>cond (!aA) (some false) ((va a0).bind λaX=>(te aX aa a0).bind λbj=>some (!bj))))) (cond (!(a0.Name==([116,97,117]:aca))) ((u_ a0.Name).bind λcu=>cond (!cu) (some false) ((va a0).bind λb2=>(te b2 aa a0).bind λb9=>some (!b9))) ((va a0).bind λdM=>(te dM aa a0).bind λdN=>some (!dN))))
def Ap (a0:bN) (aa:ez):acf:=
 (Ao a0 aa.dS).bind λaf=>some (!af)
def K8 (dV:Int->acg) (a0:acq) (aa:ez) (fE:Int):acg:=
 cond (decide (fE<(a0.length:Int))) ((cg a0 fE).bind λaf=>(Ap af aa).bind λaA=>cond aA (some fE) (dV (i64.wrap (fE+1)))) (some (-1))
def Aq (a0:acq) (aa:ez):Nat->Int->acg
 |0,_=>none
 |n+1,fE=>K8 (Aq a0 aa n) a0 aa fE
def Em (a0:acq) (aa:ez):acg:=
 cL λn=>Aq a0 aa n 0
def En (a0:acq) (aa:ez):acf:=
 (Em a0 aa).bind λaf=>some (decide (0<=af))
def Ar (a0:ez):acf:=
 (nc a0.dS 0 21).bind λaf=>cond (!af) (some false) ((xG a0 a0.Start).bind λaA=>cond ((!aA)||(decide (60<(a0.cC.length:Int)))) (some false) ((En a0.cC a0).bind λaX=>some (!aX)))
def Eo (pL:acp->Option (aM×(List bY)×acp)) (nB:(List bY)->acp->Int->Option (aM×(List bY)×acp)) (af:aM) (aX:Int) (ng:List bY) (jh:acp) (oI:Int):Option (aM×(List bY)×acp):=
 cond (decide (oI<aX)) ((pL jh).bind λbj=>(room 8 (ng.length+1)).bind λ_=>nB (ng++[(bY.mk bj.1 bj.2.1)]) bj.2.2 (i64.wrap (oI+1))) (some (af,ng,jh))
def tf (pL:acp->Option (aM×(List bY)×acp)) (af:aM) (aX:Int):Nat->(List bY)->acp->Int->Option (aM×(List bY)×acp)
 |0,_,_,_=>none
 |n+1,ng,jh,oI=>Eo pL (tf pL af aX n) af aX ng jh oI
def Ep (pL:acp->Option (aM×(List bY)×acp)) (a0:acp):Option (aM×(List bY)×acp):=
 (cg a0 0).bind λaf=>(iS a0 1 (a0.length:Int)).bind λaA=>(Ak af).bind λaX=>cL λn=>tf pL af aX n [] aA 0
def vc:Nat->acp->Option (aM×(List bY)×acp)
 |0,_=>none
 |n+1,a0=>Ep (vc n) a0
def Er (a0:acp):Option (aM×(List bY)×acp):=
 cL λn=>vc n a0
def vd (a0:acp):Option (aM×(List bY)):=
 (Er a0).bind λaf=>some (af.1,af.2.1)
def As:Option acd:=
 some []
def Es (aa:Int):Option acd:=
 cond (decide (0<(i64.wrap (aa-(i64.wrap 0))))) ((kz 8 (i64.wrap (aa-(i64.wrap 0)))).bind λ_=>As) (As)
def At (aa:Int):Option acd:=
 cond (decide (aa<0)) (none) (Es aa)
def Et (cZ:Int->Int->Option acd) (a0:List acd) (nd nf:Int) (qy:Bool):Option acd:=
 cZ nd (i64.wrap (nf+1))
def Eu (tb:acd->Int->Option acd) (a0:List acd) (hD:acd) (h2:Int):Option acd:=
 cond (decide (h2<(a0.length:Int))) ((cg a0 h2).bind λaX=>(room 8 (hD.length+aX.length)).bind λ_=>tb (hD++aX) (i64.wrap (h2+1))) (some hD)
def tg (a0:List acd):Nat->acd->Int->Option acd
 |0,_,_=>none
 |n+1,hD,h2=>Eu (tg a0 n) a0 hD h2
def Ev (cZ:Int->Int->Option acd) (a0:List acd) (ct jg:Int):Option acd:=
 cond (decide (jg<(a0.length:Int))) ((cg a0 jg).bind λaf=>cond (decide ((i64.wrap (ct+(af.length:Int)))<0)) (none) (Et cZ a0 (i64.wrap (ct+(af.length:Int))) jg (decide ((i64.wrap (ct+(af.length:Int)))<0)))) ((At ct).bind λaA=>cL λn=>tg a0 n aA 0)
def th (a0:List acd):Nat->Int->Int->Option acd
 |0,_,_=>none
 |n+1,ct,jg=>Ev (th a0 n) a0 ct jg
def xH (a0:List acd):Option acd:=
 cL λn=>th a0 n 0 0
def nY (a0:Bool):acg:=
 cond a0 (some 1) (some 0)
def Au (a0 aa a2:Int):acg:=
 cond (a0==0) (some (Int.tmod (i64.wrap (aa+a2)) 64)) (cond (a0==1) (some (Int.tmod (i64.wrap ((i64.wrap (aa-a2))+64)) 64)) (cond (a0==2) (some (Int.tmod (i64.wrap (aa*a2)) 64)) (cond (a0==3) ((nY (aa==a2)).bind λaf=>some af) (cond (a0==4) ((nY (aa !=a2)).bind λaA=>some aA) (cond (a0==5) ((nY (decide (aa<a2))).bind λaX=>some aX) (cond (a0==6) ((nY (decide (aa<=a2))).bind λbj=>some bj) (cond (a0==7) (cond (aa !=0) ((nY (a2 !=0)).bind λcu=>some cu) ((nY false).bind λb2=>some b2)) (cond (aa !=0) ((nY true).bind λb9=>some b9) ((nY (a2 !=0)).bind λdM=>some dM)))))))))
def Ew (ve:bY->acd->acg) (a0:bY) (aa:acd):acg:=
 cond (a0.term.Kind==0) (some a0.term.Value) (cond (a0.term.Kind==1) ((cg aa a0.term.Value).bind λaf=>some af) (cond (a0.term.Kind==3) ((cg a0.args 0).bind λaA=>(ve aA aa).bind λaX=>(nY (aX==0)).bind λbj=>some bj) ((cg a0.args 0).bind λcu=>(ve cu aa).bind λb2=>(cg a0.args 1).bind λb9=>(ve b9 aa).bind λdM=>(Au a0.term.Value b2 dM).bind λdN=>some dN)))
def ti:Nat->bY->acd->acg
 |0,_,_=>none
 |n+1,a0,aa=>Ew (ti n) a0 aa
def xI (a0:bY) (aa:acd):acg:=
 cL λn=>ti n a0 aa
def vf (a0:acp) (aa:acd):acg:=
 (vd a0).bind λaf=>(xI (bY.mk af.1 af.2) aa).bind λaA=>some aA
def Ex (cZ:acd->Int->Option acd) (a0:acm) (aa eb:acd) (nZ:Int):Option acd:=
 cond (decide (nZ<(a0.length:Int))) ((cg a0 nZ).bind λaf=>(vf af aa).bind λaA=>(room 8 (eb.length+1)).bind λ_=>cZ (eb++[aA]) (i64.wrap (nZ+1))) (some eb)
def vg (a0:acm) (aa:acd):Nat->acd->Int->Option acd
 |0,_,_=>none
 |n+1,eb,nZ=>Ex (vg a0 aa n) a0 aa eb nZ
def xJ (a0:acm) (aa:acd):Option acd:=
 cL λn=>vg a0 aa n [] 0
def xK (a0 aa:Int):Option aca:=if 0<=a0/\a0<100/\aa=10 then some (k3 a0.toNat)else none
def xL (a0:Int):Option aca:=
 (xK a0 10).bind λaf=>some af
def strings_Join (a0:nq) (aa:aca):Option aca:=if a0.length<=140737488355328/\(hQ a0 aa).length<=140737488355328 then some (hQ a0 aa)else none
def Ey (cZ:nq->Int->Option aca) (a0:acd) (aa:aca) (eb:nq) (kQ:Int):Option aca:=
 cond (decide (kQ<(a0.length:Int))) ((cg a0 kQ).bind λaf=>(xL af).bind λaA=>(cg eb kQ).bind λaX=>cZ (List.set eb (Int.toNat kQ) aA) (i64.wrap (kQ+1))) ((strings_Join eb aa).bind λbj=>some bj)
def vh (a0:acd) (aa:aca):Nat->nq->Int->Option aca
 |0,_,_=>none
 |n+1,eb,kQ=>Ey (vh a0 aa n) a0 aa eb kQ
def vi (a0:acd) (aa:aca):Option aca:=
 (kz 16 (a0.length:Int)).bind λ_=>cL λn=>vh a0 aa n (replicate (Int.toNat (a0.length:Int)) ([]:aca)) 0
def Av (a0:aca) (aa:acd):Option (aca×Bool):=
 cond (a0==([116,97,117]:aca)) (some (([116,97,117]:aca),((aa.length:Int)==0))) ((u_ a0).bind λaA=>cond (!aA) (some (([]:aca),false)) (cond (decide (2<(aa.length:Int))) (some (([]:aca),false)) ((u7 aa).bind λaX=>cond (!aX) (some (([]:aca),false)) (cond ((aa.length:Int)==0) (some (a0,true)) ((h8 (a0.length+1)).bind λ_=>(vi aa ([44]:aca)).bind λbj=>(h8 ((a0++([40]:aca)).length+bj.length)).bind λ_=>(h8 (((a0++([40]:aca))++bj).length+1)).bind λ_=>some ((((a0++([40]:aca))++bj)++([41]:aca)),true))))))
def Aw (a0 ea:acd) (dH:acp) (fO:aca) (mB mC:acm) (a2:gk) (a3:acr):Option (gk×acr):=
 (xJ mB a0).bind λaf=>(Av fO af).bind λaA=>(xJ mC a0).bind λaX=>(h8 (aA.1.length+1)).bind λ_=>(vi aX ([44]:aca)).bind λbj=>(h8 ((aA.1++([32]:aca)).length+bj.length)).bind λ_=>cond (!(jq ((aA.1++([32]:aca))++bj) a2)) ((room 40 (a3.length+1)).bind λ_=>some ((jr ((aA.1++([32]:aca))++bj) true a2),(a3++[(br.mk aA.1 aX)]))) (some (a2,a3))
def Ez (a0 lV:acd) (lW:acp) (lX:aca) (lY lZ:acm) (xM:gk) (xN:acr):Option (Bool×acd×acp×aca×acm×acm×gk×acr):=
 some (true,lV,lW,lX,lY,lZ,xM,xN)
def Ax (a0 aa:acd) (h3 a201:Int) (kR:List bY) (lV:acd) (lW:acp) (lX:aca) (lY lZ:acm) (pM:gk) (pN:acr):Option (Bool×acd×acp×aca×acm×acm×gk×acr):=
 (xH [aa,a0]).bind λaf=>(xI (bY.mk (aM.mk h3 a201) kR) af).bind λaA=>cond (aA !=0) ((Aw af lV lW lX lY lZ pM pN).bind λaX=>Ez a0 lV lW lX lY lZ aX.1 aX.2) (Ez a0 lV lW lX lY lZ pM pN)
def EA (cX:acd->acp->aca->acm->acm->gk->acr->acd->Option (acd×Int×Int×(List bY)×acd×acp×aca×acm×acm×gk×acr)) (TW:acd->acp->aca->acm->acm->gk->acr->acd->Int->Option (acd×Int×Int×(List bY)×acd×acp×aca×acm×acm×gk×acr)) (a0 ea:acd) (dH:aM) (fO:List bY) (kl:acd) (km:acp) (kn:aca) (ko kp:acm) (kq:gk) (kr:acr) (ks:acd) (hL:Int):Option (acd×Int×Int×(List bY)×acd×acp×aca×acm×acm×gk×acr):=
 cond (decide (0<=hL)) ((cg ks hL).bind λaA=>(cg a0 hL).bind λaX=>cond (aA==aX) (TW kl km kn ko kp kq kr (List.set ks (Int.toNat hL) 0) (i64.wrap (hL-1))) (cond (decide (hL<0)) (some (ea,dH.Kind,dH.Value,fO,kl,km,kn,ko,kp,kq,kr)) (cX kl km kn ko kp kq kr (List.set ks (Int.toNat hL) (i64.wrap (aA+1)))))) (cond (decide (hL<0)) (some (ea,dH.Kind,dH.Value,fO,kl,km,kn,ko,kp,kq,kr)) ((cg ks hL).bind λbj=>cX kl km kn ko kp kq kr (List.set ks (Int.toNat hL) (i64.wrap (bj+1)))))
def tj (cX:acd->acp->aca->acm->acm->gk->acr->acd->Option (acd×Int×Int×(List bY)×acd×acp×aca×acm×acm×gk×acr)) (a0 ea:acd) (dH:aM) (fO:List bY):Nat->acd->acp->aca->acm->acm->gk->acr->acd->Int->Option (acd×Int×Int×(List bY)×acd×acp×aca×acm×acm×gk×acr)
 |0,_,_,_,_,_,_,_,_,_=>none
 |n+1,kl,km,kn,ko,kp,kq,kr,ks,hL=>EA cX (tj cX a0 ea dH fO n) a0 ea dH fO kl km kn ko kp kq kr ks hL
def EB (cX:acd->acp->aca->acm->acm->gk->acr->acd->Option (acd×Int×Int×(List bY)×acd×acp×aca×acm×acm×gk×acr)) (a0 ea:acd) (dH:aM) (fO:List bY) (rz:acd) (rA:acp) (rB:aca) (rC rD:acm) (rE:gk) (rF:acr) (nh:acd):Option (acd×Int×Int×(List bY)×acd×acp×aca×acm×acm×gk×acr):=
 (Ax nh ea dH.Kind dH.Value fO rz rA rB rC rD rE rF).bind λaf=>cond af.1 (cL λn=>tj cX a0 ea dH fO n af.2.1 af.2.2.1 af.2.2.2.1 af.2.2.2.2.1 af.2.2.2.2.2.1 af.2.2.2.2.2.2.1 af.2.2.2.2.2.2.2 nh (i64.wrap ((nh.length:Int)-1))) (some (ea,dH.Kind,dH.Value,fO,af.2.1,af.2.2.1,af.2.2.2.1,af.2.2.2.2.1,af.2.2.2.2.2.1,af.2.2.2.2.2.2.1,af.2.2.2.2.2.2.2))
def qz (a0 ea:acd) (dH:aM) (fO:List bY):Nat->acd->acp->aca->acm->acm->gk->acr->acd->Option (acd×Int×Int×(List bY)×acd×acp×aca×acm×acm×gk×acr)
 |0,_,_,_,_,_,_,_,_=>none
 |n+1,rz,rA,rB,rC,rD,rE,rF,nh=>EB (qz a0 ea dH fO n) a0 ea dH fO rz rA rB rC rD rE rF nh
def Ay (a0 ea:acd) (dH:aM) (fO:List bY) (mB:acd) (mC:acp) (a105:aca) (tk a107:acm) (tl:gk) (a109:acr):Option (acd×Int×Int×(List bY)×acd×acp×aca×acm×acm×gk×acr):=
 (kz 8 (a0.length:Int)).bind λ_=>cL λn=>qz a0 ea dH fO n mB mC a105 tk a107 tl a109 (replicate (Int.toNat (a0.length:Int)) 0)
def EC (a0:bN) (aa:acd) (h3:bN) (a201:gk) (kR:acr):Option (acd×acp×aca×acm×acm×gk×acr):=
 (vd a0.Guard).bind λaf=>(Ay a0.aY aa af.1 af.2 h3.aY h3.Guard h3.Name h3.bP h3.Next a201 kR).bind λaA=>some (aA.2.2.2.2.1,aA.2.2.2.2.2.1,aA.2.2.2.2.2.2.1,aA.2.2.2.2.2.2.2.1,aA.2.2.2.2.2.2.2.2.1,aA.2.2.2.2.2.2.2.2.2.1,aA.2.2.2.2.2.2.2.2.2.2)
def ED (nB:acr->gk->Int->Option acr) (a0:ez) (aa:acd) (jh:acr) (rG:gk) (oJ:Int):Option acr:=
 cond (decide (oJ<(a0.cC.length:Int))) ((cg a0.cC oJ).bind λaf=>(EC af aa af rG jh).bind λaA=>nB aA.2.2.2.2.2.2 aA.2.2.2.2.2.1 (i64.wrap (oJ+1))) (some jh)
def vj (a0:ez) (aa:acd):Nat->acr->gk->Int->Option acr
 |0,_,_,_=>none
 |n+1,jh,rG,oJ=>ED (vj a0 aa n) a0 aa jh rG oJ
def xO (a0:ez) (aa:acd):Option acr:=
 cL λn=>vj a0 aa n [] [] 0
def xP (a0:ez) (aa:acd):Option (acr×Int):=
 (Ar a0).bind λaf=>cond (!af) (some ([],1)) ((xG a0 aa).bind λaA=>cond (!aA) (some ([],2)) ((xO a0 aa).bind λaX=>some (aX,0)))
def TX (kh:Int->acf) (a0 aa:acd) (c8:Int):acf:=
 cond (decide (c8<(a0.length:Int))) ((cg a0 c8).bind λaf=>(cg aa c8).bind λaA=>cond (af !=aA) (some false) (kh (i64.wrap (c8+1)))) (some true)
def EE (a0 aa:acd):Nat->Int->acf
 |0,_=>none
 |n+1,c8=>TX (EE a0 aa n) a0 aa c8
def tm (a0 aa:acd):acf:=
 cond ((a0.length:Int) !=(aa.length:Int)) (some false) (cL λn=>EE a0 aa n 0)
def xQ (a0 aa:br):acf:=
 cond (!(a0.Label==aa.Label)) (some false) ((tm a0.Next aa.Next).bind λaf=>cond (!af) (some false) (some true))
def TY (kh:Int->acf) (a0 aa:acr) (c8:Int):acf:=
 cond (decide (c8<(a0.length:Int))) ((cg a0 c8).bind λaf=>(cg aa c8).bind λaA=>(xQ af aA).bind λaX=>cond (!aX) (some false) (kh (i64.wrap (c8+1)))) (some true)
def EF (a0 aa:acr):Nat->Int->acf
 |0,_=>none
 |n+1,c8=>TY (EF a0 aa n) a0 aa c8
def vk (a0 aa:acr):acf:=
 cond ((a0.length:Int) !=(aa.length:Int)) (some false) (cL λn=>EF a0 aa n 0)
def xR (a0 aa:aM):acf:=
 cond (a0.Kind !=aa.Kind) (some false) (cond (a0.Value !=aa.Value) (some false) (some true))
def TZ (kh:Int->acf) (a0 aa:acp) (c8:Int):acf:=
 cond (decide (c8<(a0.length:Int))) ((cg a0 c8).bind λaf=>(cg aa c8).bind λaA=>(xR af aA).bind λaX=>cond (!aX) (some false) (kh (i64.wrap (c8+1)))) (some true)
def EG (a0 aa:acp):Nat->Int->acf
 |0,_=>none
 |n+1,c8=>TZ (EG a0 aa n) a0 aa c8
def vl (a0 aa:acp):acf:=
 cond ((a0.length:Int) !=(aa.length:Int)) (some false) (cL λn=>EG a0 aa n 0)
def T0 (kh:Int->acf) (a0 aa:acm) (c8:Int):acf:=
 cond (decide (c8<(a0.length:Int))) ((cg a0 c8).bind λaf=>(cg aa c8).bind λaA=>(vl af aA).bind λaX=>cond (!aX) (some false) (kh (i64.wrap (c8+1)))) (some true)
def EH (a0 aa:acm):Nat->Int->acf
 |0,_=>none
 |n+1,c8=>T0 (EH a0 aa n) a0 aa c8
def xS (a0 aa:acm):acf:=
 cond ((a0.length:Int) !=(aa.length:Int)) (some false) (cL λn=>EH a0 aa n 0)
def xT (a0 aa:bN):acf:=
 (tm a0.aY aa.aY).bind λaf=>cond (!af) (some false) ((vl a0.Guard aa.Guard).bind λaA=>cond (!aA) (some false) (cond (!(a0.Name==aa.Name)) (some false) ((xS a0.bP aa.bP).bind λaX=>cond (!aX) (some false) ((xS a0.Next aa.Next).bind λbj=>cond (!bj) (some false) (some true)))))
def T1 (kh:Int->acf) (a0 aa:acq) (c8:Int):acf:=
 cond (decide (c8<(a0.length:Int))) ((cg a0 c8).bind λaf=>(cg aa c8).bind λaA=>(xT af aA).bind λaX=>cond (!aX) (some false) (kh (i64.wrap (c8+1)))) (some true)
def EI (a0 aa:acq):Nat->Int->acf
 |0,_=>none
 |n+1,c8=>T1 (EI a0 aa n) a0 aa c8
def Az (a0 aa:acq):acf:=
 cond ((a0.length:Int) !=(aa.length:Int)) (some false) (cL λn=>EI a0 aa n 0)
def AA (a0 aa:ez):acf:=
 cond (a0.dS !=aa.dS) (some false) ((tm a0.Start aa.Start).bind λaf=>cond (!af) (some false) ((Az a0.cC aa.cC).bind λaA=>cond (!aA) (some false) (some true)))
def EJ (dV:acd->Int->Int->Option (Int×acd)) (cl:acd) (bW aW:Int):Option (Int×acd):=
 cond (decide (aW<(cl.length:Int))) ((cg cl aW).bind λaf=>dV (List.set cl (Int.toNat aW) bW) (i64.wrap (bW+1)) (i64.wrap (aW+1))) (some (bW,cl))
def vn:Nat->acd->Int->Int->Option (Int×acd)
 |0,_,_,_=>none
 |n+1,cl,bW,aW=>EJ (vn n) cl bW aW
def tn (a0:acd) (aa:Int):Option (Int×acd):=
 cL λn=>vn n a0 aa 0
def EK (dV:acp->Int->Int->Option (Int×acp)) (cl:acp) (bW aW:Int):Option (Int×acp):=
 cond (decide (aW<(cl.length:Int))) ((cg cl aW).bind λaf=>(cg (List.set cl (Int.toNat aW) (aM.mk bW af.Value)) aW).bind λaA=>dV (List.set (List.set cl (Int.toNat aW) (aM.mk bW af.Value)) (Int.toNat aW) (aM.mk aA.Kind (i64.wrap (bW+1)))) (i64.wrap ((i64.wrap (bW+1))+1)) (i64.wrap (aW+1))) (some (bW,cl))
def vo:Nat->acp->Int->Int->Option (Int×acp)
 |0,_,_,_=>none
 |n+1,cl,bW,aW=>EK (vo n) cl bW aW
def xU (a0:acp) (aa:Int):Option (Int×acp):=
 cL λn=>vo n a0 aa 0
def AB (kh:Int->aca->Option aca) (kS:Int) (fq:aca):Option aca:=
 cond (decide (0<kS)) ((h8 (1+fq.length)).bind λ_=>kh (i64.wrap (Int.tdiv kS 10)) ([(lx (i64.wrap (48+(Int.tmod kS 10))))]++fq)) ((h8 (1+fq.length)).bind λ_=>some (([109]:aca)++fq))
def tp:Nat->Int->aca->Option aca
 |0,_,_=>none
 |n+1,kS,fq=>AB (tp n) kS fq
def vp (a0:Int):Option aca:=
 cond (decide (a0<=0)) (some ([109,48]:aca)) (cL λn=>tp n a0 ([]:aca))
def EL (dV:acm->Int->Int->Option (Int×acm)) (cl:acm) (bW aW:Int):Option (Int×acm):=
 cond (decide (aW<(cl.length:Int))) ((cg cl aW).bind λaf=>(xU af bW).bind λaA=>dV (List.set cl (Int.toNat aW) aA.2) aA.1 (i64.wrap (aW+1))) (some (bW,cl))
def vq:Nat->acm->Int->Int->Option (Int×acm)
 |0,_,_,_=>none
 |n+1,cl,bW,aW=>EL (vq n) cl bW aW
def xV (a0:acm) (aa:Int):Option (Int×acm):=
 cL λn=>vq n a0 aa 0
def EM (dV:acq->Int->Int->Option (Int×acq)) (cl:acq) (bW aW:Int):Option (Int×acq):=
 cond (decide (aW<(cl.length:Int))) ((cg cl aW).bind λaf=>(tn af.aY bW).bind λaA=>(cg (List.set cl (Int.toNat aW) (bN.mk aA.2 af.Guard af.Name af.bP af.Next)) aW).bind λaX=>(xU aX.Guard aA.1).bind λbj=>(vp bj.1).bind λcu=>(cg (List.set (List.set cl (Int.toNat aW) (bN.mk aA.2 af.Guard af.Name af.bP af.Next)) (Int.toNat aW) (bN.mk aX.aY bj.2 aX.Name aX.bP aX.Next)) aW).bind λb2=>(cg (List.set (List.set (List.set cl (Int.toNat aW) (bN.mk aA.2 af.Guard af.Name af.bP af.Next)) (Int.toNat aW) (bN.mk aX.aY bj.2 aX.Name aX.bP aX.Next)) (Int.toNat aW) (bN.mk b2.aY b2.Guard cu b2.bP b2.Next)) aW).bind λb9=>(xV b9.bP (i64.wrap (bj.1+1))).bind λdM=>(cg (List.set (List.set (List.set (List.set cl (Int.toNat aW) (bN.mk aA.2 af.Guard af.Name af.bP af.Next)) (Int.toNat aW) (bN.mk aX.aY bj.2 aX.Name aX.bP aX.Next)) (Int.toNat aW) (bN.mk b2.aY b2.Guard cu b2.bP b2.Next)) (Int.toNat aW) (bN.mk b9.aY b9.Guard b9.Name dM.2 b9.Next)) aW).bind λdN=>(xV dN.Next dM.1).bind λfa=>dV (List.set (List.set (List.set (List.set (List.set cl (Int.toNat aW) (bN.mk aA.2 af.Guard af.Name af.bP af.Next)) (Int.toNat aW) (bN.mk aX.aY bj.2 aX.Name aX.bP aX.Next)) (Int.toNat aW) (bN.mk b2.aY b2.Guard cu b2.bP b2.Next)) (Int.toNat aW) (bN.mk b9.aY b9.Guard b9.Name dM.2 b9.Next)) (Int.toNat aW) (bN.mk dN.aY dN.Guard dN.Name dN.bP fa.2)) fa.1 (i64.wrap (aW+1))) (some (bW,cl))
def vr:Nat->acq->Int->Int->Option (Int×acq)
 |0,_,_,_=>none
 |n+1,cl,bW,aW=>EM (vr n) cl bW aW
def AD (a0:acq) (aa:Int):Option (Int×acq):=
 cL λn=>vr n a0 aa 0
def AE (tq:Int) (vt:acd) (tr:acq) (aa:Int):Option (Int×Int×acd×acq):=
 (tn vt aa).bind λaf=>(AD tr af.1).bind λaA=>some (aA.1,tq,af.2,aA.2)
def EN (dV:acr->Int->Int->Option (Int×acr)) (cl:acr) (bW aW:Int):Option (Int×acr):=
 cond (decide (aW<(cl.length:Int))) ((vp bW).bind λaf=>(cg cl aW).bind λaA=>(cg (List.set cl (Int.toNat aW) (br.mk af aA.Next)) aW).bind λaX=>(tn aX.Next (i64.wrap (bW+1))).bind λbj=>dV (List.set (List.set cl (Int.toNat aW) (br.mk af aA.Next)) (Int.toNat aW) (br.mk aX.Label bj.2)) bj.1 (i64.wrap (aW+1))) (some (bW,cl))
def vu:Nat->acr->Int->Int->Option (Int×acr)
 |0,_,_,_=>none
 |n+1,cl,bW,aW=>EN (vu n) cl bW aW
def AF (a0:acr) (aa:Int):Option (Int×acr):=
 cL λn=>vu n a0 aa 0
def EO (dV:Int->Int->acg) (a0:acd) (bW aW:Int):acg:=
 cond (decide (aW<(a0.length:Int))) ((cg a0 aW).bind λaf=>cond (af !=bW) (some (-1)) (dV (i64.wrap (bW+1)) (i64.wrap (aW+1)))) (some bW)
def vv (a0:acd):Nat->Int->Int->acg
 |0,_,_=>none
 |n+1,bW,aW=>EO (vv a0 n) a0 bW aW
def AG (a0:acd) (aa:Int):acg:=
 cL λn=>vv a0 n aa 0
def EP (dV:Int->Int->acg) (a0:acr) (bW aW:Int):acg:=
 cond (decide (aW<(a0.length:Int))) ((cg a0 aW).bind λaf=>(vp bW).bind λaA=>cond (!(af.Label==aA)) (some (-1)) ((AG af.Next (i64.wrap (bW+1))).bind λaX=>cond (decide (aX<0)) (some (-1)) (dV aX (i64.wrap (aW+1))))) (some bW)
def vw (a0:acr):Nat->Int->Int->acg
 |0,_,_=>none
 |n+1,bW,aW=>EP (vw a0 n) a0 bW aW
def xW (a0:acr) (aa:Int):acg:=
 cL λn=>vw a0 n aa 0
def ER (a0:lS) (aa:acd):acf:=
 cond (decide (1048576<(aa.length:Int))) (some true) ((zL a0 1048576).bind λaf=>cond (decide (af<0)) (some true) ((s5 a0).bind λaA=>(qp aa).bind λaX=>(z8 aA aX).bind λbj=>(s5 a0).bind λcu=>(qp aa).bind λb2=>(xP cu b2).bind λb9=>(vk b9.1 bj.1).bind λdM=>cond ((!dM)||(b9.2 !=bj.2)) (some false) ((s5 a0).bind λdN=>(AA cu dN).bind λfa=>cond (!fa) (some false) ((qp aa).bind λl0=>(tm b2 l0).bind λxX=>cond (!xX) (some false) ((AE cu.dS cu.Start cu.cC 1).bind λrH=>(tn b2 rH.1).bind λrI=>cond (decide (rI.1<0)) (some false) ((vk b9.1 bj.1).bind λrJ=>cond ((!rJ)||(b9.2 !=bj.2)) (some false) ((AF b9.1 1).bind λkt=>(xW kt.2 1).bind λrK=>cond (decide (rK<0)) (some false) (cond (rK !=kt.1) (some false) ((s5 a0).bind λxY=>(qp aa).bind λxZ=>(xP xY xZ).bind λrL=>(vk rL.1 bj.1).bind λAH=>cond ((!AH)||(rL.2 !=bj.2)) (some false) ((xW kt.2 1).bind λAJ=>cond (decide (AJ<0)) (some false) (cond (AJ !=kt.1) (some false) (some true))))))))))))
end
end Go.mY
