/- Part of a proof that a law returns true for every input. No condition. -/
import Derived.Test.YtndfcecbamffaaaGreatFwA
namespace Go.nc
open List Option Go.IntKind Nat Or
open Go Go.c3
set_option linter.unusedVariables false
noncomputable section
structure gX where
 Kind:Int
 Value:Int
def r2 (x:gX):Prop:=(-9223372036854775808<=x.Kind/\x.Kind<=9223372036854775807)/\(-9223372036854775808<=x.Value/\x.Value<=9223372036854775807)
structure i0 where
 br:afb
 Guard:List gX
 Name:nq
 bD:List (List gX)
 Next:List (List gX)
def xT (x:i0):Prop:=(x.br.length<=9223372036854775807/\∀y∈x.br,(-9223372036854775808<=y/\y<=9223372036854775807))/\(x.Guard.length<=9223372036854775807/\∀y∈x.Guard,r2 y)/\x.Name.length<=9223372036854775807/\(x.bD.length<=9223372036854775807/\∀y∈x.bD,(y.length<=9223372036854775807/\∀z∈y,r2 z))/\(x.Next.length<=9223372036854775807/\∀y∈x.Next,(y.length<=9223372036854775807/\∀z∈y,r2 z))
structure lZ where
 bz:Int
 Start:afb
 bu:List i0
def AG (x:lZ):Prop:=(-9223372036854775808<=x.bz/\x.bz<=9223372036854775807)/\(x.Start.length<=9223372036854775807/\∀y∈x.Start,(-9223372036854775808<=y/\y<=9223372036854775807))/\(x.bu.length<=9223372036854775807/\∀y∈x.bu,xT y)
structure aD where
 Kind:Int
 Value:Int
def E0 (x:aD):Prop:=(-9223372036854775808<=x.Kind/\x.Kind<=9223372036854775807)/\(-9223372036854775808<=x.Value/\x.Value<=9223372036854775807)
structure bc where
 br:afb
 Guard:List aD
 Name:nq
 bD:List (List aD)
 Next:List (List aD)
def Vf (x:bc):Prop:=(x.br.length<=9223372036854775807/\∀y∈x.br,(-9223372036854775808<=y/\y<=9223372036854775807))/\(x.Guard.length<=9223372036854775807/\∀y∈x.Guard,E0 y)/\x.Name.length<=9223372036854775807/\(x.bD.length<=9223372036854775807/\∀y∈x.bD,(y.length<=9223372036854775807/\∀z∈y,E0 z))/\(x.Next.length<=9223372036854775807/\∀y∈x.Next,(y.length<=9223372036854775807/\∀z∈y,E0 z))
structure bg where
 bz:Int
 Start:afb
 bu:List bc
abbrev afk:=List gX
abbrev afl:=List i0
abbrev afm:=List aD
abbrev afn:=List bc
abbrev afi:=List (List gX)
abbrev afj:=List (List aD)
def aei (x:bg):Prop:=(-9223372036854775808<=x.bz/\x.bz<=9223372036854775807)/\(x.Start.length<=9223372036854775807/\∀y∈x.Start,(-9223372036854775808<=y/\y<=9223372036854775807))/\(x.bu.length<=9223372036854775807/\∀y∈x.bu,Vf y)
inductive bI where
 |mk (term:aD) (args:List bI)
def bI.term:bI->aD
 | .mk a _=>a
def bI.args:bI->List bI
 | .mk _ a=>a
def xU (J:afb) (ab:Int):afe:=
 cond (decide ((i64.wrap (ab-(J.length:Int)))<0)) (some (-1)) (some (i64.wrap (ab-(J.length:Int))))
def u4 (J:afk) (ab:Int):afe:=
 cond (decide ((i64.wrap (ab-(J.length:Int)))<0)) (some (-1)) (some (i64.wrap (ab-(J.length:Int))))
def Vg (kj:Int->Int->afe) (J:afi) (jK dH:Int):afe:=
 cond (decide (dH<(J.length:Int))) ((bG J dH).bind λah=>(u4 ah jK).bind λaA=>cond (decide (aA<0)) (some (-1)) (kj aA (i64.wrap (dH+1)))) (some jK)
def E1 (J:afi):Nat->Int->Int->afe
 |0,_,_=>none
 |n+1,jK,dH=>Vg (E1 J n) J jK dH
def xV (J:afi) (ab:Int):afe:=
 cond (decide ((i64.wrap (ab-(J.length:Int)))<0)) (some (-1)) (cA λn=>E1 J n (i64.wrap (ab-(J.length:Int))) 0)
def xW (J:i0) (ab:Int):afe:=
 (xU J.br ab).bind λah=>cond (decide (ah<0)) (some (-1)) ((u4 J.Guard ah).bind λaA=>cond (decide (aA<0)) (some (-1)) (cond (decide ((i64.wrap (aA-(J.Name.length:Int)))<0)) (some (-1)) ((xV J.bD (i64.wrap (aA-(J.Name.length:Int)))).bind λaL=>cond (decide (aL<0)) (some (-1)) ((xV J.Next aL).bind λaQ=>cond (decide (aQ<0)) (some (-1)) (some aQ)))))
def Vh (kj:Int->Int->afe) (J:afl) (jK dH:Int):afe:=
 cond (decide (dH<(J.length:Int))) ((bG J dH).bind λah=>(xW ah jK).bind λaA=>cond (decide (aA<0)) (some (-1)) (kj aA (i64.wrap (dH+1)))) (some jK)
def E2 (J:afl):Nat->Int->Int->afe
 |0,_,_=>none
 |n+1,jK,dH=>Vh (E2 J n) J jK dH
def AH (J:afl) (ab:Int):afe:=
 cond (decide ((i64.wrap (ab-(J.length:Int)))<0)) (some (-1)) (cA λn=>E2 J n (i64.wrap (ab-(J.length:Int))) 0)
def AJ (J:lZ) (ab:Int):afe:=
 (xU J.Start ab).bind λah=>cond (decide (ah<0)) (some (-1)) ((AH J.bu ah).bind λaA=>cond (decide (aA<0)) (some (-1)) (some aA))
def Vi (cL:afb->Int->Option afb) (J cc:afb) (cH:Int):Option afb:=
 cond (decide (cH<(J.length:Int))) ((bG J cH).bind λah=>(bG cc cH).bind λaA=>cL (List.set cc (Int.toNat cH) ah) (i64.wrap (cH+1))) (some cc)
def E3 (J:afb):Nat->afb->Int->Option afb
 |0,_,_=>none
 |n+1,cc,cH=>Vi (E3 J n) J cc cH
def xX (J:afb):Option afb:=
 (nN 8 (J.length:Int)).bind λ_=>cA λn=>E3 J n (replicate (Int.toNat (J.length:Int)) 0) 0
def xY (J:gX):Option aD:=
 some (aD.mk J.Kind J.Value)
def Vj (cL:afm->Int->Option afm) (J:afk) (cc:afm) (cH:Int):Option afm:=
 cond (decide (cH<(J.length:Int))) ((bG J cH).bind λah=>(xY ah).bind λaA=>(bG cc cH).bind λaL=>cL (List.set cc (Int.toNat cH) aA) (i64.wrap (cH+1))) (some cc)
def E4 (J:afk):Nat->afm->Int->Option afm
 |0,_,_=>none
 |n+1,cc,cH=>Vj (E4 J n) J cc cH
def u5 (J:afk):Option afm:=
 (nN 16 (J.length:Int)).bind λ_=>cA λn=>E4 J n (replicate (Int.toNat (J.length:Int)) (aD.mk 0 0)) 0
def Vk (cL:afj->Int->Option afj) (J:afi) (cc:afj) (cH:Int):Option afj:=
 cond (decide (cH<(J.length:Int))) ((bG J cH).bind λah=>(u5 ah).bind λaA=>(bG cc cH).bind λaL=>cL (List.set cc (Int.toNat cH) aA) (i64.wrap (cH+1))) (some cc)
def E5 (J:afi):Nat->afj->Int->Option afj
 |0,_,_=>none
 |n+1,cc,cH=>Vk (E5 J n) J cc cH
def xZ (J:afi):Option afj:=
 (nN 24 (J.length:Int)).bind λ_=>cA λn=>E5 J n (replicate (Int.toNat (J.length:Int)) []) 0
def x0 (J:i0):Option bc:=
 (xX J.br).bind λah=>(u5 J.Guard).bind λaA=>(xZ J.bD).bind λaL=>(xZ J.Next).bind λaQ=>some (bc.mk ah aA J.Name aL aQ)
def Vl (cL:afn->Int->Option afn) (J:afl) (cc:afn) (cH:Int):Option afn:=
 cond (decide (cH<(J.length:Int))) ((bG J cH).bind λah=>(x0 ah).bind λaA=>(bG cc cH).bind λaL=>cL (List.set cc (Int.toNat cH) aA) (i64.wrap (cH+1))) (some cc)
def E6 (J:afl):Nat->afn->Int->Option afn
 |0,_,_=>none
 |n+1,cc,cH=>Vl (E6 J n) J cc cH
def AK (J:afl):Option afn:=
 (nN 112 (J.length:Int)).bind λ_=>cA λn=>E6 J n (replicate (Int.toNat (J.length:Int)) (bc.mk [] [] ([]:nq) [] [])) 0
def tq (J:lZ):Option bg:=
 (xX J.Start).bind λah=>(AK J.bu).bind λaA=>some (bg.mk J.bz ah aA)
def o7 (J ab aW:Int):afd:=
 some ((decide (ab<=J))&&(decide (J<=aW)))
def E7 (dn:Int->afd) (J:afb) (pZ:Int):afd:=
 cond (decide (pZ<(J.length:Int))) ((bG J pZ).bind λah=>(o7 ah 0 63).bind λaA=>cond (!aA) (some false) (dn (i64.wrap (pZ+1)))) (some true)
def x1 (J:afb):Nat->Int->afd
 |0,_=>none
 |n+1,pZ=>E7 (x1 J n) J pZ
def AL (J:afb):afd:=
 cA λn=>x1 J n 0
def AM (J:afb) (ab:Int):afd:=
 cond ((J.length:Int)==ab) ((AL J).bind λah=>some ah) (some false)
def E8 (kj:Int->Int->afe) (J:afb) (o8 p0:Int):afe:=
 cond (decide (p0<(J.length:Int))) ((bG J p0).bind λah=>(o7 ah 1 7).bind λaA=>cond (!aA) (some 0) (kj (i64.wrap (o8*(i64.wrap (ah+1)))) (i64.wrap (p0+1)))) (cond (decide (4096<o8)) (some 0) (some o8))
def u6 (J:afb):Nat->Int->Int->afe
 |0,_,_=>none
 |n+1,o8,p0=>E8 (u6 J n) J o8 p0
def AN (J:afb):afe:=
 cond (decide (8<(J.length:Int))) (some 0) (cA λn=>u6 J n 1 0)
def AO (J:aD) (ab:Int):afd:=
 cond (J.Kind==0) ((o7 J.Value 0 63).bind λah=>some ah) (cond (J.Kind==1) ((o7 J.Value 0 (i64.wrap (ab-1))).bind λaA=>some aA) (cond (J.Kind==2) ((o7 J.Value 0 8).bind λaL=>some aL) (cond (J.Kind==3) (some (J.Value==0)) (some false))))
def x2 (J:aD):afe:=
 cond (J.Kind==2) (some 2) (cond (J.Kind==3) (some 1) (some 0))
def E9 (kj:Int->Int->afd) (J:afm) (ab jf p1:Int):afd:=
 cond (decide (p1<(J.length:Int))) (cond (jf==0) (some false) ((bG J p1).bind λah=>(AO ah ab).bind λaA=>cond (!aA) (some false) ((x2 ah).bind λaL=>kj (i64.wrap (jf+(i64.wrap (aL-1)))) (i64.wrap (p1+1))))) (some (jf==0))
def u7 (J:afm) (ab:Int):Nat->Int->Int->afd
 |0,_,_=>none
 |n+1,jf,p1=>E9 (u7 J ab n) J ab jf p1
def x3 (J:afm) (ab aW:Int):afd:=
 cond (decide (aW<(J.length:Int))) (some false) (cA λn=>u7 J ab n 1 0)
def E_ (dn:Int->afd) (J:afj) (ab bd:Int):afd:=
 cond (decide (bd<(J.length:Int))) ((bG J bd).bind λah=>(x3 ah ab 60).bind λaA=>cond (!aA) (some false) (dn (i64.wrap (bd+1)))) (some true)
def x4 (J:afj) (ab:Int):Nat->Int->afd
 |0,_=>none
 |n+1,bd=>E_ (x4 J ab n) J ab bd
def tr (J:afj) (ab:Int):afd:=
 cA λn=>x4 J ab n 0
def x5 (J:UInt8):afd:=
 some ((decide (97<=(J.toNat:Int)))&&(decide ((J.toNat:Int)<=122)))
def Fa (J:UInt8):afd:=
 some ((decide (48<=(J.toNat:Int)))&&(decide ((J.toNat:Int)<=57)))
def Fb (mH:Int->afd) (J:nq) (fS:Int):afd:=
 cond (decide (fS<(J.length:Int))) ((bG J fS).bind λaL=>(x5 aL).bind λaQ=>cond (!aQ) ((Fa aL).bind λaZ=>cond (!aZ) (some false) (mH (i64.wrap (fS+1)))) (mH (i64.wrap (fS+1)))) (some true)
def x6 (J:nq):Nat->Int->afd
 |0,_=>none
 |n+1,fS=>Fb (x6 J n) J fS
def AP (J:nq):afd:=
 cond (J==([]:nq)) (some false) (cond (decide (10<(J.length:Int))) (some false) ((bG J 0).bind λah=>(x5 ah).bind λaA=>cond (!aA) (some false) (cA λn=>x6 J n 0)))
def AQ (J:nq):afd:=
 (AP J).bind λah=>some (ah&&(!(J==([116,97,117]:nq))))
def AR (J:bc) (ab:Int):afd:=
 (AN J.br).bind λah=>cond (ah==0) (some false) ((x3 J.Guard (i64.wrap (ab+(J.br.length:Int))) 60).bind λaA=>cond ((!aA)||((J.Next.length:Int) !=ab)) (some false) (cond (J.Name==([116,97,117]:nq)) (cond (decide (0<(J.bD.length:Int))) (some false) (cond (decide (2<(J.bD.length:Int))) (some false) ((tr J.bD (i64.wrap (ab+(J.br.length:Int)))).bind λaL=>cond aL ((tr J.Next (i64.wrap (ab+(J.br.length:Int)))).bind λaQ=>some aQ) (some false)))) ((AQ J.Name).bind λaZ=>cond (!aZ) (some false) (cond (decide (2<(J.bD.length:Int))) (some false) ((tr J.bD (i64.wrap (ab+(J.br.length:Int)))).bind λbp=>cond bp ((tr J.Next (i64.wrap (ab+(J.br.length:Int)))).bind λbV=>some bV) (some false))))))
def Fe (mH:Int->afd) (J:bg) (fS:Int):afd:=
 cond (decide (fS<(J.bu.length:Int))) ((bG J.bu fS).bind λaL=>(AR aL J.bz).bind λaQ=>cond (!aQ) (some false) (mH (i64.wrap (fS+1)))) (some true)
def x7 (J:bg):Nat->Int->afd
 |0,_=>none
 |n+1,fS=>Fe (x7 J n) J fS
def AS (J:bg):afd:=
 (o7 J.bz 0 21).bind λah=>cond (!ah) (some false) ((AM J.Start J.bz).bind λaA=>cond ((!aA)||(decide (60<(J.bu.length:Int)))) (some false) (cA λn=>x7 J n 0))
def qX (J:afm):Option afm:=
 (room 16 (J.length)).bind λ_=>some J
def ts (cL:afm->Int->Option afm) (ab:List Bool) (aW:afb) (u9:afm) (u_:Int):Option afm:=
 cL u9 (i64.wrap (u_+1))
def x8 (cL:afm->Int->Option afm) (ab:List Bool) (aW:afb) (kk:afm) (jY:Int):Option afm:=
 cond (decide (jY<(kk.length:Int))) ((bG kk jY).bind λaL=>cond (aL.Kind==1) (cond (decide (aL.Value<(ab.length:Int))) ((bG ab aL.Value).bind λaQ=>cond aQ ((bG aW aL.Value).bind λaZ=>ts cL ab aW (List.set kk (Int.toNat jY) (aD.mk 0 aZ)) jY) (ts cL ab aW kk jY)) (ts cL ab aW kk jY)) (ts cL ab aW kk jY)) (some kk)
def p2 (ab:List Bool) (aW:afb):Nat->afm->Int->Option afm
 |0,_,_=>none
 |n+1,kk,jY=>x8 (p2 ab aW n) ab aW kk jY
def p3 (J:afm) (ab:List Bool) (aW:afb):Option afm:=
 (qX J).bind λah=>cA λn=>p2 ab aW n ah 0
def Ff (dn:Int->Int->afe) (J:afm) (bS bd:Int):afe:=
 cond (decide (0<bd)) ((bG J bS).bind λah=>(x2 ah).bind λaA=>dn (i64.wrap (bS+1)) (i64.wrap (bd+(i64.wrap (aA-1))))) (some bS)
def va (J:afm):Nat->Int->Int->afe
 |0,_,_=>none
 |n+1,bS,bd=>Ff (va J n) J bS bd
def AU (J:afm) (ab:Int):afe:=
 cA λn=>va J n ab 1
def og (J:Bool):afe:=
 cond J (some 1) (some 0)
def AV (J ab aW:Int):afe:=
 cond (J==0) (some (Int.tmod (i64.wrap (ab+aW)) 64)) (cond (J==1) (some (Int.tmod (i64.wrap ((i64.wrap (ab-aW))+64)) 64)) (cond (J==2) (some (Int.tmod (i64.wrap (ab*aW)) 64)) (cond (J==3) ((og (ab==aW)).bind λah=>some ah) (cond (J==4) ((og (ab !=aW)).bind λaA=>some aA) (cond (J==5) ((og (decide (ab<aW))).bind λaL=>some aL) (cond (J==6) ((og (decide (ab<=aW))).bind λaQ=>some aQ) (cond (J==7) (cond (ab !=0) ((og (aW !=0)).bind λaZ=>some aZ) ((og false).bind λbp=>some bp)) (cond (ab !=0) ((og true).bind λbV=>some bV) ((og (aW !=0)).bind λc2=>some c2)))))))))
def Fg (x9:afm->Option afm) (J:afm):Option afm:=
 (bG J 0).bind λah=>(x2 ah).bind λaA=>cond (aA==0) ((qX J).bind λaL=>some aL) ((AU J 1).bind λaQ=>(gw J 1 aQ).bind λaZ=>(x9 aZ).bind λbp=>cond (ah.Kind==3) ((bG bp 0).bind λbV=>cond (bV.Kind==0) ((og (bV.Value==0)).bind λc2=>some [(aD.mk 0 c2)]) ((room 16 (1+bp.length)).bind λ_=>some ([ah]++bp))) ((gw J aQ (J.length:Int)).bind λdV=>(x9 dV).bind λeo=>(bG bp 0).bind λiv=>cond (iv.Kind==0) ((bG eo 0).bind λjZ=>cond (jZ.Kind==0) ((AV ah.Value iv.Value jZ.Value).bind λep=>some [(aD.mk 0 ep)]) ((room 16 (1+bp.length)).bind λ_=>(room 16 (([ah]++bp).length+eo.length)).bind λ_=>some (([ah]++bp)++eo))) ((room 16 (1+bp.length)).bind λ_=>(room 16 (([ah]++bp).length+eo.length)).bind λ_=>some (([ah]++bp)++eo))))
def vb:Nat->afm->Option afm
 |0,_=>none
 |n+1,J=>Fg (vb n) J
def AW (J:afm):Option afm:=
 cA λn=>vb n J
def Fh (dn:Int->afd) (J:bg) (ab:List Bool) (aW h7:Int):afd:=
 cond (decide (h7<(J.bu.length:Int))) ((bG J.bu h7).bind λah=>(bG ah.Next aW).bind λaA=>(p3 aA ab J.Start).bind λaL=>(AW aL).bind λaQ=>cond ((aQ.length:Int) !=1) (some false) ((bG aQ 0).bind λaZ=>cond (aZ.Kind !=0) (some false) ((bG J.Start aW).bind λbp=>cond (aZ.Value !=bp) (some false) (dn (i64.wrap (h7+1)))))) (some true)
def x_ (J:bg) (ab:List Bool) (aW:Int):Nat->Int->afd
 |0,_=>none
 |n+1,h7=>Fh (x_ J ab aW n) J ab aW h7
def AX (J:bg) (ab:List Bool) (aW:Int):afd:=
 cA λn=>x_ J ab aW n 0
def ya (k2:(List Bool)->Int->Option ((List Bool))) (yb:(List Bool)->Int->Int->Option ((List Bool))) (J:bg) (vc:List Bool) (vd ve:Int):Option ((List Bool)):=
 yb vc vd (i64.wrap (ve+1))
def Fi (k2:(List Bool)->Int->Option ((List Bool))) (yb:(List Bool)->Int->Int->Option ((List Bool))) (J:bg) (kl:List Bool) (ly jL:Int):Option ((List Bool)):=
 cond (decide (jL<J.bz)) ((bG kl jL).bind λaA=>cond aA ((AX J kl jL).bind λaL=>cond (!aL) (ya k2 yb J (List.set kl (Int.toNat jL) false) ly jL) (ya k2 yb J kl ly jL)) (ya k2 yb J kl ly jL)) (k2 kl (i64.wrap (ly+1)))
def r3 (k2:(List Bool)->Int->Option ((List Bool))) (J:bg):Nat->(List Bool)->Int->Int->Option ((List Bool))
 |0,_,_,_=>none
 |n+1,kl,ly,jL=>Fi k2 (r3 k2 J n) J kl ly jL
def Fj (k2:(List Bool)->Int->Option ((List Bool))) (J:bg) (p4:List Bool) (qY:Int):Option ((List Bool)):=
 cond (decide (qY<=J.bz)) (cA λn=>r3 k2 J n p4 qY 0) (some p4)
def qZ (J:bg):Nat->(List Bool)->Int->Option ((List Bool))
 |0,_,_=>none
 |n+1,p4,qY=>Fj (qZ J n) J p4 qY
def Fk (cL:(List Bool)->Int->Option ((List Bool))) (J:bg) (cc:List Bool) (cH:Int):Option ((List Bool)):=
 cond (decide (cH<J.bz)) ((bG cc cH).bind λah=>cL (List.set cc (Int.toNat cH) true) (i64.wrap (cH+1))) (cA λn=>qZ J n cc 0)
def vf (J:bg):Nat->(List Bool)->Int->Option ((List Bool))
 |0,_,_=>none
 |n+1,cc,cH=>Fk (vf J n) J cc cH
def AY (J:bg):Option ((List Bool)):=
 (nN 1 J.bz).bind λ_=>cA λn=>vf J n (replicate (Int.toNat J.bz) false) 0
def AZ (cL:afb->Int->Option afb) (J:List Bool) (ab:Bool) (vg:afb) (vh:Int):Option afb:=
 cL vg (i64.wrap (vh+1))
def Fl (cL:afb->Int->Option afb) (J:List Bool) (ab:Bool) (bW:afb) (eQ:Int):Option afb:=
 cond (decide (eQ<(J.length:Int))) ((bG J eQ).bind λah=>cond (ah==ab) ((room 8 (bW.length+1)).bind λ_=>AZ cL J ab (bW++[eQ]) eQ) (AZ cL J ab bW eQ)) (some bW)
def tt (J:List Bool) (ab:Bool):Nat->afb->Int->Option afb
 |0,_,_=>none
 |n+1,bW,eQ=>Fl (tt J ab n) J ab bW eQ
def yc (J:List Bool) (ab:Bool):Option afb:=
 cA λn=>tt J ab n [] 0
def A0 (J:afb):Option afb:=
 (room 8 (J.length)).bind λ_=>some J
def vi (cL:afm->Int->Option afm) (ab:List Bool) (vj:afm) (vk:Int):Option afm:=
 cL vj (i64.wrap (vk+1))
def A1 (cL:afm->Int->Option afm) (o9:afm->Int->Int->Int->Option afm) (ab:List Bool) (vl:afm) (vm vn vo:Int):Option afm:=
 o9 vl vm vn (i64.wrap (vo+1))
def Fm (cL:afm->Int->Option afm) (o9:afm->Int->Int->Int->Option afm) (ab:List Bool) (fa:afm) (i1 lz nd:Int):Option afm:=
 cond (decide (nd<(ab.length:Int))) ((bG fa i1).bind λaL=>cond (decide (nd<aL.Value)) ((bG ab nd).bind λaQ=>cond aQ (A1 cL o9 ab fa i1 (i64.wrap (lz+1)) nd) (A1 cL o9 ab fa i1 lz nd)) (vi cL ab (List.set fa (Int.toNat i1) (aD.mk aL.Kind (i64.wrap (aL.Value-lz)))) i1)) ((bG fa i1).bind λaZ=>vi cL ab (List.set fa (Int.toNat i1) (aD.mk aZ.Kind (i64.wrap (aZ.Value-lz)))) i1)
def tu (cL:afm->Int->Option afm) (ab:List Bool):Nat->afm->Int->Int->Int->Option afm
 |0,_,_,_,_=>none
 |n+1,fa,i1,lz,nd=>Fm cL (tu cL ab n) ab fa i1 lz nd
def Fo (cL:afm->Int->Option afm) (ab:List Bool) (bW:afm) (eQ:Int):Option afm:=
 cond (decide (eQ<(bW.length:Int))) ((bG bW eQ).bind λaA=>cond (aA.Kind !=1) (vi cL ab bW eQ) (cA λn=>tu cL ab n bW eQ 0 0)) (some bW)
def oh (ab:List Bool):Nat->afm->Int->Option afm
 |0,_,_=>none
 |n+1,bW,eQ=>Fo (oh ab n) ab bW eQ
def tv (J:afm) (ab:List Bool):Option afm:=
 (qX J).bind λah=>cA λn=>oh ab n ah 0
def Fp (o_:afb->afn->Int->Option bg) (Vm:afb->afn->Int->afj->afj->Int->Option bg) (J:bg) (ab:List Bool) (ah:afb) (aQ:bc) (aZ:afb) (bV:afm) (mI:afb) (l0:afn) (mJ:Int) (mK l1:afj) (oi:Int):Option bg:=
 cond (decide (oi<(ah.length:Int))) ((bG ah oi).bind λiv=>(bG aQ.Next iv).bind λjZ=>(p3 jZ ab J.Start).bind λep=>(tv ep ab).bind λg4=>(room 24 (l1.length+1)).bind λ_=>Vm mI l0 mJ mK (l1++[g4]) (i64.wrap (oi+1))) ((room 112 (l0.length+1)).bind λ_=>o_ mI (l0++[(bc.mk aZ bV aQ.Name mK l1)]) (i64.wrap (mJ+1)))
def vp (o_:afb->afn->Int->Option bg) (J:bg) (ab:List Bool) (ah:afb) (aQ:bc) (aZ:afb) (bV:afm):Nat->afb->afn->Int->afj->afj->Int->Option bg
 |0,_,_,_,_,_,_=>none
 |n+1,mI,l0,mJ,mK,l1,oi=>Fp o_ (vp o_ J ab ah aQ aZ bV n) J ab ah aQ aZ bV mI l0 mJ mK l1 oi
def Fq (o_:afb->afn->Int->Option bg) (Vn:afb->afn->Int->afj->Int->Option bg) (J:bg) (ab:List Bool) (ah:afb) (aQ:bc) (aZ:afb) (bV:afm) (nf:afb) (ng:afn) (nh:Int) (l3:afj) (oj:Int):Option bg:=
 cond (decide (oj<(aQ.bD.length:Int))) ((bG aQ.bD oj).bind λc2=>(p3 c2 ab J.Start).bind λdV=>(tv dV ab).bind λeo=>(room 24 (l3.length+1)).bind λ_=>Vn nf ng nh (l3++[eo]) (i64.wrap (oj+1))) (cA λn=>vp o_ J ab ah aQ aZ bV n nf ng nh l3 [] 0)
def vq (o_:afb->afn->Int->Option bg) (J:bg) (ab:List Bool) (ah:afb) (aQ:bc) (aZ:afb) (bV:afm):Nat->afb->afn->Int->afj->Int->Option bg
 |0,_,_,_,_,_=>none
 |n+1,nf,ng,nh,l3,oj=>Fq o_ (vq o_ J ab ah aQ aZ bV n) J ab ah aQ aZ bV nf ng nh l3 oj
def Fs (o_:afb->afn->Int->Option bg) (J:bg) (ab:List Bool) (ah:afb) (om:afb) (oo:afn) (oq:Int):Option bg:=
 cond (decide (oq<(J.bu.length:Int))) ((bG J.bu oq).bind λaQ=>(A0 aQ.br).bind λaZ=>(p3 aQ.Guard ab J.Start).bind λbp=>(tv bp ab).bind λbV=>cA λn=>vq o_ J ab ah aQ aZ bV n om oo oq [] 0) (some (bg.mk (ah.length:Int) om oo))
def ot (J:bg) (ab:List Bool) (ah:afb):Nat->afb->afn->Int->Option bg
 |0,_,_,_=>none
 |n+1,om,oo,oq=>Fs (ot J ab ah n) J ab ah om oo oq
def Ft (m3:afb->Int->Option bg) (J:bg) (ab:List Bool) (ah:afb) (l4:afb) (ou:Int):Option bg:=
 cond (decide (ou<(ah.length:Int))) ((bG ah ou).bind λaA=>(bG J.Start aA).bind λaL=>(room 8 (l4.length+1)).bind λ_=>m3 (l4++[aL]) (i64.wrap (ou+1))) (cA λn=>ot J ab ah n l4 [] 0)
def vr (J:bg) (ab:List Bool) (ah:afb):Nat->afb->Int->Option bg
 |0,_,_=>none
 |n+1,l4,ou=>Ft (vr J ab ah n) J ab ah l4 ou
def A2 (J:bg) (ab:List Bool):Option bg:=
 (yc ab false).bind λah=>cA λn=>vr J ab ah n [] 0
def A3 (J:bg):Option (bg×afb×Int):=
 (AS J).bind λah=>cond (!ah) (some ((bg.mk 0 [] []),[],1)) ((AY J).bind λaA=>(A2 J aA).bind λaL=>(yc aA false).bind λaQ=>some (aL,aQ,0))
def ni (J ab aW:Int):afd:=
 some ((decide (ab<=J))&&(decide (J<=aW)))
def A4 (J:Int):afd:=
 (ni J 0 63).bind λah=>some ah
def Fu (J:Int):afd:=
 (A4 J).bind λah=>some (!ah)
def Mf (dn:Int->afe) (J:afb) (cE:Int):afe:=
 cond (decide (cE<(J.length:Int))) ((bG J cE).bind λah=>(Fu ah).bind λaA=>cond aA (some cE) (dn (i64.wrap (cE+1)))) (some (-1))
def A5 (J:afb):Nat->Int->afe
 |0,_=>none
 |n+1,cE=>Mf (A5 J n) J cE
def Fv (J:afb):afe:=
 cA λn=>A5 J n 0
def Fw (J:afb):afd:=
 (Fv J).bind λah=>some (decide (0<=ah))
def Fx (J:afb):afd:=
 (Fw J).bind λah=>some (!ah)
def A6 (J:bg) (ab:afb):afd:=
 cond ((ab.length:Int)==J.bz) ((Fx ab).bind λah=>some ah) (some false)
def Fy (cL:Int->Int->afd) (J:bc) (cc p5:Int):afd:=
 cond (decide (p5<(J.br.length:Int))) ((bG J.br p5).bind λah=>(ni ah 1 7).bind λaA=>cond (!aA) (some false) (cL (i64.wrap (cc*(i64.wrap (ah+1)))) (i64.wrap (p5+1)))) (some ((decide ((J.br.length:Int)<=8))&&(decide (cc<=4096))))
def vt (J:bc):Nat->Int->Int->afd
 |0,_,_=>none
 |n+1,cc,p5=>Fy (vt J n) J cc p5
def A7 (J:bc):afd:=
 cA λn=>vt J n 1 0
def Fz (J:UInt8):afd:=
 some ((decide (48<=(J.toNat:Int)))&&(decide ((J.toNat:Int)<=57)))
def A8 (dn:Int->afd) (J:nq) (h7:Int):afd:=
 cond (decide (h7<(J.length:Int))) ((bG J h7).bind λah=>cond (!((decide (97<=(ah.toNat:Int)))&&(decide ((ah.toNat:Int)<=122)))) (cond (h7==0) (some false) ((Fz ah).bind λaA=>cond (!aA) (some false) (dn (i64.wrap (h7+1))))) (dn (i64.wrap (h7+1)))) (some ((decide (1<=(J.length:Int)))&&(decide ((J.length:Int)<=10))))
def r4 (J:nq):Nat->Int->afd
 |0,_=>none
 |n+1,h7=>A8 (r4 J n) J h7
def A9 (J:nq):afd:=
 cA λn=>r4 J n 0
def yd (J:nq):afd:=
 (A9 J).bind λah=>some (ah&&(!(J==([116,97,117]:nq))))
def A_:Option Unit:=
 some ()
def FA (ab:Int):Option Unit:=
 cond (decide (0<(i64.wrap (ab-(i64.wrap 0))))) ((nN 24 (i64.wrap (ab-(i64.wrap 0)))).bind λ_=>A_) (A_)
def Ba (ab:Int):Option Unit:=
 cond (decide (ab<0)) (none) (FA ab)
def FB (cL:Int->Int->Option afj) (J:List afj) (vu vv:Int) (Bb:Bool):Option afj:=
 cL vu (i64.wrap (vv+1))
def FC (FD:afj->Int->Option afj) (J:List afj) (nj:afj) (ov:Int):Option afj:=
 cond (decide (ov<(J.length:Int))) ((bG J ov).bind λaL=>(room 24 (nj.length+aL.length)).bind λ_=>FD (nj++aL) (i64.wrap (ov+1))) (some nj)
def tw (J:List afj):Nat->afj->Int->Option afj
 |0,_,_=>none
 |n+1,nj,ov=>FC (tw J n) J nj ov
def FE (cL:Int->Int->Option afj) (J:List afj) (cc ew:Int):Option afj:=
 cond (decide (ew<(J.length:Int))) ((bG J ew).bind λah=>cond (decide ((i64.wrap (cc+(ah.length:Int)))<0)) (none) (FB cL J (i64.wrap (cc+(ah.length:Int))) ew (decide ((i64.wrap (cc+(ah.length:Int)))<0)))) ((Ba cc).bind λaA=>cA λn=>tw J n [] 0)
def tx (J:List afj):Nat->Int->Int->Option afj
 |0,_,_=>none
 |n+1,cc,ew=>FE (tx J n) J cc ew
def Bc (J:List afj):Option afj:=
 cA λn=>tx J n 0 0
def vw (J:bc):Option afj:=
 (Bc [[J.Guard],J.bD,J.Next]).bind λah=>some ah
def Bd (J:aD) (ab:Int):afd:=
 cond (J.Kind==0) ((A4 J.Value).bind λah=>some ah) (cond (J.Kind==1) ((ni J.Value 0 (i64.wrap (ab-1))).bind λaA=>some aA) (cond (J.Kind==2) ((ni J.Value 0 8).bind λaL=>some aL) (cond (J.Kind==3) (some (J.Value==0)) (some false))))
def Be (J:aD):afe:=
 cond (J.Kind==2) (some 2) (cond (J.Kind==3) (some 1) (some 0))
def FF (kj:Int->Int->afd) (J:afm) (ab jf p6:Int):afd:=
 cond (decide (p6<(J.length:Int))) ((bG J p6).bind λaQ=>cond (jf==0) (some false) ((Bd aQ ab).bind λaZ=>cond (!aZ) (some false) ((Be aQ).bind λbp=>kj (i64.wrap (jf+(i64.wrap (bp-1)))) (i64.wrap (p6+1))))) (some (jf==0))
def vx (J:afm) (ab:Int):Nat->Int->Int->afd
 |0,_,_=>none
 |n+1,jf,p6=>FF (vx J ab n) J ab jf p6
def Bf (J:afm) (ab aW:Int):afd:=
 (ni ab 0 29).bind λah=>cond (!ah) (some false) ((ni aW 1 60).bind λaA=>cond (!aA) (some false) ((ni (J.length:Int) 1 aW).bind λaL=>cond (!aL) (some false) (cA λn=>vx J ab n 1 0)))
def Bg (J:afm) (ab:Int) (aW:bc):afd:=
 (Bf J (i64.wrap (ab+(aW.br.length:Int))) 60).bind λah=>some (!ah)
def Mg (dn:Int->afe) (J:afj) (a0:Int) (a2:bc) (cE:Int):afe:=
 cond (decide (cE<(J.length:Int))) ((bG J cE).bind λah=>(Bg ah a0 a2).bind λaA=>cond aA (some cE) (dn (i64.wrap (cE+1)))) (some (-1))
def Bh (J:afj) (a0:Int) (a2:bc):Nat->Int->afe
 |0,_=>none
 |n+1,cE=>Mg (Bh J a0 a2 n) J a0 a2 cE
def FG (J:afj) (a0:Int) (a2:bc):afe:=
 cA λn=>Bh J a0 a2 n 0
def tz (J:afj) (a0:Int) (a2:bc):afd:=
 (FG J a0 a2).bind λah=>some (decide (0<=ah))
def Bi (J:bc) (ab:Int):afd:=
 (A7 J).bind λah=>cond ((!ah)||((J.Next.length:Int) !=ab)) (some false) (cond (decide (0<(J.bD.length:Int))) (cond (J.Name==([116,97,117]:nq)) (some false) (cond (decide (2<(J.bD.length:Int))) (some false) ((yd J.Name).bind λaA=>cond (!aA) (some false) ((vw J).bind λaL=>(tz aL ab J).bind λaQ=>some (!aQ))))) (cond (!(J.Name==([116,97,117]:nq))) ((yd J.Name).bind λaZ=>cond (!aZ) (some false) ((vw J).bind λbp=>(tz bp ab J).bind λbV=>some (!bV))) ((vw J).bind λc2=>(tz c2 ab J).bind λdV=>some (!dV))))
def Bj (J:bc) (ab:bg):afd:=
 (Bi J ab.bz).bind λah=>some (!ah)
def Mh (dn:Int->afe) (J:afn) (ab:bg) (cE:Int):afe:=
 cond (decide (cE<(J.length:Int))) ((bG J cE).bind λah=>(Bj ah ab).bind λaA=>cond aA (some cE) (dn (i64.wrap (cE+1)))) (some (-1))
def Bk (J:afn) (ab:bg):Nat->Int->afe
 |0,_=>none
 |n+1,cE=>Mh (Bk J ab n) J ab cE
def FH (J:afn) (ab:bg):afe:=
 cA λn=>Bk J ab n 0
def FI (J:afn) (ab:bg):afd:=
 (FH J ab).bind λah=>some (decide (0<=ah))
def Bl (J:bg):afd:=
 (ni J.bz 0 21).bind λah=>cond (!ah) (some false) ((A6 J J.Start).bind λaA=>cond ((!aA)||(decide (60<(J.bu.length:Int)))) (some false) ((FI J.bu J).bind λaL=>some (!aL)))
def FJ (cL:afb->Int->Option afb) (J:Int) (cc:afb) (eQ:Int):Option afb:=
 cond (decide (eQ<J)) ((room 8 (cc.length+1)).bind λ_=>cL (cc++[eQ]) (i64.wrap (eQ+1))) (some cc)
def vy (J:Int):Nat->afb->Int->Option afb
 |0,_,_=>none
 |n+1,cc,eQ=>FJ (vy J n) J cc eQ
def ye (J:Int):Option afb:=
 cA λn=>vy J n [] 0
def p7 (J:afb):Option afb:=
 cond J.isEmpty (both (some []) ((room 8 (J.length)).bind λ_=>some J)) ((room 8 (J.length)).bind λ_=>some J)
def yf (dn:Int->afe) (J:afb) (ab cE:Int):afe:=
 cond (decide (cE<(J.length:Int))) ((bG J cE).bind λah=>cond (ab==ah) (some cE) (dn (i64.wrap (cE+1)))) (some (-1))
def tA (J:afb) (ab:Int):Nat->Int->afe
 |0,_=>none
 |n+1,cE=>yf (tA J ab n) J ab cE
def vz (J:afb) (ab:Int):afe:=
 cA λn=>tA J ab n 0
def yg (J:afb) (ab:Int):afd:=
 (vz J ab).bind λah=>some (decide (0<=ah))
def FK (J:Int):Option afm:=
 some [(aD.mk 0 J)]
def FL (J:Int) (ab:afb) (aW:bg):Option ((Option afm)):=
 (yg ab J).bind λah=>cond ah ((bG aW.Start J).bind λaA=>(FK aA).bind λaL=>some (some aL)) (some none)
def q0 (cL:afm->Int->Option afm) (J:afm) (a0:afb) (a2:bg) (e6 e7:afm) (fh:Int):Option afm:=
 (room 16 (e6.length+e7.length)).bind λ_=>cL (e6++e7) (i64.wrap (fh+1))
def FM (cL:afm->Int->Option afm) (J:afm) (a0:afb) (a2:bg) (bW:afm) (ew:Int):Option afm:=
 cond (decide (ew<(J.length:Int))) ((bG J ew).bind λah=>cond (ah.Kind==1) ((FL ah.Value a0 a2).bind λaA=>Option.elim aA (q0 cL J a0 a2 bW [ah] ew) (λaL=>cond aL.isEmpty (both (q0 cL J a0 a2 bW [ah] ew) (q0 cL J a0 a2 bW aL ew)) (q0 cL J a0 a2 bW aL ew))) (q0 cL J a0 a2 bW [ah] ew)) (some bW)
def q1 (J:afm) (a0:afb) (a2:bg):Nat->afm->Int->Option afm
 |0,_,_=>none
 |n+1,bW,ew=>FM (q1 J a0 a2 n) J a0 a2 bW ew
def FN (J:afm) (a0:afb) (a2:bg):Option afm:=
 cA λn=>q1 J a0 a2 n [] 0
def yh (J:bg) (ab:afm) (aW:afb):Option afm:=
 (FN ab aW J).bind λah=>some ah
def FO (p8:afm->Option (aD×(List bI)×afm)) (m3:(List bI)->afm->Int->Option (aD×(List bI)×afm)) (ah:aD) (aL:Int) (nk:List bI) (p9:afm) (pa:Int):Option (aD×(List bI)×afm):=
 cond (decide (pa<aL)) ((p8 p9).bind λaQ=>(room 8 (nk.length+1)).bind λ_=>m3 (nk++[(bI.mk aQ.1 aQ.2.1)]) aQ.2.2 (i64.wrap (pa+1))) (some (ah,nk,p9))
def tB (p8:afm->Option (aD×(List bI)×afm)) (ah:aD) (aL:Int):Nat->(List bI)->afm->Int->Option (aD×(List bI)×afm)
 |0,_,_,_=>none
 |n+1,nk,p9,pa=>FO p8 (tB p8 ah aL n) ah aL nk p9 pa
def FP (p8:afm->Option (aD×(List bI)×afm)) (J:afm):Option (aD×(List bI)×afm):=
 (bG J 0).bind λah=>(gw J 1 (J.length:Int)).bind λaA=>(Be ah).bind λaL=>cA λn=>tB p8 ah aL n [] aA 0
def vA:Nat->afm->Option (aD×(List bI)×afm)
 |0,_=>none
 |n+1,J=>FP (vA n) J
def FQ (J:afm):Option (aD×(List bI)×afm):=
 cA λn=>vA n J
def Bm (J:afm):Option (aD×(List bI)):=
 (FQ J).bind λah=>some (ah.1,ah.2.1)
def ow (J:Bool):afe:=
 cond J (some 1) (some 0)
def Bn (J ab aW:Int):afe:=
 cond (J==0) (some (Int.tmod (i64.wrap (ab+aW)) 64)) (cond (J==1) (some (Int.tmod (i64.wrap ((i64.wrap (ab-aW))+64)) 64)) (cond (J==2) (some (Int.tmod (i64.wrap (ab*aW)) 64)) (cond (J==3) ((ow (ab==aW)).bind λah=>some ah) (cond (J==4) ((ow (ab !=aW)).bind λaA=>some aA) (cond (J==5) ((ow (decide (ab<aW))).bind λaL=>some aL) (cond (J==6) ((ow (decide (ab<=aW))).bind λaQ=>some aQ) (cond (J==7) (cond (ab !=0) ((ow (aW !=0)).bind λaZ=>some aZ) ((ow false).bind λbp=>some bp)) (cond (ab !=0) ((ow true).bind λbV=>some bV) ((ow (aW !=0)).bind λc2=>some c2)))))))))
def Bo (vB:bI->afb->afe) (J:bI) (ab:afb):afe:=
 cond (J.term.Kind==0) (some J.term.Value) (cond (J.term.Kind==1) ((bG ab J.term.Value).bind λah=>some ah) (cond (J.term.Kind==3) ((bG J.args 0).bind λaA=>(vB aA ab).bind λaL=>(ow (aL==0)).bind λaQ=>some aQ) ((bG J.args 0).bind λaZ=>(vB aZ ab).bind λbp=>(bG J.args 1).bind λbV=>(vB bV ab).bind λc2=>(Bn J.term.Value bp c2).bind λdV=>some dV)))
def tC:Nat->bI->afb->afe
 |0,_,_=>none
 |n+1,J,ab=>Bo (tC n) J ab
def Bp (J:bI) (ab:afb):afe:=
 cA λn=>tC n J ab
def FR (J:Int):Option (Int×Int):=
 some (0,J)
def FT (p_:bI->Option bI) (Vo:(List bI)->Bool->Int->Option bI) (J:bI) (jM:List bI) (l5:Bool) (l6:Int):Option bI:=
 cond (decide (l6<(J.args.length:Int))) ((bG J.args l6).bind λah=>(p_ ah).bind λaA=>(room 8 (jM.length+1)).bind λ_=>Vo (jM++[aA]) (l5&&(aA.term.Kind==0)) (i64.wrap (l6+1))) (cond l5 ((Bp (bI.mk J.term jM) []).bind λaL=>(FR aL).bind λaQ=>some (bI.mk (aD.mk aQ.1 aQ.2) [])) (some (bI.mk J.term jM)))
def tD (p_:bI->Option bI) (J:bI):Nat->(List bI)->Bool->Int->Option bI
 |0,_,_,_=>none
 |n+1,jM,l5,l6=>FT p_ (tD p_ J n) J jM l5 l6
def FU (p_:bI->Option bI) (J:bI):Option bI:=
 cond ((J.args.length:Int)==0) (some J) (cA λn=>tD p_ J n [] true 0)
def vC:Nat->bI->Option bI
 |0,_=>none
 |n+1,J=>FU (vC n) J
def Bq (J:bI):Option bI:=
 cA λn=>vC n J
def Br (J:bc) (ab:bg) (aW:Int) (fm:afb):afd:=
 (bG J.Next aW).bind λah=>(yh ab ah fm).bind λaA=>(Bm aA).bind λaL=>(Bq (bI.mk aL.1 aL.2)).bind λaQ=>(bG ab.Start aW).bind λaZ=>some (!((aQ.term.Kind==0)&&(aQ.term.Value==aZ)))
def Mi (dn:Int->afe) (J:afn) (a0:bg) (a2:Int) (kI:afb) (cE:Int):afe:=
 cond (decide (cE<(J.length:Int))) ((bG J cE).bind λah=>(Br ah a0 a2 kI).bind λaA=>cond aA (some cE) (dn (i64.wrap (cE+1)))) (some (-1))
def Bs (J:afn) (a0:bg) (a2:Int) (kI:afb):Nat->Int->afe
 |0,_=>none
 |n+1,cE=>Mi (Bs J a0 a2 kI n) J a0 a2 kI cE
def FV (J:afn) (a0:bg) (a2:Int) (kI:afb):afe:=
 cA λn=>Bs J a0 a2 kI n 0
def FW (J:afn) (a0:bg) (a2:Int) (kI:afb):afd:=
 (FV J a0 a2 kI).bind λah=>some (decide (0<=ah))
def tE (J:Int) (ab:bg) (aW:afb):afd:=
 (FW ab.bu ab J aW).bind λah=>some ah
def Mj (dn:Int->afe) (J:afb) (a0:bg) (a2:afb) (cE:Int):afe:=
 cond (decide (cE<(J.length:Int))) ((bG J cE).bind λah=>(tE ah a0 a2).bind λaA=>cond aA (some cE) (dn (i64.wrap (cE+1)))) (some (-1))
def Bt (J:afb) (a0:bg) (a2:afb):Nat->Int->afe
 |0,_=>none
 |n+1,cE=>Mj (Bt J a0 a2 n) J a0 a2 cE
def FX (J:afb) (a0:bg) (a2:afb):afe:=
 cA λn=>Bt J a0 a2 n 0
def Bu (kj:afb->Int->Int->Option afb) (a0:bg) (a2 nm:afb) (nn np:Int):Option afb:=
 kj nm nn (i64.wrap (np+1))
def FY (kj:afb->Int->Int->Option afb) (a0:bg) (a2 gm:afb) (dH hD:Int):Option afb:=
 cond (decide (hD<(gm.length:Int))) ((bG gm hD).bind λaA=>(tE aA a0 a2).bind λaL=>cond (!aL) ((bG gm dH).bind λaQ=>Bu kj a0 a2 (List.set gm (Int.toNat dH) aA) (i64.wrap (dH+1)) hD) (Bu kj a0 a2 gm dH hD)) ((gw gm 0 dH).bind λaZ=>(gw (aZ++replicate (gm.length-aZ.length) 0) 0 dH).bind λbp=>some bp)
def tF (a0:bg) (a2:afb):Nat->afb->Int->Int->Option afb
 |0,_,_,_=>none
 |n+1,gm,dH,hD=>FY (tF a0 a2 n) a0 a2 gm dH hD
def Bv (J:afb) (a0:bg) (a2:afb):Option afb:=
 (FX J a0 a2).bind λah=>cond (ah==(-1)) (some J) (cA λn=>tF a0 a2 n J ah (i64.wrap (ah+1)))
def Mk (ed:afb->Option afb) (J:bg) (mL:afb):Option afb:=
 (p7 mL).bind λaA=>(Bv aA J mL).bind λaL=>cond ((aL.length:Int)==(mL.length:Int)) (some mL) (ed aL)
def vD (J:bg):Nat->afb->Option afb
 |0,_=>none
 |n+1,mL=>Mk (vD J n) J mL
def Bw (J:bg):Option afb:=
 (ye J.bz).bind λah=>cA λn=>vD J n ah
def vE (J:Int) (ab:afb):afd:=
 (yg ab J).bind λah=>some ah
def Ml (dn:Int->afe) (J ab:afb) (cE:Int):afe:=
 cond (decide (cE<(J.length:Int))) ((bG J cE).bind λah=>(vE ah ab).bind λaA=>cond aA (some cE) (dn (i64.wrap (cE+1)))) (some (-1))
def Bx (J ab:afb):Nat->Int->afe
 |0,_=>none
 |n+1,cE=>Ml (Bx J ab n) J ab cE
def FZ (J ab:afb):afe:=
 cA λn=>Bx J ab n 0
def Bz (kj:afb->Int->Int->Option afb) (ab nm:afb) (nn np:Int):Option afb:=
 kj nm nn (i64.wrap (np+1))
def F1 (kj:afb->Int->Int->Option afb) (ab gm:afb) (dH hD:Int):Option afb:=
 cond (decide (hD<(gm.length:Int))) ((bG gm hD).bind λaA=>(vE aA ab).bind λaL=>cond (!aL) ((bG gm dH).bind λaQ=>Bz kj ab (List.set gm (Int.toNat dH) aA) (i64.wrap (dH+1)) hD) (Bz kj ab gm dH hD)) ((gw gm 0 dH).bind λaZ=>(gw (aZ++replicate (gm.length-aZ.length) 0) 0 dH).bind λbp=>some bp)
def tG (ab:afb):Nat->afb->Int->Int->Option afb
 |0,_,_,_=>none
 |n+1,gm,dH,hD=>F1 (tG ab n) ab gm dH hD
def BA (J ab:afb):Option afb:=
 (FZ J ab).bind λah=>cond (ah==(-1)) (some J) (cA λn=>tG ab n J ah (i64.wrap (ah+1)))
def BB (J:bg) (ab:afb):Option afb:=
 (ye J.bz).bind λah=>(BA ah ab).bind λaA=>some aA
def yi (J:bc) (ab:afm) (aW:bg) (fm:afb):Option afm:=
 (yh aW ab fm).bind λah=>some ah
def F2 (cL:afj->Int->Option afj) (J:afj) (aW:bc) (a0:bg) (a2:afb) (bW:afj) (iI:Int):Option afj:=
 cond (decide (iI<(J.length:Int))) ((bG J iI).bind λah=>(yi aW ah a0 a2).bind λaA=>(room 24 (bW.length+1)).bind λ_=>cL (bW++[aA]) (i64.wrap (iI+1))) (some bW)
def vF (J:afj) (aW:bc) (a0:bg) (a2:afb):Nat->afj->Int->Option afj
 |0,_,_=>none
 |n+1,bW,iI=>F2 (vF J aW a0 a2 n) J aW a0 a2 bW iI
def yj (J:afj) (a0:bg) (a2:afb) (aW:bc):Option afj:=
 cA λn=>vF J aW a0 a2 n [] 0
def F3 (cL:afn->Int->Option bg) (J a0:bg) (a2:afb) (ah:afb) (bW:afn) (iJ:Int):Option bg:=
 cond (decide (iJ<(J.bu.length:Int))) ((bG J.bu iJ).bind λaA=>(p7 aA.br).bind λaL=>(yi aA aA.Guard a0 a2).bind λaQ=>(yj aA.bD a0 a2 aA).bind λaZ=>(yj aA.Next a0 a2 aA).bind λbp=>(room 112 (bW.length+1)).bind λ_=>cL (bW++[(bc.mk aL aQ aA.Name aZ bp)]) (i64.wrap (iJ+1))) (some (bg.mk J.bz ah bW))
def vG (J a0:bg) (a2:afb) (ah:afb):Nat->afn->Int->Option bg
 |0,_,_=>none
 |n+1,bW,iJ=>F3 (vG J a0 a2 ah n) J a0 a2 ah bW iJ
def BC (J a0:bg) (a2:afb):Option bg:=
 (p7 J.Start).bind λah=>cA λn=>vG J a0 a2 ah n [] 0
def yk (J:Int):Option afm:=
 some [(aD.mk 1 J)]
def F4 (J:Int) (ab:bg) (aW:afb):Option ((Option afm)):=
 cond (decide (ab.bz<=J)) ((yk (i64.wrap ((i64.wrap (J-ab.bz))+(aW.length:Int)))).bind λah=>some (some ah)) ((vz aW J).bind λaA=>cond (decide (0<=aA)) ((yk aA).bind λaL=>some (some aL)) (some none))
def q2 (cL:afm->Int->Option afm) (J:afm) (a0:bg) (a2:afb) (e6 e7:afm) (fh:Int):Option afm:=
 (room 16 (e6.length+e7.length)).bind λ_=>cL (e6++e7) (i64.wrap (fh+1))
def F5 (cL:afm->Int->Option afm) (J:afm) (a0:bg) (a2:afb) (bW:afm) (ew:Int):Option afm:=
 cond (decide (ew<(J.length:Int))) ((bG J ew).bind λah=>cond (ah.Kind==1) ((F4 ah.Value a0 a2).bind λaA=>Option.elim aA (q2 cL J a0 a2 bW [ah] ew) (λaL=>cond aL.isEmpty (both (q2 cL J a0 a2 bW [ah] ew) (q2 cL J a0 a2 bW aL ew)) (q2 cL J a0 a2 bW aL ew))) (q2 cL J a0 a2 bW [ah] ew)) (some bW)
def q3 (J:afm) (a0:bg) (a2:afb):Nat->afm->Int->Option afm
 |0,_,_=>none
 |n+1,bW,ew=>F5 (q3 J a0 a2 n) J a0 a2 bW ew
def F6 (J:afm) (a0:bg) (a2:afb):Option afm:=
 cA λn=>q3 J a0 a2 n [] 0
def yl (J:bc) (ab:afm) (aW:bg) (fm:afb):Option afm:=
 (F6 ab aW fm).bind λah=>some ah
def F7 (cL:afj->Int->Option afj) (J:afj) (aW:bc) (a0:bg) (a2:afb) (bW:afj) (iI:Int):Option afj:=
 cond (decide (iI<(J.length:Int))) ((bG J iI).bind λah=>(yl aW ah a0 a2).bind λaA=>(room 24 (bW.length+1)).bind λ_=>cL (bW++[aA]) (i64.wrap (iI+1))) (some bW)
def vH (J:afj) (aW:bc) (a0:bg) (a2:afb):Nat->afj->Int->Option afj
 |0,_,_=>none
 |n+1,bW,iI=>F7 (vH J aW a0 a2 n) J aW a0 a2 bW iI
def ym (J:afj) (a0:bg) (a2:afb) (aW:bc):Option afj:=
 cA λn=>vH J aW a0 a2 n [] 0
def F8 (cL:afn->Int->Option bg) (J a0:bg) (a2:afb) (ah:afb) (bW:afn) (iJ:Int):Option bg:=
 cond (decide (iJ<(J.bu.length:Int))) ((bG J.bu iJ).bind λaA=>(p7 aA.br).bind λaL=>(yl aA aA.Guard a0 a2).bind λaQ=>(ym aA.bD a0 a2 aA).bind λaZ=>(ym aA.Next a0 a2 aA).bind λbp=>(room 112 (bW.length+1)).bind λ_=>cL (bW++[(bc.mk aL aQ aA.Name aZ bp)]) (i64.wrap (iJ+1))) (some (bg.mk J.bz ah bW))
def vI (J a0:bg) (a2:afb) (ah:afb):Nat->afn->Int->Option bg
 |0,_,_=>none
 |n+1,bW,iJ=>F8 (vI J a0 a2 ah n) J a0 a2 ah bW iJ
def BD (J a0:bg) (a2:afb):Option bg:=
 (p7 J.Start).bind λah=>cA λn=>vI J a0 a2 ah n [] 0
def F9 (o9:afb->afn->Int->Option bg) (Vp:(List (Bool×afm))->afj->Int->Option bg) (ab fa:afb) (eK:Int) (hE:afn) (ah:bg) (aQ:bc) (nr:List (Bool×afm)) (k3:afj) (l7:Int):Option bg:=
 cond (decide (l7<(ab.length:Int))) ((bG ab l7).bind λaZ=>(bG nr aZ).bind λbp=>(zi (!bp.1)).bind λ_=>(room 24 (k3.length+1)).bind λ_=>Vp (List.set nr (Int.toNat aZ) (true,bp.2)) (k3++[bp.2]) (i64.wrap (l7+1))) ((bG hE eK).bind λbV=>o9 fa (List.set hE (Int.toNat eK) (bc.mk aQ.br aQ.Guard aQ.Name aQ.bD k3)) (i64.wrap (eK+1)))
def vJ (o9:afb->afn->Int->Option bg) (ab fa:afb) (eK:Int) (hE:afn) (ah:bg) (aQ:bc):Nat->(List (Bool×afm))->afj->Int->Option bg
 |0,_,_,_=>none
 |n+1,nr,k3,l7=>F9 o9 (vJ o9 ab fa eK hE ah aQ n) ab fa eK hE ah aQ nr k3 l7
def F_ (o9:afb->afn->Int->Option bg) (ab:afb) (ah:bg) (fa:afb) (hE:afn) (eK:Int):Option bg:=
 cond (decide (eK<(ah.bu.length:Int))) ((bG hE eK).bind λaQ=>cA λn=>vJ o9 ab fa eK hE ah aQ n (map (λx=>(false,x)) aQ.Next) [] 0) (some (bg.mk (ab.length:Int) fa hE))
def q4 (ab:afb) (ah:bg):Nat->afb->afn->Int->Option bg
 |0,_,_,_=>none
 |n+1,fa,hE,eK=>F_ (q4 ab ah n) ab ah fa hE eK
def Ga (Vq:afb->Int->Option bg) (J:bg) (ab:afb) (ah:bg) (ns:afb) (ox:Int):Option bg:=
 cond (decide (ox<(ab.length:Int))) ((bG ab ox).bind λaA=>(bG J.Start aA).bind λaL=>(room 8 (ns.length+1)).bind λ_=>Vq (ns++[aL]) (i64.wrap (ox+1))) (cA λn=>q4 ab ah n ns ah.bu 0)
def vK (J:bg) (ab:afb) (ah:bg):Nat->afb->Int->Option bg
 |0,_,_=>none
 |n+1,ns,ox=>Ga (vK J ab ah n) J ab ah ns ox
def BE (J:bg) (ab:afb):Option bg:=
 (BD J J ab).bind λah=>cA λn=>vK J ab ah n [] 0
def yn (J:bg):Option (bg×afb×Int):=
 (Bl J).bind λah=>cond (!ah) (some ((bg.mk 0 [] []),[],1)) ((Bw J).bind λaA=>(BB J aA).bind λaL=>(BC J J aA).bind λaQ=>(BE aQ aL).bind λaZ=>some (aZ,aL,0))
def Vr (mH:Int->afd) (J ab:afb) (e8:Int):afd:=
 cond (decide (e8<(J.length:Int))) ((bG J e8).bind λah=>(bG ab e8).bind λaA=>cond (ah !=aA) (some false) (mH (i64.wrap (e8+1)))) (some true)
def Gb (J ab:afb):Nat->Int->afd
 |0,_=>none
 |n+1,e8=>Vr (Gb J ab n) J ab e8
def r5 (J ab:afb):afd:=
 cond ((J.length:Int) !=(ab.length:Int)) (some false) (cA λn=>Gb J ab n 0)
def yo (J ab:aD):afd:=
 cond (J.Kind !=ab.Kind) (some false) (cond (J.Value !=ab.Value) (some false) (some true))
def Vs (mH:Int->afd) (J ab:afm) (e8:Int):afd:=
 cond (decide (e8<(J.length:Int))) ((bG J e8).bind λah=>(bG ab e8).bind λaA=>(yo ah aA).bind λaL=>cond (!aL) (some false) (mH (i64.wrap (e8+1)))) (some true)
def Gc (J ab:afm):Nat->Int->afd
 |0,_=>none
 |n+1,e8=>Vs (Gc J ab n) J ab e8
def vL (J ab:afm):afd:=
 cond ((J.length:Int) !=(ab.length:Int)) (some false) (cA λn=>Gc J ab n 0)
def Vt (mH:Int->afd) (J ab:afj) (e8:Int):afd:=
 cond (decide (e8<(J.length:Int))) ((bG J e8).bind λah=>(bG ab e8).bind λaA=>(vL ah aA).bind λaL=>cond (!aL) (some false) (mH (i64.wrap (e8+1)))) (some true)
def Gd (J ab:afj):Nat->Int->afd
 |0,_=>none
 |n+1,e8=>Vt (Gd J ab n) J ab e8
def yp (J ab:afj):afd:=
 cond ((J.length:Int) !=(ab.length:Int)) (some false) (cA λn=>Gd J ab n 0)
def yq (J ab:bc):afd:=
 (r5 J.br ab.br).bind λah=>cond (!ah) (some false) ((vL J.Guard ab.Guard).bind λaA=>cond (!aA) (some false) (cond (!(J.Name==ab.Name)) (some false) ((yp J.bD ab.bD).bind λaL=>cond (!aL) (some false) ((yp J.Next ab.Next).bind λaQ=>cond (!aQ) (some false) (some true)))))
def Vu (mH:Int->afd) (J ab:afn) (e8:Int):afd:=
 cond (decide (e8<(J.length:Int))) ((bG J e8).bind λah=>(bG ab e8).bind λaA=>(yq ah aA).bind λaL=>cond (!aL) (some false) (mH (i64.wrap (e8+1)))) (some true)
def Ge (J ab:afn):Nat->Int->afd
 |0,_=>none
 |n+1,e8=>Vu (Ge J ab n) J ab e8
def BF (J ab:afn):afd:=
 cond ((J.length:Int) !=(ab.length:Int)) (some false) (cA λn=>Ge J ab n 0)
def tH (J ab:bg):afd:=
 cond (J.bz !=ab.bz) (some false) ((r5 J.Start ab.Start).bind λah=>cond (!ah) (some false) ((BF J.bu ab.bu).bind λaA=>cond (!aA) (some false) (some true)))
def Gf (dn:afb->Int->Int->Option (Int×afb)) (dk:afb) (bS bd:Int):Option (Int×afb):=
 cond (decide (bd<(dk.length:Int))) ((bG dk bd).bind λah=>dn (List.set dk (Int.toNat bd) bS) (i64.wrap (bS+1)) (i64.wrap (bd+1))) (some (bS,dk))
def vM:Nat->afb->Int->Int->Option (Int×afb)
 |0,_,_,_=>none
 |n+1,dk,bS,bd=>Gf (vM n) dk bS bd
def vN (J:afb) (ab:Int):Option (Int×afb):=
 cA λn=>vM n J ab 0
def Gg (dn:afm->Int->Int->Option (Int×afm)) (dk:afm) (bS bd:Int):Option (Int×afm):=
 cond (decide (bd<(dk.length:Int))) ((bG dk bd).bind λah=>(bG (List.set dk (Int.toNat bd) (aD.mk bS ah.Value)) bd).bind λaA=>dn (List.set (List.set dk (Int.toNat bd) (aD.mk bS ah.Value)) (Int.toNat bd) (aD.mk aA.Kind (i64.wrap (bS+1)))) (i64.wrap ((i64.wrap (bS+1))+1)) (i64.wrap (bd+1))) (some (bS,dk))
def vO:Nat->afm->Int->Int->Option (Int×afm)
 |0,_,_,_=>none
 |n+1,dk,bS,bd=>Gg (vO n) dk bS bd
def yr (J:afm) (ab:Int):Option (Int×afm):=
 cA λn=>vO n J ab 0
def BG (mH:Int->nq->Option nq) (k4:Int) (fS:nq):Option nq:=
 cond (decide (0<k4)) ((pv (1+fS.length)).bind λ_=>mH (i64.wrap (Int.tdiv k4 10)) ([(qq (i64.wrap (48+(Int.tmod k4 10))))]++fS)) ((pv (1+fS.length)).bind λ_=>some (([109]:nq)++fS))
def tI:Nat->Int->nq->Option nq
 |0,_,_=>none
 |n+1,k4,fS=>BG (tI n) k4 fS
def ys (J:Int):Option nq:=
 cond (decide (J<=0)) (some ([109,48]:nq)) (cA λn=>tI n J ([]:nq))
def Gh (dn:afj->Int->Int->Option (Int×afj)) (dk:afj) (bS bd:Int):Option (Int×afj):=
 cond (decide (bd<(dk.length:Int))) ((bG dk bd).bind λah=>(yr ah bS).bind λaA=>dn (List.set dk (Int.toNat bd) aA.2) aA.1 (i64.wrap (bd+1))) (some (bS,dk))
def vP:Nat->afj->Int->Int->Option (Int×afj)
 |0,_,_,_=>none
 |n+1,dk,bS,bd=>Gh (vP n) dk bS bd
def yt (J:afj) (ab:Int):Option (Int×afj):=
 cA λn=>vP n J ab 0
def Gi (dn:afn->Int->Int->Option (Int×afn)) (dk:afn) (bS bd:Int):Option (Int×afn):=
 cond (decide (bd<(dk.length:Int))) ((bG dk bd).bind λah=>(vN ah.br bS).bind λaA=>(bG (List.set dk (Int.toNat bd) (bc.mk aA.2 ah.Guard ah.Name ah.bD ah.Next)) bd).bind λaL=>(yr aL.Guard aA.1).bind λaQ=>(ys aQ.1).bind λaZ=>(bG (List.set (List.set dk (Int.toNat bd) (bc.mk aA.2 ah.Guard ah.Name ah.bD ah.Next)) (Int.toNat bd) (bc.mk aL.br aQ.2 aL.Name aL.bD aL.Next)) bd).bind λbp=>(bG (List.set (List.set (List.set dk (Int.toNat bd) (bc.mk aA.2 ah.Guard ah.Name ah.bD ah.Next)) (Int.toNat bd) (bc.mk aL.br aQ.2 aL.Name aL.bD aL.Next)) (Int.toNat bd) (bc.mk bp.br bp.Guard aZ bp.bD bp.Next)) bd).bind λbV=>(yt bV.bD (i64.wrap (aQ.1+1))).bind λc2=>(bG (List.set (List.set (List.set (List.set dk (Int.toNat bd) (bc.mk aA.2 ah.Guard ah.Name ah.bD ah.Next)) (Int.toNat bd) (bc.mk aL.br aQ.2 aL.Name aL.bD aL.Next)) (Int.toNat bd) (bc.mk bp.br bp.Guard aZ bp.bD bp.Next)) (Int.toNat bd) (bc.mk bV.br bV.Guard bV.Name c2.2 bV.Next)) bd).bind λdV=>(yt dV.Next c2.1).bind λeo=>dn (List.set (List.set (List.set (List.set (List.set dk (Int.toNat bd) (bc.mk aA.2 ah.Guard ah.Name ah.bD ah.Next)) (Int.toNat bd) (bc.mk aL.br aQ.2 aL.Name aL.bD aL.Next)) (Int.toNat bd) (bc.mk bp.br bp.Guard aZ bp.bD bp.Next)) (Int.toNat bd) (bc.mk bV.br bV.Guard bV.Name c2.2 bV.Next)) (Int.toNat bd) (bc.mk dV.br dV.Guard dV.Name dV.bD eo.2)) eo.1 (i64.wrap (bd+1))) (some (bS,dk))
def vQ:Nat->afn->Int->Int->Option (Int×afn)
 |0,_,_,_=>none
 |n+1,dk,bS,bd=>Gi (vQ n) dk bS bd
def BH (J:afn) (ab:Int):Option (Int×afn):=
 cA λn=>vQ n J ab 0
def yu (tJ:Int) (vR:afb) (tK:afn) (ab:Int):Option (Int×Int×afb×afn):=
 (vN vR ab).bind λah=>(BH tK ah.1).bind λaA=>some (aA.1,tJ,ah.2,aA.2)
def Gj (dn:Int->Int->afe) (J:afb) (bS bd:Int):afe:=
 cond (decide (bd<(J.length:Int))) ((bG J bd).bind λah=>cond (ah !=bS) (some (-1)) (dn (i64.wrap (bS+1)) (i64.wrap (bd+1)))) (some bS)
def vS (J:afb):Nat->Int->Int->afe
 |0,_,_=>none
 |n+1,bS,bd=>Gj (vS J n) J bS bd
def tL (J:afb) (ab:Int):afe:=
 cA λn=>vS J n ab 0
def Gk (dn:Int->Int->afe) (J:afm) (bS bd:Int):afe:=
 cond (decide (bd<(J.length:Int))) ((bG J bd).bind λah=>cond (ah.Kind !=bS) (some (-1)) (cond (ah.Value !=(i64.wrap (bS+1))) (some (-1)) (dn (i64.wrap ((i64.wrap (bS+1))+1)) (i64.wrap (bd+1))))) (some bS)
def vT (J:afm):Nat->Int->Int->afe
 |0,_,_=>none
 |n+1,bS,bd=>Gk (vT J n) J bS bd
def yv (J:afm) (ab:Int):afe:=
 cA λn=>vT J n ab 0
def Gl (dn:Int->Int->afe) (J:afj) (bS bd:Int):afe:=
 cond (decide (bd<(J.length:Int))) ((bG J bd).bind λah=>(yv ah bS).bind λaA=>cond (decide (aA<0)) (some (-1)) (dn aA (i64.wrap (bd+1)))) (some bS)
def vU (J:afj):Nat->Int->Int->afe
 |0,_,_=>none
 |n+1,bS,bd=>Gl (vU J n) J bS bd
def yw (J:afj) (ab:Int):afe:=
 cA λn=>vU J n ab 0
def Gm (dn:Int->Int->afe) (J:afn) (bS bd:Int):afe:=
 cond (decide (bd<(J.length:Int))) ((bG J bd).bind λah=>(tL ah.br bS).bind λaA=>cond (decide (aA<0)) (some (-1)) ((yv ah.Guard aA).bind λaL=>cond (decide (aL<0)) (some (-1)) ((ys aL).bind λaQ=>cond (!(ah.Name==aQ)) (some (-1)) ((yw ah.bD (i64.wrap (aL+1))).bind λaZ=>cond (decide (aZ<0)) (some (-1)) ((yw ah.Next aZ).bind λbp=>cond (decide (bp<0)) (some (-1)) (dn bp (i64.wrap (bd+1)))))))) (some bS)
def vV (J:afn):Nat->Int->Int->afe
 |0,_,_=>none
 |n+1,bS,bd=>Gm (vV J n) J bS bd
def BI (J:afn) (ab:Int):afe:=
 cA λn=>vV J n ab 0
def yx (J:bg) (ab:Int):afe:=
 (tL J.Start ab).bind λah=>cond (decide (ah<0)) (some (-1)) ((BI J.bu ah).bind λaA=>cond (decide (aA<0)) (some (-1)) (some aA))
def Gn (J:lZ):afd:=
 (AJ J 1048576).bind λah=>cond (decide (ah<0)) (some true) ((tq J).bind λaA=>(A3 aA).bind λaL=>(tq J).bind λaQ=>(yn aQ).bind λaZ=>(tH aZ.1 aL.1).bind λbp=>cond (!bp) (some false) ((r5 aZ.2.1 aL.2.1).bind λbV=>cond ((!bV)||(aZ.2.2 !=aL.2.2)) (some false) ((tq J).bind λc2=>(tH aQ c2).bind λdV=>cond (!dV) (some false) ((yu aQ.bz aQ.Start aQ.bu 1).bind λeo=>cond (decide (eo.1<0)) (some false) ((tH aZ.1 aL.1).bind λiv=>cond (!iv) (some false) ((r5 aZ.2.1 aL.2.1).bind λjZ=>cond ((!jZ)||(aZ.2.2 !=aL.2.2)) (some false) ((yu aZ.1.bz aZ.1.Start aZ.1.bu 1).bind λep=>(vN aZ.2.1 ep.1).bind λg4=>(yx (bg.mk ep.2.1 ep.2.2.1 ep.2.2.2) 1).bind λq5=>cond (decide (q5<0)) (some false) ((tL g4.2 q5).bind λtM=>cond (decide (tM<0)) (some false) (cond (tM !=g4.1) (some false) ((tq J).bind λyy=>(yn yy).bind λnt=>(tH nt.1 aL.1).bind λvW=>cond (!vW) (some false) ((r5 nt.2.1 aL.2.1).bind λvX=>cond ((!vX)||(nt.2.2 !=aL.2.2)) (some false) ((yx (bg.mk ep.2.1 ep.2.2.1 ep.2.2.2) 1).bind λyz=>cond (decide (yz<0)) (some false) ((tL g4.2 yz).bind λq6=>cond (decide (q6<0)) (some false) (cond (q6 !=g4.1) (some false) (some true)))))))))))))))
end
end Go.nc
