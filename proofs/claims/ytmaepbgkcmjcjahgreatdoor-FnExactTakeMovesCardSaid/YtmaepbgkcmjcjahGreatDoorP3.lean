/- Part of a proof that a law returns true for every input. No condition. -/
import Derived.Test.YtmaepbgkcmjcjahGreatDoorFwA
namespace Go.k6
open List Option Go.IntKind Nat Or
open Go Go.ei
set_option linter.unusedVariables false
noncomputable section
structure jx where
 Kind:Int
 Value:Int
def Cc (x:jx):Prop:=(-9223372036854775808<=x.Kind/\x.Kind<=9223372036854775807)/\(-9223372036854775808<=x.Value/\x.Value<=9223372036854775807)
structure lx where
 Kind:Int
 Number:Int
 Name:azc
 cl:List (List jx)
def FV (x:lx):Prop:=(-9223372036854775808<=x.Kind/\x.Kind<=9223372036854775807)/\(-9223372036854775808<=x.Number/\x.Number<=9223372036854775807)/\x.Name.length<=9223372036854775807/\(x.cl.length<=9223372036854775807/\∀y∈x.cl,(y.length<=9223372036854775807/\∀z∈y,Cc z))
structure ly where
 Name:azc
 dU:Int
 Body:List lx
def FW (x:ly):Prop:=x.Name.length<=9223372036854775807/\(-9223372036854775808<=x.dU/\x.dU<=9223372036854775807)/\(x.Body.length<=9223372036854775807/\∀y∈x.Body,FV y)
structure lz where
 cA:Int
 bK:aze
def FX (x:lz):Prop:=(-9223372036854775808<=x.cA/\x.cA<=9223372036854775807)/\(x.bK.length<=9223372036854775807/\∀y∈x.bK,(-9223372036854775808<=y/\y<=9223372036854775807))
structure k7 where
 Left:azc
 cH:azc
 Result:azc
def FY (x:k7):Prop:=x.Left.length<=9223372036854775807/\x.cH.length<=9223372036854775807/\x.Result.length<=9223372036854775807
structure o2 where
 cw:List ly
 ch:List lz
 b_:List k7
 cD:azb
 cB:azb
def FZ (x:o2):Prop:=(x.cw.length<=9223372036854775807/\∀y∈x.cw,FW y)/\(x.ch.length<=9223372036854775807/\∀y∈x.ch,FX y)/\(x.b_.length<=9223372036854775807/\∀y∈x.b_,FY y)/\(x.cD.length<=9223372036854775807/\∀y∈x.cD,y.length<=9223372036854775807)/\(x.cB.length<=9223372036854775807/\∀y∈x.cB,y.length<=9223372036854775807)
structure lA where
 cA:Int
 Part:Int
 bK:aze
def Cd (x:lA):Prop:=(-9223372036854775808<=x.cA/\x.cA<=9223372036854775807)/\(-9223372036854775808<=x.Part/\x.Part<=9223372036854775807)/\(x.bK.length<=9223372036854775807/\∀y∈x.bK,(-9223372036854775808<=y/\y<=9223372036854775807))
structure bV where
 Kind:Int
 Value:Int
def aiY (x:bV):Prop:=(-9223372036854775808<=x.Kind/\x.Kind<=9223372036854775807)/\(-9223372036854775808<=x.Value/\x.Value<=9223372036854775807)
structure ca where
 Kind:Int
 Number:Int
 Name:azc
 cl:List (List bV)
def aiZ (x:ca):Prop:=(-9223372036854775808<=x.Kind/\x.Kind<=9223372036854775807)/\(-9223372036854775808<=x.Number/\x.Number<=9223372036854775807)/\x.Name.length<=9223372036854775807/\(x.cl.length<=9223372036854775807/\∀y∈x.cl,(y.length<=9223372036854775807/\∀z∈y,aiY z))
structure a6 where
 Name:azc
 dU:Int
 Body:List ca
def ai0 (x:a6):Prop:=x.Name.length<=9223372036854775807/\(-9223372036854775808<=x.dU/\x.dU<=9223372036854775807)/\(x.Body.length<=9223372036854775807/\∀y∈x.Body,aiZ y)
structure cV where
 cA:Int
 bK:aze
def ai1 (x:cV):Prop:=(-9223372036854775808<=x.cA/\x.cA<=9223372036854775807)/\(x.bK.length<=9223372036854775807/\∀y∈x.bK,(-9223372036854775808<=y/\y<=9223372036854775807))
structure bZ where
 Left:azc
 cH:azc
 Result:azc
def ai2 (x:bZ):Prop:=x.Left.length<=9223372036854775807/\x.cH.length<=9223372036854775807/\x.Result.length<=9223372036854775807
structure cL where
 cw:List a6
 ch:List cV
 b_:List bZ
 cD:azb
 cB:azb
def axQ (x:cL):Prop:=(x.cw.length<=9223372036854775807/\∀y∈x.cw,ai0 y)/\(x.ch.length<=9223372036854775807/\∀y∈x.ch,ai1 y)/\(x.b_.length<=9223372036854775807/\∀y∈x.b_,ai2 y)/\(x.cD.length<=9223372036854775807/\∀y∈x.cD,y.length<=9223372036854775807)/\(x.cB.length<=9223372036854775807/\∀y∈x.cB,y.length<=9223372036854775807)
structure a8 where
 cA:Int
 Part:Int
 bK:aze
def Yv (x:a8):Prop:=(-9223372036854775808<=x.cA/\x.cA<=9223372036854775807)/\(-9223372036854775808<=x.Part/\x.Part<=9223372036854775807)/\(x.bK.length<=9223372036854775807/\∀y∈x.bK,(-9223372036854775808<=y/\y<=9223372036854775807))
structure bp where
 Label:azc
 n1:Int
 Second:Int
 State:List a8
def axR (x:bp):Prop:=x.Label.length<=9223372036854775807/\(-9223372036854775808<=x.n1/\x.n1<=9223372036854775807)/\(-9223372036854775808<=x.Second/\x.Second<=9223372036854775807)/\(x.State.length<=9223372036854775807/\∀y∈x.State,Yv y)
structure bm where
 Label:azc
 Next:a8
def axS (x:bm):Prop:=x.Label.length<=9223372036854775807/\Yv x.Next
structure dR where
 scope:Int
 behind:Bool
abbrev azo:=List jx
abbrev azp:=List lx
abbrev azq:=List ly
abbrev azr:=List lz
abbrev azs:=List k7
abbrev azt:=List lA
abbrev azu:=List bV
abbrev azv:=List ca
abbrev azw:=List a6
abbrev azx:=List cV
abbrev azy:=List bZ
abbrev azz:=List a8
abbrev azA:=List bp
abbrev azB:=List bm
abbrev azC:=List dR
abbrev azl:=List (List jx)
abbrev azm:=List (List bV)
abbrev azn:=List (List bm)
def axT (x:dR):Prop:=(-9223372036854775808<=x.scope/\x.scope<=9223372036854775807)/\True
inductive dG where
 |mk (term:bV) (args:List dG)
def dG.term:dG->bV
 | .mk a _=>a
def dG.args:dG->List dG
 | .mk _ a=>a
def F1 (a0:azo) (J:Int):azh:=
 cond (decide ((i64.wrap (J-(a0.length:Int)))<0)) (some (-1)) (some (i64.wrap (J-(a0.length:Int))))
def ai3 (jy:Int->Int->azh) (a0:azl) (eD eo:Int):azh:=
 cond (decide (eo<(a0.length:Int))) ((bj a0 eo).bind λU=>(F1 U eD).bind λaf=>cond (decide (af<0)) (some (-1)) (jy af (i64.wrap (eo+1)))) (some eD)
def O3 (a0:azl):Nat->Int->Int->azh
 |0,_,_=>none
 |n+1,eD,eo=>ai3 (O3 a0 n) a0 eD eo
def JK (a0:azl) (J:Int):azh:=
 cond (decide ((i64.wrap (J-(a0.length:Int)))<0)) (some (-1)) (b5 λn=>O3 a0 n (i64.wrap (J-(a0.length:Int))) 0)
def F2 (a0:lx) (J:Int):azh:=
 cond (decide ((i64.wrap (J-(a0.Name.length:Int)))<0)) (some (-1)) ((JK a0.cl (i64.wrap (J-(a0.Name.length:Int)))).bind λU=>cond (decide (U<0)) (some (-1)) (some U))
def ai4 (jy:Int->Int->azh) (a0:azp) (eD eo:Int):azh:=
 cond (decide (eo<(a0.length:Int))) ((bj a0 eo).bind λU=>(F2 U eD).bind λaf=>cond (decide (af<0)) (some (-1)) (jy af (i64.wrap (eo+1)))) (some eD)
def O4 (a0:azp):Nat->Int->Int->azh
 |0,_,_=>none
 |n+1,eD,eo=>ai4 (O4 a0 n) a0 eD eo
def JL (a0:azp) (J:Int):azh:=
 cond (decide ((i64.wrap (J-(a0.length:Int)))<0)) (some (-1)) (b5 λn=>O4 a0 n (i64.wrap (J-(a0.length:Int))) 0)
def F3 (a0:ly) (J:Int):azh:=
 cond (decide ((i64.wrap (J-(a0.Name.length:Int)))<0)) (some (-1)) ((JL a0.Body (i64.wrap (J-(a0.Name.length:Int)))).bind λU=>cond (decide (U<0)) (some (-1)) (some U))
def ai5 (jy:Int->Int->azh) (a0:azq) (eD eo:Int):azh:=
 cond (decide (eo<(a0.length:Int))) ((bj a0 eo).bind λU=>(F3 U eD).bind λaf=>cond (decide (af<0)) (some (-1)) (jy af (i64.wrap (eo+1)))) (some eD)
def O5 (a0:azq):Nat->Int->Int->azh
 |0,_,_=>none
 |n+1,eD,eo=>ai5 (O5 a0 n) a0 eD eo
def JM (a0:azq) (J:Int):azh:=
 cond (decide ((i64.wrap (J-(a0.length:Int)))<0)) (some (-1)) (b5 λn=>O5 a0 n (i64.wrap (J-(a0.length:Int))) 0)
def F4 (a0:aze) (J:Int):azh:=
 cond (decide ((i64.wrap (J-(a0.length:Int)))<0)) (some (-1)) (some (i64.wrap (J-(a0.length:Int))))
def F5 (a0:lz) (J:Int):azh:=
 (F4 a0.bK J).bind λU=>cond (decide (U<0)) (some (-1)) (some U)
def ai6 (jy:Int->Int->azh) (a0:azr) (eD eo:Int):azh:=
 cond (decide (eo<(a0.length:Int))) ((bj a0 eo).bind λU=>(F5 U eD).bind λaf=>cond (decide (af<0)) (some (-1)) (jy af (i64.wrap (eo+1)))) (some eD)
def O6 (a0:azr):Nat->Int->Int->azh
 |0,_,_=>none
 |n+1,eD,eo=>ai6 (O6 a0 n) a0 eD eo
def JN (a0:azr) (J:Int):azh:=
 cond (decide ((i64.wrap (J-(a0.length:Int)))<0)) (some (-1)) (b5 λn=>O6 a0 n (i64.wrap (J-(a0.length:Int))) 0)
def F6 (a0:k7) (J:Int):azh:=
 cond (decide ((i64.wrap (J-(a0.Left.length:Int)))<0)) (some (-1)) (cond (decide ((i64.wrap ((i64.wrap (J-(a0.Left.length:Int)))-(a0.cH.length:Int)))<0)) (some (-1)) (cond (decide ((i64.wrap ((i64.wrap ((i64.wrap (J-(a0.Left.length:Int)))-(a0.cH.length:Int)))-(a0.Result.length:Int)))<0)) (some (-1)) (some (i64.wrap ((i64.wrap ((i64.wrap (J-(a0.Left.length:Int)))-(a0.cH.length:Int)))-(a0.Result.length:Int))))))
def ai7 (jy:Int->Int->azh) (a0:azs) (eD eo:Int):azh:=
 cond (decide (eo<(a0.length:Int))) ((bj a0 eo).bind λU=>(F6 U eD).bind λaf=>cond (decide (af<0)) (some (-1)) (jy af (i64.wrap (eo+1)))) (some eD)
def O7 (a0:azs):Nat->Int->Int->azh
 |0,_,_=>none
 |n+1,eD,eo=>ai7 (O7 a0 n) a0 eD eo
def JO (a0:azs) (J:Int):azh:=
 cond (decide ((i64.wrap (J-(a0.length:Int)))<0)) (some (-1)) (b5 λn=>O7 a0 n (i64.wrap (J-(a0.length:Int))) 0)
def ai8 (jy:Int->Int->azh) (a0:azb) (eD eo:Int):azh:=
 cond (decide (eo<(a0.length:Int))) ((bj a0 eo).bind λU=>cond (decide ((i64.wrap (eD-(U.length:Int)))<0)) (some (-1)) (jy (i64.wrap (eD-(U.length:Int))) (i64.wrap (eo+1)))) (some eD)
def O8 (a0:azb):Nat->Int->Int->azh
 |0,_,_=>none
 |n+1,eD,eo=>ai8 (O8 a0 n) a0 eD eo
def F7 (a0:azb) (J:Int):azh:=
 cond (decide ((i64.wrap (J-(a0.length:Int)))<0)) (some (-1)) (b5 λn=>O8 a0 n (i64.wrap (J-(a0.length:Int))) 0)
def F8 (a0:o2) (J:Int):azh:=
 (JM a0.cw J).bind λU=>cond (decide (U<0)) (some (-1)) ((JN a0.ch U).bind λaf=>cond (decide (af<0)) (some (-1)) ((JO a0.b_ af).bind λaI=>cond (decide (aI<0)) (some (-1)) ((F7 a0.cD aI).bind λa1=>cond (decide (a1<0)) (some (-1)) ((F7 a0.cB a1).bind λba=>cond (decide (ba<0)) (some (-1)) (some ba)))))
def F9 (a0:lA) (J:Int):azh:=
 (F4 a0.bK J).bind λU=>cond (decide (U<0)) (some (-1)) (some U)
def ai9 (jy:Int->Int->azh) (a0:azt) (eD eo:Int):azh:=
 cond (decide (eo<(a0.length:Int))) ((bj a0 eo).bind λU=>(F9 U eD).bind λaf=>cond (decide (af<0)) (some (-1)) (jy af (i64.wrap (eo+1)))) (some eD)
def O9 (a0:azt):Nat->Int->Int->azh
 |0,_,_=>none
 |n+1,eD,eo=>ai9 (O9 a0 n) a0 eD eo
def JP (a0:azt) (J:Int):azh:=
 cond (decide ((i64.wrap (J-(a0.length:Int)))<0)) (some (-1)) (b5 λn=>O9 a0 n (i64.wrap (J-(a0.length:Int))) 0)
def F_ (a0:jx):Option bV:=
 some (bV.mk a0.Kind a0.Value)
def ai_ (fQ:azu->Int->Option azu) (a0:azo) (b4:azu) (bS:Int):Option azu:=
 cond (decide (bS<(a0.length:Int))) ((bj a0 bS).bind λU=>(F_ U).bind λaf=>(bj b4 bS).bind λaI=>fQ (List.set b4 (Int.toNat bS) af) (i64.wrap (bS+1))) (some b4)
def O_ (a0:azo):Nat->azu->Int->Option azu
 |0,_,_=>none
 |n+1,b4,bS=>ai_ (O_ a0 n) a0 b4 bS
def Ga (a0:azo):Option azu:=
 (nR 16 (a0.length:Int)).bind λ_=>b5 λn=>O_ a0 n (replicate (Int.toNat (a0.length:Int)) (bV.mk 0 0)) 0
def aja (fQ:azm->Int->Option azm) (a0:azl) (b4:azm) (bS:Int):Option azm:=
 cond (decide (bS<(a0.length:Int))) ((bj a0 bS).bind λU=>(Ga U).bind λaf=>(bj b4 bS).bind λaI=>fQ (List.set b4 (Int.toNat bS) af) (i64.wrap (bS+1))) (some b4)
def Pa (a0:azl):Nat->azm->Int->Option azm
 |0,_,_=>none
 |n+1,b4,bS=>aja (Pa a0 n) a0 b4 bS
def JQ (a0:azl):Option azm:=
 (nR 24 (a0.length:Int)).bind λ_=>b5 λn=>Pa a0 n (replicate (Int.toNat (a0.length:Int)) []) 0
def Gb (a0:lx):Option ca:=
 (JQ a0.cl).bind λU=>some (ca.mk a0.Kind a0.Number a0.Name U)
def ajb (fQ:azv->Int->Option azv) (a0:azp) (b4:azv) (bS:Int):Option azv:=
 cond (decide (bS<(a0.length:Int))) ((bj a0 bS).bind λU=>(Gb U).bind λaf=>(bj b4 bS).bind λaI=>fQ (List.set b4 (Int.toNat bS) af) (i64.wrap (bS+1))) (some b4)
def Pb (a0:azp):Nat->azv->Int->Option azv
 |0,_,_=>none
 |n+1,b4,bS=>ajb (Pb a0 n) a0 b4 bS
def JR (a0:azp):Option azv:=
 (nR 56 (a0.length:Int)).bind λ_=>b5 λn=>Pb a0 n (replicate (Int.toNat (a0.length:Int)) (ca.mk 0 0 ([]:azc) [])) 0
def Gc (a0:ly):Option a6:=
 (JR a0.Body).bind λU=>some (a6.mk a0.Name a0.dU U)
def ajc (fQ:azw->Int->Option azw) (a0:azq) (b4:azw) (bS:Int):Option azw:=
 cond (decide (bS<(a0.length:Int))) ((bj a0 bS).bind λU=>(Gc U).bind λaf=>(bj b4 bS).bind λaI=>fQ (List.set b4 (Int.toNat bS) af) (i64.wrap (bS+1))) (some b4)
def Pc (a0:azq):Nat->azw->Int->Option azw
 |0,_,_=>none
 |n+1,b4,bS=>ajc (Pc a0 n) a0 b4 bS
def JS (a0:azq):Option azw:=
 (nR 48 (a0.length:Int)).bind λ_=>b5 λn=>Pc a0 n (replicate (Int.toNat (a0.length:Int)) (a6.mk ([]:azc) 0 [])) 0
def ajd (fQ:aze->Int->Option aze) (a0 b4:aze) (bS:Int):Option aze:=
 cond (decide (bS<(a0.length:Int))) ((bj a0 bS).bind λU=>(bj b4 bS).bind λaf=>fQ (List.set b4 (Int.toNat bS) U) (i64.wrap (bS+1))) (some b4)
def Pd (a0:aze):Nat->aze->Int->Option aze
 |0,_,_=>none
 |n+1,b4,bS=>ajd (Pd a0 n) a0 b4 bS
def wi (a0:aze):Option aze:=
 (nR 8 (a0.length:Int)).bind λ_=>b5 λn=>Pd a0 n (replicate (Int.toNat (a0.length:Int)) 0) 0
def Gd (a0:lz):Option cV:=
 (wi a0.bK).bind λU=>some (cV.mk a0.cA U)
def aje (fQ:azx->Int->Option azx) (a0:azr) (b4:azx) (bS:Int):Option azx:=
 cond (decide (bS<(a0.length:Int))) ((bj a0 bS).bind λU=>(Gd U).bind λaf=>(bj b4 bS).bind λaI=>fQ (List.set b4 (Int.toNat bS) af) (i64.wrap (bS+1))) (some b4)
def Pe (a0:azr):Nat->azx->Int->Option azx
 |0,_,_=>none
 |n+1,b4,bS=>aje (Pe a0 n) a0 b4 bS
def JT (a0:azr):Option azx:=
 (nR 32 (a0.length:Int)).bind λ_=>b5 λn=>Pe a0 n (replicate (Int.toNat (a0.length:Int)) (cV.mk 0 [])) 0
def Ge (a0:k7):Option bZ:=
 some (bZ.mk a0.Left a0.cH a0.Result)
def ajf (fQ:azy->Int->Option azy) (a0:azs) (b4:azy) (bS:Int):Option azy:=
 cond (decide (bS<(a0.length:Int))) ((bj a0 bS).bind λU=>(Ge U).bind λaf=>(bj b4 bS).bind λaI=>fQ (List.set b4 (Int.toNat bS) af) (i64.wrap (bS+1))) (some b4)
def Pf (a0:azs):Nat->azy->Int->Option azy
 |0,_,_=>none
 |n+1,b4,bS=>ajf (Pf a0 n) a0 b4 bS
def JU (a0:azs):Option azy:=
 (nR 48 (a0.length:Int)).bind λ_=>b5 λn=>Pf a0 n (replicate (Int.toNat (a0.length:Int)) (bZ.mk ([]:azc) ([]:azc) ([]:azc))) 0
def ajg (fQ:azb->Int->Option azb) (a0 b4:azb) (bS:Int):Option azb:=
 cond (decide (bS<(a0.length:Int))) ((bj a0 bS).bind λU=>(bj b4 bS).bind λaf=>fQ (List.set b4 (Int.toNat bS) U) (i64.wrap (bS+1))) (some b4)
def Pg (a0:azb):Nat->azb->Int->Option azb
 |0,_,_=>none
 |n+1,b4,bS=>ajg (Pg a0 n) a0 b4 bS
def Gf (a0:azb):Option azb:=
 (nR 16 (a0.length:Int)).bind λ_=>b5 λn=>Pg a0 n (replicate (Int.toNat (a0.length:Int)) ([]:azc)) 0
def yd (a0:o2):Option cL:=
 (JS a0.cw).bind λU=>(JT a0.ch).bind λaf=>(JU a0.b_).bind λaI=>(Gf a0.cD).bind λa1=>(Gf a0.cB).bind λba=>some (cL.mk U af aI a1 ba)
def Gg (a0:lA):Option a8:=
 (wi a0.bK).bind λU=>some (a8.mk a0.cA a0.Part U)
def ajh (fQ:azz->Int->Option azz) (a0:azt) (b4:azz) (bS:Int):Option azz:=
 cond (decide (bS<(a0.length:Int))) ((bj a0 bS).bind λU=>(Gg U).bind λaf=>(bj b4 bS).bind λaI=>fQ (List.set b4 (Int.toNat bS) af) (i64.wrap (bS+1))) (some b4)
def Ph (a0:azt):Nat->azz->Int->Option azz
 |0,_,_=>none
 |n+1,b4,bS=>ajh (Ph a0 n) a0 b4 bS
def zN (a0:azt):Option azz:=
 (nR 40 (a0.length:Int)).bind λ_=>b5 λn=>Ph a0 n (replicate (Int.toNat (a0.length:Int)) (a8.mk 0 0 [])) 0
def Gh (a0:UInt8):azg:=
 some ((decide (97<=(a0.toNat:Int)))&&(decide ((a0.toNat:Int)<=122)))
def Ce (a0:UInt8):azg:=
 some ((decide (48<=(a0.toNat:Int)))&&(decide ((a0.toNat:Int)<=57)))
def Pj (fH:Int->azg) (a0:azc) (ep:Int):azg:=
 cond (decide (ep<(a0.length:Int))) ((bj a0 ep).bind λaI=>(Gh aI).bind λa1=>cond (!a1) ((Ce aI).bind λba=>cond (!ba) (some false) (fH (i64.wrap (ep+1)))) (fH (i64.wrap (ep+1)))) (some true)
def Gi (a0:azc):Nat->Int->azg
 |0,_=>none
 |n+1,ep=>Pj (Gi a0 n) a0 ep
def ye (a0:azc):azg:=
 cond (a0==([]:azc)) (some false) (cond (decide (10<(a0.length:Int))) (some false) ((bj a0 0).bind λU=>(Gh U).bind λaf=>cond (!af) (some false) (b5 λn=>Gi a0 n 0)))
def k8 (a0 J a2:Int):azg:=
 some ((decide (J<=a0))&&(decide (a0<=a2)))
def Gj (a0:ca) (j6:Bool):azh:=
 cond j6 (some 1) (cond (a0.Kind==2) (some 2) (some 0))
def Gk (a0:ca):azh:=
 cond (a0.Kind==1) (Gj a0 true) (cond (a0.Kind==3) (Gj a0 true) (Gj a0 (a0.Kind==4)))
def Pk (jy:Int->Int->azg) (a0:azv) (hb hA:Int):azg:=
 cond (decide (hA<(a0.length:Int))) (cond (hb==0) (some false) ((bj a0 hA).bind λU=>(Gk U).bind λaf=>jy (i64.wrap (hb+(i64.wrap (af-1)))) (i64.wrap (hA+1)))) (some (hb==0))
def Cf (a0:azv):Nat->Int->Int->azg
 |0,_,_=>none
 |n+1,hb,hA=>Pk (Cf a0 n) a0 hb hA
def JV (a0:azv):azg:=
 cond (((a0.length:Int)==0)||(decide (20<(a0.length:Int)))) (some false) (b5 λn=>Cf a0 n 1 0)
def JW (a0:ca) (Gl:Bool):azg:=
 cond Gl (some (((a0.Number==0)&&(a0.Name==([]:azc)))&&((a0.cl.length:Int)==0))) (cond (a0.Kind==1) (some (a0.Number==0)) (cond (a0.Kind==3) (some ((a0.Number==0)&&(a0.Name==([]:azc)))) (cond (a0.Kind==4) (some ((a0.Name==([]:azc))&&((a0.cl.length:Int)==0))) (cond (a0.Kind==5) (some (a0.Name==([]:azc))) (some false)))))
def Pl (a0:ca):azg:=
 cond (a0.Kind==0) (JW a0 true) (JW a0 (a0.Kind==2))
def Pm (dw:Int->Int->azh) (a0:azv) (a7 aK:Int):azh:=
 cond (decide (0<aK)) ((bj a0 a7).bind λU=>(Gk U).bind λaf=>dw (i64.wrap (a7+1)) (i64.wrap (aK+(i64.wrap (af-1))))) (some a7)
def Cg (a0:azv):Nat->Int->Int->azh
 |0,_,_=>none
 |n+1,a7,aK=>Pm (Cg a0 n) a0 a7 aK
def Gm (a0:azv) (J:Int):azh:=
 b5 λn=>Cg a0 n J 1
def Gn (fQ:Int->Int->azh) (a0:a6) (J Ch Ci:Int):azh:=
 fQ Ch (i64.wrap (Ci+1))
def Pn (fQ:Int->Int->azh) (a0:a6) (J fF j7:Int):azh:=
 cond (decide (j7<J)) ((bj a0.Body j7).bind λU=>cond (U.Kind==4) ((Gm a0.Body j7).bind λaf=>cond (decide (J<af)) (Gn fQ a0 J (i64.wrap (fF+1)) j7) (Gn fQ a0 J fF j7)) (Gn fQ a0 J fF j7)) (some fF)
def zO (a0:a6) (J:Int):Nat->Int->Int->azh
 |0,_,_=>none
 |n+1,fF,j7=>Pn (zO a0 J n) a0 J fF j7
def wj (a0:a6) (J:Int):azh:=
 b5 λn=>zO a0 J n a0.dU 0
def JX (a0:bV) (J:Int):azg:=
 cond (a0.Kind==0) ((k8 a0.Value 0 63).bind λU=>some U) (cond (a0.Kind==1) ((k8 a0.Value 0 (i64.wrap (J-1))).bind λaf=>some af) (cond (a0.Kind==2) ((k8 a0.Value 0 8).bind λaI=>some aI) (cond (a0.Kind==3) (some (a0.Value==0)) (some false))))
def JY (a0:bV):azh:=
 cond (a0.Kind==2) (some 2) (cond (a0.Kind==3) (some 1) (some 0))
def Po (jy:Int->Int->azg) (a0:azu) (J j6 uN:Int):azg:=
 cond (decide (uN<(a0.length:Int))) (cond (j6==0) (some false) ((bj a0 uN).bind λU=>(JX U J).bind λaf=>cond (!af) (some false) ((JY U).bind λaI=>jy (i64.wrap (j6+(i64.wrap (aI-1)))) (i64.wrap (uN+1))))) (some (j6==0))
def Cj (a0:azu) (J:Int):Nat->Int->Int->azg
 |0,_,_=>none
 |n+1,j6,uN=>Po (Cj a0 J n) a0 J j6 uN
def JZ (a0:azu) (J a2:Int):azg:=
 cond (decide (a2<(a0.length:Int))) (some false) (b5 λn=>Cj a0 J n 1 0)
def Pp (kU:Int->Int->azh) (U:ca) (uO uP:Int):azh:=
 cond (decide (uP<(U.cl.length:Int))) ((bj U.cl uP).bind λa1=>(JZ a1 uO 15).bind λba=>cond (!ba) (some 8) (kU uO (i64.wrap (uP+1)))) (some 0)
def yf (U:ca):Nat->Int->Int->azh
 |0,_,_=>none
 |n+1,uO,uP=>Pp (yf U n) U uO uP
def th (J:a6) (a2:Int) (U:ca) (Gp:Bool):azh:=
 cond Gp (some 6) ((wj J a2).bind λaI=>cond ((U.Kind==4)&&(decide (6<=aI))) (some 7) (b5 λn=>yf U n aI 0))
def wk (J:a6) (a2:Int) (U:ca):azh:=
 cond (U.Kind==5) (cond (a2==0) (th J a2 U true) ((bj J.Body (i64.wrap (a2-1))).bind λaZ=>th J a2 U (aZ.Kind !=1))) (th J a2 U false)
def uQ (a0:azw) (J:a6) (a2:Int) (U:ca) (Gq:Bool):azh:=
 cond Gq (some 4) (cond (U.Kind==1) (cond ((decide (2<(U.cl.length:Int)))||((decide (0<(U.cl.length:Int)))&&(U.Name==([116,97,117]:azc)))) (some 5) (wk J a2 U)) (cond (U.Kind==3) (cond ((U.cl.length:Int) !=1) (some 5) (wk J a2 U)) (cond (U.Kind==5) ((bj a0 U.Number).bind λbq=>cond ((U.cl.length:Int) !=bq.dU) (some 5) (wk J a2 U)) (wk J a2 U))))
def Ck (a0:azw) (J:a6) (a2:Int) (U:ca) (Gr:Bool):azh:=
 cond Gr (some 3) (cond (U.Kind==4) ((k8 U.Number 1 7).bind λcY=>cond (!cY) (uQ a0 J a2 U true) (cond (U.Kind==5) ((k8 U.Number 0 (i64.wrap ((a0.length:Int)-1))).bind λdm=>uQ a0 J a2 U (!dm)) (uQ a0 J a2 U false))) (cond (U.Kind==5) ((k8 U.Number 0 (i64.wrap ((a0.length:Int)-1))).bind λcp=>uQ a0 J a2 U (!cp)) (uQ a0 J a2 U false)))
def ti (a0:azw) (J:a6) (a2:Int):azh:=
 (bj J.Body a2).bind λU=>(Pl U).bind λaf=>cond (!af) (some 2) (cond (U.Kind==1) ((ye U.Name).bind λfc=>Ck a0 J a2 U (!fc)) (Ck a0 J a2 U false))
def Gs (fH:Int->Option (Int×Int)) (a0:azw) (J:a6) (qS:Int):Option (Int×Int):=
 cond (decide (qS<(J.Body.length:Int))) ((ti a0 J qS).bind λaf=>cond (decide (0<af)) (some (qS,af)) (fH (i64.wrap (qS+1)))) (some (0,0))
def wm (a0:azw) (J:a6):Nat->Int->Option (Int×Int)
 |0,_=>none
 |n+1,qS=>Gs (wm a0 J n) a0 J qS
def wo (a0:azw) (J:a6):Option (Int×Int):=
 (JV J.Body).bind λU=>cond (!U) (some (0,1)) (b5 λn=>wm a0 J n 0)
def Pq (fH:Int->azg) (Pr:Int->Int->azg) (a0:azw) (rU uR:Int):azg:=
 cond (decide (uR<rU)) ((bj a0 uR).bind λa1=>(bj a0 rU).bind λba=>cond (a1.Name==ba.Name) (some false) (Pr rU (i64.wrap (uR+1)))) (fH (i64.wrap (rU+1)))
def Cl (fH:Int->azg) (a0:azw):Nat->Int->Int->azg
 |0,_,_=>none
 |n+1,rU,uR=>Pq fH (Cl fH a0 n) a0 rU uR
def Ps (qT:Int->azg) (a0:azw) (uS:Int):azg:=
 cond (decide (uS<(a0.length:Int))) ((bj a0 uS).bind λaZ=>(wo a0 aZ).bind λbq=>cond (decide (0<bq.2)) (some false) (qT (i64.wrap (uS+1)))) (some true)
def zP (a0:azw):Nat->Int->azg
 |0,_=>none
 |n+1,uS=>Ps (zP a0 n) a0 uS
def Pt (fH:Int->azg) (a0:azw) (ep:Int):azg:=
 cond (decide (ep<(a0.length:Int))) ((bj a0 ep).bind λU=>(ye U.Name).bind λaf=>cond (!af) (some false) ((k8 U.dU 0 3).bind λaI=>cond (!aI) (some false) (b5 λn=>Cl fH a0 n ep 0))) (b5 λn=>zP a0 n 0)
def wq (a0:azw):Nat->Int->azg
 |0,_=>none
 |n+1,ep=>Pt (wq a0 n) a0 ep
def J0 (a0:azw):azg:=
 cond (((a0.length:Int)==0)||(decide (4<(a0.length:Int)))) (some false) (b5 λn=>wq a0 n 0)
def Pu (dw:Int->azg) (a0:aze) (iQ:Int):azg:=
 cond (decide (iQ<(a0.length:Int))) ((bj a0 iQ).bind λU=>(k8 U 0 63).bind λaf=>cond (!af) (some false) (dw (i64.wrap (iQ+1)))) (some true)
def Cm (a0:aze):Nat->Int->azg
 |0,_=>none
 |n+1,iQ=>Pu (Cm a0 n) a0 iQ
def Gt (a0:aze):azg:=
 b5 λn=>Cm a0 n 0
def Pv (fH:Int->azg) (a0:cL) (ep:Int):azg:=
 cond (decide (ep<(a0.ch.length:Int))) ((bj a0.ch ep).bind λU=>(k8 U.cA 0 (i64.wrap ((a0.cw.length:Int)-1))).bind λaf=>cond (!af) (some false) ((bj a0.cw U.cA).bind λaI=>cond ((U.bK.length:Int) !=aI.dU) (some false) ((Gt U.bK).bind λa1=>cond (!a1) (some false) (fH (i64.wrap (ep+1)))))) (some true)
def Cn (a0:cL):Nat->Int->azg
 |0,_=>none
 |n+1,ep=>Pv (Cn a0 n) a0 ep
def J1 (a0:cL):azg:=
 cond (((a0.ch.length:Int)==0)||(decide (3<(a0.ch.length:Int)))) (some false) (b5 λn=>Cn a0 n 0)
def uT (a0:azc):azg:=
 (ye a0).bind λU=>some (U&&(!(a0==([116,97,117]:azc))))
def Pw (fH:Int->azg) (aji:Int->Int->azg) (a0:azy) (U:bZ) (n2 oB:Int):azg:=
 cond (decide (oB<(a0.length:Int))) ((bj a0 oB).bind λbq=>cond ((bq.Left==U.Result)||(bq.cH==U.Result)) (some false) (aji n2 (i64.wrap (oB+1)))) (fH (i64.wrap (n2+1)))
def wt (fH:Int->azg) (a0:azy) (U:bZ):Nat->Int->Int->azg
 |0,_,_=>none
 |n+1,n2,oB=>Pw fH (wt fH a0 U n) a0 U n2 oB
def Px (fH:Int->azg) (a0:azy) (ep:Int):azg:=
 cond (decide (ep<(a0.length:Int))) ((bj a0 ep).bind λU=>(uT U.Left).bind λaf=>cond (!af) (some false) ((uT U.cH).bind λaI=>cond (!aI) (some false) ((uT U.Result).bind λa1=>cond ((!a1)||(!(Op.bytesLess U.Left U.cH||U.Left==U.cH))) (some false) (cond (decide (0<ep)) ((bj a0 (i64.wrap (ep-1))).bind λba=>cond ((!(Op.bytesLess ba.Left U.Left||ba.Left==U.Left))||((ba.Left==U.Left)&&(!(Op.bytesLess ba.cH U.cH)))) (some false) (b5 λn=>wt fH a0 U n ep 0)) (b5 λn=>wt fH a0 U n ep 0))))) (some true)
def tj (a0:azy):Nat->Int->azg
 |0,_=>none
 |n+1,ep=>Px (tj a0 n) a0 ep
def J2 (a0:azy):azg:=
 cond (decide (6<(a0.length:Int))) (some false) (b5 λn=>tj a0 n 0)
def Py (dw:Int->azg) (a0:azb) (iQ:Int):azg:=
 cond (decide (iQ<(a0.length:Int))) ((bj a0 iQ).bind λU=>(uT U).bind λaf=>cond (!af) (some false) (dw (i64.wrap (iQ+1)))) (some true)
def Co (a0:azb):Nat->Int->azg
 |0,_=>none
 |n+1,iQ=>Py (Co a0 n) a0 iQ
def J3 (a0:azb):azg:=
 b5 λn=>Co a0 n 0
def J4 (fH:Int->azg) (a0:azb) (ep:Int):azg:=
 cond (decide (ep<(a0.length:Int))) ((bj a0 (i64.wrap (ep-1))).bind λaf=>(bj a0 ep).bind λaI=>cond (!(Op.bytesLess af aI)) (some false) (fH (i64.wrap (ep+1)))) (some true)
def rV (a0:azb):Nat->Int->azg
 |0,_=>none
 |n+1,ep=>J4 (rV a0 n) a0 ep
def Gu (a0:azb):azg:=
 cond (decide (12<(a0.length:Int))) (some false) ((J3 a0).bind λU=>cond (!U) (some false) (b5 λn=>rV a0 n 1))
def J5 (a0:cL):azh:=
 (J0 a0.cw).bind λU=>cond (!U) (some 1) ((J1 a0).bind λaf=>cond (!af) (some 2) ((J2 a0.b_).bind λaI=>cond (!aI) (some 3) ((Gu a0.cD).bind λa1=>cond (!a1) (some 4) ((Gu a0.cB).bind λba=>cond (!ba) (some 5) (some 0)))))
def J6 (a0:cL):azg:=
 (J5 a0).bind λU=>some (U==0)
def yg (a0:azw) (J:a8):azg:=
 (k8 J.cA 0 (i64.wrap ((a0.length:Int)-1))).bind λU=>cond (!U) (some false) ((bj a0 J.cA).bind λaf=>(k8 J.Part 0 (i64.wrap ((af.Body.length:Int)-1))).bind λaI=>cond (!aI) (some false) ((bj af.Body J.Part).bind λa1=>cond (a1.Kind==5) (some false) ((wj af J.Part).bind λba=>cond ((J.bK.length:Int)==ba) ((Gt J.bK).bind λaZ=>some aZ) (some false))))
def Pz (fH:Int->azg) (a0:cL) (J:azz) (ct:Int):azg:=
 cond (decide (ct<(J.length:Int))) ((bj J ct).bind λU=>(yg a0.cw U).bind λaf=>cond (!af) (some false) (fH (i64.wrap (ct+1)))) (some true)
def Cp (a0:cL) (J:azz):Nat->Int->azg
 |0,_=>none
 |n+1,ct=>Pz (Cp a0 J n) a0 J ct
def J7 (a0:cL) (J:azz):azg:=
 cond ((J.length:Int) !=(a0.ch.length:Int)) (some false) (b5 λn=>Cp a0 J n 0)
def J8 (a0:cL) (J:azz):azh:=
 (J6 a0).bind λU=>cond (!U) (some 1) ((J7 a0 J).bind λaf=>cond (!af) (some 1) (some 0))
def Cq (a0:aze):Option aze:=
 (room 8 (a0.length)).bind λ_=>some a0
def PA (fQ:azz->Int->Option azz) (a0 b4:azz) (bS:Int):Option azz:=
 cond (decide (bS<(a0.length:Int))) ((bj a0 bS).bind λU=>(Cq U.bK).bind λaf=>(room 40 (b4.length+1)).bind λ_=>fQ (b4++[(a8.mk U.cA U.Part af)]) (i64.wrap (bS+1))) (some b4)
def Cr (a0:azz):Nat->azz->Int->Option azz
 |0,_,_=>none
 |n+1,b4,bS=>PA (Cr a0 n) a0 b4 bS
def uU (a0:azz):Option azz:=
 b5 λn=>Cr a0 n [] 0
def rW (a0:Bool):azh:=
 cond a0 (some 1) (some 0)
def PB (dw:Int->Int->azh) (a0:azu) (a7 aK:Int):azh:=
 cond (decide (0<aK)) ((bj a0 a7).bind λU=>(JY U).bind λaf=>dw (i64.wrap (a7+1)) (i64.wrap (aK+(i64.wrap (af-1))))) (some a7)
def Cs (a0:azu):Nat->Int->Int->azh
 |0,_,_=>none
 |n+1,a7,aK=>PB (Cs a0 n) a0 a7 aK
def J9 (a0:azu) (J:Int):azh:=
 b5 λn=>Cs a0 n J 1
def J_ (a0 J a2:Int):azh:=
 cond (a0==0) (some (Int.tmod (i64.wrap (J+a2)) 64)) (cond (a0==1) (some (Int.tmod (i64.wrap ((i64.wrap (J-a2))+64)) 64)) (cond (a0==2) (some (Int.tmod (i64.wrap (J*a2)) 64)) (cond (a0==3) ((rW (J==a2)).bind λU=>some U) (cond (a0==4) ((rW (J !=a2)).bind λaf=>some af) (cond (a0==5) ((rW (decide (J<a2))).bind λaI=>some aI) (cond (a0==6) ((rW (decide (J<=a2))).bind λa1=>some a1) (cond (a0==7) (cond (J !=0) ((rW (a2 !=0)).bind λba=>some ba) ((rW false).bind λaZ=>some aZ)) (cond (J !=0) ((rW true).bind λbq=>some bq) ((rW (a2 !=0)).bind λcY=>some cY)))))))))
def PC (Ct:azu->aze->Int->azh) (a0:azu) (J:aze) (a2:Int):azh:=
 (bj a0 a2).bind λU=>cond (U.Kind==0) (some U.Value) (cond (U.Kind==1) ((bj J U.Value).bind λaf=>some af) (cond (U.Kind==3) ((Ct a0 J (i64.wrap (a2+1))).bind λaI=>(rW (aI==0)).bind λa1=>some a1) ((Ct a0 J (i64.wrap (a2+1))).bind λba=>(J9 a0 (i64.wrap (a2+1))).bind λaZ=>(Ct a0 J aZ).bind λbq=>(J_ U.Value ba bq).bind λcY=>some cY)))
def zQ:Nat->azu->aze->Int->azh
 |0,_,_,_=>none
 |n+1,a0,J,a2=>PC (zQ n) a0 J a2
def PD (a0:azu) (J:aze) (a2:Int):azh:=
 b5 λn=>zQ n a0 J a2
def zR (a0:azu) (J:aze):azh:=
 (PD a0 J 0).bind λU=>some U
def PE (fQ:aze->Int->Option aze) (a0:azm) (J fF:aze) (j7:Int):Option aze:=
 cond (decide (j7<(a0.length:Int))) ((bj a0 j7).bind λU=>(zR U J).bind λaf=>(room 8 (fF.length+1)).bind λ_=>fQ (fF++[af]) (i64.wrap (j7+1))) (some fF)
def Cu (a0:azm) (J:aze):Nat->aze->Int->Option aze
 |0,_,_=>none
 |n+1,fF,j7=>PE (Cu a0 J n) a0 J fF j7
def Gv (a0:azm) (J:aze):Option aze:=
 b5 λn=>Cu a0 J n [] 0
def Ka (jy:azc->Int->Option azc) (a0:Int) (wu:azc) (yh uV:Int):Option azc:=
 (room 1 (wu.length+1)).bind λ_=>jy (wu++[(pk (i64.wrap (48+uV)))]) (i64.wrap (Int.tdiv yh 10))
def ajj (zS:azc->Int->Option azc) (o3 iD:azc) (h5:Int):Option azc:=
 cond (decide (0<=h5)) ((bj o3 h5).bind λU=>(room 1 (iD.length+1)).bind λ_=>zS (iD++[U]) (i64.wrap (h5-1))) (some iD)
def PF (o3:azc):Nat->azc->Int->Option azc
 |0,_,_=>none
 |n+1,iD,h5=>ajj (PF o3 n) o3 iD h5
def yi (o3:azc):Option azc:=
 b5 λn=>PF o3 n [] (i64.wrap ((o3.length:Int)-1))
def PG (jy:azc->Int->Option azc) (a0:Int) (hb:azc) (hA:Int):Option azc:=
 cond (hA !=0) (cond (decide ((Int.tmod hA 10)<0)) (Ka jy a0 hb hA (i64.wrap (0-(Int.tmod hA 10)))) (Ka jy a0 hb hA (Int.tmod hA 10))) (cond (decide (a0<0)) ((room 1 (hb.length+1)).bind λ_=>yi (hb++[(45:UInt8)])) (yi hb))
def wv (a0:Int):Nat->azc->Int->Option azc
 |0,_,_=>none
 |n+1,hb,hA=>PG (wv a0 n) a0 hb hA
def Gw (a0:Int):Option azc:=
 cond (a0==0) (some ([48]:azc)) (b5 λn=>wv a0 n [] a0)
def Kb (jy:azc->Int->Option azc) (a0:aze) (wx:azc) (wy:Int):Option azc:=
 (bj a0 wy).bind λU=>(Gw U).bind λaf=>(iJ (wx.length+af.length)).bind λ_=>jy (wx++af) (i64.wrap (wy+1))
def PH (jy:azc->Int->Option azc) (a0:aze) (hb:azc) (hA:Int):Option azc:=
 cond (decide (hA<(a0.length:Int))) (cond (decide (0<hA)) ((iJ (hb.length+1)).bind λ_=>Kb jy a0 (hb++([44]:azc)) hA) (Kb jy a0 hb hA)) (some hb)
def zT (a0:aze):Nat->azc->Int->Option azc
 |0,_,_=>none
 |n+1,hb,hA=>PH (zT a0 n) a0 hb hA
def Kc (a0:aze):Option azc:=
 cond ((a0.length:Int)==0) (some ([45]:azc)) (b5 λn=>zT a0 n ([]:azc) 0)
def Gx (a0:azc) (J:aze):Option azc:=
 cond ((J.length:Int)==0) (some a0) ((iJ (a0.length+1)).bind λ_=>(Kc J).bind λU=>(iJ ((a0++([40]:azc)).length+U.length)).bind λ_=>(iJ (((a0++([40]:azc))++U).length+1)).bind λ_=>some (((a0++([40]:azc))++U)++([41]:azc)))
def PI (fH:Int->azg) (a0 J:aze) (ct:Int):azg:=
 cond (decide (ct<(a0.length:Int))) ((bj a0 ct).bind λU=>(bj J ct).bind λaf=>cond (U !=af) (some false) (fH (i64.wrap (ct+1)))) (some true)
def Cv (a0 J:aze):Nat->Int->azg
 |0,_=>none
 |n+1,ct=>PI (Cv a0 J n) a0 J ct
def Gy (a0 J:aze):azg:=
 cond ((a0.length:Int) !=(J.length:Int)) (some false) (b5 λn=>Cv a0 J n 0)
def Cw (a0 J:a8):azg:=
 cond (a0.cA==J.cA) (cond (a0.Part==J.Part) ((Gy a0.bK J.bK).bind λU=>some U) (some false)) (some false)
def PJ (dw:Int->Option azB) (a0:azB) (J:bm) (aK:Int):Option azB:=
 cond (decide (aK<(a0.length:Int))) ((bj a0 aK).bind λU=>cond (U.Label==J.Label) ((Cw U.Next J.Next).bind λaf=>cond af (some a0) (dw (i64.wrap (aK+1)))) (dw (i64.wrap (aK+1)))) ((room 56 (a0.length+1)).bind λ_=>some (a0++[J]))
def Cx (a0:azB) (J:bm):Nat->Int->Option azB
 |0,_=>none
 |n+1,aK=>PJ (Cx a0 J n) a0 J aK
def Kd (a0:azB) (J:bm):Option azB:=
 b5 λn=>Cx a0 J n 0
def zU (mm:azw->Int->Int->aze->azB->Option azB) (a0:azw) (J a2:Int) (a3:aze) (Cy:azB):Option azB:=
 some Cy
def Gz (mm:azw->Int->Int->aze->azB->Option azB) (a3:aze) (a4:azB) (af:ca) (zV zW:Int) (zX:aze):Option azB:=
 (Gv af.cl a3).bind λa1=>(Gx af.Name a1).bind λba=>(Kd a4 (bm.mk ba (a8.mk zV zW zX))).bind λaZ=>some aZ
def PK (mm:azw->Int->Int->aze->azB->Option azB) (qT:azB->Int->Option azB) (a0:azw) (J a2:Int) (a3:aze) (af:ca) (uW:azB) (k9:Int):Option azB:=
 cond (decide (k9<=af.Number)) ((Cq a3).bind λgB=>(room 8 (gB.length+1)).bind λ_=>(mm a0 J (i64.wrap (a2+1)) (gB++[k9]) uW).bind λjz=>qT jz (i64.wrap (k9+1))) (zU mm a0 J a2 a3 uW)
def Cz (mm:azw->Int->Int->aze->azB->Option azB) (a0:azw) (J a2:Int) (a3:aze) (af:ca):Nat->azB->Int->Option azB
 |0,_,_=>none
 |n+1,uW,k9=>PK mm (Cz mm a0 J a2 a3 af n) a0 J a2 a3 af uW k9
def yj (mm:azw->Int->Int->aze->azB->Option azB) (a0:azw) (J a2:Int) (a3:aze) (a4:azB):Option azB:=
 (bj a0 J).bind λU=>(bj U.Body a2).bind λaf=>cond (decide (200<(a4.length:Int))) (some a4) (cond (af.Kind==1) ((Cq a3).bind λaI=>(bj U.Body (i64.wrap (a2+1))).bind λbq=>cond (bq.Kind==5) ((Gv bq.cl a3).bind λcY=>Gz mm a3 a4 af bq.Number 0 cY) (Gz mm a3 a4 af J (i64.wrap (a2+1)) aI)) (cond (af.Kind==2) ((mm a0 J (i64.wrap (a2+1)) a3 a4).bind λdm=>(Gm U.Body (i64.wrap (a2+1))).bind λcp=>(mm a0 J cp a3 dm).bind λfc=>some fc) (cond (af.Kind==3) ((bj af.cl 0).bind λko=>(zR ko a3).bind λlY=>cond (lY !=0) ((mm a0 J (i64.wrap (a2+1)) a3 a4).bind λi7=>some i7) (zU mm a0 J a2 a3 a4)) (cond (af.Kind==4) (b5 λn=>Cz mm a0 J a2 a3 af n a4 0) (zU mm a0 J a2 a3 a4)))))
def rX:Nat->azw->Int->Int->aze->azB->Option azB
 |0,_,_,_,_,_=>none
 |n+1,a0,J,a2,a3,a4=>yj (rX n) a0 J a2 a3 a4
def Ke (a0:azw) (J a2:Int) (a3:aze) (a4:azB):Option azB:=
 b5 λn=>rX n a0 J a2 a3 a4
def uX (a0:azw) (J:a8):Option (azB×Bool):=
 (Ke a0 J.cA J.Part J.bK []).bind λU=>some (U,(decide ((U.length:Int)<=200)))
def PL (dw:Int->azh) (a0:azc) (iQ:Int):azh:=
 cond (decide (iQ<(a0.length:Int))) ((bj a0 iQ).bind λU=>cond ((U.toNat:Int)==40) (some iQ) (dw (i64.wrap (iQ+1)))) (some (a0.length:Int))
def yk (a0:azc):Nat->Int->azh
 |0,_=>none
 |n+1,iQ=>PL (yk a0 n) a0 iQ
def zY (a0:azc):azh:=
 b5 λn=>yk a0 n 0
def tk (a0:azc):Option azc:=
 (zY a0).bind λU=>(gL a0 0 U).bind λaf=>some af
def PM (dw:Int->azh) (a0:azb) (J:azc) (aK:Int):azh:=
 cond (decide (aK<(a0.length:Int))) ((bj a0 aK).bind λU=>cond (U==J) (some aK) (dw (i64.wrap (aK+1)))) (some (-1))
def CA (a0:azb) (J:azc):Nat->Int->azh
 |0,_=>none
 |n+1,aK=>PM (CA a0 J n) a0 J aK
def CB (a0:azb) (J:azc):azh:=
 b5 λn=>CA a0 J n 0
def CC (a0:cL) (J:azc):Option azc:=
 (tk J).bind λU=>(CB a0.cB U).bind λaf=>cond (decide (0<=af)) (some ([116,97,117]:azc)) (some J)
def PN (fH:Int->azg) (a0 J:azz) (ct:Int):azg:=
 cond (decide (ct<(a0.length:Int))) ((bj a0 ct).bind λU=>(bj J ct).bind λaf=>(Cw U af).bind λaI=>cond (!aI) (some false) (fH (i64.wrap (ct+1)))) (some true)
def CD (a0 J:azz):Nat->Int->azg
 |0,_=>none
 |n+1,ct=>PN (CD a0 J n) a0 J ct
def Kf (a0 J:azz):azg:=
 cond ((a0.length:Int) !=(J.length:Int)) (some false) (b5 λn=>CD a0 J n 0)
def PO (dw:Int->Option azA) (a0:azA) (J:bp) (aK:Int):Option azA:=
 cond (decide (aK<(a0.length:Int))) ((bj a0 aK).bind λU=>cond (U.Label==J.Label) (cond (U.n1==J.n1) (cond (U.Second==J.Second) ((Kf U.State J.State).bind λaf=>cond af (some a0) (dw (i64.wrap (aK+1)))) (dw (i64.wrap (aK+1)))) (dw (i64.wrap (aK+1)))) (dw (i64.wrap (aK+1)))) ((room 56 (a0.length+1)).bind λ_=>some (a0++[J]))
def CE (a0:azA) (J:bp):Nat->Int->Option azA
 |0,_=>none
 |n+1,aK=>PO (CE a0 J n) a0 J aK
def zZ (a0:azA) (J:bp):Option azA:=
 b5 λn=>CE a0 J n 0
def Kg (kE:azb->Int->Int->Option azb) (a0:azc) (J:UInt8) (CF:azb) (CG CH:Int):Option azb:=
 kE CF CG (i64.wrap (CH+1))
def PQ (kE:azb->Int->Int->Option azb) (a0:azc) (J:UInt8) (kp:azb) (lB gn:Int):Option azb:=
 cond (decide (gn<(a0.length:Int))) ((bj a0 gn).bind λU=>cond ((U.toNat:Int)==(J.toNat:Int)) ((gL a0 lB gn).bind λaf=>(room 16 (kp.length+1)).bind λ_=>Kg kE a0 J (kp++[af]) (i64.wrap (gn+1)) gn) (Kg kE a0 J kp lB gn)) ((gL a0 lB (a0.length:Int)).bind λaI=>(room 16 (kp.length+1)).bind λ_=>some (kp++[aI]))
def z1 (a0:azc) (J:UInt8):Nat->azb->Int->Int->Option azb
 |0,_,_,_=>none
 |n+1,kp,lB,gn=>PQ (z1 a0 J n) a0 J kp lB gn
def Kh (a0:azc) (J:UInt8):Option azb:=
 b5 λn=>z1 a0 J n [] 0 0
def GA (tl:Int):Option (Int×Bool):=
 some (tl,true)
def PR (ajk:Int->Int->Option (Int×Bool)) (a0:azc) (iq nI pK:Int):Option (Int×Bool):=
 cond (decide (pK<(a0.length:Int))) ((bj a0 pK).bind λa1=>(Ce a1).bind λba=>cond (!ba) (some (0,false)) (ajk (i64.wrap ((i64.wrap (10*nI))+(i64.wrap (u8.wrap ((a1.toNat:Int)-48))))) (i64.wrap (pK+1)))) (cond (iq==1) (GA (i64.wrap (0-nI))) (GA nI))
def wz (a0:azc) (iq:Int):Nat->Int->Int->Option (Int×Bool)
 |0,_,_=>none
 |n+1,nI,pK=>PR (wz a0 iq n) a0 iq nI pK
def CI (a0:azc) (iq:Int):Option (Int×Bool):=
 cond ((a0.length:Int)==iq) (some (0,false)) (cond (decide (18<(i64.wrap ((a0.length:Int)-iq)))) (some (0,false)) ((bj a0 iq).bind λU=>cond ((U.toNat:Int)==48) (cond (decide (1<(a0.length:Int))) (some (0,false)) (b5 λn=>wz a0 iq n 0 iq)) (b5 λn=>wz a0 iq n 0 iq)))
def Ki (a0:azc):Option (Int×Bool):=
 cond (decide (0<(a0.length:Int))) ((bj a0 0).bind λaZ=>cond ((aZ.toNat:Int)==45) (CI a0 1) (CI a0 0)) (CI a0 0)
def PS (ajl:aze->Int->Option (aze×Bool)) (bq:azb) (pL:aze) (rY:Int):Option (aze×Bool):=
 cond (decide (rY<(bq.length:Int))) ((bj bq rY).bind λcY=>(Ki cY).bind λdm=>cond (!dm.2) (some ([],false)) ((k8 dm.1 0 63).bind λcp=>cond (!cp) (some ([],false)) ((room 8 (pL.length+1)).bind λ_=>ajl (pL++[dm.1]) (i64.wrap (rY+1))))) (some (pL,(decide ((pL.length:Int)<=2))))
def z6 (bq:azb):Nat->aze->Int->Option (aze×Bool)
 |0,_,_=>none
 |n+1,pL,rY=>PS (z6 bq n) bq pL rY
def z7 (a0:azc):Option (aze×Bool):=
 (zY a0).bind λU=>cond (U==(a0.length:Int)) ((ye a0).bind λaf=>some ([],af)) ((gL a0 0 U).bind λaI=>(uT aI).bind λa1=>cond (!a1) (some ([],false)) ((bj a0 (i64.wrap ((a0.length:Int)-1))).bind λba=>cond ((ba.toNat:Int) !=41) (some ([],false)) ((gL a0 (i64.wrap (U+1)) (i64.wrap ((a0.length:Int)-1))).bind λaZ=>(Kh aZ (44:UInt8)).bind λbq=>b5 λn=>z6 bq n [] 0)))
def PT (uY:azy->azc->azc->Option azc) (fH:Int->Option azc) (a0:azy) (J a2:azc) (tm:Int):Option azc:=
 cond (decide (tm<(a0.length:Int))) ((bj a0 tm).bind λaf=>cond ((af.Left==J)&&(af.cH==a2)) (some af.Result) (fH (i64.wrap (tm+1)))) (some ([]:azc))
def CJ (uY:azy->azc->azc->Option azc) (a0:azy) (J a2:azc):Nat->Int->Option azc
 |0,_=>none
 |n+1,tm=>PT uY (CJ uY a0 J a2 n) a0 J a2 tm
def z8 (uY:azy->azc->azc->Option azc) (a0:azy) (J a2:azc):Option azc:=
 cond (!(Op.bytesLess J a2||J==a2)) ((uY a0 a2 J).bind λU=>some U) (b5 λn=>CJ uY a0 J a2 n 0)
def CK:Nat->azy->azc->azc->Option azc
 |0,_,_,_=>none
 |n+1,a0,J,a2=>z8 (CK n) a0 J a2
def GB (a0:azy) (J a2:azc):Option azc:=
 b5 λn=>CK n a0 J a2
def Kj (a0:cL) (J a2:azc):Option azc:=
 (z7 J).bind λU=>(z7 a2).bind λaf=>(Gy U.1 af.1).bind λaI=>cond (!aI) (some ([]:azc)) ((tk J).bind λa1=>(tk a2).bind λba=>(GB a0.b_ a1 ba).bind λaZ=>cond (aZ==([]:azc)) (some ([]:azc)) ((CB a0.cD aZ).bind λbq=>cond (decide (bq<0)) (some ([]:azc)) ((Gx aZ U.1).bind λcY=>some cY)))
def GC (qU:azA->azn->Int->Option (azA×Bool)) (zS:azA->azn->Int->Int->Option (azA×Bool)) (J:azz) (bu:azw) (bz:azx) (bw:azy) (bY bW:azb) (CL:azA) (CM:azn) (CN CO:Int):Option (azA×Bool):=
 zS CL CM CN (i64.wrap (CO+1))
def PU (qU:azA->azn->Int->Option (azA×Bool)) (zS:azA->azn->Int->Int->Option (azA×Bool)) (J:azz) (bu:azw) (bz:azx) (bw:azy) (bY bW:azb) (iD:azA) (h5:azn) (hZ lZ:Int):Option (azA×Bool):=
 (bj h5 hZ).bind λaI=>cond (decide (lZ<(aI.length:Int))) ((bj aI lZ).bind λa1=>cond (!(a1.Label==([116,97,117]:azc))) ((tk a1.Label).bind λba=>(CB bY ba).bind λaZ=>cond (decide (aZ<0)) (GC qU zS J bu bz bw bY bW iD h5 hZ lZ) ((uU J).bind λbq=>(bj bq hZ).bind λcY=>(CC (cL.mk bu bz bw bY bW) a1.Label).bind λdm=>(uU (List.set bq (Int.toNat hZ) a1.Next)).bind λcp=>(zZ iD (bp.mk dm hZ (-1) cp)).bind λfc=>GC qU zS J bu bz bw bY bW fc h5 hZ lZ)) ((uU J).bind λko=>(bj ko hZ).bind λlY=>(CC (cL.mk bu bz bw bY bW) a1.Label).bind λi7=>(uU (List.set ko (Int.toNat hZ) a1.Next)).bind λgB=>(zZ iD (bp.mk i7 hZ (-1) gB)).bind λjz=>GC qU zS J bu bz bw bY bW jz h5 hZ lZ)) (qU iD h5 (i64.wrap (hZ+1)))
def yl (qU:azA->azn->Int->Option (azA×Bool)) (J:azz) (bu:azw) (bz:azx) (bw:azy) (bY bW:azb):Nat->azA->azn->Int->Int->Option (azA×Bool)
 |0,_,_,_,_=>none
 |n+1,iD,h5,hZ,lZ=>PU qU (yl qU J bu bz bw bY bW n) J bu bz bw bY bW iD h5 hZ lZ
def Kk (iE:azA->azn->Int->Option (azA×Bool)) (kU:azA->azn->Int->Int->Option (azA×Bool)) (qe:azA->azn->Int->Int->Int->Option (azA×Bool)) (Kl:azA->azn->Int->Int->Int->Int->Option (azA×Bool)) (J:azz) (bu:azw) (bz:azx) (bw:azy) (bY bW:azb) (CP:azA) (CQ:azn) (CR CS:Int) (CT CU:Int):Option (azA×Bool):=
 Kl CP CQ CR CS CT (i64.wrap (CU+1))
def Km (iE:azA->azn->Int->Option (azA×Bool)) (kU:azA->azn->Int->Int->Option (azA×Bool)) (qe:azA->azn->Int->Int->Int->Option (azA×Bool)) (Kl:azA->azn->Int->Int->Int->Int->Option (azA×Bool)) (J:azz) (bu:azw) (bz:azx) (bw:azy) (bY bW:azb) (nb:azA) (mJ:azn) (j8 kG:Int) (nc mK:Int):Option (azA×Bool):=
 (bj mJ kG).bind λqV=>cond ((decide (mK<(qV.length:Int)))&&(decide ((nb.length:Int)<=200))) ((bj mJ j8).bind λkV=>(bj kV nc).bind λkW=>(bj qV mK).bind λnd=>(Kj (cL.mk bu bz bw bY bW) kW.Label nd.Label).bind λnJ=>cond (nJ==([]:azc)) (Kk iE kU qe Kl J bu bz bw bY bW nb mJ j8 kG nc mK) ((uU J).bind λlC=>(bj lC j8).bind λnf=>(bj (List.set lC (Int.toNat j8) kW.Next) kG).bind λjl=>(CC (cL.mk bu bz bw bY bW) nJ).bind λn3=>(uU (List.set (List.set lC (Int.toNat j8) kW.Next) (Int.toNat kG) nd.Next)).bind λpM=>(zZ nb (bp.mk n3 j8 kG pM)).bind λym=>Kk iE kU qe Kl J bu bz bw bY bW ym mJ j8 kG nc mK)) (qe nb mJ j8 kG (i64.wrap (nc+1)))
def uZ (iE:azA->azn->Int->Option (azA×Bool)) (kU:azA->azn->Int->Int->Option (azA×Bool)) (qe:azA->azn->Int->Int->Int->Option (azA×Bool)) (J:azz) (bu:azw) (bz:azx) (bw:azy) (bY bW:azb):Nat->azA->azn->Int->Int->Int->Int->Option (azA×Bool)
 |0,_,_,_,_,_,_=>none
 |n+1,nb,mJ,j8,kG,nc,mK=>Km iE kU qe (uZ iE kU qe J bu bz bw bY bW n) J bu bz bw bY bW nb mJ j8 kG nc mK
def PV (iE:azA->azn->Int->Option (azA×Bool)) (kU:azA->azn->Int->Int->Option (azA×Bool)) (qe:azA->azn->Int->Int->Int->Option (azA×Bool)) (J:azz) (bu:azw) (bz:azx) (bw:azy) (bY bW:azb) (u0:azA) (tn:azn) (tp u1 wA:Int):Option (azA×Bool):=
 (bj tn tp).bind λmn=>cond (decide (wA<(mn.length:Int))) (b5 λn=>uZ iE kU qe J bu bz bw bY bW n u0 tn tp u1 wA 0) (kU u0 tn tp (i64.wrap (u1+1)))
def rZ (iE:azA->azn->Int->Option (azA×Bool)) (kU:azA->azn->Int->Int->Option (azA×Bool)) (J:azz) (bu:azw) (bz:azx) (bw:azy) (bY bW:azb):Nat->azA->azn->Int->Int->Int->Option (azA×Bool)
 |0,_,_,_,_,_=>none
 |n+1,u0,tn,tp,u1,wA=>PV iE kU (rZ iE kU J bu bz bw bY bW n) J bu bz bw bY bW u0 tn tp u1 wA
def PW (iE:azA->azn->Int->Option (azA×Bool)) (kU:azA->azn->Int->Int->Option (azA×Bool)) (J:azz) (bu:azw) (bz:azx) (bw:azy) (bY bW:azb) (u2:azA) (u3:azn) (u4 wB:Int):Option (azA×Bool):=
 cond (decide (wB<(J.length:Int))) (b5 λn=>rZ iE kU J bu bz bw bY bW n u2 u3 u4 wB 0) (iE u2 u3 (i64.wrap (u4+1)))
def o4 (iE:azA->azn->Int->Option (azA×Bool)) (J:azz) (bu:azw) (bz:azx) (bw:azy) (bY bW:azb):Nat->azA->azn->Int->Int->Option (azA×Bool)
 |0,_,_,_,_=>none
 |n+1,u2,u3,u4,wB=>PW iE (o4 iE J bu bz bw bY bW n) J bu bz bw bY bW u2 u3 u4 wB
def PX (iE:azA->azn->Int->Option (azA×Bool)) (J:azz) (bu:azw) (bz:azx) (bw:azy) (bY bW:azb) (r0:azA) (yn:azn) (tq:Int):Option (azA×Bool):=
 cond (decide (tq<(J.length:Int))) (b5 λn=>o4 iE J bu bz bw bY bW n r0 yn tq (i64.wrap (tq+1))) (some (r0,(decide ((r0.length:Int)<=200))))
def l0 (J:azz) (bu:azw) (bz:azx) (bw:azy) (bY bW:azb):Nat->azA->azn->Int->Option (azA×Bool)
 |0,_,_,_=>none
 |n+1,r0,yn,tq=>PX (l0 J bu bz bw bY bW n) J bu bz bw bY bW r0 yn tq
def PY (qU:azA->azn->Int->Option (azA×Bool)) (J:azz) (bu:azw) (bz:azx) (bw:azy) (bY bW:azb) (u5:azA) (u6:azn) (wC:Int):Option (azA×Bool):=
 cond (decide (wC<(J.length:Int))) (b5 λn=>yl qU J bu bz bw bY bW n u5 u6 wC 0) (b5 λn=>l0 J bu bz bw bY bW n u5 u6 0)
def tr (J:azz) (bu:azw) (bz:azx) (bw:azy) (bY bW:azb):Nat->azA->azn->Int->Option (azA×Bool)
 |0,_,_,_=>none
 |n+1,u5,u6,wC=>PY (tr J bu bz bw bY bW n) J bu bz bw bY bW u5 u6 wC
def GD (kE:azn->Int->Option (azA×Bool)) (J:azz) (bu:azw) (bz:azx) (bw:azy) (bY bW:azb) (gn:azn) (qf:Int):Option (azA×Bool):=
 cond (decide (qf<(J.length:Int))) ((bj J qf).bind λU=>(uX bu U).bind λaf=>cond (!af.2) (some ([],false)) ((room 24 (gn.length+1)).bind λ_=>kE (gn++[af.1]) (i64.wrap (qf+1)))) (b5 λn=>tr J bu bz bw bY bW n [] gn 0)
def wD (J:azz) (bu:azw) (bz:azx) (bw:azy) (bY bW:azb):Nat->azn->Int->Option (azA×Bool)
 |0,_,_=>none
 |n+1,gn,qf=>GD (wD J bu bz bw bY bW n) J bu bz bw bY bW gn qf
def Kn (bu:azw) (bz:azx) (bw:azy) (bY bW:azb) (J:azz):Option (azA×Bool):=
 b5 λn=>wD J bu bz bw bY bW n [] 0
def GF (PZ:azz->azb->Int->Option (azz×azb×Int)) (a0:cL) (J:azz) (a2:aze) (l1:azz) (pN:azb) (qg:Int):Option (azz×azb×Int):=
 cond (decide (qg<(a2.length:Int))) ((Kn a0.cw a0.ch a0.b_ a0.cD a0.cB l1).bind λaI=>cond (!aI.2) (some ([],[],5)) ((bj a2 qg).bind λa1=>(k8 a1 0 (i64.wrap ((aI.1.length:Int)-1))).bind λba=>cond (!ba) (some ([],[],2)) ((bj aI.1 a1).bind λaZ=>(room 16 (pN.length+1)).bind λ_=>PZ aZ.State (pN++[aZ.Label]) (i64.wrap (qg+1))))) (some (l1,pN,0))
def yo (a0:cL) (J:azz) (a2:aze):Nat->azz->azb->Int->Option (azz×azb×Int)
 |0,_,_,_=>none
 |n+1,l1,pN,qg=>GF (yo a0 J a2 n) a0 J a2 l1 pN qg
def Ko (a0:cL) (J:azz) (a2:aze):Option (azz×azb×Int):=
 (J8 a0 J).bind λU=>cond (U !=0) (some ([],[],U)) ((uU J).bind λaf=>b5 λn=>yo a0 J a2 n af [] 0)
def kX (a0 J a2:Int):azg:=
 some ((decide (J<=a0))&&(decide (a0<=a2)))
def P0 (a0:a6):azg:=
 (kX a0.dU 0 3).bind λU=>some (!U)
def P1 (dw:Int->azh) (a0:azw) (cI:Int):azh:=
 cond (decide (cI<(a0.length:Int))) ((bj a0 cI).bind λU=>(P0 U).bind λaf=>cond af (some cI) (dw (i64.wrap (cI+1)))) (some (-1))
def GG (a0:azw):Nat->Int->azh
 |0,_=>none
 |n+1,cI=>P1 (GG a0 n) a0 cI
def P2 (a0:azw):azh:=
 b5 λn=>GG a0 n 0
def P3 (a0:azw):azg:=
 (P2 a0).bind λU=>some (decide (0<=U))
def Kp (a0:azw):azg:=
 (P3 a0).bind λU=>some (!U)
def P4 (a0:UInt8):azg:=
 some ((decide (48<=(a0.toNat:Int)))&&(decide ((a0.toNat:Int)<=57)))
def Kq (dw:Int->azg) (a0:azc) (fU:Int):azg:=
 cond (decide (fU<(a0.length:Int))) ((bj a0 fU).bind λU=>cond (!((decide (97<=(U.toNat:Int)))&&(decide ((U.toNat:Int)<=122)))) (cond (fU==0) (some false) ((P4 U).bind λaf=>cond (!af) (some false) (dw (i64.wrap (fU+1))))) (dw (i64.wrap (fU+1)))) (some ((decide (1<=(a0.length:Int)))&&(decide ((a0.length:Int)<=10))))
def yp (a0:azc):Nat->Int->azg
 |0,_=>none
 |n+1,fU=>Kq (yp a0 n) a0 fU
def GH (a0:azc):azg:=
 b5 λn=>yp a0 n 0
def P5 (a0:a6) (J:azc):azg:=
 some (a0.Name==J)
def P6 (dw:Int->azh) (a0:azw) (J:azc) (cI:Int):azh:=
 cond (decide (cI<(a0.length:Int))) ((bj a0 cI).bind λU=>(P5 U J).bind λaf=>cond af (some cI) (dw (i64.wrap (cI+1)))) (some (-1))
def GI (a0:azw) (J:azc):Nat->Int->azh
 |0,_=>none
 |n+1,cI=>P6 (GI a0 J n) a0 J cI
def P7 (a0:azw) (J:azc):azh:=
 b5 λn=>GI a0 J n 0
def Kr (a0:azw) (J:azc):azh:=
 (P7 a0 J).bind λU=>some U
def GJ (a0:ca) (eo:Bool):azh:=
 cond eo (some 1) (cond (a0.Kind==2) (some 2) (some 0))
def GK (a0:ca):azh:=
 cond (a0.Kind==1) (GJ a0 true) (cond (a0.Kind==3) (GJ a0 true) (GJ a0 (a0.Kind==4)))
def P8 (dw:Int->Int->azh) (a0:a6) (a7 aK:Int):azh:=
 cond (decide (0<aK)) (cond (decide ((a0.Body.length:Int)<=a7)) (some (-1)) ((bj a0.Body a7).bind λU=>(GK U).bind λaf=>dw (i64.wrap (a7+1)) (i64.wrap (aK+(i64.wrap (af-1)))))) (some a7)
def CV (a0:a6):Nat->Int->Int->azh
 |0,_,_=>none
 |n+1,a7,aK=>P8 (CV a0 n) a0 a7 aK
def GL (a0:a6) (J:Int):azh:=
 b5 λn=>CV a0 n J 1
def P9 (qh:Int->dR->azC->a6->Option (Int×azC)) (PZ:azC->Int->Int->Option (Int×azC)) (a3:a6) (oC:Int) (af:ca) (aI:Int) (wE:azC) (l1 u7:Int):Option (Int×azC):=
 cond (decide (u7<aI)) ((qh l1 (dR.mk oC (af.Kind==1)) wE a3).bind λa1=>PZ a1.2 a1.1 (i64.wrap (u7+1))) (some (l1,wE))
def z_ (qh:Int->dR->azC->a6->Option (Int×azC)) (a3:a6) (oC:Int) (af:ca) (aI:Int):Nat->azC->Int->Int->Option (Int×azC)
 |0,_,_,_=>none
 |n+1,wE,l1,u7=>P9 qh (z_ qh a3 oC af aI n) a3 oC af aI wE l1 u7
def Ks (qh:Int->dR->azC->a6->Option (Int×azC)) (a0:Int) (J:dR) (a2:azC) (a3:a6) (af:ca) (oC:Int):Option (Int×azC):=
 (GK af).bind λaI=>b5 λn=>z_ qh a3 oC af aI n (List.set a2 (Int.toNat a0) J) (i64.wrap (a0+1)) 0
def P_ (qh:Int->dR->azC->a6->Option (Int×azC)) (a0:Int) (J:dR) (a2:azC) (a3:a6):Option (Int×azC):=
 (bj a2 a0).bind λU=>(bj a3.Body a0).bind λaf=>cond (af.Kind==4) (Ks qh a0 J a2 a3 af (i64.wrap (J.scope+1))) (Ks qh a0 J a2 a3 af J.scope)
def Aa:Nat->Int->dR->azC->a6->Option (Int×azC)
 |0,_,_,_,_=>none
 |n+1,a0,J,a2,a3=>P_ (Aa n) a0 J a2 a3
def Kt (a0:Int) (J:dR) (a2:azC) (a3:a6):Option (Int×azC):=
 b5 λn=>Aa n a0 J a2 a3
def CW (a0:a6):Option azC:=
 (nR 16 (a0.Body.length:Int)).bind λ_=>(Kt 0 (dR.mk a0.dU false) (replicate (Int.toNat (a0.Body.length:Int)) (dR.mk 0 false)) a0).bind λU=>some U.2
def Qa (a0:ca):azg:=
 (kX a0.Kind 0 5).bind λU=>some (((U&&(((a0.Kind==4)||(a0.Kind==5))||(a0.Number==0)))&&((a0.Kind==1)||(a0.Name==([]:azc))))&&((((a0.Kind==1)||(a0.Kind==3))||(a0.Kind==5))||((a0.cl.length:Int)==0)))
def u9 (a0:azc):azg:=
 (GH a0).bind λU=>some (U&&(!(a0==([116,97,117]:azc))))
def ts (a0 J:Int):azg:=
 (kX a0 0 (i64.wrap (J-1))).bind λU=>some U
def Qb (a0:ca) (J:azw):azg:=
 cond (a0.Kind==1) (some (((a0.cl.length:Int)==0)||((!(a0.Name==([116,97,117]:azc)))&&(decide ((a0.cl.length:Int)<=2))))) (cond (a0.Kind==3) (some ((a0.cl.length:Int)==1)) (cond (a0.Kind==5) ((bj J a0.Number).bind λU=>some ((a0.cl.length:Int)==U.dU)) (some true)))
def GM (a0:Int):azg:=
 (kX a0 0 63).bind λU=>some U
def Ku (a0:bV) (J:Int):azg:=
 cond (a0.Kind==0) ((GM a0.Value).bind λU=>some U) (cond (a0.Kind==1) ((kX a0.Value 0 (i64.wrap (J-1))).bind λaf=>some af) (cond (a0.Kind==2) ((kX a0.Value 0 8).bind λaI=>some aI) (cond (a0.Kind==3) (some (a0.Value==0)) (some false))))
def Kv (a0:bV):azh:=
 cond (a0.Kind==2) (some 2) (cond (a0.Kind==3) (some 1) (some 0))
def Qc (jy:Int->Int->azg) (a0:azu) (J j6 u_:Int):azg:=
 cond (decide (u_<(a0.length:Int))) ((bj a0 u_).bind λa1=>cond (j6==0) (some false) ((Ku a1 J).bind λba=>cond (!ba) (some false) ((Kv a1).bind λaZ=>jy (i64.wrap (j6+(i64.wrap (aZ-1)))) (i64.wrap (u_+1))))) (some (j6==0))
def CX (a0:azu) (J:Int):Nat->Int->Int->azg
 |0,_,_=>none
 |n+1,j6,u_=>Qc (CX a0 J n) a0 J j6 u_
def Kw (a0:azu) (J a2:Int):azg:=
 (kX J 0 29).bind λU=>cond (!U) (some false) ((kX a2 1 60).bind λaf=>cond (!af) (some false) ((kX (a0.length:Int) 1 a2).bind λaI=>cond (!aI) (some false) (b5 λn=>CX a0 J n 1 0)))
def Qd (a0:azu) (J:dR):azg:=
 (Kw a0 J.scope 15).bind λU=>some (!U)
def Qe (dw:Int->azh) (a0:azm) (J:dR) (cI:Int):azh:=
 cond (decide (cI<(a0.length:Int))) ((bj a0 cI).bind λU=>(Qd U J).bind λaf=>cond af (some cI) (dw (i64.wrap (cI+1)))) (some (-1))
def GN (a0:azm) (J:dR):Nat->Int->azh
 |0,_=>none
 |n+1,cI=>Qe (GN a0 J n) a0 J cI
def Qf (a0:azm) (J:dR):azh:=
 b5 λn=>GN a0 J n 0
def Kx (a0:azm) (J:dR):azg:=
 (Qf a0 J).bind λU=>some (decide (0<=U))
def Ab (a0:ca) (J:azw) (a2:dR) (GO:Bool):azh:=
 cond GO (some 4) ((Qb a0 J).bind λaf=>cond (!af) (some 5) (cond ((a0.Kind==5)&&(!a2.behind)) (some 6) (cond ((a0.Kind==4)&&(decide (6<=a2.scope))) (some 7) ((Kx a0.cl a2).bind λaI=>cond aI (some 8) (some 0)))))
def GP (a0:ca) (J:azw) (a2:dR) (GQ:Bool):azh:=
 cond GQ (some 3) (cond (a0.Kind==4) ((kX a0.Number 1 7).bind λa1=>cond (!a1) (Ab a0 J a2 true) (cond (a0.Kind==5) ((ts a0.Number (J.length:Int)).bind λba=>Ab a0 J a2 (!ba)) (Ab a0 J a2 false))) (cond (a0.Kind==5) ((ts a0.Number (J.length:Int)).bind λaZ=>Ab a0 J a2 (!aZ)) (Ab a0 J a2 false)))
def GR (a0:ca) (J:azw) (a2:dR):azh:=
 (Qa a0).bind λU=>cond (!U) (some 2) (cond (a0.Kind==1) (cond (!(a0.Name==([116,97,117]:azc))) ((u9 a0.Name).bind λbq=>GP a0 J a2 (!bq)) (GP a0 J a2 false)) (GP a0 J a2 false))
def Ky (jy:Int->Option (Int×Int)) (a0:azw) (J:a6) (aI:azC) (qW:Int):Option (Int×Int):=
 cond (decide (qW<(J.Body.length:Int))) ((bj J.Body qW).bind λa1=>(bj aI qW).bind λba=>(GR a1 a0 ba).bind λaZ=>cond (aZ !=0) (some (qW,aZ)) (jy (i64.wrap (qW+1)))) (some (0,0))
def Ac (a0:azw) (J:a6) (aI:azC):Nat->Int->Option (Int×Int)
 |0,_=>none
 |n+1,qW=>Ky (Ac a0 J aI n) a0 J aI qW
def GS (a0:azw) (J:a6):Option (Int×Int):=
 (kX (J.Body.length:Int) 1 20).bind λU=>cond (!U) (some (0,1)) ((GL J 0).bind λaf=>cond (af !=(J.Body.length:Int)) (some (0,1)) ((CW J).bind λaI=>b5 λn=>Ac a0 J aI n 0))
def Qg (fH:Int->azg) (a0:azw) (r1:Int):azg:=
 cond (decide (r1<(a0.length:Int))) ((bj a0 r1).bind λaI=>(GH aI.Name).bind λa1=>cond (!a1) (some false) ((gL a0 0 r1).bind λba=>(Kr ba aI.Name).bind λaZ=>cond (decide (0<=aZ)) (some false) ((GS a0 aI).bind λbq=>cond (bq.2 !=0) (some false) (fH (i64.wrap (r1+1)))))) (some true)
def CY (a0:azw):Nat->Int->azg
 |0,_=>none
 |n+1,r1=>Qg (CY a0 n) a0 r1
def Kz (a0:azw):azg:=
 (kX (a0.length:Int) 1 4).bind λU=>cond (!U) (some false) ((Kp a0).bind λaf=>cond (!af) (some false) (b5 λn=>CY a0 n 0))
def Qh (a0:Int):azg:=
 (GM a0).bind λU=>some (!U)
def Qi (dw:Int->azh) (a0:aze) (cI:Int):azh:=
 cond (decide (cI<(a0.length:Int))) ((bj a0 cI).bind λU=>(Qh U).bind λaf=>cond af (some cI) (dw (i64.wrap (cI+1)))) (some (-1))
def GU (a0:aze):Nat->Int->azh
 |0,_=>none
 |n+1,cI=>Qi (GU a0 n) a0 cI
def Qj (a0:aze):azh:=
 b5 λn=>GU a0 n 0
def Qk (a0:aze):azg:=
 (Qj a0).bind λU=>some (decide (0<=U))
def CZ (a0:aze):azg:=
 (Qk a0).bind λU=>some (!U)
def KA (a0:azw) (J:cV):azg:=
 (ts J.cA (a0.length:Int)).bind λU=>cond U ((bj a0 J.cA).bind λaf=>cond ((J.bK.length:Int)==af.dU) ((CZ J.bK).bind λaI=>some aI) (some false)) (some false)
def Ql (a0:cV) (J:cL):azg:=
 (KA J.cw a0).bind λU=>some (!U)
def Qm (dw:Int->azh) (a0:azx) (J:cL) (cI:Int):azh:=
 cond (decide (cI<(a0.length:Int))) ((bj a0 cI).bind λU=>(Ql U J).bind λaf=>cond af (some cI) (dw (i64.wrap (cI+1)))) (some (-1))
def GV (a0:azx) (J:cL):Nat->Int->azh
 |0,_=>none
 |n+1,cI=>Qm (GV a0 J n) a0 J cI
def Qn (a0:azx) (J:cL):azh:=
 b5 λn=>GV a0 J n 0
def KB (a0:azx) (J:cL):azg:=
 (Qn a0 J).bind λU=>some (decide (0<=U))
def KC (a0:azc):azg:=
 some false
def KD (a0 J:azc):azh:=
 (KC a0).bind λU=>(KC J).bind λaf=>cond U (cond af (some 0) (some (-1))) (cond af (some 1) (cond (Op.bytesLess a0 J) (some (-1)) (cond (!(Op.bytesLess a0 J||a0==J)) (some 1) (some 0))))
def Yw (dw:Int->azh) (a0 J:azb) (r2:Int):azh:=
 cond (decide (r2<(a0.length:Int))) ((bj a0 r2).bind λU=>cond (decide ((J.length:Int)<=r2)) (some 1) ((bj J r2).bind λaf=>(KD U af).bind λaI=>cond (aI !=0) (some aI) (dw (i64.wrap (r2+1))))) (cond (decide ((a0.length:Int)<(J.length:Int))) (some (-1)) (some 0))
def KE (a0 J:azb):Nat->Int->azh
 |0,_=>none
 |n+1,r2=>Yw (KE a0 J n) a0 J r2
def KF (a0 J:azb):azh:=
 b5 λn=>KE a0 J n 0
def KG (a0 J:bZ):azh:=
 (KF [a0.Left,a0.cH] [J.Left,J.cH]).bind λU=>some U
def Qo (a0 J:bZ):azg:=
 some ((a0.Left==J.Result)||(a0.cH==J.Result))
def Qp (dw:Int->azh) (a0:azy) (J:bZ) (cI:Int):azh:=
 cond (decide (cI<(a0.length:Int))) ((bj a0 cI).bind λU=>(Qo U J).bind λaf=>cond af (some cI) (dw (i64.wrap (cI+1)))) (some (-1))
def GW (a0:azy) (J:bZ):Nat->Int->azh
 |0,_=>none
 |n+1,cI=>Qp (GW a0 J n) a0 J cI
def Qq (a0:azy) (J:bZ):azh:=
 b5 λn=>GW a0 J n 0
def GX (a0:azy) (J:bZ):azg:=
 (Qq a0 J).bind λU=>some (decide (0<=U))
def Qr (dw:Int->azg) (a0:azy) (fU:Int):azg:=
 cond (decide (fU<(a0.length:Int))) ((bj a0 fU).bind λU=>(u9 U.Left).bind λba=>cond (!ba) (some false) ((u9 U.cH).bind λaZ=>cond (!aZ) (some false) ((u9 U.Result).bind λbq=>cond (!bq) (some false) (cond (!(Op.bytesLess U.Left U.cH||U.Left==U.cH)) (some false) (cond (decide (0<fU)) ((bj a0 (i64.wrap (fU-1))).bind λcY=>(KG cY U).bind λdm=>cond (decide (0<=dm)) (some false) ((GX a0 U).bind λcp=>cond cp (some false) (dw (i64.wrap (fU+1))))) ((GX a0 U).bind λfc=>cond fc (some false) (dw (i64.wrap (fU+1))))))))) (some (decide ((a0.length:Int)<=6)))
def C0 (a0:azy):Nat->Int->azg
 |0,_=>none
 |n+1,fU=>Qr (C0 a0 n) a0 fU
def KH (a0:azy):azg:=
 b5 λn=>C0 a0 n 0
def Qs (dw:Int->azg) (a0:azb) (fU:Int):azg:=
 cond (decide (fU<(a0.length:Int))) ((bj a0 fU).bind λU=>(u9 U).bind λaf=>cond (!af) (some false) (cond (decide (0<fU)) ((bj a0 (i64.wrap (fU-1))).bind λaI=>cond (Op.bytesLess U aI||U==aI) (some false) (dw (i64.wrap (fU+1)))) (dw (i64.wrap (fU+1))))) (some (decide ((a0.length:Int)<=12)))
def C1 (a0:azb):Nat->Int->azg
 |0,_=>none
 |n+1,fU=>Qs (C1 a0 n) a0 fU
def GY (a0:azb):azg:=
 b5 λn=>C1 a0 n 0
def KI (a0:cL):azh:=
 (Kz a0.cw).bind λU=>cond (!U) (some 1) ((kX (a0.ch.length:Int) 1 3).bind λaf=>cond (!af) (some 2) ((KB a0.ch a0).bind λaI=>cond aI (some 2) ((KH a0.b_).bind λa1=>cond (!a1) (some 3) ((GY a0.cD).bind λba=>cond (!ba) (some 4) ((GY a0.cB).bind λaZ=>cond (!aZ) (some 5) (some 0))))))
def KJ (a0:cL):azg:=
 (KI a0).bind λU=>some (U==0)
def GZ (a0:azw) (J:a8):azg:=
 (ts J.cA (a0.length:Int)).bind λU=>cond (!U) (some false) ((bj a0 J.cA).bind λaf=>(ts J.Part (af.Body.length:Int)).bind λaI=>cond (!aI) (some false) ((bj af.Body J.Part).bind λa1=>cond (a1.Kind !=5) ((CW af).bind λba=>(bj ba J.Part).bind λaZ=>cond ((J.bK.length:Int)==aZ.scope) ((CZ J.bK).bind λbq=>some bq) (some false)) (some false)))
def Qt (a0:a8) (J:cL):azg:=
 (GZ J.cw a0).bind λU=>some (!U)
def Qu (dw:Int->azh) (a0:azz) (J:cL) (cI:Int):azh:=
 cond (decide (cI<(a0.length:Int))) ((bj a0 cI).bind λU=>(Qt U J).bind λaf=>cond af (some cI) (dw (i64.wrap (cI+1)))) (some (-1))
def G0 (a0:azz) (J:cL):Nat->Int->azh
 |0,_=>none
 |n+1,cI=>Qu (G0 a0 J n) a0 J cI
def Qv (a0:azz) (J:cL):azh:=
 b5 λn=>G0 a0 J n 0
def KK (a0:azz) (J:cL):azg:=
 (Qv a0 J).bind λU=>some (decide (0<=U))
def KL (a0:cL) (J:azz):azg:=
 (KJ a0).bind λaf=>cond af (cond ((J.length:Int)==(a0.ch.length:Int)) ((KK J a0).bind λaI=>some (!aI)) (some false)) (some false)
def C2 (a0:aze):Option aze:=
 cond a0.isEmpty (both (some []) ((room 8 (a0.length)).bind λ_=>some a0)) ((room 8 (a0.length)).bind λ_=>some a0)
def Ad (a0:a8):Option a8:=
 (C2 a0.bK).bind λU=>some (a8.mk a0.cA a0.Part U)
def Qw (fQ:azz->Int->Option azz) (a0 b4:azz) (k_:Int):Option azz:=
 cond (decide (k_<(a0.length:Int))) ((bj a0 k_).bind λU=>(Ad U).bind λaf=>(room 40 (b4.length+1)).bind λ_=>fQ (b4++[af]) (i64.wrap (k_+1))) (some b4)
def C3 (a0:azz):Nat->azz->Int->Option azz
 |0,_,_=>none
 |n+1,b4,k_=>Qw (C3 a0 n) a0 b4 k_
def G1 (a0:azz):Option azz:=
 b5 λn=>C3 a0 n [] 0
def Qx (va:azu->Option (bV×(List dG)×azu)) (kE:(List dG)->azu->Int->Option (bV×(List dG)×azu)) (U:bV) (aI:Int) (iq:List dG) (kp:azu) (tt:Int):Option (bV×(List dG)×azu):=
 cond (decide (tt<aI)) ((va kp).bind λa1=>(room 8 (iq.length+1)).bind λ_=>kE (iq++[(dG.mk a1.1 a1.2.1)]) a1.2.2 (i64.wrap (tt+1))) (some (U,iq,kp))
def Ae (va:azu->Option (bV×(List dG)×azu)) (U:bV) (aI:Int):Nat->(List dG)->azu->Int->Option (bV×(List dG)×azu)
 |0,_,_,_=>none
 |n+1,iq,kp,tt=>Qx va (Ae va U aI n) U aI iq kp tt
def Qy (va:azu->Option (bV×(List dG)×azu)) (a0:azu):Option (bV×(List dG)×azu):=
 (bj a0 0).bind λU=>(gL a0 1 (a0.length:Int)).bind λaf=>(Kv U).bind λaI=>b5 λn=>Ae va U aI n [] af 0
def C4:Nat->azu->Option (bV×(List dG)×azu)
 |0,_=>none
 |n+1,a0=>Qy (C4 n) a0
def Qz (a0:azu):Option (bV×(List dG)×azu):=
 b5 λn=>C4 n a0
def KM (a0:azu):Option (bV×(List dG)):=
 (Qz a0).bind λU=>some (U.1,U.2.1)
def r3 (a0:Bool):azh:=
 cond a0 (some 1) (some 0)
def KN (a0 J a2:Int):azh:=
 cond (a0==0) (some (Int.tmod (i64.wrap (J+a2)) 64)) (cond (a0==1) (some (Int.tmod (i64.wrap ((i64.wrap (J-a2))+64)) 64)) (cond (a0==2) (some (Int.tmod (i64.wrap (J*a2)) 64)) (cond (a0==3) ((r3 (J==a2)).bind λU=>some U) (cond (a0==4) ((r3 (J !=a2)).bind λaf=>some af) (cond (a0==5) ((r3 (decide (J<a2))).bind λaI=>some aI) (cond (a0==6) ((r3 (decide (J<=a2))).bind λa1=>some a1) (cond (a0==7) (cond (J !=0) ((r3 (a2 !=0)).bind λba=>some ba) ((r3 false).bind λaZ=>some aZ)) (cond (J !=0) ((r3 true).bind λbq=>some bq) ((r3 (a2 !=0)).bind λcY=>some cY)))))))))
def QA (C5:dG->aze->azh) (a0:dG) (J:aze):azh:=
 cond (a0.term.Kind==0) (some a0.term.Value) (cond (a0.term.Kind==1) ((bj J a0.term.Value).bind λU=>some U) (cond (a0.term.Kind==3) ((bj a0.args 0).bind λaf=>(C5 af J).bind λaI=>(r3 (aI==0)).bind λa1=>some a1) ((bj a0.args 0).bind λba=>(C5 ba J).bind λaZ=>(bj a0.args 1).bind λbq=>(C5 bq J).bind λcY=>(KN a0.term.Value aZ cY).bind λdm=>some dm)))
def Af:Nat->dG->aze->azh
 |0,_,_=>none
 |n+1,a0,J=>QA (Af n) a0 J
def QB (a0:dG) (J:aze):azh:=
 b5 λn=>Af n a0 J
def C6 (a0:azu) (J:aze):azh:=
 (KM a0).bind λU=>(QB (dG.mk U.1 U.2) J).bind λaf=>some af
def QC (fQ:aze->Int->Option aze) (a0:azm) (J fF:aze) (r4:Int):Option aze:=
 cond (decide (r4<(a0.length:Int))) ((bj a0 r4).bind λU=>(C6 U J).bind λaf=>(room 8 (fF.length+1)).bind λ_=>fQ (fF++[af]) (i64.wrap (r4+1))) (some fF)
def C7 (a0:azm) (J:aze):Nat->aze->Int->Option aze
 |0,_,_=>none
 |n+1,fF,r4=>QC (C7 a0 J n) a0 J fF r4
def G2 (a0:azm) (J:aze):Option aze:=
 b5 λn=>C7 a0 J n [] 0
def yq (n:Nat):azc:=if h:n<10 then [UInt8.ofNat (48+n)]else yq (n/10)++[UInt8.ofNat (48+n%10)]
 termination_by n
 decreasing_by omega
def G3 (n:Int):azc:=if n<0 then 45::yq n.natAbs else yq n.toNat
def C8 (a0 J:Int):Option azc:=if-9223372036854775808<=a0/\a0<=9223372036854775807/\J=10 then some (G3 a0)else none
def r5 (a0:Int):Option azc:=
 (C8 a0 10).bind λU=>some U
def strings_Join (a0:azb) (J:azc):Option azc:=if a0.length<=140737488355328/\(jQ a0 J).length<=140737488355328 then some (jQ a0 J)else none
def QD (fQ:azb->Int->Option azc) (a0:aze) (J:azc) (fF:azb) (oD:Int):Option azc:=
 cond (decide (oD<(a0.length:Int))) ((bj a0 oD).bind λU=>(r5 U).bind λaf=>(bj fF oD).bind λaI=>fQ (List.set fF (Int.toNat oD) af) (i64.wrap (oD+1))) ((strings_Join fF J).bind λa1=>some a1)
def C9 (a0:aze) (J:azc):Nat->azb->Int->Option azc
 |0,_,_=>none
 |n+1,fF,oD=>QD (C9 a0 J n) a0 J fF oD
def Ag (a0:aze) (J:azc):Option azc:=
 (nR 16 (a0.length:Int)).bind λ_=>b5 λn=>C9 a0 J n (replicate (Int.toNat (a0.length:Int)) ([]:azc)) 0
def Ah (a0:azc) (J:aze):Option (azc×Bool):=
 cond (a0==([116,97,117]:azc)) (some (([116,97,117]:azc),((J.length:Int)==0))) ((u9 a0).bind λaf=>cond (!af) (some (([]:azc),false)) (cond (decide (2<(J.length:Int))) (some (([]:azc),false)) ((CZ J).bind λaI=>cond (!aI) (some (([]:azc),false)) (cond ((J.length:Int)==0) (some (a0,true)) ((iJ (a0.length+1)).bind λ_=>(Ag J ([44]:azc)).bind λa1=>(iJ ((a0++([40]:azc)).length+a1.length)).bind λ_=>(iJ (((a0++([40]:azc))++a1).length+1)).bind λ_=>some ((((a0++([40]:azc))++a1)++([41]:azc)),true))))))
def QE (a0:Int):azg:=
 (kX a0 (-1000000000000) 1000000000000).bind λU=>some (!U)
def QF (dw:Int->azh) (a0:aze) (cI:Int):azh:=
 cond (decide (cI<(a0.length:Int))) ((bj a0 cI).bind λU=>(QE U).bind λaf=>cond af (some cI) (dw (i64.wrap (cI+1)))) (some (-1))
def C_ (a0:aze):Nat->Int->azh
 |0,_=>none
 |n+1,cI=>QF (C_ a0 n) a0 cI
def QG (a0:aze):azh:=
 b5 λn=>C_ a0 n 0
def QH (a0:aze):azg:=
 (QG a0).bind λU=>some (decide (0<=U))
def KO (a0:aze):azg:=
 cond (decide ((a0.length:Int)<=64)) ((QH a0).bind λU=>some (!U)) (some false)
def G4 (a0:aze):Option azc:=
 (KO a0).bind λU=>cond (!U) (some ([]:azc)) (cond ((a0.length:Int)==0) (some ([45]:azc)) ((Ag a0 ([44]:azc)).bind λaf=>some af))
def KP (a0:a8):Option azc:=
 (r5 a0.Part).bind λU=>(iJ (U.length+1)).bind λ_=>(G4 a0.bK).bind λaf=>(iJ ((U++([58]:azc)).length+af.length)).bind λ_=>some ((U++([58]:azc))++af)
def Ai (a0:a8):Option azc:=
 (r5 a0.cA).bind λU=>(iJ (U.length+1)).bind λ_=>(KP a0).bind λaf=>(iJ ((U++([58]:azc)).length+af.length)).bind λ_=>some ((U++([58]:azc))++af)
def KQ (bu:azw) (bz:azB) (bw:aza) (iR:azc) (kH qi:Int) (vb:aze):Option (azw×azB×aza):=
 (iJ (iR.length+1)).bind λ_=>(Ai (a8.mk kH qi vb)).bind λU=>(iJ ((iR++([32]:azc)).length+U.length)).bind λ_=>cond (!(kg ((iR++([32]:azc))++U) bw)) ((room 56 (bz.length+1)).bind λ_=>some (bu,(bz++[(bm.mk iR (a8.mk kH qi vb))]),(kx ((iR++([32]:azc))++U) true bw))) (some (bu,bz,bw))
def KR (oE:azw->azB->aza->Int->Int->aze->Option (azw×azB×aza)) (bu:azw) (bz:azB) (bw:aza) (a1:azc×Bool) (Da Db:Int) (Dc:aze):Option (azw×azB×aza):=
 (KQ bu bz bw a1.1 Da Db Dc).bind λaZ=>some (aZ.1,aZ.2.1,aZ.2.2)
def QI (oE:azw->azB->aza->Int->Int->aze->Option (azw×azB×aza)) (ajm:azw->azB->aza->Int->Option (azw×azB×aza)) (J a2:Int) (a3:aze) (af:ca) (wF:azw) (wG:azB) (wH:aza) (la:Int):Option (azw×azB×aza):=
 cond (decide (la<(i64.wrap (af.Number+1)))) ((C2 a3).bind λgB=>(room 8 (gB.length+1)).bind λ_=>(oE wF wG wH J (i64.wrap (a2+1)) (gB++[la])).bind λjz=>ajm jz.1 jz.2.1 jz.2.2 (i64.wrap (la+1))) (some (wF,wG,wH))
def Dd (oE:azw->azB->aza->Int->Int->aze->Option (azw×azB×aza)) (J a2:Int) (a3:aze) (af:ca):Nat->azw->azB->aza->Int->Option (azw×azB×aza)
 |0,_,_,_,_=>none
 |n+1,wF,wG,wH,la=>QI oE (Dd oE J a2 a3 af n) J a2 a3 af wF wG wH la
def yr (oE:azw->azB->aza->Int->Int->aze->Option (azw×azB×aza)) (bu:azw) (bz:azB) (bw:aza) (J a2:Int) (a3:aze):Option (azw×azB×aza):=
 (bj bu J).bind λU=>(bj U.Body a2).bind λaf=>cond (af.Kind==1) ((G2 af.cl a3).bind λaI=>(Ah af.Name aI).bind λa1=>(C2 a3).bind λba=>(bj U.Body (i64.wrap (a2+1))).bind λbq=>cond (bq.Kind==5) ((G2 bq.cl a3).bind λcY=>KR oE bu bz bw a1 bq.Number 0 cY) (KR oE bu bz bw a1 J (i64.wrap (a2+1)) ba)) (cond (af.Kind==2) ((oE bu bz bw J (i64.wrap (a2+1)) a3).bind λdm=>(GL U (i64.wrap (a2+1))).bind λcp=>(oE dm.1 dm.2.1 dm.2.2 J cp a3).bind λfc=>some (fc.1,fc.2.1,fc.2.2)) (cond (af.Kind==3) ((bj af.cl 0).bind λko=>(C6 ko a3).bind λlY=>cond (lY !=0) ((oE bu bz bw J (i64.wrap (a2+1)) a3).bind λi7=>some (i7.1,i7.2.1,i7.2.2)) (some (bu,bz,bw))) (cond (af.Kind==4) (b5 λn=>Dd oE J a2 a3 af n bu bz bw 0) (some (bu,bz,bw)))))
def r6:Nat->azw->azB->aza->Int->Int->aze->Option (azw×azB×aza)
 |0,_,_,_,_,_,_=>none
 |n+1,bu,bz,bw,J,a2,a3=>yr (r6 n) bu bz bw J a2 a3
def KS (bu:azw) (bz:azB) (bw:aza) (J a2:Int) (a3:aze):Option (azw×azB×aza):=
 b5 λn=>r6 n bu bz bw J a2 a3
def vc (a0:azw) (J:a8):Option (azB×Bool):=
 (KS a0 [] [] J.cA J.Part J.bK).bind λU=>some (U.2.1,(decide ((U.2.1.length:Int)<=200)))
def tu:azc->UInt8->Int
 |[],_=> -1
 |b::l,c=>if b==c then 0 else if tu l c== -1 then-1 else tu l c+1
def QJ (a0:azc) (J:UInt8):azh:=some (tu a0 J)
def QK (a0:azc) (J:UInt8):azh:=
 (QJ a0 J).bind λU=>some U
def wI (a0 J:azc):azh:=
 cond (((J.length:Int)==0)||(J==a0)) (some 0) (cond ((J.length:Int)==1) ((bj J 0).bind λU=>(QK a0 U).bind λaf=>some af) (cond (decide ((a0.length:Int)<=(J.length:Int))) (some (-1)) (none)))
def KT (a0 J:azc):Option (azc×azc×Bool):=
 (wI a0 J).bind λU=>cond (decide (0<=U)) ((gL a0 0 U).bind λaf=>(gL a0 (i64.wrap (U+(J.length:Int))) (a0.length:Int)).bind λaI=>some (af,aI,true)) (some (a0,([]:azc),false))
def De (a0 J:azc):Option (azc×azc×Bool):=
 (KT a0 J).bind λU=>some (U.1,U.2.1,U.2.2)
def QL (a0 J:azc):azg:=
 cond (decide ((J.length:Int)<=(a0.length:Int))) ((gL a0 (i64.wrap ((a0.length:Int)-(J.length:Int))) (a0.length:Int)).bind λU=>some (U==J)) (some false)
def QM (a0 J:azc):Option azc:=
 (QL a0 J).bind λU=>cond U ((gL a0 0 (i64.wrap ((a0.length:Int)-(J.length:Int)))).bind λaf=>some af) (some a0)
def strings_TrimSuffix (a0 J:azc):Option azc:=
 (QM a0 J).bind λU=>some U
def QN (a0:azc) (J:UInt8):azh:=some (a0.count J:Nat)
def G5 (a0 J:azc):azh:=
 (wI a0 J).bind λU=>some U
def ajn (ajo:azc->Int->azh) (J vd:azc) (ve:Int):azh:=
 (G5 vd J).bind λaI=>cond (aI==(-1)) (some ve) ((gL vd (i64.wrap (aI+(J.length:Int))) (vd.length:Int)).bind λa1=>ajo a1 (i64.wrap (ve+1)))
def QO (J:azc):Nat->azc->Int->azh
 |0,_,_=>none
 |n+1,vd,ve=>ajn (QO J n) J vd ve
def QP (a0 J:azc):azh:=
 cond ((J.length:Int)==0) (none) (cond ((J.length:Int)==1) ((bj J 0).bind λU=>(QN a0 U).bind λaf=>some af) (b5 λn=>QO J n a0 0))
def G6 (a0 J:azc) (a2 j9:Int) (Df:azc) (Aj:azb) (wJ:Int):Option azb:=
 (bj Aj wJ).bind λU=>(gL (List.set Aj (Int.toNat wJ) Df) 0 (i64.wrap (wJ+1))).bind λaf=>some af
def QQ (Pr:azc->azb->Int->Option azb) (a0 J:azc) (a2 j9:Int) (o5:azc) (n4:azb) (lD:Int):Option azb:=
 cond (decide (lD<(i64.wrap ((kZ false j9 (i64.wrap ((a0.length:Int)+1)))-1)))) ((G5 o5 J).bind λaI=>cond (decide (aI<0)) (G6 a0 J a2 j9 o5 n4 lD) ((gL o5 0 (i64.wrap (aI+a2))).bind λa1=>(bj n4 lD).bind λba=>(gL o5 (i64.wrap (aI+(J.length:Int))) (o5.length:Int)).bind λaZ=>Pr aZ (List.set n4 (Int.toNat lD) a1) (i64.wrap (lD+1)))) (G6 a0 J a2 j9 o5 n4 lD)
def Ak (a0 J:azc) (a2 j9:Int):Nat->azc->azb->Int->Option azb
 |0,_,_,_=>none
 |n+1,o5,n4,lD=>QQ (Ak a0 J a2 j9 n) a0 J a2 j9 o5 n4 lD
def KU (a0 J:azc) (a2 j9:Int):Option azb:=
 (nR 16 (kZ false j9 (i64.wrap ((a0.length:Int)+1)))).bind λ_=>b5 λn=>Ak a0 J a2 j9 n a0 (replicate (Int.toNat (kZ false j9 (i64.wrap ((a0.length:Int)+1)))) ([]:azc)) 0
def QR (a0 J:azc) (a2 a3:Int):Option azb:=
 cond (a3==0) (some []) (cond (J==([]:azc)) (none) (cond (decide (a3<0)) ((QP a0 J).bind λbq=>KU a0 J a2 (i64.wrap (bq+1))) (KU a0 J a2 a3)))
def KV (a0 J:azc):Option azb:=
 (QR a0 J 0 (-1)).bind λU=>some U
def gX (c:UInt8):Bool:=decide (48<=c.toNat)&&decide (c.toNat<=57)
def ng (d:azc):Nat:=d.foldl (λn c=>10*n+(c.toNat-48)) 0
def qj (k:Nat) (d:azc):Int×Bool:=if d≠[]/\d.length<=18/\d.all gX=true/\¬(d.head? =some 48/\1<d.length+k)then(if k=1 then-(ng d:Int)else ng d,true)else(0,false)
def kq (s:azc):Int×Bool:=if s.head? =some 45 then qj 1 s.tail else qj 0 s
def KW (a0:azc):Option (Int×Bool):=some (kq a0)
def QS (fQ:aze->Int->Option (aze×Bool)) (a0:azb) (bS:aze) (r7:Int):Option (aze×Bool):=
 cond (decide (r7<(a0.length:Int))) ((bj a0 r7).bind λU=>(KW U).bind λaf=>cond (!af.2) (some ([],false)) ((room 8 (bS.length+1)).bind λ_=>fQ (bS++[af.1]) (i64.wrap (r7+1)))) (some (bS,true))
def Dg (a0:azb):Nat->aze->Int->Option (aze×Bool)
 |0,_,_=>none
 |n+1,bS,r7=>QS (Dg a0 n) a0 bS r7
def KX (a0:azb):Option (aze×Bool):=
 b5 λn=>Dg a0 n [] 0
def G7 (a0:azc) (U:azc×azc×Bool) (vf:aze):Option (azc×aze×Bool):=
 (Ah U.1 vf).bind λaf=>cond ((!af.2)||(!(af.1==a0))) (some (([]:azc),[],false)) (some (U.1,vf,true))
def Al (a0:azc):Option (azc×aze×Bool):=
 (De a0 ([40]:azc)).bind λU=>cond U.2.2 ((strings_TrimSuffix U.2.1 ([41]:azc)).bind λaI=>(KV aI ([44]:azc)).bind λa1=>(KX a1).bind λba=>cond (!ba.2) (some (([]:azc),[],false)) (G7 a0 U ba.1)) (G7 a0 U [])
def QT (dw:Int->azh) (a0:azb) (J:azc) (cI:Int):azh:=
 cond (decide (cI<(a0.length:Int))) ((bj a0 cI).bind λU=>cond (J==U) (some cI) (dw (i64.wrap (cI+1)))) (some (-1))
def Am (a0:azb) (J:azc):Nat->Int->azh
 |0,_=>none
 |n+1,cI=>QT (Am a0 J n) a0 J cI
def QU (a0:azb) (J:azc):azh:=
 b5 λn=>Am a0 J n 0
def Dh (a0:azb) (J:azc):azg:=
 (QU a0 J).bind λU=>some (decide (0<=U))
def QV (fQ:azb->Int->Option azc) (a0:azz) (b4:azb) (k_:Int):Option azc:=
 cond (decide (k_<(a0.length:Int))) ((bj a0 k_).bind λU=>(Ai U).bind λaf=>(room 16 (b4.length+1)).bind λ_=>fQ (b4++[af]) (i64.wrap (k_+1))) ((strings_Join b4 ([32]:azc)).bind λaI=>some aI)
def Di (a0:azz):Nat->azb->Int->Option azc
 |0,_,_=>none
 |n+1,b4,k_=>QV (Di a0 n) a0 b4 k_
def KY (a0:azz):Option azc:=
 b5 λn=>Di a0 n [] 0
def Dj (a3 a4:Int) (bu:azw) (bz:azx) (bw:azy) (bY bW:azb) (gC:azz) (gT:azA) (gD:aza) (iF:azc) (nh:azz):Option (azw×azx×azy×azb×azb×azz×azA×aza):=
 (iJ (iF.length+1)).bind λ_=>(r5 a3).bind λkV=>(iJ ((iF++([32]:azc)).length+kV.length)).bind λ_=>(iJ (((iF++([32]:azc))++kV).length+1)).bind λ_=>(r5 a4).bind λkW=>(iJ ((((iF++([32]:azc))++kV)++([32]:azc)).length+kW.length)).bind λ_=>(iJ (((((iF++([32]:azc))++kV)++([32]:azc))++kW).length+1)).bind λ_=>(KY nh).bind λnd=>(iJ ((((((iF++([32]:azc))++kV)++([32]:azc))++kW)++([32]:azc)).length+nd.length)).bind λ_=>cond (!(kg ((((((iF++([32]:azc))++kV)++([32]:azc))++kW)++([32]:azc))++nd) gD)) ((room 56 (gT.length+1)).bind λ_=>some (bu,bz,bw,bY,bW,gC,(gT++[(bp.mk iF a3 a4 nh)]),(kx ((((((iF++([32]:azc))++kV)++([32]:azc))++kW)++([32]:azc))++nd) true gD))) (some (bu,bz,bw,bY,bW,gC,gT,gD))
def qX (a3 a4:Int) (a5:azz) (bu:azw) (bz:azx) (bw:azy) (bY bW:azb) (gC:azz) (gT:azA) (gD:aza) (tv:azc) (tw:aze):Option (azw×azx×azy×azb×azb×azz×azA×aza):=
 (Ah tv tw).bind λi7=>(G1 gC).bind λgB=>(bj a5 0).bind λjz=>(Ad jz).bind λmn=>(bj gB a3).bind λqV=>cond (decide (0<=a4)) ((bj a5 1).bind λnJ=>(Ad nJ).bind λlC=>(bj (List.set gB (Int.toNat a3) mn) a4).bind λnf=>Dj a3 a4 bu bz bw bY bW gC gT gD i7.1 (List.set (List.set gB (Int.toNat a3) mn) (Int.toNat a4) lC)) (Dj a3 a4 bu bz bw bY bW gC gT gD i7.1 (List.set gB (Int.toNat a3) mn))
def Dk (bu:azw) (bz:azx) (bw:azy) (bY bW:azb) (gC:azz) (gT:azA) (gD:aza) (J:azc) (a2:aze) (a3 a4:Int) (a5:azz):Option (azw×azx×azy×azb×azb×azz×azA×aza):=
 cond (!(J==([116,97,117]:azc))) ((Dh bY J).bind λU=>cond (!U) (some (bu,bz,bw,bY,bW,gC,gT,gD)) ((Dh bW J).bind λlY=>cond lY (qX a3 a4 a5 bu bz bw bY bW gC gT gD ([116,97,117]:azc) []) (qX a3 a4 a5 bu bz bw bY bW gC gT gD J a2))) ((Dh bW J).bind λjl=>cond jl (qX a3 a4 a5 bu bz bw bY bW gC gT gD ([116,97,117]:azc) []) (qX a3 a4 a5 bu bz bw bY bW gC gT gD J a2))
def Yx (a0:bZ) (J a2:azc):azg:=
 some ((a0.Left==(h1 false J a2))&&(a0.cH==(h1 true J a2)))
def QW (dw:Int->azh) (a0:azy) (iR kH:azc) (cI:Int):azh:=
 cond (decide (cI<(a0.length:Int))) ((bj a0 cI).bind λU=>(Yx U iR kH).bind λaf=>cond af (some cI) (dw (i64.wrap (cI+1)))) (some (-1))
def Dl (a0:azy) (iR kH:azc):Nat->Int->azh
 |0,_=>none
 |n+1,cI=>QW (Dl a0 iR kH n) a0 iR kH cI
def QX (a0:azy) (iR kH:azc):azh:=
 b5 λn=>Dl a0 iR kH n 0
def An (a0:cL) (J a2:azc):Option (azc×Bool):=
 (QX a0.b_ J a2).bind λU=>cond (decide (U<0)) (some (([]:azc),false)) ((bj a0.b_ U).bind λaf=>some (af.Result,true))
def QY (fH:Int->azg) (a0 J:aze) (tx:Int):azg:=
 cond (decide (tx<(a0.length:Int))) ((bj a0 tx).bind λU=>(bj J tx).bind λaf=>cond (U !=af) (some false) (fH (i64.wrap (tx+1)))) (some true)
def Dm (a0 J:aze):Nat->Int->azg
 |0,_=>none
 |n+1,tx=>QY (Dm a0 J n) a0 J tx
def G8 (a0 J:aze):azg:=
 cond ((a0.length:Int) !=(J.length:Int)) (some false) (b5 λn=>Dm a0 J n 0)
def G9 (dS:azw->azx->azy->azb->azb->azz->azA->aza->Int->Option (azw×azx×azy×azb×azb×azz×azA×aza)) (G_:azw->azx->azy->azb->azb->azz->azA->aza->Int->Int->Option (azw×azx×azy×azb×azb×azz×azA×aza)) (J a2:Int) (a3 a4:azB) (U:bm) (af:azc×aze×Bool) (Dn:azw) (Dp:azx) (Dq:azy) (Dr Ds:azb) (Dt:azz) (Du:azA) (Dv:aza) (Dw Dx:Int):Option (azw×azx×azy×azb×azb×azz×azA×aza):=
 G_ Dn Dp Dq Dr Ds Dt Du Dv Dw (i64.wrap (Dx+1))
def QZ (dS:azw->azx->azy->azb->azb->azz->azA->aza->Int->Option (azw×azx×azy×azb×azb×azz×azA×aza)) (G_:azw->azx->azy->azb->azb->azz->azA->aza->Int->Int->Option (azw×azx×azy×azb×azb×azz×azA×aza)) (J a2:Int) (a3 a4:azB) (U:bm) (af:azc×aze×Bool) (oF:azw) (oG:azx) (oH:azy) (oI oJ:azb) (pO:azz) (pP:azA) (pQ:aza) (o6 o7:Int):Option (azw×azx×azy×azb×azb×azz×azA×aza):=
 cond (decide (o7<(a4.length:Int))) ((bj a4 o7).bind λaI=>(Al aI.Label).bind λa1=>(An (cL.mk oF oG oH oI oJ) af.1 a1.1).bind λba=>cond ba.2 ((G8 af.2.1 a1.2.1).bind λaZ=>cond aZ ((Dk oF oG oH oI oJ pO pP pQ ba.1 af.2.1 J a2 [U.Next,aI.Next]).bind λbq=>G9 dS G_ J a2 a3 a4 U af bq.1 bq.2.1 bq.2.2.1 bq.2.2.2.1 bq.2.2.2.2.1 bq.2.2.2.2.2.1 bq.2.2.2.2.2.2.1 bq.2.2.2.2.2.2.2 o6 o7) (G9 dS G_ J a2 a3 a4 U af oF oG oH oI oJ pO pP pQ o6 o7)) (G9 dS G_ J a2 a3 a4 U af oF oG oH oI oJ pO pP pQ o6 o7)) (dS oF oG oH oI oJ pO pP pQ (i64.wrap (o6+1)))
def wK (dS:azw->azx->azy->azb->azb->azz->azA->aza->Int->Option (azw×azx×azy×azb×azb×azz×azA×aza)) (J a2:Int) (a3 a4:azB) (U:bm) (af:azc×aze×Bool):Nat->azw->azx->azy->azb->azb->azz->azA->aza->Int->Int->Option (azw×azx×azy×azb×azb×azz×azA×aza)
 |0,_,_,_,_,_,_,_,_,_,_=>none
 |n+1,oF,oG,oH,oI,oJ,pO,pP,pQ,o6,o7=>QZ dS (wK dS J a2 a3 a4 U af n) J a2 a3 a4 U af oF oG oH oI oJ pO pP pQ o6 o7
def Q0 (dS:azw->azx->azy->azb->azb->azz->azA->aza->Int->Option (azw×azx×azy×azb×azb×azz×azA×aza)) (J a2:Int) (a3 a4:azB) (vg:azw) (vh:azx) (vi:azy) (vj vk:azb) (vl:azz) (vm:azA) (vn:aza) (tz:Int):Option (azw×azx×azy×azb×azb×azz×azA×aza):=
 cond (decide (tz<(a3.length:Int))) ((bj a3 tz).bind λU=>(Al U.Label).bind λaf=>b5 λn=>wK dS J a2 a3 a4 U af n vg vh vi vj vk vl vm vn tz 0) (some (vg,vh,vi,vj,vk,vl,vm,vn))
def tA (J a2:Int) (a3 a4:azB):Nat->azw->azx->azy->azb->azb->azz->azA->aza->Int->Option (azw×azx×azy×azb×azb×azz×azA×aza)
 |0,_,_,_,_,_,_,_,_,_=>none
 |n+1,vg,vh,vi,vj,vk,vl,vm,vn,tz=>Q0 (tA J a2 a3 a4 n) J a2 a3 a4 vg vh vi vj vk vl vm vn tz
def Q1 (bu:azw) (bz:azx) (bw:azy) (bY bW:azb) (gC:azz) (gT:azA) (gD:aza) (J a2:Int) (a3 a4:azB):Option (azw×azx×azy×azb×azb×azz×azA×aza):=
 b5 λn=>tA J a2 a3 a4 n bu bz bw bY bW gC gT gD 0
def Q2 (kE:cL->azz->azA->aza->azn->Int->Option (azA×Bool)) (ajp:cL->azz->azA->aza->azn->Int->Int->Int->Option (azA×Bool)) (a0:cL) (J:azz) (af:azB×Bool) (ni:cL) (r8:azz) (r9:azA) (r_:aza) (qY:azn) (qk qZ q0:Int):Option (azA×Bool):=
 cond (decide (q0<(af.1.length:Int))) ((bj af.1 q0).bind λaI=>(Al aI.Label).bind λa1=>(Dk ni.cw ni.ch ni.b_ ni.cD ni.cB r8 r9 r_ a1.1 a1.2.1 qk (-1) [aI.Next]).bind λba=>ajp (cL.mk ba.1 ba.2.1 ba.2.2.1 ba.2.2.2.1 ba.2.2.2.2.1) ba.2.2.2.2.2.1 ba.2.2.2.2.2.2.1 ba.2.2.2.2.2.2.2 qY qk qZ (i64.wrap (q0+1))) (kE ni r8 r9 r_ qY (i64.wrap (qZ+1)))
def ys (kE:cL->azz->azA->aza->azn->Int->Option (azA×Bool)) (a0:cL) (J:azz) (af:azB×Bool):Nat->cL->azz->azA->aza->azn->Int->Int->Int->Option (azA×Bool)
 |0,_,_,_,_,_,_,_,_=>none
 |n+1,ni,r8,r9,r_,qY,qk,qZ,q0=>Q2 kE (ys kE a0 J af n) a0 J af ni r8 r9 r_ qY qk qZ q0
def Q3 (qT:cL->azz->azA->aza->azn->Int->Option (azA×Bool)) (ajq:cL->azz->azA->aza->azn->Int->Int->Int->Option (azA×Bool)) (J:azz) (n5:cL) (vo:azz) (vp:azA) (vq:aza) (q1:azn) (q2 ql tB:Int):Option (azA×Bool):=
 cond (decide (ql<(J.length:Int))) ((bj q1 q2).bind λaZ=>(bj q1 ql).bind λbq=>(Q1 n5.cw n5.ch n5.b_ n5.cD n5.cB vo vp vq q2 ql aZ bq).bind λcY=>ajq (cL.mk cY.1 cY.2.1 cY.2.2.1 cY.2.2.2.1 cY.2.2.2.2.1) cY.2.2.2.2.2.1 cY.2.2.2.2.2.2.1 cY.2.2.2.2.2.2.2 q1 q2 (i64.wrap (ql+1)) tB) (qT n5 vo vp vq q1 (i64.wrap (tB+1)))
def Ao (qT:cL->azz->azA->aza->azn->Int->Option (azA×Bool)) (J:azz):Nat->cL->azz->azA->aza->azn->Int->Int->Int->Option (azA×Bool)
 |0,_,_,_,_,_,_,_,_=>none
 |n+1,n5,vo,vp,vq,q1,q2,ql,tB=>Q3 qT (Ao qT J n) J n5 vo vp vq q1 q2 ql tB
def Q4 (qT:cL->azz->azA->aza->azn->Int->Option (azA×Bool)) (J:azz) (yt:cL) (yu:azz) (sa:azA) (yv:aza) (yw:azn) (q3:Int):Option (azA×Bool):=
 cond (decide (q3<(J.length:Int))) (b5 λn=>Ao qT J n yt yu sa yv yw q3 (i64.wrap (q3+1)) q3) (some (sa,(decide ((sa.length:Int)<=200))))
def wL (J:azz):Nat->cL->azz->azA->aza->azn->Int->Option (azA×Bool)
 |0,_,_,_,_,_,_=>none
 |n+1,yt,yu,sa,yv,yw,q3=>Q4 (wL J n) J yt yu sa yv yw q3
def Ha (kE:cL->azz->azA->aza->azn->Int->Option (azA×Bool)) (a0:cL) (J:azz) (lB:cL) (q4:azz) (q5:azA) (q6:aza) (gn:azn) (n6:Int):Option (azA×Bool):=
 cond (decide (n6<(J.length:Int))) ((bj J n6).bind λU=>(vc a0.cw U).bind λaf=>cond (!af.2) (some ([],false)) ((room 24 (gn.length+1)).bind λ_=>b5 λn=>ys kE a0 J af n lB q4 q5 q6 (gn++[af.1]) n6 n6 0)) (b5 λn=>wL J n lB q4 q5 q6 gn 0)
def qm (a0:cL) (J:azz):Nat->cL->azz->azA->aza->azn->Int->Option (azA×Bool)
 |0,_,_,_,_,_,_=>none
 |n+1,lB,q4,q5,q6,gn,n6=>Ha (qm a0 J n) a0 J lB q4 q5 q6 gn n6
def KZ (a0:cL) (J:azz):Option (azA×Bool):=
 b5 λn=>qm a0 J n a0 J [] [] [] 0
def Hb (ajr:azz->azb->Int->Option (azz×azb×Int)) (a0:cL) (a2:aze) (vr:azz) (pR:azb) (qn:Int):Option (azz×azb×Int):=
 cond (decide (qn<(a2.length:Int))) ((bj a2 qn).bind λaI=>(KZ a0 vr).bind λa1=>cond (!a1.2) (some ([],[],5)) ((ts aI (a1.1.length:Int)).bind λba=>cond (!ba) (some ([],[],2)) ((bj a1.1 aI).bind λaZ=>(room 16 (pR.length+1)).bind λ_=>ajr aZ.State (pR++[aZ.Label]) (i64.wrap (qn+1))))) (some (vr,pR,0))
def yx (a0:cL) (a2:aze):Nat->azz->azb->Int->Option (azz×azb×Int)
 |0,_,_,_=>none
 |n+1,vr,pR,qn=>Hb (yx a0 a2 n) a0 a2 vr pR qn
def Hc (a0:cL) (J:azz) (a2:aze):Option (azz×azb×Int):=
 (KL a0 J).bind λU=>cond (!U) (some ([],[],1)) ((G1 J).bind λaf=>b5 λn=>yx a0 a2 n af [] 0)
def ajs (fH:Int->azg) (a0 J:aze) (ct:Int):azg:=
 cond (decide (ct<(a0.length:Int))) ((bj a0 ct).bind λU=>(bj J ct).bind λaf=>cond (U !=af) (some false) (fH (i64.wrap (ct+1)))) (some true)
def Q5 (a0 J:aze):Nat->Int->azg
 |0,_=>none
 |n+1,ct=>ajs (Q5 a0 J n) a0 J ct
def Dy (a0 J:aze):azg:=
 cond ((a0.length:Int) !=(J.length:Int)) (some false) (b5 λn=>Q5 a0 J n 0)
def Hd (a0 J:a8):azg:=
 cond (a0.cA !=J.cA) (some false) (cond (a0.Part !=J.Part) (some false) ((Dy a0.bK J.bK).bind λU=>cond (!U) (some false) (some true)))
def ajt (fH:Int->azg) (a0 J:azz) (ct:Int):azg:=
 cond (decide (ct<(a0.length:Int))) ((bj a0 ct).bind λU=>(bj J ct).bind λaf=>(Hd U af).bind λaI=>cond (!aI) (some false) (fH (i64.wrap (ct+1)))) (some true)
def Q6 (a0 J:azz):Nat->Int->azg
 |0,_=>none
 |n+1,ct=>ajt (Q6 a0 J n) a0 J ct
def Ap (a0 J:azz):azg:=
 cond ((a0.length:Int) !=(J.length:Int)) (some false) (b5 λn=>Q6 a0 J n 0)
def aju (fH:Int->azg) (a0 J:azb) (ct:Int):azg:=
 cond (decide (ct<(a0.length:Int))) ((bj a0 ct).bind λU=>(bj J ct).bind λaf=>cond (!(U==af)) (some false) (fH (i64.wrap (ct+1)))) (some true)
def Q7 (a0 J:azb):Nat->Int->azg
 |0,_=>none
 |n+1,ct=>aju (Q7 a0 J n) a0 J ct
def vt (a0 J:azb):azg:=
 cond ((a0.length:Int) !=(J.length:Int)) (some false) (b5 λn=>Q7 a0 J n 0)
def He (a0 J:bV):azg:=
 cond (a0.Kind !=J.Kind) (some false) (cond (a0.Value !=J.Value) (some false) (some true))
def ajv (fH:Int->azg) (a0 J:azu) (ct:Int):azg:=
 cond (decide (ct<(a0.length:Int))) ((bj a0 ct).bind λU=>(bj J ct).bind λaf=>(He U af).bind λaI=>cond (!aI) (some false) (fH (i64.wrap (ct+1)))) (some true)
def Q8 (a0 J:azu):Nat->Int->azg
 |0,_=>none
 |n+1,ct=>ajv (Q8 a0 J n) a0 J ct
def Hf (a0 J:azu):azg:=
 cond ((a0.length:Int) !=(J.length:Int)) (some false) (b5 λn=>Q8 a0 J n 0)
def ajw (fH:Int->azg) (a0 J:azm) (ct:Int):azg:=
 cond (decide (ct<(a0.length:Int))) ((bj a0 ct).bind λU=>(bj J ct).bind λaf=>(Hf U af).bind λaI=>cond (!aI) (some false) (fH (i64.wrap (ct+1)))) (some true)
def Q9 (a0 J:azm):Nat->Int->azg
 |0,_=>none
 |n+1,ct=>ajw (Q9 a0 J n) a0 J ct
def K0 (a0 J:azm):azg:=
 cond ((a0.length:Int) !=(J.length:Int)) (some false) (b5 λn=>Q9 a0 J n 0)
def Hg (a0 J:ca):azg:=
 cond (a0.Kind !=J.Kind) (some false) (cond (a0.Number !=J.Number) (some false) (cond (!(a0.Name==J.Name)) (some false) ((K0 a0.cl J.cl).bind λU=>cond (!U) (some false) (some true))))
def ajx (fH:Int->azg) (a0 J:azv) (ct:Int):azg:=
 cond (decide (ct<(a0.length:Int))) ((bj a0 ct).bind λU=>(bj J ct).bind λaf=>(Hg U af).bind λaI=>cond (!aI) (some false) (fH (i64.wrap (ct+1)))) (some true)
def Q_ (a0 J:azv):Nat->Int->azg
 |0,_=>none
 |n+1,ct=>ajx (Q_ a0 J n) a0 J ct
def K1 (a0 J:azv):azg:=
 cond ((a0.length:Int) !=(J.length:Int)) (some false) (b5 λn=>Q_ a0 J n 0)
def Hh (a0 J:a6):azg:=
 cond (!(a0.Name==J.Name)) (some false) (cond (a0.dU !=J.dU) (some false) ((K1 a0.Body J.Body).bind λU=>cond (!U) (some false) (some true)))
def ajy (fH:Int->azg) (a0 J:azw) (ct:Int):azg:=
 cond (decide (ct<(a0.length:Int))) ((bj a0 ct).bind λU=>(bj J ct).bind λaf=>(Hh U af).bind λaI=>cond (!aI) (some false) (fH (i64.wrap (ct+1)))) (some true)
def Ra (a0 J:azw):Nat->Int->azg
 |0,_=>none
 |n+1,ct=>ajy (Ra a0 J n) a0 J ct
def K2 (a0 J:azw):azg:=
 cond ((a0.length:Int) !=(J.length:Int)) (some false) (b5 λn=>Ra a0 J n 0)
def Hi (a0 J:cV):azg:=
 cond (a0.cA !=J.cA) (some false) ((Dy a0.bK J.bK).bind λU=>cond (!U) (some false) (some true))
def ajz (fH:Int->azg) (a0 J:azx) (ct:Int):azg:=
 cond (decide (ct<(a0.length:Int))) ((bj a0 ct).bind λU=>(bj J ct).bind λaf=>(Hi U af).bind λaI=>cond (!aI) (some false) (fH (i64.wrap (ct+1)))) (some true)
def Rb (a0 J:azx):Nat->Int->azg
 |0,_=>none
 |n+1,ct=>ajz (Rb a0 J n) a0 J ct
def K3 (a0 J:azx):azg:=
 cond ((a0.length:Int) !=(J.length:Int)) (some false) (b5 λn=>Rb a0 J n 0)
def Hj (a0 J:bZ):azg:=
 cond (!(a0.Left==J.Left)) (some false) (cond (!(a0.cH==J.cH)) (some false) (cond (!(a0.Result==J.Result)) (some false) (some true)))
def ajA (fH:Int->azg) (a0 J:azy) (ct:Int):azg:=
 cond (decide (ct<(a0.length:Int))) ((bj a0 ct).bind λU=>(bj J ct).bind λaf=>(Hj U af).bind λaI=>cond (!aI) (some false) (fH (i64.wrap (ct+1)))) (some true)
def Rc (a0 J:azy):Nat->Int->azg
 |0,_=>none
 |n+1,ct=>ajA (Rc a0 J n) a0 J ct
def K4 (a0 J:azy):azg:=
 cond ((a0.length:Int) !=(J.length:Int)) (some false) (b5 λn=>Rc a0 J n 0)
def Hk (a0 J:cL):azg:=
 (K2 a0.cw J.cw).bind λU=>cond (!U) (some false) ((K3 a0.ch J.ch).bind λaf=>cond (!af) (some false) ((K4 a0.b_ J.b_).bind λaI=>cond (!aI) (some false) ((vt a0.cD J.cD).bind λa1=>cond (!a1) (some false) ((vt a0.cB J.cB).bind λba=>cond (!ba) (some false) (some true)))))
def K5 (fH:Int->azc->Option azc) (oK:Int) (ep:azc):Option azc:=
 cond (decide (0<oK)) ((iJ (1+ep.length)).bind λ_=>fH (i64.wrap (Int.tdiv oK 10)) ([(pk (i64.wrap (48+(Int.tmod oK 10))))]++ep)) ((iJ (1+ep.length)).bind λ_=>some (([109]:azc)++ep))
def Aq:Nat->Int->azc->Option azc
 |0,_,_=>none
 |n+1,oK,ep=>K5 (Aq n) oK ep
def vu (a0:Int):Option azc:=
 cond (decide (a0<=0)) (some ([109,48]:azc)) (b5 λn=>Aq n a0 ([]:azc))
def Rd (dw:azu->Int->Int->Option (Int×azu)) (b9:azu) (a7 aK:Int):Option (Int×azu):=
 cond (decide (aK<(b9.length:Int))) ((bj b9 aK).bind λU=>(bj (List.set b9 (Int.toNat aK) (bV.mk a7 U.Value)) aK).bind λaf=>dw (List.set (List.set b9 (Int.toNat aK) (bV.mk a7 U.Value)) (Int.toNat aK) (bV.mk af.Kind (i64.wrap (a7+1)))) (i64.wrap ((i64.wrap (a7+1))+1)) (i64.wrap (aK+1))) (some (a7,b9))
def Dz:Nat->azu->Int->Int->Option (Int×azu)
 |0,_,_,_=>none
 |n+1,b9,a7,aK=>Rd (Dz n) b9 a7 aK
def K6 (a0:azu) (J:Int):Option (Int×azu):=
 b5 λn=>Dz n a0 J 0
def Re (dw:azm->Int->Int->Option (Int×azm)) (b9:azm) (a7 aK:Int):Option (Int×azm):=
 cond (decide (aK<(b9.length:Int))) ((bj b9 aK).bind λU=>(K6 U a7).bind λaf=>dw (List.set b9 (Int.toNat aK) af.2) af.1 (i64.wrap (aK+1))) (some (a7,b9))
def DA:Nat->azm->Int->Int->Option (Int×azm)
 |0,_,_,_=>none
 |n+1,b9,a7,aK=>Re (DA n) b9 a7 aK
def K7 (a0:azm) (J:Int):Option (Int×azm):=
 b5 λn=>DA n a0 J 0
def Rf (dw:azv->Int->Int->Option (Int×azv)) (b9:azv) (a7 aK:Int):Option (Int×azv):=
 cond (decide (aK<(b9.length:Int))) ((bj b9 aK).bind λU=>(bj (List.set b9 (Int.toNat aK) (ca.mk a7 U.Number U.Name U.cl)) aK).bind λaf=>(vu (i64.wrap ((i64.wrap (a7+1))+1))).bind λaI=>(bj (List.set (List.set b9 (Int.toNat aK) (ca.mk a7 U.Number U.Name U.cl)) (Int.toNat aK) (ca.mk af.Kind (i64.wrap (a7+1)) af.Name af.cl)) aK).bind λa1=>(bj (List.set (List.set (List.set b9 (Int.toNat aK) (ca.mk a7 U.Number U.Name U.cl)) (Int.toNat aK) (ca.mk af.Kind (i64.wrap (a7+1)) af.Name af.cl)) (Int.toNat aK) (ca.mk a1.Kind a1.Number aI a1.cl)) aK).bind λba=>(K7 ba.cl (i64.wrap ((i64.wrap ((i64.wrap (a7+1))+1))+1))).bind λaZ=>dw (List.set (List.set (List.set (List.set b9 (Int.toNat aK) (ca.mk a7 U.Number U.Name U.cl)) (Int.toNat aK) (ca.mk af.Kind (i64.wrap (a7+1)) af.Name af.cl)) (Int.toNat aK) (ca.mk a1.Kind a1.Number aI a1.cl)) (Int.toNat aK) (ca.mk ba.Kind ba.Number ba.Name aZ.2)) aZ.1 (i64.wrap (aK+1))) (some (a7,b9))
def DB:Nat->azv->Int->Int->Option (Int×azv)
 |0,_,_,_=>none
 |n+1,b9,a7,aK=>Rf (DB n) b9 a7 aK
def K8 (a0:azv) (J:Int):Option (Int×azv):=
 b5 λn=>DB n a0 J 0
def Rg (dw:azw->Int->Int->Option (Int×azw)) (b9:azw) (a7 aK:Int):Option (Int×azw):=
 cond (decide (aK<(b9.length:Int))) ((vu a7).bind λU=>(bj b9 aK).bind λaf=>(bj (List.set b9 (Int.toNat aK) (a6.mk U af.dU af.Body)) aK).bind λaI=>(bj (List.set (List.set b9 (Int.toNat aK) (a6.mk U af.dU af.Body)) (Int.toNat aK) (a6.mk aI.Name (i64.wrap (a7+1)) aI.Body)) aK).bind λa1=>(K8 a1.Body (i64.wrap ((i64.wrap (a7+1))+1))).bind λba=>dw (List.set (List.set (List.set b9 (Int.toNat aK) (a6.mk U af.dU af.Body)) (Int.toNat aK) (a6.mk aI.Name (i64.wrap (a7+1)) aI.Body)) (Int.toNat aK) (a6.mk a1.Name a1.dU ba.2)) ba.1 (i64.wrap (aK+1))) (some (a7,b9))
def DC:Nat->azw->Int->Int->Option (Int×azw)
 |0,_,_,_=>none
 |n+1,b9,a7,aK=>Rg (DC n) b9 a7 aK
def K9 (a0:azw) (J:Int):Option (Int×azw):=
 b5 λn=>DC n a0 J 0
def Rh (dw:aze->Int->Int->Option (Int×aze)) (b9:aze) (a7 aK:Int):Option (Int×aze):=
 cond (decide (aK<(b9.length:Int))) ((bj b9 aK).bind λU=>dw (List.set b9 (Int.toNat aK) a7) (i64.wrap (a7+1)) (i64.wrap (aK+1))) (some (a7,b9))
def DD:Nat->aze->Int->Int->Option (Int×aze)
 |0,_,_,_=>none
 |n+1,b9,a7,aK=>Rh (DD n) b9 a7 aK
def DE (a0:aze) (J:Int):Option (Int×aze):=
 b5 λn=>DD n a0 J 0
def Ri (dw:azx->Int->Int->Option (Int×azx)) (b9:azx) (a7 aK:Int):Option (Int×azx):=
 cond (decide (aK<(b9.length:Int))) ((bj b9 aK).bind λU=>(bj (List.set b9 (Int.toNat aK) (cV.mk a7 U.bK)) aK).bind λaf=>(DE af.bK (i64.wrap (a7+1))).bind λaI=>dw (List.set (List.set b9 (Int.toNat aK) (cV.mk a7 U.bK)) (Int.toNat aK) (cV.mk af.cA aI.2)) aI.1 (i64.wrap (aK+1))) (some (a7,b9))
def DF:Nat->azx->Int->Int->Option (Int×azx)
 |0,_,_,_=>none
 |n+1,b9,a7,aK=>Ri (DF n) b9 a7 aK
def K_ (a0:azx) (J:Int):Option (Int×azx):=
 b5 λn=>DF n a0 J 0
def Rj (dw:azy->Int->Int->Option (Int×azy)) (b9:azy) (a7 aK:Int):Option (Int×azy):=
 cond (decide (aK<(b9.length:Int))) ((vu a7).bind λU=>(bj b9 aK).bind λaf=>(vu (i64.wrap (a7+1))).bind λaI=>(bj (List.set b9 (Int.toNat aK) (bZ.mk U af.cH af.Result)) aK).bind λa1=>(vu (i64.wrap ((i64.wrap (a7+1))+1))).bind λba=>(bj (List.set (List.set b9 (Int.toNat aK) (bZ.mk U af.cH af.Result)) (Int.toNat aK) (bZ.mk a1.Left aI a1.Result)) aK).bind λaZ=>dw (List.set (List.set (List.set b9 (Int.toNat aK) (bZ.mk U af.cH af.Result)) (Int.toNat aK) (bZ.mk a1.Left aI a1.Result)) (Int.toNat aK) (bZ.mk aZ.Left aZ.cH ba)) (i64.wrap ((i64.wrap ((i64.wrap (a7+1))+1))+1)) (i64.wrap (aK+1))) (some (a7,b9))
def DG:Nat->azy->Int->Int->Option (Int×azy)
 |0,_,_,_=>none
 |n+1,b9,a7,aK=>Rj (DG n) b9 a7 aK
def La (a0:azy) (J:Int):Option (Int×azy):=
 b5 λn=>DG n a0 J 0
def Rk (dw:azb->Int->Int->Option (Int×azb)) (b9:azb) (a7 aK:Int):Option (Int×azb):=
 cond (decide (aK<(b9.length:Int))) ((vu a7).bind λU=>(bj b9 aK).bind λaf=>dw (List.set b9 (Int.toNat aK) U) (i64.wrap (a7+1)) (i64.wrap (aK+1))) (some (a7,b9))
def DH:Nat->azb->Int->Int->Option (Int×azb)
 |0,_,_,_=>none
 |n+1,b9,a7,aK=>Rk (DH n) b9 a7 aK
def DI (a0:azb) (J:Int):Option (Int×azb):=
 b5 λn=>DH n a0 J 0
def Lb (bu:azw) (bz:azx) (bw:azy) (bY bW:azb) (J:Int):Option (Int×azw×azx×azy×azb×azb):=
 (K9 bu J).bind λU=>(K_ bz U.1).bind λaf=>(La bw af.1).bind λaI=>(DI bY aI.1).bind λa1=>(DI bW a1.1).bind λba=>some (ba.1,U.2,af.2,aI.2,a1.2,ba.2)
def Rl (dw:azz->Int->Int->Option (Int×azz)) (b9:azz) (a7 aK:Int):Option (Int×azz):=
 cond (decide (aK<(b9.length:Int))) ((bj b9 aK).bind λU=>(bj (List.set b9 (Int.toNat aK) (a8.mk a7 U.Part U.bK)) aK).bind λaf=>(bj (List.set (List.set b9 (Int.toNat aK) (a8.mk a7 U.Part U.bK)) (Int.toNat aK) (a8.mk af.cA (i64.wrap (a7+1)) af.bK)) aK).bind λaI=>(DE aI.bK (i64.wrap ((i64.wrap (a7+1))+1))).bind λa1=>dw (List.set (List.set (List.set b9 (Int.toNat aK) (a8.mk a7 U.Part U.bK)) (Int.toNat aK) (a8.mk af.cA (i64.wrap (a7+1)) af.bK)) (Int.toNat aK) (a8.mk aI.cA aI.Part a1.2)) a1.1 (i64.wrap (aK+1))) (some (a7,b9))
def DJ:Nat->azz->Int->Int->Option (Int×azz)
 |0,_,_,_=>none
 |n+1,b9,a7,aK=>Rl (DJ n) b9 a7 aK
def Hl (a0:azz) (J:Int):Option (Int×azz):=
 b5 λn=>DJ n a0 J 0
def Rm (dw:Int->Int->azh) (a0:aze) (a7 aK:Int):azh:=
 cond (decide (aK<(a0.length:Int))) ((bj a0 aK).bind λU=>cond (U !=a7) (some (-1)) (dw (i64.wrap (a7+1)) (i64.wrap (aK+1)))) (some a7)
def DK (a0:aze):Nat->Int->Int->azh
 |0,_,_=>none
 |n+1,a7,aK=>Rm (DK a0 n) a0 a7 aK
def Lc (a0:aze) (J:Int):azh:=
 b5 λn=>DK a0 n J 0
def Rn (dw:Int->Int->azh) (a0:azz) (a7 aK:Int):azh:=
 cond (decide (aK<(a0.length:Int))) ((bj a0 aK).bind λU=>cond (U.cA !=a7) (some (-1)) (cond (U.Part !=(i64.wrap (a7+1))) (some (-1)) ((Lc U.bK (i64.wrap ((i64.wrap (a7+1))+1))).bind λaf=>cond (decide (af<0)) (some (-1)) (dw af (i64.wrap (aK+1)))))) (some a7)
def DL (a0:azz):Nat->Int->Int->azh
 |0,_,_=>none
 |n+1,a7,aK=>Rn (DL a0 n) a0 a7 aK
def Hm (a0:azz) (J:Int):azh:=
 b5 λn=>DL a0 n J 0
def Ro (dw:Int->Int->azh) (a0:azb) (a7 aK:Int):azh:=
 cond (decide (aK<(a0.length:Int))) ((bj a0 aK).bind λU=>(vu a7).bind λaf=>cond (!(U==af)) (some (-1)) (dw (i64.wrap (a7+1)) (i64.wrap (aK+1)))) (some a7)
def DM (a0:azb):Nat->Int->Int->azh
 |0,_,_=>none
 |n+1,a7,aK=>Ro (DM a0 n) a0 a7 aK
def Hn (a0:azb) (J:Int):azh:=
 b5 λn=>DM a0 n J 0
def Rp (a0:o2) (J:azt) (a2:aze):azg:=
 cond (decide (1048576<(a2.length:Int))) (some true) ((F8 a0 1048576).bind λU=>cond (decide (U<0)) (some true) ((JP J U).bind λaf=>cond (decide (af<0)) (some true) ((yd a0).bind λaI=>(zN J).bind λa1=>(wi a2).bind λba=>(Ko aI a1 ba).bind λaZ=>(yd a0).bind λbq=>(zN J).bind λcY=>(wi a2).bind λdm=>(Hc bq cY dm).bind λcp=>(Ap cp.1 aZ.1).bind λfc=>cond (!fc) (some false) ((vt cp.2.1 aZ.2.1).bind λko=>cond ((!ko)||(cp.2.2 !=aZ.2.2)) (some false) ((yd a0).bind λlY=>(Hk bq lY).bind λi7=>cond (!i7) (some false) ((zN J).bind λgB=>(Ap cY gB).bind λjz=>cond (!jz) (some false) ((wi a2).bind λmn=>(Dy dm mn).bind λqV=>cond (!qV) (some false) ((Lb bq.cw bq.ch bq.b_ bq.cD bq.cB 1).bind λkV=>(Hl cY kV.1).bind λkW=>(DE dm kW.1).bind λnd=>cond (decide (nd.1<0)) (some false) ((Ap cp.1 aZ.1).bind λnJ=>cond (!nJ) (some false) ((vt cp.2.1 aZ.2.1).bind λlC=>cond ((!lC)||(cp.2.2 !=aZ.2.2)) (some false) ((Hl cp.1 1).bind λnf=>(DI cp.2.1 nf.1).bind λjl=>(Hm nf.2 1).bind λn3=>cond (decide (n3<0)) (some false) ((Hn jl.2 n3).bind λpM=>cond (decide (pM<0)) (some false) (cond (pM !=jl.1) (some false) ((yd a0).bind λym=>(zN J).bind λwM=>(wi a2).bind λAr=>(Hc ym wM Ar).bind λq7=>(Ap q7.1 aZ.1).bind λRq=>cond (!Rq) (some false) ((vt q7.2.1 aZ.2.1).bind λLd=>cond ((!Ld)||(q7.2.2 !=aZ.2.2)) (some false) ((Hm nf.2 1).bind λAs=>cond (decide (As<0)) (some false) ((Hn jl.2 As).bind λDN=>cond (decide (DN<0)) (some false) (cond (DN !=jl.1) (some false) (some true)))))))))))))))))))
end
end Go.k6
