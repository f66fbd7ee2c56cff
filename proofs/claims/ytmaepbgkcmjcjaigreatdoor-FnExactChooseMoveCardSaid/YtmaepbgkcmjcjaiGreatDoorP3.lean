/- Part of a proof that a law returns true for every input. No condition. -/
import Derived.Test.YtmaepbgkcmjcjaiGreatDoorFwA
namespace Go.l_
open List Option Go.IntKind Nat
open Go Go.eg
set_option linter.unusedVariables false
noncomputable section
structure ji where
 Kind:Int
 Value:Int
def BK (x:ji):Prop:=(-9223372036854775808<=x.Kind/\x.Kind<=9223372036854775807)/\(-9223372036854775808<=x.Value/\x.Value<=9223372036854775807)
structure lk where
 Kind:Int
 Number:Int
 Name:azc
 cL:List (List ji)
def Fj (x:lk):Prop:=(-9223372036854775808<=x.Kind/\x.Kind<=9223372036854775807)/\(-9223372036854775808<=x.Number/\x.Number<=9223372036854775807)/\x.Name.length<=9223372036854775807/\(x.cL.length<=9223372036854775807/\∀y∈x.cL,(y.length<=9223372036854775807/\∀z∈y,BK z))
structure ll where
 Name:azc
 ek:Int
 Body:List lk
def Fk (x:ll):Prop:=x.Name.length<=9223372036854775807/\(-9223372036854775808<=x.ek/\x.ek<=9223372036854775807)/\(x.Body.length<=9223372036854775807/\∀y∈x.Body,Fj y)
structure ln where
 cE:Int
 bV:aze
def Fl (x:ln):Prop:=(-9223372036854775808<=x.cE/\x.cE<=9223372036854775807)/\(x.bV.length<=9223372036854775807/\∀y∈x.bV,(-9223372036854775808<=y/\y<=9223372036854775807))
structure k2 where
 Left:azc
 cY:azc
 Result:azc
def Fm (x:k2):Prop:=x.Left.length<=9223372036854775807/\x.cY.length<=9223372036854775807/\x.Result.length<=9223372036854775807
structure oK where
 cw:List ll
 cg:List ln
 b8:List k2
 cB:azb
 cy:azb
def Fo (x:oK):Prop:=(x.cw.length<=9223372036854775807/\∀y∈x.cw,Fk y)/\(x.cg.length<=9223372036854775807/\∀y∈x.cg,Fl y)/\(x.b8.length<=9223372036854775807/\∀y∈x.b8,Fm y)/\(x.cB.length<=9223372036854775807/\∀y∈x.cB,y.length<=9223372036854775807)/\(x.cy.length<=9223372036854775807/\∀y∈x.cy,y.length<=9223372036854775807)
structure lo where
 cE:Int
 Part:Int
 bV:aze
def BL (x:lo):Prop:=(-9223372036854775808<=x.cE/\x.cE<=9223372036854775807)/\(-9223372036854775808<=x.Part/\x.Part<=9223372036854775807)/\(x.bV.length<=9223372036854775807/\∀y∈x.bV,(-9223372036854775808<=y/\y<=9223372036854775807))
structure k3 where
 Choice:Int
 fa:Int
 Second:Int
 Label:azc
def BM (x:k3):Prop:=(-9223372036854775808<=x.Choice/\x.Choice<=9223372036854775807)/\(-9223372036854775808<=x.fa/\x.fa<=9223372036854775807)/\(-9223372036854775808<=x.Second/\x.Second<=9223372036854775807)/\x.Label.length<=9223372036854775807
structure ca where
 Kind:Int
 Value:Int
def aiK (x:ca):Prop:=(-9223372036854775808<=x.Kind/\x.Kind<=9223372036854775807)/\(-9223372036854775808<=x.Value/\x.Value<=9223372036854775807)
structure cQ where
 Kind:Int
 Number:Int
 Name:azc
 cL:List (List ca)
def aiL (x:cQ):Prop:=(-9223372036854775808<=x.Kind/\x.Kind<=9223372036854775807)/\(-9223372036854775808<=x.Number/\x.Number<=9223372036854775807)/\x.Name.length<=9223372036854775807/\(x.cL.length<=9223372036854775807/\∀y∈x.cL,(y.length<=9223372036854775807/\∀z∈y,aiK z))
structure a6 where
 Name:azc
 ek:Int
 Body:List cQ
def aiM (x:a6):Prop:=x.Name.length<=9223372036854775807/\(-9223372036854775808<=x.ek/\x.ek<=9223372036854775807)/\(x.Body.length<=9223372036854775807/\∀y∈x.Body,aiL y)
structure dx where
 cE:Int
 bV:aze
def aiN (x:dx):Prop:=(-9223372036854775808<=x.cE/\x.cE<=9223372036854775807)/\(x.bV.length<=9223372036854775807/\∀y∈x.bV,(-9223372036854775808<=y/\y<=9223372036854775807))
structure ch where
 Left:azc
 cY:azc
 Result:azc
def aiO (x:ch):Prop:=x.Left.length<=9223372036854775807/\x.cY.length<=9223372036854775807/\x.Result.length<=9223372036854775807
structure cM where
 cw:List a6
 cg:List dx
 b8:List ch
 cB:azb
 cy:azb
def axG (x:cM):Prop:=(x.cw.length<=9223372036854775807/\∀y∈x.cw,aiM y)/\(x.cg.length<=9223372036854775807/\∀y∈x.cg,aiN y)/\(x.b8.length<=9223372036854775807/\∀y∈x.b8,aiO y)/\(x.cB.length<=9223372036854775807/\∀y∈x.cB,y.length<=9223372036854775807)/\(x.cy.length<=9223372036854775807/\∀y∈x.cy,y.length<=9223372036854775807)
structure bp where
 cE:Int
 Part:Int
 bV:aze
def XH (x:bp):Prop:=(-9223372036854775808<=x.cE/\x.cE<=9223372036854775807)/\(-9223372036854775808<=x.Part/\x.Part<=9223372036854775807)/\(x.bV.length<=9223372036854775807/\∀y∈x.bV,(-9223372036854775808<=y/\y<=9223372036854775807))
structure fu where
 Choice:Int
 fa:Int
 Second:Int
 Label:azc
def axH (x:fu):Prop:=(-9223372036854775808<=x.Choice/\x.Choice<=9223372036854775807)/\(-9223372036854775808<=x.fa/\x.fa<=9223372036854775807)/\(-9223372036854775808<=x.Second/\x.Second<=9223372036854775807)/\x.Label.length<=9223372036854775807
structure bf where
 Label:azc
 fa:Int
 Second:Int
 State:List bp
def axI (x:bf):Prop:=x.Label.length<=9223372036854775807/\(-9223372036854775808<=x.fa/\x.fa<=9223372036854775807)/\(-9223372036854775808<=x.Second/\x.Second<=9223372036854775807)/\(x.State.length<=9223372036854775807/\∀y∈x.State,XH y)
structure bb where
 Label:azc
 Next:bp
def axJ (x:bb):Prop:=x.Label.length<=9223372036854775807/\XH x.Next
structure dB where
 scope:Int
 behind:Bool
def axK (x:dB):Prop:=(-9223372036854775808<=x.scope/\x.scope<=9223372036854775807)/\True
structure uj where
 uk:Int
 zt:Int
abbrev azo:=List ji
abbrev azp:=List lk
abbrev azq:=List ll
abbrev azr:=List ln
abbrev azs:=List k2
abbrev azt:=List lo
abbrev azu:=List k3
abbrev azv:=List ca
abbrev azw:=List cQ
abbrev azx:=List a6
abbrev azy:=List dx
abbrev azz:=List ch
abbrev azA:=List bp
abbrev azB:=List fu
abbrev azC:=List bf
abbrev azD:=List bb
abbrev azE:=List dB
abbrev azl:=List (List ji)
abbrev azm:=List (List ca)
abbrev azn:=List (List bb)
def axL (x:uj):Prop:=(-9223372036854775808<=x.uk/\x.uk<=9223372036854775807)/\(-9223372036854775808<=x.zt/\x.zt<=9223372036854775807)
inductive dq where
 |mk (term:ca) (args:List dq)
def dq.term:dq->ca
 | .mk a _=>a
def dq.args:dq->List dq
 | .mk _ a=>a
def Fp (a0:azo) (J:Int):azh:=
 cond (decide ((i64.wrap (J-(a0.length:Int)))<0)) (some (-1)) (some (i64.wrap (J-(a0.length:Int))))
def aiP (gW:Int->Int->azh) (a0:azl) (dP dh:Int):azh:=
 cond (decide (dh<(a0.length:Int))) ((bk a0 dh).bind λU=>(Fp U dP).bind λah=>cond (decide (ah<0)) (some (-1)) (gW ah (i64.wrap (dh+1)))) (some dP)
def Ow (a0:azl):Nat->Int->Int->azh
 |0,_,_=>none
 |n+1,dP,dh=>aiP (Ow a0 n) a0 dP dh
def I6 (a0:azl) (J:Int):azh:=
 cond (decide ((i64.wrap (J-(a0.length:Int)))<0)) (some (-1)) (bX λn=>Ow a0 n (i64.wrap (J-(a0.length:Int))) 0)
def Fq (a0:lk) (J:Int):azh:=
 cond (decide ((i64.wrap (J-(a0.Name.length:Int)))<0)) (some (-1)) ((I6 a0.cL (i64.wrap (J-(a0.Name.length:Int)))).bind λU=>cond (decide (U<0)) (some (-1)) (some U))
def aiQ (gW:Int->Int->azh) (a0:azp) (dP dh:Int):azh:=
 cond (decide (dh<(a0.length:Int))) ((bk a0 dh).bind λU=>(Fq U dP).bind λah=>cond (decide (ah<0)) (some (-1)) (gW ah (i64.wrap (dh+1)))) (some dP)
def Ox (a0:azp):Nat->Int->Int->azh
 |0,_,_=>none
 |n+1,dP,dh=>aiQ (Ox a0 n) a0 dP dh
def I7 (a0:azp) (J:Int):azh:=
 cond (decide ((i64.wrap (J-(a0.length:Int)))<0)) (some (-1)) (bX λn=>Ox a0 n (i64.wrap (J-(a0.length:Int))) 0)
def Fs (a0:ll) (J:Int):azh:=
 cond (decide ((i64.wrap (J-(a0.Name.length:Int)))<0)) (some (-1)) ((I7 a0.Body (i64.wrap (J-(a0.Name.length:Int)))).bind λU=>cond (decide (U<0)) (some (-1)) (some U))
def aiR (gW:Int->Int->azh) (a0:azq) (dP dh:Int):azh:=
 cond (decide (dh<(a0.length:Int))) ((bk a0 dh).bind λU=>(Fs U dP).bind λah=>cond (decide (ah<0)) (some (-1)) (gW ah (i64.wrap (dh+1)))) (some dP)
def Oy (a0:azq):Nat->Int->Int->azh
 |0,_,_=>none
 |n+1,dP,dh=>aiR (Oy a0 n) a0 dP dh
def I8 (a0:azq) (J:Int):azh:=
 cond (decide ((i64.wrap (J-(a0.length:Int)))<0)) (some (-1)) (bX λn=>Oy a0 n (i64.wrap (J-(a0.length:Int))) 0)
def Ft (a0:aze) (J:Int):azh:=
 cond (decide ((i64.wrap (J-(a0.length:Int)))<0)) (some (-1)) (some (i64.wrap (J-(a0.length:Int))))
def Fu (a0:ln) (J:Int):azh:=
 (Ft a0.bV J).bind λU=>cond (decide (U<0)) (some (-1)) (some U)
def aiS (gW:Int->Int->azh) (a0:azr) (dP dh:Int):azh:=
 cond (decide (dh<(a0.length:Int))) ((bk a0 dh).bind λU=>(Fu U dP).bind λah=>cond (decide (ah<0)) (some (-1)) (gW ah (i64.wrap (dh+1)))) (some dP)
def Oz (a0:azr):Nat->Int->Int->azh
 |0,_,_=>none
 |n+1,dP,dh=>aiS (Oz a0 n) a0 dP dh
def I9 (a0:azr) (J:Int):azh:=
 cond (decide ((i64.wrap (J-(a0.length:Int)))<0)) (some (-1)) (bX λn=>Oz a0 n (i64.wrap (J-(a0.length:Int))) 0)
def Fv (a0:k2) (J:Int):azh:=
 cond (decide ((i64.wrap (J-(a0.Left.length:Int)))<0)) (some (-1)) (cond (decide ((i64.wrap ((i64.wrap (J-(a0.Left.length:Int)))-(a0.cY.length:Int)))<0)) (some (-1)) (cond (decide ((i64.wrap ((i64.wrap ((i64.wrap (J-(a0.Left.length:Int)))-(a0.cY.length:Int)))-(a0.Result.length:Int)))<0)) (some (-1)) (some (i64.wrap ((i64.wrap ((i64.wrap (J-(a0.Left.length:Int)))-(a0.cY.length:Int)))-(a0.Result.length:Int))))))
def aiT (gW:Int->Int->azh) (a0:azs) (dP dh:Int):azh:=
 cond (decide (dh<(a0.length:Int))) ((bk a0 dh).bind λU=>(Fv U dP).bind λah=>cond (decide (ah<0)) (some (-1)) (gW ah (i64.wrap (dh+1)))) (some dP)
def OA (a0:azs):Nat->Int->Int->azh
 |0,_,_=>none
 |n+1,dP,dh=>aiT (OA a0 n) a0 dP dh
def I_ (a0:azs) (J:Int):azh:=
 cond (decide ((i64.wrap (J-(a0.length:Int)))<0)) (some (-1)) (bX λn=>OA a0 n (i64.wrap (J-(a0.length:Int))) 0)
def aiU (gW:Int->Int->azh) (a0:azb) (dP dh:Int):azh:=
 cond (decide (dh<(a0.length:Int))) ((bk a0 dh).bind λU=>cond (decide ((i64.wrap (dP-(U.length:Int)))<0)) (some (-1)) (gW (i64.wrap (dP-(U.length:Int))) (i64.wrap (dh+1)))) (some dP)
def OB (a0:azb):Nat->Int->Int->azh
 |0,_,_=>none
 |n+1,dP,dh=>aiU (OB a0 n) a0 dP dh
def Fw (a0:azb) (J:Int):azh:=
 cond (decide ((i64.wrap (J-(a0.length:Int)))<0)) (some (-1)) (bX λn=>OB a0 n (i64.wrap (J-(a0.length:Int))) 0)
def Fx (a0:oK) (J:Int):azh:=
 (I8 a0.cw J).bind λU=>cond (decide (U<0)) (some (-1)) ((I9 a0.cg U).bind λah=>cond (decide (ah<0)) (some (-1)) ((I_ a0.b8 ah).bind λaK=>cond (decide (aK<0)) (some (-1)) ((Fw a0.cB aK).bind λbd=>cond (decide (bd<0)) (some (-1)) ((Fw a0.cy bd).bind λbo=>cond (decide (bo<0)) (some (-1)) (some bo)))))
def Fy (a0:lo) (J:Int):azh:=
 (Ft a0.bV J).bind λU=>cond (decide (U<0)) (some (-1)) (some U)
def aiV (gW:Int->Int->azh) (a0:azt) (dP dh:Int):azh:=
 cond (decide (dh<(a0.length:Int))) ((bk a0 dh).bind λU=>(Fy U dP).bind λah=>cond (decide (ah<0)) (some (-1)) (gW ah (i64.wrap (dh+1)))) (some dP)
def OC (a0:azt):Nat->Int->Int->azh
 |0,_,_=>none
 |n+1,dP,dh=>aiV (OC a0 n) a0 dP dh
def Ja (a0:azt) (J:Int):azh:=
 cond (decide ((i64.wrap (J-(a0.length:Int)))<0)) (some (-1)) (bX λn=>OC a0 n (i64.wrap (J-(a0.length:Int))) 0)
def Fz (a0:k3) (J:Int):azh:=
 cond (decide ((i64.wrap (J-(a0.Label.length:Int)))<0)) (some (-1)) (some (i64.wrap (J-(a0.Label.length:Int))))
def aiW (gW:Int->Int->azh) (a0:azu) (dP dh:Int):azh:=
 cond (decide (dh<(a0.length:Int))) ((bk a0 dh).bind λU=>(Fz U dP).bind λah=>cond (decide (ah<0)) (some (-1)) (gW ah (i64.wrap (dh+1)))) (some dP)
def OD (a0:azu):Nat->Int->Int->azh
 |0,_,_=>none
 |n+1,dP,dh=>aiW (OD a0 n) a0 dP dh
def Jb (a0:azu) (J:Int):azh:=
 cond (decide ((i64.wrap (J-(a0.length:Int)))<0)) (some (-1)) (bX λn=>OD a0 n (i64.wrap (J-(a0.length:Int))) 0)
def FA (a0:ji):Option ca:=
 some (ca.mk a0.Kind a0.Value)
def aiX (fA:azv->Int->Option azv) (a0:azo) (bP:azv) (bB:Int):Option azv:=
 cond (decide (bB<(a0.length:Int))) ((bk a0 bB).bind λU=>(FA U).bind λah=>(bk bP bB).bind λaK=>fA (List.set bP (Int.toNat bB) ah) (i64.wrap (bB+1))) (some bP)
def OE (a0:azo):Nat->azv->Int->Option azv
 |0,_,_=>none
 |n+1,bP,bB=>aiX (OE a0 n) a0 bP bB
def FB (a0:azo):Option azv:=
 (na 16 (a0.length:Int)).bind λ_=>bX λn=>OE a0 n (replicate (Int.toNat (a0.length:Int)) (ca.mk 0 0)) 0
def aiY (fA:azm->Int->Option azm) (a0:azl) (bP:azm) (bB:Int):Option azm:=
 cond (decide (bB<(a0.length:Int))) ((bk a0 bB).bind λU=>(FB U).bind λah=>(bk bP bB).bind λaK=>fA (List.set bP (Int.toNat bB) ah) (i64.wrap (bB+1))) (some bP)
def OG (a0:azl):Nat->azm->Int->Option azm
 |0,_,_=>none
 |n+1,bP,bB=>aiY (OG a0 n) a0 bP bB
def Jc (a0:azl):Option azm:=
 (na 24 (a0.length:Int)).bind λ_=>bX λn=>OG a0 n (replicate (Int.toNat (a0.length:Int)) []) 0
def FC (a0:lk):Option cQ:=
 (Jc a0.cL).bind λU=>some (cQ.mk a0.Kind a0.Number a0.Name U)
def aiZ (fA:azw->Int->Option azw) (a0:azp) (bP:azw) (bB:Int):Option azw:=
 cond (decide (bB<(a0.length:Int))) ((bk a0 bB).bind λU=>(FC U).bind λah=>(bk bP bB).bind λaK=>fA (List.set bP (Int.toNat bB) ah) (i64.wrap (bB+1))) (some bP)
def OH (a0:azp):Nat->azw->Int->Option azw
 |0,_,_=>none
 |n+1,bP,bB=>aiZ (OH a0 n) a0 bP bB
def Jd (a0:azp):Option azw:=
 (na 56 (a0.length:Int)).bind λ_=>bX λn=>OH a0 n (replicate (Int.toNat (a0.length:Int)) (cQ.mk 0 0 ([]:azc) [])) 0
def FD (a0:ll):Option a6:=
 (Jd a0.Body).bind λU=>some (a6.mk a0.Name a0.ek U)
def ai0 (fA:azx->Int->Option azx) (a0:azq) (bP:azx) (bB:Int):Option azx:=
 cond (decide (bB<(a0.length:Int))) ((bk a0 bB).bind λU=>(FD U).bind λah=>(bk bP bB).bind λaK=>fA (List.set bP (Int.toNat bB) ah) (i64.wrap (bB+1))) (some bP)
def OI (a0:azq):Nat->azx->Int->Option azx
 |0,_,_=>none
 |n+1,bP,bB=>ai0 (OI a0 n) a0 bP bB
def Je (a0:azq):Option azx:=
 (na 48 (a0.length:Int)).bind λ_=>bX λn=>OI a0 n (replicate (Int.toNat (a0.length:Int)) (a6.mk ([]:azc) 0 [])) 0
def ai1 (fA:aze->Int->Option aze) (a0 bP:aze) (bB:Int):Option aze:=
 cond (decide (bB<(a0.length:Int))) ((bk a0 bB).bind λU=>(bk bP bB).bind λah=>fA (List.set bP (Int.toNat bB) U) (i64.wrap (bB+1))) (some bP)
def OJ (a0:aze):Nat->aze->Int->Option aze
 |0,_,_=>none
 |n+1,bP,bB=>ai1 (OJ a0 n) a0 bP bB
def FE (a0:aze):Option aze:=
 (na 8 (a0.length:Int)).bind λ_=>bX λn=>OJ a0 n (replicate (Int.toNat (a0.length:Int)) 0) 0
def FF (a0:ln):Option dx:=
 (FE a0.bV).bind λU=>some (dx.mk a0.cE U)
def ai2 (fA:azy->Int->Option azy) (a0:azr) (bP:azy) (bB:Int):Option azy:=
 cond (decide (bB<(a0.length:Int))) ((bk a0 bB).bind λU=>(FF U).bind λah=>(bk bP bB).bind λaK=>fA (List.set bP (Int.toNat bB) ah) (i64.wrap (bB+1))) (some bP)
def OK (a0:azr):Nat->azy->Int->Option azy
 |0,_,_=>none
 |n+1,bP,bB=>ai2 (OK a0 n) a0 bP bB
def Jf (a0:azr):Option azy:=
 (na 32 (a0.length:Int)).bind λ_=>bX λn=>OK a0 n (replicate (Int.toNat (a0.length:Int)) (dx.mk 0 [])) 0
def FG (a0:k2):Option ch:=
 some (ch.mk a0.Left a0.cY a0.Result)
def ai3 (fA:azz->Int->Option azz) (a0:azs) (bP:azz) (bB:Int):Option azz:=
 cond (decide (bB<(a0.length:Int))) ((bk a0 bB).bind λU=>(FG U).bind λah=>(bk bP bB).bind λaK=>fA (List.set bP (Int.toNat bB) ah) (i64.wrap (bB+1))) (some bP)
def OL (a0:azs):Nat->azz->Int->Option azz
 |0,_,_=>none
 |n+1,bP,bB=>ai3 (OL a0 n) a0 bP bB
def Jg (a0:azs):Option azz:=
 (na 48 (a0.length:Int)).bind λ_=>bX λn=>OL a0 n (replicate (Int.toNat (a0.length:Int)) (ch.mk ([]:azc) ([]:azc) ([]:azc))) 0
def ai4 (fA:azb->Int->Option azb) (a0 bP:azb) (bB:Int):Option azb:=
 cond (decide (bB<(a0.length:Int))) ((bk a0 bB).bind λU=>(bk bP bB).bind λah=>fA (List.set bP (Int.toNat bB) U) (i64.wrap (bB+1))) (some bP)
def OM (a0:azb):Nat->azb->Int->Option azb
 |0,_,_=>none
 |n+1,bP,bB=>ai4 (OM a0 n) a0 bP bB
def FH (a0:azb):Option azb:=
 (na 16 (a0.length:Int)).bind λ_=>bX λn=>OM a0 n (replicate (Int.toNat (a0.length:Int)) ([]:azc)) 0
def zu (a0:oK):Option cM:=
 (Je a0.cw).bind λU=>(Jf a0.cg).bind λah=>(Jg a0.b8).bind λaK=>(FH a0.cB).bind λbd=>(FH a0.cy).bind λbo=>some (cM.mk U ah aK bd bo)
def FI (a0:lo):Option bp:=
 (FE a0.bV).bind λU=>some (bp.mk a0.cE a0.Part U)
def ai5 (fA:azA->Int->Option azA) (a0:azt) (bP:azA) (bB:Int):Option azA:=
 cond (decide (bB<(a0.length:Int))) ((bk a0 bB).bind λU=>(FI U).bind λah=>(bk bP bB).bind λaK=>fA (List.set bP (Int.toNat bB) ah) (i64.wrap (bB+1))) (some bP)
def ON (a0:azt):Nat->azA->Int->Option azA
 |0,_,_=>none
 |n+1,bP,bB=>ai5 (ON a0 n) a0 bP bB
def BN (a0:azt):Option azA:=
 (na 40 (a0.length:Int)).bind λ_=>bX λn=>ON a0 n (replicate (Int.toNat (a0.length:Int)) (bp.mk 0 0 [])) 0
def FJ (a0:k3):Option fu:=
 some (fu.mk a0.Choice a0.fa a0.Second a0.Label)
def ai6 (fA:azB->Int->Option azB) (a0:azu) (bP:azB) (bB:Int):Option azB:=
 cond (decide (bB<(a0.length:Int))) ((bk a0 bB).bind λU=>(FJ U).bind λah=>(bk bP bB).bind λaK=>fA (List.set bP (Int.toNat bB) ah) (i64.wrap (bB+1))) (some bP)
def OO (a0:azu):Nat->azB->Int->Option azB
 |0,_,_=>none
 |n+1,bP,bB=>ai6 (OO a0 n) a0 bP bB
def BO (a0:azu):Option azB:=
 (na 40 (a0.length:Int)).bind λ_=>bX λn=>OO a0 n (replicate (Int.toNat (a0.length:Int)) (fu.mk 0 0 0 ([]:azc))) 0
def FK (a0:UInt8):azg:=
 some ((decide (97<=(a0.toNat:Int)))&&(decide ((a0.toNat:Int)<=122)))
def BP (a0:UInt8):azg:=
 some ((decide (48<=(a0.toNat:Int)))&&(decide ((a0.toNat:Int)<=57)))
def OP (fv:Int->azg) (a0:azc) (eo:Int):azg:=
 cond (decide (eo<(a0.length:Int))) ((bk a0 eo).bind λaK=>(FK aK).bind λbd=>cond (!bd) ((BP aK).bind λbo=>cond (!bo) (some false) (fv (i64.wrap (eo+1)))) (fv (i64.wrap (eo+1)))) (some true)
def FL (a0:azc):Nat->Int->azg
 |0,_=>none
 |n+1,eo=>OP (FL a0 n) a0 eo
def xY (a0:azc):azg:=
 cond (a0==([]:azc)) (some false) (cond (decide (10<(a0.length:Int))) (some false) ((bk a0 0).bind λU=>(FK U).bind λah=>cond (!ah) (some false) (bX λn=>FL a0 n 0)))
def jP (a0 J a2:Int):azg:=
 some ((decide (J<=a0))&&(decide (a0<=a2)))
def FM (a0:cQ) (jQ:Bool):azh:=
 cond jQ (some 1) (cond (a0.Kind==2) (some 2) (some 0))
def FN (a0:cQ):azh:=
 cond (a0.Kind==1) (FM a0 true) (cond (a0.Kind==3) (FM a0 true) (FM a0 (a0.Kind==4)))
def OQ (gW:Int->Int->azg) (a0:azw) (gX hp:Int):azg:=
 cond (decide (hp<(a0.length:Int))) (cond (gX==0) (some false) ((bk a0 hp).bind λU=>(FN U).bind λah=>gW (i64.wrap (gX+(i64.wrap (ah-1)))) (i64.wrap (hp+1)))) (some (gX==0))
def BQ (a0:azw):Nat->Int->Int->azg
 |0,_,_=>none
 |n+1,gX,hp=>OQ (BQ a0 n) a0 gX hp
def Jh (a0:azw):azg:=
 cond (((a0.length:Int)==0)||(decide (20<(a0.length:Int)))) (some false) (bX λn=>BQ a0 n 1 0)
def Ji (a0:cQ) (FO:Bool):azg:=
 cond FO (some (((a0.Number==0)&&(a0.Name==([]:azc)))&&((a0.cL.length:Int)==0))) (cond (a0.Kind==1) (some (a0.Number==0)) (cond (a0.Kind==3) (some ((a0.Number==0)&&(a0.Name==([]:azc)))) (cond (a0.Kind==4) (some ((a0.Name==([]:azc))&&((a0.cL.length:Int)==0))) (cond (a0.Kind==5) (some (a0.Name==([]:azc))) (some false)))))
def OR (a0:cQ):azg:=
 cond (a0.Kind==0) (Ji a0 true) (Ji a0 (a0.Kind==2))
def OS (dz:Int->Int->azh) (a0:azw) (gi dT:Int):azh:=
 cond (decide (0<dT)) ((bk a0 gi).bind λU=>(FN U).bind λah=>dz (i64.wrap (gi+1)) (i64.wrap (dT+(i64.wrap (ah-1))))) (some gi)
def BR (a0:azw):Nat->Int->Int->azh
 |0,_,_=>none
 |n+1,gi,dT=>OS (BR a0 n) a0 gi dT
def FP (a0:azw) (J:Int):azh:=
 bX λn=>BR a0 n J 1
def FQ (fA:Int->Int->azh) (a0:a6) (J BS BT:Int):azh:=
 fA BS (i64.wrap (BT+1))
def OT (fA:Int->Int->azh) (a0:a6) (J fz jR:Int):azh:=
 cond (decide (jR<J)) ((bk a0.Body jR).bind λU=>cond (U.Kind==4) ((FP a0.Body jR).bind λah=>cond (decide (J<ah)) (FQ fA a0 J (i64.wrap (fz+1)) jR) (FQ fA a0 J fz jR)) (FQ fA a0 J fz jR)) (some fz)
def zv (a0:a6) (J:Int):Nat->Int->Int->azh
 |0,_,_=>none
 |n+1,fz,jR=>OT (zv a0 J n) a0 J fz jR
def vS (a0:a6) (J:Int):azh:=
 bX λn=>zv a0 J n a0.ek 0
def Jj (a0:ca) (J:Int):azg:=
 cond (a0.Kind==0) ((jP a0.Value 0 63).bind λU=>some U) (cond (a0.Kind==1) ((jP a0.Value 0 (i64.wrap (J-1))).bind λah=>some ah) (cond (a0.Kind==2) ((jP a0.Value 0 8).bind λaK=>some aK) (cond (a0.Kind==3) (some (a0.Value==0)) (some false))))
def Jk (a0:ca):azh:=
 cond (a0.Kind==2) (some 2) (cond (a0.Kind==3) (some 1) (some 0))
def OU (gW:Int->Int->azg) (a0:azv) (J jQ um:Int):azg:=
 cond (decide (um<(a0.length:Int))) (cond (jQ==0) (some false) ((bk a0 um).bind λU=>(Jj U J).bind λah=>cond (!ah) (some false) ((Jk U).bind λaK=>gW (i64.wrap (jQ+(i64.wrap (aK-1)))) (i64.wrap (um+1))))) (some (jQ==0))
def BU (a0:azv) (J:Int):Nat->Int->Int->azg
 |0,_,_=>none
 |n+1,jQ,um=>OU (BU a0 J n) a0 J jQ um
def Jl (a0:azv) (J a2:Int):azg:=
 cond (decide (a2<(a0.length:Int))) (some false) (bX λn=>BU a0 J n 1 0)
def OV (kQ:Int->Int->azh) (U:cQ) (uo uq:Int):azh:=
 cond (decide (uq<(U.cL.length:Int))) ((bk U.cL uq).bind λbd=>(Jl bd uo 15).bind λbo=>cond (!bo) (some 8) (kQ uo (i64.wrap (uq+1)))) (some 0)
def xZ (U:cQ):Nat->Int->Int->azh
 |0,_,_=>none
 |n+1,uo,uq=>OV (xZ U n) U uo uq
def sL (J:a6) (a2:Int) (U:cQ) (FR:Bool):azh:=
 cond FR (some 6) ((vS J a2).bind λaK=>cond ((U.Kind==4)&&(decide (6<=aK))) (some 7) (bX λn=>xZ U n aK 0))
def vT (J:a6) (a2:Int) (U:cQ):azh:=
 cond (U.Kind==5) (cond (a2==0) (sL J a2 U true) ((bk J.Body (i64.wrap (a2-1))).bind λb0=>sL J a2 U (b0.Kind !=1))) (sL J a2 U false)
def ur (a0:azx) (J:a6) (a2:Int) (U:cQ) (FT:Bool):azh:=
 cond FT (some 4) (cond (U.Kind==1) (cond ((decide (2<(U.cL.length:Int)))||((decide (0<(U.cL.length:Int)))&&(U.Name==([116,97,117]:azc)))) (some 5) (vT J a2 U)) (cond (U.Kind==3) (cond ((U.cL.length:Int) !=1) (some 5) (vT J a2 U)) (cond (U.Kind==5) ((bk a0 U.Number).bind λbr=>cond ((U.cL.length:Int) !=br.ek) (some 5) (vT J a2 U)) (vT J a2 U))))
def BV (a0:azx) (J:a6) (a2:Int) (U:cQ) (FU:Bool):azh:=
 cond FU (some 3) (cond (U.Kind==4) ((jP U.Number 1 7).bind λcT=>cond (!cT) (ur a0 J a2 U true) (cond (U.Kind==5) ((jP U.Number 0 (i64.wrap ((a0.length:Int)-1))).bind λdj=>ur a0 J a2 U (!dj)) (ur a0 J a2 U false))) (cond (U.Kind==5) ((jP U.Number 0 (i64.wrap ((a0.length:Int)-1))).bind λdf=>ur a0 J a2 U (!df)) (ur a0 J a2 U false)))
def sM (a0:azx) (J:a6) (a2:Int):azh:=
 (bk J.Body a2).bind λU=>(OR U).bind λah=>cond (!ah) (some 2) (cond (U.Kind==1) ((xY U.Name).bind λeA=>BV a0 J a2 U (!eA)) (BV a0 J a2 U false))
def FV (fv:Int->Option (Int×Int)) (a0:azx) (J:a6) (qs:Int):Option (Int×Int):=
 cond (decide (qs<(J.Body.length:Int))) ((sM a0 J qs).bind λah=>cond (decide (0<ah)) (some (qs,ah)) (fv (i64.wrap (qs+1)))) (some (0,0))
def vU (a0:azx) (J:a6):Nat->Int->Option (Int×Int)
 |0,_=>none
 |n+1,qs=>FV (vU a0 J n) a0 J qs
def vV (a0:azx) (J:a6):Option (Int×Int):=
 (Jh J.Body).bind λU=>cond (!U) (some (0,1)) (bX λn=>vU a0 J n 0)
def OW (fv:Int->azg) (OX:Int->Int->azg) (a0:azx) (re uu:Int):azg:=
 cond (decide (uu<re)) ((bk a0 uu).bind λbd=>(bk a0 re).bind λbo=>cond (bd.Name==bo.Name) (some false) (OX re (i64.wrap (uu+1)))) (fv (i64.wrap (re+1)))
def BW (fv:Int->azg) (a0:azx):Nat->Int->Int->azg
 |0,_,_=>none
 |n+1,re,uu=>OW fv (BW fv a0 n) a0 re uu
def OY (qt:Int->azg) (a0:azx) (uv:Int):azg:=
 cond (decide (uv<(a0.length:Int))) ((bk a0 uv).bind λb0=>(vV a0 b0).bind λbr=>cond (decide (0<br.2)) (some false) (qt (i64.wrap (uv+1)))) (some true)
def zw (a0:azx):Nat->Int->azg
 |0,_=>none
 |n+1,uv=>OY (zw a0 n) a0 uv
def OZ (fv:Int->azg) (a0:azx) (eo:Int):azg:=
 cond (decide (eo<(a0.length:Int))) ((bk a0 eo).bind λU=>(xY U.Name).bind λah=>cond (!ah) (some false) ((jP U.ek 0 3).bind λaK=>cond (!aK) (some false) (bX λn=>BW fv a0 n eo 0))) (bX λn=>zw a0 n 0)
def vW (a0:azx):Nat->Int->azg
 |0,_=>none
 |n+1,eo=>OZ (vW a0 n) a0 eo
def Jm (a0:azx):azg:=
 cond (((a0.length:Int)==0)||(decide (4<(a0.length:Int)))) (some false) (bX λn=>vW a0 n 0)
def O0 (dz:Int->azg) (a0:aze) (iy:Int):azg:=
 cond (decide (iy<(a0.length:Int))) ((bk a0 iy).bind λU=>(jP U 0 63).bind λah=>cond (!ah) (some false) (dz (i64.wrap (iy+1)))) (some true)
def BX (a0:aze):Nat->Int->azg
 |0,_=>none
 |n+1,iy=>O0 (BX a0 n) a0 iy
def FW (a0:aze):azg:=
 bX λn=>BX a0 n 0
def O1 (fv:Int->azg) (a0:cM) (eo:Int):azg:=
 cond (decide (eo<(a0.cg.length:Int))) ((bk a0.cg eo).bind λU=>(jP U.cE 0 (i64.wrap ((a0.cw.length:Int)-1))).bind λah=>cond (!ah) (some false) ((bk a0.cw U.cE).bind λaK=>cond ((U.bV.length:Int) !=aK.ek) (some false) ((FW U.bV).bind λbd=>cond (!bd) (some false) (fv (i64.wrap (eo+1)))))) (some true)
def BZ (a0:cM):Nat->Int->azg
 |0,_=>none
 |n+1,eo=>O1 (BZ a0 n) a0 eo
def Jn (a0:cM):azg:=
 cond (((a0.cg.length:Int)==0)||(decide (3<(a0.cg.length:Int)))) (some false) (bX λn=>BZ a0 n 0)
def rf (a0:azc):azg:=
 (xY a0).bind λU=>some (U&&(!(a0==([116,97,117]:azc))))
def O2 (fv:Int->azg) (ai7:Int->Int->azg) (a0:azz) (U:ch) (nG oc:Int):azg:=
 cond (decide (oc<(a0.length:Int))) ((bk a0 oc).bind λbr=>cond ((br.Left==U.Result)||(br.cY==U.Result)) (some false) (ai7 nG (i64.wrap (oc+1)))) (fv (i64.wrap (nG+1)))
def vX (fv:Int->azg) (a0:azz) (U:ch):Nat->Int->Int->azg
 |0,_,_=>none
 |n+1,nG,oc=>O2 fv (vX fv a0 U n) a0 U nG oc
def O3 (fv:Int->azg) (a0:azz) (eo:Int):azg:=
 cond (decide (eo<(a0.length:Int))) ((bk a0 eo).bind λU=>(rf U.Left).bind λah=>cond (!ah) (some false) ((rf U.cY).bind λaK=>cond (!aK) (some false) ((rf U.Result).bind λbd=>cond ((!bd)||(!(Op.bytesLess U.Left U.cY||U.Left==U.cY))) (some false) (cond (decide (0<eo)) ((bk a0 (i64.wrap (eo-1))).bind λbo=>cond ((!(Op.bytesLess bo.Left U.Left||bo.Left==U.Left))||((bo.Left==U.Left)&&(!(Op.bytesLess bo.cY U.cY)))) (some false) (bX λn=>vX fv a0 U n eo 0)) (bX λn=>vX fv a0 U n eo 0))))) (some true)
def sN (a0:azz):Nat->Int->azg
 |0,_=>none
 |n+1,eo=>O3 (sN a0 n) a0 eo
def Jo (a0:azz):azg:=
 cond (decide (6<(a0.length:Int))) (some false) (bX λn=>sN a0 n 0)
def O4 (dz:Int->azg) (a0:azb) (iy:Int):azg:=
 cond (decide (iy<(a0.length:Int))) ((bk a0 iy).bind λU=>(rf U).bind λah=>cond (!ah) (some false) (dz (i64.wrap (iy+1)))) (some true)
def B0 (a0:azb):Nat->Int->azg
 |0,_=>none
 |n+1,iy=>O4 (B0 a0 n) a0 iy
def Jp (a0:azb):azg:=
 bX λn=>B0 a0 n 0
def Jq (fv:Int->azg) (a0:azb) (eo:Int):azg:=
 cond (decide (eo<(a0.length:Int))) ((bk a0 (i64.wrap (eo-1))).bind λah=>(bk a0 eo).bind λaK=>cond (!(Op.bytesLess ah aK)) (some false) (fv (i64.wrap (eo+1)))) (some true)
def rh (a0:azb):Nat->Int->azg
 |0,_=>none
 |n+1,eo=>Jq (rh a0 n) a0 eo
def FX (a0:azb):azg:=
 cond (decide (12<(a0.length:Int))) (some false) ((Jp a0).bind λU=>cond (!U) (some false) (bX λn=>rh a0 n 1))
def Jr (a0:cM):azh:=
 (Jm a0.cw).bind λU=>cond (!U) (some 1) ((Jn a0).bind λah=>cond (!ah) (some 2) ((Jo a0.b8).bind λaK=>cond (!aK) (some 3) ((FX a0.cB).bind λbd=>cond (!bd) (some 4) ((FX a0.cy).bind λbo=>cond (!bo) (some 5) (some 0)))))
def Js (a0:cM):azg:=
 (Jr a0).bind λU=>some (U==0)
def sO (a0:azx) (J:bp):azg:=
 (jP J.cE 0 (i64.wrap ((a0.length:Int)-1))).bind λU=>cond (!U) (some false) ((bk a0 J.cE).bind λah=>(jP J.Part 0 (i64.wrap ((ah.Body.length:Int)-1))).bind λaK=>cond (!aK) (some false) ((bk ah.Body J.Part).bind λbd=>cond (bd.Kind==5) (some false) ((vS ah J.Part).bind λbo=>cond ((J.bV.length:Int)==bo) ((FW J.bV).bind λb0=>some b0) (some false))))
def O5 (fv:Int->azg) (a0:cM) (J:azA) (b7:Int):azg:=
 cond (decide (b7<(J.length:Int))) ((bk J b7).bind λU=>(sO a0.cw U).bind λah=>cond (!ah) (some false) (fv (i64.wrap (b7+1)))) (some true)
def B1 (a0:cM) (J:azA):Nat->Int->azg
 |0,_=>none
 |n+1,b7=>O5 (B1 a0 J n) a0 J b7
def Jt (a0:cM) (J:azA):azg:=
 cond ((J.length:Int) !=(a0.cg.length:Int)) (some false) (bX λn=>B1 a0 J n 0)
def Ju (a0:cM) (J:azA):azh:=
 (Js a0).bind λU=>cond (!U) (some 1) ((Jt a0 J).bind λah=>cond (!ah) (some 1) (some 0))
def Jv (a0 J:Int):azg:=
 (jP a0 0 2).bind λU=>cond U ((jP J 0 65535).bind λah=>some ah) (some false)
def O6 (dz:Int->azh) (a0:azc) (iy:Int):azh:=
 cond (decide (iy<(a0.length:Int))) ((bk a0 iy).bind λU=>cond ((U.toNat:Int)==40) (some iy) (dz (i64.wrap (iy+1)))) (some (a0.length:Int))
def x0 (a0:azc):Nat->Int->azh
 |0,_=>none
 |n+1,iy=>O6 (x0 a0 n) a0 iy
def zx (a0:azc):azh:=
 bX λn=>x0 a0 n 0
def Jw (kh:azb->Int->Int->Option azb) (a0:azc) (J:UInt8) (B2:azb) (B3 B4:Int):Option azb:=
 kh B2 B3 (i64.wrap (B4+1))
def O7 (kh:azb->Int->Int->Option azb) (a0:azc) (J:UInt8) (j9:azb) (lp gf:Int):Option azb:=
 cond (decide (gf<(a0.length:Int))) ((bk a0 gf).bind λU=>cond ((U.toNat:Int)==(J.toNat:Int)) ((gz a0 lp gf).bind λah=>(room 16 (j9.length+1)).bind λ_=>Jw kh a0 J (j9++[ah]) (i64.wrap (gf+1)) gf) (Jw kh a0 J j9 lp gf)) ((gz a0 lp (a0.length:Int)).bind λaK=>(room 16 (j9.length+1)).bind λ_=>some (j9++[aK]))
def zy (a0:azc) (J:UInt8):Nat->azb->Int->Int->Option azb
 |0,_,_,_=>none
 |n+1,j9,lp,gf=>O7 (zy a0 J n) a0 J j9 lp gf
def Jx (a0:azc) (J:UInt8):Option azb:=
 bX λn=>zy a0 J n [] 0 0
def FY (sP:Int):Option (Int×Bool):=
 some (sP,true)
def O8 (ai8:Int->Int->Option (Int×Bool)) (a0:azc) (hZ nq po:Int):Option (Int×Bool):=
 cond (decide (po<(a0.length:Int))) ((bk a0 po).bind λbd=>(BP bd).bind λbo=>cond (!bo) (some (0,false)) (ai8 (i64.wrap ((i64.wrap (10*nq))+(i64.wrap (u8.wrap ((bd.toNat:Int)-48))))) (i64.wrap (po+1)))) (cond (hZ==1) (FY (i64.wrap (0-nq))) (FY nq))
def vY (a0:azc) (hZ:Int):Nat->Int->Int->Option (Int×Bool)
 |0,_,_=>none
 |n+1,nq,po=>O8 (vY a0 hZ n) a0 hZ nq po
def B5 (a0:azc) (hZ:Int):Option (Int×Bool):=
 cond ((a0.length:Int)==hZ) (some (0,false)) (cond (decide (18<(i64.wrap ((a0.length:Int)-hZ)))) (some (0,false)) ((bk a0 hZ).bind λU=>cond ((U.toNat:Int)==48) (cond (decide (1<(a0.length:Int))) (some (0,false)) (bX λn=>vY a0 hZ n 0 hZ)) (bX λn=>vY a0 hZ n 0 hZ)))
def Jy (a0:azc):Option (Int×Bool):=
 cond (decide (0<(a0.length:Int))) ((bk a0 0).bind λb0=>cond ((b0.toNat:Int)==45) (B5 a0 1) (B5 a0 0)) (B5 a0 0)
def O9 (ai9:aze->Int->Option (aze×Bool)) (br:azb) (pq:aze) (ri:Int):Option (aze×Bool):=
 cond (decide (ri<(br.length:Int))) ((bk br ri).bind λcT=>(Jy cT).bind λdj=>cond (!dj.2) (some ([],false)) ((jP dj.1 0 63).bind λdf=>cond (!df) (some ([],false)) ((room 8 (pq.length+1)).bind λ_=>ai9 (pq++[dj.1]) (i64.wrap (ri+1))))) (some (pq,(decide ((pq.length:Int)<=2))))
def zz (br:azb):Nat->aze->Int->Option (aze×Bool)
 |0,_,_=>none
 |n+1,pq,ri=>O9 (zz br n) br pq ri
def sQ (a0:azc):Option (aze×Bool):=
 (zx a0).bind λU=>cond (U==(a0.length:Int)) ((xY a0).bind λah=>some ([],ah)) ((gz a0 0 U).bind λaK=>(rf aK).bind λbd=>cond (!bd) (some ([],false)) ((bk a0 (i64.wrap ((a0.length:Int)-1))).bind λbo=>cond ((bo.toNat:Int) !=41) (some ([],false)) ((gz a0 (i64.wrap (U+1)) (i64.wrap ((a0.length:Int)-1))).bind λb0=>(Jx b0 (44:UInt8)).bind λbr=>bX λn=>zz br n [] 0)))
def uw (a0:azc):azg:=
 (sQ a0).bind λU=>some U.2
def Jz (a0:fu):azg:=
 (jP a0.Choice 0 199).bind λU=>cond U ((jP a0.fa 0 2).bind λah=>cond ah ((jP a0.Second (-1) 2).bind λaK=>cond aK ((uw a0.Label).bind λbd=>some bd) (some false)) (some false)) (some false)
def O_ (fv:Int->azg) (a0:azB) (eo:Int):azg:=
 cond (decide (eo<(a0.length:Int))) ((bk a0 eo).bind λU=>(Jz U).bind λah=>cond (!ah) (some false) (fv (i64.wrap (eo+1)))) (some true)
def B6 (a0:azB):Nat->Int->azg
 |0,_=>none
 |n+1,eo=>O_ (B6 a0 n) a0 eo
def JA (a0:azB):azg:=
 cond (decide (60<(a0.length:Int))) (some false) (bX λn=>B6 a0 n 0)
def B7 (a0:aze):Option aze:=
 (room 8 (a0.length)).bind λ_=>some a0
def rj (a0:Bool):azh:=
 cond a0 (some 1) (some 0)
def Pa (dz:Int->Int->azh) (a0:azv) (gi dT:Int):azh:=
 cond (decide (0<dT)) ((bk a0 gi).bind λU=>(Jk U).bind λah=>dz (i64.wrap (gi+1)) (i64.wrap (dT+(i64.wrap (ah-1))))) (some gi)
def B8 (a0:azv):Nat->Int->Int->azh
 |0,_,_=>none
 |n+1,gi,dT=>Pa (B8 a0 n) a0 gi dT
def JB (a0:azv) (J:Int):azh:=
 bX λn=>B8 a0 n J 1
def JC (a0 J a2:Int):azh:=
 cond (a0==0) (some (Int.tmod (i64.wrap (J+a2)) 64)) (cond (a0==1) (some (Int.tmod (i64.wrap ((i64.wrap (J-a2))+64)) 64)) (cond (a0==2) (some (Int.tmod (i64.wrap (J*a2)) 64)) (cond (a0==3) ((rj (J==a2)).bind λU=>some U) (cond (a0==4) ((rj (J !=a2)).bind λah=>some ah) (cond (a0==5) ((rj (decide (J<a2))).bind λaK=>some aK) (cond (a0==6) ((rj (decide (J<=a2))).bind λbd=>some bd) (cond (a0==7) (cond (J !=0) ((rj (a2 !=0)).bind λbo=>some bo) ((rj false).bind λb0=>some b0)) (cond (J !=0) ((rj true).bind λbr=>some br) ((rj (a2 !=0)).bind λcT=>some cT)))))))))
def Pb (B9:azv->aze->Int->azh) (a0:azv) (J:aze) (a2:Int):azh:=
 (bk a0 a2).bind λU=>cond (U.Kind==0) (some U.Value) (cond (U.Kind==1) ((bk J U.Value).bind λah=>some ah) (cond (U.Kind==3) ((B9 a0 J (i64.wrap (a2+1))).bind λaK=>(rj (aK==0)).bind λbd=>some bd) ((B9 a0 J (i64.wrap (a2+1))).bind λbo=>(JB a0 (i64.wrap (a2+1))).bind λb0=>(B9 a0 J b0).bind λbr=>(JC U.Value bo br).bind λcT=>some cT)))
def zA:Nat->azv->aze->Int->azh
 |0,_,_,_=>none
 |n+1,a0,J,a2=>Pb (zA n) a0 J a2
def Pc (a0:azv) (J:aze) (a2:Int):azh:=
 bX λn=>zA n a0 J a2
def zB (a0:azv) (J:aze):azh:=
 (Pc a0 J 0).bind λU=>some U
def Pd (fA:aze->Int->Option aze) (a0:azm) (J fz:aze) (jR:Int):Option aze:=
 cond (decide (jR<(a0.length:Int))) ((bk a0 jR).bind λU=>(zB U J).bind λah=>(room 8 (fz.length+1)).bind λ_=>fA (fz++[ah]) (i64.wrap (jR+1))) (some fz)
def B_ (a0:azm) (J:aze):Nat->aze->Int->Option aze
 |0,_,_=>none
 |n+1,fz,jR=>Pd (B_ a0 J n) a0 J fz jR
def FZ (a0:azm) (J:aze):Option aze:=
 bX λn=>B_ a0 J n [] 0
def Ca (gW:azc->Int->Option azc) (a0:Int) (vZ:azc) (x1 ux:Int):Option azc:=
 (room 1 (vZ.length+1)).bind λ_=>gW (vZ++[(pG (i64.wrap (48+ux)))]) (i64.wrap (Int.tdiv x1 10))
def Pe (zC:azc->Int->Option azc) (oL ib:azc) (hR:Int):Option azc:=
 cond (decide (0<=hR)) ((bk oL hR).bind λU=>(room 1 (ib.length+1)).bind λ_=>zC (ib++[U]) (i64.wrap (hR-1))) (some ib)
def Cb (oL:azc):Nat->azc->Int->Option azc
 |0,_,_=>none
 |n+1,ib,hR=>Pe (Cb oL n) oL ib hR
def uy (oL:azc):Option azc:=
 bX λn=>Cb oL n [] (i64.wrap ((oL.length:Int)-1))
def zD (gW:azc->Int->Option azc) (a0:Int) (gX:azc) (hp:Int):Option azc:=
 cond (hp !=0) (cond (decide ((Int.tmod hp 10)<0)) (Ca gW a0 gX hp (i64.wrap (0-(Int.tmod hp 10)))) (Ca gW a0 gX hp (Int.tmod hp 10))) (cond (decide (a0<0)) ((room 1 (gX.length+1)).bind λ_=>uy (gX++[(45:UInt8)])) (uy gX))
def nr (a0:Int):Nat->azc->Int->Option azc
 |0,_,_=>none
 |n+1,gX,hp=>zD (nr a0 n) a0 gX hp
def v7 (a0:Int):Option azc:=
 cond (a0==0) (some ([48]:azc)) (bX λn=>nr a0 n [] a0)
def JD (gW:azc->Int->Option azc) (a0:aze) (v8:azc) (v_:Int):Option azc:=
 (bk a0 v_).bind λU=>(v7 U).bind λah=>(iO (v8.length+ah.length)).bind λ_=>gW (v8++ah) (i64.wrap (v_+1))
def Pf (gW:azc->Int->Option azc) (a0:aze) (gX:azc) (hp:Int):Option azc:=
 cond (decide (hp<(a0.length:Int))) (cond (decide (0<hp)) ((iO (gX.length+1)).bind λ_=>JD gW a0 (gX++([44]:azc)) hp) (JD gW a0 gX hp)) (some gX)
def zE (a0:aze):Nat->azc->Int->Option azc
 |0,_,_=>none
 |n+1,gX,hp=>Pf (zE a0 n) a0 gX hp
def JE (a0:aze):Option azc:=
 cond ((a0.length:Int)==0) (some ([45]:azc)) (bX λn=>zE a0 n ([]:azc) 0)
def F1 (a0:azc) (J:aze):Option azc:=
 cond ((J.length:Int)==0) (some a0) ((iO (a0.length+1)).bind λ_=>(JE J).bind λU=>(iO ((a0++([40]:azc)).length+U.length)).bind λ_=>(iO (((a0++([40]:azc))++U).length+1)).bind λ_=>some (((a0++([40]:azc))++U)++([41]:azc)))
def Pg (fv:Int->azg) (a0 J:aze) (b7:Int):azg:=
 cond (decide (b7<(a0.length:Int))) ((bk a0 b7).bind λU=>(bk J b7).bind λah=>cond (U !=ah) (some false) (fv (i64.wrap (b7+1)))) (some true)
def Cc (a0 J:aze):Nat->Int->azg
 |0,_=>none
 |n+1,b7=>Pg (Cc a0 J n) a0 J b7
def F2 (a0 J:aze):azg:=
 cond ((a0.length:Int) !=(J.length:Int)) (some false) (bX λn=>Cc a0 J n 0)
def Cd (a0 J:bp):azg:=
 cond (a0.cE==J.cE) (cond (a0.Part==J.Part) ((F2 a0.bV J.bV).bind λU=>some U) (some false)) (some false)
def Ph (dz:Int->Option azD) (a0:azD) (J:bb) (dT:Int):Option azD:=
 cond (decide (dT<(a0.length:Int))) ((bk a0 dT).bind λU=>cond (U.Label==J.Label) ((Cd U.Next J.Next).bind λah=>cond ah (some a0) (dz (i64.wrap (dT+1)))) (dz (i64.wrap (dT+1)))) ((room 56 (a0.length+1)).bind λ_=>some (a0++[J]))
def Ce (a0:azD) (J:bb):Nat->Int->Option azD
 |0,_=>none
 |n+1,dT=>Ph (Ce a0 J n) a0 J dT
def JF (a0:azD) (J:bb):Option azD:=
 bX λn=>Ce a0 J n 0
def zF (ma:azx->Int->Int->aze->azD->Option azD) (a0:azx) (J a2:Int) (a3:aze) (Cf:azD):Option azD:=
 some Cf
def F3 (ma:azx->Int->Int->aze->azD->Option azD) (a3:aze) (a4:azD) (ah:cQ) (zG zH:Int) (zI:aze):Option azD:=
 (FZ ah.cL a3).bind λbd=>(F1 ah.Name bd).bind λbo=>(JF a4 (bb.mk bo (bp.mk zG zH zI))).bind λb0=>some b0
def Pj (ma:azx->Int->Int->aze->azD->Option azD) (qt:azD->Int->Option azD) (a0:azx) (J a2:Int) (a3:aze) (ah:cQ) (uz:azD) (k4:Int):Option azD:=
 cond (decide (k4<=ah.Number)) ((B7 a3).bind λgT=>(room 8 (gT.length+1)).bind λ_=>(ma a0 J (i64.wrap (a2+1)) (gT++[k4]) uz).bind λic=>qt ic (i64.wrap (k4+1))) (zF ma a0 J a2 a3 uz)
def Cg (ma:azx->Int->Int->aze->azD->Option azD) (a0:azx) (J a2:Int) (a3:aze) (ah:cQ):Nat->azD->Int->Option azD
 |0,_,_=>none
 |n+1,uz,k4=>Pj ma (Cg ma a0 J a2 a3 ah n) a0 J a2 a3 ah uz k4
def x2 (ma:azx->Int->Int->aze->azD->Option azD) (a0:azx) (J a2:Int) (a3:aze) (a4:azD):Option azD:=
 (bk a0 J).bind λU=>(bk U.Body a2).bind λah=>cond (decide (200<(a4.length:Int))) (some a4) (cond (ah.Kind==1) ((B7 a3).bind λaK=>(bk U.Body (i64.wrap (a2+1))).bind λbr=>cond (br.Kind==5) ((FZ br.cL a3).bind λcT=>F3 ma a3 a4 ah br.Number 0 cT) (F3 ma a3 a4 ah J (i64.wrap (a2+1)) aK)) (cond (ah.Kind==2) ((ma a0 J (i64.wrap (a2+1)) a3 a4).bind λdj=>(FP U.Body (i64.wrap (a2+1))).bind λdf=>(ma a0 J df a3 dj).bind λeA=>some eA) (cond (ah.Kind==3) ((bk ah.cL 0).bind λkq=>(zB kq a3).bind λlM=>cond (lM !=0) ((ma a0 J (i64.wrap (a2+1)) a3 a4).bind λjj=>some jj) (zF ma a0 J a2 a3 a4)) (cond (ah.Kind==4) (bX λn=>Cg ma a0 J a2 a3 ah n a4 0) (zF ma a0 J a2 a3 a4)))))
def rk:Nat->azx->Int->Int->aze->azD->Option azD
 |0,_,_,_,_,_=>none
 |n+1,a0,J,a2,a3,a4=>x2 (rk n) a0 J a2 a3 a4
def JG (a0:azx) (J a2:Int) (a3:aze) (a4:azD):Option azD:=
 bX λn=>rk n a0 J a2 a3 a4
def uA (a0:azx) (J:bp):Option (azD×Bool):=
 (JG a0 J.cE J.Part J.bV []).bind λU=>some (U,(decide ((U.length:Int)<=200)))
def sR (a0:azc):Option azc:=
 (zx a0).bind λU=>(gz a0 0 U).bind λah=>some ah
def Pk (dz:Int->azh) (a0:azb) (J:azc) (dT:Int):azh:=
 cond (decide (dT<(a0.length:Int))) ((bk a0 dT).bind λU=>cond (U==J) (some dT) (dz (i64.wrap (dT+1)))) (some (-1))
def Ch (a0:azb) (J:azc):Nat->Int->azh
 |0,_=>none
 |n+1,dT=>Pk (Ch a0 J n) a0 J dT
def Ci (a0:azb) (J:azc):azh:=
 bX λn=>Ch a0 J n 0
def Pl (fA:azA->Int->Option azA) (a0 bP:azA) (bB:Int):Option azA:=
 cond (decide (bB<(a0.length:Int))) ((bk a0 bB).bind λU=>(B7 U.bV).bind λah=>(room 40 (bP.length+1)).bind λ_=>fA (bP++[(bp.mk U.cE U.Part ah)]) (i64.wrap (bB+1))) (some bP)
def Cj (a0:azA):Nat->azA->Int->Option azA
 |0,_,_=>none
 |n+1,bP,bB=>Pl (Cj a0 n) a0 bP bB
def wa (a0:azA):Option azA:=
 bX λn=>Cj a0 n [] 0
def Ck (a0:cM) (J:azc):Option azc:=
 (sR J).bind λU=>(Ci a0.cy U).bind λah=>cond (decide (0<=ah)) (some ([116,97,117]:azc)) (some J)
def Pm (fv:Int->azg) (a0 J:azA) (b7:Int):azg:=
 cond (decide (b7<(a0.length:Int))) ((bk a0 b7).bind λU=>(bk J b7).bind λah=>(Cd U ah).bind λaK=>cond (!aK) (some false) (fv (i64.wrap (b7+1)))) (some true)
def Cl (a0 J:azA):Nat->Int->azg
 |0,_=>none
 |n+1,b7=>Pm (Cl a0 J n) a0 J b7
def JH (a0 J:azA):azg:=
 cond ((a0.length:Int) !=(J.length:Int)) (some false) (bX λn=>Cl a0 J n 0)
def Pn (dz:Int->Option azC) (a0:azC) (J:bf) (dT:Int):Option azC:=
 cond (decide (dT<(a0.length:Int))) ((bk a0 dT).bind λU=>cond (U.Label==J.Label) (cond (U.fa==J.fa) (cond (U.Second==J.Second) ((JH U.State J.State).bind λah=>cond ah (some a0) (dz (i64.wrap (dT+1)))) (dz (i64.wrap (dT+1)))) (dz (i64.wrap (dT+1)))) (dz (i64.wrap (dT+1)))) ((room 56 (a0.length+1)).bind λ_=>some (a0++[J]))
def Cm (a0:azC) (J:bf):Nat->Int->Option azC
 |0,_=>none
 |n+1,dT=>Pn (Cm a0 J n) a0 J dT
def zJ (a0:azC) (J:bf):Option azC:=
 bX λn=>Cm a0 J n 0
def Po (uB:azz->azc->azc->Option azc) (fv:Int->Option azc) (a0:azz) (J a2:azc) (sS:Int):Option azc:=
 cond (decide (sS<(a0.length:Int))) ((bk a0 sS).bind λah=>cond ((ah.Left==J)&&(ah.cY==a2)) (some ah.Result) (fv (i64.wrap (sS+1)))) (some ([]:azc))
def Cn (uB:azz->azc->azc->Option azc) (a0:azz) (J a2:azc):Nat->Int->Option azc
 |0,_=>none
 |n+1,sS=>Po uB (Cn uB a0 J a2 n) a0 J a2 sS
def zK (uB:azz->azc->azc->Option azc) (a0:azz) (J a2:azc):Option azc:=
 cond (!(Op.bytesLess J a2||J==a2)) ((uB a0 a2 J).bind λU=>some U) (bX λn=>Cn uB a0 J a2 n 0)
def Co:Nat->azz->azc->azc->Option azc
 |0,_,_,_=>none
 |n+1,a0,J,a2=>zK (Co n) a0 J a2
def F4 (a0:azz) (J a2:azc):Option azc:=
 bX λn=>Co n a0 J a2
def JI (a0:cM) (J a2:azc):Option azc:=
 (sQ J).bind λU=>(sQ a2).bind λah=>(F2 U.1 ah.1).bind λaK=>cond (!aK) (some ([]:azc)) ((sR J).bind λbd=>(sR a2).bind λbo=>(F4 a0.b8 bd bo).bind λb0=>cond (b0==([]:azc)) (some ([]:azc)) ((Ci a0.cB b0).bind λbr=>cond (decide (br<0)) (some ([]:azc)) ((F1 b0 U.1).bind λcT=>some cT)))
def F5 (qu:azC->azn->Int->Option (azC×Bool)) (zC:azC->azn->Int->Int->Option (azC×Bool)) (J:azA) (bu:azx) (bz:azy) (bx:azz) (bQ bR:azb) (Cp:azC) (Cq:azn) (Cr Cs:Int):Option (azC×Bool):=
 zC Cp Cq Cr (i64.wrap (Cs+1))
def Pp (qu:azC->azn->Int->Option (azC×Bool)) (zC:azC->azn->Int->Int->Option (azC×Bool)) (J:azA) (bu:azx) (bz:azy) (bx:azz) (bQ bR:azb) (ib:azC) (hR:azn) (hL lN:Int):Option (azC×Bool):=
 (bk hR hL).bind λaK=>cond (decide (lN<(aK.length:Int))) ((bk aK lN).bind λbd=>cond (!(bd.Label==([116,97,117]:azc))) ((sR bd.Label).bind λbo=>(Ci bQ bo).bind λb0=>cond (decide (b0<0)) (F5 qu zC J bu bz bx bQ bR ib hR hL lN) ((wa J).bind λbr=>(bk br hL).bind λcT=>(Ck (cM.mk bu bz bx bQ bR) bd.Label).bind λdj=>(wa (List.set br (Int.toNat hL) bd.Next)).bind λdf=>(zJ ib (bf.mk dj hL (-1) df)).bind λeA=>F5 qu zC J bu bz bx bQ bR eA hR hL lN)) ((wa J).bind λkq=>(bk kq hL).bind λlM=>(Ck (cM.mk bu bz bx bQ bR) bd.Label).bind λjj=>(wa (List.set kq (Int.toNat hL) bd.Next)).bind λgT=>(zJ ib (bf.mk jj hL (-1) gT)).bind λic=>F5 qu zC J bu bz bx bQ bR ic hR hL lN)) (qu ib hR (i64.wrap (hL+1)))
def x3 (qu:azC->azn->Int->Option (azC×Bool)) (J:azA) (bu:azx) (bz:azy) (bx:azz) (bQ bR:azb):Nat->azC->azn->Int->Int->Option (azC×Bool)
 |0,_,_,_,_=>none
 |n+1,ib,hR,hL,lN=>Pp qu (x3 qu J bu bz bx bQ bR n) J bu bz bx bQ bR ib hR hL lN
def JJ (ie:azC->azn->Int->Option (azC×Bool)) (kQ:azC->azn->Int->Int->Option (azC×Bool)) (pU:azC->azn->Int->Int->Int->Option (azC×Bool)) (JK:azC->azn->Int->Int->Int->Int->Option (azC×Bool)) (J:azA) (bu:azx) (bz:azy) (bx:azz) (bQ bR:azb) (Ct:azC) (Cu:azn) (Cv Cw:Int) (Cx Cy:Int):Option (azC×Bool):=
 JK Ct Cu Cv Cw Cx (i64.wrap (Cy+1))
def JL (ie:azC->azn->Int->Option (azC×Bool)) (kQ:azC->azn->Int->Int->Option (azC×Bool)) (pU:azC->azn->Int->Int->Int->Option (azC×Bool)) (JK:azC->azn->Int->Int->Int->Int->Option (azC×Bool)) (J:azA) (bu:azx) (bz:azy) (bx:azz) (bQ bR:azb) (mQ:azC) (mw:azn) (jS kr:Int) (mR mx:Int):Option (azC×Bool):=
 (bk mw kr).bind λwb=>cond ((decide (mx<(wb.length:Int)))&&(decide ((mQ.length:Int)<=200))) ((bk mw jS).bind λmS=>(bk mS mR).bind λmT=>(bk wb mx).bind λoM=>(JI (cM.mk bu bz bx bQ bR) mT.Label oM.Label).bind λnH=>cond (nH==([]:azc)) (JJ ie kQ pU JK J bu bz bx bQ bR mQ mw jS kr mR mx) ((wa J).bind λns=>(bk ns jS).bind λF6=>(bk (List.set ns (Int.toNat jS) mT.Next) kr).bind λwc=>(Ck (cM.mk bu bz bx bQ bR) nH).bind λrl=>(wa (List.set (List.set ns (Int.toNat jS) mT.Next) (Int.toNat kr) oM.Next)).bind λuC=>(zJ mQ (bf.mk rl jS kr uC)).bind λJM=>JJ ie kQ pU JK J bu bz bx bQ bR JM mw jS kr mR mx)) (pU mQ mw jS kr (i64.wrap (mR+1)))
def uD (ie:azC->azn->Int->Option (azC×Bool)) (kQ:azC->azn->Int->Int->Option (azC×Bool)) (pU:azC->azn->Int->Int->Int->Option (azC×Bool)) (J:azA) (bu:azx) (bz:azy) (bx:azz) (bQ bR:azb):Nat->azC->azn->Int->Int->Int->Int->Option (azC×Bool)
 |0,_,_,_,_,_,_=>none
 |n+1,mQ,mw,jS,kr,mR,mx=>JL ie kQ pU (uD ie kQ pU J bu bz bx bQ bR n) J bu bz bx bQ bR mQ mw jS kr mR mx
def Pq (ie:azC->azn->Int->Option (azC×Bool)) (kQ:azC->azn->Int->Int->Option (azC×Bool)) (pU:azC->azn->Int->Int->Int->Option (azC×Bool)) (J:azA) (bu:azx) (bz:azy) (bx:azz) (bQ bR:azb) (uE:azC) (sT:azn) (sU uF we:Int):Option (azC×Bool):=
 (bk sT sU).bind λk5=>cond (decide (we<(k5.length:Int))) (bX λn=>uD ie kQ pU J bu bz bx bQ bR n uE sT sU uF we 0) (kQ uE sT sU (i64.wrap (uF+1)))
def rm (ie:azC->azn->Int->Option (azC×Bool)) (kQ:azC->azn->Int->Int->Option (azC×Bool)) (J:azA) (bu:azx) (bz:azy) (bx:azz) (bQ bR:azb):Nat->azC->azn->Int->Int->Int->Option (azC×Bool)
 |0,_,_,_,_,_=>none
 |n+1,uE,sT,sU,uF,we=>Pq ie kQ (rm ie kQ J bu bz bx bQ bR n) J bu bz bx bQ bR uE sT sU uF we
def Pr (ie:azC->azn->Int->Option (azC×Bool)) (kQ:azC->azn->Int->Int->Option (azC×Bool)) (J:azA) (bu:azx) (bz:azy) (bx:azz) (bQ bR:azb) (uG:azC) (uH:azn) (uI wg:Int):Option (azC×Bool):=
 cond (decide (wg<(J.length:Int))) (bX λn=>rm ie kQ J bu bz bx bQ bR n uG uH uI wg 0) (ie uG uH (i64.wrap (uI+1)))
def oN (ie:azC->azn->Int->Option (azC×Bool)) (J:azA) (bu:azx) (bz:azy) (bx:azz) (bQ bR:azb):Nat->azC->azn->Int->Int->Option (azC×Bool)
 |0,_,_,_,_=>none
 |n+1,uG,uH,uI,wg=>Pr ie (oN ie J bu bz bx bQ bR n) J bu bz bx bQ bR uG uH uI wg
def Ps (ie:azC->azn->Int->Option (azC×Bool)) (J:azA) (bu:azx) (bz:azy) (bx:azz) (bQ bR:azb) (rn:azC) (x4:azn) (sV:Int):Option (azC×Bool):=
 cond (decide (sV<(J.length:Int))) (bX λn=>oN ie J bu bz bx bQ bR n rn x4 sV (i64.wrap (sV+1))) (some (rn,(decide ((rn.length:Int)<=200))))
def lO (J:azA) (bu:azx) (bz:azy) (bx:azz) (bQ bR:azb):Nat->azC->azn->Int->Option (azC×Bool)
 |0,_,_,_=>none
 |n+1,rn,x4,sV=>Ps (lO J bu bz bx bQ bR n) J bu bz bx bQ bR rn x4 sV
def Pt (qu:azC->azn->Int->Option (azC×Bool)) (J:azA) (bu:azx) (bz:azy) (bx:azz) (bQ bR:azb) (uJ:azC) (uK:azn) (wh:Int):Option (azC×Bool):=
 cond (decide (wh<(J.length:Int))) (bX λn=>x3 qu J bu bz bx bQ bR n uJ uK wh 0) (bX λn=>lO J bu bz bx bQ bR n uJ uK 0)
def sW (J:azA) (bu:azx) (bz:azy) (bx:azz) (bQ bR:azb):Nat->azC->azn->Int->Option (azC×Bool)
 |0,_,_,_=>none
 |n+1,uJ,uK,wh=>Pt (sW J bu bz bx bQ bR n) J bu bz bx bQ bR uJ uK wh
def F7 (kh:azn->Int->Option (azC×Bool)) (J:azA) (bu:azx) (bz:azy) (bx:azz) (bQ bR:azb) (gf:azn) (pV:Int):Option (azC×Bool):=
 cond (decide (pV<(J.length:Int))) ((bk J pV).bind λU=>(uA bu U).bind λah=>cond (!ah.2) (some ([],false)) ((room 24 (gf.length+1)).bind λ_=>kh (gf++[ah.1]) (i64.wrap (pV+1)))) (bX λn=>sW J bu bz bx bQ bR n [] gf 0)
def wi (J:azA) (bu:azx) (bz:azy) (bx:azz) (bQ bR:azb):Nat->azn->Int->Option (azC×Bool)
 |0,_,_=>none
 |n+1,gf,pV=>F7 (wi J bu bz bx bQ bR n) J bu bz bx bQ bR gf pV
def JN (bu:azx) (bz:azy) (bx:azz) (bQ bR:azb) (J:azA):Option (azC×Bool):=
 bX λn=>wi J bu bz bx bQ bR n [] 0
def F8 (dz:Int->Int->azh) (Cz:Int->Int->Int->azh) (a0:azc) (CA CB ks:Int):azh:=
 Cz CA CB (i64.wrap (ks+1))
def JO (dz:Int->Int->azh) (Cz:Int->Int->Int->azh) (a0:azc) (pW qv rp:Int):azh:=
 cond (decide (rp<8)) (cond (decide (65535<(i64.wrap (pW*2)))) (F8 dz Cz a0 (bitsOf .xor .i64 (bitsOf .and .i64 (i64.wrap (pW*2)) 65535) 4129) qv rp) (F8 dz Cz a0 (i64.wrap (pW*2)) qv rp)) (dz pW (i64.wrap (qv+1)))
def wj (dz:Int->Int->azh) (a0:azc):Nat->Int->Int->Int->azh
 |0,_,_,_=>none
 |n+1,pW,qv,rp=>JO dz (wj dz a0 n) a0 pW qv rp
def JP (dz:Int->Int->azh) (a0:azc) (gi dT:Int):azh:=
 cond (decide (dT<(a0.length:Int))) ((bk a0 dT).bind λU=>bX λn=>wj dz a0 n (bitsOf .xor .i64 gi (i64.wrap ((U.toNat:Int)*256))) dT 0) (some gi)
def qw (a0:azc):Nat->Int->Int->azh
 |0,_,_=>none
 |n+1,gi,dT=>JP (qw a0 n) a0 gi dT
def CC (a0:azc) (J:Int):azh:=
 bX λn=>qw a0 n J 0
def F9 (a0:azC):azh:=
 some 0
def Pu (ai_:Int->azh) (a0:azC) (U:fu) (rq:Int):azh:=
 cond (decide (rq<(a0.length:Int))) ((bk a0 rq).bind λah=>cond (decide (U.fa<ah.fa)) (some rq) (ai_ (i64.wrap (rq+1)))) (F9 a0)
def zL (a0:azC) (U:fu):Nat->Int->azh
 |0,_=>none
 |n+1,rq=>Pu (zL a0 U n) a0 U rq
def JQ (a0:azC) (J:azB) (a2 a3:Int):azh:=
 cond (a2==1) (cond ((J.length:Int)==0) (some 0) ((bk J (i64.wrap ((J.length:Int)-1))).bind λU=>bX λn=>zL a0 U n 0)) (cond (a2==2) ((v7 a3).bind λaK=>(iO (aK.length+1)).bind λ_=>(v7 (J.length:Int)).bind λbd=>(iO ((aK++([45]:azc)).length+bd.length)).bind λ_=>(CC ((aK++([45]:azc))++bd) 65535).bind λbo=>(A2 (a0.length:Int)).bind λ_=>some (Int.tmod bo (a0.length:Int))) (F9 a0))
def JR (a0:cM) (J:azA) (a2:azB) (a3 a4:Int):Option (Int×Int):=
 (Ju a0 J).bind λU=>cond (U !=0) (some (0,U)) ((Jv a3 a4).bind λah=>cond (!ah) (some (0,2)) ((JA a2).bind λaK=>cond (!aK) (some (0,7)) ((JN a0.cw a0.cg a0.b8 a0.cB a0.cy J).bind λbd=>cond (!bd.2) (some (0,5)) (cond ((bd.1.length:Int)==0) (some (0,3)) ((JQ bd.1 a2 a3 a4).bind λbo=>some (bo,0))))))
def ig (a0 J a2:Int):azg:=
 some ((decide (J<=a0))&&(decide (a0<=a2)))
def Pv (a0:a6):azg:=
 (ig a0.ek 0 3).bind λU=>some (!U)
def Pw (dz:Int->azh) (a0:azx) (b4:Int):azh:=
 cond (decide (b4<(a0.length:Int))) ((bk a0 b4).bind λU=>(Pv U).bind λah=>cond ah (some b4) (dz (i64.wrap (b4+1)))) (some (-1))
def F_ (a0:azx):Nat->Int->azh
 |0,_=>none
 |n+1,b4=>Pw (F_ a0 n) a0 b4
def Px (a0:azx):azh:=
 bX λn=>F_ a0 n 0
def Py (a0:azx):azg:=
 (Px a0).bind λU=>some (decide (0<=U))
def JS (a0:azx):azg:=
 (Py a0).bind λU=>some (!U)
def Pz (a0:UInt8):azg:=
 some ((decide (48<=(a0.toNat:Int)))&&(decide ((a0.toNat:Int)<=57)))
def JT (dz:Int->azg) (a0:azc) (fP:Int):azg:=
 cond (decide (fP<(a0.length:Int))) ((bk a0 fP).bind λU=>cond (!((decide (97<=(U.toNat:Int)))&&(decide ((U.toNat:Int)<=122)))) (cond (fP==0) (some false) ((Pz U).bind λah=>cond (!ah) (some false) (dz (i64.wrap (fP+1))))) (dz (i64.wrap (fP+1)))) (some ((decide (1<=(a0.length:Int)))&&(decide ((a0.length:Int)<=10))))
def x5 (a0:azc):Nat->Int->azg
 |0,_=>none
 |n+1,fP=>JT (x5 a0 n) a0 fP
def Ga (a0:azc):azg:=
 bX λn=>x5 a0 n 0
def PA (a0:a6) (J:azc):azg:=
 some (a0.Name==J)
def PB (dz:Int->azh) (a0:azx) (J:azc) (b4:Int):azh:=
 cond (decide (b4<(a0.length:Int))) ((bk a0 b4).bind λU=>(PA U J).bind λah=>cond ah (some b4) (dz (i64.wrap (b4+1)))) (some (-1))
def Gb (a0:azx) (J:azc):Nat->Int->azh
 |0,_=>none
 |n+1,b4=>PB (Gb a0 J n) a0 J b4
def PC (a0:azx) (J:azc):azh:=
 bX λn=>Gb a0 J n 0
def JU (a0:azx) (J:azc):azh:=
 (PC a0 J).bind λU=>some U
def Gc (a0:cQ) (dh:Bool):azh:=
 cond dh (some 1) (cond (a0.Kind==2) (some 2) (some 0))
def Gd (a0:cQ):azh:=
 cond (a0.Kind==1) (Gc a0 true) (cond (a0.Kind==3) (Gc a0 true) (Gc a0 (a0.Kind==4)))
def PD (dz:Int->Int->azh) (a0:a6) (gi dT:Int):azh:=
 cond (decide (0<dT)) (cond (decide ((a0.Body.length:Int)<=gi)) (some (-1)) ((bk a0.Body gi).bind λU=>(Gd U).bind λah=>dz (i64.wrap (gi+1)) (i64.wrap (dT+(i64.wrap (ah-1)))))) (some gi)
def CD (a0:a6):Nat->Int->Int->azh
 |0,_,_=>none
 |n+1,gi,dT=>PD (CD a0 n) a0 gi dT
def Ge (a0:a6) (J:Int):azh:=
 bX λn=>CD a0 n J 1
def PE (pX:Int->dB->azE->a6->Option (Int×azE)) (Cz:azE->Int->Int->Option (Int×azE)) (a3:a6) (od:Int) (ah:cQ) (aK:Int) (wk:azE) (sX uL:Int):Option (Int×azE):=
 cond (decide (uL<aK)) ((pX sX (dB.mk od (ah.Kind==1)) wk a3).bind λbd=>Cz bd.2 bd.1 (i64.wrap (uL+1))) (some (sX,wk))
def zM (pX:Int->dB->azE->a6->Option (Int×azE)) (a3:a6) (od:Int) (ah:cQ) (aK:Int):Nat->azE->Int->Int->Option (Int×azE)
 |0,_,_,_=>none
 |n+1,wk,sX,uL=>PE pX (zM pX a3 od ah aK n) a3 od ah aK wk sX uL
def JV (pX:Int->dB->azE->a6->Option (Int×azE)) (a0:Int) (J:dB) (a2:azE) (a3:a6) (ah:cQ) (od:Int):Option (Int×azE):=
 (Gd ah).bind λaK=>bX λn=>zM pX a3 od ah aK n (List.set a2 (Int.toNat a0) J) (i64.wrap (a0+1)) 0
def PF (pX:Int->dB->azE->a6->Option (Int×azE)) (a0:Int) (J:dB) (a2:azE) (a3:a6):Option (Int×azE):=
 (bk a2 a0).bind λU=>(bk a3.Body a0).bind λah=>cond (ah.Kind==4) (JV pX a0 J a2 a3 ah (i64.wrap (J.scope+1))) (JV pX a0 J a2 a3 ah J.scope)
def zN:Nat->Int->dB->azE->a6->Option (Int×azE)
 |0,_,_,_,_=>none
 |n+1,a0,J,a2,a3=>PF (zN n) a0 J a2 a3
def JW (a0:Int) (J:dB) (a2:azE) (a3:a6):Option (Int×azE):=
 bX λn=>zN n a0 J a2 a3
def CE (a0:a6):Option azE:=
 (na 16 (a0.Body.length:Int)).bind λ_=>(JW 0 (dB.mk a0.ek false) (replicate (Int.toNat (a0.Body.length:Int)) (dB.mk 0 false)) a0).bind λU=>some U.2
def PG (a0:cQ):azg:=
 (ig a0.Kind 0 5).bind λU=>some (((U&&(((a0.Kind==4)||(a0.Kind==5))||(a0.Number==0)))&&((a0.Kind==1)||(a0.Name==([]:azc))))&&((((a0.Kind==1)||(a0.Kind==3))||(a0.Kind==5))||((a0.cL.length:Int)==0)))
def rr (a0:azc):azg:=
 (Ga a0).bind λU=>some (U&&(!(a0==([116,97,117]:azc))))
def x6 (a0 J:Int):azg:=
 (ig a0 0 (i64.wrap (J-1))).bind λU=>some U
def PH (a0:cQ) (J:azx):azg:=
 cond (a0.Kind==1) (some (((a0.cL.length:Int)==0)||((!(a0.Name==([116,97,117]:azc)))&&(decide ((a0.cL.length:Int)<=2))))) (cond (a0.Kind==3) (some ((a0.cL.length:Int)==1)) (cond (a0.Kind==5) ((bk J a0.Number).bind λU=>some ((a0.cL.length:Int)==U.ek)) (some true)))
def CF (a0:Int):azg:=
 (ig a0 0 63).bind λU=>some U
def JX (a0:ca) (J:Int):azg:=
 cond (a0.Kind==0) ((CF a0.Value).bind λU=>some U) (cond (a0.Kind==1) ((ig a0.Value 0 (i64.wrap (J-1))).bind λah=>some ah) (cond (a0.Kind==2) ((ig a0.Value 0 8).bind λaK=>some aK) (cond (a0.Kind==3) (some (a0.Value==0)) (some false))))
def JY (a0:ca):azh:=
 cond (a0.Kind==2) (some 2) (cond (a0.Kind==3) (some 1) (some 0))
def PI (gW:Int->Int->azg) (a0:azv) (J jQ uM:Int):azg:=
 cond (decide (uM<(a0.length:Int))) ((bk a0 uM).bind λbd=>cond (jQ==0) (some false) ((JX bd J).bind λbo=>cond (!bo) (some false) ((JY bd).bind λb0=>gW (i64.wrap (jQ+(i64.wrap (b0-1)))) (i64.wrap (uM+1))))) (some (jQ==0))
def CG (a0:azv) (J:Int):Nat->Int->Int->azg
 |0,_,_=>none
 |n+1,jQ,uM=>PI (CG a0 J n) a0 J jQ uM
def JZ (a0:azv) (J a2:Int):azg:=
 (ig J 0 29).bind λU=>cond (!U) (some false) ((ig a2 1 60).bind λah=>cond (!ah) (some false) ((ig (a0.length:Int) 1 a2).bind λaK=>cond (!aK) (some false) (bX λn=>CG a0 J n 1 0)))
def PJ (a0:azv) (J:dB):azg:=
 (JZ a0 J.scope 15).bind λU=>some (!U)
def PK (dz:Int->azh) (a0:azm) (J:dB) (b4:Int):azh:=
 cond (decide (b4<(a0.length:Int))) ((bk a0 b4).bind λU=>(PJ U J).bind λah=>cond ah (some b4) (dz (i64.wrap (b4+1)))) (some (-1))
def Gf (a0:azm) (J:dB):Nat->Int->azh
 |0,_=>none
 |n+1,b4=>PK (Gf a0 J n) a0 J b4
def PL (a0:azm) (J:dB):azh:=
 bX λn=>Gf a0 J n 0
def J0 (a0:azm) (J:dB):azg:=
 (PL a0 J).bind λU=>some (decide (0<=U))
def zO (a0:cQ) (J:azx) (a2:dB) (Gg:Bool):azh:=
 cond Gg (some 4) ((PH a0 J).bind λah=>cond (!ah) (some 5) (cond ((a0.Kind==5)&&(!a2.behind)) (some 6) (cond ((a0.Kind==4)&&(decide (6<=a2.scope))) (some 7) ((J0 a0.cL a2).bind λaK=>cond aK (some 8) (some 0)))))
def Gh (a0:cQ) (J:azx) (a2:dB) (Gi:Bool):azh:=
 cond Gi (some 3) (cond (a0.Kind==4) ((ig a0.Number 1 7).bind λbd=>cond (!bd) (zO a0 J a2 true) (cond (a0.Kind==5) ((x6 a0.Number (J.length:Int)).bind λbo=>zO a0 J a2 (!bo)) (zO a0 J a2 false))) (cond (a0.Kind==5) ((x6 a0.Number (J.length:Int)).bind λb0=>zO a0 J a2 (!b0)) (zO a0 J a2 false)))
def Gj (a0:cQ) (J:azx) (a2:dB):azh:=
 (PG a0).bind λU=>cond (!U) (some 2) (cond (a0.Kind==1) (cond (!(a0.Name==([116,97,117]:azc))) ((rr a0.Name).bind λbr=>Gh a0 J a2 (!br)) (Gh a0 J a2 false)) (Gh a0 J a2 false))
def J1 (gW:Int->Option (Int×Int)) (a0:azx) (J:a6) (aK:azE) (qx:Int):Option (Int×Int):=
 cond (decide (qx<(J.Body.length:Int))) ((bk J.Body qx).bind λbd=>(bk aK qx).bind λbo=>(Gj bd a0 bo).bind λb0=>cond (b0 !=0) (some (qx,b0)) (gW (i64.wrap (qx+1)))) (some (0,0))
def zP (a0:azx) (J:a6) (aK:azE):Nat->Int->Option (Int×Int)
 |0,_=>none
 |n+1,qx=>J1 (zP a0 J aK n) a0 J aK qx
def Gk (a0:azx) (J:a6):Option (Int×Int):=
 (ig (J.Body.length:Int) 1 20).bind λU=>cond (!U) (some (0,1)) ((Ge J 0).bind λah=>cond (ah !=(J.Body.length:Int)) (some (0,1)) ((CE J).bind λaK=>bX λn=>zP a0 J aK n 0))
def PM (fv:Int->azg) (a0:azx) (ru:Int):azg:=
 cond (decide (ru<(a0.length:Int))) ((bk a0 ru).bind λaK=>(Ga aK.Name).bind λbd=>cond (!bd) (some false) ((gz a0 0 ru).bind λbo=>(JU bo aK.Name).bind λb0=>cond (decide (0<=b0)) (some false) ((Gk a0 aK).bind λbr=>cond (br.2 !=0) (some false) (fv (i64.wrap (ru+1)))))) (some true)
def CH (a0:azx):Nat->Int->azg
 |0,_=>none
 |n+1,ru=>PM (CH a0 n) a0 ru
def J2 (a0:azx):azg:=
 (ig (a0.length:Int) 1 4).bind λU=>cond (!U) (some false) ((JS a0).bind λah=>cond (!ah) (some false) (bX λn=>CH a0 n 0))
def J3 (a0:Int):azg:=
 (CF a0).bind λU=>some (!U)
def Gl (dz:Int->azh) (a0:aze) (b4:Int):azh:=
 cond (decide (b4<(a0.length:Int))) ((bk a0 b4).bind λU=>(J3 U).bind λah=>cond ah (some b4) (dz (i64.wrap (b4+1)))) (some (-1))
def x7 (a0:aze):Nat->Int->azh
 |0,_=>none
 |n+1,b4=>Gl (x7 a0 n) a0 b4
def J4 (a0:aze):azh:=
 bX λn=>x7 a0 n 0
def J5 (a0:aze):azg:=
 (J4 a0).bind λU=>some (decide (0<=U))
def x8 (a0:aze):azg:=
 (J5 a0).bind λU=>some (!U)
def J6 (a0:azx) (J:dx):azg:=
 (x6 J.cE (a0.length:Int)).bind λU=>cond U ((bk a0 J.cE).bind λah=>cond ((J.bV.length:Int)==ah.ek) ((x8 J.bV).bind λaK=>some aK) (some false)) (some false)
def PN (a0:dx) (J:cM):azg:=
 (J6 J.cw a0).bind λU=>some (!U)
def PO (dz:Int->azh) (a0:azy) (J:cM) (b4:Int):azh:=
 cond (decide (b4<(a0.length:Int))) ((bk a0 b4).bind λU=>(PN U J).bind λah=>cond ah (some b4) (dz (i64.wrap (b4+1)))) (some (-1))
def Gm (a0:azy) (J:cM):Nat->Int->azh
 |0,_=>none
 |n+1,b4=>PO (Gm a0 J n) a0 J b4
def PQ (a0:azy) (J:cM):azh:=
 bX λn=>Gm a0 J n 0
def J7 (a0:azy) (J:cM):azg:=
 (PQ a0 J).bind λU=>some (decide (0<=U))
def J8 (a0:azc):azg:=
 some false
def J9 (a0 J:azc):azh:=
 (J8 a0).bind λU=>(J8 J).bind λah=>cond U (cond ah (some 0) (some (-1))) (cond ah (some 1) (cond (Op.bytesLess a0 J) (some (-1)) (cond (!(Op.bytesLess a0 J||a0==J)) (some 1) (some 0))))
def XI (dz:Int->azh) (a0 J:azb) (rv:Int):azh:=
 cond (decide (rv<(a0.length:Int))) ((bk a0 rv).bind λU=>cond (decide ((J.length:Int)<=rv)) (some 1) ((bk J rv).bind λah=>(J9 U ah).bind λaK=>cond (aK !=0) (some aK) (dz (i64.wrap (rv+1))))) (cond (decide ((a0.length:Int)<(J.length:Int))) (some (-1)) (some 0))
def J_ (a0 J:azb):Nat->Int->azh
 |0,_=>none
 |n+1,rv=>XI (J_ a0 J n) a0 J rv
def Ka (a0 J:azb):azh:=
 bX λn=>J_ a0 J n 0
def Kb (a0 J:ch):azh:=
 (Ka [a0.Left,a0.cY] [J.Left,J.cY]).bind λU=>some U
def PR (a0 J:ch):azg:=
 some ((a0.Left==J.Result)||(a0.cY==J.Result))
def PS (dz:Int->azh) (a0:azz) (J:ch) (b4:Int):azh:=
 cond (decide (b4<(a0.length:Int))) ((bk a0 b4).bind λU=>(PR U J).bind λah=>cond ah (some b4) (dz (i64.wrap (b4+1)))) (some (-1))
def Gn (a0:azz) (J:ch):Nat->Int->azh
 |0,_=>none
 |n+1,b4=>PS (Gn a0 J n) a0 J b4
def PT (a0:azz) (J:ch):azh:=
 bX λn=>Gn a0 J n 0
def Gp (a0:azz) (J:ch):azg:=
 (PT a0 J).bind λU=>some (decide (0<=U))
def PU (dz:Int->azg) (a0:azz) (fP:Int):azg:=
 cond (decide (fP<(a0.length:Int))) ((bk a0 fP).bind λU=>(rr U.Left).bind λbo=>cond (!bo) (some false) ((rr U.cY).bind λb0=>cond (!b0) (some false) ((rr U.Result).bind λbr=>cond (!br) (some false) (cond (!(Op.bytesLess U.Left U.cY||U.Left==U.cY)) (some false) (cond (decide (0<fP)) ((bk a0 (i64.wrap (fP-1))).bind λcT=>(Kb cT U).bind λdj=>cond (decide (0<=dj)) (some false) ((Gp a0 U).bind λdf=>cond df (some false) (dz (i64.wrap (fP+1))))) ((Gp a0 U).bind λeA=>cond eA (some false) (dz (i64.wrap (fP+1))))))))) (some (decide ((a0.length:Int)<=6)))
def CI (a0:azz):Nat->Int->azg
 |0,_=>none
 |n+1,fP=>PU (CI a0 n) a0 fP
def Kc (a0:azz):azg:=
 bX λn=>CI a0 n 0
def PV (dz:Int->azg) (a0:azb) (fP:Int):azg:=
 cond (decide (fP<(a0.length:Int))) ((bk a0 fP).bind λU=>(rr U).bind λah=>cond (!ah) (some false) (cond (decide (0<fP)) ((bk a0 (i64.wrap (fP-1))).bind λaK=>cond (Op.bytesLess U aK||U==aK) (some false) (dz (i64.wrap (fP+1)))) (dz (i64.wrap (fP+1))))) (some (decide ((a0.length:Int)<=12)))
def CJ (a0:azb):Nat->Int->azg
 |0,_=>none
 |n+1,fP=>PV (CJ a0 n) a0 fP
def Gq (a0:azb):azg:=
 bX λn=>CJ a0 n 0
def Kd (a0:cM):azh:=
 (J2 a0.cw).bind λU=>cond (!U) (some 1) ((ig (a0.cg.length:Int) 1 3).bind λah=>cond (!ah) (some 2) ((J7 a0.cg a0).bind λaK=>cond aK (some 2) ((Kc a0.b8).bind λbd=>cond (!bd) (some 3) ((Gq a0.cB).bind λbo=>cond (!bo) (some 4) ((Gq a0.cy).bind λb0=>cond (!b0) (some 5) (some 0))))))
def Ke (a0:cM):azg:=
 (Kd a0).bind λU=>some (U==0)
def Gr (a0:azx) (J:bp):azg:=
 (x6 J.cE (a0.length:Int)).bind λU=>cond (!U) (some false) ((bk a0 J.cE).bind λah=>(x6 J.Part (ah.Body.length:Int)).bind λaK=>cond (!aK) (some false) ((bk ah.Body J.Part).bind λbd=>cond (bd.Kind !=5) ((CE ah).bind λbo=>(bk bo J.Part).bind λb0=>cond ((J.bV.length:Int)==b0.scope) ((x8 J.bV).bind λbr=>some br) (some false)) (some false)))
def PW (a0:bp) (J:cM):azg:=
 (Gr J.cw a0).bind λU=>some (!U)
def PX (dz:Int->azh) (a0:azA) (J:cM) (b4:Int):azh:=
 cond (decide (b4<(a0.length:Int))) ((bk a0 b4).bind λU=>(PW U J).bind λah=>cond ah (some b4) (dz (i64.wrap (b4+1)))) (some (-1))
def Gs (a0:azA) (J:cM):Nat->Int->azh
 |0,_=>none
 |n+1,b4=>PX (Gs a0 J n) a0 J b4
def PY (a0:azA) (J:cM):azh:=
 bX λn=>Gs a0 J n 0
def Kf (a0:azA) (J:cM):azg:=
 (PY a0 J).bind λU=>some (decide (0<=U))
def Kg (a0:cM) (J:azA):azg:=
 (Ke a0).bind λah=>cond ah (cond ((J.length:Int)==(a0.cg.length:Int)) ((Kf J a0).bind λaK=>some (!aK)) (some false)) (some false)
def Kh (a0:uj):azg:=
 (ig a0.uk 0 2).bind λU=>cond U ((ig a0.zt 0 65535).bind λah=>some ah) (some false)
def sY:azc->UInt8->Int
 |[],_=> -1
 |b::l,c=>if b==c then 0 else if sY l c== -1 then-1 else sY l c+1
def PZ (a0:azc) (J:UInt8):azh:=some (sY a0 J)
def P0 (a0:azc) (J:UInt8):azh:=
 (PZ a0 J).bind λU=>some U
def wm (a0 J:azc):azh:=
 cond (((J.length:Int)==0)||(J==a0)) (some 0) (cond ((J.length:Int)==1) ((bk J 0).bind λU=>(P0 a0 U).bind λah=>some ah) (cond (decide ((a0.length:Int)<=(J.length:Int))) (some (-1)) (none)))
def Ki (a0 J:azc):Option (azc×azc×Bool):=
 (wm a0 J).bind λU=>cond (decide (0<=U)) ((gz a0 0 U).bind λah=>(gz a0 (i64.wrap (U+(J.length:Int))) (a0.length:Int)).bind λaK=>some (ah,aK,true)) (some (a0,([]:azc),false))
def CK (a0 J:azc):Option (azc×azc×Bool):=
 (Ki a0 J).bind λU=>some (U.1,U.2.1,U.2.2)
def Kj (a0 J:azc):azg:=
 cond (decide ((J.length:Int)<=(a0.length:Int))) ((gz a0 (i64.wrap ((a0.length:Int)-(J.length:Int))) (a0.length:Int)).bind λU=>some (U==J)) (some false)
def Kk (a0 J:azc):Option azc:=
 (Kj a0 J).bind λU=>cond U ((gz a0 0 (i64.wrap ((a0.length:Int)-(J.length:Int)))).bind λah=>some ah) (some a0)
def strings_TrimSuffix (a0 J:azc):Option azc:=
 (Kk a0 J).bind λU=>some U
def P1 (a0:azc) (J:UInt8):azh:=some (a0.count J:Nat)
def Gt (a0 J:azc):azh:=
 (wm a0 J).bind λU=>some U
def aja (ajb:azc->Int->azh) (J uN:azc) (uO:Int):azh:=
 (Gt uN J).bind λaK=>cond (aK==(-1)) (some uO) ((gz uN (i64.wrap (aK+(J.length:Int))) (uN.length:Int)).bind λbd=>ajb bd (i64.wrap (uO+1)))
def P2 (J:azc):Nat->azc->Int->azh
 |0,_,_=>none
 |n+1,uN,uO=>aja (P2 J n) J uN uO
def P3 (a0 J:azc):azh:=
 cond ((J.length:Int)==0) (none) (cond ((J.length:Int)==1) ((bk J 0).bind λU=>(P1 a0 U).bind λah=>some ah) (bX λn=>P2 J n a0 0))
def Gu (a0 J:azc) (a2 jT:Int) (CL:azc) (zQ:azb) (wo:Int):Option azb:=
 (bk zQ wo).bind λU=>(gz (List.set zQ (Int.toNat wo) CL) 0 (i64.wrap (wo+1))).bind λah=>some ah
def P4 (OX:azc->azb->Int->Option azb) (a0 J:azc) (a2 jT:Int) (oO:azc) (nI:azb) (lq:Int):Option azb:=
 cond (decide (lq<(i64.wrap ((jr false jT (i64.wrap ((a0.length:Int)+1)))-1)))) ((Gt oO J).bind λaK=>cond (decide (aK<0)) (Gu a0 J a2 jT oO nI lq) ((gz oO 0 (i64.wrap (aK+a2))).bind λbd=>(bk nI lq).bind λbo=>(gz oO (i64.wrap (aK+(J.length:Int))) (oO.length:Int)).bind λb0=>OX b0 (List.set nI (Int.toNat lq) bd) (i64.wrap (lq+1)))) (Gu a0 J a2 jT oO nI lq)
def zR (a0 J:azc) (a2 jT:Int):Nat->azc->azb->Int->Option azb
 |0,_,_,_=>none
 |n+1,oO,nI,lq=>P4 (zR a0 J a2 jT n) a0 J a2 jT oO nI lq
def Kl (a0 J:azc) (a2 jT:Int):Option azb:=
 (na 16 (jr false jT (i64.wrap ((a0.length:Int)+1)))).bind λ_=>bX λn=>zR a0 J a2 jT n a0 (replicate (Int.toNat (jr false jT (i64.wrap ((a0.length:Int)+1)))) ([]:azc)) 0
def P5 (a0 J:azc) (a2 a3:Int):Option azb:=
 cond (a3==0) (some []) (cond (J==([]:azc)) (none) (cond (decide (a3<0)) ((P3 a0 J).bind λbr=>Kl a0 J a2 (i64.wrap (br+1))) (Kl a0 J a2 a3)))
def Km (a0 J:azc):Option azb:=
 (P5 a0 J 0 (-1)).bind λU=>some U
def gr (c:UInt8):Bool:=decide (48<=c.toNat)&&decide (c.toNat<=57)
def kt (d:azc):Nat:=d.foldl (λn c=>10*n+(c.toNat-48)) 0
def oP (k:Nat) (d:azc):Int×Bool:=if d≠[]/\d.length<=18/\d.all gr=true/\¬(d.head? =some 48/\1<d.length+k)then(if k=1 then-(kt d:Int)else kt d,true)else(0,false)
def iX (s:azc):Int×Bool:=if s.head? =some 45 then oP 1 s.tail else oP 0 s
def Kn (a0:azc):Option (Int×Bool):=some (iX a0)
def P6 (fA:aze->Int->Option (aze×Bool)) (a0:azb) (bB:aze) (ry:Int):Option (aze×Bool):=
 cond (decide (ry<(a0.length:Int))) ((bk a0 ry).bind λU=>(Kn U).bind λah=>cond (!ah.2) (some ([],false)) ((room 8 (bB.length+1)).bind λ_=>fA (bB++[ah.1]) (i64.wrap (ry+1)))) (some (bB,true))
def CM (a0:azb):Nat->aze->Int->Option (aze×Bool)
 |0,_,_=>none
 |n+1,bB,ry=>P6 (CM a0 n) a0 bB ry
def Ko (a0:azb):Option (aze×Bool):=
 bX λn=>CM a0 n [] 0
def nt (n:Nat):azc:=if h:n<10 then [UInt8.ofNat (48+n)]else nt (n/10)++[UInt8.ofNat (48+n%10)]
 termination_by n
 decreasing_by omega
def uP (n:Int):azc:=if n<0 then 45::nt n.natAbs else nt n.toNat
def zS (a0 J:Int):Option azc:=if-9223372036854775808<=a0/\a0<=9223372036854775807/\J=10 then some (uP a0)else none
def oQ (a0:Int):Option azc:=
 (zS a0 10).bind λU=>some U
def strings_Join (a0:azb) (J:azc):Option azc:=if a0.length<=140737488355328/\(hG a0 J).length<=140737488355328 then some (hG a0 J)else none
def P7 (fA:azb->Int->Option azc) (a0:aze) (J:azc) (fz:azb) (oe:Int):Option azc:=
 cond (decide (oe<(a0.length:Int))) ((bk a0 oe).bind λU=>(oQ U).bind λah=>(bk fz oe).bind λaK=>fA (List.set fz (Int.toNat oe) ah) (i64.wrap (oe+1))) ((strings_Join fz J).bind λbd=>some bd)
def CN (a0:aze) (J:azc):Nat->azb->Int->Option azc
 |0,_,_=>none
 |n+1,fz,oe=>P7 (CN a0 J n) a0 J fz oe
def zT (a0:aze) (J:azc):Option azc:=
 (na 16 (a0.length:Int)).bind λ_=>bX λn=>CN a0 J n (replicate (Int.toNat (a0.length:Int)) ([]:azc)) 0
def wq (a0:azc) (J:aze):Option (azc×Bool):=
 cond (a0==([116,97,117]:azc)) (some (([116,97,117]:azc),((J.length:Int)==0))) ((rr a0).bind λah=>cond (!ah) (some (([]:azc),false)) (cond (decide (2<(J.length:Int))) (some (([]:azc),false)) ((x8 J).bind λaK=>cond (!aK) (some (([]:azc),false)) (cond ((J.length:Int)==0) (some (a0,true)) ((iO (a0.length+1)).bind λ_=>(zT J ([44]:azc)).bind λbd=>(iO ((a0++([40]:azc)).length+bd.length)).bind λ_=>(iO (((a0++([40]:azc))++bd).length+1)).bind λ_=>some ((((a0++([40]:azc))++bd)++([41]:azc)),true))))))
def zU (a0:azc) (U:azc×azc×Bool) (uQ:aze):Option (azc×aze×Bool):=
 (wq U.1 uQ).bind λah=>cond ((!ah.2)||(!(ah.1==a0))) (some (([]:azc),[],false)) (some (U.1,uQ,true))
def uR (a0:azc):Option (azc×aze×Bool):=
 (CK a0 ([40]:azc)).bind λU=>cond U.2.2 ((strings_TrimSuffix U.2.1 ([41]:azc)).bind λaK=>(Km aK ([44]:azc)).bind λbd=>(Ko bd).bind λbo=>cond (!bo.2) (some (([]:azc),[],false)) (zU a0 U bo.1)) (zU a0 U [])
def zV (a0:azc):azg:=
 (uR a0).bind λU=>some U.2.2
def Kp (a0:fu):azg:=
 (ig a0.Choice 0 199).bind λU=>cond U ((ig a0.fa 0 2).bind λah=>cond ah ((ig a0.Second (-1) 2).bind λaK=>cond aK ((zV a0.Label).bind λbd=>some bd) (some false)) (some false)) (some false)
def P8 (a0:fu):azg:=
 (Kp a0).bind λU=>some (!U)
def P9 (dz:Int->azh) (a0:azB) (b4:Int):azh:=
 cond (decide (b4<(a0.length:Int))) ((bk a0 b4).bind λU=>(P8 U).bind λah=>cond ah (some b4) (dz (i64.wrap (b4+1)))) (some (-1))
def CO (a0:azB):Nat->Int->azh
 |0,_=>none
 |n+1,b4=>P9 (CO a0 n) a0 b4
def P_ (a0:azB):azh:=
 bX λn=>CO a0 n 0
def Qa (a0:azB):azg:=
 (P_ a0).bind λU=>some (decide (0<=U))
def Kq (a0:azB):azg:=
 cond (decide ((a0.length:Int)<=60)) ((Qa a0).bind λU=>some (!U)) (some false)
def Qb (uS:azv->Option (ca×(List dq)×azv)) (kh:(List dq)->azv->Int->Option (ca×(List dq)×azv)) (U:ca) (aK:Int) (hZ:List dq) (j9:azv) (sZ:Int):Option (ca×(List dq)×azv):=
 cond (decide (sZ<aK)) ((uS j9).bind λbd=>(room 8 (hZ.length+1)).bind λ_=>kh (hZ++[(dq.mk bd.1 bd.2.1)]) bd.2.2 (i64.wrap (sZ+1))) (some (U,hZ,j9))
def zW (uS:azv->Option (ca×(List dq)×azv)) (U:ca) (aK:Int):Nat->(List dq)->azv->Int->Option (ca×(List dq)×azv)
 |0,_,_,_=>none
 |n+1,hZ,j9,sZ=>Qb uS (zW uS U aK n) U aK hZ j9 sZ
def Qc (uS:azv->Option (ca×(List dq)×azv)) (a0:azv):Option (ca×(List dq)×azv):=
 (bk a0 0).bind λU=>(gz a0 1 (a0.length:Int)).bind λah=>(JY U).bind λaK=>bX λn=>zW uS U aK n [] ah 0
def CP:Nat->azv->Option (ca×(List dq)×azv)
 |0,_=>none
 |n+1,a0=>Qc (CP n) a0
def Qd (a0:azv):Option (ca×(List dq)×azv):=
 bX λn=>CP n a0
def Kr (a0:azv):Option (ca×(List dq)):=
 (Qd a0).bind λU=>some (U.1,U.2.1)
def rz (a0:Bool):azh:=
 cond a0 (some 1) (some 0)
def Ks (a0 J a2:Int):azh:=
 cond (a0==0) (some (Int.tmod (i64.wrap (J+a2)) 64)) (cond (a0==1) (some (Int.tmod (i64.wrap ((i64.wrap (J-a2))+64)) 64)) (cond (a0==2) (some (Int.tmod (i64.wrap (J*a2)) 64)) (cond (a0==3) ((rz (J==a2)).bind λU=>some U) (cond (a0==4) ((rz (J !=a2)).bind λah=>some ah) (cond (a0==5) ((rz (decide (J<a2))).bind λaK=>some aK) (cond (a0==6) ((rz (decide (J<=a2))).bind λbd=>some bd) (cond (a0==7) (cond (J !=0) ((rz (a2 !=0)).bind λbo=>some bo) ((rz false).bind λb0=>some b0)) (cond (J !=0) ((rz true).bind λbr=>some br) ((rz (a2 !=0)).bind λcT=>some cT)))))))))
def Qe (CQ:dq->aze->azh) (a0:dq) (J:aze):azh:=
 cond (a0.term.Kind==0) (some a0.term.Value) (cond (a0.term.Kind==1) ((bk J a0.term.Value).bind λU=>some U) (cond (a0.term.Kind==3) ((bk a0.args 0).bind λah=>(CQ ah J).bind λaK=>(rz (aK==0)).bind λbd=>some bd) ((bk a0.args 0).bind λbo=>(CQ bo J).bind λb0=>(bk a0.args 1).bind λbr=>(CQ br J).bind λcT=>(Ks a0.term.Value b0 cT).bind λdj=>some dj)))
def zX:Nat->dq->aze->azh
 |0,_,_=>none
 |n+1,a0,J=>Qe (zX n) a0 J
def Qf (a0:dq) (J:aze):azh:=
 bX λn=>zX n a0 J
def CR (a0:azv) (J:aze):azh:=
 (Kr a0).bind λU=>(Qf (dq.mk U.1 U.2) J).bind λah=>some ah
def Qg (fA:aze->Int->Option aze) (a0:azm) (J fz:aze) (rA:Int):Option aze:=
 cond (decide (rA<(a0.length:Int))) ((bk a0 rA).bind λU=>(CR U J).bind λah=>(room 8 (fz.length+1)).bind λ_=>fA (fz++[ah]) (i64.wrap (rA+1))) (some fz)
def CS (a0:azm) (J:aze):Nat->aze->Int->Option aze
 |0,_,_=>none
 |n+1,fz,rA=>Qg (CS a0 J n) a0 J fz rA
def Gv (a0:azm) (J:aze):Option aze:=
 bX λn=>CS a0 J n [] 0
def CT (a0:aze):Option aze:=
 cond a0.isEmpty (both (some []) ((room 8 (a0.length)).bind λ_=>some a0)) ((room 8 (a0.length)).bind λ_=>some a0)
def Qh (a0:Int):azg:=
 (ig a0 (-1000000000000) 1000000000000).bind λU=>some (!U)
def Qi (dz:Int->azh) (a0:aze) (b4:Int):azh:=
 cond (decide (b4<(a0.length:Int))) ((bk a0 b4).bind λU=>(Qh U).bind λah=>cond ah (some b4) (dz (i64.wrap (b4+1)))) (some (-1))
def CU (a0:aze):Nat->Int->azh
 |0,_=>none
 |n+1,b4=>Qi (CU a0 n) a0 b4
def Qj (a0:aze):azh:=
 bX λn=>CU a0 n 0
def Qk (a0:aze):azg:=
 (Qj a0).bind λU=>some (decide (0<=U))
def Kt (a0:aze):azg:=
 cond (decide ((a0.length:Int)<=64)) ((Qk a0).bind λU=>some (!U)) (some false)
def Gw (a0:aze):Option azc:=
 (Kt a0).bind λU=>cond (!U) (some ([]:azc)) (cond ((a0.length:Int)==0) (some ([45]:azc)) ((zT a0 ([44]:azc)).bind λah=>some ah))
def Ku (a0:bp):Option azc:=
 (oQ a0.Part).bind λU=>(iO (U.length+1)).bind λ_=>(Gw a0.bV).bind λah=>(iO ((U++([58]:azc)).length+ah.length)).bind λ_=>some ((U++([58]:azc))++ah)
def zY (a0:bp):Option azc:=
 (oQ a0.cE).bind λU=>(iO (U.length+1)).bind λ_=>(Ku a0).bind λah=>(iO ((U++([58]:azc)).length+ah.length)).bind λ_=>some ((U++([58]:azc))++ah)
def Kv (bu:azx) (bz:azD) (bx:aza) (iz:azc) (ku pY:Int) (uT:aze):Option (azx×azD×aza):=
 (iO (iz.length+1)).bind λ_=>(zY (bp.mk ku pY uT)).bind λU=>(iO ((iz++([32]:azc)).length+U.length)).bind λ_=>cond (!(j0 ((iz++([32]:azc))++U) bx)) ((room 56 (bz.length+1)).bind λ_=>some (bu,(bz++[(bb.mk iz (bp.mk ku pY uT))]),(kb ((iz++([32]:azc))++U) true bx))) (some (bu,bz,bx))
def Kw (og:azx->azD->aza->Int->Int->aze->Option (azx×azD×aza)) (bu:azx) (bz:azD) (bx:aza) (bd:azc×Bool) (CV CW:Int) (CX:aze):Option (azx×azD×aza):=
 (Kv bu bz bx bd.1 CV CW CX).bind λb0=>some (b0.1,b0.2.1,b0.2.2)
def Ql (og:azx->azD->aza->Int->Int->aze->Option (azx×azD×aza)) (ajc:azx->azD->aza->Int->Option (azx×azD×aza)) (J a2:Int) (a3:aze) (ah:cQ) (wt:azx) (wu:azD) (wv:aza) (k6:Int):Option (azx×azD×aza):=
 cond (decide (k6<(i64.wrap (ah.Number+1)))) ((CT a3).bind λgT=>(room 8 (gT.length+1)).bind λ_=>(og wt wu wv J (i64.wrap (a2+1)) (gT++[k6])).bind λic=>ajc ic.1 ic.2.1 ic.2.2 (i64.wrap (k6+1))) (some (wt,wu,wv))
def CY (og:azx->azD->aza->Int->Int->aze->Option (azx×azD×aza)) (J a2:Int) (a3:aze) (ah:cQ):Nat->azx->azD->aza->Int->Option (azx×azD×aza)
 |0,_,_,_,_=>none
 |n+1,wt,wu,wv,k6=>Ql og (CY og J a2 a3 ah n) J a2 a3 ah wt wu wv k6
def x9 (og:azx->azD->aza->Int->Int->aze->Option (azx×azD×aza)) (bu:azx) (bz:azD) (bx:aza) (J a2:Int) (a3:aze):Option (azx×azD×aza):=
 (bk bu J).bind λU=>(bk U.Body a2).bind λah=>cond (ah.Kind==1) ((Gv ah.cL a3).bind λaK=>(wq ah.Name aK).bind λbd=>(CT a3).bind λbo=>(bk U.Body (i64.wrap (a2+1))).bind λbr=>cond (br.Kind==5) ((Gv br.cL a3).bind λcT=>Kw og bu bz bx bd br.Number 0 cT) (Kw og bu bz bx bd J (i64.wrap (a2+1)) bo)) (cond (ah.Kind==2) ((og bu bz bx J (i64.wrap (a2+1)) a3).bind λdj=>(Ge U (i64.wrap (a2+1))).bind λdf=>(og dj.1 dj.2.1 dj.2.2 J df a3).bind λeA=>some (eA.1,eA.2.1,eA.2.2)) (cond (ah.Kind==3) ((bk ah.cL 0).bind λkq=>(CR kq a3).bind λlM=>cond (lM !=0) ((og bu bz bx J (i64.wrap (a2+1)) a3).bind λjj=>some (jj.1,jj.2.1,jj.2.2)) (some (bu,bz,bx))) (cond (ah.Kind==4) (bX λn=>CY og J a2 a3 ah n bu bz bx 0) (some (bu,bz,bx)))))
def rB:Nat->azx->azD->aza->Int->Int->aze->Option (azx×azD×aza)
 |0,_,_,_,_,_,_=>none
 |n+1,bu,bz,bx,J,a2,a3=>x9 (rB n) bu bz bx J a2 a3
def Kx (bu:azx) (bz:azD) (bx:aza) (J a2:Int) (a3:aze):Option (azx×azD×aza):=
 bX λn=>rB n bu bz bx J a2 a3
def uU (a0:azx) (J:bp):Option (azD×Bool):=
 (Kx a0 [] [] J.cE J.Part J.bV).bind λU=>some (U.2.1,(decide ((U.2.1.length:Int)<=200)))
def Qm (dz:Int->azh) (a0:azb) (J:azc) (b4:Int):azh:=
 cond (decide (b4<(a0.length:Int))) ((bk a0 b4).bind λU=>cond (J==U) (some b4) (dz (i64.wrap (b4+1)))) (some (-1))
def zZ (a0:azb) (J:azc):Nat->Int->azh
 |0,_=>none
 |n+1,b4=>Qm (zZ a0 J n) a0 J b4
def Qn (a0:azb) (J:azc):azh:=
 bX λn=>zZ a0 J n 0
def CZ (a0:azb) (J:azc):azg:=
 (Qn a0 J).bind λU=>some (decide (0<=U))
def z1 (a0:bp):Option bp:=
 (CT a0.bV).bind λU=>some (bp.mk a0.cE a0.Part U)
def Qo (fA:azA->Int->Option azA) (a0 bP:azA) (k7:Int):Option azA:=
 cond (decide (k7<(a0.length:Int))) ((bk a0 k7).bind λU=>(z1 U).bind λah=>(room 40 (bP.length+1)).bind λ_=>fA (bP++[ah]) (i64.wrap (k7+1))) (some bP)
def C0 (a0:azA):Nat->azA->Int->Option azA
 |0,_,_=>none
 |n+1,bP,k7=>Qo (C0 a0 n) a0 bP k7
def Ky (a0:azA):Option azA:=
 bX λn=>C0 a0 n [] 0
def Qp (fA:azb->Int->Option azc) (a0:azA) (bP:azb) (k7:Int):Option azc:=
 cond (decide (k7<(a0.length:Int))) ((bk a0 k7).bind λU=>(zY U).bind λah=>(room 16 (bP.length+1)).bind λ_=>fA (bP++[ah]) (i64.wrap (k7+1))) ((strings_Join bP ([32]:azc)).bind λaK=>some aK)
def C1 (a0:azA):Nat->azb->Int->Option azc
 |0,_,_=>none
 |n+1,bP,k7=>Qp (C1 a0 n) a0 bP k7
def Kz (a0:azA):Option azc:=
 bX λn=>C1 a0 n [] 0
def C2 (a3 a4:Int) (bu:azx) (bz:azy) (bx:azz) (bQ bR:azb) (gu:azA) (gJ:azC) (gv:aza) (ij:azc) (mU:azA):Option (azx×azy×azz×azb×azb×azA×azC×aza):=
 (iO (ij.length+1)).bind λ_=>(oQ a3).bind λmS=>(iO ((ij++([32]:azc)).length+mS.length)).bind λ_=>(iO (((ij++([32]:azc))++mS).length+1)).bind λ_=>(oQ a4).bind λmT=>(iO ((((ij++([32]:azc))++mS)++([32]:azc)).length+mT.length)).bind λ_=>(iO (((((ij++([32]:azc))++mS)++([32]:azc))++mT).length+1)).bind λ_=>(Kz mU).bind λoM=>(iO ((((((ij++([32]:azc))++mS)++([32]:azc))++mT)++([32]:azc)).length+oM.length)).bind λ_=>cond (!(j0 ((((((ij++([32]:azc))++mS)++([32]:azc))++mT)++([32]:azc))++oM) gv)) ((room 56 (gJ.length+1)).bind λ_=>some (bu,bz,bx,bQ,bR,gu,(gJ++[(bf.mk ij a3 a4 mU)]),(kb ((((((ij++([32]:azc))++mS)++([32]:azc))++mT)++([32]:azc))++oM) true gv))) (some (bu,bz,bx,bQ,bR,gu,gJ,gv))
def qy (a3 a4:Int) (a5:azA) (bu:azx) (bz:azy) (bx:azz) (bQ bR:azb) (gu:azA) (gJ:azC) (gv:aza) (s0:azc) (s3:aze):Option (azx×azy×azz×azb×azb×azA×azC×aza):=
 (wq s0 s3).bind λjj=>(Ky gu).bind λgT=>(bk a5 0).bind λic=>(z1 ic).bind λk5=>(bk gT a3).bind λwb=>cond (decide (0<=a4)) ((bk a5 1).bind λnH=>(z1 nH).bind λns=>(bk (List.set gT (Int.toNat a3) k5) a4).bind λF6=>C2 a3 a4 bu bz bx bQ bR gu gJ gv jj.1 (List.set (List.set gT (Int.toNat a3) k5) (Int.toNat a4) ns)) (C2 a3 a4 bu bz bx bQ bR gu gJ gv jj.1 (List.set gT (Int.toNat a3) k5))
def C3 (bu:azx) (bz:azy) (bx:azz) (bQ bR:azb) (gu:azA) (gJ:azC) (gv:aza) (J:azc) (a2:aze) (a3 a4:Int) (a5:azA):Option (azx×azy×azz×azb×azb×azA×azC×aza):=
 cond (!(J==([116,97,117]:azc))) ((CZ bQ J).bind λU=>cond (!U) (some (bu,bz,bx,bQ,bR,gu,gJ,gv)) ((CZ bR J).bind λlM=>cond lM (qy a3 a4 a5 bu bz bx bQ bR gu gJ gv ([116,97,117]:azc) []) (qy a3 a4 a5 bu bz bx bQ bR gu gJ gv J a2))) ((CZ bR J).bind λwc=>cond wc (qy a3 a4 a5 bu bz bx bQ bR gu gJ gv ([116,97,117]:azc) []) (qy a3 a4 a5 bu bz bx bQ bR gu gJ gv J a2))
def XJ (a0:ch) (J a2:azc):azg:=
 some ((a0.Left==(hO false J a2))&&(a0.cY==(hO true J a2)))
def Qq (dz:Int->azh) (a0:azz) (iz ku:azc) (b4:Int):azh:=
 cond (decide (b4<(a0.length:Int))) ((bk a0 b4).bind λU=>(XJ U iz ku).bind λah=>cond ah (some b4) (dz (i64.wrap (b4+1)))) (some (-1))
def C4 (a0:azz) (iz ku:azc):Nat->Int->azh
 |0,_=>none
 |n+1,b4=>Qq (C4 a0 iz ku n) a0 iz ku b4
def Qr (a0:azz) (iz ku:azc):azh:=
 bX λn=>C4 a0 iz ku n 0
def z6 (a0:cM) (J a2:azc):Option (azc×Bool):=
 (Qr a0.b8 J a2).bind λU=>cond (decide (U<0)) (some (([]:azc),false)) ((bk a0.b8 U).bind λah=>some (ah.Result,true))
def Qs (fv:Int->azg) (a0 J:aze) (s4:Int):azg:=
 cond (decide (s4<(a0.length:Int))) ((bk a0 s4).bind λU=>(bk J s4).bind λah=>cond (U !=ah) (some false) (fv (i64.wrap (s4+1)))) (some true)
def C5 (a0 J:aze):Nat->Int->azg
 |0,_=>none
 |n+1,s4=>Qs (C5 a0 J n) a0 J s4
def Gx (a0 J:aze):azg:=
 cond ((a0.length:Int) !=(J.length:Int)) (some false) (bX λn=>C5 a0 J n 0)
def Gy (dM:azx->azy->azz->azb->azb->azA->azC->aza->Int->Option (azx×azy×azz×azb×azb×azA×azC×aza)) (Gz:azx->azy->azz->azb->azb->azA->azC->aza->Int->Int->Option (azx×azy×azz×azb×azb×azA×azC×aza)) (J a2:Int) (a3 a4:azD) (U:bb) (ah:azc×aze×Bool) (C6:azx) (C7:azy) (C8:azz) (C9 C_:azb) (Da:azA) (Db:azC) (Dc:aza) (Dd De:Int):Option (azx×azy×azz×azb×azb×azA×azC×aza):=
 Gz C6 C7 C8 C9 C_ Da Db Dc Dd (i64.wrap (De+1))
def Qt (dM:azx->azy->azz->azb->azb->azA->azC->aza->Int->Option (azx×azy×azz×azb×azb×azA×azC×aza)) (Gz:azx->azy->azz->azb->azb->azA->azC->aza->Int->Int->Option (azx×azy×azz×azb×azb×azA×azC×aza)) (J a2:Int) (a3 a4:azD) (U:bb) (ah:azc×aze×Bool) (oh:azx) (oi:azy) (oj:azz) (om oo:azb) (pr:azA) (pt:azC) (pv:aza) (oR oS:Int):Option (azx×azy×azz×azb×azb×azA×azC×aza):=
 cond (decide (oS<(a4.length:Int))) ((bk a4 oS).bind λaK=>(uR aK.Label).bind λbd=>(z6 (cM.mk oh oi oj om oo) ah.1 bd.1).bind λbo=>cond bo.2 ((Gx ah.2.1 bd.2.1).bind λb0=>cond b0 ((C3 oh oi oj om oo pr pt pv bo.1 ah.2.1 J a2 [U.Next,aK.Next]).bind λbr=>Gy dM Gz J a2 a3 a4 U ah br.1 br.2.1 br.2.2.1 br.2.2.2.1 br.2.2.2.2.1 br.2.2.2.2.2.1 br.2.2.2.2.2.2.1 br.2.2.2.2.2.2.2 oR oS) (Gy dM Gz J a2 a3 a4 U ah oh oi oj om oo pr pt pv oR oS)) (Gy dM Gz J a2 a3 a4 U ah oh oi oj om oo pr pt pv oR oS)) (dM oh oi oj om oo pr pt pv (i64.wrap (oR+1)))
def wx (dM:azx->azy->azz->azb->azb->azA->azC->aza->Int->Option (azx×azy×azz×azb×azb×azA×azC×aza)) (J a2:Int) (a3 a4:azD) (U:bb) (ah:azc×aze×Bool):Nat->azx->azy->azz->azb->azb->azA->azC->aza->Int->Int->Option (azx×azy×azz×azb×azb×azA×azC×aza)
 |0,_,_,_,_,_,_,_,_,_,_=>none
 |n+1,oh,oi,oj,om,oo,pr,pt,pv,oR,oS=>Qt dM (wx dM J a2 a3 a4 U ah n) J a2 a3 a4 U ah oh oi oj om oo pr pt pv oR oS
def Qu (dM:azx->azy->azz->azb->azb->azA->azC->aza->Int->Option (azx×azy×azz×azb×azb×azA×azC×aza)) (J a2:Int) (a3 a4:azD) (uV:azx) (uW:azy) (uX:azz) (uY uZ:azb) (u0:azA) (u1:azC) (u2:aza) (s5:Int):Option (azx×azy×azz×azb×azb×azA×azC×aza):=
 cond (decide (s5<(a3.length:Int))) ((bk a3 s5).bind λU=>(uR U.Label).bind λah=>bX λn=>wx dM J a2 a3 a4 U ah n uV uW uX uY uZ u0 u1 u2 s5 0) (some (uV,uW,uX,uY,uZ,u0,u1,u2))
def s6 (J a2:Int) (a3 a4:azD):Nat->azx->azy->azz->azb->azb->azA->azC->aza->Int->Option (azx×azy×azz×azb×azb×azA×azC×aza)
 |0,_,_,_,_,_,_,_,_,_=>none
 |n+1,uV,uW,uX,uY,uZ,u0,u1,u2,s5=>Qu (s6 J a2 a3 a4 n) J a2 a3 a4 uV uW uX uY uZ u0 u1 u2 s5
def Qv (bu:azx) (bz:azy) (bx:azz) (bQ bR:azb) (gu:azA) (gJ:azC) (gv:aza) (J a2:Int) (a3 a4:azD):Option (azx×azy×azz×azb×azb×azA×azC×aza):=
 bX λn=>s6 J a2 a3 a4 n bu bz bx bQ bR gu gJ gv 0
def Qw (kh:cM->azA->azC->aza->azn->Int->Option (azC×Bool)) (ajd:cM->azA->azC->aza->azn->Int->Int->Int->Option (azC×Bool)) (a0:cM) (J:azA) (ah:azD×Bool) (ks:cM) (rC:azA) (rD:azC) (rE:aza) (qz:azn) (pZ qA qB:Int):Option (azC×Bool):=
 cond (decide (qB<(ah.1.length:Int))) ((bk ah.1 qB).bind λaK=>(uR aK.Label).bind λbd=>(C3 ks.cw ks.cg ks.b8 ks.cB ks.cy rC rD rE bd.1 bd.2.1 pZ (-1) [aK.Next]).bind λbo=>ajd (cM.mk bo.1 bo.2.1 bo.2.2.1 bo.2.2.2.1 bo.2.2.2.2.1) bo.2.2.2.2.2.1 bo.2.2.2.2.2.2.1 bo.2.2.2.2.2.2.2 qz pZ qA (i64.wrap (qB+1))) (kh ks rC rD rE qz (i64.wrap (qA+1)))
def x_ (kh:cM->azA->azC->aza->azn->Int->Option (azC×Bool)) (a0:cM) (J:azA) (ah:azD×Bool):Nat->cM->azA->azC->aza->azn->Int->Int->Int->Option (azC×Bool)
 |0,_,_,_,_,_,_,_,_=>none
 |n+1,ks,rC,rD,rE,qz,pZ,qA,qB=>Qw kh (x_ kh a0 J ah n) a0 J ah ks rC rD rE qz pZ qA qB
def Qx (qt:cM->azA->azC->aza->azn->Int->Option (azC×Bool)) (aje:cM->azA->azC->aza->azn->Int->Int->Int->Option (azC×Bool)) (J:azA) (nJ:cM) (u3:azA) (u4:azC) (u5:aza) (qC:azn) (qD p0 s7:Int):Option (azC×Bool):=
 cond (decide (p0<(J.length:Int))) ((bk qC qD).bind λb0=>(bk qC p0).bind λbr=>(Qv nJ.cw nJ.cg nJ.b8 nJ.cB nJ.cy u3 u4 u5 qD p0 b0 br).bind λcT=>aje (cM.mk cT.1 cT.2.1 cT.2.2.1 cT.2.2.2.1 cT.2.2.2.2.1) cT.2.2.2.2.2.1 cT.2.2.2.2.2.2.1 cT.2.2.2.2.2.2.2 qC qD (i64.wrap (p0+1)) s7) (qt nJ u3 u4 u5 qC (i64.wrap (s7+1)))
def z7 (qt:cM->azA->azC->aza->azn->Int->Option (azC×Bool)) (J:azA):Nat->cM->azA->azC->aza->azn->Int->Int->Int->Option (azC×Bool)
 |0,_,_,_,_,_,_,_,_=>none
 |n+1,nJ,u3,u4,u5,qC,qD,p0,s7=>Qx qt (z7 qt J n) J nJ u3 u4 u5 qC qD p0 s7
def Qy (qt:cM->azA->azC->aza->azn->Int->Option (azC×Bool)) (J:azA) (ya:cM) (yb:azA) (rF:azC) (yc:aza) (yd:azn) (qE:Int):Option (azC×Bool):=
 cond (decide (qE<(J.length:Int))) (bX λn=>z7 qt J n ya yb rF yc yd qE (i64.wrap (qE+1)) qE) (some (rF,(decide ((rF.length:Int)<=200))))
def wy (J:azA):Nat->cM->azA->azC->aza->azn->Int->Option (azC×Bool)
 |0,_,_,_,_,_,_=>none
 |n+1,ya,yb,rF,yc,yd,qE=>Qy (wy J n) J ya yb rF yc yd qE
def GA (kh:cM->azA->azC->aza->azn->Int->Option (azC×Bool)) (a0:cM) (J:azA) (lp:cM) (qF:azA) (qG:azC) (qH:aza) (gf:azn) (nK:Int):Option (azC×Bool):=
 cond (decide (nK<(J.length:Int))) ((bk J nK).bind λU=>(uU a0.cw U).bind λah=>cond (!ah.2) (some ([],false)) ((room 24 (gf.length+1)).bind λ_=>bX λn=>x_ kh a0 J ah n lp qF qG qH (gf++[ah.1]) nK nK 0)) (bX λn=>wy J n lp qF qG qH gf 0)
def p1 (a0:cM) (J:azA):Nat->cM->azA->azC->aza->azn->Int->Option (azC×Bool)
 |0,_,_,_,_,_,_=>none
 |n+1,lp,qF,qG,qH,gf,nK=>GA (p1 a0 J n) a0 J lp qF qG qH gf nK
def KA (a0:cM) (J:azA):Option (azC×Bool):=
 bX λn=>p1 a0 J n a0 J [] [] [] 0
def KB (gW:Int->Int->azh) (KC:Int->Int->Int->azh) (a0:azc) (Df Dg Dh:Int):azh:=
 KC Df Dg (i64.wrap (Dh+1))
def XK (gW:Int->Int->azh) (KC:Int->Int->Int->azh) (a0:azc) (qI rG s8:Int):azh:=
 cond (decide (s8<8)) (cond (decide (65535<(i64.wrap (qI*2)))) (KB gW KC a0 (bitsOf .xor .i64 (bitsOf .and .i64 (i64.wrap (qI*2)) 65535) 4129) rG s8) (KB gW KC a0 (i64.wrap (qI*2)) rG s8)) (gW qI (i64.wrap (rG+1)))
def Di (gW:Int->Int->azh) (a0:azc):Nat->Int->Int->Int->azh
 |0,_,_,_=>none
 |n+1,qI,rG,s8=>XK gW (Di gW a0 n) a0 qI rG s8
def XL (gW:Int->Int->azh) (a0:azc) (dh u6:Int):azh:=
 cond (decide (u6<(a0.length:Int))) ((bk a0 u6).bind λah=>bX λn=>Di gW a0 n (bitsOf .xor .i64 dh (i64.wrap ((ah.toNat:Int)*256))) u6 0) (some dh)
def wz (a0:azc):Nat->Int->Int->azh
 |0,_,_=>none
 |n+1,dh,u6=>XL (wz a0 n) a0 dh u6
def GB (a0:azc) (J:Int):azh:=
 (ig J 0 65535).bind λU=>cond (!U) (some 0) (bX λn=>wz a0 n J 0)
def Qz (a0:azB):Option fu:=
 (bk a0 (i64.wrap ((a0.length:Int)-1))).bind λU=>some U
def QA (a0:bf) (J:azB):azg:=
 (Qz J).bind λU=>some (decide (U.fa<a0.fa))
def QB (dz:Int->azh) (a0:azC) (J:azB) (b4:Int):azh:=
 cond (decide (b4<(a0.length:Int))) ((bk a0 b4).bind λU=>(QA U J).bind λah=>cond ah (some b4) (dz (i64.wrap (b4+1)))) (some (-1))
def Dj (a0:azC) (J:azB):Nat->Int->azh
 |0,_=>none
 |n+1,b4=>QB (Dj a0 J n) a0 J b4
def KD (a0:azC) (J:azB):azh:=
 bX λn=>Dj a0 J n 0
def KE (a0:uj) (J:azC) (a2:azB):azh:=
 cond (a0.uk==2) ((oQ a0.zt).bind λU=>(iO (U.length+1)).bind λ_=>(oQ (a2.length:Int)).bind λah=>(iO ((U++([45]:azc)).length+ah.length)).bind λ_=>(GB ((U++([45]:azc))++ah) 65535).bind λaK=>(A2 (J.length:Int)).bind λ_=>some (Int.tmod aK (J.length:Int))) (cond ((a0.uk==1)&&(decide (0<(a2.length:Int)))) ((KD J a2).bind λbd=>some (jr true bd 0)) (some 0))
def KF (a0:cM) (J:azA) (a2:azB) (a3 a4:Int):Option (Int×Int):=
 (Kg a0 J).bind λU=>cond (!U) (some (0,1)) ((Kh (uj.mk a3 a4)).bind λah=>cond (!ah) (some (0,2)) ((Kq a2).bind λaK=>cond (!aK) (some (0,7)) ((KA a0 J).bind λbd=>cond (!bd.2) (some (0,5)) (cond ((bd.1.length:Int)==0) (some (0,3)) ((KE (uj.mk a3 a4) bd.1 a2).bind λbo=>some (bo,0))))))
def GC (a0 J:ca):azg:=
 cond (a0.Kind !=J.Kind) (some false) (cond (a0.Value !=J.Value) (some false) (some true))
def ajf (fv:Int->azg) (a0 J:azv) (b7:Int):azg:=
 cond (decide (b7<(a0.length:Int))) ((bk a0 b7).bind λU=>(bk J b7).bind λah=>(GC U ah).bind λaK=>cond (!aK) (some false) (fv (i64.wrap (b7+1)))) (some true)
def QC (a0 J:azv):Nat->Int->azg
 |0,_=>none
 |n+1,b7=>ajf (QC a0 J n) a0 J b7
def GD (a0 J:azv):azg:=
 cond ((a0.length:Int) !=(J.length:Int)) (some false) (bX λn=>QC a0 J n 0)
def ajg (fv:Int->azg) (a0 J:azm) (b7:Int):azg:=
 cond (decide (b7<(a0.length:Int))) ((bk a0 b7).bind λU=>(bk J b7).bind λah=>(GD U ah).bind λaK=>cond (!aK) (some false) (fv (i64.wrap (b7+1)))) (some true)
def QD (a0 J:azm):Nat->Int->azg
 |0,_=>none
 |n+1,b7=>ajg (QD a0 J n) a0 J b7
def KG (a0 J:azm):azg:=
 cond ((a0.length:Int) !=(J.length:Int)) (some false) (bX λn=>QD a0 J n 0)
def GF (a0 J:cQ):azg:=
 cond (a0.Kind !=J.Kind) (some false) (cond (a0.Number !=J.Number) (some false) (cond (!(a0.Name==J.Name)) (some false) ((KG a0.cL J.cL).bind λU=>cond (!U) (some false) (some true))))
def ajh (fv:Int->azg) (a0 J:azw) (b7:Int):azg:=
 cond (decide (b7<(a0.length:Int))) ((bk a0 b7).bind λU=>(bk J b7).bind λah=>(GF U ah).bind λaK=>cond (!aK) (some false) (fv (i64.wrap (b7+1)))) (some true)
def QE (a0 J:azw):Nat->Int->azg
 |0,_=>none
 |n+1,b7=>ajh (QE a0 J n) a0 J b7
def KH (a0 J:azw):azg:=
 cond ((a0.length:Int) !=(J.length:Int)) (some false) (bX λn=>QE a0 J n 0)
def GG (a0 J:a6):azg:=
 cond (!(a0.Name==J.Name)) (some false) (cond (a0.ek !=J.ek) (some false) ((KH a0.Body J.Body).bind λU=>cond (!U) (some false) (some true)))
def aji (fv:Int->azg) (a0 J:azx) (b7:Int):azg:=
 cond (decide (b7<(a0.length:Int))) ((bk a0 b7).bind λU=>(bk J b7).bind λah=>(GG U ah).bind λaK=>cond (!aK) (some false) (fv (i64.wrap (b7+1)))) (some true)
def QF (a0 J:azx):Nat->Int->azg
 |0,_=>none
 |n+1,b7=>aji (QF a0 J n) a0 J b7
def KI (a0 J:azx):azg:=
 cond ((a0.length:Int) !=(J.length:Int)) (some false) (bX λn=>QF a0 J n 0)
def ajj (fv:Int->azg) (a0 J:aze) (b7:Int):azg:=
 cond (decide (b7<(a0.length:Int))) ((bk a0 b7).bind λU=>(bk J b7).bind λah=>cond (U !=ah) (some false) (fv (i64.wrap (b7+1)))) (some true)
def QG (a0 J:aze):Nat->Int->azg
 |0,_=>none
 |n+1,b7=>ajj (QG a0 J n) a0 J b7
def GH (a0 J:aze):azg:=
 cond ((a0.length:Int) !=(J.length:Int)) (some false) (bX λn=>QG a0 J n 0)
def GI (a0 J:dx):azg:=
 cond (a0.cE !=J.cE) (some false) ((GH a0.bV J.bV).bind λU=>cond (!U) (some false) (some true))
def ajk (fv:Int->azg) (a0 J:azy) (b7:Int):azg:=
 cond (decide (b7<(a0.length:Int))) ((bk a0 b7).bind λU=>(bk J b7).bind λah=>(GI U ah).bind λaK=>cond (!aK) (some false) (fv (i64.wrap (b7+1)))) (some true)
def QH (a0 J:azy):Nat->Int->azg
 |0,_=>none
 |n+1,b7=>ajk (QH a0 J n) a0 J b7
def KJ (a0 J:azy):azg:=
 cond ((a0.length:Int) !=(J.length:Int)) (some false) (bX λn=>QH a0 J n 0)
def GJ (a0 J:ch):azg:=
 cond (!(a0.Left==J.Left)) (some false) (cond (!(a0.cY==J.cY)) (some false) (cond (!(a0.Result==J.Result)) (some false) (some true)))
def ajl (fv:Int->azg) (a0 J:azz) (b7:Int):azg:=
 cond (decide (b7<(a0.length:Int))) ((bk a0 b7).bind λU=>(bk J b7).bind λah=>(GJ U ah).bind λaK=>cond (!aK) (some false) (fv (i64.wrap (b7+1)))) (some true)
def QI (a0 J:azz):Nat->Int->azg
 |0,_=>none
 |n+1,b7=>ajl (QI a0 J n) a0 J b7
def KK (a0 J:azz):azg:=
 cond ((a0.length:Int) !=(J.length:Int)) (some false) (bX λn=>QI a0 J n 0)
def ajm (fv:Int->azg) (a0 J:azb) (b7:Int):azg:=
 cond (decide (b7<(a0.length:Int))) ((bk a0 b7).bind λU=>(bk J b7).bind λah=>cond (!(U==ah)) (some false) (fv (i64.wrap (b7+1)))) (some true)
def QJ (a0 J:azb):Nat->Int->azg
 |0,_=>none
 |n+1,b7=>ajm (QJ a0 J n) a0 J b7
def GK (a0 J:azb):azg:=
 cond ((a0.length:Int) !=(J.length:Int)) (some false) (bX λn=>QJ a0 J n 0)
def GL (a0 J:cM):azg:=
 (KI a0.cw J.cw).bind λU=>cond (!U) (some false) ((KJ a0.cg J.cg).bind λah=>cond (!ah) (some false) ((KK a0.b8 J.b8).bind λaK=>cond (!aK) (some false) ((GK a0.cB J.cB).bind λbd=>cond (!bd) (some false) ((GK a0.cy J.cy).bind λbo=>cond (!bo) (some false) (some true)))))
def GM (a0 J:bp):azg:=
 cond (a0.cE !=J.cE) (some false) (cond (a0.Part !=J.Part) (some false) ((GH a0.bV J.bV).bind λU=>cond (!U) (some false) (some true)))
def ajn (fv:Int->azg) (a0 J:azA) (b7:Int):azg:=
 cond (decide (b7<(a0.length:Int))) ((bk a0 b7).bind λU=>(bk J b7).bind λah=>(GM U ah).bind λaK=>cond (!aK) (some false) (fv (i64.wrap (b7+1)))) (some true)
def QK (a0 J:azA):Nat->Int->azg
 |0,_=>none
 |n+1,b7=>ajn (QK a0 J n) a0 J b7
def KL (a0 J:azA):azg:=
 cond ((a0.length:Int) !=(J.length:Int)) (some false) (bX λn=>QK a0 J n 0)
def GN (a0 J:fu):azg:=
 cond (a0.Choice !=J.Choice) (some false) (cond (a0.fa !=J.fa) (some false) (cond (a0.Second !=J.Second) (some false) (cond (!(a0.Label==J.Label)) (some false) (some true))))
def ajo (fv:Int->azg) (a0 J:azB) (b7:Int):azg:=
 cond (decide (b7<(a0.length:Int))) ((bk a0 b7).bind λU=>(bk J b7).bind λah=>(GN U ah).bind λaK=>cond (!aK) (some false) (fv (i64.wrap (b7+1)))) (some true)
def QL (a0 J:azB):Nat->Int->azg
 |0,_=>none
 |n+1,b7=>ajo (QL a0 J n) a0 J b7
def KM (a0 J:azB):azg:=
 cond ((a0.length:Int) !=(J.length:Int)) (some false) (bX λn=>QL a0 J n 0)
def QM (a0:oK) (J:azt) (a2:azu) (a3 a4:Int):azg:=
 (Fx a0 1048576).bind λU=>cond (decide (U<0)) (some true) ((Ja J U).bind λah=>cond (decide (ah<0)) (some true) ((Jb a2 ah).bind λaK=>cond (decide (aK<0)) (some true) ((zu a0).bind λbd=>(BN J).bind λbo=>(BO a2).bind λb0=>(JR bd bo b0 a3 a4).bind λbr=>(zu a0).bind λcT=>(BN J).bind λdj=>(BO a2).bind λdf=>(KF cT dj df a3 a4).bind λeA=>cond ((eA.1 !=br.1)||(eA.2 !=br.2)) (some false) ((zu a0).bind λkq=>(GL cT kq).bind λlM=>cond (!lM) (some false) ((BN J).bind λjj=>(KL dj jj).bind λgT=>cond (!gT) (some false) ((BO a2).bind λic=>(KM df ic).bind λk5=>cond (!k5) (some false) (some true)))))))
end
end Go.l_
