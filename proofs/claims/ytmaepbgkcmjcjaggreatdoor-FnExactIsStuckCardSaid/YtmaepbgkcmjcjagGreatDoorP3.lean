/- Part of a proof that a law returns true for every input. No condition. -/
import Derived.Test.YtmaepbgkcmjcjagGreatDoorFwA
namespace Go.lZ
open List Option Go.IntKind Nat
open Go Go.ef
set_option linter.unusedVariables false
noncomputable section
structure ja where
 Kind:Int
 Value:Int
def A8 (x:ja):Prop:=(-9223372036854775808<=x.Kind/\x.Kind<=9223372036854775807)/\(-9223372036854775808<=x.Value/\x.Value<=9223372036854775807)
structure k7 where
 Kind:Int
 Number:Int
 Name:axa
 cO:List (List ja)
def Ev (x:k7):Prop:=(-9223372036854775808<=x.Kind/\x.Kind<=9223372036854775807)/\(-9223372036854775808<=x.Number/\x.Number<=9223372036854775807)/\x.Name.length<=9223372036854775807/\(x.cO.length<=9223372036854775807/\∀y∈x.cO,(y.length<=9223372036854775807/\∀z∈y,A8 z))
structure k8 where
 Name:axa
 ej:Int
 Body:List k7
def Ew (x:k8):Prop:=x.Name.length<=9223372036854775807/\(-9223372036854775808<=x.ej/\x.ej<=9223372036854775807)/\(x.Body.length<=9223372036854775807/\∀y∈x.Body,Ev y)
structure k9 where
 cD:Int
 bV:axc
def Ex (x:k9):Prop:=(-9223372036854775808<=x.cD/\x.cD<=9223372036854775807)/\(x.bV.length<=9223372036854775807/\∀y∈x.bV,(-9223372036854775808<=y/\y<=9223372036854775807))
structure kQ where
 Left:axa
 cQ:axa
 Result:axa
def Ey (x:kQ):Prop:=x.Left.length<=9223372036854775807/\x.cQ.length<=9223372036854775807/\x.Result.length<=9223372036854775807
structure oy where
 cq:List k8
 b_:List k9
 b2:List kQ
 cw:awZ
 ct:awZ
def Ez (x:oy):Prop:=(x.cq.length<=9223372036854775807/\∀y∈x.cq,Ew y)/\(x.b_.length<=9223372036854775807/\∀y∈x.b_,Ex y)/\(x.b2.length<=9223372036854775807/\∀y∈x.b2,Ey y)/\(x.cw.length<=9223372036854775807/\∀y∈x.cw,y.length<=9223372036854775807)/\(x.ct.length<=9223372036854775807/\∀y∈x.ct,y.length<=9223372036854775807)
structure k_ where
 cD:Int
 Part:Int
 bV:axc
def A9 (x:k_):Prop:=(-9223372036854775808<=x.cD/\x.cD<=9223372036854775807)/\(-9223372036854775808<=x.Part/\x.Part<=9223372036854775807)/\(x.bV.length<=9223372036854775807/\∀y∈x.bV,(-9223372036854775808<=y/\y<=9223372036854775807))
structure bZ where
 Kind:Int
 Value:Int
def ag8 (x:bZ):Prop:=(-9223372036854775808<=x.Kind/\x.Kind<=9223372036854775807)/\(-9223372036854775808<=x.Value/\x.Value<=9223372036854775807)
structure cG where
 Kind:Int
 Number:Int
 Name:axa
 cO:List (List bZ)
def ag9 (x:cG):Prop:=(-9223372036854775808<=x.Kind/\x.Kind<=9223372036854775807)/\(-9223372036854775808<=x.Number/\x.Number<=9223372036854775807)/\x.Name.length<=9223372036854775807/\(x.cO.length<=9223372036854775807/\∀y∈x.cO,(y.length<=9223372036854775807/\∀z∈y,ag8 z))
structure a6 where
 Name:axa
 ej:Int
 Body:List cG
def ag_ (x:a6):Prop:=x.Name.length<=9223372036854775807/\(-9223372036854775808<=x.ej/\x.ej<=9223372036854775807)/\(x.Body.length<=9223372036854775807/\∀y∈x.Body,ag9 y)
structure di where
 cD:Int
 bV:axc
def aha (x:di):Prop:=(-9223372036854775808<=x.cD/\x.cD<=9223372036854775807)/\(x.bV.length<=9223372036854775807/\∀y∈x.bV,(-9223372036854775808<=y/\y<=9223372036854775807))
structure b5 where
 Left:axa
 cQ:axa
 Result:axa
def ahb (x:b5):Prop:=x.Left.length<=9223372036854775807/\x.cQ.length<=9223372036854775807/\x.Result.length<=9223372036854775807
structure cJ where
 cq:List a6
 b_:List di
 b2:List b5
 cw:awZ
 ct:awZ
def auL (x:cJ):Prop:=(x.cq.length<=9223372036854775807/\∀y∈x.cq,ag_ y)/\(x.b_.length<=9223372036854775807/\∀y∈x.b_,aha y)/\(x.b2.length<=9223372036854775807/\∀y∈x.b2,ahb y)/\(x.cw.length<=9223372036854775807/\∀y∈x.cw,y.length<=9223372036854775807)/\(x.ct.length<=9223372036854775807/\∀y∈x.ct,y.length<=9223372036854775807)
structure bd where
 cD:Int
 Part:Int
 bV:axc
def Wg (x:bd):Prop:=(-9223372036854775808<=x.cD/\x.cD<=9223372036854775807)/\(-9223372036854775808<=x.Part/\x.Part<=9223372036854775807)/\(x.bV.length<=9223372036854775807/\∀y∈x.bV,(-9223372036854775808<=y/\y<=9223372036854775807))
structure bh where
 Label:axa
 nC:Int
 Second:Int
 State:List bd
def auM (x:bh):Prop:=x.Label.length<=9223372036854775807/\(-9223372036854775808<=x.nC/\x.nC<=9223372036854775807)/\(-9223372036854775808<=x.Second/\x.Second<=9223372036854775807)/\(x.State.length<=9223372036854775807/\∀y∈x.State,Wg y)
structure a7 where
 Label:axa
 Next:bd
def auN (x:a7):Prop:=x.Label.length<=9223372036854775807/\Wg x.Next
structure du where
 scope:Int
 behind:Bool
abbrev axm:=List ja
abbrev axn:=List k7
abbrev axo:=List k8
abbrev axp:=List k9
abbrev axq:=List kQ
abbrev axr:=List k_
abbrev axs:=List bZ
abbrev axt:=List cG
abbrev axu:=List a6
abbrev axv:=List di
abbrev axw:=List b5
abbrev axx:=List bd
abbrev axy:=List bh
abbrev axz:=List a7
abbrev axA:=List du
abbrev axj:=List (List ja)
abbrev axk:=List (List bZ)
abbrev axl:=List (List a7)
def auO (x:du):Prop:=(-9223372036854775808<=x.scope/\x.scope<=9223372036854775807)/\True
inductive dj where
 |mk (term:bZ) (args:List dj)
def dj.term:dj->bZ
 | .mk a _=>a
def dj.args:dj->List dj
 | .mk _ a=>a
def EA (a0:axm) (J:Int):axf:=
 cond (decide ((i64.wrap (J-(a0.length:Int)))<0)) (some (-1)) (some (i64.wrap (J-(a0.length:Int))))
def ahc (jb:Int->Int->axf) (a0:axj) (ep:Int) (dW:Int):axf:=
 cond (decide (dW<(a0.length:Int))) ((bm a0 dW).bind λU=>(EA U ep).bind λaf=>cond (decide (af<0)) (some (-1)) (jb af (i64.wrap (dW+1)))) (some ep)
def Nw (a0:axj):Nat->Int->Int->axf
 |0,_,_=>none
 |n+1,ep,dW=>ahc (Nw a0 n) a0 ep dW
def Ie (a0:axj) (J:Int):axf:=
 cond (decide ((i64.wrap (J-(a0.length:Int)))<0)) (some (-1)) (b6 λn=>Nw a0 n (i64.wrap (J-(a0.length:Int))) 0)
def EB (a0:k7) (J:Int):axf:=
 cond (decide ((i64.wrap (J-(a0.Name.length:Int)))<0)) (some (-1)) ((Ie a0.cO (i64.wrap (J-(a0.Name.length:Int)))).bind λU=>cond (decide (U<0)) (some (-1)) (some U))
def ahd (jb:Int->Int->axf) (a0:axn) (ep:Int) (dW:Int):axf:=
 cond (decide (dW<(a0.length:Int))) ((bm a0 dW).bind λU=>(EB U ep).bind λaf=>cond (decide (af<0)) (some (-1)) (jb af (i64.wrap (dW+1)))) (some ep)
def Nx (a0:axn):Nat->Int->Int->axf
 |0,_,_=>none
 |n+1,ep,dW=>ahd (Nx a0 n) a0 ep dW
def Ig (a0:axn) (J:Int):axf:=
 cond (decide ((i64.wrap (J-(a0.length:Int)))<0)) (some (-1)) (b6 λn=>Nx a0 n (i64.wrap (J-(a0.length:Int))) 0)
def EC (a0:k8) (J:Int):axf:=
 cond (decide ((i64.wrap (J-(a0.Name.length:Int)))<0)) (some (-1)) ((Ig a0.Body (i64.wrap (J-(a0.Name.length:Int)))).bind λU=>cond (decide (U<0)) (some (-1)) (some U))
def ahe (jb:Int->Int->axf) (a0:axo) (ep:Int) (dW:Int):axf:=
 cond (decide (dW<(a0.length:Int))) ((bm a0 dW).bind λU=>(EC U ep).bind λaf=>cond (decide (af<0)) (some (-1)) (jb af (i64.wrap (dW+1)))) (some ep)
def Ny (a0:axo):Nat->Int->Int->axf
 |0,_,_=>none
 |n+1,ep,dW=>ahe (Ny a0 n) a0 ep dW
def Ih (a0:axo) (J:Int):axf:=
 cond (decide ((i64.wrap (J-(a0.length:Int)))<0)) (some (-1)) (b6 λn=>Ny a0 n (i64.wrap (J-(a0.length:Int))) 0)
def ED (a0:axc) (J:Int):axf:=
 cond (decide ((i64.wrap (J-(a0.length:Int)))<0)) (some (-1)) (some (i64.wrap (J-(a0.length:Int))))
def EE (a0:k9) (J:Int):axf:=
 (ED a0.bV J).bind λU=>cond (decide (U<0)) (some (-1)) (some U)
def ahf (jb:Int->Int->axf) (a0:axp) (ep:Int) (dW:Int):axf:=
 cond (decide (dW<(a0.length:Int))) ((bm a0 dW).bind λU=>(EE U ep).bind λaf=>cond (decide (af<0)) (some (-1)) (jb af (i64.wrap (dW+1)))) (some ep)
def Nz (a0:axp):Nat->Int->Int->axf
 |0,_,_=>none
 |n+1,ep,dW=>ahf (Nz a0 n) a0 ep dW
def Ii (a0:axp) (J:Int):axf:=
 cond (decide ((i64.wrap (J-(a0.length:Int)))<0)) (some (-1)) (b6 λn=>Nz a0 n (i64.wrap (J-(a0.length:Int))) 0)
def EF (a0:kQ) (J:Int):axf:=
 cond (decide ((i64.wrap (J-(a0.Left.length:Int)))<0)) (some (-1)) (cond (decide ((i64.wrap ((i64.wrap (J-(a0.Left.length:Int)))-(a0.cQ.length:Int)))<0)) (some (-1)) (cond (decide ((i64.wrap ((i64.wrap ((i64.wrap (J-(a0.Left.length:Int)))-(a0.cQ.length:Int)))-(a0.Result.length:Int)))<0)) (some (-1)) (some (i64.wrap ((i64.wrap ((i64.wrap (J-(a0.Left.length:Int)))-(a0.cQ.length:Int)))-(a0.Result.length:Int))))))
def ahg (jb:Int->Int->axf) (a0:axq) (ep:Int) (dW:Int):axf:=
 cond (decide (dW<(a0.length:Int))) ((bm a0 dW).bind λU=>(EF U ep).bind λaf=>cond (decide (af<0)) (some (-1)) (jb af (i64.wrap (dW+1)))) (some ep)
def NA (a0:axq):Nat->Int->Int->axf
 |0,_,_=>none
 |n+1,ep,dW=>ahg (NA a0 n) a0 ep dW
def Ij (a0:axq) (J:Int):axf:=
 cond (decide ((i64.wrap (J-(a0.length:Int)))<0)) (some (-1)) (b6 λn=>NA a0 n (i64.wrap (J-(a0.length:Int))) 0)
def ahh (jb:Int->Int->axf) (a0:awZ) (ep:Int) (dW:Int):axf:=
 cond (decide (dW<(a0.length:Int))) ((bm a0 dW).bind λU=>cond (decide ((i64.wrap (ep-(U.length:Int)))<0)) (some (-1)) (jb (i64.wrap (ep-(U.length:Int))) (i64.wrap (dW+1)))) (some ep)
def NB (a0:awZ):Nat->Int->Int->axf
 |0,_,_=>none
 |n+1,ep,dW=>ahh (NB a0 n) a0 ep dW
def EG (a0:awZ) (J:Int):axf:=
 cond (decide ((i64.wrap (J-(a0.length:Int)))<0)) (some (-1)) (b6 λn=>NB a0 n (i64.wrap (J-(a0.length:Int))) 0)
def EH (a0:oy) (J:Int):axf:=
 (Ih a0.cq J).bind λU=>cond (decide (U<0)) (some (-1)) ((Ii a0.b_ U).bind λaf=>cond (decide (af<0)) (some (-1)) ((Ij a0.b2 af).bind λaK=>cond (decide (aK<0)) (some (-1)) ((EG a0.cw aK).bind λa_=>cond (decide (a_<0)) (some (-1)) ((EG a0.ct a_).bind λbo=>cond (decide (bo<0)) (some (-1)) (some bo)))))
def EI (a0:k_) (J:Int):axf:=
 (ED a0.bV J).bind λU=>cond (decide (U<0)) (some (-1)) (some U)
def ahi (jb:Int->Int->axf) (a0:axr) (ep:Int) (dW:Int):axf:=
 cond (decide (dW<(a0.length:Int))) ((bm a0 dW).bind λU=>(EI U ep).bind λaf=>cond (decide (af<0)) (some (-1)) (jb af (i64.wrap (dW+1)))) (some ep)
def NC (a0:axr):Nat->Int->Int->axf
 |0,_,_=>none
 |n+1,ep,dW=>ahi (NC a0 n) a0 ep dW
def Ik (a0:axr) (J:Int):axf:=
 cond (decide ((i64.wrap (J-(a0.length:Int)))<0)) (some (-1)) (b6 λn=>NC a0 n (i64.wrap (J-(a0.length:Int))) 0)
def EJ (a0:ja):Option bZ:=
 some (bZ.mk a0.Kind a0.Value)
def ahj (fB:axs->Int->Option axs) (a0:axm) (bT:axs) (bJ:Int):Option axs:=
 cond (decide (bJ<(a0.length:Int))) ((bm a0 bJ).bind λU=>(EJ U).bind λaf=>(bm bT bJ).bind λaK=>fB (List.set bT (Int.toNat bJ) af) (i64.wrap (bJ+1))) (some bT)
def ND (a0:axm):Nat->axs->Int->Option axs
 |0,_,_=>none
 |n+1,bT,bJ=>ahj (ND a0 n) a0 bT bJ
def EK (a0:axm):Option axs:=
 (nr 16 (a0.length:Int)).bind λ_=>b6 λn=>ND a0 n (replicate (Int.toNat (a0.length:Int)) (bZ.mk 0 0)) 0
def ahk (fB:axk->Int->Option axk) (a0:axj) (bT:axk) (bJ:Int):Option axk:=
 cond (decide (bJ<(a0.length:Int))) ((bm a0 bJ).bind λU=>(EK U).bind λaf=>(bm bT bJ).bind λaK=>fB (List.set bT (Int.toNat bJ) af) (i64.wrap (bJ+1))) (some bT)
def NF (a0:axj):Nat->axk->Int->Option axk
 |0,_,_=>none
 |n+1,bT,bJ=>ahk (NF a0 n) a0 bT bJ
def Il (a0:axj):Option axk:=
 (nr 24 (a0.length:Int)).bind λ_=>b6 λn=>NF a0 n (replicate (Int.toNat (a0.length:Int)) []) 0
def EL (a0:k7):Option cG:=
 (Il a0.cO).bind λU=>some (cG.mk a0.Kind a0.Number a0.Name U)
def ahl (fB:axt->Int->Option axt) (a0:axn) (bT:axt) (bJ:Int):Option axt:=
 cond (decide (bJ<(a0.length:Int))) ((bm a0 bJ).bind λU=>(EL U).bind λaf=>(bm bT bJ).bind λaK=>fB (List.set bT (Int.toNat bJ) af) (i64.wrap (bJ+1))) (some bT)
def NG (a0:axn):Nat->axt->Int->Option axt
 |0,_,_=>none
 |n+1,bT,bJ=>ahl (NG a0 n) a0 bT bJ
def Im (a0:axn):Option axt:=
 (nr 56 (a0.length:Int)).bind λ_=>b6 λn=>NG a0 n (replicate (Int.toNat (a0.length:Int)) (cG.mk 0 0 ([]:axa) [])) 0
def EM (a0:k8):Option a6:=
 (Im a0.Body).bind λU=>some (a6.mk a0.Name a0.ej U)
def ahm (fB:axu->Int->Option axu) (a0:axo) (bT:axu) (bJ:Int):Option axu:=
 cond (decide (bJ<(a0.length:Int))) ((bm a0 bJ).bind λU=>(EM U).bind λaf=>(bm bT bJ).bind λaK=>fB (List.set bT (Int.toNat bJ) af) (i64.wrap (bJ+1))) (some bT)
def NH (a0:axo):Nat->axu->Int->Option axu
 |0,_,_=>none
 |n+1,bT,bJ=>ahm (NH a0 n) a0 bT bJ
def Io (a0:axo):Option axu:=
 (nr 48 (a0.length:Int)).bind λ_=>b6 λn=>NH a0 n (replicate (Int.toNat (a0.length:Int)) (a6.mk ([]:axa) 0 [])) 0
def ahn (fB:axc->Int->Option axc) (a0:axc) (bT:axc) (bJ:Int):Option axc:=
 cond (decide (bJ<(a0.length:Int))) ((bm a0 bJ).bind λU=>(bm bT bJ).bind λaf=>fB (List.set bT (Int.toNat bJ) U) (i64.wrap (bJ+1))) (some bT)
def NI (a0:axc):Nat->axc->Int->Option axc
 |0,_,_=>none
 |n+1,bT,bJ=>ahn (NI a0 n) a0 bT bJ
def EN (a0:axc):Option axc:=
 (nr 8 (a0.length:Int)).bind λ_=>b6 λn=>NI a0 n (replicate (Int.toNat (a0.length:Int)) 0) 0
def EO (a0:k9):Option di:=
 (EN a0.bV).bind λU=>some (di.mk a0.cD U)
def aho (fB:axv->Int->Option axv) (a0:axp) (bT:axv) (bJ:Int):Option axv:=
 cond (decide (bJ<(a0.length:Int))) ((bm a0 bJ).bind λU=>(EO U).bind λaf=>(bm bT bJ).bind λaK=>fB (List.set bT (Int.toNat bJ) af) (i64.wrap (bJ+1))) (some bT)
def NJ (a0:axp):Nat->axv->Int->Option axv
 |0,_,_=>none
 |n+1,bT,bJ=>aho (NJ a0 n) a0 bT bJ
def Ip (a0:axp):Option axv:=
 (nr 32 (a0.length:Int)).bind λ_=>b6 λn=>NJ a0 n (replicate (Int.toNat (a0.length:Int)) (di.mk 0 [])) 0
def EP (a0:kQ):Option b5:=
 some (b5.mk a0.Left a0.cQ a0.Result)
def ahp (fB:axw->Int->Option axw) (a0:axq) (bT:axw) (bJ:Int):Option axw:=
 cond (decide (bJ<(a0.length:Int))) ((bm a0 bJ).bind λU=>(EP U).bind λaf=>(bm bT bJ).bind λaK=>fB (List.set bT (Int.toNat bJ) af) (i64.wrap (bJ+1))) (some bT)
def NK (a0:axq):Nat->axw->Int->Option axw
 |0,_,_=>none
 |n+1,bT,bJ=>ahp (NK a0 n) a0 bT bJ
def Iq (a0:axq):Option axw:=
 (nr 48 (a0.length:Int)).bind λ_=>b6 λn=>NK a0 n (replicate (Int.toNat (a0.length:Int)) (b5.mk ([]:axa) ([]:axa) ([]:axa))) 0
def ahq (fB:awZ->Int->Option awZ) (a0:awZ) (bT:awZ) (bJ:Int):Option awZ:=
 cond (decide (bJ<(a0.length:Int))) ((bm a0 bJ).bind λU=>(bm bT bJ).bind λaf=>fB (List.set bT (Int.toNat bJ) U) (i64.wrap (bJ+1))) (some bT)
def NL (a0:awZ):Nat->awZ->Int->Option awZ
 |0,_,_=>none
 |n+1,bT,bJ=>ahq (NL a0 n) a0 bT bJ
def ER (a0:awZ):Option awZ:=
 (nr 16 (a0.length:Int)).bind λ_=>b6 λn=>NL a0 n (replicate (Int.toNat (a0.length:Int)) ([]:axa)) 0
def yV (a0:oy):Option cJ:=
 (Io a0.cq).bind λU=>(Ip a0.b_).bind λaf=>(Iq a0.b2).bind λaK=>(ER a0.cw).bind λa_=>(ER a0.ct).bind λbo=>some (cJ.mk U af aK a_ bo)
def ES (a0:k_):Option bd:=
 (EN a0.bV).bind λU=>some (bd.mk a0.cD a0.Part U)
def ahr (fB:axx->Int->Option axx) (a0:axr) (bT:axx) (bJ:Int):Option axx:=
 cond (decide (bJ<(a0.length:Int))) ((bm a0 bJ).bind λU=>(ES U).bind λaf=>(bm bT bJ).bind λaK=>fB (List.set bT (Int.toNat bJ) af) (i64.wrap (bJ+1))) (some bT)
def NM (a0:axr):Nat->axx->Int->Option axx
 |0,_,_=>none
 |n+1,bT,bJ=>ahr (NM a0 n) a0 bT bJ
def A_ (a0:axr):Option axx:=
 (nr 40 (a0.length:Int)).bind λ_=>b6 λn=>NM a0 n (replicate (Int.toNat (a0.length:Int)) (bd.mk 0 0 [])) 0
def ET (a0:UInt8):axe:=
 some ((decide (97<=(a0.toNat:Int)))&&(decide ((a0.toNat:Int)<=122)))
def Ba (a0:UInt8):axe:=
 some ((decide (48<=(a0.toNat:Int)))&&(decide ((a0.toNat:Int)<=57)))
def NN (fC:Int->axe) (a0:axa) (eU:Int):axe:=
 cond (decide (eU<(a0.length:Int))) ((bm a0 eU).bind λaK=>(ET aK).bind λa_=>cond (!a_) ((Ba aK).bind λbo=>cond (!bo) (some false) (fC (i64.wrap (eU+1)))) (fC (i64.wrap (eU+1)))) (some true)
def EU (a0:axa):Nat->Int->axe
 |0,_=>none
 |n+1,eU=>NN (EU a0 n) a0 eU
def xg (a0:axa):axe:=
 cond (a0==([]:axa)) (some false) (cond (decide (10<(a0.length:Int))) (some false) ((bm a0 0).bind λU=>(ET U).bind λaf=>cond (!af) (some false) (b6 λn=>EU a0 n 0)))
def l0 (a0:Int) (J:Int) (a2:Int):axe:=
 some ((decide (J<=a0))&&(decide (a0<=a2)))
def EV (a0:cG) (jA:Bool):axf:=
 cond jA (some 1) (cond (a0.Kind==2) (some 2) (some 0))
def EW (a0:cG):axf:=
 cond (a0.Kind==1) (EV a0 true) (cond (a0.Kind==3) (EV a0 true) (EV a0 (a0.Kind==4)))
def NO (jb:Int->Int->axe) (a0:axt) (gT:Int) (hn:Int):axe:=
 cond (decide (hn<(a0.length:Int))) (cond (gT==0) (some false) ((bm a0 hn).bind λU=>(EW U).bind λaf=>jb (i64.wrap (gT+(i64.wrap (af-1)))) (i64.wrap (hn+1)))) (some (gT==0))
def Bb (a0:axt):Nat->Int->Int->axe
 |0,_,_=>none
 |n+1,gT,hn=>NO (Bb a0 n) a0 gT hn
def Ir (a0:axt):axe:=
 cond (((a0.length:Int)==0)||(decide (20<(a0.length:Int)))) (some false) (b6 λn=>Bb a0 n 1 0)
def Is (a0:cG) (EX:Bool):axe:=
 cond EX (some (((a0.Number==0)&&(a0.Name==([]:axa)))&&((a0.cO.length:Int)==0))) (cond (a0.Kind==1) (some (a0.Number==0)) (cond (a0.Kind==3) (some ((a0.Number==0)&&(a0.Name==([]:axa)))) (cond (a0.Kind==4) (some ((a0.Name==([]:axa))&&((a0.cO.length:Int)==0))) (cond (a0.Kind==5) (some (a0.Name==([]:axa))) (some false)))))
def NP (a0:cG):axe:=
 cond (a0.Kind==0) (Is a0 true) (Is a0 (a0.Kind==2))
def NQ (eg:Int->Int->axf) (a0:axt) (hU:Int) (eD:Int):axf:=
 cond (decide (0<eD)) ((bm a0 hU).bind λU=>(EW U).bind λaf=>eg (i64.wrap (hU+1)) (i64.wrap (eD+(i64.wrap (af-1))))) (some hU)
def Bc (a0:axt):Nat->Int->Int->axf
 |0,_,_=>none
 |n+1,hU,eD=>NQ (Bc a0 n) a0 hU eD
def EY (a0:axt) (J:Int):axf:=
 b6 λn=>Bc a0 n J 1
def EZ (fB:Int->Int->axf) (a0:a6) (J:Int) (Bd:Int) (Be:Int):axf:=
 fB Bd (i64.wrap (Be+1))
def NR (fB:Int->Int->axf) (a0:a6) (J:Int) (fs:Int) (jB:Int):axf:=
 cond (decide (jB<J)) ((bm a0.Body jB).bind λU=>cond (U.Kind==4) ((EY a0.Body jB).bind λaf=>cond (decide (J<af)) (EZ fB a0 J (i64.wrap (fs+1)) jB) (EZ fB a0 J fs jB)) (EZ fB a0 J fs jB)) (some fs)
def yW (a0:a6) (J:Int):Nat->Int->Int->axf
 |0,_,_=>none
 |n+1,fs,jB=>NR (yW a0 J n) a0 J fs jB
def vg (a0:a6) (J:Int):axf:=
 b6 λn=>yW a0 J n a0.ej 0
def It (a0:bZ) (J:Int):axe:=
 cond (a0.Kind==0) ((l0 a0.Value 0 63).bind λU=>some U) (cond (a0.Kind==1) ((l0 a0.Value 0 (i64.wrap (J-1))).bind λaf=>some af) (cond (a0.Kind==2) ((l0 a0.Value 0 8).bind λaK=>some aK) (cond (a0.Kind==3) (some (a0.Value==0)) (some false))))
def Iu (a0:bZ):axf:=
 cond (a0.Kind==2) (some 2) (cond (a0.Kind==3) (some 1) (some 0))
def NS (jb:Int->Int->axe) (a0:axs) (J:Int) (jA:Int) (tL:Int):axe:=
 cond (decide (tL<(a0.length:Int))) (cond (jA==0) (some false) ((bm a0 tL).bind λU=>(It U J).bind λaf=>cond (!af) (some false) ((Iu U).bind λaK=>jb (i64.wrap (jA+(i64.wrap (aK-1)))) (i64.wrap (tL+1))))) (some (jA==0))
def Bf (a0:axs) (J:Int):Nat->Int->Int->axe
 |0,_,_=>none
 |n+1,jA,tL=>NS (Bf a0 J n) a0 J jA tL
def Iv (a0:axs) (J:Int) (a2:Int):axe:=
 cond (decide (a2<(a0.length:Int))) (some false) (b6 λn=>Bf a0 J n 1 0)
def NT (kE:Int->Int->axf) (U:cG) (tM:Int) (tN:Int):axf:=
 cond (decide (tN<(U.cO.length:Int))) ((bm U.cO tN).bind λa_=>(Iv a_ tM 15).bind λbo=>cond (!bo) (some 8) (kE tM (i64.wrap (tN+1)))) (some 0)
def xh (U:cG):Nat->Int->Int->axf
 |0,_,_=>none
 |n+1,tM,tN=>NT (xh U n) U tM tN
def sk (J:a6) (a2:Int) (U:cG) (E0:Bool):axf:=
 cond E0 (some 6) ((vg J a2).bind λaK=>cond ((U.Kind==4)&&(decide (6<=aK))) (some 7) (b6 λn=>xh U n aK 0))
def vh (J:a6) (a2:Int) (U:cG):axf:=
 cond (U.Kind==5) (cond (a2==0) (sk J a2 U true) ((bm J.Body (i64.wrap (a2-1))).bind λbD=>sk J a2 U (bD.Kind !=1))) (sk J a2 U false)
def tO (a0:axu) (J:a6) (a2:Int) (U:cG) (E1:Bool):axf:=
 cond E1 (some 4) (cond (U.Kind==1) (cond ((decide (2<(U.cO.length:Int)))||((decide (0<(U.cO.length:Int)))&&(U.Name==([116,97,117]:axa)))) (some 5) (vh J a2 U)) (cond (U.Kind==3) (cond ((U.cO.length:Int) !=1) (some 5) (vh J a2 U)) (cond (U.Kind==5) ((bm a0 U.Number).bind λbj=>cond ((U.cO.length:Int) !=bj.ej) (some 5) (vh J a2 U)) (vh J a2 U))))
def Bg (a0:axu) (J:a6) (a2:Int) (U:cG) (E2:Bool):axf:=
 cond E2 (some 3) (cond (U.Kind==4) ((l0 U.Number 1 7).bind λcu=>cond (!cu) (tO a0 J a2 U true) (cond (U.Kind==5) ((l0 U.Number 0 (i64.wrap ((a0.length:Int)-1))).bind λch=>tO a0 J a2 U (!ch)) (tO a0 J a2 U false))) (cond (U.Kind==5) ((l0 U.Number 0 (i64.wrap ((a0.length:Int)-1))).bind λcv=>tO a0 J a2 U (!cv)) (tO a0 J a2 U false)))
def sl (a0:axu) (J:a6) (a2:Int):axf:=
 (bm J.Body a2).bind λU=>(NP U).bind λaf=>cond (!af) (some 2) (cond (U.Kind==1) ((xg U.Name).bind λdP=>Bg a0 J a2 U (!dP)) (Bg a0 J a2 U false))
def E3 (fC:Int->Option (Int×Int)) (a0:axu) (J:a6) (qg:Int):Option (Int×Int):=
 cond (decide (qg<(J.Body.length:Int))) ((sl a0 J qg).bind λaf=>cond (decide (0<af)) (some (qg,af)) (fC (i64.wrap (qg+1)))) (some (0,0))
def vi (a0:axu) (J:a6):Nat->Int->Option (Int×Int)
 |0,_=>none
 |n+1,qg=>E3 (vi a0 J n) a0 J qg
def vj (a0:axu) (J:a6):Option (Int×Int):=
 (Ir J.Body).bind λU=>cond (!U) (some (0,1)) (b6 λn=>vi a0 J n 0)
def NU (fC:Int->axe) (NV:Int->Int->axe) (a0:axu) (q0:Int) (tP:Int):axe:=
 cond (decide (tP<q0)) ((bm a0 tP).bind λa_=>(bm a0 q0).bind λbo=>cond (a_.Name==bo.Name) (some false) (NV q0 (i64.wrap (tP+1)))) (fC (i64.wrap (q0+1)))
def Bh (fC:Int->axe) (a0:axu):Nat->Int->Int->axe
 |0,_,_=>none
 |n+1,q0,tP=>NU fC (Bh fC a0 n) a0 q0 tP
def NW (qh:Int->axe) (a0:axu) (tQ:Int):axe:=
 cond (decide (tQ<(a0.length:Int))) ((bm a0 tQ).bind λbD=>(vj a0 bD).bind λbj=>cond (decide (0<bj.2)) (some false) (qh (i64.wrap (tQ+1)))) (some true)
def yX (a0:axu):Nat->Int->axe
 |0,_=>none
 |n+1,tQ=>NW (yX a0 n) a0 tQ
def NX (fC:Int->axe) (a0:axu) (eU:Int):axe:=
 cond (decide (eU<(a0.length:Int))) ((bm a0 eU).bind λU=>(xg U.Name).bind λaf=>cond (!af) (some false) ((l0 U.ej 0 3).bind λaK=>cond (!aK) (some false) (b6 λn=>Bh fC a0 n eU 0))) (b6 λn=>yX a0 n 0)
def vk (a0:axu):Nat->Int->axe
 |0,_=>none
 |n+1,eU=>NX (vk a0 n) a0 eU
def Iw (a0:axu):axe:=
 cond (((a0.length:Int)==0)||(decide (4<(a0.length:Int)))) (some false) (b6 λn=>vk a0 n 0)
def NY (eg:Int->axe) (a0:axc) (im:Int):axe:=
 cond (decide (im<(a0.length:Int))) ((bm a0 im).bind λU=>(l0 U 0 63).bind λaf=>cond (!af) (some false) (eg (i64.wrap (im+1)))) (some true)
def Bi (a0:axc):Nat->Int->axe
 |0,_=>none
 |n+1,im=>NY (Bi a0 n) a0 im
def E4 (a0:axc):axe:=
 b6 λn=>Bi a0 n 0
def NZ (fC:Int->axe) (a0:cJ) (eU:Int):axe:=
 cond (decide (eU<(a0.b_.length:Int))) ((bm a0.b_ eU).bind λU=>(l0 U.cD 0 (i64.wrap ((a0.cq.length:Int)-1))).bind λaf=>cond (!af) (some false) ((bm a0.cq U.cD).bind λaK=>cond ((U.bV.length:Int) !=aK.ej) (some false) ((E4 U.bV).bind λa_=>cond (!a_) (some false) (fC (i64.wrap (eU+1)))))) (some true)
def Bj (a0:cJ):Nat->Int->axe
 |0,_=>none
 |n+1,eU=>NZ (Bj a0 n) a0 eU
def Ix (a0:cJ):axe:=
 cond (((a0.b_.length:Int)==0)||(decide (3<(a0.b_.length:Int)))) (some false) (b6 λn=>Bj a0 n 0)
def tR (a0:axa):axe:=
 (xg a0).bind λU=>some (U&&(!(a0==([116,97,117]:axa))))
def N0 (fC:Int->axe) (ahs:Int->Int->axe) (a0:axw) (U:b5) (nD:Int) (n4:Int):axe:=
 cond (decide (n4<(a0.length:Int))) ((bm a0 n4).bind λbj=>cond ((bj.Left==U.Result)||(bj.cQ==U.Result)) (some false) (ahs nD (i64.wrap (n4+1)))) (fC (i64.wrap (nD+1)))
def vl (fC:Int->axe) (a0:axw) (U:b5):Nat->Int->Int->axe
 |0,_,_=>none
 |n+1,nD,n4=>N0 fC (vl fC a0 U n) a0 U nD n4
def N1 (fC:Int->axe) (a0:axw) (eU:Int):axe:=
 cond (decide (eU<(a0.length:Int))) ((bm a0 eU).bind λU=>(tR U.Left).bind λaf=>cond (!af) (some false) ((tR U.cQ).bind λaK=>cond (!aK) (some false) ((tR U.Result).bind λa_=>cond ((!a_)||(!(Op.bytesLess U.Left U.cQ||U.Left==U.cQ))) (some false) (cond (decide (0<eU)) ((bm a0 (i64.wrap (eU-1))).bind λbo=>cond ((!(Op.bytesLess bo.Left U.Left||bo.Left==U.Left))||((bo.Left==U.Left)&&(!(Op.bytesLess bo.cQ U.cQ)))) (some false) (b6 λn=>vl fC a0 U n eU 0)) (b6 λn=>vl fC a0 U n eU 0))))) (some true)
def so (a0:axw):Nat->Int->axe
 |0,_=>none
 |n+1,eU=>N1 (so a0 n) a0 eU
def Iy (a0:axw):axe:=
 cond (decide (6<(a0.length:Int))) (some false) (b6 λn=>so a0 n 0)
def N2 (eg:Int->axe) (a0:awZ) (im:Int):axe:=
 cond (decide (im<(a0.length:Int))) ((bm a0 im).bind λU=>(tR U).bind λaf=>cond (!af) (some false) (eg (i64.wrap (im+1)))) (some true)
def Bk (a0:awZ):Nat->Int->axe
 |0,_=>none
 |n+1,im=>N2 (Bk a0 n) a0 im
def Iz (a0:awZ):axe:=
 b6 λn=>Bk a0 n 0
def IA (fC:Int->axe) (a0:awZ) (eU:Int):axe:=
 cond (decide (eU<(a0.length:Int))) ((bm a0 (i64.wrap (eU-1))).bind λaf=>(bm a0 eU).bind λaK=>cond (!(Op.bytesLess af aK)) (some false) (fC (i64.wrap (eU+1)))) (some true)
def q1 (a0:awZ):Nat->Int->axe
 |0,_=>none
 |n+1,eU=>IA (q1 a0 n) a0 eU
def E5 (a0:awZ):axe:=
 cond (decide (12<(a0.length:Int))) (some false) ((Iz a0).bind λU=>cond (!U) (some false) (b6 λn=>q1 a0 n 1))
def IB (a0:cJ):axf:=
 (Iw a0.cq).bind λU=>cond (!U) (some 1) ((Ix a0).bind λaf=>cond (!af) (some 2) ((Iy a0.b2).bind λaK=>cond (!aK) (some 3) ((E5 a0.cw).bind λa_=>cond (!a_) (some 4) ((E5 a0.ct).bind λbo=>cond (!bo) (some 5) (some 0)))))
def IC (a0:cJ):axe:=
 (IB a0).bind λU=>some (U==0)
def sq (a0:axu) (J:bd):axe:=
 (l0 J.cD 0 (i64.wrap ((a0.length:Int)-1))).bind λU=>cond (!U) (some false) ((bm a0 J.cD).bind λaf=>(l0 J.Part 0 (i64.wrap ((af.Body.length:Int)-1))).bind λaK=>cond (!aK) (some false) ((bm af.Body J.Part).bind λa_=>cond (a_.Kind==5) (some false) ((vg af J.Part).bind λbo=>cond ((J.bV.length:Int)==bo) ((E4 J.bV).bind λbD=>some bD) (some false))))
def N3 (fC:Int->axe) (a0:cJ) (J:axx) (cb:Int):axe:=
 cond (decide (cb<(J.length:Int))) ((bm J cb).bind λU=>(sq a0.cq U).bind λaf=>cond (!af) (some false) (fC (i64.wrap (cb+1)))) (some true)
def Bl (a0:cJ) (J:axx):Nat->Int->axe
 |0,_=>none
 |n+1,cb=>N3 (Bl a0 J n) a0 J cb
def ID (a0:cJ) (J:axx):axe:=
 cond ((J.length:Int) !=(a0.b_.length:Int)) (some false) (b6 λn=>Bl a0 J n 0)
def IE (a0:cJ) (J:axx):axf:=
 (IC a0).bind λU=>cond (!U) (some 1) ((ID a0 J).bind λaf=>cond (!af) (some 1) (some 0))
def Bm (a0:axc):Option axc:=
 (room 8 (a0.length)).bind λ_=>some a0
def q2 (a0:Bool):axf:=
 cond a0 (some 1) (some 0)
def N4 (eg:Int->Int->axf) (a0:axs) (hU:Int) (eD:Int):axf:=
 cond (decide (0<eD)) ((bm a0 hU).bind λU=>(Iu U).bind λaf=>eg (i64.wrap (hU+1)) (i64.wrap (eD+(i64.wrap (af-1))))) (some hU)
def Bn (a0:axs):Nat->Int->Int->axf
 |0,_,_=>none
 |n+1,hU,eD=>N4 (Bn a0 n) a0 hU eD
def IF (a0:axs) (J:Int):axf:=
 b6 λn=>Bn a0 n J 1
def IG (a0:Int) (J:Int) (a2:Int):axf:=
 cond (a0==0) (some (Int.tmod (i64.wrap (J+a2)) 64)) (cond (a0==1) (some (Int.tmod (i64.wrap ((i64.wrap (J-a2))+64)) 64)) (cond (a0==2) (some (Int.tmod (i64.wrap (J*a2)) 64)) (cond (a0==3) ((q2 (J==a2)).bind λU=>some U) (cond (a0==4) ((q2 (J !=a2)).bind λaf=>some af) (cond (a0==5) ((q2 (decide (J<a2))).bind λaK=>some aK) (cond (a0==6) ((q2 (decide (J<=a2))).bind λa_=>some a_) (cond (a0==7) (cond (J !=0) ((q2 (a2 !=0)).bind λbo=>some bo) ((q2 false).bind λbD=>some bD)) (cond (J !=0) ((q2 true).bind λbj=>some bj) ((q2 (a2 !=0)).bind λcu=>some cu)))))))))
def N5 (Bo:axs->axc->Int->axf) (a0:axs) (J:axc) (a2:Int):axf:=
 (bm a0 a2).bind λU=>cond (U.Kind==0) (some U.Value) (cond (U.Kind==1) ((bm J U.Value).bind λaf=>some af) (cond (U.Kind==3) ((Bo a0 J (i64.wrap (a2+1))).bind λaK=>(q2 (aK==0)).bind λa_=>some a_) ((Bo a0 J (i64.wrap (a2+1))).bind λbo=>(IF a0 (i64.wrap (a2+1))).bind λbD=>(Bo a0 J bD).bind λbj=>(IG U.Value bo bj).bind λcu=>some cu)))
def yY:Nat->axs->axc->Int->axf
 |0,_,_,_=>none
 |n+1,a0,J,a2=>N5 (yY n) a0 J a2
def N6 (a0:axs) (J:axc) (a2:Int):axf:=
 b6 λn=>yY n a0 J a2
def yZ (a0:axs) (J:axc):axf:=
 (N6 a0 J 0).bind λU=>some U
def N7 (fB:axc->Int->Option axc) (a0:axk) (J:axc) (fs:axc) (jB:Int):Option axc:=
 cond (decide (jB<(a0.length:Int))) ((bm a0 jB).bind λU=>(yZ U J).bind λaf=>(room 8 (fs.length+1)).bind λ_=>fB (fs++[af]) (i64.wrap (jB+1))) (some fs)
def Bp (a0:axk) (J:axc):Nat->axc->Int->Option axc
 |0,_,_=>none
 |n+1,fs,jB=>N7 (Bp a0 J n) a0 J fs jB
def E6 (a0:axk) (J:axc):Option axc:=
 b6 λn=>Bp a0 J n [] 0
def IH (jb:axa->Int->Option axa) (a0:Int) (vm:axa) (xi:Int) (tS:Int):Option axa:=
 (room 1 (vm.length+1)).bind λ_=>jb (vm++[(ti (i64.wrap (48+tS)))]) (i64.wrap (Int.tdiv xi 10))
def aht (y0:axa->Int->Option axa) (oz:axa) (h7:axa) (hM:Int):Option axa:=
 cond (decide (0<=hM)) ((bm oz hM).bind λU=>(room 1 (h7.length+1)).bind λ_=>y0 (h7++[U]) (i64.wrap (hM-1))) (some h7)
def N8 (oz:axa):Nat->axa->Int->Option axa
 |0,_,_=>none
 |n+1,h7,hM=>aht (N8 oz n) oz h7 hM
def xj (oz:axa):Option axa:=
 b6 λn=>N8 oz n [] (i64.wrap ((oz.length:Int)-1))
def N9 (jb:axa->Int->Option axa) (a0:Int) (gT:axa) (hn:Int):Option axa:=
 cond (hn !=0) (cond (decide ((Int.tmod hn 10)<0)) (IH jb a0 gT hn (i64.wrap (0-(Int.tmod hn 10)))) (IH jb a0 gT hn (Int.tmod hn 10))) (cond (decide (a0<0)) ((room 1 (gT.length+1)).bind λ_=>xj (gT++[(45:UInt8)])) (xj gT))
def vn (a0:Int):Nat->axa->Int->Option axa
 |0,_,_=>none
 |n+1,gT,hn=>N9 (vn a0 n) a0 gT hn
def E7 (a0:Int):Option axa:=
 cond (a0==0) (some ([48]:axa)) (b6 λn=>vn a0 n [] a0)
def II (jb:axa->Int->Option axa) (a0:axc) (vo:axa) (vp:Int):Option axa:=
 (bm a0 vp).bind λU=>(E7 U).bind λaf=>(ko (vo.length+af.length)).bind λ_=>jb (vo++af) (i64.wrap (vp+1))
def N_ (jb:axa->Int->Option axa) (a0:axc) (gT:axa) (hn:Int):Option axa:=
 cond (decide (hn<(a0.length:Int))) (cond (decide (0<hn)) ((ko (gT.length+1)).bind λ_=>II jb a0 (gT++([44]:axa)) hn) (II jb a0 gT hn)) (some gT)
def y1 (a0:axc):Nat->axa->Int->Option axa
 |0,_,_=>none
 |n+1,gT,hn=>N_ (y1 a0 n) a0 gT hn
def IJ (a0:axc):Option axa:=
 cond ((a0.length:Int)==0) (some ([45]:axa)) (b6 λn=>y1 a0 n ([]:axa) 0)
def E8 (a0:axa) (J:axc):Option axa:=
 cond ((J.length:Int)==0) (some a0) ((ko (a0.length+1)).bind λ_=>(IJ J).bind λU=>(ko ((a0++([40]:axa)).length+U.length)).bind λ_=>(ko (((a0++([40]:axa))++U).length+1)).bind λ_=>some (((a0++([40]:axa))++U)++([41]:axa)))
def Oa (fC:Int->axe) (a0:axc) (J:axc) (cb:Int):axe:=
 cond (decide (cb<(a0.length:Int))) ((bm a0 cb).bind λU=>(bm J cb).bind λaf=>cond (U !=af) (some false) (fC (i64.wrap (cb+1)))) (some true)
def Bq (a0:axc) (J:axc):Nat->Int->axe
 |0,_=>none
 |n+1,cb=>Oa (Bq a0 J n) a0 J cb
def E9 (a0:axc) (J:axc):axe:=
 cond ((a0.length:Int) !=(J.length:Int)) (some false) (b6 λn=>Bq a0 J n 0)
def Br (a0:bd) (J:bd):axe:=
 cond (a0.cD==J.cD) (cond (a0.Part==J.Part) ((E9 a0.bV J.bV).bind λU=>some U) (some false)) (some false)
def Ob (eg:Int->Option axz) (a0:axz) (J:a7) (eD:Int):Option axz:=
 cond (decide (eD<(a0.length:Int))) ((bm a0 eD).bind λU=>cond (U.Label==J.Label) ((Br U.Next J.Next).bind λaf=>cond af (some a0) (eg (i64.wrap (eD+1)))) (eg (i64.wrap (eD+1)))) ((room 56 (a0.length+1)).bind λ_=>some (a0++[J]))
def Bs (a0:axz) (J:a7):Nat->Int->Option axz
 |0,_=>none
 |n+1,eD=>Ob (Bs a0 J n) a0 J eD
def IK (a0:axz) (J:a7):Option axz:=
 b6 λn=>Bs a0 J n 0
def y2 (l1:axu->Int->Int->axc->axz->Option axz) (a0:axu) (J:Int) (a2:Int) (a3:axc) (Bt:axz):Option axz:=
 some Bt
def E_ (l1:axu->Int->Int->axc->axz->Option axz) (a3:axc) (a4:axz) (af:cG) (y3:Int) (y4:Int) (y5:axc):Option axz:=
 (E6 af.cO a3).bind λa_=>(E8 af.Name a_).bind λbo=>(IK a4 (a7.mk bo (bd.mk y3 y4 y5))).bind λbD=>some bD
def Oc (l1:axu->Int->Int->axc->axz->Option axz) (qh:axz->Int->Option axz) (a0:axu) (J:Int) (a2:Int) (a3:axc) (af:cG) (tT:axz) (kR:Int):Option axz:=
 cond (decide (kR<=af.Number)) ((Bm a3).bind λft=>(room 8 (ft.length+1)).bind λ_=>(l1 a0 J (i64.wrap (a2+1)) (ft++[kR]) tT).bind λhV=>qh hV (i64.wrap (kR+1))) (y2 l1 a0 J a2 a3 tT)
def Bu (l1:axu->Int->Int->axc->axz->Option axz) (a0:axu) (J:Int) (a2:Int) (a3:axc) (af:cG):Nat->axz->Int->Option axz
 |0,_,_=>none
 |n+1,tT,kR=>Oc l1 (Bu l1 a0 J a2 a3 af n) a0 J a2 a3 af tT kR
def xk (l1:axu->Int->Int->axc->axz->Option axz) (a0:axu) (J:Int) (a2:Int) (a3:axc) (a4:axz):Option axz:=
 (bm a0 J).bind λU=>(bm U.Body a2).bind λaf=>cond (decide (200<(a4.length:Int))) (some a4) (cond (af.Kind==1) ((Bm a3).bind λaK=>(bm U.Body (i64.wrap (a2+1))).bind λbj=>cond (bj.Kind==5) ((E6 bj.cO a3).bind λcu=>E_ l1 a3 a4 af bj.Number 0 cu) (E_ l1 a3 a4 af J (i64.wrap (a2+1)) aK)) (cond (af.Kind==2) ((l1 a0 J (i64.wrap (a2+1)) a3 a4).bind λch=>(EY U.Body (i64.wrap (a2+1))).bind λcv=>(l1 a0 J cv a3 ch).bind λdP=>some dP) (cond (af.Kind==3) ((bm af.cO 0).bind λgz=>(yZ gz a3).bind λhG=>cond (hG !=0) ((l1 a0 J (i64.wrap (a2+1)) a3 a4).bind λeZ=>some eZ) (y2 l1 a0 J a2 a3 a4)) (cond (af.Kind==4) (b6 λn=>Bu l1 a0 J a2 a3 af n a4 0) (y2 l1 a0 J a2 a3 a4)))))
def q3:Nat->axu->Int->Int->axc->axz->Option axz
 |0,_,_,_,_,_=>none
 |n+1,a0,J,a2,a3,a4=>xk (q3 n) a0 J a2 a3 a4
def IL (a0:axu) (J:Int) (a2:Int) (a3:axc) (a4:axz):Option axz:=
 b6 λn=>q3 n a0 J a2 a3 a4
def tU (a0:axu) (J:bd):Option (axz×Bool):=
 (IL a0 J.cD J.Part J.bV []).bind λU=>some (U,(decide ((U.length:Int)<=200)))
def Od (eg:Int->axf) (a0:axa) (im:Int):axf:=
 cond (decide (im<(a0.length:Int))) ((bm a0 im).bind λU=>cond ((U.toNat:Int)==40) (some im) (eg (i64.wrap (im+1)))) (some (a0.length:Int))
def xl (a0:axa):Nat->Int->axf
 |0,_=>none
 |n+1,im=>Od (xl a0 n) a0 im
def y6 (a0:axa):axf:=
 b6 λn=>xl a0 n 0
def sr (a0:axa):Option axa:=
 (y6 a0).bind λU=>(gC a0 0 U).bind λaf=>some af
def Oe (eg:Int->axf) (a0:awZ) (J:axa) (eD:Int):axf:=
 cond (decide (eD<(a0.length:Int))) ((bm a0 eD).bind λU=>cond (U==J) (some eD) (eg (i64.wrap (eD+1)))) (some (-1))
def Bv (a0:awZ) (J:axa):Nat->Int->axf
 |0,_=>none
 |n+1,eD=>Oe (Bv a0 J n) a0 J eD
def Bw (a0:awZ) (J:axa):axf:=
 b6 λn=>Bv a0 J n 0
def Of (fB:axx->Int->Option axx) (a0:axx) (bT:axx) (bJ:Int):Option axx:=
 cond (decide (bJ<(a0.length:Int))) ((bm a0 bJ).bind λU=>(Bm U.bV).bind λaf=>(room 40 (bT.length+1)).bind λ_=>fB (bT++[(bd.mk U.cD U.Part af)]) (i64.wrap (bJ+1))) (some bT)
def Bx (a0:axx):Nat->axx->Int->Option axx
 |0,_,_=>none
 |n+1,bT,bJ=>Of (Bx a0 n) a0 bT bJ
def vq (a0:axx):Option axx:=
 b6 λn=>Bx a0 n [] 0
def Bz (a0:cJ) (J:axa):Option axa:=
 (sr J).bind λU=>(Bw a0.ct U).bind λaf=>cond (decide (0<=af)) (some ([116,97,117]:axa)) (some J)
def Og (fC:Int->axe) (a0:axx) (J:axx) (cb:Int):axe:=
 cond (decide (cb<(a0.length:Int))) ((bm a0 cb).bind λU=>(bm J cb).bind λaf=>(Br U af).bind λaK=>cond (!aK) (some false) (fC (i64.wrap (cb+1)))) (some true)
def BA (a0:axx) (J:axx):Nat->Int->axe
 |0,_=>none
 |n+1,cb=>Og (BA a0 J n) a0 J cb
def IM (a0:axx) (J:axx):axe:=
 cond ((a0.length:Int) !=(J.length:Int)) (some false) (b6 λn=>BA a0 J n 0)
def Oh (eg:Int->Option axy) (a0:axy) (J:bh) (eD:Int):Option axy:=
 cond (decide (eD<(a0.length:Int))) ((bm a0 eD).bind λU=>cond (U.Label==J.Label) (cond (U.nC==J.nC) (cond (U.Second==J.Second) ((IM U.State J.State).bind λaf=>cond af (some a0) (eg (i64.wrap (eD+1)))) (eg (i64.wrap (eD+1)))) (eg (i64.wrap (eD+1)))) (eg (i64.wrap (eD+1)))) ((room 56 (a0.length+1)).bind λ_=>some (a0++[J]))
def BB (a0:axy) (J:bh):Nat->Int->Option axy
 |0,_=>none
 |n+1,eD=>Oh (BB a0 J n) a0 J eD
def y7 (a0:axy) (J:bh):Option axy:=
 b6 λn=>BB a0 J n 0
def IP (j8:awZ->Int->Int->Option awZ) (a0:axa) (J:UInt8) (BC:awZ) (BD:Int) (BE:Int):Option awZ:=
 j8 BC BD (i64.wrap (BE+1))
def Oi (j8:awZ->Int->Int->Option awZ) (a0:axa) (J:UInt8) (jU:awZ) (la:Int) (gb:Int):Option awZ:=
 cond (decide (gb<(a0.length:Int))) ((bm a0 gb).bind λU=>cond ((U.toNat:Int)==(J.toNat:Int)) ((gC a0 la gb).bind λaf=>(room 16 (jU.length+1)).bind λ_=>IP j8 a0 J (jU++[af]) (i64.wrap (gb+1)) gb) (IP j8 a0 J jU la gb)) ((gC a0 la (a0.length:Int)).bind λaK=>(room 16 (jU.length+1)).bind λ_=>some (jU++[aK]))
def y8 (a0:axa) (J:UInt8):Nat->awZ->Int->Int->Option awZ
 |0,_,_,_=>none
 |n+1,jU,la,gb=>Oi (y8 a0 J n) a0 J jU la gb
def IQ (a0:axa) (J:UInt8):Option awZ:=
 b6 λn=>y8 a0 J n [] 0 0
def Fa (ss:Int):Option (Int×Bool):=
 some (ss,true)
def Oj (ahu:Int->Int->Option (Int×Bool)) (a0:axa) (hW:Int) (nk:Int) (o8:Int):Option (Int×Bool):=
 cond (decide (o8<(a0.length:Int))) ((bm a0 o8).bind λa_=>(Ba a_).bind λbo=>cond (!bo) (some (0,false)) (ahu (i64.wrap ((i64.wrap (10*nk))+(i64.wrap (u8.wrap ((a_.toNat:Int)-48))))) (i64.wrap (o8+1)))) (cond (hW==1) (Fa (i64.wrap (0-nk))) (Fa nk))
def vr (a0:axa) (hW:Int):Nat->Int->Int->Option (Int×Bool)
 |0,_,_=>none
 |n+1,nk,o8=>Oj (vr a0 hW n) a0 hW nk o8
def BF (a0:axa) (hW:Int):Option (Int×Bool):=
 cond ((a0.length:Int)==hW) (some (0,false)) (cond (decide (18<(i64.wrap ((a0.length:Int)-hW)))) (some (0,false)) ((bm a0 hW).bind λU=>cond ((U.toNat:Int)==48) (cond (decide (1<(a0.length:Int))) (some (0,false)) (b6 λn=>vr a0 hW n 0 hW)) (b6 λn=>vr a0 hW n 0 hW)))
def IU (a0:axa):Option (Int×Bool):=
 cond (decide (0<(a0.length:Int))) ((bm a0 0).bind λbD=>cond ((bD.toNat:Int)==45) (BF a0 1) (BF a0 0)) (BF a0 0)
def Ok (ahv:axc->Int->Option (axc×Bool)) (bj:awZ) (o9:axc) (q4:Int):Option (axc×Bool):=
 cond (decide (q4<(bj.length:Int))) ((bm bj q4).bind λcu=>(IU cu).bind λch=>cond (!ch.2) (some ([],false)) ((l0 ch.1 0 63).bind λcv=>cond (!cv) (some ([],false)) ((room 8 (o9.length+1)).bind λ_=>ahv (o9++[ch.1]) (i64.wrap (q4+1))))) (some (o9,(decide ((o9.length:Int)<=2))))
def y9 (bj:awZ):Nat->axc->Int->Option (axc×Bool)
 |0,_,_=>none
 |n+1,o9,q4=>Ok (y9 bj n) bj o9 q4
def y_ (a0:axa):Option (axc×Bool):=
 (y6 a0).bind λU=>cond (U==(a0.length:Int)) ((xg a0).bind λaf=>some ([],af)) ((gC a0 0 U).bind λaK=>(tR aK).bind λa_=>cond (!a_) (some ([],false)) ((bm a0 (i64.wrap ((a0.length:Int)-1))).bind λbo=>cond ((bo.toNat:Int) !=41) (some ([],false)) ((gC a0 (i64.wrap (U+1)) (i64.wrap ((a0.length:Int)-1))).bind λbD=>(IQ bD (44:UInt8)).bind λbj=>b6 λn=>y9 bj n [] 0)))
def Ol (tV:axw->axa->axa->Option axa) (fC:Int->Option axa) (a0:axw) (J:axa) (a2:axa) (su:Int):Option axa:=
 cond (decide (su<(a0.length:Int))) ((bm a0 su).bind λaf=>cond ((af.Left==J)&&(af.cQ==a2)) (some af.Result) (fC (i64.wrap (su+1)))) (some ([]:axa))
def BG (tV:axw->axa->axa->Option axa) (a0:axw) (J:axa) (a2:axa):Nat->Int->Option axa
 |0,_=>none
 |n+1,su=>Ol tV (BG tV a0 J a2 n) a0 J a2 su
def za (tV:axw->axa->axa->Option axa) (a0:axw) (J:axa) (a2:axa):Option axa:=
 cond (!(Op.bytesLess J a2||J==a2)) ((tV a0 a2 J).bind λU=>some U) (b6 λn=>BG tV a0 J a2 n 0)
def BH:Nat->axw->axa->axa->Option axa
 |0,_,_,_=>none
 |n+1,a0,J,a2=>za (BH n) a0 J a2
def Fb (a0:axw) (J:axa) (a2:axa):Option axa:=
 b6 λn=>BH n a0 J a2
def IV (a0:cJ) (J:axa) (a2:axa):Option axa:=
 (y_ J).bind λU=>(y_ a2).bind λaf=>(E9 U.1 af.1).bind λaK=>cond (!aK) (some ([]:axa)) ((sr J).bind λa_=>(sr a2).bind λbo=>(Fb a0.b2 a_ bo).bind λbD=>cond (bD==([]:axa)) (some ([]:axa)) ((Bw a0.cw bD).bind λbj=>cond (decide (bj<0)) (some ([]:axa)) ((E8 bD U.1).bind λcu=>some cu)))
def Fe (qi:axy->axl->Int->Option (axy×Bool)) (y0:axy->axl->Int->Int->Option (axy×Bool)) (J:axx) (bp:axu) (bs:axv) (br:axw) (bO:awZ) (bP:awZ) (BI:axy) (BJ:axl) (BK:Int) (BL:Int):Option (axy×Bool):=
 y0 BI BJ BK (i64.wrap (BL+1))
def Om (qi:axy->axl->Int->Option (axy×Bool)) (y0:axy->axl->Int->Int->Option (axy×Bool)) (J:axx) (bp:axu) (bs:axv) (br:axw) (bO:awZ) (bP:awZ) (h7:axy) (hM:axl) (hH:Int) (lC:Int):Option (axy×Bool):=
 (bm hM hH).bind λaK=>cond (decide (lC<(aK.length:Int))) ((bm aK lC).bind λa_=>cond (!(a_.Label==([116,97,117]:axa))) ((sr a_.Label).bind λbo=>(Bw bO bo).bind λbD=>cond (decide (bD<0)) (Fe qi y0 J bp bs br bO bP h7 hM hH lC) ((vq J).bind λbj=>(bm bj hH).bind λcu=>(Bz (cJ.mk bp bs br bO bP) a_.Label).bind λch=>(vq (List.set bj (Int.toNat hH) a_.Next)).bind λcv=>(y7 h7 (bh.mk ch hH (-1) cv)).bind λdP=>Fe qi y0 J bp bs br bO bP dP hM hH lC)) ((vq J).bind λgz=>(bm gz hH).bind λhG=>(Bz (cJ.mk bp bs br bO bP) a_.Label).bind λeZ=>(vq (List.set gz (Int.toNat hH) a_.Next)).bind λft=>(y7 h7 (bh.mk eZ hH (-1) ft)).bind λhV=>Fe qi y0 J bp bs br bO bP hV hM hH lC)) (qi h7 hM (i64.wrap (hH+1)))
def xm (qi:axy->axl->Int->Option (axy×Bool)) (J:axx) (bp:axu) (bs:axv) (br:axw) (bO:awZ) (bP:awZ):Nat->axy->axl->Int->Int->Option (axy×Bool)
 |0,_,_,_,_=>none
 |n+1,h7,hM,hH,lC=>Om qi (xm qi J bp bs br bO bP n) J bp bs br bO bP h7 hM hH lC
def IW (h8:axy->axl->Int->Option (axy×Bool)) (kE:axy->axl->Int->Int->Option (axy×Bool)) (pF:axy->axl->Int->Int->Int->Option (axy×Bool)) (IX:axy->axl->Int->Int->Int->Int->Option (axy×Bool)) (J:axx) (bp:axu) (bs:axv) (br:axw) (bO:awZ) (bP:awZ) (BM:axy) (BN:axl) (BO:Int) (BP:Int) (BQ:Int) (BR:Int):Option (axy×Bool):=
 IX BM BN BO BP BQ (i64.wrap (BR+1))
def IY (h8:axy->axl->Int->Option (axy×Bool)) (kE:axy->axl->Int->Int->Option (axy×Bool)) (pF:axy->axl->Int->Int->Int->Option (axy×Bool)) (IX:axy->axl->Int->Int->Int->Int->Option (axy×Bool)) (J:axx) (bp:axu) (bs:axv) (br:axw) (bO:awZ) (bP:awZ) (mJ:axy) (mo:axl) (jC:Int) (kf:Int) (mK:Int) (mq:Int):Option (axy×Bool):=
 (bm mo kf).bind λpG=>cond ((decide (mq<(pG.length:Int)))&&(decide ((mJ.length:Int)<=200))) ((bm mo jC).bind λlD=>(bm lD mK).bind λl3=>(bm pG mq).bind λmL=>(IV (cJ.mk bp bs br bO bP) l3.Label mL.Label).bind λlb=>cond (lb==([]:axa)) (IW h8 kE pF IX J bp bs br bO bP mJ mo jC kf mK mq) ((vq J).bind λmM=>(bm mM jC).bind λzb=>(bm (List.set mM (Int.toNat jC) l3.Next) kf).bind λqj=>(Bz (cJ.mk bp bs br bO bP) lb).bind λpH=>(vq (List.set (List.set mM (Int.toNat jC) l3.Next) (Int.toNat kf) mL.Next)).bind λtW=>(y7 mJ (bh.mk pH jC kf tW)).bind λzc=>IW h8 kE pF IX J bp bs br bO bP zc mo jC kf mK mq)) (pF mJ mo jC kf (i64.wrap (mK+1)))
def tX (h8:axy->axl->Int->Option (axy×Bool)) (kE:axy->axl->Int->Int->Option (axy×Bool)) (pF:axy->axl->Int->Int->Int->Option (axy×Bool)) (J:axx) (bp:axu) (bs:axv) (br:axw) (bO:awZ) (bP:awZ):Nat->axy->axl->Int->Int->Int->Int->Option (axy×Bool)
 |0,_,_,_,_,_,_=>none
 |n+1,mJ,mo,jC,kf,mK,mq=>IY h8 kE pF (tX h8 kE pF J bp bs br bO bP n) J bp bs br bO bP mJ mo jC kf mK mq
def On (h8:axy->axl->Int->Option (axy×Bool)) (kE:axy->axl->Int->Int->Option (axy×Bool)) (pF:axy->axl->Int->Int->Int->Option (axy×Bool)) (J:axx) (bp:axu) (bs:axv) (br:axw) (bO:awZ) (bP:awZ) (tY:axy) (sv:axl) (sw:Int) (tZ:Int) (vt:Int):Option (axy×Bool):=
 (bm sv sw).bind λjD=>cond (decide (vt<(jD.length:Int))) (b6 λn=>tX h8 kE pF J bp bs br bO bP n tY sv sw tZ vt 0) (kE tY sv sw (i64.wrap (tZ+1)))
def q5 (h8:axy->axl->Int->Option (axy×Bool)) (kE:axy->axl->Int->Int->Option (axy×Bool)) (J:axx) (bp:axu) (bs:axv) (br:axw) (bO:awZ) (bP:awZ):Nat->axy->axl->Int->Int->Int->Option (axy×Bool)
 |0,_,_,_,_,_=>none
 |n+1,tY,sv,sw,tZ,vt=>On h8 kE (q5 h8 kE J bp bs br bO bP n) J bp bs br bO bP tY sv sw tZ vt
def Oo (h8:axy->axl->Int->Option (axy×Bool)) (kE:axy->axl->Int->Int->Option (axy×Bool)) (J:axx) (bp:axu) (bs:axv) (br:axw) (bO:awZ) (bP:awZ) (t_:axy) (ua:axl) (ub:Int) (vu:Int):Option (axy×Bool):=
 cond (decide (vu<(J.length:Int))) (b6 λn=>q5 h8 kE J bp bs br bO bP n t_ ua ub vu 0) (h8 t_ ua (i64.wrap (ub+1)))
def oA (h8:axy->axl->Int->Option (axy×Bool)) (J:axx) (bp:axu) (bs:axv) (br:axw) (bO:awZ) (bP:awZ):Nat->axy->axl->Int->Int->Option (axy×Bool)
 |0,_,_,_,_=>none
 |n+1,t_,ua,ub,vu=>Oo h8 (oA h8 J bp bs br bO bP n) J bp bs br bO bP t_ ua ub vu
def Oq (h8:axy->axl->Int->Option (axy×Bool)) (J:axx) (bp:axu) (bs:axv) (br:axw) (bO:awZ) (bP:awZ) (q6:axy) (xn:axl) (sx:Int):Option (axy×Bool):=
 cond (decide (sx<(J.length:Int))) (b6 λn=>oA h8 J bp bs br bO bP n q6 xn sx (i64.wrap (sx+1))) (some (q6,(decide ((q6.length:Int)<=200))))
def lE (J:axx) (bp:axu) (bs:axv) (br:axw) (bO:awZ) (bP:awZ):Nat->axy->axl->Int->Option (axy×Bool)
 |0,_,_,_=>none
 |n+1,q6,xn,sx=>Oq (lE J bp bs br bO bP n) J bp bs br bO bP q6 xn sx
def Ot (qi:axy->axl->Int->Option (axy×Bool)) (J:axx) (bp:axu) (bs:axv) (br:axw) (bO:awZ) (bP:awZ) (uc:axy) (ud:axl) (vv:Int):Option (axy×Bool):=
 cond (decide (vv<(J.length:Int))) (b6 λn=>xm qi J bp bs br bO bP n uc ud vv 0) (b6 λn=>lE J bp bs br bO bP n uc ud 0)
def sy (J:axx) (bp:axu) (bs:axv) (br:axw) (bO:awZ) (bP:awZ):Nat->axy->axl->Int->Option (axy×Bool)
 |0,_,_,_=>none
 |n+1,uc,ud,vv=>Ot (sy J bp bs br bO bP n) J bp bs br bO bP uc ud vv
def Ff (j8:axl->Int->Option (axy×Bool)) (J:axx) (bp:axu) (bs:axv) (br:axw) (bO:awZ) (bP:awZ) (gb:axl) (pI:Int):Option (axy×Bool):=
 cond (decide (pI<(J.length:Int))) ((bm J pI).bind λU=>(tU bp U).bind λaf=>cond (!af.2) (some ([],false)) ((room 24 (gb.length+1)).bind λ_=>j8 (gb++[af.1]) (i64.wrap (pI+1)))) (b6 λn=>sy J bp bs br bO bP n [] gb 0)
def vw (J:axx) (bp:axu) (bs:axv) (br:axw) (bO:awZ) (bP:awZ):Nat->axl->Int->Option (axy×Bool)
 |0,_,_=>none
 |n+1,gb,pI=>Ff (vw J bp bs br bO bP n) J bp bs br bO bP gb pI
def IZ (bp:axu) (bs:axv) (br:axw) (bO:awZ) (bP:awZ) (J:axx):Option (axy×Bool):=
 b6 λn=>vw J bp bs br bO bP n [] 0
def I0 (a0:cJ) (J:axx):axe:=
 (IE a0 J).bind λU=>cond (U !=0) (some false) ((IZ a0.cq a0.b_ a0.b2 a0.cw a0.ct J).bind λaf=>some (af.2&&((af.1.length:Int)==0)))
def kS (a0:Int) (J:Int) (a2:Int):axe:=
 some ((decide (J<=a0))&&(decide (a0<=a2)))
def Ou (a0:a6):axe:=
 (kS a0.ej 0 3).bind λU=>some (!U)
def Ov (eg:Int->axf) (a0:axu) (cr:Int):axf:=
 cond (decide (cr<(a0.length:Int))) ((bm a0 cr).bind λU=>(Ou U).bind λaf=>cond af (some cr) (eg (i64.wrap (cr+1)))) (some (-1))
def Fg (a0:axu):Nat->Int->axf
 |0,_=>none
 |n+1,cr=>Ov (Fg a0 n) a0 cr
def Ow (a0:axu):axf:=
 b6 λn=>Fg a0 n 0
def Ox (a0:axu):axe:=
 (Ow a0).bind λU=>some (decide (0<=U))
def I1 (a0:axu):axe:=
 (Ox a0).bind λU=>some (!U)
def Oy (a0:UInt8):axe:=
 some ((decide (48<=(a0.toNat:Int)))&&(decide ((a0.toNat:Int)<=57)))
def I2 (eg:Int->axe) (a0:axa) (fK:Int):axe:=
 cond (decide (fK<(a0.length:Int))) ((bm a0 fK).bind λU=>cond (!((decide (97<=(U.toNat:Int)))&&(decide ((U.toNat:Int)<=122)))) (cond (fK==0) (some false) ((Oy U).bind λaf=>cond (!af) (some false) (eg (i64.wrap (fK+1))))) (eg (i64.wrap (fK+1)))) (some ((decide (1<=(a0.length:Int)))&&(decide ((a0.length:Int)<=10))))
def xo (a0:axa):Nat->Int->axe
 |0,_=>none
 |n+1,fK=>I2 (xo a0 n) a0 fK
def Fh (a0:axa):axe:=
 b6 λn=>xo a0 n 0
def Oz (a0:a6) (J:axa):axe:=
 some (a0.Name==J)
def OA (eg:Int->axf) (a0:axu) (J:axa) (cr:Int):axf:=
 cond (decide (cr<(a0.length:Int))) ((bm a0 cr).bind λU=>(Oz U J).bind λaf=>cond af (some cr) (eg (i64.wrap (cr+1)))) (some (-1))
def Fi (a0:axu) (J:axa):Nat->Int->axf
 |0,_=>none
 |n+1,cr=>OA (Fi a0 J n) a0 J cr
def OB (a0:axu) (J:axa):axf:=
 b6 λn=>Fi a0 J n 0
def I3 (a0:axu) (J:axa):axf:=
 (OB a0 J).bind λU=>some U
def Fj (a0:cG) (dW:Bool):axf:=
 cond dW (some 1) (cond (a0.Kind==2) (some 2) (some 0))
def Fk (a0:cG):axf:=
 cond (a0.Kind==1) (Fj a0 true) (cond (a0.Kind==3) (Fj a0 true) (Fj a0 (a0.Kind==4)))
def OC (eg:Int->Int->axf) (a0:a6) (hU:Int) (eD:Int):axf:=
 cond (decide (0<eD)) (cond (decide ((a0.Body.length:Int)<=hU)) (some (-1)) ((bm a0.Body hU).bind λU=>(Fk U).bind λaf=>eg (i64.wrap (hU+1)) (i64.wrap (eD+(i64.wrap (af-1)))))) (some hU)
def BS (a0:a6):Nat->Int->Int->axf
 |0,_,_=>none
 |n+1,hU,eD=>OC (BS a0 n) a0 hU eD
def Fl (a0:a6) (J:Int):axf:=
 b6 λn=>BS a0 n J 1
def OD (pJ:Int->du->axA->a6->Option (Int×axA)) (ahw:axA->Int->Int->Option (Int×axA)) (a3:a6) (n5:Int) (af:cG) (aK:Int) (vx:axA) (sA:Int) (ue:Int):Option (Int×axA):=
 cond (decide (ue<aK)) ((pJ sA (du.mk n5 (af.Kind==1)) vx a3).bind λa_=>ahw a_.2 a_.1 (i64.wrap (ue+1))) (some (sA,vx))
def zd (pJ:Int->du->axA->a6->Option (Int×axA)) (a3:a6) (n5:Int) (af:cG) (aK:Int):Nat->axA->Int->Int->Option (Int×axA)
 |0,_,_,_=>none
 |n+1,vx,sA,ue=>OD pJ (zd pJ a3 n5 af aK n) a3 n5 af aK vx sA ue
def I4 (pJ:Int->du->axA->a6->Option (Int×axA)) (a0:Int) (J:du) (a2:axA) (a3:a6) (af:cG) (n5:Int):Option (Int×axA):=
 (Fk af).bind λaK=>b6 λn=>zd pJ a3 n5 af aK n (List.set a2 (Int.toNat a0) J) (i64.wrap (a0+1)) 0
def OE (pJ:Int->du->axA->a6->Option (Int×axA)) (a0:Int) (J:du) (a2:axA) (a3:a6):Option (Int×axA):=
 (bm a2 a0).bind λU=>(bm a3.Body a0).bind λaf=>cond (af.Kind==4) (I4 pJ a0 J a2 a3 af (i64.wrap (J.scope+1))) (I4 pJ a0 J a2 a3 af J.scope)
def ze:Nat->Int->du->axA->a6->Option (Int×axA)
 |0,_,_,_,_=>none
 |n+1,a0,J,a2,a3=>OE (ze n) a0 J a2 a3
def I5 (a0:Int) (J:du) (a2:axA) (a3:a6):Option (Int×axA):=
 b6 λn=>ze n a0 J a2 a3
def BT (a0:a6):Option axA:=
 (nr 16 (a0.Body.length:Int)).bind λ_=>(I5 0 (du.mk a0.ej false) (replicate (Int.toNat (a0.Body.length:Int)) (du.mk 0 false)) a0).bind λU=>some U.2
def OG (a0:cG):axe:=
 (kS a0.Kind 0 5).bind λU=>some (((U&&(((a0.Kind==4)||(a0.Kind==5))||(a0.Number==0)))&&((a0.Kind==1)||(a0.Name==([]:axa))))&&((((a0.Kind==1)||(a0.Kind==3))||(a0.Kind==5))||((a0.cO.length:Int)==0)))
def uf (a0:axa):axe:=
 (Fh a0).bind λU=>some (U&&(!(a0==([116,97,117]:axa))))
def xp (a0:Int) (J:Int):axe:=
 (kS a0 0 (i64.wrap (J-1))).bind λU=>some U
def OH (a0:cG) (J:axu):axe:=
 cond (a0.Kind==1) (some (((a0.cO.length:Int)==0)||((!(a0.Name==([116,97,117]:axa)))&&(decide ((a0.cO.length:Int)<=2))))) (cond (a0.Kind==3) (some ((a0.cO.length:Int)==1)) (cond (a0.Kind==5) ((bm J a0.Number).bind λU=>some ((a0.cO.length:Int)==U.ej)) (some true)))
def Fm (a0:Int):axe:=
 (kS a0 0 63).bind λU=>some U
def I6 (a0:bZ) (J:Int):axe:=
 cond (a0.Kind==0) ((Fm a0.Value).bind λU=>some U) (cond (a0.Kind==1) ((kS a0.Value 0 (i64.wrap (J-1))).bind λaf=>some af) (cond (a0.Kind==2) ((kS a0.Value 0 8).bind λaK=>some aK) (cond (a0.Kind==3) (some (a0.Value==0)) (some false))))
def I7 (a0:bZ):axf:=
 cond (a0.Kind==2) (some 2) (cond (a0.Kind==3) (some 1) (some 0))
def OI (jb:Int->Int->axe) (a0:axs) (J:Int) (jA:Int) (ug:Int):axe:=
 cond (decide (ug<(a0.length:Int))) ((bm a0 ug).bind λa_=>cond (jA==0) (some false) ((I6 a_ J).bind λbo=>cond (!bo) (some false) ((I7 a_).bind λbD=>jb (i64.wrap (jA+(i64.wrap (bD-1)))) (i64.wrap (ug+1))))) (some (jA==0))
def BU (a0:axs) (J:Int):Nat->Int->Int->axe
 |0,_,_=>none
 |n+1,jA,ug=>OI (BU a0 J n) a0 J jA ug
def I8 (a0:axs) (J:Int) (a2:Int):axe:=
 (kS J 0 29).bind λU=>cond (!U) (some false) ((kS a2 1 60).bind λaf=>cond (!af) (some false) ((kS (a0.length:Int) 1 a2).bind λaK=>cond (!aK) (some false) (b6 λn=>BU a0 J n 1 0)))
def OJ (a0:axs) (J:du):axe:=
 (I8 a0 J.scope 15).bind λU=>some (!U)
def OK (eg:Int->axf) (a0:axk) (J:du) (cr:Int):axf:=
 cond (decide (cr<(a0.length:Int))) ((bm a0 cr).bind λU=>(OJ U J).bind λaf=>cond af (some cr) (eg (i64.wrap (cr+1)))) (some (-1))
def Fo (a0:axk) (J:du):Nat->Int->axf
 |0,_=>none
 |n+1,cr=>OK (Fo a0 J n) a0 J cr
def OL (a0:axk) (J:du):axf:=
 b6 λn=>Fo a0 J n 0
def I9 (a0:axk) (J:du):axe:=
 (OL a0 J).bind λU=>some (decide (0<=U))
def zf (a0:cG) (J:axu) (a2:du) (Fp:Bool):axf:=
 cond Fp (some 4) ((OH a0 J).bind λaf=>cond (!af) (some 5) (cond ((a0.Kind==5)&&(!a2.behind)) (some 6) (cond ((a0.Kind==4)&&(decide (6<=a2.scope))) (some 7) ((I9 a0.cO a2).bind λaK=>cond aK (some 8) (some 0)))))
def Fq (a0:cG) (J:axu) (a2:du) (Fs:Bool):axf:=
 cond Fs (some 3) (cond (a0.Kind==4) ((kS a0.Number 1 7).bind λa_=>cond (!a_) (zf a0 J a2 true) (cond (a0.Kind==5) ((xp a0.Number (J.length:Int)).bind λbo=>zf a0 J a2 (!bo)) (zf a0 J a2 false))) (cond (a0.Kind==5) ((xp a0.Number (J.length:Int)).bind λbD=>zf a0 J a2 (!bD)) (zf a0 J a2 false)))
def Ft (a0:cG) (J:axu) (a2:du):axf:=
 (OG a0).bind λU=>cond (!U) (some 2) (cond (a0.Kind==1) (cond (!(a0.Name==([116,97,117]:axa))) ((uf a0.Name).bind λbj=>Fq a0 J a2 (!bj)) (Fq a0 J a2 false)) (Fq a0 J a2 false))
def I_ (jb:Int->Option (Int×Int)) (a0:axu) (J:a6) (aK:axA) (qk:Int):Option (Int×Int):=
 cond (decide (qk<(J.Body.length:Int))) ((bm J.Body qk).bind λa_=>(bm aK qk).bind λbo=>(Ft a_ a0 bo).bind λbD=>cond (bD !=0) (some (qk,bD)) (jb (i64.wrap (qk+1)))) (some (0,0))
def zg (a0:axu) (J:a6) (aK:axA):Nat->Int->Option (Int×Int)
 |0,_=>none
 |n+1,qk=>I_ (zg a0 J aK n) a0 J aK qk
def Fu (a0:axu) (J:a6):Option (Int×Int):=
 (kS (J.Body.length:Int) 1 20).bind λU=>cond (!U) (some (0,1)) ((Fl J 0).bind λaf=>cond (af !=(J.Body.length:Int)) (some (0,1)) ((BT J).bind λaK=>b6 λn=>zg a0 J aK n 0))
def OM (fC:Int->axe) (a0:axu) (q7:Int):axe:=
 cond (decide (q7<(a0.length:Int))) ((bm a0 q7).bind λaK=>(Fh aK.Name).bind λa_=>cond (!a_) (some false) ((gC a0 0 q7).bind λbo=>(I3 bo aK.Name).bind λbD=>cond (decide (0<=bD)) (some false) ((Fu a0 aK).bind λbj=>cond (bj.2 !=0) (some false) (fC (i64.wrap (q7+1)))))) (some true)
def BV (a0:axu):Nat->Int->axe
 |0,_=>none
 |n+1,q7=>OM (BV a0 n) a0 q7
def Ja (a0:axu):axe:=
 (kS (a0.length:Int) 1 4).bind λU=>cond (!U) (some false) ((I1 a0).bind λaf=>cond (!af) (some false) (b6 λn=>BV a0 n 0))
def ON (a0:Int):axe:=
 (Fm a0).bind λU=>some (!U)
def OO (eg:Int->axf) (a0:axc) (cr:Int):axf:=
 cond (decide (cr<(a0.length:Int))) ((bm a0 cr).bind λU=>(ON U).bind λaf=>cond af (some cr) (eg (i64.wrap (cr+1)))) (some (-1))
def Fv (a0:axc):Nat->Int->axf
 |0,_=>none
 |n+1,cr=>OO (Fv a0 n) a0 cr
def OP (a0:axc):axf:=
 b6 λn=>Fv a0 n 0
def OQ (a0:axc):axe:=
 (OP a0).bind λU=>some (decide (0<=U))
def BW (a0:axc):axe:=
 (OQ a0).bind λU=>some (!U)
def Jb (a0:axu) (J:di):axe:=
 (xp J.cD (a0.length:Int)).bind λU=>cond U ((bm a0 J.cD).bind λaf=>cond ((J.bV.length:Int)==af.ej) ((BW J.bV).bind λaK=>some aK) (some false)) (some false)
def OR (a0:di) (J:cJ):axe:=
 (Jb J.cq a0).bind λU=>some (!U)
def OS (eg:Int->axf) (a0:axv) (J:cJ) (cr:Int):axf:=
 cond (decide (cr<(a0.length:Int))) ((bm a0 cr).bind λU=>(OR U J).bind λaf=>cond af (some cr) (eg (i64.wrap (cr+1)))) (some (-1))
def Fw (a0:axv) (J:cJ):Nat->Int->axf
 |0,_=>none
 |n+1,cr=>OS (Fw a0 J n) a0 J cr
def OT (a0:axv) (J:cJ):axf:=
 b6 λn=>Fw a0 J n 0
def Jc (a0:axv) (J:cJ):axe:=
 (OT a0 J).bind λU=>some (decide (0<=U))
def Jd (a0:axa):axe:=
 some false
def Je (a0:axa) (J:axa):axf:=
 (Jd a0).bind λU=>(Jd J).bind λaf=>cond U (cond af (some 0) (some (-1))) (cond af (some 1) (cond (Op.bytesLess a0 J) (some (-1)) (cond (!(Op.bytesLess a0 J||a0==J)) (some 1) (some 0))))
def Wh (eg:Int->axf) (a0:awZ) (J:awZ) (q8:Int):axf:=
 cond (decide (q8<(a0.length:Int))) ((bm a0 q8).bind λU=>cond (decide ((J.length:Int)<=q8)) (some 1) ((bm J q8).bind λaf=>(Je U af).bind λaK=>cond (aK !=0) (some aK) (eg (i64.wrap (q8+1))))) (cond (decide ((a0.length:Int)<(J.length:Int))) (some (-1)) (some 0))
def Jf (a0:awZ) (J:awZ):Nat->Int->axf
 |0,_=>none
 |n+1,q8=>Wh (Jf a0 J n) a0 J q8
def Jg (a0:awZ) (J:awZ):axf:=
 b6 λn=>Jf a0 J n 0
def Jh (a0:b5) (J:b5):axf:=
 (Jg [a0.Left,a0.cQ] [J.Left,J.cQ]).bind λU=>some U
def OU (a0:b5) (J:b5):axe:=
 some ((a0.Left==J.Result)||(a0.cQ==J.Result))
def OV (eg:Int->axf) (a0:axw) (J:b5) (cr:Int):axf:=
 cond (decide (cr<(a0.length:Int))) ((bm a0 cr).bind λU=>(OU U J).bind λaf=>cond af (some cr) (eg (i64.wrap (cr+1)))) (some (-1))
def Fx (a0:axw) (J:b5):Nat->Int->axf
 |0,_=>none
 |n+1,cr=>OV (Fx a0 J n) a0 J cr
def OW (a0:axw) (J:b5):axf:=
 b6 λn=>Fx a0 J n 0
def Fy (a0:axw) (J:b5):axe:=
 (OW a0 J).bind λU=>some (decide (0<=U))
def OX (eg:Int->axe) (a0:axw) (fK:Int):axe:=
 cond (decide (fK<(a0.length:Int))) ((bm a0 fK).bind λU=>(uf U.Left).bind λbo=>cond (!bo) (some false) ((uf U.cQ).bind λbD=>cond (!bD) (some false) ((uf U.Result).bind λbj=>cond (!bj) (some false) (cond (!(Op.bytesLess U.Left U.cQ||U.Left==U.cQ)) (some false) (cond (decide (0<fK)) ((bm a0 (i64.wrap (fK-1))).bind λcu=>(Jh cu U).bind λch=>cond (decide (0<=ch)) (some false) ((Fy a0 U).bind λcv=>cond cv (some false) (eg (i64.wrap (fK+1))))) ((Fy a0 U).bind λdP=>cond dP (some false) (eg (i64.wrap (fK+1))))))))) (some (decide ((a0.length:Int)<=6)))
def BX (a0:axw):Nat->Int->axe
 |0,_=>none
 |n+1,fK=>OX (BX a0 n) a0 fK
def Ji (a0:axw):axe:=
 b6 λn=>BX a0 n 0
def OY (eg:Int->axe) (a0:awZ) (fK:Int):axe:=
 cond (decide (fK<(a0.length:Int))) ((bm a0 fK).bind λU=>(uf U).bind λaf=>cond (!af) (some false) (cond (decide (0<fK)) ((bm a0 (i64.wrap (fK-1))).bind λaK=>cond (Op.bytesLess U aK||U==aK) (some false) (eg (i64.wrap (fK+1)))) (eg (i64.wrap (fK+1))))) (some (decide ((a0.length:Int)<=12)))
def BZ (a0:awZ):Nat->Int->axe
 |0,_=>none
 |n+1,fK=>OY (BZ a0 n) a0 fK
def Fz (a0:awZ):axe:=
 b6 λn=>BZ a0 n 0
def Jj (a0:cJ):axf:=
 (Ja a0.cq).bind λU=>cond (!U) (some 1) ((kS (a0.b_.length:Int) 1 3).bind λaf=>cond (!af) (some 2) ((Jc a0.b_ a0).bind λaK=>cond aK (some 2) ((Ji a0.b2).bind λa_=>cond (!a_) (some 3) ((Fz a0.cw).bind λbo=>cond (!bo) (some 4) ((Fz a0.ct).bind λbD=>cond (!bD) (some 5) (some 0))))))
def Jk (a0:cJ):axe:=
 (Jj a0).bind λU=>some (U==0)
def FA (a0:axu) (J:bd):axe:=
 (xp J.cD (a0.length:Int)).bind λU=>cond (!U) (some false) ((bm a0 J.cD).bind λaf=>(xp J.Part (af.Body.length:Int)).bind λaK=>cond (!aK) (some false) ((bm af.Body J.Part).bind λa_=>cond (a_.Kind !=5) ((BT af).bind λbo=>(bm bo J.Part).bind λbD=>cond ((J.bV.length:Int)==bD.scope) ((BW J.bV).bind λbj=>some bj) (some false)) (some false)))
def OZ (a0:bd) (J:cJ):axe:=
 (FA J.cq a0).bind λU=>some (!U)
def O0 (eg:Int->axf) (a0:axx) (J:cJ) (cr:Int):axf:=
 cond (decide (cr<(a0.length:Int))) ((bm a0 cr).bind λU=>(OZ U J).bind λaf=>cond af (some cr) (eg (i64.wrap (cr+1)))) (some (-1))
def FB (a0:axx) (J:cJ):Nat->Int->axf
 |0,_=>none
 |n+1,cr=>O0 (FB a0 J n) a0 J cr
def O1 (a0:axx) (J:cJ):axf:=
 b6 λn=>FB a0 J n 0
def Jl (a0:axx) (J:cJ):axe:=
 (O1 a0 J).bind λU=>some (decide (0<=U))
def Jm (a0:cJ) (J:axx):axe:=
 (Jk a0).bind λaf=>cond af (cond ((J.length:Int)==(a0.b_.length:Int)) ((Jl J a0).bind λaK=>some (!aK)) (some false)) (some false)
def O2 (uh:axs->Option (bZ×(List dj)×axs)) (j8:(List dj)->axs->Int->Option (bZ×(List dj)×axs)) (U:bZ) (aK:Int) (hW:List dj) (jU:axs) (sB:Int):Option (bZ×(List dj)×axs):=
 cond (decide (sB<aK)) ((uh jU).bind λa_=>(room 8 (hW.length+1)).bind λ_=>j8 (hW++[(dj.mk a_.1 a_.2.1)]) a_.2.2 (i64.wrap (sB+1))) (some (U,hW,jU))
def zh (uh:axs->Option (bZ×(List dj)×axs)) (U:bZ) (aK:Int):Nat->(List dj)->axs->Int->Option (bZ×(List dj)×axs)
 |0,_,_,_=>none
 |n+1,hW,jU,sB=>O2 uh (zh uh U aK n) U aK hW jU sB
def O3 (uh:axs->Option (bZ×(List dj)×axs)) (a0:axs):Option (bZ×(List dj)×axs):=
 (bm a0 0).bind λU=>(gC a0 1 (a0.length:Int)).bind λaf=>(I7 U).bind λaK=>b6 λn=>zh uh U aK n [] af 0
def B0:Nat->axs->Option (bZ×(List dj)×axs)
 |0,_=>none
 |n+1,a0=>O3 (B0 n) a0
def O4 (a0:axs):Option (bZ×(List dj)×axs):=
 b6 λn=>B0 n a0
def Jn (a0:axs):Option (bZ×(List dj)):=
 (O4 a0).bind λU=>some (U.1,U.2.1)
def q9 (a0:Bool):axf:=
 cond a0 (some 1) (some 0)
def Jo (a0:Int) (J:Int) (a2:Int):axf:=
 cond (a0==0) (some (Int.tmod (i64.wrap (J+a2)) 64)) (cond (a0==1) (some (Int.tmod (i64.wrap ((i64.wrap (J-a2))+64)) 64)) (cond (a0==2) (some (Int.tmod (i64.wrap (J*a2)) 64)) (cond (a0==3) ((q9 (J==a2)).bind λU=>some U) (cond (a0==4) ((q9 (J !=a2)).bind λaf=>some af) (cond (a0==5) ((q9 (decide (J<a2))).bind λaK=>some aK) (cond (a0==6) ((q9 (decide (J<=a2))).bind λa_=>some a_) (cond (a0==7) (cond (J !=0) ((q9 (a2 !=0)).bind λbo=>some bo) ((q9 false).bind λbD=>some bD)) (cond (J !=0) ((q9 true).bind λbj=>some bj) ((q9 (a2 !=0)).bind λcu=>some cu)))))))))
def O5 (B1:dj->axc->axf) (a0:dj) (J:axc):axf:=
 cond (a0.term.Kind==0) (some a0.term.Value) (cond (a0.term.Kind==1) ((bm J a0.term.Value).bind λU=>some U) (cond (a0.term.Kind==3) ((bm a0.args 0).bind λaf=>(B1 af J).bind λaK=>(q9 (aK==0)).bind λa_=>some a_) ((bm a0.args 0).bind λbo=>(B1 bo J).bind λbD=>(bm a0.args 1).bind λbj=>(B1 bj J).bind λcu=>(Jo a0.term.Value bD cu).bind λch=>some ch)))
def zi:Nat->dj->axc->axf
 |0,_,_=>none
 |n+1,a0,J=>O5 (zi n) a0 J
def O6 (a0:dj) (J:axc):axf:=
 b6 λn=>zi n a0 J
def B2 (a0:axs) (J:axc):axf:=
 (Jn a0).bind λU=>(O6 (dj.mk U.1 U.2) J).bind λaf=>some af
def O7 (fB:axc->Int->Option axc) (a0:axk) (J:axc) (fs:axc) (q_:Int):Option axc:=
 cond (decide (q_<(a0.length:Int))) ((bm a0 q_).bind λU=>(B2 U J).bind λaf=>(room 8 (fs.length+1)).bind λ_=>fB (fs++[af]) (i64.wrap (q_+1))) (some fs)
def B3 (a0:axk) (J:axc):Nat->axc->Int->Option axc
 |0,_,_=>none
 |n+1,fs,q_=>O7 (B3 a0 J n) a0 J fs q_
def FC (a0:axk) (J:axc):Option axc:=
 b6 λn=>B3 a0 J n [] 0
def xq (n:Nat):axa:=if h:n<10 then [UInt8.ofNat (48+n)]else xq (n/10)++[UInt8.ofNat (48+n%10)]
 termination_by n
 decreasing_by omega
def FD (n:Int):axa:=if n<0 then 45::xq n.natAbs else xq n.toNat
def B4 (a0 J:Int):Option axa:=if-9223372036854775808<=a0/\a0<=9223372036854775807/\J=10 then some (FD a0)else none
def ra (a0:Int):Option axa:=
 (B4 a0 10).bind λU=>some U
def strings_Join (a0:awZ) (J:axa):Option axa:=if a0.length<=140737488355328/\(jq a0 J).length<=140737488355328 then some (jq a0 J)else none
def O8 (fB:awZ->Int->Option axa) (a0:axc) (J:axa) (fs:awZ) (n6:Int):Option axa:=
 cond (decide (n6<(a0.length:Int))) ((bm a0 n6).bind λU=>(ra U).bind λaf=>(bm fs n6).bind λaK=>fB (List.set fs (Int.toNat n6) af) (i64.wrap (n6+1))) ((strings_Join fs J).bind λa_=>some a_)
def B5 (a0:axc) (J:axa):Nat->awZ->Int->Option axa
 |0,_,_=>none
 |n+1,fs,n6=>O8 (B5 a0 J n) a0 J fs n6
def zj (a0:axc) (J:axa):Option axa:=
 (nr 16 (a0.length:Int)).bind λ_=>b6 λn=>B5 a0 J n (replicate (Int.toNat (a0.length:Int)) ([]:axa)) 0
def zk (a0:axa) (J:axc):Option (axa×Bool):=
 cond (a0==([116,97,117]:axa)) (some (([116,97,117]:axa),((J.length:Int)==0))) ((uf a0).bind λaf=>cond (!af) (some (([]:axa),false)) (cond (decide (2<(J.length:Int))) (some (([]:axa),false)) ((BW J).bind λaK=>cond (!aK) (some (([]:axa),false)) (cond ((J.length:Int)==0) (some (a0,true)) ((ko (a0.length+1)).bind λ_=>(zj J ([44]:axa)).bind λa_=>(ko ((a0++([40]:axa)).length+a_.length)).bind λ_=>(ko (((a0++([40]:axa))++a_).length+1)).bind λ_=>some ((((a0++([40]:axa))++a_)++([41]:axa)),true))))))
def B6 (a0:axc):Option axc:=
 cond a0.isEmpty (both (some []) ((room 8 (a0.length)).bind λ_=>some a0)) ((room 8 (a0.length)).bind λ_=>some a0)
def O9 (a0:Int):axe:=
 (kS a0 (-1000000000000) 1000000000000).bind λU=>some (!U)
def O_ (eg:Int->axf) (a0:axc) (cr:Int):axf:=
 cond (decide (cr<(a0.length:Int))) ((bm a0 cr).bind λU=>(O9 U).bind λaf=>cond af (some cr) (eg (i64.wrap (cr+1)))) (some (-1))
def B7 (a0:axc):Nat->Int->axf
 |0,_=>none
 |n+1,cr=>O_ (B7 a0 n) a0 cr
def Pa (a0:axc):axf:=
 b6 λn=>B7 a0 n 0
def Pb (a0:axc):axe:=
 (Pa a0).bind λU=>some (decide (0<=U))
def Jp (a0:axc):axe:=
 cond (decide ((a0.length:Int)<=64)) ((Pb a0).bind λU=>some (!U)) (some false)
def FE (a0:axc):Option axa:=
 (Jp a0).bind λU=>cond (!U) (some ([]:axa)) (cond ((a0.length:Int)==0) (some ([45]:axa)) ((zj a0 ([44]:axa)).bind λaf=>some af))
def Jq (a0:bd):Option axa:=
 (ra a0.Part).bind λU=>(ko (U.length+1)).bind λ_=>(FE a0.bV).bind λaf=>(ko ((U++([58]:axa)).length+af.length)).bind λ_=>some ((U++([58]:axa))++af)
def zl (a0:bd):Option axa:=
 (ra a0.cD).bind λU=>(ko (U.length+1)).bind λ_=>(Jq a0).bind λaf=>(ko ((U++([58]:axa)).length+af.length)).bind λ_=>some ((U++([58]:axa))++af)
def Jr (bp:axu) (bs:axz) (br:awY) (iq:axa) (kg:Int) (pK:Int) (ui:axc):Option (axu×axz×awY):=
 (ko (iq.length+1)).bind λ_=>(zl (bd.mk kg pK ui)).bind λU=>(ko ((iq++([32]:axa)).length+U.length)).bind λ_=>cond (!(jL ((iq++([32]:axa))++U) br)) ((room 56 (bs.length+1)).bind λ_=>some (bp,(bs++[(a7.mk iq (bd.mk kg pK ui))]),(j1 ((iq++([32]:axa))++U) true br))) (some (bp,bs,br))
def Js (n7:axu->axz->awY->Int->Int->axc->Option (axu×axz×awY)) (bp:axu) (bs:axz) (br:awY) (a_:axa×Bool) (B8:Int) (B9:Int) (B_:axc):Option (axu×axz×awY):=
 (Jr bp bs br a_.1 B8 B9 B_).bind λbD=>some (bD.1,bD.2.1,bD.2.2)
def Pc (n7:axu->axz->awY->Int->Int->axc->Option (axu×axz×awY)) (ahx:axu->axz->awY->Int->Option (axu×axz×awY)) (J:Int) (a2:Int) (a3:axc) (af:cG) (vy:axu) (vz:axz) (vA:awY) (kT:Int):Option (axu×axz×awY):=
 cond (decide (kT<(i64.wrap (af.Number+1)))) ((B6 a3).bind λft=>(room 8 (ft.length+1)).bind λ_=>(n7 vy vz vA J (i64.wrap (a2+1)) (ft++[kT])).bind λhV=>ahx hV.1 hV.2.1 hV.2.2 (i64.wrap (kT+1))) (some (vy,vz,vA))
def Ca (n7:axu->axz->awY->Int->Int->axc->Option (axu×axz×awY)) (J:Int) (a2:Int) (a3:axc) (af:cG):Nat->axu->axz->awY->Int->Option (axu×axz×awY)
 |0,_,_,_,_=>none
 |n+1,vy,vz,vA,kT=>Pc n7 (Ca n7 J a2 a3 af n) J a2 a3 af vy vz vA kT
def xr (n7:axu->axz->awY->Int->Int->axc->Option (axu×axz×awY)) (bp:axu) (bs:axz) (br:awY) (J:Int) (a2:Int) (a3:axc):Option (axu×axz×awY):=
 (bm bp J).bind λU=>(bm U.Body a2).bind λaf=>cond (af.Kind==1) ((FC af.cO a3).bind λaK=>(zk af.Name aK).bind λa_=>(B6 a3).bind λbo=>(bm U.Body (i64.wrap (a2+1))).bind λbj=>cond (bj.Kind==5) ((FC bj.cO a3).bind λcu=>Js n7 bp bs br a_ bj.Number 0 cu) (Js n7 bp bs br a_ J (i64.wrap (a2+1)) bo)) (cond (af.Kind==2) ((n7 bp bs br J (i64.wrap (a2+1)) a3).bind λch=>(Fl U (i64.wrap (a2+1))).bind λcv=>(n7 ch.1 ch.2.1 ch.2.2 J cv a3).bind λdP=>some (dP.1,dP.2.1,dP.2.2)) (cond (af.Kind==3) ((bm af.cO 0).bind λgz=>(B2 gz a3).bind λhG=>cond (hG !=0) ((n7 bp bs br J (i64.wrap (a2+1)) a3).bind λeZ=>some (eZ.1,eZ.2.1,eZ.2.2)) (some (bp,bs,br))) (cond (af.Kind==4) (b6 λn=>Ca n7 J a2 a3 af n bp bs br 0) (some (bp,bs,br)))))
def rb:Nat->axu->axz->awY->Int->Int->axc->Option (axu×axz×awY)
 |0,_,_,_,_,_,_=>none
 |n+1,bp,bs,br,J,a2,a3=>xr (rb n) bp bs br J a2 a3
def Jt (bp:axu) (bs:axz) (br:awY) (J:Int) (a2:Int) (a3:axc):Option (axu×axz×awY):=
 b6 λn=>rb n bp bs br J a2 a3
def uj (a0:axu) (J:bd):Option (axz×Bool):=
 (Jt a0 [] [] J.cD J.Part J.bV).bind λU=>some (U.2.1,(decide ((U.2.1.length:Int)<=200)))
def sC:axa->UInt8->Int
 |[],_=> -1
 |b::l,c=>if b==c then 0 else if sC l c== -1 then-1 else sC l c+1
def Pd (a0:axa) (J:UInt8):axf:=some (sC a0 J)
def Pe (a0:axa) (J:UInt8):axf:=
 (Pd a0 J).bind λU=>some U
def vB (a0:axa) (J:axa):axf:=
 cond (((J.length:Int)==0)||(J==a0)) (some 0) (cond ((J.length:Int)==1) ((bm J 0).bind λU=>(Pe a0 U).bind λaf=>some af) (cond (decide ((a0.length:Int)<=(J.length:Int))) (some (-1)) (none)))
def Ju (a0:axa) (J:axa):Option (axa×axa×Bool):=
 (vB a0 J).bind λU=>cond (decide (0<=U)) ((gC a0 0 U).bind λaf=>(gC a0 (i64.wrap (U+(J.length:Int))) (a0.length:Int)).bind λaK=>some (af,aK,true)) (some (a0,([]:axa),false))
def Cb (a0:axa) (J:axa):Option (axa×axa×Bool):=
 (Ju a0 J).bind λU=>some (U.1,U.2.1,U.2.2)
def Pf (a0:axa) (J:axa):axe:=
 cond (decide ((J.length:Int)<=(a0.length:Int))) ((gC a0 (i64.wrap ((a0.length:Int)-(J.length:Int))) (a0.length:Int)).bind λU=>some (U==J)) (some false)
def Pg (a0:axa) (J:axa):Option axa:=
 (Pf a0 J).bind λU=>cond U ((gC a0 0 (i64.wrap ((a0.length:Int)-(J.length:Int)))).bind λaf=>some af) (some a0)
def strings_TrimSuffix (a0:axa) (J:axa):Option axa:=
 (Pg a0 J).bind λU=>some U
def Ph (a0:axa) (J:UInt8):axf:=some (a0.count J:Nat)
def FF (a0:axa) (J:axa):axf:=
 (vB a0 J).bind λU=>some U
def ahy (ahz:axa->Int->axf) (J:axa) (uk:axa) (um:Int):axf:=
 (FF uk J).bind λaK=>cond (aK==(-1)) (some um) ((gC uk (i64.wrap (aK+(J.length:Int))) (uk.length:Int)).bind λa_=>ahz a_ (i64.wrap (um+1)))
def Pj (J:axa):Nat->axa->Int->axf
 |0,_,_=>none
 |n+1,uk,um=>ahy (Pj J n) J uk um
def Pk (a0:axa) (J:axa):axf:=
 cond ((J.length:Int)==0) (none) (cond ((J.length:Int)==1) ((bm J 0).bind λU=>(Ph a0 U).bind λaf=>some af) (b6 λn=>Pj J n a0 0))
def FG (a0:axa) (J:axa) (a2:Int) (jE:Int) (Cc:axa) (zm:awZ) (vC:Int):Option awZ:=
 (bm zm vC).bind λU=>(gC (List.set zm (Int.toNat vC) Cc) 0 (i64.wrap (vC+1))).bind λaf=>some af
def Pl (NV:axa->awZ->Int->Option awZ) (a0:axa) (J:axa) (a2:Int) (jE:Int) (oB:axa) (nE:awZ) (ld:Int):Option awZ:=
 cond (decide (ld<(i64.wrap ((kH false jE (i64.wrap ((a0.length:Int)+1)))-1)))) ((FF oB J).bind λaK=>cond (decide (aK<0)) (FG a0 J a2 jE oB nE ld) ((gC oB 0 (i64.wrap (aK+a2))).bind λa_=>(bm nE ld).bind λbo=>(gC oB (i64.wrap (aK+(J.length:Int))) (oB.length:Int)).bind λbD=>NV bD (List.set nE (Int.toNat ld) a_) (i64.wrap (ld+1)))) (FG a0 J a2 jE oB nE ld)
def zn (a0:axa) (J:axa) (a2:Int) (jE:Int):Nat->axa->awZ->Int->Option awZ
 |0,_,_,_=>none
 |n+1,oB,nE,ld=>Pl (zn a0 J a2 jE n) a0 J a2 jE oB nE ld
def Jv (a0:axa) (J:axa) (a2:Int) (jE:Int):Option awZ:=
 (nr 16 (kH false jE (i64.wrap ((a0.length:Int)+1)))).bind λ_=>b6 λn=>zn a0 J a2 jE n a0 (replicate (Int.toNat (kH false jE (i64.wrap ((a0.length:Int)+1)))) ([]:axa)) 0
def Pm (a0:axa) (J:axa) (a2:Int) (a3:Int):Option awZ:=
 cond (a3==0) (some []) (cond (J==([]:axa)) (none) (cond (decide (a3<0)) ((Pk a0 J).bind λbj=>Jv a0 J a2 (i64.wrap (bj+1))) (Jv a0 J a2 a3)))
def Jw (a0:axa) (J:axa):Option awZ:=
 (Pm a0 J 0 (-1)).bind λU=>some U
def gQ (c:UInt8):Bool:=decide (48<=c.toNat)&&decide (c.toNat<=57)
def mN (d:axa):Nat:=d.foldl (λn c=>10*n+(c.toNat-48)) 0
def pL (k:Nat) (d:axa):Int×Bool:=if d≠[]/\d.length<=18/\d.all gQ=true/\¬(d.head? =some 48/\1<d.length+k)then(if k=1 then-(mN d:Int)else mN d,true)else(0,false)
def jV (s:axa):Int×Bool:=if s.head? =some 45 then pL 1 s.tail else pL 0 s
def Jx (a0:axa):Option (Int×Bool):=some (jV a0)
def Pn (fB:axc->Int->Option (axc×Bool)) (a0:awZ) (bJ:axc) (re:Int):Option (axc×Bool):=
 cond (decide (re<(a0.length:Int))) ((bm a0 re).bind λU=>(Jx U).bind λaf=>cond (!af.2) (some ([],false)) ((room 8 (bJ.length+1)).bind λ_=>fB (bJ++[af.1]) (i64.wrap (re+1)))) (some (bJ,true))
def Cd (a0:awZ):Nat->axc->Int->Option (axc×Bool)
 |0,_,_=>none
 |n+1,bJ,re=>Pn (Cd a0 n) a0 bJ re
def Jy (a0:awZ):Option (axc×Bool):=
 b6 λn=>Cd a0 n [] 0
def FH (a0:axa) (U:axa×axa×Bool) (uo:axc):Option (axa×axc×Bool):=
 (zk U.1 uo).bind λaf=>cond ((!af.2)||(!(af.1==a0))) (some (([]:axa),[],false)) (some (U.1,uo,true))
def zo (a0:axa):Option (axa×axc×Bool):=
 (Cb a0 ([40]:axa)).bind λU=>cond U.2.2 ((strings_TrimSuffix U.2.1 ([41]:axa)).bind λaK=>(Jw aK ([44]:axa)).bind λa_=>(Jy a_).bind λbo=>cond (!bo.2) (some (([]:axa),[],false)) (FH a0 U bo.1)) (FH a0 U [])
def Po (eg:Int->axf) (a0:awZ) (J:axa) (cr:Int):axf:=
 cond (decide (cr<(a0.length:Int))) ((bm a0 cr).bind λU=>cond (J==U) (some cr) (eg (i64.wrap (cr+1)))) (some (-1))
def zp (a0:awZ) (J:axa):Nat->Int->axf
 |0,_=>none
 |n+1,cr=>Po (zp a0 J n) a0 J cr
def Pp (a0:awZ) (J:axa):axf:=
 b6 λn=>zp a0 J n 0
def Ce (a0:awZ) (J:axa):axe:=
 (Pp a0 J).bind λU=>some (decide (0<=U))
def zq (a0:bd):Option bd:=
 (B6 a0.bV).bind λU=>some (bd.mk a0.cD a0.Part U)
def Pq (fB:axx->Int->Option axx) (a0:axx) (bT:axx) (kU:Int):Option axx:=
 cond (decide (kU<(a0.length:Int))) ((bm a0 kU).bind λU=>(zq U).bind λaf=>(room 40 (bT.length+1)).bind λ_=>fB (bT++[af]) (i64.wrap (kU+1))) (some bT)
def Cf (a0:axx):Nat->axx->Int->Option axx
 |0,_,_=>none
 |n+1,bT,kU=>Pq (Cf a0 n) a0 bT kU
def Jz (a0:axx):Option axx:=
 b6 λn=>Cf a0 n [] 0
def Pr (fB:awZ->Int->Option axa) (a0:axx) (bT:awZ) (kU:Int):Option axa:=
 cond (decide (kU<(a0.length:Int))) ((bm a0 kU).bind λU=>(zl U).bind λaf=>(room 16 (bT.length+1)).bind λ_=>fB (bT++[af]) (i64.wrap (kU+1))) ((strings_Join bT ([32]:axa)).bind λaK=>some aK)
def Cg (a0:axx):Nat->awZ->Int->Option axa
 |0,_,_=>none
 |n+1,bT,kU=>Pr (Cg a0 n) a0 bT kU
def JA (a0:axx):Option axa:=
 b6 λn=>Cg a0 n [] 0
def Ch (a3:Int) (a4:Int) (bp:axu) (bs:axv) (br:axw) (bO:awZ) (bP:awZ) (gq:axx) (gI:axy) (gr:awY) (h9:axa) (mO:axx):Option (axu×axv×axw×awZ×awZ×axx×axy×awY):=
 (ko (h9.length+1)).bind λ_=>(ra a3).bind λlD=>(ko ((h9++([32]:axa)).length+lD.length)).bind λ_=>(ko (((h9++([32]:axa))++lD).length+1)).bind λ_=>(ra a4).bind λl3=>(ko ((((h9++([32]:axa))++lD)++([32]:axa)).length+l3.length)).bind λ_=>(ko (((((h9++([32]:axa))++lD)++([32]:axa))++l3).length+1)).bind λ_=>(JA mO).bind λmL=>(ko ((((((h9++([32]:axa))++lD)++([32]:axa))++l3)++([32]:axa)).length+mL.length)).bind λ_=>cond (!(jL ((((((h9++([32]:axa))++lD)++([32]:axa))++l3)++([32]:axa))++mL) gr)) ((room 56 (gI.length+1)).bind λ_=>some (bp,bs,br,bO,bP,gq,(gI++[(bh.mk h9 a3 a4 mO)]),(j1 ((((((h9++([32]:axa))++lD)++([32]:axa))++l3)++([32]:axa))++mL) true gr))) (some (bp,bs,br,bO,bP,gq,gI,gr))
def ql (a3:Int) (a4:Int) (a5:axx) (bp:axu) (bs:axv) (br:axw) (bO:awZ) (bP:awZ) (gq:axx) (gI:axy) (gr:awY) (sD:axa) (sE:axc):Option (axu×axv×axw×awZ×awZ×axx×axy×awY):=
 (zk sD sE).bind λeZ=>(Jz gq).bind λft=>(bm a5 0).bind λhV=>(zq hV).bind λjD=>(bm ft a3).bind λpG=>cond (decide (0<=a4)) ((bm a5 1).bind λlb=>(zq lb).bind λmM=>(bm (List.set ft (Int.toNat a3) jD) a4).bind λzb=>Ch a3 a4 bp bs br bO bP gq gI gr eZ.1 (List.set (List.set ft (Int.toNat a3) jD) (Int.toNat a4) mM)) (Ch a3 a4 bp bs br bO bP gq gI gr eZ.1 (List.set ft (Int.toNat a3) jD))
def Ci (bp:axu) (bs:axv) (br:axw) (bO:awZ) (bP:awZ) (gq:axx) (gI:axy) (gr:awY) (J:axa) (a2:axc) (a3:Int) (a4:Int) (a5:axx):Option (axu×axv×axw×awZ×awZ×axx×axy×awY):=
 cond (!(J==([116,97,117]:axa))) ((Ce bO J).bind λU=>cond (!U) (some (bp,bs,br,bO,bP,gq,gI,gr)) ((Ce bP J).bind λhG=>cond hG (ql a3 a4 a5 bp bs br bO bP gq gI gr ([116,97,117]:axa) []) (ql a3 a4 a5 bp bs br bO bP gq gI gr J a2))) ((Ce bP J).bind λqj=>cond qj (ql a3 a4 a5 bp bs br bO bP gq gI gr ([116,97,117]:axa) []) (ql a3 a4 a5 bp bs br bO bP gq gI gr J a2))
def Wi (a0:b5) (J:axa) (a2:axa):axe:=
 some ((a0.Left==(hJ false J a2))&&(a0.cQ==(hJ true J a2)))
def Ps (eg:Int->axf) (a0:axw) (iq:axa) (kg:axa) (cr:Int):axf:=
 cond (decide (cr<(a0.length:Int))) ((bm a0 cr).bind λU=>(Wi U iq kg).bind λaf=>cond af (some cr) (eg (i64.wrap (cr+1)))) (some (-1))
def Cj (a0:axw) (iq:axa) (kg:axa):Nat->Int->axf
 |0,_=>none
 |n+1,cr=>Ps (Cj a0 iq kg n) a0 iq kg cr
def Pt (a0:axw) (iq:axa) (kg:axa):axf:=
 b6 λn=>Cj a0 iq kg n 0
def zr (a0:cJ) (J:axa) (a2:axa):Option (axa×Bool):=
 (Pt a0.b2 J a2).bind λU=>cond (decide (U<0)) (some (([]:axa),false)) ((bm a0.b2 U).bind λaf=>some (af.Result,true))
def Pu (fC:Int->axe) (a0:axc) (J:axc) (sF:Int):axe:=
 cond (decide (sF<(a0.length:Int))) ((bm a0 sF).bind λU=>(bm J sF).bind λaf=>cond (U !=af) (some false) (fC (i64.wrap (sF+1)))) (some true)
def Ck (a0:axc) (J:axc):Nat->Int->axe
 |0,_=>none
 |n+1,sF=>Pu (Ck a0 J n) a0 J sF
def FI (a0:axc) (J:axc):axe:=
 cond ((a0.length:Int) !=(J.length:Int)) (some false) (b6 λn=>Ck a0 J n 0)
def FJ (dH:axu->axv->axw->awZ->awZ->axx->axy->awY->Int->Option (axu×axv×axw×awZ×awZ×axx×axy×awY)) (FK:axu->axv->axw->awZ->awZ->axx->axy->awY->Int->Int->Option (axu×axv×axw×awZ×awZ×axx×axy×awY)) (J:Int) (a2:Int) (a3:axz) (a4:axz) (U:a7) (af:axa×axc×Bool) (Cl:axu) (Cm:axv) (Cn:axw) (Co:awZ) (Cp:awZ) (Cq:axx) (Cr:axy) (Cs:awY) (Ct:Int) (Cu:Int):Option (axu×axv×axw×awZ×awZ×axx×axy×awY):=
 FK Cl Cm Cn Co Cp Cq Cr Cs Ct (i64.wrap (Cu+1))
def Pv (dH:axu->axv->axw->awZ->awZ->axx->axy->awY->Int->Option (axu×axv×axw×awZ×awZ×axx×axy×awY)) (FK:axu->axv->axw->awZ->awZ->axx->axy->awY->Int->Int->Option (axu×axv×axw×awZ×awZ×axx×axy×awY)) (J:Int) (a2:Int) (a3:axz) (a4:axz) (U:a7) (af:axa×axc×Bool) (n8:axu) (n9:axv) (n_:axw) (oa:awZ) (ob:awZ) (o_:axx) (pa:axy) (pb:awY) (oC:Int) (oD:Int):Option (axu×axv×axw×awZ×awZ×axx×axy×awY):=
 cond (decide (oD<(a4.length:Int))) ((bm a4 oD).bind λaK=>(zo aK.Label).bind λa_=>(zr (cJ.mk n8 n9 n_ oa ob) af.1 a_.1).bind λbo=>cond bo.2 ((FI af.2.1 a_.2.1).bind λbD=>cond bD ((Ci n8 n9 n_ oa ob o_ pa pb bo.1 af.2.1 J a2 [U.Next,aK.Next]).bind λbj=>FJ dH FK J a2 a3 a4 U af bj.1 bj.2.1 bj.2.2.1 bj.2.2.2.1 bj.2.2.2.2.1 bj.2.2.2.2.2.1 bj.2.2.2.2.2.2.1 bj.2.2.2.2.2.2.2 oC oD) (FJ dH FK J a2 a3 a4 U af n8 n9 n_ oa ob o_ pa pb oC oD)) (FJ dH FK J a2 a3 a4 U af n8 n9 n_ oa ob o_ pa pb oC oD)) (dH n8 n9 n_ oa ob o_ pa pb (i64.wrap (oC+1)))
def vD (dH:axu->axv->axw->awZ->awZ->axx->axy->awY->Int->Option (axu×axv×axw×awZ×awZ×axx×axy×awY)) (J:Int) (a2:Int) (a3:axz) (a4:axz) (U:a7) (af:axa×axc×Bool):Nat->axu->axv->axw->awZ->awZ->axx->axy->awY->Int->Int->Option (axu×axv×axw×awZ×awZ×axx×axy×awY)
 |0,_,_,_,_,_,_,_,_,_,_=>none
 |n+1,n8,n9,n_,oa,ob,o_,pa,pb,oC,oD=>Pv dH (vD dH J a2 a3 a4 U af n) J a2 a3 a4 U af n8 n9 n_ oa ob o_ pa pb oC oD
def Pw (dH:axu->axv->axw->awZ->awZ->axx->axy->awY->Int->Option (axu×axv×axw×awZ×awZ×axx×axy×awY)) (J:Int) (a2:Int) (a3:axz) (a4:axz) (uq:axu) (ur:axv) (uu:axw) (uv:awZ) (uw:awZ) (ux:axx) (uy:axy) (uz:awY) (sG:Int):Option (axu×axv×axw×awZ×awZ×axx×axy×awY):=
 cond (decide (sG<(a3.length:Int))) ((bm a3 sG).bind λU=>(zo U.Label).bind λaf=>b6 λn=>vD dH J a2 a3 a4 U af n uq ur uu uv uw ux uy uz sG 0) (some (uq,ur,uu,uv,uw,ux,uy,uz))
def sH (J:Int) (a2:Int) (a3:axz) (a4:axz):Nat->axu->axv->axw->awZ->awZ->axx->axy->awY->Int->Option (axu×axv×axw×awZ×awZ×axx×axy×awY)
 |0,_,_,_,_,_,_,_,_,_=>none
 |n+1,uq,ur,uu,uv,uw,ux,uy,uz,sG=>Pw (sH J a2 a3 a4 n) J a2 a3 a4 uq ur uu uv uw ux uy uz sG
def Px (bp:axu) (bs:axv) (br:axw) (bO:awZ) (bP:awZ) (gq:axx) (gI:axy) (gr:awY) (J:Int) (a2:Int) (a3:axz) (a4:axz):Option (axu×axv×axw×awZ×awZ×axx×axy×awY):=
 b6 λn=>sH J a2 a3 a4 n bp bs br bO bP gq gI gr 0
def Py (j8:cJ->axx->axy->awY->axl->Int->Option (axy×Bool)) (ahA:cJ->axx->axy->awY->axl->Int->Int->Int->Option (axy×Bool)) (a0:cJ) (J:axx) (af:axz×Bool) (mP:cJ) (rf:axx) (rh:axy) (ri:awY) (qm:axl) (pM:Int) (qn:Int) (qo:Int):Option (axy×Bool):=
 cond (decide (qo<(af.1.length:Int))) ((bm af.1 qo).bind λaK=>(zo aK.Label).bind λa_=>(Ci mP.cq mP.b_ mP.b2 mP.cw mP.ct rf rh ri a_.1 a_.2.1 pM (-1) [aK.Next]).bind λbo=>ahA (cJ.mk bo.1 bo.2.1 bo.2.2.1 bo.2.2.2.1 bo.2.2.2.2.1) bo.2.2.2.2.2.1 bo.2.2.2.2.2.2.1 bo.2.2.2.2.2.2.2 qm pM qn (i64.wrap (qo+1))) (j8 mP rf rh ri qm (i64.wrap (qn+1)))
def xt (j8:cJ->axx->axy->awY->axl->Int->Option (axy×Bool)) (a0:cJ) (J:axx) (af:axz×Bool):Nat->cJ->axx->axy->awY->axl->Int->Int->Int->Option (axy×Bool)
 |0,_,_,_,_,_,_,_,_=>none
 |n+1,mP,rf,rh,ri,qm,pM,qn,qo=>Py j8 (xt j8 a0 J af n) a0 J af mP rf rh ri qm pM qn qo
def Pz (qh:cJ->axx->axy->awY->axl->Int->Option (axy×Bool)) (ahB:cJ->axx->axy->awY->axl->Int->Int->Int->Option (axy×Bool)) (J:axx) (nF:cJ) (uA:axx) (uB:axy) (uC:awY) (qp:axl) (qq:Int) (pN:Int) (sI:Int):Option (axy×Bool):=
 cond (decide (pN<(J.length:Int))) ((bm qp qq).bind λbD=>(bm qp pN).bind λbj=>(Px nF.cq nF.b_ nF.b2 nF.cw nF.ct uA uB uC qq pN bD bj).bind λcu=>ahB (cJ.mk cu.1 cu.2.1 cu.2.2.1 cu.2.2.2.1 cu.2.2.2.2.1) cu.2.2.2.2.2.1 cu.2.2.2.2.2.2.1 cu.2.2.2.2.2.2.2 qp qq (i64.wrap (pN+1)) sI) (qh nF uA uB uC qp (i64.wrap (sI+1)))
def zs (qh:cJ->axx->axy->awY->axl->Int->Option (axy×Bool)) (J:axx):Nat->cJ->axx->axy->awY->axl->Int->Int->Int->Option (axy×Bool)
 |0,_,_,_,_,_,_,_,_=>none
 |n+1,nF,uA,uB,uC,qp,qq,pN,sI=>Pz qh (zs qh J n) J nF uA uB uC qp qq pN sI
def PA (qh:cJ->axx->axy->awY->axl->Int->Option (axy×Bool)) (J:axx) (xu:cJ) (xv:axx) (rj:axy) (xw:awY) (xx:axl) (qs:Int):Option (axy×Bool):=
 cond (decide (qs<(J.length:Int))) (b6 λn=>zs qh J n xu xv rj xw xx qs (i64.wrap (qs+1)) qs) (some (rj,(decide ((rj.length:Int)<=200))))
def vE (J:axx):Nat->cJ->axx->axy->awY->axl->Int->Option (axy×Bool)
 |0,_,_,_,_,_,_=>none
 |n+1,xu,xv,rj,xw,xx,qs=>PA (vE J n) J xu xv rj xw xx qs
def FL (j8:cJ->axx->axy->awY->axl->Int->Option (axy×Bool)) (a0:cJ) (J:axx) (la:cJ) (qt:axx) (qu:axy) (qv:awY) (gb:axl) (nG:Int):Option (axy×Bool):=
 cond (decide (nG<(J.length:Int))) ((bm J nG).bind λU=>(uj a0.cq U).bind λaf=>cond (!af.2) (some ([],false)) ((room 24 (gb.length+1)).bind λ_=>b6 λn=>xt j8 a0 J af n la qt qu qv (gb++[af.1]) nG nG 0)) (b6 λn=>vE J n la qt qu qv gb 0)
def pO (a0:cJ) (J:axx):Nat->cJ->axx->axy->awY->axl->Int->Option (axy×Bool)
 |0,_,_,_,_,_,_=>none
 |n+1,la,qt,qu,qv,gb,nG=>FL (pO a0 J n) a0 J la qt qu qv gb nG
def JB (a0:cJ) (J:axx):Option (axy×Bool):=
 b6 λn=>pO a0 J n a0 J [] [] [] 0
def PB (a0:cJ) (J:axx):Option (axy×Int):=
 (Jm a0 J).bind λU=>cond (!U) (some ([],1)) ((JB a0 J).bind λaf=>cond (!af.2) (some ([],5)) (some (af.1,0)))
def JC (a0:cJ) (J:axx):axe:=
 (PB a0 J).bind λU=>some ((U.2==0)&&((U.1.length:Int)==0))
def FM (a0:bZ) (J:bZ):axe:=
 cond (a0.Kind !=J.Kind) (some false) (cond (a0.Value !=J.Value) (some false) (some true))
def ahC (fC:Int->axe) (a0:axs) (J:axs) (cb:Int):axe:=
 cond (decide (cb<(a0.length:Int))) ((bm a0 cb).bind λU=>(bm J cb).bind λaf=>(FM U af).bind λaK=>cond (!aK) (some false) (fC (i64.wrap (cb+1)))) (some true)
def PC (a0:axs) (J:axs):Nat->Int->axe
 |0,_=>none
 |n+1,cb=>ahC (PC a0 J n) a0 J cb
def FN (a0:axs) (J:axs):axe:=
 cond ((a0.length:Int) !=(J.length:Int)) (some false) (b6 λn=>PC a0 J n 0)
def ahD (fC:Int->axe) (a0:axk) (J:axk) (cb:Int):axe:=
 cond (decide (cb<(a0.length:Int))) ((bm a0 cb).bind λU=>(bm J cb).bind λaf=>(FN U af).bind λaK=>cond (!aK) (some false) (fC (i64.wrap (cb+1)))) (some true)
def PD (a0:axk) (J:axk):Nat->Int->axe
 |0,_=>none
 |n+1,cb=>ahD (PD a0 J n) a0 J cb
def JD (a0:axk) (J:axk):axe:=
 cond ((a0.length:Int) !=(J.length:Int)) (some false) (b6 λn=>PD a0 J n 0)
def FO (a0:cG) (J:cG):axe:=
 cond (a0.Kind !=J.Kind) (some false) (cond (a0.Number !=J.Number) (some false) (cond (!(a0.Name==J.Name)) (some false) ((JD a0.cO J.cO).bind λU=>cond (!U) (some false) (some true))))
def ahE (fC:Int->axe) (a0:axt) (J:axt) (cb:Int):axe:=
 cond (decide (cb<(a0.length:Int))) ((bm a0 cb).bind λU=>(bm J cb).bind λaf=>(FO U af).bind λaK=>cond (!aK) (some false) (fC (i64.wrap (cb+1)))) (some true)
def PE (a0:axt) (J:axt):Nat->Int->axe
 |0,_=>none
 |n+1,cb=>ahE (PE a0 J n) a0 J cb
def JE (a0:axt) (J:axt):axe:=
 cond ((a0.length:Int) !=(J.length:Int)) (some false) (b6 λn=>PE a0 J n 0)
def FP (a0:a6) (J:a6):axe:=
 cond (!(a0.Name==J.Name)) (some false) (cond (a0.ej !=J.ej) (some false) ((JE a0.Body J.Body).bind λU=>cond (!U) (some false) (some true)))
def ahF (fC:Int->axe) (a0:axu) (J:axu) (cb:Int):axe:=
 cond (decide (cb<(a0.length:Int))) ((bm a0 cb).bind λU=>(bm J cb).bind λaf=>(FP U af).bind λaK=>cond (!aK) (some false) (fC (i64.wrap (cb+1)))) (some true)
def PF (a0:axu) (J:axu):Nat->Int->axe
 |0,_=>none
 |n+1,cb=>ahF (PF a0 J n) a0 J cb
def JF (a0:axu) (J:axu):axe:=
 cond ((a0.length:Int) !=(J.length:Int)) (some false) (b6 λn=>PF a0 J n 0)
def ahG (fC:Int->axe) (a0:axc) (J:axc) (cb:Int):axe:=
 cond (decide (cb<(a0.length:Int))) ((bm a0 cb).bind λU=>(bm J cb).bind λaf=>cond (U !=af) (some false) (fC (i64.wrap (cb+1)))) (some true)
def PG (a0:axc) (J:axc):Nat->Int->axe
 |0,_=>none
 |n+1,cb=>ahG (PG a0 J n) a0 J cb
def FQ (a0:axc) (J:axc):axe:=
 cond ((a0.length:Int) !=(J.length:Int)) (some false) (b6 λn=>PG a0 J n 0)
def FR (a0:di) (J:di):axe:=
 cond (a0.cD !=J.cD) (some false) ((FQ a0.bV J.bV).bind λU=>cond (!U) (some false) (some true))
def ahH (fC:Int->axe) (a0:axv) (J:axv) (cb:Int):axe:=
 cond (decide (cb<(a0.length:Int))) ((bm a0 cb).bind λU=>(bm J cb).bind λaf=>(FR U af).bind λaK=>cond (!aK) (some false) (fC (i64.wrap (cb+1)))) (some true)
def PH (a0:axv) (J:axv):Nat->Int->axe
 |0,_=>none
 |n+1,cb=>ahH (PH a0 J n) a0 J cb
def JG (a0:axv) (J:axv):axe:=
 cond ((a0.length:Int) !=(J.length:Int)) (some false) (b6 λn=>PH a0 J n 0)
def FT (a0:b5) (J:b5):axe:=
 cond (!(a0.Left==J.Left)) (some false) (cond (!(a0.cQ==J.cQ)) (some false) (cond (!(a0.Result==J.Result)) (some false) (some true)))
def ahI (fC:Int->axe) (a0:axw) (J:axw) (cb:Int):axe:=
 cond (decide (cb<(a0.length:Int))) ((bm a0 cb).bind λU=>(bm J cb).bind λaf=>(FT U af).bind λaK=>cond (!aK) (some false) (fC (i64.wrap (cb+1)))) (some true)
def PI (a0:axw) (J:axw):Nat->Int->axe
 |0,_=>none
 |n+1,cb=>ahI (PI a0 J n) a0 J cb
def JH (a0:axw) (J:axw):axe:=
 cond ((a0.length:Int) !=(J.length:Int)) (some false) (b6 λn=>PI a0 J n 0)
def ahJ (fC:Int->axe) (a0:awZ) (J:awZ) (cb:Int):axe:=
 cond (decide (cb<(a0.length:Int))) ((bm a0 cb).bind λU=>(bm J cb).bind λaf=>cond (!(U==af)) (some false) (fC (i64.wrap (cb+1)))) (some true)
def PJ (a0:awZ) (J:awZ):Nat->Int->axe
 |0,_=>none
 |n+1,cb=>ahJ (PJ a0 J n) a0 J cb
def FU (a0:awZ) (J:awZ):axe:=
 cond ((a0.length:Int) !=(J.length:Int)) (some false) (b6 λn=>PJ a0 J n 0)
def FV (a0:cJ) (J:cJ):axe:=
 (JF a0.cq J.cq).bind λU=>cond (!U) (some false) ((JG a0.b_ J.b_).bind λaf=>cond (!af) (some false) ((JH a0.b2 J.b2).bind λaK=>cond (!aK) (some false) ((FU a0.cw J.cw).bind λa_=>cond (!a_) (some false) ((FU a0.ct J.ct).bind λbo=>cond (!bo) (some false) (some true)))))
def FW (a0:bd) (J:bd):axe:=
 cond (a0.cD !=J.cD) (some false) (cond (a0.Part !=J.Part) (some false) ((FQ a0.bV J.bV).bind λU=>cond (!U) (some false) (some true)))
def ahK (fC:Int->axe) (a0:axx) (J:axx) (cb:Int):axe:=
 cond (decide (cb<(a0.length:Int))) ((bm a0 cb).bind λU=>(bm J cb).bind λaf=>(FW U af).bind λaK=>cond (!aK) (some false) (fC (i64.wrap (cb+1)))) (some true)
def PK (a0:axx) (J:axx):Nat->Int->axe
 |0,_=>none
 |n+1,cb=>ahK (PK a0 J n) a0 J cb
def JI (a0:axx) (J:axx):axe:=
 cond ((a0.length:Int) !=(J.length:Int)) (some false) (b6 λn=>PK a0 J n 0)
def PL (a0:oy) (J:axr):axe:=
 (EH a0 1048576).bind λU=>cond (decide (U<0)) (some true) ((Ik J U).bind λaf=>cond (decide (af<0)) (some true) ((yV a0).bind λaK=>(A_ J).bind λa_=>(I0 aK a_).bind λbo=>(yV a0).bind λbD=>(A_ J).bind λbj=>(JC bD bj).bind λcu=>cond (!(cu==bo)) (some false) ((yV a0).bind λch=>(FV bD ch).bind λcv=>cond (!cv) (some false) ((A_ J).bind λdP=>(JI bj dP).bind λgz=>cond (!gz) (some false) (some true)))))
end
end Go.lZ
