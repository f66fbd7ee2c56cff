/- Part of a proof that a law returns true for every input. No condition. -/
import Derived.Test.YtcmimclaknmnbaaGreatDoorTb
import Derived.Test.YtcmimclaknmnbaaGreatDoorFwL
import Derived.Test.YtcmimclaknmnbaaGreatDoorFwT
import Derived.Test.YtcmimclaknmnbaaGreatDoorFwRb
import Derived.Test.YtcmimclaknmnbaaGreatDoorFwV
import Derived.Test.YtcmimclaknmnbaaGreatDoorFwLr
import Derived.Test.YtcmimclaknmnbaaGreatDoorP3
namespace Go.Proofs.YtcmimclaknmnbaaGreatDoor
open List Option Go.IntKind Nat Or
open Go Go.cC Go.lT
set_option linter.unusedSimpArgs false
def aG (x:Int):I:=.int .i64 x
theorem hn (x:Int):(aG x).share=aG x:=by
 simp only[aG,dZ]
theorem r_ (x:Int):(aG x).ch=true:=by
 simp only[aG,I.ch,I.gM,Bool.and_self]
def i1 (x:hi):I:=.agg [.int .i64 x.Kind,.int .i64 x.Value]
theorem Rw (x:hi):(i1 x).share=i1 x:=by
 simp only[i1,dZ]
theorem am0 (x:hi):(i1 x).ch=true:=by
 simp only[i1,I.ch,I.gM,Bool.and_self]
def ix (x:aoc):I:=.slice (x.map i1)
theorem Rx (x:aoc):(ix x).share=ix x:=by
 simp only[ix,dZ, @cN _ i1 i1 (λ_=>Rw _)]
def h9 (x:jH):I:=.agg [.slice (x.a7.map aG),.slice (x.Guard.map i1),.str x.Name,.slice (x.bU.map ix),.slice (x.Next.map ix)]
theorem Ry (x:jH):(h9 x).share=h9 x:=by
 simp only[h9,dZ, @cN _ aG aG (λ_=>hn _), @cN _ i1 i1 (λ_=>Rw _), @cN _ ix ix (λ_=>Rx _)]
def l9 (x:nP):I:=.agg [.int .i64 x.eY,.slice (x.Start.map aG),.slice (x.cG.map h9)]
theorem am1 (x:nP):(l9 x).share=l9 x:=by
 simp only[l9,dZ, @cN _ aG aG (λ_=>hn _), @cN _ h9 h9 (λ_=>Ry _)]
def b3 (x:anR):I:=.str x
theorem zg (x:anR):(b3 x).share=b3 x:=by
 simp only[b3,dZ]
theorem am2 (x:anR):(b3 x).ch=true:=by
 simp only[b3,I.ch,I.gM,Bool.and_self]
def cB (x:anT):I:=.slice (x.map aG)
theorem Rz (x:anT):(cB x).share=cB x:=by
 simp only[cB,dZ, @cN _ aG aG (λ_=>hn _)]
def Kx (x:aod):I:=.slice (x.map h9)
theorem am3 (x:aod):(Kx x).share=Kx x:=by
 simp only[Kx,dZ, @cN _ h9 h9 (λ_=>Ry _)]
def Ky (x:aoa):I:=.slice (x.map ix)
theorem am4 (x:aoa):(Ky x).share=Ky x:=by
 simp only[Ky,dZ, @cN _ ix ix (λ_=>Rx _)]
def bG (x:aO):I:=.agg [.int .i64 x.Kind,.int .i64 x.Value]
theorem qV (x:aO):(bG x).share=bG x:=by
 simp only[bG,dZ]
theorem RA (x:aO):(bG x).ch=true:=by
 simp only[bG,I.ch,I.gM,Bool.and_self]
def cf (x:aoe):I:=.slice (x.map bG)
theorem uK (x:aoe):(cf x).share=cf x:=by
 simp only[cf,dZ, @cN _ bG bG (λ_=>qV _)]
def dO (x:bS):I:=.agg [.slice (x.a7.map aG),.slice (x.Guard.map bG),.str x.Name,.slice (x.bU.map cf),.slice (x.Next.map cf)]
theorem Fp (x:bS):(dO x).share=dO x:=by
 simp only[dO,dZ, @cN _ aG aG (λ_=>hn _), @cN _ bG bG (λ_=>qV _), @cN _ cf cf (λ_=>uK _)]
def jo (x:aoe):I:=.ah 2 (x.map bG)
theorem Kz (x:aoe):(jo x).share=cf x:=by
 simp only[jo,cf,dZ, @cN _ bG bG (λ_=>qV _)]
theorem RB (x:aoe):(jo x).ch=true:=by
 simp only[jo,I.ch,I.gM,Bool.and_self, @jY _ bG (λ_=>RA _)]
def gn (x:bS):I:=.agg [.ah 1 (x.a7.map aG),.ah 2 (x.Guard.map bG),.str x.Name,.ah 1 (x.bU.map jo),.ah 1 (x.Next.map jo)]
theorem wX (x:bS):(gn x).share=dO x:=by
 simp only[gn,dO,dZ, @cN _ aG aG (λ_=>hn _), @cN _ bG bG (λ_=>qV _), @cN _ jo cf (λ_=>Kz _)]
theorem RC (x:bS):(gn x).ch=true:=by
 simp only[gn,I.ch,I.gM,Bool.and_self, @jY _ aG (λ_=>r_ _), @jY _ bG (λ_=>RA _), @jY _ jo (λ_=>RB _)]
def cO (x:anT):I:=.ah 1 (x.map aG)
theorem zh (x:anT):(cO x).share=cB x:=by
 simp only[cO,cB,dZ, @cN _ aG aG (λ_=>hn _)]
theorem KA (x:anT):(cO x).ch=true:=by
 simp only[cO,I.ch,I.gM,Bool.and_self, @jY _ aG (λ_=>r_ _)]
def Fq (x:aob):I:=.ah 1 (x.map jo)
def nh (x:aob):I:=.slice (x.map cf)
theorem acv (x:aob):(nh x).share=nh x:=by
 simp only[nh,dZ, @cN _ cf cf (λ_=>uK _)]
theorem am5 (x:aob):(Fq x).share=nh x:=by
 simp only[Fq,nh,dZ, @cN _ jo cf (λ_=>Kz _)]
theorem am6 (x:aob):(Fq x).ch=true:=by
 simp only[Fq,I.ch,I.gM,Bool.and_self, @jY _ jo (λ_=>RB _)]
def qW (x:dw):I:=.agg [.int .i64 x.eY,.ah 1 (x.Start.map aG),.ah 5 (x.cG.map gn)]
def ej (x:dw):I:=.agg [.int .i64 x.eY,.slice (x.Start.map aG),.slice (x.cG.map dO)]
theorem am7 (x:dw):(ej x).share=ej x:=by
 simp only[ej,dZ, @cN _ aG aG (λ_=>hn _), @cN _ dO dO (λ_=>Fp _)]
theorem acw (x:dw):(qW x).share=ej x:=by
 simp only[qW,ej,dZ, @cN _ aG aG (λ_=>hn _), @cN _ gn dO (λ_=>wX _)]
theorem am8 (x:dw):(qW x).ch=true:=by
 simp only[qW,I.ch,I.gM,Bool.and_self, @jY _ aG (λ_=>r_ _), @jY _ gn (λ_=>RC _)]
def Fs (x:aof):I:=.ah 5 (x.map gn)
def B2 (x:aof):I:=.slice (x.map dO)
theorem am9 (x:aof):(B2 x).share=B2 x:=by
 simp only[B2,dZ, @cN _ dO dO (λ_=>Fp _)]
theorem am_ (x:aof):(Fs x).share=B2 x:=by
 simp only[Fs,B2,dZ, @cN _ gn dO (λ_=>wX _)]
theorem ana (x:aof):(Fs x).ch=true:=by
 simp only[Fs,I.ch,I.gM,Bool.and_self, @jY _ gn (λ_=>RC _)]
def wY (x:bB):I:=.agg [.str x.Label,.slice (x.Next.map aG)]
theorem anb (x:bB):(wY x).share=wY x:=by
 simp only[wY,dZ, @cN _ aG aG (λ_=>hn _)]
def dG (x:bB):I:=.agg [.str x.Label,.ah 1 (x.Next.map aG)]
theorem acx (x:bB):(dG x).share=wY x:=by
 simp only[dG,wY,dZ, @cN _ aG aG (λ_=>hn _)]
theorem KB (x:bB):(dG x).ch=true:=by
 simp only[dG,I.ch,I.gM,Bool.and_self, @jY _ aG (λ_=>r_ _)]
def ni (x:Bool×bB):I:=cond x.1 (.agg [.str x.2.Label,.hole]) (dG x.2)
theorem B3:(ni∘λx=>(false,x))=dG:=rfl
theorem KC (x:bB):ni (true,x)= .agg [.str x.Label,.hole]:=rfl
theorem sa {x:Bool×bB} (h:xj (!x.1)=some ()):ni x=dG x.2:=by
 obtain⟨b,x⟩:=x;cases b
 .rfl
 .cases h
theorem anc (x:Bool×bB):(ni x).wd=2:=by
 obtain⟨b,x⟩:=x;cases b<;>rfl
def Ft (x:Bool×anT):I:=cond x.1 (.hole) (cO x.2)
theorem ane:(Ft∘λx=>(false,x))=cO:=rfl
theorem anf (x:anT):Ft (true,x)= .hole:=rfl
theorem ang {x:Bool×anT} (h:xj (!x.1)=some ()):Ft x=cO x.2:=by
 obtain⟨b,x⟩:=x;cases b
 .rfl
 .cases h
theorem anh (x:Bool×anT):(Ft x).wd=1:=by
 obtain⟨b,x⟩:=x;cases b<;>rfl
theorem KD:(∀a0 J,(b7.mk a0 J).term=a0)/\(∀a0 J,(b7.mk a0 J).args=J):=⟨λ_ _=>rfl,λ_ _=>rfl⟩
mutual
def l_:b7->I
 | .mk a0 J=>.agg [bG a0,.slice (p_ J)]
def p_:List b7->anZ
 |[]=>[]
 |y::r=>.ref (l_ y)::p_ r
end
def hE (x:b7):I:=.ref (l_ x)
theorem RD:∀l,p_ l=l.map hE
 |[]=>by simp only[p_,map_nil]
 |y::r=>by simp only[p_,map_cons,RD r,hE]
theorem KE (x:b7):l_ x= .agg [bG x.term,.slice (x.args.map hE)]:=by
 cases x;simp only[l_,RD,b7.term,b7.args]
mutual
theorem RE:∀x:b7,(l_ x).share=l_ x
 | .mk a0 J=>by simp only[l_,dZ,I.share,I.shares,RF J,qV]
theorem RF:∀l:List b7,I.shares (p_ l)=p_ l
 |[]=>by simp only[p_,I.shares]
 |y::r=>by simp only[p_,I.shares,I.share,RE y,RF r]
end
theorem acy (x:b7):(hE x).share=hE x:=by simp only[hE,I.share,RE]
mutual
def uL:b7->I
 | .mk a0 J=>.agg [bG a0,.ah 1 (qX J)]
def qX:List b7->anZ
 |[]=>[]
 |y::r=>.aV (uL y)::qX r
end
def i6 (x:b7):I:=.aV (uL x)
theorem RG:∀l,qX l=l.map i6
 |[]=>by simp only[qX,map_nil]
 |y::r=>by simp only[qX,map_cons,RG r,i6]
theorem acz (x:b7):uL x= .agg [bG x.term,.ah 1 (x.args.map i6)]:=by
 cases x;simp only[uL,RG,b7.term,b7.args]
mutual
theorem RH:∀x:b7,(uL x).share=l_ x
 | .mk a0 J=>by simp only[uL,l_,dZ,I.share,I.shares,RI J,qV]
theorem RI:∀l:List b7,I.shares (qX l)=p_ l
 |[]=>by simp only[qX,p_,I.shares]
 |y::r=>by simp only[qX,p_,I.shares,I.share,RH y,RI r]
end
theorem KF (x:b7):(i6 x).share=hE x:=by simp only[i6,hE,I.share,RH]
mutual
theorem RJ:∀x:b7,(uL x).ch=true
 | .mk a0 J=>by simp[uL,I.ch,I.gM,RK J,bG]
theorem RK:∀l:List b7,I.gM (qX l)=true
 |[]=>by simp only[qX,I.gM]
 |y::r=>by simp only[qX,I.gM,I.ch,RJ y,RK r,Bool.and_self]
end
theorem acA (x:b7):(i6 x).ch=true:=by simp only[i6,I.ch,RJ]
def Fu (x:List b7):I:=.ah 1 (x.map i6)
def B4 (x:List b7):I:=.slice (x.map hE)
theorem ani (x:List b7):(B4 x).share=B4 x:=by
 simp only[B4,dZ, @cN _ hE hE (λ_=>acy _)]
theorem anj (x:List b7):(Fu x).share=B4 x:=by
 simp only[Fu,B4,dZ, @cN _ i6 hE (λ_=>KF _)]
theorem ank (x:List b7):(Fu x).ch=true:=by
 simp only[Fu,I.ch,I.gM,Bool.and_self, @jY _ i6 (λ_=>acA _)]
noncomputable def acB:aH:=ck (cj 12 [0] Tryz.f17 [[0,1],[1],[1,10],[4],[4]])
noncomputable def acC:aH:=ck (cj 12 [0] Tryz.f64 [[0,1],[1],[1,10],[4],[4]])
noncomputable def acD:aH:=ck (cj 27 [0] Tryz.f65 [[0,1],[0,1],[0,1,11],[4],[0,1,5],[0,1,5,15],[0,1,5],[0,1,5,25],[4],[0,1,5],[4]])
noncomputable def c37:aH:=ck (cj 37 [0] Tryz.f37 [[1,2],[1,2],[1,2,10],[4],[1,2],[1,2,16],[4],[1,2],[1,2,23],[4],[1,2],[1,2,29],[4],[1],[1,35],[4],[4]])
noncomputable def acE:aH:=ck (cj 27 [0] Tryz.f18 [[0,1],[0,1],[0,1,11],[4],[0,1,5],[0,1,5,15],[0,1,5],[0,1,5,25],[4],[0,1,5],[4]])
noncomputable def c4:aH:=ck (cj 18 [0] Tryz.f4 [[1,2],[1,2],[1,2,10],[4],[1],[1,16],[4],[4]])
noncomputable def c5:aH:=ck (cj 28 [0] Tryz.f5 [[0,1],[0,1],[0,1,11],[4],[0,1,5],[0,1,5,15],[0,1,5],[0,1,5,26],[4],[0,1,5],[4]])
noncomputable def acF:aH:=ck (cj 22 [0] Tryz.f25 [[0],[0,3],[0,3,4],[0,3,4,11],[0,3,4],[0,3,4],[2]])
noncomputable def acG:aH:=ck (cj 11 [0] Tryz.f106 [[1,2],[1,2,3],[1,2,3],[2,3],[2]])
noncomputable def acH:aH:=ck (cj 23 [0] Tryz.f74 [[0],[0,3],[0,3,4],[0,3,4,11],[0,3,4],[0,3,4],[2]])
noncomputable def c75:aH:=ck (cj 23 [0] Tryz.f75 [[0],[0,3],[0,3,4],[0,3,4,11],[0,3,4],[0,3,4],[2]])
noncomputable def acI:aH:=ck (cj 24 [0] Tryz.f47 [[1,2],[1,2,3],[1,2,3],[1,2,3],[1,2,3],[1,2,3],[2,3],[2]])
noncomputable def wZ:aH:=ck (cj 23 [0] Tryz.f26 [[0],[0,3],[0,3,4],[0,3,4,11],[0,3,4],[0,3,4],[2]])
noncomputable def rI:aH:=ck (cj 16 [0] Tryz.f7 [[1,2],[1,2,3],[1,2,3],[1,2,3],[2,3],[2]])
noncomputable def h4:aH:=ck (cj 22 [0] Tryz.f8 [[0],[0,3],[0,3,4],[0,3,4,11],[0,3,4],[0,3,4],[2]])
noncomputable def KG:aH:=ck (cj 15 [0,1,2] Tryz.f38 [[0,1,2],[6]])
noncomputable def acJ:aH:=ck (cj 16 [0] Tryz.f66 [[0],[0,3],[0,3,7],[0,3,15],[2],[0,3],[2]])
noncomputable def KH:aH:=ck (cj 13 [0,1] Tryz.f39 [[0,1],[4]])
noncomputable def acK:aH:=ck (cj 30 [0] Tryz.f67 [[0],[0,7],[2],[0,3],[0,3,4],[0,3,4,11],[0,3,4,19],[2],[0,3,4],[0,3,4],[3,28],[2],[2]])
noncomputable def acL:aH:=ck (cj 39 [0,1] Tryz.f96 [[0,1],[0,1,8],[0,1,8,9],[4],[0,1,8,16],[4],[0,8,25],[4],[0,32],[4],[4]])
noncomputable def acM:aH:=ck (cj 11 [0] Tryz.f97 [[0],[6],[6,7],[2],[9],[2],[2]])
noncomputable def acN:aH:=ck (cj 38 [0,1,2] Tryz.f68 [[0,1,2],[0,1,12],[6],[0,1,7],[0,1,7,8],[0,1,7,8,16],[0,1,7,8,28],[6],[0,1,7,8],[0,1,7,8],[6]])
noncomputable def c70:aH:=ck (cj 19 [0,1] Tryz.f70 [[0,1],[0,1,5],[0,1,5,9],[0,1,5,18],[4],[0,1,5],[4]])
noncomputable def c139:aH:=ck (cj 9 [0] Tryz.f139 [[0],[2]])
noncomputable def acO:aH:=ck (cj 9 [0] Tryz.f140 [[0],[2]])
noncomputable def acP:aH:=ck (cj 35 [0] Tryz.f98 [[0],[0,16],[2],[0,3],[0,3,20],[0,3,34],[2],[0,3],[2]])
def bD (r:List bt) (k:anU) (c:aH):aH:=.seq (.ew r (some k)) c
def Fv (r:List bt) (a:anS) (k:anU) (c:aH):aH:=.seq (.kp r a (some k)) c
abbrev gd (d t:Nat) (o:dK):bt:=⟨some d,o,some (t,true)⟩
abbrev eo (d t:Nat) (o:dK):bt:=⟨some d,o,some (t,false)⟩
abbrev anl (n:Nat) (k:anU) (f:Func) (c:aH):Prop:=fh ⟨n,k⟩ (f.body.getD .skip)=some c.strip
def acQ:aH:=bD [g_ 2 false] [0] (bD [bj 3 0,jZ 4 98 3,bj 5 4,gd 6 5 (.fC (.t 0)),⟨some 7,.ef .neq 9 (.t 6) (.c (.str [116,97,117])),some (5,true)⟩,ro 8 (.pick (.t 5) (.t 7) (.c (.bool false))),cT 2 8] [2] .ret)
def acR:aH:=.seq (bD [bj 35 0,o_ 36 35,iD 37 74 36 2,eX 38 9 37,ro 39 (.ef .eql 9 (.t 38) (.c (.str [116,97,117]))),bj 40 39,gd 41 40 (.fC (.t 0)),gd 42 40 (.jx (.t 41)),gd 43 40 (.hq 74 (.t 42) 3),gd 44 40 (.ld 72 (.t 43)),gd 45 40 (.len 72 (.t 44)),gd 46 40 (.ef .gtr 3 (.t 45) (.c (.int .i64 0))),ro 47 (.pick (.t 40) (.t 46) (.c (.bool false))),bj 48 47,eo 49 48 (.fC (.t 0)),eo 50 48 (.jx (.t 49)),eo 51 48 (.hq 74 (.t 50) 2),eo 52 48 (.ld 9 (.t 51)),⟨some 53,.ef .neq 9 (.t 52) (.c (.str [116,97,117])),some (48,false)⟩,eo 54 48 (.fC (.t 53)),gd 55 54 (.fC (.t 0)),gd 56 54 (.jx (.t 55)),gd 57 54 (.hq 74 (.t 56) 2),gd 58 54 (.ld 9 (.t 57)),⟨some 59,.call (.f 69) [(.t 58)],some (54,true)⟩,gd 60 54 (.un .not (.t 59)),eo 61 48 (.pick (.t 54) (.t 60) (.c (.bool false))),ro 62 (.pick (.t 48) (.c (.bool true)) (.t 61)),bj 63 62,eo 64 63 (.fC (.t 0)),eo 65 63 (.jx (.t 64)),eo 66 63 (.hq 74 (.t 65) 3),eo 67 63 (.ld 72 (.t 66)),eo 68 63 (.len 72 (.t 67)),eo 69 63 (.ef .gtr 3 (.t 68) (.c (.int .i64 2))),ro 70 (.pick (.t 63) (.c (.bool true)) (.t 69))] [0,5,70] (.cond (.t 70) (bD [g_ 4 false] [4] .ret) .skip)) (bD [bj 71 0,o_ 72 71,iD 73 74 72 3,eX 74 72 73,bj 75 5,iE 76 70 74 75,bj 77 76,gd 78 77 (.fC (.t 0)),gd 79 77 (.jx (.t 78)),gd 80 77 (.hq 74 (.t 79) 4),gd 81 77 (.ld 72 (.t 80)),gd 82 77 (.fC (.t 5)),⟨some 83,.call (.f 70) [(.t 81),(.t 82)],some (77,true)⟩,ro 84 (.pick (.t 77) (.t 83) (.c (.bool false))),cT 4 84] [4] .ret)
def acS:aH:=bD [bj 12 1,bj 13 0,o_ 14 13,iD 15 74 14 0,eX 16 22 15,lR 17 22 16,mX 18 .add 2 12 17,cT 5 18] [0,1,5] (.seq (bD [bj 19 0,o_ 20 19,iD 21 74 20 1,eX 22 71 21,bj 23 5,ro 24 (.call (.f 68) [(.t 22),(.t 23),(.c (.int .i64 60))]),pa 25 24,bj 26 25,eo 27 26 (.fC (.t 0)),eo 28 26 (.jx (.t 27)),eo 29 26 (.hq 74 (.t 28) 4),eo 30 26 (.ld 72 (.t 29)),eo 31 26 (.len 72 (.t 30)),eo 32 26 (.fC (.t 1)),eo 33 26 (.ef .neq 2 (.t 31) (.t 32)),ro 34 (.pick (.t 26) (.c (.bool true)) (.t 33))] [0,5,34] (.cond (.t 34) (bD [g_ 4 false] [4] .ret) .skip)) acR)
def c40:aH:=bD [g_ 4 false] [0,1] (.seq (bD [bj 6 0,o_ 7 6,iD 8 74 7 0,eX 9 22 8,jZ 10 67 9,gl 11 .eql 2 10 0] [0,1,11] (.cond (.t 11) (bD [g_ 4 false] [4] .ret) .skip)) acS)
noncomputable def acT:aH:=ck (cj 51 [0] Tryz.f19 [[0],[0,29],[2],[0,3],[0,3,36],[0,3,50],[2],[0,3],[2]])
noncomputable def acU:aH:=ck (cj 17 [0] Tryz.f99 [[0],[0,3],[0,3,7],[0,3,13],[2],[0,3],[2]])
noncomputable def acV:aH:=ck (cj 35 [0,1] Tryz.f100 [[0,1],[0,1,5],[0,1,5,6],[0,1,5,6,7],[0,1,5,6,7,12],[0,1,5,6,7,19],[0,1,5,7],[0,1,5,6,7],[0,1,5,6,7],[4]])
noncomputable def acW:aH:=ck (cj 62 [0] Tryz.f101 [[0],[0,4],[0,4,14],[0,4],[0,4,36],[2,3],[0,4,5],[0,4,5,6],[0,4,5,6,41],[0,4,5,6,48],[2,3],[0,4,5,6],[0,4,5,6],[5,58],[5],[2,3]])
noncomputable def acX:aH:=ck (cj 70 [0] Tryz.f71 [[0],[0,4],[0,4,15],[2,3],[0,4,31],[2,3],[5],[5,6],[5,6,7],[5,6,7,44],[5,6,7,8,9],[5,6,7,8,61],[2,3],[5,6,7],[5,6,7],[2,3]])
noncomputable def acY:aH:=ck (cj 11 [0] Tryz.f41 [[0],[4],[2]])
noncomputable def c20:aH:=ck (cj 16 [0] Tryz.f20 [[0],[0,3],[0,3,7],[0,3,15],[2],[0,3],[2]])
noncomputable def c21:aH:=ck (cj 6 [0] Tryz.f21 [[0],[2]])
noncomputable def acZ:aH:=ck (cj 4 [0] Tryz.f102 [[0],[3],[2],[2]])
noncomputable def ac0:aH:=ck (cj 18 [0] Tryz.f103 [[0,1],[0,1,5],[0,1,5,7],[0,1,5],[0,1,5],[4]])
noncomputable def ac1:aH:=ck (cj 67 [0,1,2] Tryz.f104 [[0,1,2],[1,2,7],[1,2,7,8],[6],[1,2,7,14],[6],[1,2,7,21],[6],[1,2,7,27],[6],[1,2,7,33],[6],[1,2,7,39],[6],[1,2,7,45],[6],[1,2,51],[6],[6]])
noncomputable def c72:aH:=ck (cj 60 [0,1,2] Tryz.f72 [[0,1,2],[0,1,2,13],[0,1,2,13,14],[6],[0,1,2,13,21],[6],[0,1,2,31],[6],[0,1,2,7],[0,2,7,8],[6]])
noncomputable def ac2:aH:=ck (cj 8 [0,1] Tryz.f42 [[0,1],[4]])
noncomputable def ac3:aH:=ck (cj 24 [0,1] Tryz.f44 [[0,1],[0,1,5],[0,1,5,6],[0,1,5,6,11],[0,1,5,6],[0,1,5,6],[4]])
def RL:aH:=.ew [bj 22 3,bj 23 5,ro 24 (.ef .add 2 (.c (.int .i64 48)) (.t 23)),D2 25 2 5 24,A4 26 92 25,vW 27 92 92 22 26,cT 3 27] (some [0,3,4])
def RM:aH:=.seq (bD [bj 12 4,gl 13 .neq 2 12 0] [0,3,4,13] (.cond (.t 13) .skip (.exit 0))) (.seq (.block 1 (bD [bj 16 4,gl 17 .rem 2 16 10,cT 5 17] [0,3,4,5] (.seq (bD [bj 18 5,gl 19 .lss 2 18 0] [0,3,4,5,19] (.cond (.t 19) (.ew [bj 20 5,ro 21 (.un .neg (.t 20)),cT 5 21] (some [0,3,4,5])) .skip)) RL))) (.ew [bj 14 4,gl 15 .quo 2 14 10,cT 4 15] (some [0,3,4])))
def RN:aH:=.seq (bD [bj 37 7,gl 38 .geq 3 37 0] [3,6,7,38] (.cond (.t 38) .skip (.exit 2))) (.seq (.block 3 (.ew [bj 41 6,bj 42 3,bj 43 7,vU 44 92 42 43,eX 45 5 44,A4 46 92 45,vW 47 92 92 41 46,cT 6 47] (some [3,6,7]))) (.ew [bj 39 7,gl 40 .sub 3 39 1,cT 7 40] (some [3,6,7])))
def RO:aH:=bD [ro 33 (.ei 92 0 []),cT 6 33] [3,6] (.seq (bD [bj 34 3,lR 35 92 34,gl 36 .sub 3 35 1,cT 7 36] [3,6,7] (.block 2 (.loop RN))) (bD [bj 48 6,D2 49 92 9 48,cT 2 49] [2] .ret))
def c105:aH:=bD [ro 2 (.iB (.c (.str [])))] [0] (.seq (bD [bj 8 0,gl 9 .eql 2 8 0] [0,9] (.cond (.t 9) (bD [ro 2 (.iB (.c (.str [48])))] [2] .ret) .skip)) (bD [ro 10 (.ei 92 0 []),cT 3 10] [0,3] (.seq (bD [bj 11 0,cT 4 11] [0,3,4] (.block 0 (.loop RM))) (.seq (bD [bj 28 0,gl 29 .lss 2 28 0] [3,29] (.cond (.t 29) (.ew [bj 30 3,ro 31 (.ei 92 1 [(0,(.c (.int .u8 45)))]),vW 32 92 92 30 31,cT 3 32] (some [3])) .skip)) RO))))
def RP:aH:=.ew [bj 18 3,bj 19 0,bj 20 4,vU 21 22 19 20,eX 22 2 21,jZ 23 105 22,mX 24 .add 9 18 23,cT 3 24] (some [0,3,4])
def RQ:aH:=.seq (bD [bj 8 4,bj 9 0,lR 10 22 9,mX 11 .lss 3 8 10] [0,3,4,11] (.cond (.t 11) .skip (.exit 0))) (.seq (.block 1 (.seq (bD [bj 14 4,gl 15 .gtr 3 14 0] [0,3,4,15] (.cond (.t 15) (.ew [bj 16 3,ro 17 (.ef .add 9 (.t 16) (.c (.str [44]))),cT 3 17] (some [0,3,4])) .skip)) RP)) (.ew [bj 12 4,gl 13 .add 3 12 1,cT 4 13] (some [0,3,4])))
def ac4:aH:=bD [ro 2 (.iB (.c (.str [])))] [0] (.seq (bD [bj 5 0,lR 6 22 5,gl 7 .eql 3 6 0] [0,7] (.cond (.t 7) (bD [ro 2 (.iB (.c (.str [45])))] [2] .ret) .skip)) (bD [ro 3 (.iB (.c (.str [])))] [0,3] (.seq (bD [sS 4 0] [0,3,4] (.block 0 (.loop RQ))) (bD [bj 25 3,cT 2 25] [2] .ret))))
def ac5:aH:=bD [ro 4 (.iB (.c (.str [])))] [0,1] (.seq (bD [bj 5 1,lR 6 22 5,gl 7 .eql 3 6 0] [0,1,7] (.cond (.t 7) (bD [bj 8 0,cT 4 8] [4] .ret) .skip)) (bD [bj 9 0,ro 10 (.ef .add 9 (.t 9) (.c (.str [40]))),bj 11 1,jZ 12 73 11,mX 13 .add 9 10 12,ro 14 (.ef .add 9 (.t 13) (.c (.str [41]))),cT 4 14] [4] .ret))
noncomputable def c46:aH:=ck (cj 31 [0,1] Tryz.f46 [[0,1],[0,1,5],[0,1,5,10],[0,1,5,21],[0],[0,4],[0,1,5],[0,1,5],[0,4]])
noncomputable def ac6:aH:=ck (cj 26 [0,1] Tryz.f45 [[0,1],[0,1,10],[4],[0,1,5],[0,1,5,14],[0,1,5,25],[4],[0,1,5],[4]])
def ac7:aH:=.cond (.t 20) .skip (.exit 0)
def ac8:aH:=.cond (.t 67) .skip (.exit 4)
def ac9:aH:=.ew [bj 68 12,gl 69 .add 3 68 1,cT 12 69] (some [0,1,5,6,7,8,10,11,12])
def ac_:aH:=.seq (.block 5 (.kp [bj 70 11,bj 71 70,eo 72 71 (.fC (.t 5)),eo 73 71 (.fC (.t 12)),eo 74 71 (.jb 49 (.t 72) (.t 73)),eo 75 71 (.hq 52 (.t 74) 0),eo 76 71 (.ld 9 (.t 75)),eo 77 71 (.hq 52 (.t 10) 0),eo 78 71 (.ld 9 (.t 77)),eo 79 71 (.ef .eql 9 (.t 76) (.t 78)),eo 80 71 (.fC (.t 79)),gd 81 80 (.fC (.t 5)),gd 82 80 (.fC (.t 12)),gd 83 80 (.jb 49 (.t 81) (.t 82)),gd 84 80 (.hq 52 (.t 83) 1),gd 85 80 (.ld 22 (.t 84)),gd 86 80 (.hq 52 (.t 10) 1),gd 87 80 (.ld 22 (.t 86)),⟨some 88,.call (.f 45) [(.t 85),(.t 87)],some (80,true)⟩,eo 89 71 (.pick (.t 80) (.t 88) (.c (.bool false))),ro 90 (.pick (.t 71) (.c (.bool true)) (.t 89)),cT 11 90] [[],[0],[1],[1],[2,3,1],[4,1],[5,1],[1],[7,1],[6,8,1],[9,1,1],[10],[10],[11,12,10],[13,10],[14,10],[10],[16,10],[15,17,10,10],[10,18,1],[1,19],[20,18,0,1,2,3,4,5,6,7,8,9,10,11,12,13,14,15,16,17,18,19,20]] (some [0,1,5,6,7,8,10,11,12]))) ac9
def RR:aH:=.seq (bD [bj 64 12,bj 65 5,lR 66 49 65,mX 67 .lss 3 64 66] [0,1,5,6,7,8,10,11,12,67] ac8) ac_
def ada:aH:=.block 4 (.loop RR)
def adb:aH:=.ew [bj 93 5,eX 94 52 10,A4 95 49 94,vW 96 49 49 93 95,cT 5 96] (some [0,1,5,6,7,8])
def ade:aH:=.cond (.t 92) adb .skip
def adf:aH:=bD [bj 91 11,pa 92 91] [0,1,5,6,7,8,10,92] ade
def adg:aH:=.seq (bD [sS 12 0] [0,1,5,6,7,8,10,11,12] ada) adf
def adh:aH:=bD [g_ 11 false] [0,1,5,6,7,8,10,11] adg
def adi:aH:=Fv [bj 46 7,o_ 47 46,iD 48 74 47 2,eX 49 9 48,bj 50 7,o_ 51 50,iD 52 74 51 3,eX 53 72 52,bj 54 9,iE 55 44 53 54,iE 56 43 49 55,bj 57 7,o_ 58 57,iD 59 74 58 4,eX 60 72 59,bj 61 9,iE 62 44 60 61,ro 63 (.ij 52 [(0,(.t 56)),(1,(.t 62))]),vV 10 52,ud 52 10 63] [[],[0],[1],[2],[],[4],[5],[6],[],[7,8],[3,9,9],[],[11],[12],[13],[],[14,15,10],[10,16],[],[18,17,16,0,1,2,3,4,5,6,7,8,9,10,11,12,13,14,15,16,17,18]] [0,1,5,6,7,8,10] adh
def adj:aH:=.cond (.t 45) adi .skip
def adk:aH:=.cond (.t 103) (.exit 2) .skip
def RS:aH:=bD [bj 97 8,bj 98 7,o_ 99 98,iD 100 74 99 0,eX 101 22 100,iE 102 46 97 101,pa 103 102] [0,1,5,6,7,8,103] adk
def adl:aH:=.seq (bD [bj 39 7,o_ 40 39,iD 41 74 40 1,eX 42 71 41,bj 43 9,iE 44 42 42 43,gl 45 .neq 2 44 0] [0,1,5,6,7,8,9,45] adj) RS
def RT:aH:=.block 3 (.seq (.gF (yc ao [bj 35 1,jZ 36 21 35,bj 37 8,vW 38 22 22 36 37,cT 9 38] 9 [0,1,5,6,7,8,9]) (IH [bj 35 1,jZ 36 21 35,bj 37 8,vW 38 22 22 36 37,cT 9 38])) adl)
def adm:aH:=.block 2 (.loop RT)
def adn:aH:=bD [bj 29 7,o_ 30 29,iD 31 74 30 0,eX 32 22 31,lR 33 22 32,ro 34 (.eL 22 (.t 33) (.t 33)),cT 8 34] [0,1,5,6,7,8] adm
def ado:aH:=.ew [bj 21 6,gl 22 .add 3 21 1,cT 6 22] (some [0,1,5,6])
def adp:aH:=.seq (.block 1 (bD [bj 23 0,o_ 24 23,iD 25 34 24 2,eX 26 32 25,bj 27 6,vU 28 32 26 27,cT 7 28] [0,1,5,6,7] adn)) ado
def RU:aH:=.seq (bD [bj 14 6,bj 15 0,o_ 16 15,iD 17 34 16 2,eX 18 32 17,lR 19 32 18,mX 20 .lss 3 14 19] [0,1,5,6,20] ac7) adp
def adq:aH:=.block 0 (.loop RU)
def adr:aH:=bD [bj 104 5,cT 4 104] [4] .ret
def ads:aH:=.seq (bD [sS 6 0] [0,1,5,6] adq) adr
def adt:aH:=bD [ro 13 (.ei 49 0 []),cT 5 13] [0,1,5] ads
def Fw:aH:=bD [sT 4] [0,1] adt
theorem adu:Fw.lN (vZ ao):=And.intro (True.intro) (And.intro (True.intro) (And.intro (And.intro (True.intro) (And.intro (And.intro (True.intro) (And.intro (True.intro) (True.intro))) (And.intro (And.intro (True.intro) (And.intro (True.intro) (And.intro (⟨_,_,_,rfl,rfl⟩) (And.intro (And.intro (True.intro) (And.intro (And.intro (True.intro) (And.intro (True.intro) (And.intro (And.intro (True.intro) (And.intro (And.intro (True.intro) (And.intro (True.intro) (True.intro))) (And.intro (True.intro) (True.intro)))) (And.intro (True.intro) (And.intro (True.intro) (True.intro)))))) (True.intro))) (And.intro (True.intro) (And.intro (True.intro) (True.intro))))))) (True.intro)))) (And.intro (True.intro) (True.intro))))
theorem adv:fh ⟨105,[0,1]⟩ (Tryz.f22.body.getD .skip)=some Fw.strip:=by kernel_rfl
noncomputable def KI:aH:=ck (cj 19 [0,1] Tryz.f23 [[0,1],[0,1,5],[0,1,5,9],[0,1,5,17],[4],[0,1,5],[4]])
noncomputable def c24:aH:=ck (cj 46 [0,1] Tryz.f24 [[0,1],[0,1,5],[0,1,5,15],[0,1,5,26],[4],[0,1,5,35],[4],[0,1,5],[0,1,40],[4],[45],[4],[4]])
noncomputable def eM:aH:=ck (cj 142 [0,1] Tryz.f6 [[1,2],[1,2,17],[4,5],[1,2,20],[4,5],[1,2,6],[1,2,6,7],[1,2,6,7,33],[1,2,6,7,8],[1,2,6,7,8,9],[1,2,6,7,8,9,40],[1,2,6,7,8,9,10],[1,2,6,7,8,9,10,11],[1,2,6,7,8,9,10,11,51],[1,2,6,7,8,9,10,11,73],[1,2,6,7,8,9,10,11,76],[4,5],[1,2,6,7,8,9,10,11],[1,2,6,7,8,9,10,11],[1,2,6,7,8,9],[1,2,6,7],[1,2,6,7],[6,88],[4,5],[6,12],[6,12,13],[6,12,13,93],[6,12,13,14],[6,12,13,14,112],[6,12,13,14],[6,12,13,14],[6,12,13,14,15],[6,12,13,14,15,123],[6,12,13,14,15],[6,12,13,14,15],[6,12,13],[6,12,13],[4,5]])
noncomputable def adw:aH:=ck (cj 15 [0,1,2] Tryz.f48 [[0,1,2],[6]])
noncomputable def c109:aH:=ck (cj 5 [0] Tryz.f109 [[0],[2]])
noncomputable def KJ:aH:=ck (cj 6 [0] Tryz.f108 [[0],[2]])
noncomputable def c141:aH:=ck (cj 19 [0,1] Tryz.f141 [[0,1],[0,1,7,8],[0,1,7,8,9],[0,1,5,7,8],[0,1,5,7,8,16],[4],[0,1,7,8],[4]])
noncomputable def c107:aH:=ck (cj 9 [0,1] Tryz.f107 [[0,1],[4]])
noncomputable def c76:aH:=ck (cj 6 [0] Tryz.f76 [[0],[2]])
noncomputable def c49:aH:=ck (cj 14 [0,1] Tryz.f49 [[1,2],[4]])
noncomputable def adx:aH:=ck (cj 29 [0] Tryz.f78 [[1],[1,3],[1,3,7,8,9],[1,3,7,8,9,10],[1,3,5,7,8,9],[1,3,5,7,8,9,15],[2],[1,3,7,8,9],[1,3,7,8,9],[2]])
noncomputable def ady:aH:=ck (cj 9 [0] Tryz.f142 [[0],[2]])
noncomputable def adz:aH:=ck (cj 42 [0] Tryz.f110 [[0],[0,6,7],[0,6,7,8],[0,3,6,7],[0,3,4,6,7],[0,6,7,32],[2],[0,6,7],[2]])
def adA:aH:=bD [g_ 2 false] [0] (bD [bj 3 0,jZ 4 110 3,bj 5 4,gd 6 5 (.fC (.t 0)),⟨some 7,.ef .neq 9 (.t 6) (.c (.str [116,97,117])),some (5,true)⟩,ro 8 (.pick (.t 5) (.t 7) (.c (.bool false))),cT 2 8] [2] .ret)
def RV:aH:=bD [bj 26 0,cT 4 26] [4] .ret
def RW:aH:=.seq (bD [bj 8 1,bj 9 0,ro 10 (.cap 72 (.t 9)),bj 11 0,lR 12 72 11,mX 13 .sub 3 10 12,mX 14 .sub 3 8 13,cT 1 14] [0,1] (bD [bj 15 1,gl 16 .gtr 3 15 0] [0,1,16] (.cond (.t 16) (.ew [bj 17 0,bj 18 0,ro 19 (.cap 72 (.t 18)),ro 20 (.fR 72 (.t 17) none (some (.t 19))),bj 21 1,⟨some 22,.iV 72 3 (.t 20) (.t 21),none⟩,bj 23 0,lR 24 72 23,ro 25 (.fR 72 (.t 22) none (some (.t 24))),cT 0 25] (some [0])) .skip))) RV
def c143:aH:=bD [sT 4] [0,1] (.seq (bD [bj 5 1,gl 6 .lss 3 5 0] [0,1,6] (.cond (.t 6) (.ew [ro 7 (.bad),⟨none,.bad,none⟩] (some [0,1])) .skip)) RW)
noncomputable def adB:aH:=ck (cj 36 [0] Tryz.f112 [[0],[0,3],[0,3,9,10,11],[0,3,9,10,11,12],[0,3,5,9,10,11],[0,3,9,10,11],[0,3,9,10,11,20],[0,3,9,10,11],[0,3,9,10,11],[0,6],[6,25,26,27],[6,25,26,27,28],[6,8,25,26,27],[6,25,26,27],[6,25,26,27],[2]])
def adC:aH:=bD [ro 1 (.h2 74 (.t 0)),sT 2] [1] (bD [iD 3 74 1 1,eX 4 71 3,⟨some 5,.shr (.ei 72 1 [(0,(.t 4))]),none⟩,iD 6 74 1 3,eX 7 72 6,iD 8 74 1 4,eX 9 72 8,⟨some 10,.shr (.ei 168 3 [(0,(.t 5)),(1,(.t 7)),(2,(.t 9))]),none⟩,jZ 11 112 10,cT 2 11] [2] .ret)
noncomputable def adD:aH:=ck (cj 29 [0,1] Tryz.f113 [[1,2],[1,2,6],[1,2,6,7],[4],[1,2,6,12],[4],[2,6,19],[4],[2,24],[4],[4]])
noncomputable def adE:aH:=ck (cj 9 [0] Tryz.f114 [[1],[4],[4,5],[2],[7],[2],[2]])
noncomputable def adF:aH:=ck (cj 47 [0,1,2] Tryz.f83 [[0,1,2],[0,1,24],[6],[0,1,7],[1,7,25,26,27],[1,7,25,26,27,28],[1,7,9,25,26,27],[1,7,9,25,26,27,38],[6],[1,7,25,26,27],[1,7,25,26,27],[6]])
noncomputable def adG:aH:=ck (cj 13 [0,1,2] Tryz.f82 [[0,1,2],[4]])
noncomputable def adH:aH:=ck (cj 19 [0,1] Tryz.f111 [[0,1],[0,1,7,8],[0,1,7,8,9],[0,1,5,7,8],[0,1,5,7,8,16],[4],[0,1,7,8],[4]])
noncomputable def c80:aH:=ck (cj 9 [0,1] Tryz.f80 [[0,1],[4]])
def adI:aH:=bD [bj 19 5,gl 20 .gtr 3 19 0,bj 21 20,gd 22 21 (.hq 74 (.t 2) 2),gd 23 21 (.ld 9 (.t 22)),⟨some 24,.ef .eql 9 (.t 23) (.c (.str [116,97,117])),some (21,true)⟩,gd 25 21 (.fC (.t 24)),eo 26 25 (.fC (.t 5)),eo 27 25 (.ef .gtr 3 (.t 26) (.c (.int .i64 2))),gd 28 21 (.pick (.t 25) (.c (.bool true)) (.t 27)),ro 29 (.pick (.t 21) (.t 28) (.c (.bool false))),bj 30 29,eo 31 30 (.hq 74 (.t 2) 2),eo 32 30 (.ld 9 (.t 31)),⟨some 33,.ef .neq 9 (.t 32) (.c (.str [116,97,117])),some (30,false)⟩,eo 34 30 (.fC (.t 33)),gd 35 34 (.hq 74 (.t 2) 2),gd 36 34 (.ld 9 (.t 35)),⟨some 37,.call (.f 79) [(.t 36)],some (34,true)⟩,gd 38 34 (.un .not (.t 37)),eo 39 30 (.pick (.t 34) (.t 38) (.c (.bool false))),ro 40 (.pick (.t 30) (.c (.bool true)) (.t 39))] [2,3,40] (.cond (.t 40) (bD [g_ 4 false] [4] .ret) .skip)
def adJ:aH:=bD [ro 2 (.h2 74 (.t 0)),ro 3 (.h2 2 (.t 1)),g_ 4 false] [2,3] (.seq (bD [eX 6 74 2,jZ 7 78 6,pa 8 7,bj 9 8,eo 10 9 (.hq 74 (.t 2) 4),eo 11 9 (.ld 72 (.t 10)),eo 12 9 (.len 72 (.t 11)),eo 13 9 (.ld 2 (.t 3)),eo 14 9 (.ef .neq 2 (.t 12) (.t 13)),ro 15 (.pick (.t 9) (.c (.bool true)) (.t 14))] [2,3,15] (.cond (.t 15) (bD [g_ 4 false] [4] .ret) .skip)) (.seq (bD [iD 16 74 2 3,eX 17 72 16,lR 18 72 17,cT 5 18] [2,3,5] adI) (bD [eX 41 74 2,jZ 42 81 41,ro 43 (.o1 82 [(.t 3),(.t 2)]),iE 44 80 42 43,pa 45 44,cT 4 45] [4] .ret)))
noncomputable def c51:aH:=ck (cj 9 [0,1] Tryz.f51 [[1,2],[3]])
noncomputable def KK:aH:=ck (cj 19 [0,1] Tryz.f77 [[0,1],[0,1,7,8],[0,1,7,8,9],[0,1,5,7,8],[0,1,5,7,8,16],[4],[0,1,7,8],[4]])
noncomputable def adK:aH:=ck (cj 9 [0,1] Tryz.f50 [[0,1],[4]])
noncomputable def adL:aH:=ck (cj 25 [0] Tryz.f27 [[1],[1,19],[2],[2]])
noncomputable def adM:aH:=ck (cj 8 [0,1] Tryz.f172 [[0,1],[4]])
noncomputable def adN:aH:=ck (cj 143 [0,1] Tryz.f161 [[0,1],[0,1,5],[0,1,5,16],[4],[0,1,5,24],[4],[0,1,5,31],[4],[0,1,5,36],[4],[0,1,5,6],[0,1,5,6,7],[0,1,5,6,7,8],[0,1,5,6,7,8,9],[0,1,5,6,7,8,9,10],[0,1,5,6,7,8,9,10,59],[0,1,5,6,7,8,9,10,64],[0,1,5,6,7,8,9,10,11],[0,1,5,6,7,8,9,10,11,73],[4],[0,1,5,6,7,8,9,10],[0,1,5,6,7,8,9,10,93],[4],[0,1,5,6,7,8,9,10],[0,1,5,6,7,8,9,10],[0,1,5,6,7,8,9,10,107],[8,12],[8,12,114],[4],[4],[0,1,5,6,7,8,9,10,132],[8,13],[8,13,139],[4],[4],[4]])
noncomputable def adO:aH:=ck (cj 23 [0,1] Tryz.f144 [[0,1],[0,1,7],[0,1,7,12],[4,5,6],[4,5,6]])
noncomputable def adP:aH:=ck (cj 13 [0,1] Tryz.f115 [[0,1],[4,5,6]])
noncomputable def c167:aH:=ck (cj 21 [0,1] Tryz.f167 [[0,1],[4]])
noncomputable def adQ:aH:=ck (cj 16 [0,1] Tryz.f147 [[0,1],[0,1,7],[4],[4]])
noncomputable def adR:aH:=ck (cj 8 [0,1] Tryz.f118 [[0,1],[4]])
noncomputable def adS:aH:=ck (cj 8 [0,1] Tryz.f166 [[0,1],[4]])
noncomputable def adT:aH:=ck (cj 34 [1] Tryz.f165 [[0,1],[0,1,9],[4],[0,1,15],[4],[0,1,5],[0,1,5,6],[0,1,5,6,24],[4],[0,1,5,6],[0,1,5]])
noncomputable def c146:aH:=ck (cj 66 [1,2] Tryz.f146 [[0,1,2,3],[0,1,2,3,13],[8],[0,1,2,3,15],[8],[0,1,2,3,20],[0,1,2,3],[0,1,2,3],[0,1,2,3,9],[0,1,2,3,9],[0,1,2,3,9,10],[0,1,2,3,9,10,36],[0,1,2,3,9,10,11],[0,1,2,3,9,10,11,41],[0,1,2,3,9,10,11],[0,1,2,3,9,10],[0,1,2,3,9,10],[9,10],[8]])
noncomputable def c117:aH:=ck (cj 8 [0,1] Tryz.f117 [[0,1],[4]])
noncomputable def c116:aH:=ck (cj 28 [0] Tryz.f116 [[0],[0,4],[4,9,10,11],[4,9,10,11,12],[4,6,9,10,11],[4,7,8,9,10,11],[4,7,9,10,11,21],[2,3],[4,9,10,11],[4,9,10,11],[2,3]])
noncomputable def adU:aH:=ck (cj 5 [0] Tryz.f125 [[0],[2]])
noncomputable def adV:aH:=ck (cj 27 [0,1] Tryz.f90 [[0,1],[0,1,5],[1,5,11,12,13],[1,5,11,12,13,14],[1,5,6,7,11,12,13],[1,5,11,12,13],[1,5,11,12,13],[4]])
def adW:aH:=bD [bj 13 0,jZ 14 79 13,pa 15 14,bj 16 15,eo 17 16 (.fC (.t 1)),eo 18 16 (.len 22 (.t 17)),eo 19 16 (.ef .gtr 3 (.t 18) (.c (.int .i64 2))),ro 20 (.pick (.t 16) (.c (.bool true)) (.t 19)),bj 21 20,eo 22 21 (.fC (.t 1)),⟨some 23,.call (.f 76) [(.t 22)],some (21,false)⟩,eo 24 21 (.un .not (.t 23)),ro 25 (.pick (.t 21) (.c (.bool true)) (.t 24)),cT 12 25] [0,1,12] (.cond (.t 12) (bD [ro 4 (.iB (.c (.str []))),g_ 5 false] [4,5] .ret) (bD [bj 27 1,lR 28 22 27,gl 29 .eql 3 28 0,cT 26 29] [0,1,26] (.cond (.t 26) (bD [bj 30 0,cT 4 30,g_ 5 true] [4,5] .ret) .skip)))
def adX:aH:=bD [ro 4 (.iB (.c (.str []))),g_ 5 false] [0,1] (.seq (.block 0 (bD [bj 7 0,ro 8 (.ef .eql 9 (.t 7) (.c (.str [116,97,117]))),cT 6 8] [0,1,6] (.cond (.t 6) (bD [bj 9 1,lR 10 22 9,gl 11 .eql 3 10 0,ro 4 (.iB (.c (.str [116,97,117]))),cT 5 11] [4,5] .ret) adW))) (bD [bj 31 0,ro 32 (.ef .add 9 (.t 31) (.c (.str [40]))),bj 33 1,ro 34 (.call (.f 90) [(.t 33),(.c (.str [44]))]),mX 35 .add 9 32 34,ro 36 (.ef .add 9 (.t 35) (.c (.str [41]))),cT 4 36,g_ 5 true] [4,5] .ret))
def RX:aH:=.seq (bD [bj 29 5,bj 30 8,iE 31 88 29 30,bj 28 31,nJ 32 28 0,nJ 33 28 1,cT 10 32,cT 11 33] [0,5,8,10,11] (bD [bj 34 11,pa 35 34,bj 36 35,eo 37 36 (.fC (.t 10)),eo 38 36 (.fC (.t 0)),eo 39 36 (.ef .neq 9 (.t 37) (.t 38)),ro 40 (.pick (.t 36) (.c (.bool true)) (.t 39))] [5,8,40] (.cond (.t 40) (bD [ro 2 (.iB (.c (.str []))),sT 3,g_ 4 false] [2,3,4] .ret) .skip))) (bD [bj 41 5,bj 42 8,cT 2 41,cT 3 42,g_ 4 true] [2,3,4] .ret)
def adY:aH:=bD [bj 13 0,ro 14 (.call (.f 115) [(.t 13),(.c (.str [40]))]),bj 12 14,nJ 15 12 0,nJ 16 12 1,nJ 17 12 2,cT 5 15,cT 6 16,cT 7 17] [0,5,6,7] (bD [sT 8] [0,5,6,7,8] (.seq (bD [bj 18 7] [0,5,6,8,18] (.cond (.t 18) (bD [g_ 9 false] [0,5,6] (bD [bj 20 6,ro 21 (.call (.f 118) [(.t 20),(.c (.str [41]))]),ro 22 (.call (.f 117) [(.t 21),(.c (.str [44]))]),jZ 23 116 22,bj 19 23,nJ 24 19 0,nJ 25 19 1,cT 8 24,cT 9 25] [0,5,8,9] (bD [bj 26 9,pa 27 26] [0,5,8,27] (.cond (.t 27) (bD [ro 2 (.iB (.c (.str []))),sT 3,g_ 4 false] [2,3,4] .ret) .skip)))) .skip)) RX))
def c85:aH:=bD [ro 2 (.iB (.c (.str []))),sT 3,g_ 4 false] [0] adY
noncomputable def KL:aH:=ck (cj 13 [0] Tryz.f55 [[0],[5],[2]])
noncomputable def adZ:aH:=ck (cj 6 [0] Tryz.f54 [[0],[2]])
noncomputable def ad0:aH:=ck (cj 19 [0,1] Tryz.f84 [[0,1],[0,1,7,8],[0,1,7,8,9],[0,1,5,7,8],[0,1,5,7,8,16],[4],[0,1,7,8],[4]])
noncomputable def c53:aH:=ck (cj 9 [0,1] Tryz.f53 [[0,1],[4]])
noncomputable def c28:aH:=ck (cj 6 [0] Tryz.f28 [[0],[2]])
noncomputable def ad1:aH:=ck (cj 8 [0] Tryz.f29 [[0],[0,4],[2],[2]])
noncomputable def c148:aH:=ck (cj 38 [0] Tryz.f148 [[0],[0,4],[0,4,5],[4,5,17,18],[4,5,17,18,19],[4,5,17,18],[4,5,6,17,18],[4,5,17,18],[4,5,17,18],[2,3]])
noncomputable def c119:aH:=ck (cj 11 [0] Tryz.f119 [[0],[3],[2]])
def RY:aH:=bD [bj 26 0,cT 4 26] [4] .ret
def RZ:aH:=.seq (bD [bj 8 1,bj 9 0,ro 10 (.cap 22 (.t 9)),bj 11 0,lR 12 22 11,mX 13 .sub 3 10 12,mX 14 .sub 3 8 13,cT 1 14] [0,1] (bD [bj 15 1,gl 16 .gtr 3 15 0] [0,1,16] (.cond (.t 16) (.ew [bj 17 0,bj 18 0,ro 19 (.cap 22 (.t 18)),ro 20 (.fR 22 (.t 17) none (some (.t 19))),bj 21 1,⟨some 22,.iV 22 3 (.t 20) (.t 21),none⟩,bj 23 0,lR 24 22 23,ro 25 (.fR 22 (.t 22) none (some (.t 24))),cT 0 25] (some [0])) .skip))) RY
def ad2:aH:=bD [sT 4] [0,1] (.seq (bD [bj 5 1,gl 6 .lss 3 5 0] [0,1,6] (.cond (.t 6) (.ew [ro 7 (.bad),⟨none,.bad,none⟩] (some [0,1])) .skip)) RZ)
noncomputable def ad3:aH:=ck (cj 36 [0] Tryz.f122 [[0],[0,3],[0,3,9,10,11],[0,3,9,10,11,12],[0,3,5,9,10,11],[0,3,9,10,11],[0,3,9,10,11,20],[0,3,9,10,11],[0,3,9,10,11],[0,6],[6,25,26,27],[6,25,26,27,28],[6,8,25,26,27],[6,25,26,27],[6,25,26,27],[2]])
noncomputable def ad4:aH:=ck (cj 4 [0] Tryz.f150 [[0],[3],[2],[2]])
noncomputable def ad5:aH:=ck (cj 67 [0,1,2] Tryz.f151 [[0,1,2],[1,2,7],[1,2,7,8],[6],[1,2,7,14],[6],[1,2,7,21],[6],[1,2,7,27],[6],[1,2,7,33],[6],[1,2,7,39],[6],[1,2,7,45],[6],[1,2,51],[6],[6]])
noncomputable def B5:aH:=ck (cj 61 [0,1] Tryz.f123 [[0,1],[0,1,9],[0,1,9,10],[4],[0,1,9,17],[4],[0,1,27],[4],[4]])
noncomputable def c124:aH:=ck (cj 9 [0,1] Tryz.f124 [[0,1],[4]])
noncomputable def ad6:aH:=ck (cj 22 [0,1] Tryz.f89 [[0,1],[0,1,5],[1,5,8,9,10],[1,5,8,9,10,11],[1,5,7,8,9,10],[1,5,8,9,10],[1,5,8,9,10],[4]])
def ad7:aH:=bD [bj 19 5,iD 20 74 1 4,eX 21 72 20,bj 22 0,iE 23 89 21 22,ro 24 (.ij 52 [(0,(.t 19)),(1,(.t 23))]),vV 7 52,ud 52 7 24] [2,3,5,7] (bD [bj 25 5,ro 26 (.ef .add 9 (.t 25) (.c (.str [32]))),iD 27 52 7 1,eX 28 22 27,ro 29 (.call (.f 90) [(.t 28),(.c (.str [44]))]),mX 30 .add 9 26 29,cT 8 30] [2,3,7,8] (bD [eX 31 112 2,bj 32 8,ro 33 (.il 112 (.t 31) (.t 32)),pa 34 33] [2,3,7,8,34] (.cond (.t 34) (bD [eX 35 112 2,bj 36 8,⟨none,.jz 112 (.t 35) (.t 36) (.c (.bool true)),none⟩] [2,3,7] (.ew [eX 37 49 3,eX 38 52 7,A4 39 49 38,vW 40 49 49 37 39,ud 49 3 40] (some [2,3]))) .skip)))
def c87:aH:=Fv [iD 10 74 1 2,eX 11 9 10,iD 12 74 1 3,eX 13 72 12,bj 14 0,iE 15 89 13 14,iE 16 88 11 15,bj 9 16,nJ 17 9 0,nJ 18 9 1,cT 5 17,cT 6 18] [[],[0],[],[2],[],[3,4],[1,5,5],[6],[7],[7],[8,6,0,1,2,3,4,5,6,7,8],[9,10,0,1,2,3,4,5,6,7,8,9,10]] [0,1,2,3,5] ad7
def ad8:aH:=.gF (Ea ao 3 15 [bj 16 6] [(.t 16)] (some 17) [] [0,3]) (Rs 117 3 15 [bj 16 6] [(.t 16)] (some 17) [])
def ad9:aH:=.cond (.t 14) ad8 .skip
def R0:aH:=bD [g_ 5 true] [0,3,5] .ret
def ad_:aH:=.seq (bD [eX 11 148 2,bj 12 6,iE 13 123 11 12,gl 14 .neq 2 13 0] [0,3,6,14] ad9) R0
def aea:aH:=.seq (.gF (yc ao [eX 7 22 1,bj 8 0,ro 9 (.ei 29 2 [(0,(.t 7)),(1,(.t 8))]),jZ 10 122 9,cT 6 10] 6 [0,2,3,6]) (IH [eX 7 22 1,bj 8 0,ro 9 (.ei 29 2 [(0,(.t 7)),(1,(.t 8))]),jZ 10 122 9,cT 6 10])) ad_
def R1:aH:=bD [g_ 5 false] [0,1,2,3] aea
theorem aeb:R1.lN (λT b=>vZ ao T b\/Eb ao T b):=And.intro (True.intro) (And.intro (.inl ⟨_,_,_,rfl,rfl⟩) (And.intro (And.intro (True.intro) (And.intro (.inr ⟨_,_,_,_,_,_,_,_,rfl,rfl,(by kernel_rfl),(by decide),(by decide)⟩) (True.intro))) (And.intro (True.intro) (True.intro))))
theorem aec:fh ⟨18,[0,1,2,3]⟩ (Tryz.f121.body.getD .skip)=some R1.strip:=by kernel_rfl
def aed:aH:=.cond (.t 11) .skip (.exit 0)
def aee:aH:=.cond (.t 27) .skip (.exit 2)
def aef:aH:=.ew [bj 31 5,gl 32 .sub 3 31 1,cT 5 32] (some [0,1,4,5])
def aeg:aH:=.block 3 (bD [bj 28 4,bj 29 5,vU 30 22 28 29,⟨none,.ki 2 (.t 30) (.c (.int .i64 0)),none⟩] [0,1,4,5] aef)
def R2:aH:=.seq (Fv [bj 15 5,gl 16 .geq 3 15 0,bj 17 16,gd 18 17 (.fC (.t 4)),gd 19 17 (.fC (.t 5)),gd 20 17 (.jb 22 (.t 18) (.t 19)),gd 21 17 (.ld 2 (.t 20)),gd 22 17 (.fC (.t 0)),gd 23 17 (.fC (.t 5)),gd 24 17 (.jb 22 (.t 22) (.t 23)),gd 25 17 (.ld 2 (.t 24)),gd 26 17 (.ef .eql 2 (.t 21) (.t 25)),ro 27 (.pick (.t 17) (.t 26) (.c (.bool false)))] [[],[0],[1],[2],[2],[3,4,2],[5,2],[2],[2],[7,8,2],[9,2],[6,10,2],[2,11]] [0,1,4,5,27] aee) aeg
def aeh:aH:=.cond (.t 34) .ret .skip
def aei:aH:=.ew [bj 35 4,bj 36 5,vU 37 22 35 36,eX 38 2 37,gl 39 .add 2 38 1,vU 40 22 35 36,ud 2 40 39] (some [0,1,4])
def aej:aH:=.seq (bD [bj 33 5,gl 34 .lss 3 33 0] [0,1,4,5,34] aeh) aei
def aek:aH:=.seq (.block 2 (.loop R2)) aej
def ael:aH:=.block 1 (bD [bj 12 4,lR 13 22 12,gl 14 .sub 3 13 1,cT 5 14] [0,1,4,5] aek)
def R3:aH:=.seq (.seq (.gF (ug ao [bj 9 1,bj 10 4] (.t 9) [(.t 10)] (some 11) [] [0,1,4,11]) (D7 [bj 9 1,bj 10 4] (.t 9) [(.t 10)] (some 11) [])) aed) ael
def aem:aH:=.block 0 (.loop R3)
def R4:aH:=bD [bj 6 0,lR 7 22 6,ro 8 (.eL 22 (.t 7) (.t 7)),cT 4 8] [0,1,4] aem
theorem aen:R4.lN (yb ao):=And.intro (True.intro) (And.intro (And.intro (⟨_,_,_,_,_,_,rfl,rfl⟩) (And.intro (True.intro) (True.intro))) (And.intro (True.intro) (And.intro (And.intro (And.intro (True.intro) (And.intro (True.intro) (True.intro))) (And.intro (True.intro) (True.intro))) (And.intro (And.intro (True.intro) (And.intro (True.intro) (True.intro))) (True.intro)))))
theorem aeo:fh ⟨41,[0,1]⟩ (Tryz.f120.body.getD .skip)=some R4.strip:=by kernel_rfl
def aep:aH:=.gF (ug ao [iD 10 74 3 0,eX 11 22 10,ro 12 (.o1 121 [(.t 4),(.t 6),(.t 5)])] (.f 120) [(.t 11),(.t 12)] (some 13) [] [2]) (D7 [iD 10 74 3 0,eX 11 22 10,ro 12 (.o1 121 [(.t 4),(.t 6),(.t 5)])] (.f 120) [(.t 11),(.t 12)] (some 13) [])
def aeq:aH:=bD [iD 7 74 3 1,eX 8 71 7,jZ 9 119 8,vV 6 148,ud 148 6 9] [2,3,4,5,6] aep
def R5:aH:=bD [ro 3 (.h2 74 (.t 0)),ro 4 (.h2 22 (.t 1)),⟨some 5,.jR 117 (.t 2),none⟩] [2,3,4,5] aeq
theorem aer:R5.lN (yb ao):=And.intro (True.intro) (And.intro (True.intro) (⟨_,_,_,_,_,_,rfl,rfl⟩))
theorem aes:fh ⟨14,[0,1,2]⟩ (Tryz.f86.body.getD .skip)=some R5.strip:=by kernel_rfl
def aet:aH:=.gF (ug ao [eX 17 74 8,bj 18 1,ro 19 (.o1 87 [(.t 8),(.t 6),(.t 5)])] (.f 86) [(.t 17),(.t 18),(.t 19)] (some 20) [] [1,5,6,11,12,13]) (D7 [eX 17 74 8,bj 18 1,ro 19 (.o1 87 [(.t 8),(.t 6),(.t 5)])] (.f 86) [(.t 17),(.t 18),(.t 19)] (some 20) [])
def aeu:aH:=.ew [gl 21 .add 3 13 1,bj 13 21] (some [1,5,6,11,12,13])
def aev:aH:=.seq (.block 1 (bD [vU 15 32 11 13,eX 16 74 15,vV 8 74,ud 74 8 16] [1,5,6,8,11,12,13] aet)) aeu
def aew:aH:=.seq (.cond (.t 14) .skip (.exit 0)) aev
def R6:aH:=bD [mX 14 .lss 3 13 12] [1,5,6,11,12,13,14] aew
def aex:aH:=.block 0 (.loop R6)
def aey:aH:=bD [eX 22 49 5,cT 4 22] [4] .ret
def aez:aH:=.seq (bD [iD 10 34 2 2,eX 11 32 10,lR 12 32 11,aaq 13 0] [1,5,6,11,12,13] aex) aey
def aeA:aH:=bD [ro 9 (.rD),vV 6 112,ud 112 6 9] [1,2,5,6] aez
def aeB:aH:=bD [vV 5 49] [1,2,5] aeA
def R7:aH:=bD [ro 2 (.h2 34 (.t 0)),sT 4] [1,2] aeB
theorem aeC:R7.lN (yb ao):=And.intro (True.intro) (And.intro (True.intro) (And.intro (True.intro) (And.intro (And.intro (True.intro) (And.intro (True.intro) (And.intro (And.intro (True.intro) (True.intro)) (And.intro (And.intro (True.intro) (⟨_,_,_,_,_,_,rfl,rfl⟩)) (True.intro))))) (And.intro (True.intro) (True.intro)))))
theorem aeD:fh ⟨23,[0,1]⟩ (Tryz.f56.body.getD .skip)=some R7.strip:=by kernel_rfl
noncomputable def aeE:aH:=ck (cj 41 [0,1,2] Tryz.f30 [[1,2,3],[1,2,3,7],[2,3,7,12,13,14],[2,3,7,12,13,14,15],[2,3,7,9,12,13,14],[2,3,7,12,13,14,20,21,22],[2,3,7,12,13,14,20,21,22,23],[2,3,7,11,12,13,14,20,21,22],[2,3,7,11,12,13,14,20,21,22,29],[2,3,7,12,13,14,20,21,22],[2,3,7,12,13,14,20,21,22],[2,3,7,12,13,14],[7],[6]])
noncomputable def c9:aH:=ck (cj 39 [0,1] Tryz.f9 [[1,2],[1,2,9],[4,5],[1,2,13],[4,5],[1,2,6],[2,6,21,22,23],[2,6,21,22,23,24],[2,6,8,21,22,23],[2,6,21,22,23],[2,6,21,22,23,33],[4,5],[2,6,21,22,23,36],[4,5],[2,6,21,22,23],[4,5]])
noncomputable def c31:aH:=ck (cj 26 [0,1] Tryz.f31 [[0,1],[0,1,10],[4],[0,1,5],[0,1,5,14],[0,1,5,25],[4],[0,1,5],[4]])
noncomputable def w1:aH:=ck (cj 27 [0,1] Tryz.f10 [[0,1],[0,1,10],[4],[0,1,5],[0,1,5,14],[0,1,5,26],[4],[0,1,5],[4]])
noncomputable def c138:aH:=ck (cj 15 [0,1] Tryz.f138 [[2,3],[2,3,9],[4],[14],[4],[4]])
noncomputable def aeF:aH:=ck (cj 27 [0,1] Tryz.f94 [[0,1],[0,1,10],[4],[0,1,5],[0,1,5,14],[0,1,5,26],[4],[0,1,5],[4]])
noncomputable def KM:aH:=ck (cj 27 [0,1] Tryz.f95 [[0,1],[0,1,10],[4],[0,1,5],[0,1,5,14],[0,1,5,26],[4],[0,1,5],[4]])
noncomputable def aeG:aH:=ck (cj 34 [0,1] Tryz.f61 [[2,3],[2,3,10],[4],[2,3,16],[4],[2,3,21],[4],[2,3,27],[4],[33],[4],[4]])
noncomputable def aeH:aH:=ck (cj 27 [0,1] Tryz.f32 [[0,1],[0,1,10],[4],[0,1,5],[0,1,5,14],[0,1,5,26],[4],[0,1,5],[4]])
noncomputable def aeI:aH:=ck (cj 22 [0,1] Tryz.f11 [[2,3],[2,3,9],[4],[2,3,15],[4],[21],[4],[4]])
noncomputable def c12:aH:=ck (cj 26 [0,1] Tryz.f12 [[0,1],[0,1,10],[4],[0,1,5],[0,1,5,14],[0,1,5,25],[4],[0,1,5],[4]])
noncomputable def B6:aH:=ck (cj 19 [0] Tryz.f33 [[0,1],[0,1,5],[0,1,5,9],[0,1,5],[0,1,5],[0,1,5],[0,4]])
noncomputable def aeJ:aH:=ck (cj 27 [0] Tryz.f62 [[0,1],[0,1,5],[0,1,5,9],[0,1,5],[0,1,5],[0,1,5],[0,1,5],[0,1,5],[0,4]])
def R8:aH:=.seq (bD [bj 6 0,gl 7 .gtr 3 6 0] [0,3,7] (.cond (.t 7) .skip (.exit 0))) (.block 1 (bD [bj 8 0,gl 9 .rem 3 8 10,ro 10 (.ef .add 3 (.c (.int .i64 48)) (.t 9)),D2 11 3 5 10,A4 12 92 11,D2 13 92 9 12,bj 14 3,mX 15 .add 9 13 14,cT 3 15] [0,3] (.ew [bj 16 0,gl 17 .quo 3 16 10,cT 0 17] (some [0,3]))))
def aeK:aH:=bD [ro 2 (.iB (.c (.str [])))] [0] (.seq (bD [bj 4 0,gl 5 .leq 3 4 0] [0,5] (.cond (.t 5) (bD [ro 2 (.iB (.c (.str [109,48])))] [2] .ret) .skip)) (bD [ro 3 (.iB (.c (.str [])))] [0,3] (.seq (.block 0 (.loop R8)) (bD [bj 18 3,ro 19 (.ef .add 9 (.c (.str [109])) (.t 18)),cT 2 19] [2] .ret))))
noncomputable def aeL:aH:=ck (cj 19 [0] Tryz.f63 [[0,1],[0,1,5],[0,1,5,9],[0,1,5],[0,1,5],[0,4]])
noncomputable def KN:aH:=ck (cj 49 [0] Tryz.f34 [[0,1],[0,1,5],[0,1,5,9],[0,1,5],[0,1,5],[0,1,5],[0,1,5],[0,1,5],[0,1,5],[0,1,5],[0,4]])
def aeM:aH:=bD [⟨some 2,.jR 34 (.t 0),none⟩,sS 4 0] [0,1,2] (bD [iD 5 34 2 1,eX 6 22 5,bj 7 1,⟨some 8,.mo (.f 33) [(.t 6),(.t 7)] [2],none⟩,cT 1 8] [0,1,2] (bD [iD 9 34 2 2,eX 10 32 9,bj 11 1,iE 12 34 10 11,cT 1 12] [0,1] (bD [bj 13 1,cT 4 13] [0,4] .ret)))
noncomputable def lv:aH:=ck (cj 20 [0] Tryz.f14 [[0,1],[0,1,5],[0,1,5,9],[0,1,5],[0,1,5],[0,1,5],[0,4]])
noncomputable def aeN:aH:=ck (cj 19 [0] Tryz.f15 [[0,1],[0,1,5],[0,1,5,9],[0,1,5],[0,1,5],[0,4]])
noncomputable def aeO:aH:=ck (cj 21 [0] Tryz.f36 [[0,1],[0,1,5],[0,1,5,9],[0,1,5,17],[4],[0,1,5],[0,1,5],[4]])
noncomputable def pt:aH:=ck (cj 21 [0] Tryz.f16 [[0,1],[0,1,5],[0,1,5,9],[0,1,5],[0,1,5,19],[4],[0,1,5],[4]])
def aeP:aH:=.seq (bD [bj 102 15,bj 103 6,iE 104 10 102 103,pa 105 104,bj 106 105,eo 107 106 (.fC (.t 16)),eo 108 106 (.fC (.t 7)),eo 109 106 (.ef .neq 2 (.t 107) (.t 108)),ro 110 (.pick (.t 106) (.c (.bool true)) (.t 109))] [10,13,110] (.cond (.t 110) (bD [g_ 4 false] [4] .ret) .skip)) (bD [sS 14 1] [10,13,14] (bD [bj 111 10,bj 112 14,iE 113 16 111 112,cT 14 113] [13,14] (.seq (bD [bj 114 14,gl 115 .lss 3 114 0] [13,14,115] (.cond (.t 115) (bD [g_ 4 false] [4] .ret) .skip)) (.seq (bD [bj 116 14,bj 117 13,mX 118 .neq 3 116 117] [118] (.cond (.t 118) (bD [g_ 4 false] [4] .ret) .skip)) (bD [g_ 4 true] [4] .ret)))))
def aeQ:aH:=bD [bj 86 10,bj 87 14,iE 88 16 86 87,cT 14 88] [1,2,6,7,10,13,14] (.seq (bD [bj 89 14,gl 90 .lss 3 89 0] [1,2,6,7,10,13,14,90] (.cond (.t 90) (bD [g_ 4 false] [4] .ret) .skip)) (.seq (bD [bj 91 14,bj 92 13,mX 93 .neq 3 91 92] [1,2,6,7,10,13,93] (.cond (.t 93) (bD [g_ 4 false] [4] .ret) .skip)) (bD [eX 95 25 2,jZ 96 7 95,bj 97 1,jZ 98 8 97,iE 99 9 96 98,bj 94 99,nJ 100 94 0,nJ 101 94 1,cT 15 100,cT 16 101] [6,7,10,13,15,16] aeP)))
def aeR:aH:=.seq (bD [bj 70 12,gl 71 .lss 3 70 0,bj 72 71,eo 73 72 (.fC (.t 10)),eo 74 72 (.fC (.t 6)),⟨some 75,.call (.f 10) [(.t 73),(.t 74)],some (72,false)⟩,eo 76 72 (.un .not (.t 75)),ro 77 (.pick (.t 72) (.c (.bool true)) (.t 76)),bj 78 77,eo 79 78 (.fC (.t 11)),eo 80 78 (.fC (.t 7)),eo 81 78 (.ef .neq 2 (.t 79) (.t 80)),ro 82 (.pick (.t 78) (.c (.bool true)) (.t 81))] [1,2,6,7,10,82] (.cond (.t 82) (bD [g_ 4 false] [4] .ret) .skip)) (bD [sS 13 1] [1,2,6,7,10,13] (bD [bj 83 10,bj 84 13,iE 85 15 83 84,cT 13 85] [1,2,6,7,10,13] (bD [sS 14 1] [1,2,6,7,10,13,14] aeQ)))
def aeS:aH:=.seq (Fv [eX 54 34 8,eX 55 25 2,jZ 56 7 55,iE 57 11 54 56,pa 58 57] [[],[],[1],[0,2,2],[3]] [1,2,6,7,8,9,10,11,58] (.cond (.t 58) (bD [g_ 4 false] [4] .ret) .skip)) (.seq (bD [bj 59 9,bj 60 1,jZ 61 8 60,iE 62 12 59 61,pa 63 62] [1,2,6,7,8,9,10,11,63] (.cond (.t 63) (bD [g_ 4 false] [4] .ret) .skip)) (bD [sS 12 1] [1,2,6,7,8,9,10,11,12] (bD [eX 64 34 8,bj 65 12,iE 66 13 64 65,cT 12 66] [1,2,6,7,9,10,11,12] (bD [bj 67 9,bj 68 12,iE 69 14 67 68,cT 12 69] [1,2,6,7,10,11,12] aeR))))
def aeT:aH:=bD [eX 35 25 2,jZ 36 7 35,vV 8 34,ud 34 8 36] [1,2,6,7,8] (bD [bj 37 1,jZ 38 8 37,cT 9 38] [1,2,6,7,8,9] (bD [eX 40 34 8,bj 41 9,iE 42 9 40 41,bj 39 42,nJ 43 39 0,nJ 44 39 1,cT 10 43,cT 11 44] [1,2,6,7,8,9,10,11] (.seq (bD [bj 45 10,bj 46 6,iE 47 10 45 46,pa 48 47,bj 49 48,eo 50 49 (.fC (.t 11)),eo 51 49 (.fC (.t 7)),eo 52 49 (.ef .neq 2 (.t 50) (.t 51)),ro 53 (.pick (.t 49) (.c (.bool true)) (.t 52))] [1,2,6,7,8,9,10,11,53] (.cond (.t 53) (bD [g_ 4 false] [4] .ret) .skip)) aeS)))
def aeU:aH:=bD [eX 17 25 2,bj 18 5,iE 19 4 17 18,cT 5 19] [1,2,5] (.seq (bD [bj 20 5,gl 21 .lss 3 20 0] [1,2,5,21] (.cond (.t 21) (bD [g_ 4 true] [4] .ret) .skip)) (bD [bj 22 1,bj 23 5,iE 24 5 22 23,cT 5 24] [1,2,5] (.seq (bD [bj 25 5,gl 26 .lss 3 25 0] [1,2,26] (.cond (.t 26) (bD [g_ 4 true] [4] .ret) .skip)) (bD [eX 28 25 2,jZ 29 7 28,bj 30 1,jZ 31 8 30,iE 32 6 29 31,bj 27 32,nJ 33 27 0,nJ 34 27 1,cT 6 33,cT 7 34] [1,2,6,7] aeT))))
def c3:aH:=bD [ro 2 (.h2 25 (.t 0)),g_ 4 false] [1,2] (bD [sS 5 1048576] [1,2,5] aeU)
def R9:=PLift.up (And.intro @Bool.not_true @Bool.not_false)
def anm:=PLift.up (And.intro @length_append.{0} (And.intro @length_cons.{0} (And.intro @length_nil.{0} (And.intro @length_map.{0,0} (And.intro @length_replicate.{0} (And.intro @Nat.zero_add @Nat.add_zero))))))
end Go.Proofs.YtcmimclaknmnbaaGreatDoor
