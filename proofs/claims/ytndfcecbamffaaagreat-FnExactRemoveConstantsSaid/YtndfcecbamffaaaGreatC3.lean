/- Part of a proof that a law returns true for every input. No condition. -/
import Derived.Test.YtndfcecbamffaaaGreatTb
import Derived.Test.YtndfcecbamffaaaGreatFwL
import Derived.Test.YtndfcecbamffaaaGreatFwU
import Derived.Test.YtndfcecbamffaaaGreatFwSp
import Derived.Test.YtndfcecbamffaaaGreatP3
namespace Go.Proofs.YtndfcecbamffaaaGreat
open List Option Go.IntKind Nat Or
open Go Go.c3 Go.nc
set_option linter.unusedSimpArgs false
def ax (x:Int):I:=.int .i64 x
theorem gN (x:Int):(ax x).share=ax x:=by
 simp only[ax,d_]
theorem q7 (x:Int):(ax x).cM=true:=by
 simp only[ax,I.cM,I.hq,Bool.and_self]
def iw (x:gX):I:=.agg [.int .i64 x.Kind,.int .i64 x.Value]
theorem Mm (x:gX):(iw x).share=iw x:=by
 simp only[iw,d_]
theorem aej (x:gX):(iw x).cM=true:=by
 simp only[iw,I.cM,I.hq,Bool.and_self]
def hX (x:afk):I:=.slice (x.map iw)
theorem Mn (x:afk):(hX x).share=hX x:=by
 simp only[hX,d_, @cN _ iw iw (λ_=>Mm _)]
def hF (x:i0):I:=.agg [.slice (x.br.map ax),.slice (x.Guard.map iw),.str x.Name,.slice (x.bD.map hX),.slice (x.Next.map hX)]
theorem Mo (x:i0):(hF x).share=hF x:=by
 simp only[hF,d_, @cN _ ax ax (λ_=>gN _), @cN _ iw iw (λ_=>Mm _), @cN _ hX hX (λ_=>Mn _)]
def j0 (x:lZ):I:=.agg [.int .i64 x.bz,.slice (x.Start.map ax),.slice (x.bu.map hF)]
theorem aek (x:lZ):(j0 x).share=j0 x:=by
 simp only[j0,d_, @cN _ ax ax (λ_=>gN _), @cN _ hF hF (λ_=>Mo _)]
def yA (x:afb):I:=.slice (x.map ax)
theorem ael (x:afb):(yA x).share=yA x:=by
 simp only[yA,d_, @cN _ ax ax (λ_=>gN _)]
def Gp (x:afl):I:=.slice (x.map hF)
theorem aem (x:afl):(Gp x).share=Gp x:=by
 simp only[Gp,d_, @cN _ hF hF (λ_=>Mo _)]
def yB (x:nq):I:=.str x
theorem aen (x:nq):(yB x).share=yB x:=by
 simp only[yB,d_]
theorem aeo (x:nq):(yB x).cM=true:=by
 simp only[yB,I.cM,I.hq,Bool.and_self]
def Gq (x:afi):I:=.slice (x.map hX)
theorem aep (x:afi):(Gq x).share=Gq x:=by
 simp only[Gq,d_, @cN _ hX hX (λ_=>Mn _)]
def aS (x:aD):I:=.agg [.int .i64 x.Kind,.int .i64 x.Value]
theorem l8 (x:aD):(aS x).share=aS x:=by
 simp only[aS,d_]
theorem tN (x:aD):(aS x).cM=true:=by
 simp only[aS,I.cM,I.hq,Bool.and_self]
def df (x:afm):I:=.slice (x.map aS)
theorem r6 (x:afm):(df x).share=df x:=by
 simp only[df,d_, @cN _ aS aS (λ_=>l8 _)]
def cD (x:bc):I:=.agg [.slice (x.br.map ax),.slice (x.Guard.map aS),.str x.Name,.slice (x.bD.map df),.slice (x.Next.map df)]
theorem tO (x:bc):(cD x).share=cD x:=by
 simp only[cD,d_, @cN _ ax ax (λ_=>gN _), @cN _ aS aS (λ_=>l8 _), @cN _ df df (λ_=>r6 _)]
def dg (x:afm):I:=.ag 2 (x.map aS)
theorem Gr (x:afm):(dg x).share=df x:=by
 simp only[dg,df,d_, @cN _ aS aS (λ_=>l8 _)]
theorem vY (x:afm):(dg x).cM=true:=by
 simp only[dg,I.cM,I.hq,Bool.and_self, @il _ aS (λ_=>tN _)]
def cJ (x:bc):I:=.agg [.ag 1 (x.br.map ax),.ag 2 (x.Guard.map aS),.str x.Name,.ag 1 (x.bD.map dg),.ag 1 (x.Next.map dg)]
theorem q8 (x:bc):(cJ x).share=cD x:=by
 simp only[cJ,cD,d_, @cN _ ax ax (λ_=>gN _), @cN _ aS aS (λ_=>l8 _), @cN _ dg df (λ_=>Gr _)]
theorem Mp (x:bc):(cJ x).cM=true:=by
 simp only[cJ,I.cM,I.hq,Bool.and_self, @il _ ax (λ_=>q7 _), @il _ aS (λ_=>tN _), @il _ dg (λ_=>vY _)]
def BJ (x:afb):I:=.ag 1 (x.map ax)
theorem aeq (x:afb):(BJ x).share=yA x:=by
 simp only[BJ,yA,d_, @cN _ ax ax (λ_=>gN _)]
theorem aer (x:afb):(BJ x).cM=true:=by
 simp only[BJ,I.cM,I.hq,Bool.and_self, @il _ ax (λ_=>q7 _)]
def BK (x:afj):I:=.ag 1 (x.map dg)
def lA (x:afj):I:=.slice (x.map df)
theorem Vv (x:afj):(lA x).share=lA x:=by
 simp only[lA,d_, @cN _ df df (λ_=>r6 _)]
theorem aes (x:afj):(BK x).share=lA x:=by
 simp only[BK,lA,d_, @cN _ dg df (λ_=>Gr _)]
theorem aet (x:afj):(BK x).cM=true:=by
 simp only[BK,I.cM,I.hq,Bool.and_self, @il _ dg (λ_=>vY _)]
def eC (x:bg):I:=.agg [.int .i64 x.bz,.ag 1 (x.Start.map ax),.ag 5 (x.bu.map cJ)]
def bN (x:bg):I:=.agg [.int .i64 x.bz,.slice (x.Start.map ax),.slice (x.bu.map cD)]
theorem aeu (x:bg):(bN x).share=bN x:=by
 simp only[bN,d_, @cN _ ax ax (λ_=>gN _), @cN _ cD cD (λ_=>tO _)]
theorem aev (x:bg):(eC x).share=bN x:=by
 simp only[eC,bN,d_, @cN _ ax ax (λ_=>gN _), @cN _ cJ cD (λ_=>q8 _)]
theorem yC (x:bg):(eC x).cM=true:=by
 simp only[eC,I.cM,I.hq,Bool.and_self, @il _ ax (λ_=>q7 _), @il _ cJ (λ_=>Mp _)]
def BL (x:afn):I:=.ag 5 (x.map cJ)
def yD (x:afn):I:=.slice (x.map cD)
theorem aew (x:afn):(yD x).share=yD x:=by
 simp only[yD,d_, @cN _ cD cD (λ_=>tO _)]
theorem aex (x:afn):(BL x).share=yD x:=by
 simp only[BL,yD,d_, @cN _ cJ cD (λ_=>q8 _)]
theorem aey (x:afn):(BL x).cM=true:=by
 simp only[BL,I.cM,I.hq,Bool.and_self, @il _ cJ (λ_=>Mp _)]
def dX (x:Bool):I:=.bool x
theorem Mq (x:Bool):(dX x).share=dX x:=by
 simp only[dX,d_]
theorem Vw (x:Bool):(dX x).cM=true:=by
 simp only[dX,I.cM,I.hq,Bool.and_self]
theorem BM:(∀J ab,(bI.mk J ab).term=J)/\(∀J ab,(bI.mk J ab).args=ab):=⟨λ_ _=>rfl,λ_ _=>rfl⟩
mutual
def fL:bI->I
 | .mk J ab=>.agg [aS J,.slice (oy ab)]
def oy:List bI->afh
 |[]=>[]
 |y::r=>.ref (fL y)::oy r
end
def gC (x:bI):I:=.ref (fL x)
theorem Mr:∀l,oy l=l.map gC
 |[]=>by simp only[oy,map_nil]
 |y::r=>by simp only[oy,map_cons,Mr r,gC]
theorem BN (x:bI):fL x= .agg [aS x.term,.slice (x.args.map gC)]:=by
 cases x;simp only[fL,Mr,bI.term,bI.args]
mutual
theorem Ms:∀x:bI,(fL x).share=fL x
 | .mk J ab=>by simp only[fL,d_,I.share,I.shares,Mt ab,l8]
theorem Mt:∀l:List bI,I.shares (oy l)=oy l
 |[]=>by simp only[oy,I.shares]
 |y::r=>by simp only[oy,I.shares,I.share,Ms y,Mt r]
end
theorem Gs (x:bI):(gC x).share=gC x:=by simp only[gC,I.share,Ms]
mutual
def r7:bI->I
 | .mk J ab=>.agg [aS J,.ag 1 (pb ab)]
def pb:List bI->afh
 |[]=>[]
 |y::r=>.aK (r7 y)::pb r
end
def ix (x:bI):I:=.aK (r7 x)
theorem Mu:∀l,pb l=l.map ix
 |[]=>by simp only[pb,map_nil]
 |y::r=>by simp only[pb,map_cons,Mu r,ix]
theorem Vx (x:bI):r7 x= .agg [aS x.term,.ag 1 (x.args.map ix)]:=by
 cases x;simp only[r7,Mu,bI.term,bI.args]
mutual
theorem Mv:∀x:bI,(r7 x).share=fL x
 | .mk J ab=>by simp only[r7,fL,d_,I.share,I.shares,Mw ab,l8]
theorem Mw:∀l:List bI,I.shares (pb l)=oy l
 |[]=>by simp only[pb,oy,I.shares]
 |y::r=>by simp only[pb,oy,I.shares,I.share,Mv y,Mw r]
end
theorem Mx (x:bI):(ix x).share=gC x:=by simp only[ix,gC,I.share,Mv]
mutual
theorem My:∀x:bI,(r7 x).cM=true
 | .mk J ab=>by simp[r7,I.cM,I.hq,Mz ab,aS]
theorem Mz:∀l:List bI,I.hq (pb l)=true
 |[]=>by simp only[pb,I.hq]
 |y::r=>by simp only[pb,I.hq,I.cM,My y,Mz r,Bool.and_self]
end
theorem Vy (x:bI):(ix x).cM=true:=by simp only[ix,I.cM,My]
def BO (x:List bI):I:=.ag 1 (x.map ix)
def yE (x:List bI):I:=.slice (x.map gC)
theorem aez (x:List bI):(yE x).share=yE x:=by
 simp only[yE,d_, @cN _ gC gC (λ_=>Gs _)]
theorem aeA (x:List bI):(BO x).share=yE x:=by
 simp only[BO,yE,d_, @cN _ ix gC (λ_=>Mx _)]
theorem aeB (x:List bI):(BO x).cM=true:=by
 simp only[BO,I.cM,I.hq,Bool.and_self, @il _ ix (λ_=>Vy _)]
def BP (x:Bool×bI):I:=cond x.1 (.hole) (ix x.2)
theorem aeC:(BP∘λx=>(false,x))=ix:=rfl
theorem aeD (x:bI):BP (true,x)= .hole:=rfl
theorem aeE {x:Bool×bI} (h:zi (!x.1)=some ()):BP x=ix x.2:=by
 obtain⟨b,x⟩:=x;cases b
 .rfl
 .cases h
theorem aeF (x:Bool×bI):(BP x).wd=1:=by
 obtain⟨b,x⟩:=x;cases b<;>rfl
def qa (x:Bool×afm):I:=cond x.1 (.hole) (dg x.2)
theorem MA:(qa∘λx=>(false,x))=dg:=rfl
theorem Vz (x:afm):qa (true,x)= .hole:=rfl
theorem MB {x:Bool×afm} (h:zi (!x.1)=some ()):qa x=dg x.2:=by
 obtain⟨b,x⟩:=x;cases b
 .rfl
 .cases h
theorem aeG (x:Bool×afm):(qa x).wd=1:=by
 obtain⟨b,x⟩:=x;cases b<;>rfl
theorem aeH (s:ak) (J:Int) (ab:Int) (fK:Int) (ie:Int):eh aq s .eql 102 (.agg [.int .i64 J,.int .i64 ab]) (.agg [.int .i64 fK,.int .i64 ie])=some (.bool (((J==fK)&&(ab==ie)))):=by
 have q:structEq aq.P 102=true:=by kernel_rfl
 simp only[eh,EZ,q,if_true,mm,EY,and_self,map_some,Bool.and_true,Bool.and_assoc]
theorem VA (s:ak) (J:Int) (ab:Int) (fK:Int) (ie:Int):eh aq s .neq 102 (.agg [.int .i64 J,.int .i64 ab]) (.agg [.int .i64 fK,.int .i64 ie])=some (.bool (!((J==fK)&&(ab==ie)))):=by
 have q:structEq aq.P 102=true:=by kernel_rfl
 simp only[eh,EZ,q,if_true,mm,EY,and_self,map_some,Bool.and_true,Bool.and_assoc]
noncomputable def VB:aM:=cm (cl 12 [0] Tryz.f24 [[0,1],[1],[1,10],[4],[4]])
noncomputable def VC:aM:=cm (cl 12 [0] Tryz.f104 [[0,1],[1],[1,10],[4],[4]])
noncomputable def VD:aM:=cm (cl 27 [0] Tryz.f105 [[0,1],[0,1],[0,1,11],[4],[0,1,5],[0,1,5,15],[0,1,5],[0,1,5,25],[4],[0,1,5],[4]])
noncomputable def VE:aM:=cm (cl 37 [0] Tryz.f52 [[1,2],[1,2],[1,2,10],[4],[1,2],[1,2,16],[4],[1,2],[1,2,23],[4],[1,2],[1,2,29],[4],[1],[1,35],[4],[4]])
noncomputable def Gt:aM:=cm (cl 27 [0] Tryz.f25 [[0,1],[0,1],[0,1,11],[4],[0,1,5],[0,1,5,15],[0,1,5],[0,1,5,25],[4],[0,1,5],[4]])
noncomputable def fg:aM:=cm (cl 18 [0] Tryz.f6 [[1,2],[1,2],[1,2,10],[4],[1],[1,16],[4],[4]])
noncomputable def VF:aM:=cm (cl 22 [0] Tryz.f30 [[0],[0,3],[0,3,4],[0,3,4,11],[0,3,4],[0,3,4],[2]])
noncomputable def VG:aM:=cm (cl 11 [0] Tryz.f153 [[1,2],[1,2,3],[1,2,3],[2,3],[2]])
noncomputable def VH:aM:=cm (cl 23 [0] Tryz.f112 [[0],[0,3],[0,3,4],[0,3,4,11],[0,3,4],[0,3,4],[2]])
noncomputable def VI:aM:=cm (cl 23 [0] Tryz.f113 [[0],[0,3],[0,3,4],[0,3,4,11],[0,3,4],[0,3,4],[2]])
noncomputable def VJ:aM:=cm (cl 24 [0] Tryz.f60 [[1,2],[1,2,3],[1,2,3],[1,2,3],[1,2,3],[1,2,3],[2,3],[2]])
noncomputable def VK:aM:=cm (cl 23 [0] Tryz.f31 [[0],[0,3],[0,3,4],[0,3,4,11],[0,3,4],[0,3,4],[2]])
noncomputable def gV:aM:=cm (cl 16 [0] Tryz.f8 [[1,2],[1,2,3],[1,2,3],[1,2,3],[2,3],[2]])
noncomputable def VL:aM:=cm (cl 15 [0,1,2] Tryz.f53 [[0,1,2],[6]])
noncomputable def VM:aM:=cm (cl 16 [0] Tryz.f106 [[0],[0,3],[0,3,7],[0,3,15],[2],[0,3],[2]])
noncomputable def VN:aM:=cm (cl 13 [0,1] Tryz.f54 [[0,1],[4]])
noncomputable def VO:aM:=cm (cl 30 [0] Tryz.f107 [[0],[0,7],[2],[0,3],[0,3,4],[0,3,4,11],[0,3,4,19],[2],[0,3,4],[0,3,4],[3,28],[2],[2]])
noncomputable def VP:aM:=cm (cl 39 [0,1] Tryz.f148 [[0,1],[0,1,8],[0,1,8,9],[4],[0,1,8,16],[4],[0,8,25],[4],[0,32],[4],[4]])
noncomputable def VQ:aM:=cm (cl 11 [0] Tryz.f149 [[0],[6],[6,7],[2],[9],[2],[2]])
noncomputable def VR:aM:=cm (cl 38 [0,1,2] Tryz.f108 [[0,1,2],[0,1,12],[6],[0,1,7],[0,1,7,8],[0,1,7,8,16],[0,1,7,8,28],[6],[0,1,7,8],[0,1,7,8],[6]])
noncomputable def VS:aM:=cm (cl 19 [0,1] Tryz.f109 [[0,1],[0,1,5],[0,1,5,9],[0,1,5,18],[4],[0,1,5],[4]])
noncomputable def VT:aM:=cm (cl 9 [0] Tryz.f163 [[0],[2]])
noncomputable def VU:aM:=cm (cl 9 [0] Tryz.f164 [[0],[2]])
noncomputable def VV:aM:=cm (cl 35 [0] Tryz.f127 [[0],[0,16],[2],[0,3],[0,3,20],[0,3,34],[2],[0,3],[2]])
def bY (r:List bJ) (k:afc) (c:aM):aM:=.seq (.eI r (some k)) c
def yF (r:List bJ) (a:afa) (k:afc) (c:aM):aM:=.seq (.jb r a (some k)) c
abbrev iK (d t:Nat) (o:di):bJ:=⟨some d,o,some (t,true)⟩
abbrev eD (d t:Nat) (o:di):bJ:=⟨some d,o,some (t,false)⟩
abbrev aeI (n:Nat) (k:afc) (f:Func) (c:aM):Prop:=fp ⟨n,k⟩ (f.body.getD .skip)=some c.strip
def VW:aM:=bY [je 2 false] [0] (bY [b0 3 0,ki 4 127 3,b0 5 4,iK 6 5 (.eP (.t 0)),⟨some 7,.eh .neq 9 (.t 6) (.c (.str [116,97,117])),some (5,true)⟩,ro 8 (.pick (.t 5) (.t 7) (.c (.bool false))),en 2 8] [2] .ret)
def VX:aM:=.seq (bY [b0 35 0,uZ 36 35,fy 37 62 36 2,cU 38 9 37,ro 39 (.eh .eql 9 (.t 38) (.c (.str [116,97,117]))),b0 40 39,iK 41 40 (.eP (.t 0)),iK 42 40 (.iT (.t 41)),iK 43 40 (.hN 62 (.t 42) 3),iK 44 40 (.ff 60 (.t 43)),iK 45 40 (.len 60 (.t 44)),iK 46 40 (.eh .gtr 3 (.t 45) (.c (.int .i64 0))),ro 47 (.pick (.t 40) (.t 46) (.c (.bool false))),b0 48 47,eD 49 48 (.eP (.t 0)),eD 50 48 (.iT (.t 49)),eD 51 48 (.hN 62 (.t 50) 2),eD 52 48 (.ff 9 (.t 51)),⟨some 53,.eh .neq 9 (.t 52) (.c (.str [116,97,117])),some (48,false)⟩,eD 54 48 (.eP (.t 53)),iK 55 54 (.eP (.t 0)),iK 56 54 (.iT (.t 55)),iK 57 54 (.hN 62 (.t 56) 2),iK 58 54 (.ff 9 (.t 57)),⟨some 59,.call (.f 88) [(.t 58)],some (54,true)⟩,iK 60 54 (.un .not (.t 59)),eD 61 48 (.pick (.t 54) (.t 60) (.c (.bool false))),ro 62 (.pick (.t 48) (.c (.bool true)) (.t 61)),b0 63 62,eD 64 63 (.eP (.t 0)),eD 65 63 (.iT (.t 64)),eD 66 63 (.hN 62 (.t 65) 3),eD 67 63 (.ff 60 (.t 66)),eD 68 63 (.len 60 (.t 67)),eD 69 63 (.eh .gtr 3 (.t 68) (.c (.int .i64 2))),ro 70 (.pick (.t 63) (.c (.bool true)) (.t 69))] [0,5,70] (.cond (.t 70) (bY [je 4 false] [4] .ret) .skip)) (bY [b0 71 0,uZ 72 71,fy 73 62 72 3,cU 74 60 73,b0 75 5,k1 76 109 74 75,b0 77 76,iK 78 77 (.eP (.t 0)),iK 79 77 (.iT (.t 78)),iK 80 77 (.hN 62 (.t 79) 4),iK 81 77 (.ff 60 (.t 80)),iK 82 77 (.eP (.t 5)),⟨some 83,.call (.f 109) [(.t 81),(.t 82)],some (77,true)⟩,ro 84 (.pick (.t 77) (.t 83) (.c (.bool false))),en 4 84] [4] .ret)
def VY:aM:=bY [b0 12 1,b0 13 0,uZ 14 13,fy 15 62 14 0,cU 16 22 15,oe 17 22 16,mE 18 .add 2 12 17,en 5 18] [0,1,5] (.seq (bY [b0 19 0,uZ 20 19,fy 21 62 20 1,cU 22 59 21,b0 23 5,ro 24 (.call (.f 108) [(.t 22),(.t 23),(.c (.int .i64 60))]),rZ 25 24,b0 26 25,eD 27 26 (.eP (.t 0)),eD 28 26 (.iT (.t 27)),eD 29 26 (.hN 62 (.t 28) 4),eD 30 26 (.ff 60 (.t 29)),eD 31 26 (.len 60 (.t 30)),eD 32 26 (.eP (.t 1)),eD 33 26 (.eh .neq 2 (.t 31) (.t 32)),ro 34 (.pick (.t 26) (.c (.bool true)) (.t 33))] [0,5,34] (.cond (.t 34) (bY [je 4 false] [4] .ret) .skip)) VX)
def VZ:aM:=bY [je 4 false] [0,1] (.seq (bY [b0 6 0,uZ 7 6,fy 8 62 7 0,cU 9 22 8,ki 10 107 9,h6 11 .eql 2 10 0] [0,1,11] (.cond (.t 11) (bY [je 4 false] [4] .ret) .skip)) VY)
noncomputable def Gu:aM:=cm (cl 51 [0] Tryz.f26 [[0],[0,29],[2],[0,3],[0,3,36],[0,3,50],[2],[0,3],[2]])
noncomputable def V0:aM:=cm (cl 6 [0] Tryz.f111 [[0],[2]])
noncomputable def Gv:aM:=cm (cl 56 [0,1,2] Tryz.f59 [[0,1,2],[1,2,7],[1,2,7,8],[1,2,7,8,14],[1,2,7,8,42],[1,2,7,8],[1,2,7,8],[6]])
noncomputable def V1:aM:=cm (cl 18 [0] Tryz.f150 [[0,1],[0,1,5],[0,1,5,7],[0,1,5],[0,1,5],[4]])
noncomputable def V2:aM:=cm (cl 4 [0] Tryz.f151 [[0],[3],[2],[2]])
noncomputable def V3:aM:=cm (cl 67 [0,1,2] Tryz.f152 [[0,1,2],[1,2,7],[1,2,7,8],[6],[1,2,7,14],[6],[1,2,7,21],[6],[1,2,7,27],[6],[1,2,7,33],[6],[1,2,7,39],[6],[1,2,7,45],[6],[1,2,51],[6],[6]])
noncomputable def V4:aM:=cm (cl 83 [0] Tryz.f110 [[0],[0,10],[2],[0,3],[0,3,4],[0,3,4,23],[0,4,28],[2],[2],[0,4,5],[0,4,5,58],[2],[5,6],[2]])
noncomputable def V5:aM:=cm (cl 60 [0,1,2] Tryz.f56 [[0,1,2],[0,1,2,7],[0,1,2,7,15],[0,1,2,7,8],[0,1,2,7,59],[6],[0,1,2,7],[6]])
noncomputable def V6:aM:=cm (cl 54 [0] Tryz.f27 [[0],[0,3],[0,3,4],[0,3,4,17],[0,3,4],[0,3,4],[0,3,5],[0,3,5,28],[0,3,5,6],[0,3,5,6,36],[0,3,5,6,49],[0,3,5,6],[0,3,5,6],[0,3,5],[2]])
noncomputable def Gw:aM:=cm (cl 25 [0,1] Tryz.f29 [[0,1],[0,1,5],[0,1,5,6],[0,1,5,6,11],[0,1,5,6,19],[0,1,5,6],[0,1,5,6],[4]])
noncomputable def V7:aM:=cm (cl 6 [0] Tryz.f57 [[0],[2]])
noncomputable def V8:aM:=cm (cl 54 [0,1] Tryz.f58 [[0,1],[1,5],[1,5,6],[1,5,6,14],[1,5,6,22],[1,5,6,7],[1,5,6,7,8],[1,5,6,7,8,35],[1,5,6,7,8,41],[1,5,6,7,8],[1,5,6,7,8],[1,5,6],[1,5,6],[4]])
noncomputable def V9:aM:=cm (cl 142 [0,1] Tryz.f28 [[0,1,4],[0,1,4,5],[0,1,4,5,6],[0,1,4,5,6,7],[0,1,4,5,6,7,21],[0,1,4,5,6,7],[0,1,4,5,6,7],[0,1,4,5,6,8],[0,1,4,5,6,8,45],[0,1,4,5,6,8,9],[0,1,4,5,6,8,9,10],[0,1,4,5,6,8,9,10],[0,1,4,5,6,8,9,10,11],[0,1,4,5,6,8,9,10,11,83],[0,1,4,5,6,8,9,10,11],[0,1,4,5,6,8,9,10,11],[0,1,4,5,6,8,9,10,12],[0,1,4,5,6,8,9,10,12,109],[0,1,4,5,6,8,9,10,12],[0,1,4,5,6,8,9,10,12],[0,1,4,5,6,8],[0,1,4,5,6,8],[4]])
noncomputable def DJ:aM:=cm (cl 14 [0] Tryz.f7 [[1,2],[1,2,7],[2,3,4],[1,2,5],[2,3,4]])
noncomputable def V_:aM:=cm (cl 15 [0,1,2] Tryz.f61 [[0,1,2],[6]])
noncomputable def Wa:aM:=cm (cl 5 [0] Tryz.f156 [[0],[2]])
noncomputable def Wb:aM:=cm (cl 6 [0] Tryz.f155 [[0],[2]])
noncomputable def Wc:aM:=cm (cl 19 [0,1] Tryz.f121 [[0,1],[0,1,7,8],[0,1,7,8,9],[0,1,5,7,8],[0,1,5,7,8,16],[4],[0,1,7,8],[4]])
noncomputable def Wd:aM:=cm (cl 9 [0,1] Tryz.f154 [[0,1],[4]])
noncomputable def We:aM:=cm (cl 6 [0] Tryz.f114 [[0],[2]])
noncomputable def Wf:aM:=cm (cl 14 [0,1] Tryz.f62 [[1,2],[4]])
noncomputable def Wg:aM:=cm (cl 29 [0] Tryz.f116 [[1],[1,3],[1,3,7,8,9],[1,3,7,8,9,10],[1,3,5,7,8,9],[1,3,5,7,8,9,15],[2],[1,3,7,8,9],[1,3,7,8,9],[2]])
noncomputable def Wh:aM:=cm (cl 9 [0] Tryz.f168 [[0],[2]])
noncomputable def Wi:aM:=cm (cl 42 [0] Tryz.f131 [[0],[0,6,7],[0,6,7,8],[0,3,6,7],[0,3,4,6,7],[0,6,7,32],[2],[0,6,7],[2]])
def Wj:aM:=bY [je 2 false] [0] (bY [b0 3 0,ki 4 131 3,b0 5 4,iK 6 5 (.eP (.t 0)),⟨some 7,.eh .neq 9 (.t 6) (.c (.str [116,97,117])),some (5,true)⟩,ro 8 (.pick (.t 5) (.t 7) (.c (.bool false))),en 2 8] [2] .ret)
def MC:aM:=bY [b0 26 0,en 4 26] [4] .ret
def MD:aM:=.seq (bY [b0 8 1,b0 9 0,ro 10 (.cap 60 (.t 9)),b0 11 0,oe 12 60 11,mE 13 .sub 3 10 12,mE 14 .sub 3 8 13,en 1 14] [0,1] (bY [b0 15 1,h6 16 .gtr 3 15 0] [0,1,16] (.cond (.t 16) (.eI [b0 17 0,b0 18 0,ro 19 (.cap 60 (.t 18)),ro 20 (.e2 60 (.t 17) none (some (.t 19))),b0 21 1,⟨some 22,.i7 60 3 (.t 20) (.t 21),none⟩,b0 23 0,oe 24 60 23,ro 25 (.e2 60 (.t 22) none (some (.t 24))),en 0 25] (some [0])) .skip))) MC
def Wk:aM:=bY [xO 4] [0,1] (.seq (bY [b0 5 1,h6 6 .lss 3 5 0] [0,1,6] (.cond (.t 6) (.eI [ro 7 (.bad),⟨none,.bad,none⟩] (some [0,1])) .skip)) MD)
noncomputable def Wl:aM:=cm (cl 36 [0] Tryz.f102 [[0],[0,3],[0,3,9,10,11],[0,3,9,10,11,12],[0,3,5,9,10,11],[0,3,9,10,11],[0,3,9,10,11,20],[0,3,9,10,11],[0,3,9,10,11],[0,6],[6,25,26,27],[6,25,26,27,28],[6,8,25,26,27],[6,25,26,27],[6,25,26,27],[2]])
def Wm:aM:=bY [ro 1 (.g_ 62 (.t 0)),xO 2] [1] (bY [fy 3 62 1 1,cU 4 59 3,⟨some 5,.shr (.eu 60 1 [(0,(.t 4))]),none⟩,fy 6 62 1 3,cU 7 60 6,fy 8 62 1 4,cU 9 60 8,⟨some 10,.shr (.eu 161 3 [(0,(.t 5)),(1,(.t 7)),(2,(.t 9))]),none⟩,ki 11 102 10,en 2 11] [2] .ret)
noncomputable def Wn:aM:=cm (cl 29 [0,1] Tryz.f158 [[1,2],[1,2,6],[1,2,6,7],[4],[1,2,6,12],[4],[2,6,19],[4],[2,24],[4],[4]])
noncomputable def Wo:aM:=cm (cl 9 [0] Tryz.f159 [[1],[4],[4,5],[2],[7],[2],[2]])
noncomputable def Wp:aM:=cm (cl 47 [0,1,2] Tryz.f120 [[0,1,2],[0,1,24],[6],[0,1,7],[1,7,25,26,27],[1,7,25,26,27,28],[1,7,9,25,26,27],[1,7,9,25,26,27,38],[6],[1,7,25,26,27],[1,7,25,26,27],[6]])
noncomputable def Wq:aM:=cm (cl 13 [0,1,2] Tryz.f119 [[0,1,2],[4]])
noncomputable def Wr:aM:=cm (cl 19 [0,1] Tryz.f157 [[0,1],[0,1,7,8],[0,1,7,8,9],[0,1,5,7,8],[0,1,5,7,8,16],[4],[0,1,7,8],[4]])
noncomputable def Ws:aM:=cm (cl 9 [0,1] Tryz.f117 [[0,1],[4]])
def Wt:aM:=bY [b0 19 5,h6 20 .gtr 3 19 0,b0 21 20,iK 22 21 (.hN 62 (.t 2) 2),iK 23 21 (.ff 9 (.t 22)),⟨some 24,.eh .eql 9 (.t 23) (.c (.str [116,97,117])),some (21,true)⟩,iK 25 21 (.eP (.t 24)),eD 26 25 (.eP (.t 5)),eD 27 25 (.eh .gtr 3 (.t 26) (.c (.int .i64 2))),iK 28 21 (.pick (.t 25) (.c (.bool true)) (.t 27)),ro 29 (.pick (.t 21) (.t 28) (.c (.bool false))),b0 30 29,eD 31 30 (.hN 62 (.t 2) 2),eD 32 30 (.ff 9 (.t 31)),⟨some 33,.eh .neq 9 (.t 32) (.c (.str [116,97,117])),some (30,false)⟩,eD 34 30 (.eP (.t 33)),iK 35 34 (.hN 62 (.t 2) 2),iK 36 34 (.ff 9 (.t 35)),⟨some 37,.call (.f 92) [(.t 36)],some (34,true)⟩,iK 38 34 (.un .not (.t 37)),eD 39 30 (.pick (.t 34) (.t 38) (.c (.bool false))),ro 40 (.pick (.t 30) (.c (.bool true)) (.t 39))] [2,3,40] (.cond (.t 40) (bY [je 4 false] [4] .ret) .skip)
def Wu:aM:=bY [ro 2 (.g_ 62 (.t 0)),ro 3 (.g_ 2 (.t 1)),je 4 false] [2,3] (.seq (bY [cU 6 62 2,ki 7 116 6,rZ 8 7,b0 9 8,eD 10 9 (.hN 62 (.t 2) 4),eD 11 9 (.ff 60 (.t 10)),eD 12 9 (.len 60 (.t 11)),eD 13 9 (.ff 2 (.t 3)),eD 14 9 (.eh .neq 2 (.t 12) (.t 13)),ro 15 (.pick (.t 9) (.c (.bool true)) (.t 14))] [2,3,15] (.cond (.t 15) (bY [je 4 false] [4] .ret) .skip)) (.seq (bY [fy 16 62 2 3,cU 17 60 16,oe 18 60 17,en 5 18] [2,3,5] Wt) (bY [cU 41 62 2,ki 42 118 41,ro 43 (.n1 119 [(.t 3),(.t 2)]),k1 44 117 42 43,rZ 45 44,en 4 45] [4] .ret)))
noncomputable def Wv:aM:=cm (cl 9 [0,1] Tryz.f64 [[1,2],[3]])
noncomputable def Ww:aM:=cm (cl 19 [0,1] Tryz.f115 [[0,1],[0,1,7,8],[0,1,7,8,9],[0,1,5,7,8],[0,1,5,7,8,16],[4],[0,1,7,8],[4]])
noncomputable def Wx:aM:=cm (cl 9 [0,1] Tryz.f63 [[0,1],[4]])
noncomputable def Wy:aM:=cm (cl 25 [0] Tryz.f32 [[1],[1,19],[2],[2]])
noncomputable def Wz:aM:=cm (cl 15 [0] Tryz.f66 [[0],[0,3],[3,5,6],[3,5,6,7],[3,4,5,6],[3,5,6],[3,5,6],[2]])
noncomputable def WA:aM:=cm (cl 8 [0] Tryz.f68 [[0],[0,4],[2],[2]])
noncomputable def WB:aM:=cm (cl 19 [0,1] Tryz.f82 [[0,1],[0,1,7,8],[0,1,7,8,9],[0,1,5,7,8],[0,1,5,7,8,16],[4],[0,1,7,8],[4]])
noncomputable def WC:aM:=cm (cl 9 [0,1] Tryz.f74 [[0,1],[4]])
noncomputable def WD:aM:=cm (cl 6 [0] Tryz.f78 [[0],[2]])
noncomputable def WE:aM:=cm (cl 14 [0,1,2] Tryz.f77 [[0,1,2],[0,2,7],[4],[4]])
noncomputable def WG:aM:=cm (cl 31 [0,1] Tryz.f76 [[0,1],[0,1,5],[1,5,9,10,11],[1,5,9,10,11,12],[1,5,7,9,10,11],[1,5,7,8,9,10,11],[1,5,7,8,9,10,11,17],[1,5,7,8,9,10,11],[1,5,7,8,9,10,11,23],[1,5,8,9,10,11],[1,5,9,10,11],[1,5,9,10,11],[4]])
noncomputable def WH:aM:=cm (cl 10 [0,1,2] Tryz.f37 [[1,3,5],[6]])
noncomputable def WI:aM:=cm (cl 38 [0] Tryz.f122 [[0],[0,4],[0,4,5],[4,5,17,18],[4,5,17,18,19],[4,5,17,18],[4,5,6,17,18],[4,5,17,18],[4,5,17,18],[2,3]])
noncomputable def WJ:aM:=cm (cl 11 [0] Tryz.f71 [[0],[3],[2]])
noncomputable def WK:aM:=cm (cl 4 [0] Tryz.f160 [[0],[3],[2],[2]])
noncomputable def WL:aM:=cm (cl 67 [0,1,2] Tryz.f161 [[0,1,2],[1,2,7],[1,2,7,8],[6],[1,2,7,14],[6],[1,2,7,21],[6],[1,2,7,27],[6],[1,2,7,33],[6],[1,2,7,39],[6],[1,2,7,45],[6],[1,2,51],[6],[6]])
noncomputable def WM:aM:=cm (cl 61 [0,1] Tryz.f124 [[0,1],[0,1,9],[0,1,9,10],[4],[0,1,9,17],[4],[0,1,27],[4],[4]])
noncomputable def WN:aM:=cm (cl 7 [0] Tryz.f123 [[0],[2]])
noncomputable def WO:aM:=cm (cl 57 [0] Tryz.f72 [[0],[0,13],[2],[0,3],[0,3,4],[3,4,24,25,26],[3,4,24,25,26,27],[3,4,6,24,25,26],[3,4,7,24,25,26],[3,4,7,24,25,26],[3,4,24,25,26],[3,4,24,25,26],[3,52],[2],[2]])
def WQ:aM:=yF [cU 7 29 1,fy 8 62 4 4,cU 9 60 8,cU 10 2 2,lX 11 60 9 10,cU 12 59 11,cU 13 22 3,T3 14 37 7 12 13,ki 15 71 14,ki 16 72 15,en 6 16] [[],[],[1],[],[2,3],[4],[],[0,5,6],[7,7],[8,8],[9,9,0,1,2,3,4,5,6,7,8,9]] [1,2,6] (yF [b0 17 6,uZ 18 17,fy 19 105 18 0,cU 20 102 19,fy 21 29 1 1,cU 22 22 21,cU 23 2 2,lX 24 22 22 23,cU 25 2 24,ro 26 (.fl 102 [(0,(.c (.int .i64 0))),(1,(.t 25))]),mE 27 .neq 102 20 26,en 5 27] [[],[0],[1],[2],[],[4],[],[5,6],[7],[8],[3,9],[10,0,1,2,3,4,5,6,7,8,9,10]] [5] .ret)
def WR:aM:=bY [ro 4 (.g_ 62 (.t 0)),je 5 false] [1,2,3,4] WQ
noncomputable def WS:aM:=cm (cl 19 [0,1] Tryz.f115 [[0,1],[0,1,7,8],[0,1,7,8,9],[0,1,5,7,8],[0,1,5,7,8,16],[4],[0,1,7,8],[4]])
noncomputable def WT:aM:=cm (cl 9 [0,1] Tryz.f63 [[0,1],[4]])
noncomputable def WU:aM:=cm (cl 9 [0,1,2] Tryz.f69 [[1,2,3],[4]])
noncomputable def WV:aM:=cm (cl 19 [0,1] Tryz.f121 [[0,1],[0,1,7,8],[0,1,7,8,9],[0,1,5,7,8],[0,1,5,7,8,16],[4],[0,1,7,8],[4]])
def WW:aM:=bY [b0 13 0,en 4 13] [4] .ret
def WX:aM:=.cond (.t 12) WW .skip
def WY:aM:=.cond (.t 19) .skip (.exit 0)
def WZ:aM:=.eI [b0 34 5,h6 35 .add 3 34 1,en 5 35] (some [0,1,5,6])
def W0:aM:=bY [b0 30 0,b0 31 5,b0 32 7,lX 33 22 30 31,kH 2 33 32] [0,1,5,6] WZ
def W1:aM:=.cond (.t 29) W0 .skip
def W2:aM:=bY [b0 26 1,b0 27 7,ro 28 (.call (.t 26) [(.t 27)]),rZ 29 28] [0,1,5,6,7,29] W1
def ME:aM:=.eI [b0 20 6,h6 21 .add 3 20 1,en 6 21] (some [0,1,5,6])
def W3:aM:=.seq (.block 1 (bY [b0 22 0,b0 23 6,lX 24 22 22 23,cU 25 2 24,en 7 25] [0,1,5,6,7] W2)) ME
def MF:aM:=.seq (bY [b0 16 6,b0 17 0,oe 18 22 17,mE 19 .lss 3 16 18] [0,1,5,6,19] WY) W3
def W4:aM:=.block 0 (.loop MF)
def W5:aM:=bY [b0 39 0,b0 40 5,ro 41 (.e2 22 (.t 39) none (some (.t 40))),en 4 41] [4] .ret
def W6:aM:=.seq (.hb (u3 aq (.t 0) (.t 5) 36 37 38 22 [0,5]) (EO (.t 0) (.t 5) 36 37 38 22)) W5
def W7:aM:=.seq (bY [b0 14 5,h6 15 .add 3 14 1,en 6 15] [0,1,5,6] W4) W6
def W8:aM:=.seq (bY [b0 11 5,h6 12 .eql 3 11 (-1)] [0,1,5,12] WX) W7
def W9:aM:=bY [b0 8 0,b0 9 1,k1 10 121 8 9,en 5 10] [0,1,5] W8
def MG:aM:=bY [xO 4] [0,1] W9
theorem W_:MG.lS (xQ aq (lT (Tryz.f67.body.getD .skip))):=And.intro (True.intro) (And.intro (True.intro) (And.intro (And.intro (True.intro) (And.intro (And.intro (True.intro) (True.intro)) (True.intro))) (And.intro (And.intro (True.intro) (And.intro (And.intro (True.intro) (And.intro (True.intro) (True.intro))) (And.intro (And.intro (True.intro) (And.intro (True.intro) (And.intro (And.intro (True.intro) (True.intro)) (True.intro)))) (True.intro)))) (And.intro (⟨_,_,_,_,_,_,_,rfl,rfl,(by kernel_rfl)⟩) (And.intro (True.intro) (True.intro))))))
theorem Xa:fp ⟨42,[0,1]⟩ (Tryz.f67.body.getD .skip)=some MG.strip:=by kernel_rfl
noncomputable def l9:aM:=cm (cl 19 [0] Tryz.f33 [[1],[1,3],[1,3,4],[1,3,4,16],[2],[1,3]])
noncomputable def Xb:aM:=cm (cl 7 [0,1] Tryz.f73 [[0,1],[3]])
noncomputable def Xc:aM:=cm (cl 19 [0,1] Tryz.f121 [[0,1],[0,1,7,8],[0,1,7,8,9],[0,1,5,7,8],[0,1,5,7,8,16],[4],[0,1,7,8],[4]])
def Xd:aM:=bY [b0 13 0,en 4 13] [4] .ret
def Xe:aM:=.cond (.t 12) Xd .skip
def Xf:aM:=.cond (.t 19) .skip (.exit 0)
def Xg:aM:=.eI [b0 34 5,h6 35 .add 3 34 1,en 5 35] (some [0,1,5,6])
def Xh:aM:=bY [b0 30 0,b0 31 5,b0 32 7,lX 33 22 30 31,kH 2 33 32] [0,1,5,6] Xg
def Xi:aM:=.cond (.t 29) Xh .skip
def Xj:aM:=bY [b0 26 1,b0 27 7,ro 28 (.call (.t 26) [(.t 27)]),rZ 29 28] [0,1,5,6,7,29] Xi
def MH:aM:=.eI [b0 20 6,h6 21 .add 3 20 1,en 6 21] (some [0,1,5,6])
def Xk:aM:=.seq (.block 1 (bY [b0 22 0,b0 23 6,lX 24 22 22 23,cU 25 2 24,en 7 25] [0,1,5,6,7] Xj)) MH
def MI:aM:=.seq (bY [b0 16 6,b0 17 0,oe 18 22 17,mE 19 .lss 3 16 18] [0,1,5,6,19] Xf) Xk
def Xl:aM:=.block 0 (.loop MI)
def Xm:aM:=bY [b0 39 0,b0 40 5,ro 41 (.e2 22 (.t 39) none (some (.t 40))),en 4 41] [4] .ret
def Xn:aM:=.seq (.hb (u3 aq (.t 0) (.t 5) 36 37 38 22 [0,5]) (EO (.t 0) (.t 5) 36 37 38 22)) Xm
def Xo:aM:=.seq (bY [b0 14 5,h6 15 .add 3 14 1,en 6 15] [0,1,5,6] Xl) Xn
def Xp:aM:=.seq (bY [b0 11 5,h6 12 .eql 3 11 (-1)] [0,1,5,12] Xe) Xo
def Xq:aM:=bY [b0 8 0,b0 9 1,k1 10 121 8 9,en 5 10] [0,1,5] Xp
def MJ:aM:=bY [xO 4] [0,1] Xq
theorem Xr:MJ.lS (xQ aq (lT (Tryz.f67.body.getD .skip))):=And.intro (True.intro) (And.intro (True.intro) (And.intro (And.intro (True.intro) (And.intro (And.intro (True.intro) (True.intro)) (True.intro))) (And.intro (And.intro (True.intro) (And.intro (And.intro (True.intro) (And.intro (True.intro) (True.intro))) (And.intro (And.intro (True.intro) (And.intro (True.intro) (And.intro (And.intro (True.intro) (True.intro)) (True.intro)))) (True.intro)))) (And.intro (⟨_,_,_,_,_,_,_,rfl,rfl,(by kernel_rfl)⟩) (And.intro (True.intro) (True.intro))))))
theorem Xs:fp ⟨42,[0,1]⟩ (Tryz.f67.body.getD .skip)=some MJ.strip:=by kernel_rfl
noncomputable def Xt:aM:=cm (cl 10 [0,1] Tryz.f34 [[2,3],[4]])
noncomputable def Xu:aM:=cm (cl 11 [0,1,2,3] Tryz.f36 [[1,2,3],[6]])
noncomputable def Xv:aM:=cm (cl 23 [0,1,2] Tryz.f75 [[0,1,2],[0,1,2,5],[1,2,5,8,9,10],[1,2,5,8,9,10,11],[1,2,5,7,8,9,10],[1,2,5,8,9,10],[1,2,5,8,9,10],[4]])
def Xw:aM:=.jb [fy 23 29 5 2,cU 24 27 23,fy 25 62 7 0,cU 26 22 25,ki 27 68 26,cU 28 64 3,cU 29 62 7,fy 30 62 7 1,cU 31 59 30,ro 32 (.call (.t 28) [(.t 29),(.t 31)]),fy 33 62 7 2,cU 34 9 33,b0 35 8,fy 36 62 7 3,cU 37 60 36,ro 38 (.call (.t 35) [(.t 37)]),b0 39 8,fy 40 62 7 4,cU 41 60 40,ro 42 (.call (.t 39) [(.t 41)]),ro 43 (.fl 62 [(0,(.t 27)),(1,(.t 32)),(2,(.t 34)),(3,(.t 38)),(4,(.t 42))]),xP 44 27 43,Av 45 27 27 24 44,fy 46 29 5 2,kH 27 46 45] [[],[0],[],[2],[3],[],[],[],[7],[5,6,8,4],[],[10],[],[],[13],[12,14,9],[],[],[17],[16,18,15],[4,9,11,15,19],[20],[1,21,19],[0,1,2,3,4,5,6,7,8,9,10,11,12,13,14,15,16,17,18,19,20,21,22],[23,22,22,0,1,2,3,4,5,6,7,8,9,10,11,12,13,14,15,16,17,18,19,20,21,22]] (some [3,4,5,16,17,18])
def MK:aM:=bY [mE 19 .lss 3 18 17] [3,4,5,16,17,18,19] (.seq (.cond (.t 19) .skip (.exit 0)) (.seq (.block 1 (bY [lX 20 27 16 18,cU 21 62 20,mF 7 62,kH 62 7 21] [3,4,5,7,16,17,18] (bY [ro 22 (.n1 75 [(.t 3),(.t 7)]),en 8 22] [3,4,5,7,8,16,17,18] Xw))) (.eI [h6 47 .add 3 18 1,b0 18 47] (some [3,4,5,16,17,18]))))
def Gx:aM:=bY [ro 2 (.g_ 29 (.t 0)),⟨some 3,.ic 64 (.t 1),none⟩,mF 4 29] [2,3,4] (yF [fy 9 29 2 0,cU 10 2 9,fy 11 29 2 1,cU 12 22 11,ki 13 68 12,ro 14 (.fl 29 [(0,(.t 10)),(1,(.t 13))]),mF 5 29,kH 29 5 14] [[],[0],[],[2],[3],[1,4],[],[6,5,4,0,1,2,3,4,5,6]] [2,3,4,5] (.seq (bY [fy 15 29 2 2,cU 16 27 15,oe 17 27 16,xN 18 0] [3,4,5,16,17,18] (.block 0 (.loop MK))) (bY [cU 48 29 5,kH 29 4 48] [4] .ret)))
noncomputable def Xx:aM:=cm (cl 6 [0] Tryz.f81 [[0],[2]])
noncomputable def Xy:aM:=cm (cl 25 [0,1,2] Tryz.f80 [[0,1,2],[0,1,2,9],[4],[5],[5,22],[4],[4]])
noncomputable def Xz:aM:=cm (cl 31 [0,1] Tryz.f76 [[0,1],[0,1,5],[1,5,9,10,11],[1,5,9,10,11,12],[1,5,7,9,10,11],[1,5,7,8,9,10,11],[1,5,7,8,9,10,11,17],[1,5,7,8,9,10,11],[1,5,7,8,9,10,11,23],[1,5,8,9,10,11],[1,5,9,10,11],[1,5,9,10,11],[4]])
noncomputable def XA:aM:=cm (cl 10 [0,1,2,3] Tryz.f79 [[1,2,3],[6]])
noncomputable def XB:aM:=cm (cl 23 [0,1,2] Tryz.f75 [[0,1,2],[0,1,2,5],[1,2,5,8,9,10],[1,2,5,8,9,10,11],[1,2,5,7,8,9,10],[1,2,5,8,9,10],[1,2,5,8,9,10],[4]])
def XC:aM:=.jb [fy 23 29 5 2,cU 24 27 23,fy 25 62 7 0,cU 26 22 25,ki 27 68 26,cU 28 64 3,cU 29 62 7,fy 30 62 7 1,cU 31 59 30,ro 32 (.call (.t 28) [(.t 29),(.t 31)]),fy 33 62 7 2,cU 34 9 33,b0 35 8,fy 36 62 7 3,cU 37 60 36,ro 38 (.call (.t 35) [(.t 37)]),b0 39 8,fy 40 62 7 4,cU 41 60 40,ro 42 (.call (.t 39) [(.t 41)]),ro 43 (.fl 62 [(0,(.t 27)),(1,(.t 32)),(2,(.t 34)),(3,(.t 38)),(4,(.t 42))]),xP 44 27 43,Av 45 27 27 24 44,fy 46 29 5 2,kH 27 46 45] [[],[0],[],[2],[3],[],[],[],[7],[5,6,8,4],[],[10],[],[],[13],[12,14,9],[],[],[17],[16,18,15],[4,9,11,15,19],[20],[1,21,19],[0,1,2,3,4,5,6,7,8,9,10,11,12,13,14,15,16,17,18,19,20,21,22],[23,22,22,0,1,2,3,4,5,6,7,8,9,10,11,12,13,14,15,16,17,18,19,20,21,22]] (some [3,4,5,16,17,18])
def ML:aM:=bY [mE 19 .lss 3 18 17] [3,4,5,16,17,18,19] (.seq (.cond (.t 19) .skip (.exit 0)) (.seq (.block 1 (bY [lX 20 27 16 18,cU 21 62 20,mF 7 62,kH 62 7 21] [3,4,5,7,16,17,18] (bY [ro 22 (.n1 75 [(.t 3),(.t 7)]),en 8 22] [3,4,5,7,8,16,17,18] XC))) (.eI [h6 47 .add 3 18 1,b0 18 47] (some [3,4,5,16,17,18]))))
def XD:aM:=bY [ro 2 (.g_ 29 (.t 0)),⟨some 3,.ic 64 (.t 1),none⟩,mF 4 29] [2,3,4] (yF [fy 9 29 2 0,cU 10 2 9,fy 11 29 2 1,cU 12 22 11,ki 13 68 12,ro 14 (.fl 29 [(0,(.t 10)),(1,(.t 13))]),mF 5 29,kH 29 5 14] [[],[0],[],[2],[3],[1,4],[],[6,5,4,0,1,2,3,4,5,6]] [2,3,4,5] (.seq (bY [fy 15 29 2 2,cU 16 27 15,oe 17 27 16,xN 18 0] [3,4,5,16,17,18] (.block 0 (.loop ML))) (bY [cU 48 29 5,kH 29 4 48] [4] .ret)))
def XE:aM:=.jb [fy 26 29 5 1,cU 27 22 26,fy 28 29 2 1,cU 29 22 28,b0 30 7,lX 31 22 29 30,cU 32 2 31,xP 33 22 32,Av 34 22 22 27 33,fy 35 29 5 1,kH 22 35 34] [[],[0],[],[2],[],[3,4],[5],[6],[1,7],[0,1,2,3,4,5,6,7,8],[9,8,8,0,1,2,3,4,5,6,7,8]] (some [2,3,4,5,20,21,22])
def XF:aM:=.eI [h6 36 .add 3 22 1,b0 22 36] (some [2,3,4,5,20,21,22])
def XG:aM:=.seq (.block 1 (bY [lX 24 22 20 22,cU 25 2 24,en 7 25] [2,3,4,5,7,20,21,22] XE)) XF
def XH:aM:=.seq (.cond (.t 23) .skip (.exit 0)) XG
def MM:aM:=bY [mE 23 .lss 3 22 21] [2,3,4,5,20,21,22,23] XH
def XI:aM:=.block 0 (.loop MM)
def XJ:aM:=.eI [b0 51 10,fy 52 62 9 4,cU 53 60 52,b0 54 12,lX 55 60 53 54,cU 56 59 55,xP 57 60 56,Av 58 60 60 51 57,en 10 58] (some [3,4,5,8,9,10,38,39,40,45,46,47])
def XK:aM:=.eI [h6 59 .add 3 47 1,b0 47 59] (some [3,4,5,8,9,10,38,39,40,45,46,47])
def XL:aM:=.seq (.block 5 (bY [lX 49 22 45 47,cU 50 2 49,en 12 50] [3,4,5,8,9,10,12,38,39,40,45,46,47] XJ)) XK
def XM:aM:=.seq (.cond (.t 48) .skip (.exit 4)) XL
def MN:aM:=bY [mE 48 .lss 3 47 46] [3,4,5,8,9,10,38,39,40,45,46,47,48] XM
def XN:aM:=.block 4 (.loop MN)
def XO:aM:=.eI [fy 60 29 5 2,cU 61 27 60,b0 62 8,b0 63 10,lX 64 27 61 62,fy 65 62 64 4,⟨none,.ll 60 (.t 65) (.t 63) 38,none⟩] (some [3,4,5,38,39,40])
def XP:aM:=.seq (bY [cU 45 22 3,oe 46 22 45,xN 47 0] [3,4,5,8,9,10,38,39,40,45,46,47] XN) XO
def XQ:aM:=bY [xO 10] [3,4,5,8,9,10,38,39,40] XP
def XR:aM:=.eI [h6 66 .add 3 40 1,b0 40 66] (some [3,4,5,38,39,40])
def XS:aM:=.seq (.block 3 (.seq (.hb (xS aq [b0 42 40,lX 43 27 38 40,cU 44 62 43,mF 9 62,en 8 42] 62 9 44 4 38 [] [3,4,5,8,9,38,39,40]) (Md [b0 42 40,lX 43 27 38 40,cU 44 62 43,mF 9 62,en 8 42] 62 9 44 [])) XQ)) XR
def XT:aM:=.seq (.cond (.t 41) .skip (.exit 2)) XS
def MO:aM:=bY [mE 41 .lss 3 40 39] [3,4,5,38,39,40,41] XT
def XU:aM:=.block 2 (.loop MO)
def XV:aM:=bY [cU 67 29 5,kH 29 4 67] [4] .ret
def XW:aM:=.seq (bY [fy 37 29 5 2,cU 38 27 37,oe 39 27 38,xN 40 0] [3,4,5,38,39,40] XU) XV
def XX:aM:=.seq (bY [cU 20 22 3,oe 21 22 20,xN 22 0] [2,3,4,5,20,21,22] XI) XW
def XY:aM:=bY [fy 19 29 5 1,⟨none,.gT 22 (.t 19) (.c .aN),none⟩] [2,3,4,5] XX
def XZ:aM:=bY [cU 16 22 3,oe 17 22 16,fy 18 29 5 0,kH 2 18 17] [2,3,4,5] XY
def X1:aM:=bY [cU 13 29 2,ro 14 (.n1 79 [(.t 2),(.t 3)]),k1 15 35 13 14,mF 5 29,kH 29 5 15] [2,3,4,5] XZ
def MP:aM:=bY [ro 2 (.g_ 29 (.t 0)),ro 3 (.g_ 22 (.t 1)),mF 4 29] [2,3,4] X1
theorem X2:MP.lS (AD aq):=And.intro (True.intro) (And.intro (True.intro) (And.intro (True.intro) (And.intro (True.intro) (And.intro (And.intro (True.intro) (And.intro (True.intro) (And.intro (And.intro (True.intro) (True.intro)) (And.intro (And.intro (True.intro) (True.intro)) (True.intro))))) (And.intro (And.intro (True.intro) (And.intro (True.intro) (And.intro (And.intro (True.intro) (True.intro)) (And.intro (And.intro (⟨_,_,_,_,_,_,_,_,rfl,rfl⟩) (And.intro (True.intro) (And.intro (And.intro (True.intro) (And.intro (True.intro) (And.intro (And.intro (True.intro) (True.intro)) (And.intro (And.intro (True.intro) (True.intro)) (True.intro))))) (True.intro)))) (True.intro))))) (And.intro (True.intro) (True.intro)))))))
theorem X3:fp ⟨68,[0,1]⟩ (Tryz.f38.body.getD .skip)=some MP.strip:=by kernel_rfl
noncomputable def DK:aM:=cm (cl 22 [0] Tryz.f9 [[1,2],[1,2,9],[2,3,4],[1,2,5],[1,2,5,6],[2,3,4]])
noncomputable def X4:aM:=cm (cl 26 [0,1] Tryz.f11 [[0,1],[0,1,10],[4],[0,1,5],[0,1,5,14],[0,1,5,25],[4],[0,1,5],[4]])
noncomputable def X5:aM:=cm (cl 15 [0,1] Tryz.f162 [[2,3],[2,3,9],[4],[14],[4],[4]])
noncomputable def X6:aM:=cm (cl 27 [0,1] Tryz.f125 [[0,1],[0,1,10],[4],[0,1,5],[0,1,5,14],[0,1,5,26],[4],[0,1,5],[4]])
noncomputable def X7:aM:=cm (cl 27 [0,1] Tryz.f126 [[0,1],[0,1,10],[4],[0,1,5],[0,1,5,14],[0,1,5,26],[4],[0,1,5],[4]])
noncomputable def X8:aM:=cm (cl 34 [0,1] Tryz.f83 [[2,3],[2,3,10],[4],[2,3,16],[4],[2,3,21],[4],[2,3,27],[4],[33],[4],[4]])
noncomputable def X9:aM:=cm (cl 27 [0,1] Tryz.f39 [[0,1],[0,1,10],[4],[0,1,5],[0,1,5,14],[0,1,5,26],[4],[0,1,5],[4]])
noncomputable def yG:aM:=cm (cl 22 [0,1] Tryz.f10 [[2,3],[2,3,9],[4],[2,3,15],[4],[21],[4],[4]])
noncomputable def X_:aM:=cm (cl 19 [0] Tryz.f13 [[0,1],[0,1,5],[0,1,5,9],[0,1,5],[0,1,5],[0,1,5],[0,4]])
noncomputable def Ya:aM:=cm (cl 27 [0] Tryz.f84 [[0,1],[0,1,5],[0,1,5,9],[0,1,5],[0,1,5],[0,1,5],[0,1,5],[0,1,5],[0,4]])
def MQ:aM:=.seq (bY [b0 6 0,h6 7 .gtr 3 6 0] [0,3,7] (.cond (.t 7) .skip (.exit 0))) (.block 1 (bY [b0 8 0,h6 9 .rem 3 8 10,ro 10 (.eh .add 3 (.c (.int .i64 48)) (.t 9)),LW 11 3 5 10,xP 12 129 11,LW 13 129 9 12,b0 14 3,mE 15 .add 9 13 14,en 3 15] [0,3] (.eI [b0 16 0,h6 17 .quo 3 16 10,en 0 17] (some [0,3]))))
def Gy:aM:=bY [ro 2 (.lP (.c (.str [])))] [0] (.seq (bY [b0 4 0,h6 5 .leq 3 4 0] [0,5] (.cond (.t 5) (bY [ro 2 (.lP (.c (.str [109,48])))] [2] .ret) .skip)) (bY [ro 3 (.lP (.c (.str [])))] [0,3] (.seq (.block 0 (.loop MQ)) (bY [b0 18 3,ro 19 (.eh .add 9 (.c (.str [109])) (.t 18)),en 2 19] [2] .ret))))
noncomputable def Yb:aM:=cm (cl 19 [0] Tryz.f85 [[0,1],[0,1,5],[0,1,5,9],[0,1,5],[0,1,5],[0,4]])
noncomputable def Yc:aM:=cm (cl 49 [0] Tryz.f40 [[0,1],[0,1,5],[0,1,5,9],[0,1,5],[0,1,5],[0,1,5],[0,1,5],[0,1,5],[0,1,5],[0,1,5],[0,4]])
def Yd:aM:=bY [⟨some 2,.ic 29 (.t 0),none⟩,u0 4 0] [0,1,2] (bY [fy 5 29 2 1,cU 6 22 5,b0 7 1,⟨some 8,.kR (.f 13) [(.t 6),(.t 7)] [2],none⟩,en 1 8] [0,1,2] (bY [fy 9 29 2 2,cU 10 27 9,b0 11 1,k1 12 40 10 11,en 1 12] [0,1] (bY [b0 13 1,en 4 13] [0,4] .ret)))
noncomputable def Ye:aM:=cm (cl 21 [0] Tryz.f15 [[0,1],[0,1,5],[0,1,5,9],[0,1,5,17],[4],[0,1,5],[0,1,5],[4]])
noncomputable def Yf:aM:=cm (cl 31 [0] Tryz.f86 [[0,1],[0,1,5],[0,1,5,9],[0,1,5,18],[4],[0,1,5],[0,1,5,27],[4],[0,1,5],[0,1,5],[4]])
noncomputable def Yg:aM:=cm (cl 21 [0] Tryz.f87 [[0,1],[0,1,5],[0,1,5,9],[0,1,5],[0,1,5,19],[4],[0,1,5],[4]])
noncomputable def Yh:aM:=cm (cl 59 [0] Tryz.f41 [[0,1],[0,1,5],[0,1,5,9],[0,1,5],[0,1,5,20],[4],[0,1,5],[0,1,5,29],[4],[0,1,5,37],[4],[0,1,5],[0,1,5],[0,1,5,48],[4],[0,1,5],[0,1,5,57],[4],[0,1,5],[4]])
noncomputable def nu:aM:=cm (cl 18 [0] Tryz.f14 [[1,2],[1,2],[1,2,10],[4],[1],[1,16],[4],[4]])
def Yi:aM:=bY [cU 120 29 8,b0 121 13,k1 122 14 120 121,en 13 122] [9,12,13] (.seq (bY [b0 123 13,h6 124 .lss 3 123 0] [9,12,13,124] (.cond (.t 124) (bY [je 2 false] [2] .ret) .skip)) (bY [b0 125 9,b0 126 13,k1 127 15 125 126,en 13 127] [12,13] (.seq (bY [b0 128 13,h6 129 .lss 3 128 0] [12,13,129] (.cond (.t 129) (bY [je 2 false] [2] .ret) .skip)) (.seq (bY [b0 130 13,b0 131 12,mE 132 .neq 3 130 131] [132] (.cond (.t 132) (bY [je 2 false] [2] .ret) .skip)) (bY [je 2 true] [2] .ret)))))
def Yj:aM:=bY [cU 99 25 1,ki 100 8 99,ki 101 9 100,b0 98 101,⟨some 102,.ext (.t 98) 0,none⟩,u1 103 98 1,u1 104 98 2,mF 14 29,kH 29 14 102,en 15 103,en 16 104] [4,5,6,8,9,12,14,15,16] (.seq (bY [cU 105 29 14,cU 106 29 4,k1 107 10 105 106,rZ 108 107,b0 109 108,eD 110 109 (.eP (.t 15)),eD 111 109 (.eP (.t 5)),⟨some 112,.call (.f 11) [(.t 110),(.t 111)],some (109,false)⟩,eD 113 109 (.un .not (.t 112)),ro 114 (.pick (.t 109) (.c (.bool true)) (.t 113)),b0 115 114,eD 116 115 (.eP (.t 16)),eD 117 115 (.eP (.t 6)),eD 118 115 (.eh .neq 2 (.t 116) (.t 117)),ro 119 (.pick (.t 115) (.c (.bool true)) (.t 118))] [8,9,12,119] (.cond (.t 119) (bY [je 2 false] [2] .ret) .skip)) (bY [u0 13 1] [8,9,12,13] Yi))
def Yk:aM:=bY [cU 85 29 8,b0 86 13,k1 87 14 85 86,en 13 87] [1,4,5,6,8,9,12,13] (.seq (bY [b0 88 13,h6 89 .lss 3 88 0] [1,4,5,6,8,9,12,13,89] (.cond (.t 89) (bY [je 2 false] [2] .ret) .skip)) (bY [b0 90 9,b0 91 13,k1 92 15 90 91,en 13 92] [1,4,5,6,8,9,12,13] (.seq (bY [b0 93 13,h6 94 .lss 3 93 0] [1,4,5,6,8,9,12,13,94] (.cond (.t 94) (bY [je 2 false] [2] .ret) .skip)) (.seq (bY [b0 95 13,b0 96 12,mE 97 .neq 3 95 96] [1,4,5,6,8,9,12,97] (.cond (.t 97) (bY [je 2 false] [2] .ret) .skip)) Yj))))
def Yl:aM:=.seq (bY [b0 60 11,h6 61 .lss 3 60 0,b0 62 61,eD 63 62 (.ff 29 (.t 8)),eD 64 62 (.ff 29 (.t 4)),⟨some 65,.call (.f 10) [(.t 63),(.t 64)],some (62,false)⟩,eD 66 62 (.un .not (.t 65)),ro 67 (.pick (.t 62) (.c (.bool true)) (.t 66)),b0 68 67,eD 69 68 (.eP (.t 9)),eD 70 68 (.eP (.t 5)),⟨some 71,.call (.f 11) [(.t 69),(.t 70)],some (68,false)⟩,eD 72 68 (.un .not (.t 71)),ro 73 (.pick (.t 68) (.c (.bool true)) (.t 72)),b0 74 73,eD 75 74 (.eP (.t 10)),eD 76 74 (.eP (.t 6)),eD 77 74 (.eh .neq 2 (.t 75) (.t 76)),ro 78 (.pick (.t 74) (.c (.bool true)) (.t 77))] [1,4,5,6,8,9,78] (.cond (.t 78) (bY [je 2 false] [2] .ret) .skip)) (bY [u0 12 1] [1,4,5,6,8,9,12] (bY [cU 79 29 8,b0 80 12,k1 81 12 79 80,en 12 81] [1,4,5,6,8,9,12] (bY [b0 82 9,b0 83 12,k1 84 13 82 83,en 12 84] [1,4,5,6,8,9,12] (bY [u0 13 1] [1,4,5,6,8,9,12,13] Yk))))
def Ym:aM:=.seq (bY [cU 37 29 8,cU 38 29 4,k1 39 10 37 38,rZ 40 39,b0 41 40,eD 42 41 (.eP (.t 9)),eD 43 41 (.eP (.t 5)),⟨some 44,.call (.f 11) [(.t 42),(.t 43)],some (41,false)⟩,eD 45 41 (.un .not (.t 44)),ro 46 (.pick (.t 41) (.c (.bool true)) (.t 45)),b0 47 46,eD 48 47 (.eP (.t 10)),eD 49 47 (.eP (.t 6)),eD 50 47 (.eh .neq 2 (.t 48) (.t 49)),ro 51 (.pick (.t 47) (.c (.bool true)) (.t 50))] [1,4,5,6,7,8,9,10,51] (.cond (.t 51) (bY [je 2 false] [2] .ret) .skip)) (.seq (yF [cU 52 29 7,cU 53 25 1,ki 54 8 53,k1 55 10 52 54,rZ 56 55] [[],[],[1],[0,2,2],[3]] [1,4,5,6,7,8,9,10,56] (.cond (.t 56) (bY [je 2 false] [2] .ret) .skip)) (bY [u0 11 1] [1,4,5,6,7,8,9,10,11] (bY [cU 57 29 7,b0 58 11,k1 59 12 57 58,en 11 59] [1,4,5,6,8,9,10,11] Yl)))
def Yn:aM:=.seq (bY [b0 20 3,h6 21 .lss 3 20 0] [1,21] (.cond (.t 21) (bY [je 2 true] [2] .ret) .skip)) (bY [cU 23 25 1,ki 24 8 23,ki 25 7 24,b0 22 25,⟨some 26,.ext (.t 22) 0,none⟩,u1 27 22 1,u1 28 22 2,mF 4 29,kH 29 4 26,en 5 27,en 6 28] [1,4,5,6] (bY [cU 29 25 1,ki 30 8 29,mF 7 29,kH 29 7 30] [1,4,5,6,7] (bY [cU 32 29 7,ki 33 9 32,b0 31 33,⟨some 34,.ext (.t 31) 0,none⟩,u1 35 31 1,u1 36 31 2,mF 8 29,kH 29 8 34,en 9 35,en 10 36] [1,4,5,6,7,8,9,10] Ym)))
def zV:aM:=bY [ro 1 (.g_ 25 (.t 0)),je 2 false] [1] (bY [u0 3 1048576] [1,3] (bY [cU 17 25 1,b0 18 3,k1 19 6 17 18,en 3 19] [1,3] Yn))
def aeJ:=PLift.up (And.intro @Bool.not_true @Bool.not_false)
def aeK:=PLift.up (And.intro @length_append.{0} (And.intro @length_cons.{0} (And.intro @length_nil.{0} (And.intro @length_map.{0,0} (And.intro @length_replicate.{0} (And.intro @Nat.zero_add @Nat.add_zero))))))
end Go.Proofs.YtndfcecbamffaaaGreat
