/- Part of a proof that a law returns true for every input. No condition. -/
import Derived.Test.YtpdplcdnpaoceaaTb
import Derived.Test.YtpdplcdnpaoceaaFwL
import Derived.Test.YtpdplcdnpaoceaaFwU
import Derived.Test.YtpdplcdnpaoceaaP4
namespace Go.Proofs.Ytpdplcdnpaoceaa
open List Option Go.IntKind Nat Or
open Go Go.cM Go.nI
set_option linter.unusedSimpArgs false
def aR (x:Int):I:=.int .i64 x
theorem hp (x:Int):(aR x).share=aR x:=by
 simp only[aR,dM]
theorem oM (x:Int):(aR x).cr=true:=by
 simp only[aR,I.cr,I.gD,Bool.and_self]
def hb (x:fI):I:=.agg [.int .i64 x.Kind,.int .i64 x.Value]
theorem Hx (x:fI):(hb x).share=hb x:=by
 simp only[hb,dM]
theorem WA (x:fI):(hb x).cr=true:=by
 simp only[hb,I.cr,I.gD,Bool.and_self]
def gS (x:XB):I:=.slice (x.map hb)
theorem Hy (x:XB):(gS x).share=gS x:=by
 simp only[gS,dM, @cT _ hb hb (λ_=>Hx _)]
def gI (x:hF):I:=.agg [.slice (x.bw.map aR),.slice (x.Guard.map hb),.str x.Name,.slice (x.bP.map gS),.slice (x.Next.map gS)]
theorem Hz (x:hF):(gI x).share=gI x:=by
 simp only[gI,dM, @cT _ aR aR (λ_=>hp _), @cT _ hb hb (λ_=>Hx _), @cT _ gS gS (λ_=>Hy _)]
def ka (x:kx):I:=.agg [.int .i64 x.c1,.slice (x.Start.map aR),.slice (x.cY.map gI)]
theorem WB (x:kx):(ka x).share=ka x:=by
 simp only[ka,dM, @cT _ aR aR (λ_=>hp _), @cT _ gI gI (λ_=>Hz _)]
def u7 (x:Xs):I:=.slice (x.map aR)
theorem WC (x:Xs):(u7 x).share=u7 x:=by
 simp only[u7,dM, @cT _ aR aR (λ_=>hp _)]
def Cc (x:XC):I:=.slice (x.map gI)
theorem WD (x:XC):(Cc x).share=Cc x:=by
 simp only[Cc,dM, @cT _ gI gI (λ_=>Hz _)]
def u9 (x:Xq):I:=.str x
theorem WE (x:Xq):(u9 x).share=u9 x:=by
 simp only[u9,dM]
theorem WG (x:Xq):(u9 x).cr=true:=by
 simp only[u9,I.cr,I.gD,Bool.and_self]
def Cd (x:Xz):I:=.slice (x.map gS)
theorem WH (x:Xz):(Cd x).share=Cd x:=by
 simp only[Cd,dM, @cT _ gS gS (λ_=>Hy _)]
def aW (x:aK):I:=.agg [.int .i64 x.Kind,.int .i64 x.Value]
theorem lv (x:aK):(aW x).share=aW x:=by
 simp only[aW,dM]
theorem x6 (x:aK):(aW x).cr=true:=by
 simp only[aW,I.cr,I.gD,Bool.and_self]
def dv (x:XD):I:=.slice (x.map aW)
theorem sQ (x:XD):(dv x).share=dv x:=by
 simp only[dv,dM, @cT _ aW aW (λ_=>lv _)]
def dN (x:bD):I:=.agg [.slice (x.bw.map aR),.slice (x.Guard.map aW),.str x.Name,.slice (x.bP.map dv),.slice (x.Next.map dv)]
theorem u_ (x:bD):(dN x).share=dN x:=by
 simp only[dN,dM, @cT _ aR aR (λ_=>hp _), @cT _ aW aW (λ_=>lv _), @cT _ dv dv (λ_=>sQ _)]
def hq (x:XD):I:=.aw 2 (x.map aW)
theorem Ce (x:XD):(hq x).share=dv x:=by
 simp only[hq,dv,dM, @cT _ aW aW (λ_=>lv _)]
theorem HA (x:XD):(hq x).cr=true:=by
 simp only[hq,I.cr,I.gD,Bool.and_self, @iX _ aW (λ_=>x6 _)]
def eR (x:bD):I:=.agg [.aw 1 (x.bw.map aR),.aw 2 (x.Guard.map aW),.str x.Name,.aw 1 (x.bP.map hq),.aw 1 (x.Next.map hq)]
theorem q_ (x:bD):(eR x).share=dN x:=by
 simp only[eR,dN,dM, @cT _ aR aR (λ_=>hp _), @cT _ aW aW (λ_=>lv _), @cT _ hq dv (λ_=>Ce _)]
theorem HB (x:bD):(eR x).cr=true:=by
 simp only[eR,I.cr,I.gD,Bool.and_self, @iX _ aR (λ_=>oM _), @iX _ aW (λ_=>x6 _), @iX _ hq (λ_=>HA _)]
def x7 (x:Xs):I:=.aw 1 (x.map aR)
theorem WI (x:Xs):(x7 x).share=u7 x:=by
 simp only[x7,u7,dM, @cT _ aR aR (λ_=>hp _)]
theorem WJ (x:Xs):(x7 x).cr=true:=by
 simp only[x7,I.cr,I.gD,Bool.and_self, @iX _ aR (λ_=>oM _)]
def x8 (x:XA):I:=.aw 1 (x.map hq)
def kb (x:XA):I:=.slice (x.map dv)
theorem PR (x:XA):(kb x).share=kb x:=by
 simp only[kb,dM, @cT _ dv dv (λ_=>sQ _)]
theorem WK (x:XA):(x8 x).share=kb x:=by
 simp only[x8,kb,dM, @cT _ hq dv (λ_=>Ce _)]
theorem WL (x:XA):(x8 x).cr=true:=by
 simp only[x8,I.cr,I.gD,Bool.and_self, @iX _ hq (λ_=>HA _)]
def nT (x:cq):I:=.agg [.int .i64 x.c1,.aw 1 (x.Start.map aR),.aw 5 (x.cY.map eR)]
def cQ (x:cq):I:=.agg [.int .i64 x.c1,.slice (x.Start.map aR),.slice (x.cY.map dN)]
theorem WM (x:cq):(cQ x).share=cQ x:=by
 simp only[cQ,dM, @cT _ aR aR (λ_=>hp _), @cT _ dN dN (λ_=>u_ _)]
theorem WN (x:cq):(nT x).share=cQ x:=by
 simp only[nT,cQ,dM, @cT _ aR aR (λ_=>hp _), @cT _ eR dN (λ_=>q_ _)]
theorem WO (x:cq):(nT x).cr=true:=by
 simp only[nT,I.cr,I.gD,Bool.and_self, @iX _ aR (λ_=>oM _), @iX _ eR (λ_=>HB _)]
def x9 (x:XE):I:=.aw 5 (x.map eR)
def va (x:XE):I:=.slice (x.map dN)
theorem WQ (x:XE):(va x).share=va x:=by
 simp only[va,dM, @cT _ dN dN (λ_=>u_ _)]
theorem WR (x:XE):(x9 x).share=va x:=by
 simp only[x9,va,dM, @cT _ eR dN (λ_=>q_ _)]
theorem WS (x:XE):(x9 x).cr=true:=by
 simp only[x9,I.cr,I.gD,Bool.and_self, @iX _ eR (λ_=>HB _)]
def gd (x:Bool):I:=.bool x
theorem PS (x:Bool):(gd x).share=gd x:=by
 simp only[gd,dM]
theorem PT (x:Bool):(gd x).cr=true:=by
 simp only[gd,I.cr,I.gD,Bool.and_self]
theorem x_:(∀J ag,(bq.mk J ag).term=J)/\(∀J ag,(bq.mk J ag).args=ag):=⟨λ_ _=>rfl,λ_ _=>rfl⟩
mutual
def eK:bq->I
 | .mk J ag=>.agg [aW J,.slice (mg ag)]
def mg:List bq->Xy
 |[]=>[]
 |y::r=>.ref (eK y)::mg r
end
def fo (x:bq):I:=.ref (eK x)
theorem HC:∀l,mg l=l.map fo
 |[]=>by simp only[mg,map_nil]
 |y::r=>by simp only[mg,map_cons,HC r,fo]
theorem ya (x:bq):eK x= .agg [aW x.term,.slice (x.args.map fo)]:=by
 cases x;simp only[eK,HC,bq.term,bq.args]
mutual
theorem HD:∀x:bq,(eK x).share=eK x
 | .mk J ag=>by simp only[eK,dM,I.share,I.shares,HE ag,lv]
theorem HE:∀l:List bq,I.shares (mg l)=mg l
 |[]=>by simp only[mg,I.shares]
 |y::r=>by simp only[mg,I.shares,I.share,HD y,HE r]
end
theorem Cf (x:bq):(fo x).share=fo x:=by simp only[fo,I.share,HD]
mutual
def pN:bq->I
 | .mk J ag=>.agg [aW J,.aw 1 (mW ag)]
def mW:List bq->Xy
 |[]=>[]
 |y::r=>.bh (pN y)::mW r
end
def hc (x:bq):I:=.bh (pN x)
theorem HF:∀l,mW l=l.map hc
 |[]=>by simp only[mW,map_nil]
 |y::r=>by simp only[mW,map_cons,HF r,hc]
theorem PU (x:bq):pN x= .agg [aW x.term,.aw 1 (x.args.map hc)]:=by
 cases x;simp only[pN,HF,bq.term,bq.args]
mutual
theorem HG:∀x:bq,(pN x).share=eK x
 | .mk J ag=>by simp only[pN,eK,dM,I.share,I.shares,HH ag,lv]
theorem HH:∀l:List bq,I.shares (mW l)=mg l
 |[]=>by simp only[mW,mg,I.shares]
 |y::r=>by simp only[mW,mg,I.shares,I.share,HG y,HH r]
end
theorem HI (x:bq):(hc x).share=fo x:=by simp only[hc,fo,I.share,HG]
mutual
theorem HJ:∀x:bq,(pN x).cr=true
 | .mk J ag=>by simp[pN,I.cr,I.gD,HK ag,aW]
theorem HK:∀l:List bq,I.gD (mW l)=true
 |[]=>by simp only[mW,I.gD]
 |y::r=>by simp only[mW,I.gD,I.cr,HJ y,HK r,Bool.and_self]
end
theorem PV (x:bq):(hc x).cr=true:=by simp only[hc,I.cr,HJ]
def yb (x:List bq):I:=.aw 1 (x.map hc)
def vb (x:List bq):I:=.slice (x.map fo)
theorem WT (x:List bq):(vb x).share=vb x:=by
 simp only[vb,dM, @cT _ fo fo (λ_=>Cf _)]
theorem WU (x:List bq):(yb x).share=vb x:=by
 simp only[yb,vb,dM, @cT _ hc fo (λ_=>HI _)]
theorem WV (x:List bq):(yb x).cr=true:=by
 simp only[yb,I.cr,I.gD,Bool.and_self, @iX _ hc (λ_=>PV _)]
def yc (x:Bool×bq):I:=cond x.1 (.hole) (hc x.2)
theorem WW:(yc∘λx=>(false,x))=hc:=rfl
theorem WX (x:bq):yc (true,x)= .hole:=rfl
theorem WY {x:Bool×bq} (h:Jx (!x.1)=some ()):yc x=hc x.2:=by
 obtain⟨b,x⟩:=x;cases b
 .rfl
 .cases h
theorem WZ (x:Bool×bq):(yc x).wd=1:=by
 obtain⟨b,x⟩:=x;cases b<;>rfl
theorem W0 (s:ah) (J:Int) (ag:Int) (gY:Int) (g7:Int):dE ay s .eql 76 (.agg [.int .i64 J,.int .i64 ag]) (.agg [.int .i64 gY,.int .i64 g7])=some (.bool (((J==gY)&&(ag==g7)))):=by
 have q:structEq ay.P 76=true:=by kernel_rfl
 simp only[dE,A9,q,if_true,kM,A8,and_self,map_some,Bool.and_true,Bool.and_assoc]
theorem PW (s:ah) (J:Int) (ag:Int) (gY:Int) (g7:Int):dE ay s .neq 76 (.agg [.int .i64 J,.int .i64 ag]) (.agg [.int .i64 gY,.int .i64 g7])=some (.bool (!((J==gY)&&(ag==g7)))):=by
 have q:structEq ay.P 76=true:=by kernel_rfl
 simp only[dE,A9,q,if_true,kM,A8,and_self,map_some,Bool.and_true,Bool.and_assoc]
noncomputable def PX:aL:=ch (cg 12 [0] Try.f17 [[0,1],[1],[1,10],[4],[4]])
noncomputable def PY:aL:=ch (cg 12 [0] Try.f68 [[0,1],[1],[1,10],[4],[4]])
noncomputable def PZ:aL:=ch (cg 27 [0] Try.f69 [[0,1],[0,1],[0,1,11],[4],[0,1,5],[0,1,5,15],[0,1,5],[0,1,5,25],[4],[0,1,5],[4]])
noncomputable def P0:aL:=ch (cg 37 [0] Try.f42 [[1,2],[1,2],[1,2,10],[4],[1,2],[1,2,16],[4],[1,2],[1,2,23],[4],[1,2],[1,2,29],[4],[1],[1,35],[4],[4]])
noncomputable def Cg:aL:=ch (cg 27 [0] Try.f18 [[0,1],[0,1],[0,1,11],[4],[0,1,5],[0,1,5,15],[0,1,5],[0,1,5,25],[4],[0,1,5],[4]])
noncomputable def ou:aL:=ch (cg 18 [0] Try.f5 [[1,2],[1,2],[1,2,10],[4],[1],[1,16],[4],[4]])
noncomputable def P1:aL:=ch (cg 22 [0] Try.f25 [[0],[0,3],[0,3,4],[0,3,4,11],[0,3,4],[0,3,4],[2]])
noncomputable def P2:aL:=ch (cg 11 [0] Try.f97 [[1,2],[1,2,3],[1,2,3],[2,3],[2]])
noncomputable def P3:aL:=ch (cg 23 [0] Try.f74 [[0],[0,3],[0,3,4],[0,3,4,11],[0,3,4],[0,3,4],[2]])
noncomputable def P4:aL:=ch (cg 23 [0] Try.f75 [[0],[0,3],[0,3,4],[0,3,4,11],[0,3,4],[0,3,4],[2]])
noncomputable def P5:aL:=ch (cg 24 [0] Try.f47 [[1,2],[1,2,3],[1,2,3],[1,2,3],[1,2,3],[1,2,3],[2,3],[2]])
noncomputable def Ch:aL:=ch (cg 23 [0] Try.f26 [[0],[0,3],[0,3,4],[0,3,4,11],[0,3,4],[0,3,4],[2]])
noncomputable def zS:aL:=ch (cg 16 [0] Try.f7 [[1,2],[1,2,3],[1,2,3],[1,2,3],[2,3],[2]])
noncomputable def P6:aL:=ch (cg 15 [0,1,2] Try.f43 [[0,1,2],[6]])
noncomputable def P7:aL:=ch (cg 16 [0] Try.f70 [[0],[0,3],[0,3,7],[0,3,15],[2],[0,3],[2]])
noncomputable def P8:aL:=ch (cg 13 [0,1] Try.f44 [[0,1],[4]])
noncomputable def P9:aL:=ch (cg 30 [0] Try.f20 [[0],[0,7],[2],[0,3],[0,3,4],[0,3,4,11],[0,3,4,19],[2],[0,3,4],[0,3,4],[3,28],[2],[2]])
noncomputable def P_:aL:=ch (cg 39 [0,1] Try.f94 [[0,1],[0,1,8],[0,1,8,9],[4],[0,1,8,16],[4],[0,8,25],[4],[0,32],[4],[4]])
noncomputable def Qa:aL:=ch (cg 11 [0] Try.f95 [[0],[6],[6,7],[2],[9],[2],[2]])
noncomputable def Qb:aL:=ch (cg 38 [0,1,2] Try.f71 [[0,1,2],[0,1,12],[6],[0,1,7],[0,1,7,8],[0,1,7,8,16],[0,1,7,8,28],[6],[0,1,7,8],[0,1,7,8],[6]])
noncomputable def Qc:aL:=ch (cg 19 [0,1] Try.f73 [[0,1],[0,1,5],[0,1,5,9],[0,1,5,18],[4],[0,1,5],[4]])
noncomputable def Qd:aL:=ch (cg 9 [0] Try.f113 [[0],[2]])
noncomputable def Qe:aL:=ch (cg 9 [0] Try.f114 [[0],[2]])
noncomputable def Qf:aL:=ch (cg 35 [0] Try.f96 [[0],[0,16],[2],[0,3],[0,3,20],[0,3,34],[2],[0,3],[2]])
def dP (r:List bW) (k:Xt) (c:aL):aL:=.seq (.eM r (some k)) c
def HL (r:List bW) (a:Xr) (k:Xt) (c:aL):aL:=.seq (.jl r a (some k)) c
abbrev hr (d t:Nat) (o:cU):bW:=⟨some d,o,some (t,true)⟩
abbrev gr (d t:Nat) (o:cU):bW:=⟨some d,o,some (t,false)⟩
abbrev W1 (n:Nat) (k:Xt) (f:Func) (c:aL):Prop:=eN ⟨n,k⟩ (f.body.getD .skip)=some c.strip
def Qg:aL:=dP [nH 2 false] [0] (dP [dg 3 0,pH 4 96 3,dg 5 4,hr 6 5 (.fc (.t 0)),⟨some 7,.dE .neq 9 (.t 6) (.c (.str [116,97,117])),some (5,true)⟩,ro 8 (.pick (.t 5) (.t 7) (.c (.bool false))),ho 2 8] [2] .ret)
def Qh:aL:=.seq (dP [dg 35 0,r8 36 35,kZ 37 47 36 2,hO 38 9 37,ro 39 (.dE .eql 9 (.t 38) (.c (.str [116,97,117]))),dg 40 39,hr 41 40 (.fc (.t 0)),hr 42 40 (.hC (.t 41)),hr 43 40 (.gO 47 (.t 42) 3),hr 44 40 (.ew 45 (.t 43)),hr 45 40 (.len 45 (.t 44)),hr 46 40 (.dE .gtr 3 (.t 45) (.c (.int .i64 0))),ro 47 (.pick (.t 40) (.t 46) (.c (.bool false))),dg 48 47,gr 49 48 (.fc (.t 0)),gr 50 48 (.hC (.t 49)),gr 51 48 (.gO 47 (.t 50) 2),gr 52 48 (.ew 9 (.t 51)),⟨some 53,.dE .neq 9 (.t 52) (.c (.str [116,97,117])),some (48,false)⟩,gr 54 48 (.fc (.t 53)),hr 55 54 (.fc (.t 0)),hr 56 54 (.hC (.t 55)),hr 57 54 (.gO 47 (.t 56) 2),hr 58 54 (.ew 9 (.t 57)),⟨some 59,.call (.f 72) [(.t 58)],some (54,true)⟩,hr 60 54 (.un .not (.t 59)),gr 61 48 (.pick (.t 54) (.t 60) (.c (.bool false))),ro 62 (.pick (.t 48) (.c (.bool true)) (.t 61)),dg 63 62,gr 64 63 (.fc (.t 0)),gr 65 63 (.hC (.t 64)),gr 66 63 (.gO 47 (.t 65) 3),gr 67 63 (.ew 45 (.t 66)),gr 68 63 (.len 45 (.t 67)),gr 69 63 (.dE .gtr 3 (.t 68) (.c (.int .i64 2))),ro 70 (.pick (.t 63) (.c (.bool true)) (.t 69))] [0,5,70] (.cond (.t 70) (dP [nH 4 false] [4] .ret) .skip)) (dP [dg 71 0,r8 72 71,kZ 73 47 72 3,hO 74 45 73,dg 75 5,wY 76 73 74 75,dg 77 76,hr 78 77 (.fc (.t 0)),hr 79 77 (.hC (.t 78)),hr 80 77 (.gO 47 (.t 79) 4),hr 81 77 (.ew 45 (.t 80)),hr 82 77 (.fc (.t 5)),⟨some 83,.call (.f 73) [(.t 81),(.t 82)],some (77,true)⟩,ro 84 (.pick (.t 77) (.t 83) (.c (.bool false))),ho 4 84] [4] .ret)
def Qi:aL:=dP [dg 12 1,dg 13 0,r8 14 13,kZ 15 47 14 0,hO 16 22 15,uB 17 22 16,r9 18 .add 2 12 17,ho 5 18] [0,1,5] (.seq (dP [dg 19 0,r8 20 19,kZ 21 47 20 1,hO 22 44 21,dg 23 5,ro 24 (.call (.f 71) [(.t 22),(.t 23),(.c (.int .i64 60))]),wZ 25 24,dg 26 25,gr 27 26 (.fc (.t 0)),gr 28 26 (.hC (.t 27)),gr 29 26 (.gO 47 (.t 28) 4),gr 30 26 (.ew 45 (.t 29)),gr 31 26 (.len 45 (.t 30)),gr 32 26 (.fc (.t 1)),gr 33 26 (.dE .neq 2 (.t 31) (.t 32)),ro 34 (.pick (.t 26) (.c (.bool true)) (.t 33))] [0,5,34] (.cond (.t 34) (dP [nH 4 false] [4] .ret) .skip)) Qh)
def Qj:aL:=dP [nH 4 false] [0,1] (.seq (dP [dg 6 0,r8 7 6,kZ 8 47 7 0,hO 9 22 8,pH 10 20 9,ma 11 .eql 2 10 0] [0,1,11] (.cond (.t 11) (dP [nH 4 false] [4] .ret) .skip)) Qi)
noncomputable def Qk:aL:=ch (cg 51 [0] Try.f19 [[0],[0,29],[2],[0,3],[0,3,36],[0,3,50],[2],[0,3],[2]])
noncomputable def Ql:aL:=ch (cg 6 [0] Try.f46 [[0],[2]])
noncomputable def Qm:aL:=ch (cg 56 [0,1,2] Try.f87 [[0,1,2],[1,2,7],[1,2,7,8],[1,2,7,8,14],[1,2,7,8,42],[1,2,7,8],[1,2,7,8],[6]])
noncomputable def Qn:aL:=ch (cg 18 [0] Try.f107 [[0,1],[0,1,5],[0,1,5,7],[0,1,5],[0,1,5],[4]])
noncomputable def Qo:aL:=ch (cg 4 [0] Try.f108 [[0],[3],[2],[2]])
noncomputable def Qp:aL:=ch (cg 67 [0,1,2] Try.f109 [[0,1,2],[1,2,7],[1,2,7,8],[6],[1,2,7,14],[6],[1,2,7,21],[6],[1,2,7,27],[6],[1,2,7,33],[6],[1,2,7,39],[6],[1,2,7,45],[6],[1,2,51],[6],[6]])
noncomputable def Qq:aL:=ch (cg 83 [0] Try.f86 [[0],[0,10],[2],[0,3],[0,3,4],[0,3,4,23],[0,4,28],[2],[2],[0,4,5],[0,4,5,58],[2],[5,6],[2]])
noncomputable def Qr:aL:=ch (cg 60 [0,1,2] Try.f60 [[0,1,2],[0,1,2,7],[0,1,2,7,15],[0,1,2,7,8],[0,1,2,7,59],[6],[0,1,2,7],[6]])
noncomputable def Qs:aL:=ch (cg 54 [0] Try.f40 [[0],[0,3],[0,3,4],[0,3,4,17],[0,3,4],[0,3,4],[0,3,5],[0,3,5,28],[0,3,5,6],[0,3,5,6,36],[0,3,5,6,49],[0,3,5,6],[0,3,5,6],[0,3,5],[2]])
noncomputable def Qt:aL:=ch (cg 25 [0,1] Try.f39 [[0,1],[0,1,5],[0,1,5,6],[0,1,5,6,11],[0,1,5,6,19],[0,1,5,6],[0,1,5,6],[4]])
noncomputable def Qu:aL:=ch (cg 8 [0] Try.f12 [[1],[1,5],[2,3],[2,3]])
noncomputable def Qv:aL:=ch (cg 15 [0,1,2] Try.f48 [[0,1,2],[6]])
noncomputable def Qw:aL:=ch (cg 5 [0] Try.f100 [[0],[2]])
noncomputable def Qx:aL:=ch (cg 6 [0] Try.f99 [[0],[2]])
noncomputable def Qy:aL:=ch (cg 19 [0,1] Try.f88 [[0,1],[0,1,7,8],[0,1,7,8,9],[0,1,5,7,8],[0,1,5,7,8,16],[4],[0,1,7,8],[4]])
noncomputable def Qz:aL:=ch (cg 9 [0,1] Try.f98 [[0,1],[4]])
noncomputable def QA:aL:=ch (cg 6 [0] Try.f76 [[0],[2]])
noncomputable def Ci:aL:=ch (cg 14 [0,1] Try.f49 [[1,2],[4]])
noncomputable def QB:aL:=ch (cg 29 [0] Try.f78 [[1],[1,3],[1,3,7,8,9],[1,3,7,8,9,10],[1,3,5,7,8,9],[1,3,5,7,8,9,15],[2],[1,3,7,8,9],[1,3,7,8,9],[2]])
noncomputable def QC:aL:=ch (cg 9 [0] Try.f115 [[0],[2]])
noncomputable def QD:aL:=ch (cg 42 [0] Try.f101 [[0],[0,6,7],[0,6,7,8],[0,3,6,7],[0,3,4,6,7],[0,6,7,32],[2],[0,6,7],[2]])
def QE:aL:=dP [nH 2 false] [0] (dP [dg 3 0,pH 4 101 3,dg 5 4,hr 6 5 (.fc (.t 0)),⟨some 7,.dE .neq 9 (.t 6) (.c (.str [116,97,117])),some (5,true)⟩,ro 8 (.pick (.t 5) (.t 7) (.c (.bool false))),ho 2 8] [2] .ret)
def HM:aL:=dP [dg 26 0,ho 4 26] [4] .ret
def HN:aL:=.seq (dP [dg 8 1,dg 9 0,ro 10 (.cap 45 (.t 9)),dg 11 0,uB 12 45 11,r9 13 .sub 3 10 12,r9 14 .sub 3 8 13,ho 1 14] [0,1] (dP [dg 15 1,ma 16 .gtr 3 15 0] [0,1,16] (.cond (.t 16) (.eM [dg 17 0,dg 18 0,ro 19 (.cap 45 (.t 18)),ro 20 (.eb 45 (.t 17) none (some (.t 19))),dg 21 1,⟨some 22,.hJ 45 3 (.t 20) (.t 21),none⟩,dg 23 0,uB 24 45 23,ro 25 (.eb 45 (.t 22) none (some (.t 24))),ho 0 25] (some [0])) .skip))) HM
def QF:aL:=dP [A2 4] [0,1] (.seq (dP [dg 5 1,ma 6 .lss 3 5 0] [0,1,6] (.cond (.t 6) (.eM [ro 7 (.bad),⟨none,.bad,none⟩] (some [0,1])) .skip)) HN)
noncomputable def QG:aL:=ch (cg 36 [0] Try.f103 [[0],[0,3],[0,3,9,10,11],[0,3,9,10,11,12],[0,3,5,9,10,11],[0,3,9,10,11],[0,3,9,10,11,20],[0,3,9,10,11],[0,3,9,10,11],[0,6],[6,25,26,27],[6,25,26,27,28],[6,8,25,26,27],[6,25,26,27],[6,25,26,27],[2]])
def QH:aL:=dP [ro 1 (.g6 47 (.t 0)),A2 2] [1] (dP [kZ 3 47 1 1,hO 4 44 3,⟨some 5,.shr (.ek 45 1 [(0,(.t 4))]),none⟩,kZ 6 47 1 3,hO 7 45 6,kZ 8 47 1 4,hO 9 45 8,⟨some 10,.shr (.ek 131 3 [(0,(.t 5)),(1,(.t 7)),(2,(.t 9))]),none⟩,pH 11 103 10,ho 2 11] [2] .ret)
noncomputable def QI:aL:=ch (cg 29 [0,1] Try.f104 [[1,2],[1,2,6],[1,2,6,7],[4],[1,2,6,12],[4],[2,6,19],[4],[2,24],[4],[4]])
noncomputable def QJ:aL:=ch (cg 9 [0] Try.f105 [[1],[4],[4,5],[2],[7],[2],[2]])
noncomputable def QK:aL:=ch (cg 47 [0,1,2] Try.f83 [[0,1,2],[0,1,24],[6],[0,1,7],[1,7,25,26,27],[1,7,25,26,27,28],[1,7,9,25,26,27],[1,7,9,25,26,27,38],[6],[1,7,25,26,27],[1,7,25,26,27],[6]])
noncomputable def QL:aL:=ch (cg 13 [0,1,2] Try.f82 [[0,1,2],[4]])
noncomputable def QM:aL:=ch (cg 19 [0,1] Try.f102 [[0,1],[0,1,7,8],[0,1,7,8,9],[0,1,5,7,8],[0,1,5,7,8,16],[4],[0,1,7,8],[4]])
noncomputable def QN:aL:=ch (cg 9 [0,1] Try.f80 [[0,1],[4]])
def QO:aL:=dP [dg 19 5,ma 20 .gtr 3 19 0,dg 21 20,hr 22 21 (.gO 47 (.t 2) 2),hr 23 21 (.ew 9 (.t 22)),⟨some 24,.dE .eql 9 (.t 23) (.c (.str [116,97,117])),some (21,true)⟩,hr 25 21 (.fc (.t 24)),gr 26 25 (.fc (.t 5)),gr 27 25 (.dE .gtr 3 (.t 26) (.c (.int .i64 2))),hr 28 21 (.pick (.t 25) (.c (.bool true)) (.t 27)),ro 29 (.pick (.t 21) (.t 28) (.c (.bool false))),dg 30 29,gr 31 30 (.gO 47 (.t 2) 2),gr 32 30 (.ew 9 (.t 31)),⟨some 33,.dE .neq 9 (.t 32) (.c (.str [116,97,117])),some (30,false)⟩,gr 34 30 (.fc (.t 33)),hr 35 34 (.gO 47 (.t 2) 2),hr 36 34 (.ew 9 (.t 35)),⟨some 37,.call (.f 79) [(.t 36)],some (34,true)⟩,hr 38 34 (.un .not (.t 37)),gr 39 30 (.pick (.t 34) (.t 38) (.c (.bool false))),ro 40 (.pick (.t 30) (.c (.bool true)) (.t 39))] [2,3,40] (.cond (.t 40) (dP [nH 4 false] [4] .ret) .skip)
def QP:aL:=dP [ro 2 (.g6 47 (.t 0)),ro 3 (.g6 2 (.t 1)),nH 4 false] [2,3] (.seq (dP [hO 6 47 2,pH 7 78 6,wZ 8 7,dg 9 8,gr 10 9 (.gO 47 (.t 2) 4),gr 11 9 (.ew 45 (.t 10)),gr 12 9 (.len 45 (.t 11)),gr 13 9 (.ew 2 (.t 3)),gr 14 9 (.dE .neq 2 (.t 12) (.t 13)),ro 15 (.pick (.t 9) (.c (.bool true)) (.t 14))] [2,3,15] (.cond (.t 15) (dP [nH 4 false] [4] .ret) .skip)) (.seq (dP [kZ 16 47 2 3,hO 17 45 16,uB 18 45 17,ho 5 18] [2,3,5] QO) (dP [hO 41 47 2,pH 42 81 41,ro 43 (.om 82 [(.t 3),(.t 2)]),wY 44 80 42 43,wZ 45 44,ho 4 45] [4] .ret)))
noncomputable def QQ:aL:=ch (cg 9 [0,1] Try.f51 [[1,2],[3]])
noncomputable def QR:aL:=ch (cg 19 [0,1] Try.f77 [[0,1],[0,1,7,8],[0,1,7,8,9],[0,1,5,7,8],[0,1,5,7,8,16],[4],[0,1,7,8],[4]])
noncomputable def QS:aL:=ch (cg 9 [0,1] Try.f50 [[0,1],[4]])
noncomputable def QT:aL:=ch (cg 25 [0] Try.f27 [[1],[1,19],[2],[2]])
noncomputable def QU:aL:=ch (cg 15 [0] Try.f61 [[0],[0,3],[3,5,6],[3,5,6,7],[3,4,5,6],[3,5,6],[3,5,6],[2]])
noncomputable def QV:aL:=ch (cg 8 [0] Try.f28 [[0],[0,4],[2],[2]])
noncomputable def QW:aL:=ch (cg 19 [0,1] Try.f110 [[0,1],[0,1,7,8],[0,1,7,8,9],[0,1,5,7,8],[0,1,5,7,8,16],[4],[0,1,7,8],[4]])
noncomputable def QX:aL:=ch (cg 9 [0,1] Try.f91 [[0,1],[4]])
noncomputable def Cj:aL:=ch (cg 6 [0] Try.f35 [[0],[2]])
noncomputable def QY:aL:=ch (cg 14 [0,1,2] Try.f90 [[0,1,2],[0,2,7],[4],[4]])
noncomputable def oN:aL:=ch (cg 31 [0,1] Try.f33 [[0,1],[0,1,5],[1,5,9,10,11],[1,5,9,10,11,12],[1,5,7,9,10,11],[1,5,7,8,9,10,11],[1,5,7,8,9,10,11,17],[1,5,7,8,9,10,11],[1,5,7,8,9,10,11,23],[1,5,8,9,10,11],[1,5,9,10,11],[1,5,9,10,11],[4]])
noncomputable def QZ:aL:=ch (cg 10 [0,1,2] Try.f66 [[1,3,5],[6]])
noncomputable def Q0:aL:=ch (cg 38 [0] Try.f89 [[0],[0,4],[0,4,5],[4,5,17,18],[4,5,17,18,19],[4,5,17,18],[4,5,6,17,18],[4,5,17,18],[4,5,17,18],[2,3]])
noncomputable def Q1:aL:=ch (cg 11 [0] Try.f65 [[0],[3],[2]])
noncomputable def Q2:aL:=ch (cg 4 [0] Try.f111 [[0],[3],[2],[2]])
noncomputable def Q3:aL:=ch (cg 67 [0,1,2] Try.f112 [[0,1,2],[1,2,7],[1,2,7,8],[6],[1,2,7,14],[6],[1,2,7,21],[6],[1,2,7,27],[6],[1,2,7,33],[6],[1,2,7,39],[6],[1,2,7,45],[6],[1,2,51],[6],[6]])
noncomputable def Q4:aL:=ch (cg 61 [0,1] Try.f93 [[0,1],[0,1,9],[0,1,9,10],[4],[0,1,9,17],[4],[0,1,27],[4],[4]])
noncomputable def Q5:aL:=ch (cg 7 [0] Try.f92 [[0],[2]])
noncomputable def Q6:aL:=ch (cg 57 [0] Try.f67 [[0],[0,13],[2],[0,3],[0,3,4],[3,4,24,25,26],[3,4,24,25,26,27],[3,4,6,24,25,26],[3,4,7,24,25,26],[3,4,7,24,25,26],[3,4,24,25,26],[3,4,24,25,26],[3,52],[2],[2]])
def Q7:aL:=HL [hO 7 29 1,kZ 8 47 4 4,hO 9 45 8,hO 10 2 2,wX 11 45 9 10,hO 12 44 11,hO 13 22 3,OJ 14 66 7 12 13,pH 15 65 14,pH 16 67 15,ho 6 16] [[],[],[1],[],[2,3],[4],[],[0,5,6],[7,7],[8,8],[9,9,0,1,2,3,4,5,6,7,8,9]] [1,2,6] (HL [dg 17 6,r8 18 17,kZ 19 95 18 0,hO 20 76 19,kZ 21 29 1 1,hO 22 22 21,hO 23 2 2,wX 24 22 22 23,hO 25 2 24,ro 26 (.fw 76 [(0,(.c (.int .i64 0))),(1,(.t 25))]),r9 27 .neq 76 20 26,ho 5 27] [[],[0],[1],[2],[],[4],[],[5,6],[7],[8],[3,9],[10,0,1,2,3,4,5,6,7,8,9,10]] [5] .ret)
def Q8:aL:=dP [ro 4 (.g6 47 (.t 0)),nH 5 false] [1,2,3,4] Q7
noncomputable def Q9:aL:=ch (cg 19 [0,1] Try.f77 [[0,1],[0,1,7,8],[0,1,7,8,9],[0,1,5,7,8],[0,1,5,7,8,16],[4],[0,1,7,8],[4]])
noncomputable def Q_:aL:=ch (cg 9 [0,1] Try.f50 [[0,1],[4]])
noncomputable def Ra:aL:=ch (cg 9 [0,1,2] Try.f63 [[1,2,3],[4]])
noncomputable def Rb:aL:=ch (cg 19 [0,1] Try.f88 [[0,1],[0,1,7,8],[0,1,7,8,9],[0,1,5,7,8],[0,1,5,7,8,16],[4],[0,1,7,8],[4]])
def Rc:aL:=dP [dg 13 0,ho 4 13] [4] .ret
def Rd:aL:=.cond (.t 12) Rc .skip
def Re:aL:=.cond (.t 19) .skip (.exit 0)
def Rf:aL:=.eM [dg 34 5,ma 35 .add 3 34 1,ho 5 35] (some [0,1,5,6])
def Rg:aL:=dP [dg 30 0,dg 31 5,dg 32 7,wX 33 22 30 31,OL 2 33 32] [0,1,5,6] Rf
def Rh:aL:=.cond (.t 29) Rg .skip
def Ri:aL:=dP [dg 26 1,dg 27 7,ro 28 (.call (.t 26) [(.t 27)]),wZ 29 28] [0,1,5,6,7,29] Rh
def HO:aL:=.eM [dg 20 6,ma 21 .add 3 20 1,ho 6 21] (some [0,1,5,6])
def Rj:aL:=.seq (.block 1 (dP [dg 22 0,dg 23 6,wX 24 22 22 23,hO 25 2 24,ho 7 25] [0,1,5,6,7] Ri)) HO
def HP:aL:=.seq (dP [dg 16 6,dg 17 0,uB 18 22 17,r9 19 .lss 3 16 18] [0,1,5,6,19] Re) Rj
def Rk:aL:=.block 0 (.loop HP)
def Rl:aL:=dP [dg 39 0,dg 40 5,ro 41 (.eb 22 (.t 39) none (some (.t 40))),ho 4 41] [4] .ret
def Rm:aL:=.seq (.g_ (uD ay (.t 0) (.t 5) 36 37 38 22 [0,5]) (Hk (.t 0) (.t 5) 36 37 38 22)) Rl
def Rn:aL:=.seq (dP [dg 14 5,ma 15 .add 3 14 1,ho 6 15] [0,1,5,6] Rk) Rm
def Ro:aL:=.seq (dP [dg 11 5,ma 12 .eql 3 11 (-1)] [0,1,5,12] Rd) Rn
def Rp:aL:=dP [dg 8 0,dg 9 1,wY 10 88 8 9,ho 5 10] [0,1,5] Ro
def HQ:aL:=dP [A2 4] [0,1] Rp
theorem Rq:HQ.l5 (w4 ay (kW (Try.f62.body.getD .skip))):=And.intro (True.intro) (And.intro (True.intro) (And.intro (And.intro (True.intro) (And.intro (And.intro (True.intro) (True.intro)) (True.intro))) (And.intro (And.intro (True.intro) (And.intro (And.intro (True.intro) (And.intro (True.intro) (True.intro))) (And.intro (And.intro (True.intro) (And.intro (True.intro) (And.intro (And.intro (True.intro) (True.intro)) (True.intro)))) (True.intro)))) (And.intro (⟨_,_,_,_,_,_,_,rfl,rfl,(by kernel_rfl)⟩) (And.intro (True.intro) (True.intro))))))
theorem Rr:eN ⟨42,[0,1]⟩ (Try.f62.body.getD .skip)=some HQ.strip:=by kernel_rfl
noncomputable def Rs:aL:=ch (cg 19 [0] Try.f41 [[1],[1,3],[1,3,4],[1,3,4,16],[2],[1,3]])
noncomputable def Rt:aL:=ch (cg 9 [0] Try.f13 [[1],[1,6],[2,3],[2,3]])
noncomputable def lx:aL:=ch (cg 26 [0,1] Try.f14 [[0,1],[0,1,10],[4],[0,1,5],[0,1,5,14],[0,1,5,25],[4],[0,1,5],[4]])
noncomputable def Ru:aL:=ch (cg 15 [0,1] Try.f106 [[2,3],[2,3,9],[4],[14],[4],[4]])
noncomputable def Rv:aL:=ch (cg 27 [0,1] Try.f84 [[0,1],[0,1,10],[4],[0,1,5],[0,1,5,14],[0,1,5,26],[4],[0,1,5],[4]])
noncomputable def Rw:aL:=ch (cg 27 [0,1] Try.f85 [[0,1],[0,1,10],[4],[0,1,5],[0,1,5,14],[0,1,5,26],[4],[0,1,5],[4]])
noncomputable def Rx:aL:=ch (cg 34 [0,1] Try.f54 [[2,3],[2,3,10],[4],[2,3,16],[4],[2,3,21],[4],[2,3,27],[4],[33],[4],[4]])
noncomputable def Ry:aL:=ch (cg 27 [0,1] Try.f36 [[0,1],[0,1,10],[4],[0,1,5],[0,1,5,14],[0,1,5,26],[4],[0,1,5],[4]])
noncomputable def zT:aL:=ch (cg 22 [0,1] Try.f9 [[2,3],[2,3,9],[4],[2,3,15],[4],[21],[4],[4]])
noncomputable def Rz:aL:=ch (cg 19 [0] Try.f15 [[0,1],[0,1,5],[0,1,5,9],[0,1,5],[0,1,5],[0,1,5],[0,4]])
noncomputable def RA:aL:=ch (cg 27 [0] Try.f55 [[0,1],[0,1,5],[0,1,5,9],[0,1,5],[0,1,5],[0,1,5],[0,1,5],[0,1,5],[0,4]])
def HR:aL:=.seq (dP [dg 6 0,ma 7 .gtr 3 6 0] [0,3,7] (.cond (.t 7) .skip (.exit 0))) (.block 1 (dP [dg 8 0,ma 9 .rem 3 8 10,ro 10 (.dE .add 3 (.c (.int .i64 48)) (.t 9)),Hb 11 3 5 10,OK 12 110 11,Hb 13 110 9 12,dg 14 3,r9 15 .add 9 13 14,ho 3 15] [0,3] (.eM [dg 16 0,ma 17 .quo 3 16 10,ho 0 17] (some [0,3]))))
def RB:aL:=dP [ro 2 (.ko (.c (.str [])))] [0] (.seq (dP [dg 4 0,ma 5 .leq 3 4 0] [0,5] (.cond (.t 5) (dP [ro 2 (.ko (.c (.str [109,48])))] [2] .ret) .skip)) (dP [ro 3 (.ko (.c (.str [])))] [0,3] (.seq (.block 0 (.loop HR)) (dP [dg 18 3,ro 19 (.dE .add 9 (.c (.str [109])) (.t 18)),ho 2 19] [2] .ret))))
noncomputable def RC:aL:=ch (cg 19 [0] Try.f57 [[0,1],[0,1,5],[0,1,5,9],[0,1,5],[0,1,5],[0,4]])
noncomputable def RD:aL:=ch (cg 49 [0] Try.f37 [[0,1],[0,1,5],[0,1,5,9],[0,1,5],[0,1,5],[0,1,5],[0,1,5],[0,1,5],[0,1,5],[0,1,5],[0,4]])
def Ck:aL:=dP [⟨some 2,.h0 29 (.t 0),none⟩,OI 4 0] [0,1,2] (dP [kZ 5 29 2 1,hO 6 22 5,dg 7 1,⟨some 8,.jy (.f 15) [(.t 6),(.t 7)] [2],none⟩,ho 1 8] [0,1,2] (dP [kZ 9 29 2 2,hO 10 27 9,dg 11 1,wY 12 37 10 11,ho 1 12] [0,1] (dP [dg 13 1,ho 4 13] [0,4] .ret)))
noncomputable def mX:aL:=ch (cg 21 [0] Try.f16 [[0,1],[0,1,5],[0,1,5,9],[0,1,5,17],[4],[0,1,5],[0,1,5],[4]])
noncomputable def mx:aL:=ch (cg 96 [0] Try.f4 [[1],[1,3],[1,3],[1,18],[2],[1,4,5],[1,4,5,6],[1,4,5,6,7,8],[1,4,5,6,7,8,40],[2],[1,4,5,6,7,8,45],[2],[1,4,5,6,7,8,9],[1,4,5,7,8,9],[1,4,5,7,61],[2],[1,4,5,7,10],[1,4,5,7,10],[1,4,5,7,10,11],[1,4,5,7,10,11],[1,4,5,7,10,11,69],[2],[1,4,5,7,10,72],[2],[4,5,7,10,12,13],[7,10,87],[2],[7,10,11],[10,11],[10,11,92],[2],[95],[2],[2]])
def W2:=PLift.up (And.intro @Bool.not_true @Bool.not_false)
def W3:=PLift.up (And.intro @length_append.{0} (And.intro @length_cons.{0} (And.intro @length_nil.{0} (And.intro @length_map.{0,0} (And.intro @length_replicate.{0} (And.intro @Nat.zero_add @Nat.add_zero))))))
end Go.Proofs.Ytpdplcdnpaoceaa
