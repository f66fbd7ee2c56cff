/- Part of a proof that a law returns true for every input. No condition. -/
import Derived.Test.YtndfcecbamffaaaGreatTb
import Derived.Test.YtndfcecbamffaaaGreatFwL
import Derived.Test.YtndfcecbamffaaaGreatFwTf
import Derived.Test.YtndfcecbamffaaaGreatP4
namespace Go.Proofs.YtndfcecbamffaaaGreat
open List Option Go.IntKind Nat Or
open Go Go.dD Go.ob
set_option linter.unusedSimpArgs false
def ax (x:Int):I:=.int .i64 x
theorem fu (x:Int):(ax x).share=ax x:=by
 simp only[ax,dg]
theorem Aa (x:Int):(ax x).dj=true:=by
 simp only[ax,I.dj,I.jN,Bool.and_self]
def jm (x:hA):I:=.agg [.int .i64 x.Kind,.int .i64 x.Value]
theorem N_ (x:hA):(jm x).share=jm x:=by
 simp only[jm,dg]
theorem agO (x:hA):(jm x).dj=true:=by
 simp only[jm,I.dj,I.jN,Bool.and_self]
def iU (x:ahL):I:=.slice (x.map jm)
theorem Oa (x:ahL):(iU x).share=iU x:=by
 simp only[iU,dg, @bB _ jm jm (λ_=>N_ _)]
def h3 (x:jT):I:=.agg [.slice (x.a5.map ax),.slice (x.Guard.map jm),.str x.Name,.slice (x.aW.map iU),.slice (x.Next.map iU)]
theorem Ob (x:jT):(h3 x).share=h3 x:=by
 simp only[h3,dg, @bB _ ax ax (λ_=>fu _), @bB _ jm jm (λ_=>N_ _), @bB _ iU iU (λ_=>Oa _)]
def hB (x:l4):I:=.agg [.int .i64 x.aE,.slice (x.Start.map ax),.slice (x.aU.map h3)]
theorem agP (x:l4):(hB x).share=hB x:=by
 simp only[hB,dg, @bB _ ax ax (λ_=>fu _), @bB _ h3 h3 (λ_=>Ob _)]
def hC (x:jz):I:=.agg [.str x.Left,.str x.cf,.str x.Result]
theorem agQ (x:jz):(hC x).share=hC x:=by
 simp only[hC,dg]
theorem agR (x:jz):(hC x).dj=true:=by
 simp only[hC,I.dj,I.jN,Bool.and_self]
def l_ (x:ahB):I:=.slice (x.map ax)
theorem X3 (x:ahB):(l_ x).share=l_ x:=by
 simp only[l_,dg, @bB _ ax ax (λ_=>fu _)]
def Ii (x:ahM):I:=.slice (x.map h3)
theorem agS (x:ahM):(Ii x).share=Ii x:=by
 simp only[Ii,dg, @bB _ h3 h3 (λ_=>Ob _)]
def ks (x:ahz):I:=.str x
theorem C6 (x:ahz):(ks x).share=ks x:=by
 simp only[ks,dg]
theorem agT (x:ahz):(ks x).dj=true:=by
 simp only[ks,I.dj,I.jN,Bool.and_self]
def Ij (x:ahJ):I:=.slice (x.map iU)
theorem agU (x:ahJ):(Ij x).share=Ij x:=by
 simp only[Ij,dg, @bB _ iU iU (λ_=>Oa _)]
def aQ (x:ar):I:=.agg [.int .i64 x.Kind,.int .i64 x.Value]
theorem iu (x:ar):(aQ x).share=aQ x:=by
 simp only[aQ,dg]
theorem r7 (x:ar):(aQ x).dj=true:=by
 simp only[aQ,I.dj,I.jN,Bool.and_self]
def a0 (x:ahO):I:=.slice (x.map aQ)
theorem jV (x:ahO):(a0 x).share=a0 x:=by
 simp only[a0,dg, @bB _ aQ aQ (λ_=>iu _)]
def a4 (x:aN):I:=.agg [.slice (x.a5.map ax),.slice (x.Guard.map aQ),.str x.Name,.slice (x.aW.map a0),.slice (x.Next.map a0)]
theorem lo (x:aN):(a4 x).share=a4 x:=by
 simp only[a4,dg, @bB _ ax ax (λ_=>fu _), @bB _ aQ aQ (λ_=>iu _), @bB _ a0 a0 (λ_=>jV _)]
def bo (x:ahO):I:=.ad 2 (x.map aQ)
theorem nQ (x:ahO):(bo x).share=a0 x:=by
 simp only[bo,a0,dg, @bB _ aQ aQ (λ_=>iu _)]
theorem pc (x:ahO):(bo x).dj=true:=by
 simp only[bo,I.dj,I.jN,Bool.and_self, @iR _ aQ (λ_=>r7 _)]
def b9 (x:aN):I:=.agg [.ad 1 (x.a5.map ax),.ad 2 (x.Guard.map aQ),.str x.Name,.ad 1 (x.aW.map bo),.ad 1 (x.Next.map bo)]
theorem oq (x:aN):(b9 x).share=a4 x:=by
 simp only[b9,a4,dg, @bB _ ax ax (λ_=>fu _), @bB _ aQ aQ (λ_=>iu _), @bB _ bo a0 (λ_=>nQ _)]
theorem Ab (x:aN):(b9 x).dj=true:=by
 simp only[b9,I.dj,I.jN,Bool.and_self, @iR _ ax (λ_=>Aa _), @iR _ aQ (λ_=>r7 _), @iR _ bo (λ_=>pc _)]
def xG (x:ahB):I:=.ad 1 (x.map ax)
theorem X4 (x:ahB):(xG x).share=l_ x:=by
 simp only[xG,l_,dg, @bB _ ax ax (λ_=>fu _)]
theorem agV (x:ahB):(xG x).dj=true:=by
 simp only[xG,I.dj,I.jN,Bool.and_self, @iR _ ax (λ_=>Aa _)]
def nR (x:ahK):I:=.ad 1 (x.map bo)
def lN (x:ahK):I:=.slice (x.map a0)
theorem X5 (x:ahK):(lN x).share=lN x:=by
 simp only[lN,dg, @bB _ a0 a0 (λ_=>jV _)]
theorem Oc (x:ahK):(nR x).share=lN x:=by
 simp only[nR,lN,dg, @bB _ bo a0 (λ_=>nQ _)]
theorem agW (x:ahK):(nR x).dj=true:=by
 simp only[nR,I.dj,I.jN,Bool.and_self, @iR _ bo (λ_=>pc _)]
def eF (x:a8):I:=.agg [.int .i64 x.aE,.ad 1 (x.Start.map ax),.ad 5 (x.aU.map b9)]
def bw (x:a8):I:=.agg [.int .i64 x.aE,.slice (x.Start.map ax),.slice (x.aU.map a4)]
theorem agX (x:a8):(bw x).share=bw x:=by
 simp only[bw,dg, @bB _ ax ax (λ_=>fu _), @bB _ a4 a4 (λ_=>lo _)]
theorem X6 (x:a8):(eF x).share=bw x:=by
 simp only[eF,bw,dg, @bB _ ax ax (λ_=>fu _), @bB _ b9 a4 (λ_=>oq _)]
theorem ts (x:a8):(eF x).dj=true:=by
 simp only[eF,I.dj,I.jN,Bool.and_self, @iR _ ax (λ_=>Aa _), @iR _ b9 (λ_=>Ab _)]
def C7 (x:ahP):I:=.ad 5 (x.map b9)
def Ac (x:ahP):I:=.slice (x.map a4)
theorem agY (x:ahP):(Ac x).share=Ac x:=by
 simp only[Ac,dg, @bB _ a4 a4 (λ_=>lo _)]
theorem agZ (x:ahP):(C7 x).share=Ac x:=by
 simp only[C7,Ac,dg, @bB _ b9 a4 (λ_=>oq _)]
theorem ag0 (x:ahP):(C7 x).dj=true:=by
 simp only[C7,I.dj,I.jN,Bool.and_self, @iR _ b9 (λ_=>Ab _)]
def bU (x:bQ):I:=.agg [.str x.Left,.str x.cf,.str x.Result]
theorem q3 (x:bQ):(bU x).share=bU x:=by
 simp only[bU,dg]
theorem ag1 (x:bQ):(bU x).dj=true:=by
 simp only[bU,I.dj,I.jN,Bool.and_self]
def qg (x:Bool×ahO):I:=cond x.1 (.hole) (bo x.2)
theorem Od:(qg∘λx=>(false,x))=bo:=rfl
theorem X7 (x:ahO):qg (true,x)= .hole:=rfl
theorem Oe {x:Bool×ahO} (h:nk (!x.1)=some ()):qg x=bo x.2:=by
 obtain⟨b,x⟩:=x;cases b
 .rfl
 .cases h
theorem ag2 (x:Bool×ahO):(qg x).wd=1:=by
 obtain⟨b,x⟩:=x;cases b<;>rfl
def mG (x:Bool×aN):I:=cond x.1 (.agg [.hole,.hole,.str x.2.Name,.hole,.hole]) (b9 x.2)
theorem Ik:(mG∘λx=>(false,x))=b9:=rfl
theorem X8 (x:aN):mG (true,x)= .agg [.hole,.hole,.str x.Name,.hole,.hole]:=rfl
theorem C8 {x:Bool×aN} (h:nk (!x.1)=some ()):mG x=b9 x.2:=by
 obtain⟨b,x⟩:=x;cases b
 .rfl
 .cases h
theorem ag3 (x:Bool×aN):(mG x).wd=5:=by
 obtain⟨b,x⟩:=x;cases b<;>rfl
def r8 (x:Bool×ahK):I:=cond x.1 (.hole) (nR x.2)
theorem C9:(r8∘λx=>(false,x))=nR:=rfl
theorem Il (x:ahK):r8 (true,x)= .hole:=rfl
theorem C_ {x:Bool×ahK} (h:nk (!x.1)=some ()):r8 x=nR x.2:=by
 obtain⟨b,x⟩:=x;cases b
 .rfl
 .cases h
theorem ag4 (x:Bool×ahK):(r8 x).wd=1:=by
 obtain⟨b,x⟩:=x;cases b<;>rfl
def q4 (x:wK):I:=.agg [.int .i64 x.Kind,.int .i64 x.Number,.str x.Name,.slice (x.aW.map a0)]
theorem Of (x:wK):(q4 x).share=q4 x:=by
 simp only[q4,dg, @bB _ a0 a0 (λ_=>jV _)]
def q5 (x:wL):I:=.agg [.str x.Name,.int .i64 x.aE,.slice (x.Body.map q4)]
theorem Og (x:wL):(q5 x).share=q5 x:=by
 simp only[q5,dg, @bB _ q4 q4 (λ_=>Of _)]
def q6 (x:wM):I:=.agg [.int .i64 x.Gv,.slice (x.Gw.map ax)]
theorem Oh (x:wM):(q6 x).share=q6 x:=by
 simp only[q6,dg, @bB _ ax ax (λ_=>fu _)]
def xH (x:uV):I:=.agg [.slice (x.Gx.map q5),.slice (x.Gy.map q6),.slice (x.lK.map bU),.slice (x.Gz.map ks),.slice (x.GA.map ks)]
theorem ag5 (x:uV):(xH x).share=xH x:=by
 simp only[xH,dg, @bB _ q5 q5 (λ_=>Og _), @bB _ q6 q6 (λ_=>Oh _), @bB _ bU bU (λ_=>q3 _), @bB _ ks ks (λ_=>C6 _)]
def Im (x:List wL):I:=.slice (x.map q5)
theorem ag6 (x:List wL):(Im x).share=Im x:=by
 simp only[Im,dg, @bB _ q5 q5 (λ_=>Og _)]
def Io (x:List wM):I:=.slice (x.map q6)
theorem ag7 (x:List wM):(Io x).share=Io x:=by
 simp only[Io,dg, @bB _ q6 q6 (λ_=>Oh _)]
def Ip (x:ahQ):I:=.slice (x.map bU)
theorem ag8 (x:ahQ):(Ip x).share=Ip x:=by
 simp only[Ip,dg, @bB _ bU bU (λ_=>q3 _)]
def Iq (x:nq):I:=.slice (x.map ks)
theorem ag9 (x:nq):(Iq x).share=Iq x:=by
 simp only[Iq,dg, @bB _ ks ks (λ_=>C6 _)]
def Ir (x:List wK):I:=.slice (x.map q4)
theorem ag_ (x:List wK):(Ir x).share=Ir x:=by
 simp only[Ir,dg, @bB _ q4 q4 (λ_=>Of _)]
noncomputable def Is:aT:=cB (cA 12 [0] Tryz.f24 [[0,1],[1],[1,10],[4],[4]])
noncomputable def X9:aT:=cB (cA 12 [0] Tryz.f104 [[0,1],[1],[1,10],[4],[4]])
noncomputable def X_:aT:=cB (cA 27 [0] Tryz.f105 [[0,1],[0,1],[0,1,11],[4],[0,1,5],[0,1,5,15],[0,1,5],[0,1,5,25],[4],[0,1,5],[4]])
noncomputable def Ya:aT:=cB (cA 37 [0] Tryz.f52 [[1,2],[1,2],[1,2,10],[4],[1,2],[1,2,16],[4],[1,2],[1,2,23],[4],[1,2],[1,2,29],[4],[1],[1,35],[4],[4]])
noncomputable def It:aT:=cB (cA 27 [0] Tryz.f25 [[0,1],[0,1],[0,1,11],[4],[0,1,5],[0,1,5,15],[0,1,5],[0,1,5,25],[4],[0,1,5],[4]])
noncomputable def gf:aT:=cB (cA 18 [0] Tryz.f6 [[1,2],[1,2],[1,2,10],[4],[1],[1,16],[4],[4]])
noncomputable def Iu:aT:=cB (cA 27 [0] Tryz.f42 [[1,2],[1,2],[1,2,11],[4],[1,2],[1,2,18],[4],[1],[1,25],[4],[4]])
noncomputable def nd:aT:=cB (cA 27 [0] Tryz.f16 [[0,1],[0,1],[0,1,11],[4],[0,1,5],[0,1,5,15],[0,1,5],[0,1,5,25],[4],[0,1,5],[4]])
noncomputable def Yb:aT:=cB (cA 22 [0] Tryz.f30 [[0],[0,3],[0,3,4],[0,3,4,11],[0,3,4],[0,3,4],[2]])
noncomputable def Yc:aT:=cB (cA 11 [0] Tryz.f153 [[1,2],[1,2,3],[1,2,3],[2,3],[2]])
noncomputable def Yd:aT:=cB (cA 23 [0] Tryz.f112 [[0],[0,3],[0,3,4],[0,3,4,11],[0,3,4],[0,3,4],[2]])
noncomputable def Ye:aT:=cB (cA 23 [0] Tryz.f113 [[0],[0,3],[0,3,4],[0,3,4,11],[0,3,4],[0,3,4],[2]])
noncomputable def Yf:aT:=cB (cA 24 [0] Tryz.f60 [[1,2],[1,2,3],[1,2,3],[1,2,3],[1,2,3],[1,2,3],[2,3],[2]])
noncomputable def Iv:aT:=cB (cA 23 [0] Tryz.f31 [[0],[0,3],[0,3,4],[0,3,4,11],[0,3,4],[0,3,4],[2]])
noncomputable def gF:aT:=cB (cA 16 [0] Tryz.f8 [[1,2],[1,2,3],[1,2,3],[1,2,3],[2,3],[2]])
noncomputable def Yg:aT:=cB (cA 14 [0] Tryz.f45 [[1,2],[1,2,3],[1,2,3],[1,2,3],[2,3],[2]])
noncomputable def Yh:aT:=cB (cA 23 [0] Tryz.f18 [[0],[0,3],[0,3,4],[0,3,4,11],[0,3,4],[0,3,4],[2]])
noncomputable def Yi:aT:=cB (cA 15 [0,1,2] Tryz.f53 [[0,1,2],[6]])
noncomputable def Yj:aT:=cB (cA 16 [0] Tryz.f106 [[0],[0,3],[0,3,7],[0,3,15],[2],[0,3],[2]])
noncomputable def Yk:aT:=cB (cA 13 [0,1] Tryz.f54 [[0,1],[4]])
noncomputable def Yl:aT:=cB (cA 30 [0] Tryz.f107 [[0],[0,7],[2],[0,3],[0,3,4],[0,3,4,11],[0,3,4,19],[2],[0,3,4],[0,3,4],[3,28],[2],[2]])
noncomputable def Ym:aT:=cB (cA 39 [0,1] Tryz.f148 [[0,1],[0,1,8],[0,1,8,9],[4],[0,1,8,16],[4],[0,8,25],[4],[0,32],[4],[4]])
noncomputable def Yn:aT:=cB (cA 11 [0] Tryz.f149 [[0],[6],[6,7],[2],[9],[2],[2]])
noncomputable def Yo:aT:=cB (cA 38 [0,1,2] Tryz.f108 [[0,1,2],[0,1,12],[6],[0,1,7],[0,1,7,8],[0,1,7,8,16],[0,1,7,8,28],[6],[0,1,7,8],[0,1,7,8],[6]])
noncomputable def Yp:aT:=cB (cA 19 [0,1] Tryz.f109 [[0,1],[0,1,5],[0,1,5,9],[0,1,5,18],[4],[0,1,5],[4]])
noncomputable def Yq:aT:=cB (cA 9 [0] Tryz.f163 [[0],[2]])
noncomputable def Yr:aT:=cB (cA 9 [0] Tryz.f164 [[0],[2]])
noncomputable def Ys:aT:=cB (cA 35 [0] Tryz.f127 [[0],[0,16],[2],[0,3],[0,3,20],[0,3,34],[2],[0,3],[2]])
def bF (r:List bW) (k:ahC) (c:aT):aT:=.seq (.e0 r (some k)) c
def ot (r:List bW) (a:ahA) (k:ahC) (c:aT):aT:=.seq (.h9 r a (some k)) c
abbrev jA (d t:Nat) (o:dU):bW:=⟨some d,o,some (t,true)⟩
abbrev fv (d t:Nat) (o:dU):bW:=⟨some d,o,some (t,false)⟩
abbrev aha (n:Nat) (k:ahC) (f:Func) (c:aT):Prop:=ft ⟨n,k⟩ (f.body.getD .skip)=some c.strip
def Yt:aT:=bF [ji 2 false] [0] (bF [bG 3 0,gK 4 127 3,bG 5 4,jA 6 5 (.gI (.t 0)),⟨some 7,.fa .neq 9 (.t 6) (.c (.str [116,97,117])),some (5,true)⟩,ro 8 (.pick (.t 5) (.t 7) (.c (.bool false))),ep 2 8] [2] .ret)
def Yu:aT:=.seq (bF [bG 35 0,m6 36 35,c_ 37 62 36 2,b5 38 9 37,ro 39 (.fa .eql 9 (.t 38) (.c (.str [116,97,117]))),bG 40 39,jA 41 40 (.gI (.t 0)),jA 42 40 (.jL (.t 41)),jA 43 40 (.gZ 62 (.t 42) 3),jA 44 40 (.e_ 60 (.t 43)),jA 45 40 (.len 60 (.t 44)),jA 46 40 (.fa .gtr 3 (.t 45) (.c (.int .i64 0))),ro 47 (.pick (.t 40) (.t 46) (.c (.bool false))),bG 48 47,fv 49 48 (.gI (.t 0)),fv 50 48 (.jL (.t 49)),fv 51 48 (.gZ 62 (.t 50) 2),fv 52 48 (.e_ 9 (.t 51)),⟨some 53,.fa .neq 9 (.t 52) (.c (.str [116,97,117])),some (48,false)⟩,fv 54 48 (.gI (.t 53)),jA 55 54 (.gI (.t 0)),jA 56 54 (.jL (.t 55)),jA 57 54 (.gZ 62 (.t 56) 2),jA 58 54 (.e_ 9 (.t 57)),⟨some 59,.call (.f 88) [(.t 58)],some (54,true)⟩,jA 60 54 (.un .not (.t 59)),fv 61 48 (.pick (.t 54) (.t 60) (.c (.bool false))),ro 62 (.pick (.t 48) (.c (.bool true)) (.t 61)),bG 63 62,fv 64 63 (.gI (.t 0)),fv 65 63 (.jL (.t 64)),fv 66 63 (.gZ 62 (.t 65) 3),fv 67 63 (.e_ 60 (.t 66)),fv 68 63 (.len 60 (.t 67)),fv 69 63 (.fa .gtr 3 (.t 68) (.c (.int .i64 2))),ro 70 (.pick (.t 63) (.c (.bool true)) (.t 69))] [0,5,70] (.cond (.t 70) (bF [ji 4 false] [4] .ret) .skip)) (bF [bG 71 0,m6 72 71,c_ 73 62 72 3,b5 74 60 73,bG 75 5,kH 76 109 74 75,bG 77 76,jA 78 77 (.gI (.t 0)),jA 79 77 (.jL (.t 78)),jA 80 77 (.gZ 62 (.t 79) 4),jA 81 77 (.e_ 60 (.t 80)),jA 82 77 (.gI (.t 5)),⟨some 83,.call (.f 109) [(.t 81),(.t 82)],some (77,true)⟩,ro 84 (.pick (.t 77) (.t 83) (.c (.bool false))),ep 4 84] [4] .ret)
def Yv:aT:=bF [bG 12 1,bG 13 0,m6 14 13,c_ 15 62 14 0,b5 16 22 15,kp 17 22 16,kq 18 .add 2 12 17,ep 5 18] [0,1,5] (.seq (bF [bG 19 0,m6 20 19,c_ 21 62 20 1,b5 22 59 21,bG 23 5,ro 24 (.call (.f 108) [(.t 22),(.t 23),(.c (.int .i64 60))]),s_ 25 24,bG 26 25,fv 27 26 (.gI (.t 0)),fv 28 26 (.jL (.t 27)),fv 29 26 (.gZ 62 (.t 28) 4),fv 30 26 (.e_ 60 (.t 29)),fv 31 26 (.len 60 (.t 30)),fv 32 26 (.gI (.t 1)),fv 33 26 (.fa .neq 2 (.t 31) (.t 32)),ro 34 (.pick (.t 26) (.c (.bool true)) (.t 33))] [0,5,34] (.cond (.t 34) (bF [ji 4 false] [4] .ret) .skip)) Yu)
def Yw:aT:=bF [ji 4 false] [0,1] (.seq (bF [bG 6 0,m6 7 6,c_ 8 62 7 0,b5 9 22 8,gK 10 107 9,hJ 11 .eql 2 10 0] [0,1,11] (.cond (.t 11) (bF [ji 4 false] [4] .ret) .skip)) Yv)
noncomputable def vj:aT:=cB (cA 51 [0] Tryz.f26 [[0],[0,29],[2],[0,3],[0,3,36],[0,3,50],[2],[0,3],[2]])
noncomputable def Yx:aT:=cB (cA 101 [0] Tryz.f43 [[0],[0,8],[2],[0,3],[0,3,12],[0,3,4],[0,3,4,41],[2],[0,3,4,76],[2],[0,3,4,5],[0,3,4,5,80],[0,3,4,5,100],[2],[0,3,4,5],[0,3],[2]])
noncomputable def Yy:aT:=cB (cA 6 [0] Tryz.f57 [[0],[2]])
noncomputable def Yz:aT:=cB (cA 6 [0] Tryz.f111 [[0],[2]])
noncomputable def YA:aT:=cB (cA 21 [0] Tryz.f185 [[0],[0,3],[0,3,4],[0,3,4,9],[0,3,4],[0,3,4],[2]])
noncomputable def YB:aT:=cB (cA 32 [0] Tryz.f165 [[0,2],[0,2,3],[0,2,3],[2,3],[2]])
noncomputable def YC:aT:=cB (cA 42 [0,1,2] Tryz.f166 [[0,1,2],[1,2,7],[1,2,7,8],[1,2,7,8,14],[1,2,7,8,31],[1,2,7,8],[1,2,7,8],[6]])
noncomputable def YD:aT:=cB (cA 67 [0,1,2] Tryz.f128 [[0,1,2,6],[0,1,2,6,7],[0,1,2,6,7],[0,1,2,6,7,8],[0,1,2,6,7,8,26],[0,1,2,6,7,8],[0,1,2,6,7,8],[0,1,2,6,7,9],[0,1,2,6,7,9,49],[0,1,2,6,7,9],[0,1,2,6,7,9],[6]])
noncomputable def YE:aT:=cB (cA 6 [0] Tryz.f167 [[0],[2]])
noncomputable def YF:aT:=cB (cA 21 [0,1] Tryz.f129 [[0,1],[0,1,5],[0,1,5,6],[0,1,5,6,10],[0,1,5,6],[0,1,5,6],[4]])
noncomputable def YG:aT:=cB (cA 111 [0,1] Tryz.f89 [[0,1,4],[0,1,4,5],[0,1,4,5],[0,1,4,5,6],[0,1,4,5,6,38],[0,1,4,5,6,7],[0,1,4,5,6,7],[0,1,4,5,6],[0,1,4,5,6],[0,1,4,5,8],[0,1,4,5,8,81],[0,1,4,5,8,9],[0,1,4,5,8,9],[0,1,4,5,8],[0,1,4,5,8],[4]])
noncomputable def YH:aT:=cB (cA 42 [0,1,2] Tryz.f90 [[0,1,2],[0,1,2,10],[6],[0,1,2,7],[0,1,2,7,18],[0,1,2,7,36],[6],[0,1,2,7],[6]])
noncomputable def YI:aT:=cB (cA 33 [0] Tryz.f130 [[0],[0,7],[2],[0,3],[0,3,4],[0,3,4,14],[0,3,4,21],[0,3,4],[0,3,4],[0,3,4],[2]])
def YJ:aT:=.cond (.t 69) .skip (.exit 0)
def YK:aT:=.e0 [bG 80 16,bG 81 18,c_ 82 62 14 3,b5 83 60 82,bG 84 17,o4 85 60 83 84,b5 86 59 85,oa 87 59 59 81 86,o5 88 60 87,oa 89 60 60 80 88,ep 16 89] (some [0,1,2,3,10,12,14,15,16,17])
def YL:aT:=.e0 [bG 70 17,hJ 71 .add 3 70 1,ep 17 71] (some [0,1,2,3,10,12,14,15,16,17])
def YM:aT:=.seq (.block 1 (bF [ro 72 (.d_ 102 [(0,(.c (.int .i64 2))),(1,(.c (.int .i64 3)))]),o5 73 59 72,c_ 74 62 12 3,b5 75 60 74,bG 76 17,o4 77 60 75 76,b5 78 59 77,oa 79 59 59 73 78,ep 18 79] [0,1,2,3,10,12,14,15,16,17,18] YK)) YL
def Oi:aT:=.seq (bF [bG 65 17,c_ 66 62 12 3,b5 67 60 66,kp 68 60 67,kq 69 .lss 3 65 68] [0,1,2,3,10,12,14,15,16,17,69] YJ) YM
def YN:aT:=.block 0 (.loop Oi)
def YO:aT:=bF [b5 99 62 15,gn 62 10 99] [0,1,2,3,10] .ret
def YP:aT:=bF [c_ 93 62 12 4,b5 94 60 93,c_ 95 62 14 4,b5 96 60 95,oa 97 60 60 94 96,c_ 98 62 15 4,gn 60 98 97] [0,1,2,3,10,15] YO
def YQ:aT:=bF [bG 90 16,gK 91 130 90,c_ 92 62 15 1,gn 59 92 91] [0,1,2,3,10,12,14,15] YP
def YR:aT:=.seq (bF [qX 17 0] [0,1,2,3,10,12,14,15,16,17] YN) YQ
def YS:aT:=bF [c_ 60 62 12 1,b5 61 59 60,c_ 62 62 14 1,b5 63 59 62,ro 64 (.c5 60 2 [(0,(.t 61)),(1,(.t 63))]),ep 16 64] [0,1,2,3,10,12,14,15,16] YR
def YT:aT:=.seq (.i1 (wE aj [bG 51 4,hM,hM,hM,hM,oa 56 22 22 53 55,hM,hM,ro 59 (.d_ 62 [(2,(.t 51)),(0,(.t 56)),(3,(.t 58))]),hL 15 62,gn 62 15 59] [[],[],[1],[],[3],[2,4],[],[6],[0,5,7],[],[9,8,5,0,1,2,3,4,5,6,7,8,9]] [⟨1,2,52,53,12,0,0,62,22⟩,⟨3,4,54,55,14,0,0,62,22⟩,⟨6,7,57,58,12,3,3,62,60⟩] (td 100 [0,1,2,3,4,10,53,55,58]) [12,14] [0,1,2,3,10,12,14,15]) (Gr [bG 51 4,c_ 52 62 12 0,b5 53 22 52,c_ 54 62 14 0,b5 55 22 54,oa 56 22 22 53 55,c_ 57 62 12 3,b5 58 60 57,ro 59 (.d_ 62 [(2,(.t 51)),(0,(.t 56)),(3,(.t 58))]),hL 15 62,gn 62 15 59] [[],[],[1],[],[3],[2,4],[],[6],[0,5,7],[],[9,8,5,0,1,2,3,4,5,6,7,8,9]])) YS
def YU:aT:=bF [bG 44 11,bG 45 2,m6 46 45,c_ 47 62 46 0,b5 48 22 47,kp 49 22 48,wq 50 128 13 44 49,hL 14 62,gn 62 14 50] [0,1,2,3,4,10,12,14] YT
def YV:aT:=bF [bG 38 3,bG 39 0,m6 40 39,c_ 41 29 40 0,b5 42 2 41,ro 43 (.call (.f 128) [(.t 38),(.c (.int .i64 0)),(.t 42)]),hL 13 62,gn 62 13 43] [0,1,2,3,4,10,11,12,13] YU
def YW:aT:=ot [bG 28 2,bG 29 0,m6 30 29,c_ 31 29 30 0,b5 32 2 31,bG 33 1,m6 34 33,c_ 35 29 34 0,b5 36 2 35,wq 37 128 28 32 36,hL 12 62,gn 62 12 37] [[],[],[1],[2],[3],[],[5],[6],[7],[0,4,8],[],[10,9,9,0,1,2,3,4,5,6,7,8,9,10]] [0,1,2,3,4,10,11,12] YV
def YX:aT:=ot [bG 19 0,m6 20 19,c_ 21 29 20 0,b5 22 2 21,bG 23 1,m6 24 23,c_ 25 29 24 0,b5 26 2 25,kq 27 .add 2 22 26,ep 11 27] [[],[0],[1],[2],[],[4],[5],[6],[3,7],[8,0,1,2,3,4,5,6,7,8]] [0,1,2,3,4,10,11] YW
def Oj:aT:=bF [hL 10 62] [0,1,2,3,4,10] YX
theorem YY:Oj.n5 (zj aj (mZ (Tryz.f91.body.getD .skip))):=And.intro (True.intro) (And.intro (True.intro) (And.intro (True.intro) (And.intro (True.intro) (And.intro (True.intro) (And.intro (⟨_,_,_,_,_,_,_,rfl,rfl,NY rfl rfl rfl rfl rfl (by decide) rfl (by kernel_rfl) (by kernel_rfl) (by decide) rfl rfl⟩) (And.intro (True.intro) (And.intro (And.intro (True.intro) (And.intro (And.intro (True.intro) (And.intro (True.intro) (True.intro))) (And.intro (And.intro (True.intro) (True.intro)) (True.intro)))) (And.intro (True.intro) (And.intro (True.intro) (And.intro (True.intro) (True.intro)))))))))))
theorem YZ:ft ⟨100,[0,1,2,3,4]⟩ (Tryz.f91.body.getD .skip)=some Oj.strip:=by kernel_rfl
def Y0:aT:=.seq (bF [bG 55 13,ro 56 (.fa .eql 9 (.t 55) (.c (.str []))),bG 57 56,fv 58 57 (.gZ 62 (.t 11) 3),fv 59 57 (.e_ 60 (.t 58)),fv 60 57 (.len 60 (.t 59)),fv 61 57 (.gZ 62 (.t 12) 3),fv 62 57 (.e_ 60 (.t 61)),fv 63 57 (.len 60 (.t 62)),fv 64 57 (.fa .neq 3 (.t 60) (.t 63)),ro 65 (.pick (.t 57) (.c (.bool true)) (.t 64))] [0,1,2,6,8,9,10,11,12,13,65] (.cond (.t 65) (.exit 3) .skip)) (ot [c_ 66 29 8 2,b5 67 27 66,bG 68 0,bG 69 1,bG 70 13,ro 71 (.call (.f 91) [(.t 68),(.t 69),(.t 11),(.t 12),(.t 70)]),o5 72 27 71,oa 73 27 27 67 72,c_ 74 29 8 2,gn 27 74 73] [[],[0],[],[],[],[2,3,4],[5],[1,6,5],[0,1,2,3,4,5,6,7],[8,7,7,0,1,2,3,4,5,6,7]] [0,1,2,6,8,9,10] (bF [c_ 75 29 8 2,b5 76 27 75,kp 77 27 76,hJ 78 .gtr 3 77 60] [0,1,2,6,8,9,10,78] (.cond (.t 78) (bF [ro 79 (.d_ 29 []),gn 29 6 79,ji 7 false] [0,1,2,6,7] .ret) .skip)))
def Ok:aT:=.e0 [bG 33 10,hJ 34 .add 3 33 1,ep 10 34] (some [0,1,2,6,8,9,10])
def Ol:aT:=.seq (bF [bG 26 10,bG 27 1,m6 28 27,c_ 29 29 28 2,b5 30 27 29,kp 31 27 30,kq 32 .lss 3 26 31] [0,1,2,6,8,9,10,32] (.cond (.t 32) .skip (.exit 2))) (.seq (.block 3 (bF [bG 35 0,m6 36 35,c_ 37 29 36 2,b5 38 27 37,bG 39 9,o4 40 27 38 39,b5 41 62 40,hL 11 62,gn 62 11 41] [0,1,2,6,8,9,10,11] (bF [bG 42 1,m6 43 42,c_ 44 29 43 2,b5 45 27 44,bG 46 10,o4 47 27 45 46,b5 48 62 47,hL 12 62,gn 62 12 48] [0,1,2,6,8,9,10,11,12] (bF [bG 49 2,c_ 50 62 11 2,b5 51 9 50,c_ 52 62 12 2,b5 53 9 52,wq 54 90 49 51 53,ep 13 54] [0,1,2,6,8,9,10,11,12,13] Y0)))) Ok)
def Om:aT:=.seq (bF [bG 17 9,bG 18 0,m6 19 18,c_ 20 29 19 2,b5 21 27 20,kp 22 27 21,kq 23 .lss 3 17 22] [0,1,2,6,8,9,23] (.cond (.t 23) .skip (.exit 0))) (.seq (.block 1 (bF [qX 10 0] [0,1,2,6,8,9,10] (.block 2 (.loop Ol)))) (.e0 [bG 24 9,hJ 25 .add 3 24 1,ep 9 25] (some [0,1,2,6,8,9])))
def Y1:aT:=bF [hL 6 29,ji 7 false] [0,1,2,6] (bF [bG 14 0,bG 15 1,kH 16 89 14 15,hL 8 29,gn 29 8 16] [0,1,2,6,8] (.seq (bF [qX 9 0] [0,1,2,6,8,9] (.block 0 (.loop Om))) (ot [b5 80 29 8,gK 81 26 8,gn 29 6 80,ep 7 81] [[],[],[0,1,0],[1,2,0,1,2]] [0,1,2,6,7] .ret)))
noncomputable def Y2:aT:=cB (cA 30 [0,1,2] Tryz.f17 [[2,3,4,6],[2,3,4,6,15],[2,6,7],[2,3,4,6,19],[2,6,7],[2,6,8,9],[2,6,8,27],[2,6,7],[2,6,7]])
noncomputable def Y3:aT:=cB (cA 15 [0,1,2] Tryz.f61 [[0,1,2],[6]])
noncomputable def Y4:aT:=cB (cA 5 [0] Tryz.f156 [[0],[2]])
noncomputable def Y5:aT:=cB (cA 6 [0] Tryz.f155 [[0],[2]])
noncomputable def Y6:aT:=cB (cA 19 [0,1] Tryz.f121 [[0,1],[0,1,7,8],[0,1,7,8,9],[0,1,5,7,8],[0,1,5,7,8,16],[4],[0,1,7,8],[4]])
noncomputable def Y7:aT:=cB (cA 9 [0,1] Tryz.f154 [[0,1],[4]])
noncomputable def Y8:aT:=cB (cA 6 [0] Tryz.f114 [[0],[2]])
noncomputable def Y9:aT:=cB (cA 14 [0,1] Tryz.f62 [[1,2],[4]])
noncomputable def Y_:aT:=cB (cA 29 [0] Tryz.f116 [[1],[1,3],[1,3,7,8,9],[1,3,7,8,9,10],[1,3,5,7,8,9],[1,3,5,7,8,9,15],[2],[1,3,7,8,9],[1,3,7,8,9],[2]])
noncomputable def Za:aT:=cB (cA 9 [0] Tryz.f168 [[0],[2]])
noncomputable def Zb:aT:=cB (cA 42 [0] Tryz.f131 [[0],[0,6,7],[0,6,7,8],[0,3,6,7],[0,3,4,6,7],[0,6,7,32],[2],[0,6,7],[2]])
def Zc:aT:=bF [ji 2 false] [0] (bF [bG 3 0,gK 4 131 3,bG 5 4,jA 6 5 (.gI (.t 0)),⟨some 7,.fa .neq 9 (.t 6) (.c (.str [116,97,117])),some (5,true)⟩,ro 8 (.pick (.t 5) (.t 7) (.c (.bool false))),ep 2 8] [2] .ret)
def On:aT:=bF [bG 26 0,ep 4 26] [4] .ret
def Oo:aT:=.seq (bF [bG 8 1,bG 9 0,ro 10 (.cap 60 (.t 9)),bG 11 0,kp 12 60 11,kq 13 .sub 3 10 12,kq 14 .sub 3 8 13,ep 1 14] [0,1] (bF [bG 15 1,hJ 16 .gtr 3 15 0] [0,1,16] (.cond (.t 16) (.e0 [bG 17 0,bG 18 0,ro 19 (.cap 60 (.t 18)),ro 20 (.fW 60 (.t 17) none (some (.t 19))),bG 21 1,⟨some 22,.iE 60 3 (.t 20) (.t 21),none⟩,bG 23 0,kp 24 60 23,ro 25 (.fW 60 (.t 22) none (some (.t 24))),ep 0 25] (some [0])) .skip))) On
def Zd:aT:=bF [uQ 4] [0,1] (.seq (bF [bG 5 1,hJ 6 .lss 3 5 0] [0,1,6] (.cond (.t 6) (.e0 [ro 7 (.bad),⟨none,.bad,none⟩] (some [0,1])) .skip)) Oo)
noncomputable def Ze:aT:=cB (cA 36 [0] Tryz.f102 [[0],[0,3],[0,3,9,10,11],[0,3,9,10,11,12],[0,3,5,9,10,11],[0,3,9,10,11],[0,3,9,10,11,20],[0,3,9,10,11],[0,3,9,10,11],[0,6],[6,25,26,27],[6,25,26,27,28],[6,8,25,26,27],[6,25,26,27],[6,25,26,27],[2]])
def Zf:aT:=bF [ro 1 (.g7 62 (.t 0)),uQ 2] [1] (bF [c_ 3 62 1 1,b5 4 59 3,⟨some 5,.shr (.c5 60 1 [(0,(.t 4))]),none⟩,c_ 6 62 1 3,b5 7 60 6,c_ 8 62 1 4,b5 9 60 8,⟨some 10,.shr (.c5 161 3 [(0,(.t 5)),(1,(.t 7)),(2,(.t 9))]),none⟩,gK 11 102 10,ep 2 11] [2] .ret)
noncomputable def Zg:aT:=cB (cA 29 [0,1] Tryz.f158 [[1,2],[1,2,6],[1,2,6,7],[4],[1,2,6,12],[4],[2,6,19],[4],[2,24],[4],[4]])
noncomputable def Zh:aT:=cB (cA 9 [0] Tryz.f159 [[1],[4],[4,5],[2],[7],[2],[2]])
noncomputable def Zi:aT:=cB (cA 47 [0,1,2] Tryz.f120 [[0,1,2],[0,1,24],[6],[0,1,7],[1,7,25,26,27],[1,7,25,26,27,28],[1,7,9,25,26,27],[1,7,9,25,26,27,38],[6],[1,7,25,26,27],[1,7,25,26,27],[6]])
noncomputable def Zj:aT:=cB (cA 13 [0,1,2] Tryz.f119 [[0,1,2],[4]])
noncomputable def Zk:aT:=cB (cA 19 [0,1] Tryz.f157 [[0,1],[0,1,7,8],[0,1,7,8,9],[0,1,5,7,8],[0,1,5,7,8,16],[4],[0,1,7,8],[4]])
noncomputable def Zl:aT:=cB (cA 9 [0,1] Tryz.f117 [[0,1],[4]])
def Zm:aT:=bF [bG 19 5,hJ 20 .gtr 3 19 0,bG 21 20,jA 22 21 (.gZ 62 (.t 2) 2),jA 23 21 (.e_ 9 (.t 22)),⟨some 24,.fa .eql 9 (.t 23) (.c (.str [116,97,117])),some (21,true)⟩,jA 25 21 (.gI (.t 24)),fv 26 25 (.gI (.t 5)),fv 27 25 (.fa .gtr 3 (.t 26) (.c (.int .i64 2))),jA 28 21 (.pick (.t 25) (.c (.bool true)) (.t 27)),ro 29 (.pick (.t 21) (.t 28) (.c (.bool false))),bG 30 29,fv 31 30 (.gZ 62 (.t 2) 2),fv 32 30 (.e_ 9 (.t 31)),⟨some 33,.fa .neq 9 (.t 32) (.c (.str [116,97,117])),some (30,false)⟩,fv 34 30 (.gI (.t 33)),jA 35 34 (.gZ 62 (.t 2) 2),jA 36 34 (.e_ 9 (.t 35)),⟨some 37,.call (.f 92) [(.t 36)],some (34,true)⟩,jA 38 34 (.un .not (.t 37)),fv 39 30 (.pick (.t 34) (.t 38) (.c (.bool false))),ro 40 (.pick (.t 30) (.c (.bool true)) (.t 39))] [2,3,40] (.cond (.t 40) (bF [ji 4 false] [4] .ret) .skip)
def Zn:aT:=bF [ro 2 (.g7 62 (.t 0)),ro 3 (.g7 2 (.t 1)),ji 4 false] [2,3] (.seq (bF [b5 6 62 2,gK 7 116 6,s_ 8 7,bG 9 8,fv 10 9 (.gZ 62 (.t 2) 4),fv 11 9 (.e_ 60 (.t 10)),fv 12 9 (.len 60 (.t 11)),fv 13 9 (.e_ 2 (.t 3)),fv 14 9 (.fa .neq 2 (.t 12) (.t 13)),ro 15 (.pick (.t 9) (.c (.bool true)) (.t 14))] [2,3,15] (.cond (.t 15) (bF [ji 4 false] [4] .ret) .skip)) (.seq (bF [c_ 16 62 2 3,b5 17 60 16,kp 18 60 17,ep 5 18] [2,3,5] Zm) (bF [b5 41 62 2,gK 42 118 41,ro 43 (.mV 119 [(.t 3),(.t 2)]),kH 44 117 42 43,s_ 45 44,ep 4 45] [4] .ret)))
noncomputable def Zo:aT:=cB (cA 9 [0,1] Tryz.f64 [[1,2],[3]])
noncomputable def Zp:aT:=cB (cA 19 [0,1] Tryz.f115 [[0,1],[0,1,7,8],[0,1,7,8,9],[0,1,5,7,8],[0,1,5,7,8,16],[4],[0,1,7,8],[4]])
noncomputable def Iw:aT:=cB (cA 9 [0,1] Tryz.f63 [[0,1],[4]])
noncomputable def Zq:aT:=cB (cA 25 [0] Tryz.f32 [[1],[1,19],[2],[2]])
noncomputable def Zr:aT:=cB (cA 6 [0] Tryz.f186 [[0],[2]])
noncomputable def Zs:aT:=cB (cA 20 [0,1] Tryz.f169 [[0,1],[0,1,5],[0,1,5,6],[0,1,6,11],[12],[4],[4],[0,1,13],[4],[0,1,16],[4],[19],[4],[4]])
noncomputable def Zt:aT:=cB (cA 36 [0,1] Tryz.f132 [[0,1],[0,1,9,10,11],[0,1,9,10,11,12],[0,1,5,6,9,10,11],[0,1,5,6,9,10,11,19],[4],[0,1,6,7,9,10,11],[0,1,8,9,10,11],[0,1,8,9,10,11,28],[4],[0,1,9,10,11],[35],[4],[4]])
noncomputable def Zu:aT:=cB (cA 16 [0,1] Tryz.f93 [[2,3],[4]])
noncomputable def Zv:aT:=cB (cA 16 [0,1] Tryz.f95 [[1,2],[3]])
noncomputable def Zw:aT:=cB (cA 19 [0,1] Tryz.f133 [[0,1],[0,1,7,8],[0,1,7,8,9],[0,1,5,7,8],[0,1,5,7,8,16],[4],[0,1,7,8],[4]])
noncomputable def Zx:aT:=cB (cA 9 [0,1] Tryz.f94 [[0,1],[4]])
noncomputable def Zy:aT:=cB (cA 56 [0] Tryz.f46 [[0],[0,5,6,7],[0,5,6,7,8],[0,3,4,5,6,7],[0,4,5,6,7,48],[2],[0,5,6,7,51],[2],[0,5,6,7],[2]])
def Oq:aT:=bF [bG 26 0,ep 4 26] [4] .ret
def Ot:aT:=.seq (bF [bG 8 1,bG 9 0,ro 10 (.cap 22 (.t 9)),bG 11 0,kp 12 22 11,kq 13 .sub 3 10 12,kq 14 .sub 3 8 13,ep 1 14] [0,1] (bF [bG 15 1,hJ 16 .gtr 3 15 0] [0,1,16] (.cond (.t 16) (.e0 [bG 17 0,bG 18 0,ro 19 (.cap 22 (.t 18)),ro 20 (.fW 22 (.t 17) none (some (.t 19))),bG 21 1,⟨some 22,.iE 22 3 (.t 20) (.t 21),none⟩,bG 23 0,kp 24 22 23,ro 25 (.fW 22 (.t 22) none (some (.t 24))),ep 0 25] (some [0])) .skip))) Oq
def Zz:aT:=bF [uQ 4] [0,1] (.seq (bF [bG 5 1,hJ 6 .lss 3 5 0] [0,1,6] (.cond (.t 6) (.e0 [ro 7 (.bad),⟨none,.bad,none⟩] (some [0,1])) .skip)) Ot)
noncomputable def ZA:aT:=cB (cA 36 [0] Tryz.f134 [[0],[0,3],[0,3,9,10,11],[0,3,9,10,11,12],[0,3,5,9,10,11],[0,3,9,10,11],[0,3,9,10,11,20],[0,3,9,10,11],[0,3,9,10,11],[0,6],[6,25,26,27],[6,25,26,27,28],[6,8,25,26,27],[6,25,26,27],[6,25,26,27],[2]])
noncomputable def ZB:aT:=cB (cA 6 [0] Tryz.f81 [[0],[2]])
noncomputable def ZC:aT:=cB (cA 8 [0] Tryz.f68 [[0],[0,4],[2],[2]])
noncomputable def ZD:aT:=cB (cA 13 [0,1,2] Tryz.f171 [[0,1,2],[0,2,7],[4],[4]])
noncomputable def ZE:aT:=cB (cA 31 [0,1] Tryz.f76 [[0,1],[0,1,5],[1,5,9,10,11],[1,5,9,10,11,12],[1,5,7,9,10,11],[1,5,7,8,9,10,11],[1,5,7,8,9,10,11,17],[1,5,7,8,9,10,11],[1,5,7,8,9,10,11,23],[1,5,8,9,10,11],[1,5,9,10,11],[1,5,9,10,11],[4]])
noncomputable def ZF:aT:=cB (cA 10 [0,1,2] Tryz.f136 [[0,4,5],[6]])
noncomputable def ZG:aT:=cB (cA 13 [0,1,2,3] Tryz.f135 [[1,2,3],[6]])
noncomputable def ZH:aT:=cB (cA 23 [0,1,2] Tryz.f75 [[0,1,2],[0,1,2,5],[1,2,5,8,9,10],[1,2,5,8,9,10,11],[1,2,5,7,8,9,10],[1,2,5,8,9,10],[1,2,5,8,9,10],[4]])
def ZI:aT:=.h9 [c_ 23 29 5 2,b5 24 27 23,c_ 25 62 7 0,b5 26 22 25,gK 27 68 26,b5 28 64 3,b5 29 62 7,c_ 30 62 7 1,b5 31 59 30,ro 32 (.call (.t 28) [(.t 29),(.t 31)]),c_ 33 62 7 2,b5 34 9 33,bG 35 8,c_ 36 62 7 3,b5 37 60 36,ro 38 (.call (.t 35) [(.t 37)]),bG 39 8,c_ 40 62 7 4,b5 41 60 40,ro 42 (.call (.t 39) [(.t 41)]),ro 43 (.d_ 62 [(0,(.t 27)),(1,(.t 32)),(2,(.t 34)),(3,(.t 38)),(4,(.t 42))]),o5 44 27 43,oa 45 27 27 24 44,c_ 46 29 5 2,gn 27 46 45] [[],[0],[],[2],[3],[],[],[],[7],[5,6,8,4],[],[10],[],[],[13],[12,14,9],[],[],[17],[16,18,15],[4,9,11,15,19],[20],[1,21,19],[0,1,2,3,4,5,6,7,8,9,10,11,12,13,14,15,16,17,18,19,20,21,22],[23,22,22,0,1,2,3,4,5,6,7,8,9,10,11,12,13,14,15,16,17,18,19,20,21,22]] (some [3,4,5,16,17,18])
def Ou:aT:=bF [kq 19 .lss 3 18 17] [3,4,5,16,17,18,19] (.seq (.cond (.t 19) .skip (.exit 0)) (.seq (.block 1 (bF [o4 20 27 16 18,b5 21 62 20,hL 7 62,gn 62 7 21] [3,4,5,7,16,17,18] (bF [ro 22 (.mV 75 [(.t 3),(.t 7)]),ep 8 22] [3,4,5,7,8,16,17,18] ZI))) (.e0 [hJ 47 .add 3 18 1,bG 18 47] (some [3,4,5,16,17,18]))))
def ZJ:aT:=bF [ro 2 (.g7 29 (.t 0)),⟨some 3,.h8 64 (.t 1),none⟩,hL 4 29] [2,3,4] (ot [c_ 9 29 2 0,b5 10 2 9,c_ 11 29 2 1,b5 12 22 11,gK 13 68 12,ro 14 (.d_ 29 [(0,(.t 10)),(1,(.t 13))]),hL 5 29,gn 29 5 14] [[],[0],[],[2],[3],[1,4],[],[6,5,4,0,1,2,3,4,5,6]] [2,3,4,5] (.seq (bF [c_ 15 29 2 2,b5 16 27 15,kp 17 27 16,uP 18 0] [3,4,5,16,17,18] (.block 0 (.loop Ou))) (bF [b5 48 29 5,gn 29 4 48] [4] .ret)))
noncomputable def ZK:aT:=cB (cA 8 [0] Tryz.f172 [[0],[0,4],[2],[2]])
noncomputable def ZL:aT:=cB (cA 19 [0] Tryz.f137 [[0],[0,3],[3,6,7,8],[3,6,7,8,9],[3,5,6,7,8],[3,6,7,8],[3,6,7,8],[2]])
def Ov:aT:=.e0 [hJ 22 .add 3 11 1,bG 11 22] (some [0,3,9,10,11])
def Ow:aT:=bF [kq 12 .lss 3 11 10] [0,3,9,10,11,12] (.seq (.cond (.t 12) .skip (.exit 0)) (.seq (.block 1 (bF [o4 13 161 9 11,b5 14 60 13,⟨some 5,.mX (.t 14),none⟩] [0,3,5,9,10,11] (bF [bG 15 3,bG 16 5,kp 17 60 16,kq 18 .add 3 15 17,ep 3 18] [0,3,9,10,11] (bF [bG 19 3,hJ 20 .lss 3 19 0] [0,3,9,10,11,20] (.cond (.t 20) (.e0 [ro 21 (.bad),⟨none,.bad,none⟩] (some [0,3,9,10,11])) .skip))))) Ov))
def Ox:aT:=bF [kq 28 .lss 3 27 26] [0,6,25,26,27,28] (.seq (.cond (.t 28) .skip (.exit 2)) (.seq (.block 3 (bF [o4 29 161 25 27,b5 30 60 29,⟨some 8,.mX (.t 30),none⟩] [0,6,8,25,26,27] (.e0 [bG 31 6,bG 32 8,oa 33 60 60 31 32,ep 6 33] (some [0,6,25,26,27])))) (.e0 [hJ 34 .add 3 27 1,bG 27 34] (some [0,6,25,26,27]))))
def ZM:aT:=bF [uQ 2] [0] (bF [qX 3 0] [0,3] (.seq (bF [bG 9 0,kp 10 161 9,uP 11 0] [0,3,9,10,11] (.block 0 (.loop Ow))) (bF [bG 23 3,ro 24 (.call (.f 145) [(.c .ah),(.t 23)]),ep 6 24] [0,6] (.seq (bF [bG 25 0,kp 26 161 25,uP 27 0] [0,6,25,26,27] (.block 2 (.loop Ox))) (bF [bG 35 6,ep 2 35] [0,2] .ret)))))
noncomputable def ZN:aT:=cB (cA 10 [0,1,2] Tryz.f138 [[1,2],[5]])
noncomputable def ZO:aT:=cB (cA 23 [0,1,2] Tryz.f75 [[0,1,2],[0,1,2,5],[1,2,5,8,9,10],[1,2,5,8,9,10,11],[1,2,5,7,8,9,10],[1,2,5,8,9,10],[1,2,5,8,9,10],[4]])
def ZP:aT:=.h9 [c_ 23 29 5 2,b5 24 27 23,c_ 25 62 7 0,b5 26 22 25,gK 27 68 26,b5 28 64 3,b5 29 62 7,c_ 30 62 7 1,b5 31 59 30,ro 32 (.call (.t 28) [(.t 29),(.t 31)]),c_ 33 62 7 2,b5 34 9 33,bG 35 8,c_ 36 62 7 3,b5 37 60 36,ro 38 (.call (.t 35) [(.t 37)]),bG 39 8,c_ 40 62 7 4,b5 41 60 40,ro 42 (.call (.t 39) [(.t 41)]),ro 43 (.d_ 62 [(0,(.t 27)),(1,(.t 32)),(2,(.t 34)),(3,(.t 38)),(4,(.t 42))]),o5 44 27 43,oa 45 27 27 24 44,c_ 46 29 5 2,gn 27 46 45] [[],[0],[],[2],[3],[],[],[],[7],[5,6,8,4],[],[10],[],[],[13],[12,14,9],[],[],[17],[16,18,15],[4,9,11,15,19],[20],[1,21,19],[0,1,2,3,4,5,6,7,8,9,10,11,12,13,14,15,16,17,18,19,20,21,22],[23,22,22,0,1,2,3,4,5,6,7,8,9,10,11,12,13,14,15,16,17,18,19,20,21,22]] (some [3,4,5,16,17,18])
def Oy:aT:=bF [kq 19 .lss 3 18 17] [3,4,5,16,17,18,19] (.seq (.cond (.t 19) .skip (.exit 0)) (.seq (.block 1 (bF [o4 20 27 16 18,b5 21 62 20,hL 7 62,gn 62 7 21] [3,4,5,7,16,17,18] (bF [ro 22 (.mV 75 [(.t 3),(.t 7)]),ep 8 22] [3,4,5,7,8,16,17,18] ZP))) (.e0 [hJ 47 .add 3 18 1,bG 18 47] (some [3,4,5,16,17,18]))))
def ZQ:aT:=bF [ro 2 (.g7 29 (.t 0)),⟨some 3,.h8 64 (.t 1),none⟩,hL 4 29] [2,3,4] (ot [c_ 9 29 2 0,b5 10 2 9,c_ 11 29 2 1,b5 12 22 11,gK 13 68 12,ro 14 (.d_ 29 [(0,(.t 10)),(1,(.t 13))]),hL 5 29,gn 29 5 14] [[],[0],[],[2],[3],[1,4],[],[6,5,4,0,1,2,3,4,5,6]] [2,3,4,5] (.seq (bF [c_ 15 29 2 2,b5 16 27 15,kp 17 27 16,uP 18 0] [3,4,5,16,17,18] (.block 0 (.loop Oy))) (bF [b5 48 29 5,gn 29 4 48] [4] .ret)))
noncomputable def ZR:aT:=cB (cA 98 [0,1] Tryz.f96 [[2,3,4],[2,3,4,5],[2,3,4,5,6,7],[2,3,4,5,6,7,27,28],[2,3,4,5,6,7,27,28,29],[2,3,4,5,6,7,8,27,28],[2,3,4,5,6,7,27,28],[2,3,4,5,6,7,27,28],[2,3,4,5,6,7,38,39],[2,3,4,5,6,7,38,39,40],[2,3,4,5,6,7,9,38,39],[2,3,4,5,6,7,38,39],[2,3,4,5,6,7,38,39],[2,3,4,5,6,7,54,55,56],[2,3,4,5,6,7,54,55,56,57],[2,3,4,5,6,7,11,54,55,56],[2,3,4,5,6,7,11,54,55,56],[2,3,4,5,6,7,54,55,56],[2,3,4,5,6,7,54,55,56],[4,5,6,77,78,79],[4,5,6,77,78,79,80],[4,5,6,13,77,78,79],[4,5,6,13,77,78,79],[4,5,6,77,78,79],[4,5,6,77,78,79],[4]])
noncomputable def ZS:aT:=cB (cA 19 [0,1,2] Tryz.f139 [[1,2,3],[4]])
noncomputable def ZT:aT:=cB (cA 19 [0,1] Tryz.f133 [[0,1],[0,1,7,8],[0,1,7,8,9],[0,1,5,7,8],[0,1,5,7,8,16],[4],[0,1,7,8],[4]])
noncomputable def ZU:aT:=cB (cA 21 [0,1,2] Tryz.f97 [[3,4,5],[3,8],[3,8,14],[6,7],[6,7]])
noncomputable def ZV:aT:=cB (cA 13 [0,1,2,3] Tryz.f140 [[1,2,3],[6]])
noncomputable def ZW:aT:=cB (cA 23 [0,1,2] Tryz.f75 [[0,1,2],[0,1,2,5],[1,2,5,8,9,10],[1,2,5,8,9,10,11],[1,2,5,7,8,9,10],[1,2,5,8,9,10],[1,2,5,8,9,10],[4]])
def ZX:aT:=.h9 [c_ 23 29 5 2,b5 24 27 23,c_ 25 62 7 0,b5 26 22 25,gK 27 68 26,b5 28 64 3,b5 29 62 7,c_ 30 62 7 1,b5 31 59 30,ro 32 (.call (.t 28) [(.t 29),(.t 31)]),c_ 33 62 7 2,b5 34 9 33,bG 35 8,c_ 36 62 7 3,b5 37 60 36,ro 38 (.call (.t 35) [(.t 37)]),bG 39 8,c_ 40 62 7 4,b5 41 60 40,ro 42 (.call (.t 39) [(.t 41)]),ro 43 (.d_ 62 [(0,(.t 27)),(1,(.t 32)),(2,(.t 34)),(3,(.t 38)),(4,(.t 42))]),o5 44 27 43,oa 45 27 27 24 44,c_ 46 29 5 2,gn 27 46 45] [[],[0],[],[2],[3],[],[],[],[7],[5,6,8,4],[],[10],[],[],[13],[12,14,9],[],[],[17],[16,18,15],[4,9,11,15,19],[20],[1,21,19],[0,1,2,3,4,5,6,7,8,9,10,11,12,13,14,15,16,17,18,19,20,21,22],[23,22,22,0,1,2,3,4,5,6,7,8,9,10,11,12,13,14,15,16,17,18,19,20,21,22]] (some [3,4,5,16,17,18])
def Oz:aT:=bF [kq 19 .lss 3 18 17] [3,4,5,16,17,18,19] (.seq (.cond (.t 19) .skip (.exit 0)) (.seq (.block 1 (bF [o4 20 27 16 18,b5 21 62 20,hL 7 62,gn 62 7 21] [3,4,5,7,16,17,18] (bF [ro 22 (.mV 75 [(.t 3),(.t 7)]),ep 8 22] [3,4,5,7,8,16,17,18] ZX))) (.e0 [hJ 47 .add 3 18 1,bG 18 47] (some [3,4,5,16,17,18]))))
def ZY:aT:=bF [ro 2 (.g7 29 (.t 0)),⟨some 3,.h8 64 (.t 1),none⟩,hL 4 29] [2,3,4] (ot [c_ 9 29 2 0,b5 10 2 9,c_ 11 29 2 1,b5 12 22 11,gK 13 68 12,ro 14 (.d_ 29 [(0,(.t 10)),(1,(.t 13))]),hL 5 29,gn 29 5 14] [[],[0],[],[2],[3],[1,4],[],[6,5,4,0,1,2,3,4,5,6]] [2,3,4,5] (.seq (bF [c_ 15 29 2 2,b5 16 27 15,kp 17 27 16,uP 18 0] [3,4,5,16,17,18] (.block 0 (.loop Oz))) (bF [b5 48 29 5,gn 29 4 48] [4] .ret)))
noncomputable def ZZ:aT:=cB (cA 18 [0,1,2,3,4] Tryz.f141 [[1,2,3,4],[7]])
noncomputable def Z0:aT:=cB (cA 23 [0,1,2] Tryz.f75 [[0,1,2],[0,1,2,5],[1,2,5,8,9,10],[1,2,5,8,9,10,11],[1,2,5,7,8,9,10],[1,2,5,8,9,10],[1,2,5,8,9,10],[4]])
def Z1:aT:=.h9 [c_ 23 29 5 2,b5 24 27 23,c_ 25 62 7 0,b5 26 22 25,gK 27 68 26,b5 28 64 3,b5 29 62 7,c_ 30 62 7 1,b5 31 59 30,ro 32 (.call (.t 28) [(.t 29),(.t 31)]),c_ 33 62 7 2,b5 34 9 33,bG 35 8,c_ 36 62 7 3,b5 37 60 36,ro 38 (.call (.t 35) [(.t 37)]),bG 39 8,c_ 40 62 7 4,b5 41 60 40,ro 42 (.call (.t 39) [(.t 41)]),ro 43 (.d_ 62 [(0,(.t 27)),(1,(.t 32)),(2,(.t 34)),(3,(.t 38)),(4,(.t 42))]),o5 44 27 43,oa 45 27 27 24 44,c_ 46 29 5 2,gn 27 46 45] [[],[0],[],[2],[3],[],[],[],[7],[5,6,8,4],[],[10],[],[],[13],[12,14,9],[],[],[17],[16,18,15],[4,9,11,15,19],[20],[1,21,19],[0,1,2,3,4,5,6,7,8,9,10,11,12,13,14,15,16,17,18,19,20,21,22],[23,22,22,0,1,2,3,4,5,6,7,8,9,10,11,12,13,14,15,16,17,18,19,20,21,22]] (some [3,4,5,16,17,18])
def OA:aT:=bF [kq 19 .lss 3 18 17] [3,4,5,16,17,18,19] (.seq (.cond (.t 19) .skip (.exit 0)) (.seq (.block 1 (bF [o4 20 27 16 18,b5 21 62 20,hL 7 62,gn 62 7 21] [3,4,5,7,16,17,18] (bF [ro 22 (.mV 75 [(.t 3),(.t 7)]),ep 8 22] [3,4,5,7,8,16,17,18] Z1))) (.e0 [hJ 47 .add 3 18 1,bG 18 47] (some [3,4,5,16,17,18]))))
def Z2:aT:=bF [ro 2 (.g7 29 (.t 0)),⟨some 3,.h8 64 (.t 1),none⟩,hL 4 29] [2,3,4] (ot [c_ 9 29 2 0,b5 10 2 9,c_ 11 29 2 1,b5 12 22 11,gK 13 68 12,ro 14 (.d_ 29 [(0,(.t 10)),(1,(.t 13))]),hL 5 29,gn 29 5 14] [[],[0],[],[2],[3],[1,4],[],[6,5,4,0,1,2,3,4,5,6]] [2,3,4,5] (.seq (bF [c_ 15 29 2 2,b5 16 27 15,kp 17 27 16,uP 18 0] [3,4,5,16,17,18] (.block 0 (.loop OA))) (bF [b5 48 29 5,gn 29 4 48] [4] .ret)))
def OB:aT:=bF [bG 26 0,ep 4 26] [4] .ret
def OC:aT:=.seq (bF [bG 8 1,bG 9 0,ro 10 (.cap 59 (.t 9)),bG 11 0,kp 12 59 11,kq 13 .sub 3 10 12,kq 14 .sub 3 8 13,ep 1 14] [0,1] (bF [bG 15 1,hJ 16 .gtr 3 15 0] [0,1,16] (.cond (.t 16) (.e0 [bG 17 0,bG 18 0,ro 19 (.cap 59 (.t 18)),ro 20 (.fW 59 (.t 17) none (some (.t 19))),bG 21 1,⟨some 22,.iE 59 3 (.t 20) (.t 21),none⟩,bG 23 0,kp 24 59 23,ro 25 (.fW 59 (.t 22) none (some (.t 24))),ep 0 25] (some [0])) .skip))) OB
def Z3:aT:=bF [uQ 4] [0,1] (.seq (bF [bG 5 1,hJ 6 .lss 3 5 0] [0,1,6] (.cond (.t 6) (.e0 [ro 7 (.bad),⟨none,.bad,none⟩] (some [0,1])) .skip)) OC)
noncomputable def Z4:aT:=cB (cA 36 [0] Tryz.f173 [[0],[0,3],[0,3,9,10,11],[0,3,9,10,11,12],[0,3,5,9,10,11],[0,3,9,10,11],[0,3,9,10,11,20],[0,3,9,10,11],[0,3,9,10,11],[0,6],[6,25,26,27],[6,25,26,27,28],[6,8,25,26,27],[6,25,26,27],[6,25,26,27],[2]])
def Z5:aT:=bF [uQ 4] [0,1] (bF [ro 5 (.d_ 102 [(0,(.c (.int .i64 2))),(1,(.c (.int .i64 3)))]),⟨some 6,.shr (.c5 59 1 [(0,(.t 5))]),none⟩,bG 7 0,bG 8 1,ro 9 (.c5 60 3 [(0,(.t 6)),(1,(.t 7)),(2,(.t 8))]),gK 10 173 9,ep 4 10] [4] .ret)
def Z6:aT:=.seq (bF [bG 3 0,kp 4 60 3] [0,4] (.block 0 (bF [hJ 6 .eql 3 4 0,ep 5 6] [0,4,5] (.cond (.t 5) (bF [ro 7 (.d_ 102 [(0,(.c (.int .i64 0))),(1,(.c (.int .i64 1)))]),o5 8 59 7,ep 2 8] [2] .ret) (bF [hJ 10 .eql 3 4 1,ep 9 10] [0,9] (.cond (.t 9) (bF [bG 11 0,ro 12 (.jr 60 (.t 11) (.c (.int .i64 0))),b5 13 59 12,gK 14 172 13,ep 2 14] [2] .ret) .skip)))))) (ot [ro 15 (.d_ 102 [(0,(.c (.int .i64 2))),(1,(.c (.int .i64 7)))]),⟨some 16,.shr (.c5 59 1 [(0,(.t 15))]),none⟩,bG 17 0,ro 18 (.jr 60 (.t 17) (.c (.int .i64 0))),b5 19 59 18,bG 20 0,ro 21 (.fW 60 (.t 20) (some (.c (.int .i64 1))) none),gK 22 143 21,ro 23 (.c5 60 3 [(0,(.t 16)),(1,(.t 19)),(2,(.t 22))]),gK 24 173 23,ep 2 24] [[],[0],[],[2],[3],[],[5],[6],[1,4,7],[8,7],[9,9,0,1,2,3,4,5,6,7,8,9]] [2] .ret)
def Z7:aT:=bF [uQ 2] [0] Z6
def Z8:aT:=.e0 [bG 53 15,bG 54 17,c_ 55 62 14 3,b5 56 60 55,bG 57 16,o4 58 60 56 57,b5 59 59 58,kH 60 142 54 59,o5 61 60 60,oa 62 60 60 53 61,ep 15 62] (some [4,10,13,14,15,46,47,48])
def Z9:aT:=.e0 [hJ 63 .add 3 48 1,bG 48 63] (some [4,10,13,14,15,46,47,48])
def Z_:aT:=.seq (.block 1 (bF [bG 50 48,o4 51 60 46 48,b5 52 59 51,ep 16 50,⟨some 17,.mX (.t 52),none⟩] [4,10,13,14,15,16,17,46,47,48] Z8)) Z9
def aaa:aT:=.seq (.cond (.t 49) .skip (.exit 0)) Z_
def OD:aT:=bF [kq 49 .lss 3 48 47] [4,10,13,14,15,46,47,48,49] aaa
def aab:aT:=.block 0 (.loop OD)
def aac:aT:=.seq (.i1 (wE aj [hM,hM,hM,hM,ro 68 (.c5 181 2 [(0,(.t 65)),(1,(.t 67))]),gK 69 134 68,bG 70 15,gK 71 143 70,bG 72 4,hM,hM,hM,hM,hM,hM,ro 79 (.c5 161 2 [(0,(.t 76)),(1,(.t 78))]),gK 80 102 79,ro 81 (.d_ 62 [(0,(.t 69)),(1,(.t 71)),(2,(.t 72)),(3,(.t 74)),(4,(.t 80))]),gn 62 10 81] [[],[0],[],[2],[1,3],[4],[],[6,5],[],[],[9],[],[11],[],[13],[12,14],[15,7],[5,7,8,10,16],[17,16,0,1,2,3,4,5,6,7,8,9,10,11,12,13,14,15,16,17]] [⟨0,1,64,65,13,0,0,62,22⟩,⟨2,3,66,67,14,0,0,62,22⟩,⟨9,10,73,74,13,3,3,62,60⟩,⟨11,12,75,76,13,4,4,62,60⟩,⟨13,14,77,78,14,4,4,62,60⟩] (td 82 [4,10,15,47,48,49,65,67,74,76,78]) [] [10]) (Gr [c_ 64 62 13 0,b5 65 22 64,c_ 66 62 14 0,b5 67 22 66,ro 68 (.c5 181 2 [(0,(.t 65)),(1,(.t 67))]),gK 69 134 68,bG 70 15,gK 71 143 70,bG 72 4,c_ 73 62 13 3,b5 74 60 73,c_ 75 62 13 4,b5 76 60 75,c_ 77 62 14 4,b5 78 60 77,ro 79 (.c5 161 2 [(0,(.t 76)),(1,(.t 78))]),gK 80 102 79,ro 81 (.d_ 62 [(0,(.t 69)),(1,(.t 71)),(2,(.t 72)),(3,(.t 74)),(4,(.t 80))]),gn 62 10 81] [[],[0],[],[2],[1,3],[4],[],[6,5],[],[],[9],[],[11],[],[13],[12,14],[15,7],[5,7,8,10,16],[17,16,0,1,2,3,4,5,6,7,8,9,10,11,12,13,14,15,16,17]])) .ret
def aad:aT:=.seq (bF [c_ 45 62 13 3,b5 46 60 45,kp 47 60 46,uP 48 0] [4,10,13,14,15,46,47,48] aab) aac
def aae:aT:=bF [c_ 40 62 13 1,b5 41 59 40,c_ 42 62 14 1,b5 43 59 42,ro 44 (.c5 60 2 [(0,(.t 41)),(1,(.t 43))]),ep 15 44] [4,10,13,14,15] aad
def aaf:aT:=bF [b5 34 29 12,ro 35 (.mV 141 [(.t 6),(.t 7),(.t 5)]),kH 36 35 34 35,ro 37 (.hf 29 (.t 36) 2),ro 38 (.jr 27 (.t 37) (.c (.int .i64 0))),b5 39 62 38,hL 14 62,gn 62 14 39] [4,10,13,14] aae
def aag:aT:=bF [b5 28 29 11,ro 29 (.mV 140 [(.t 5),(.t 6)]),kH 30 35 28 29,ro 31 (.hf 29 (.t 30) 2),ro 32 (.jr 27 (.t 31) (.c (.int .i64 0))),b5 33 62 32,hL 13 62,gn 62 13 33] [4,5,6,7,10,12,13] aaf
def aah:aT:=bF [c_ 23 29 6 0,b5 24 2 23,b5 25 62 8,o5 26 27 25,ro 27 (.d_ 29 [(0,(.t 24)),(2,(.t 26))]),hL 12 29,gn 29 12 27] [4,5,6,7,10,11,12] aag
def aai:aT:=bF [c_ 18 29 5 0,b5 19 2 18,b5 20 62 7,o5 21 27 20,ro 22 (.d_ 29 [(0,(.t 19)),(2,(.t 21))]),hL 11 29,gn 29 11 22] [4,5,6,7,8,10,11] aah
def OE:aT:=bF [ro 5 (.g7 29 (.t 0)),ro 6 (.g7 29 (.t 1)),ro 7 (.g7 62 (.t 2)),ro 8 (.g7 62 (.t 3)),hL 10 62] [4,5,6,7,8,10] aai
theorem aaj:OE.n5 (zj aj (mZ (Tryz.f98.body.getD .skip))):=And.intro (True.intro) (And.intro (True.intro) (And.intro (True.intro) (And.intro (True.intro) (And.intro (True.intro) (And.intro (True.intro) (And.intro (And.intro (True.intro) (And.intro (True.intro) (And.intro (And.intro (True.intro) (True.intro)) (And.intro (And.intro (True.intro) (True.intro)) (True.intro))))) (And.intro (⟨_,_,_,_,_,_,_,rfl,rfl,NY rfl rfl rfl rfl rfl (by decide) rfl (by kernel_rfl) (by kernel_rfl) (by decide) rfl rfl⟩) (True.intro))))))))
theorem aak:ft ⟨82,[0,1,2,3,4]⟩ (Tryz.f98.body.getD .skip)=some OE.strip:=by kernel_rfl
noncomputable def aal:aT:=cB (cA 73 [0,1,2] Tryz.f47 [[2,3,4,6],[3,4,6,7],[3,4,6,7,8],[3,4,6,7,8,21,22,23],[3,4,6,7,8,21,22,23,24],[3,4,6,7,8,10,21,22,23],[3,4,6,7,8,10,21,22,23,28,29,30],[3,4,6,7,8,10,21,22,23,28,29,30,31],[3,4,6,7,8,10,12,21,22,23,28,29,30],[3,4,6,7,8,10,12,13,14,21,22,23,28,29,30],[3,4,6,7,8,10,12,13,21,22,23,28,29,30,58],[3,4,6,7,8,10,21,22,23,28,29,30],[3,4,6,7,8,10,21,22,23,28,29,30],[3,4,6,7,8,21,22,23],[6]])
noncomputable def aam:aT:=cB (cA 33 [0,1,2] Tryz.f19 [[2,3,4,6],[2,3,4,6,9],[6,7],[2,3,4,6,19],[6,7],[6,8],[6,8,30],[6,7],[6,7]])
noncomputable def aan:aT:=cB (cA 26 [0,1] Tryz.f11 [[0,1],[0,1,10],[4],[0,1,5],[0,1,5,14],[0,1,5,25],[4],[0,1,5],[4]])
noncomputable def aao:aT:=cB (cA 15 [0,1] Tryz.f162 [[2,3],[2,3,9],[4],[14],[4],[4]])
noncomputable def aap:aT:=cB (cA 27 [0,1] Tryz.f125 [[0,1],[0,1,10],[4],[0,1,5],[0,1,5,14],[0,1,5,26],[4],[0,1,5],[4]])
noncomputable def aaq:aT:=cB (cA 27 [0,1] Tryz.f126 [[0,1],[0,1,10],[4],[0,1,5],[0,1,5,14],[0,1,5,26],[4],[0,1,5],[4]])
noncomputable def aar:aT:=cB (cA 34 [0,1] Tryz.f83 [[2,3],[2,3,10],[4],[2,3,16],[4],[2,3,21],[4],[2,3,27],[4],[33],[4],[4]])
noncomputable def aas:aT:=cB (cA 27 [0,1] Tryz.f39 [[0,1],[0,1,10],[4],[0,1,5],[0,1,5,14],[0,1,5,26],[4],[0,1,5],[4]])
noncomputable def r9:aT:=cB (cA 22 [0,1] Tryz.f10 [[2,3],[2,3,9],[4],[2,3,15],[4],[21],[4],[4]])
noncomputable def aat:aT:=cB (cA 20 [0,1] Tryz.f48 [[2,3],[2,3,9],[4],[2,3,14],[4],[19],[4],[4]])
noncomputable def aau:aT:=cB (cA 27 [0,1] Tryz.f20 [[0,1],[0,1,10],[4],[0,1,5],[0,1,5,14],[0,1,5,26],[4],[0,1,5],[4]])
noncomputable def aav:aT:=cB (cA 19 [0] Tryz.f13 [[0,1],[0,1,5],[0,1,5,9],[0,1,5],[0,1,5],[0,1,5],[0,4]])
noncomputable def aaw:aT:=cB (cA 27 [0] Tryz.f84 [[0,1],[0,1,5],[0,1,5,9],[0,1,5],[0,1,5],[0,1,5],[0,1,5],[0,1,5],[0,4]])
def OG:aT:=.seq (bF [bG 6 0,hJ 7 .gtr 3 6 0] [0,3,7] (.cond (.t 7) .skip (.exit 0))) (.block 1 (bF [bG 8 0,hJ 9 .rem 3 8 10,ro 10 (.fa .add 3 (.c (.int .i64 48)) (.t 9)),Nt 11 3 5 10,o5 12 129 11,Nt 13 129 9 12,bG 14 3,kq 15 .add 9 13 14,ep 3 15] [0,3] (.e0 [bG 16 0,hJ 17 .quo 3 16 10,ep 0 17] (some [0,3]))))
def aax:aT:=bF [ro 2 (.lW (.c (.str [])))] [0] (.seq (bF [bG 4 0,hJ 5 .leq 3 4 0] [0,5] (.cond (.t 5) (bF [ro 2 (.lW (.c (.str [109,48])))] [2] .ret) .skip)) (bF [ro 3 (.lW (.c (.str [])))] [0,3] (.seq (.block 0 (.loop OG)) (bF [bG 18 3,ro 19 (.fa .add 9 (.c (.str [109])) (.t 18)),ep 2 19] [2] .ret))))
noncomputable def aay:aT:=cB (cA 19 [0] Tryz.f85 [[0,1],[0,1,5],[0,1,5,9],[0,1,5],[0,1,5],[0,4]])
noncomputable def aaz:aT:=cB (cA 49 [0] Tryz.f40 [[0,1],[0,1,5],[0,1,5,9],[0,1,5],[0,1,5],[0,1,5],[0,1,5],[0,1,5],[0,1,5],[0,1,5],[0,4]])
def aaA:aT:=bF [⟨some 2,.h8 29 (.t 0),none⟩,qX 4 0] [0,1,2] (bF [c_ 5 29 2 1,b5 6 22 5,bG 7 1,⟨some 8,.lX (.f 13) [(.t 6),(.t 7)] [2],none⟩,ep 1 8] [0,1,2] (bF [c_ 9 29 2 2,b5 10 27 9,bG 11 1,kH 12 40 10 11,ep 1 12] [0,1] (bF [bG 13 1,ep 4 13] [0,4] .ret)))
noncomputable def aaB:aT:=cB (cA 37 [0] Tryz.f21 [[0,1],[0,1,5],[0,1,5,9],[0,1,5],[0,1,5],[0,1,5],[0,1,5],[0,1,5],[0,1,5],[0,1,5],[0,4]])
noncomputable def aaC:aT:=cB (cA 21 [0] Tryz.f15 [[0,1],[0,1,5],[0,1,5,9],[0,1,5,17],[4],[0,1,5],[0,1,5],[4]])
noncomputable def aaD:aT:=cB (cA 31 [0] Tryz.f86 [[0,1],[0,1,5],[0,1,5,9],[0,1,5,18],[4],[0,1,5],[0,1,5,27],[4],[0,1,5],[0,1,5],[4]])
noncomputable def aaE:aT:=cB (cA 21 [0] Tryz.f87 [[0,1],[0,1,5],[0,1,5,9],[0,1,5],[0,1,5,19],[4],[0,1,5],[4]])
noncomputable def aaF:aT:=cB (cA 59 [0] Tryz.f41 [[0,1],[0,1,5],[0,1,5,9],[0,1,5],[0,1,5,20],[4],[0,1,5],[0,1,5,29],[4],[0,1,5,37],[4],[0,1,5],[0,1,5],[0,1,5,48],[4],[0,1,5],[0,1,5,57],[4],[0,1,5],[4]])
noncomputable def lp:aT:=cB (cA 18 [0] Tryz.f14 [[1,2],[1,2],[1,2,10],[4],[1],[1,16],[4],[4]])
def aaG:aT:=.seq (bF [b5 125 29 18,b5 126 29 8,kH 127 10 125 126,s_ 128 127,bG 129 128,fv 130 129 (.gI (.t 19)),fv 131 129 (.gI (.t 9)),fv 132 129 (.fa .neq 2 (.t 130) (.t 131)),ro 133 (.pick (.t 129) (.c (.bool true)) (.t 132))] [13,16,133] (.cond (.t 133) (bF [ji 6 false] [6] .ret) .skip)) (bF [qX 17 1] [13,16,17] (bF [b5 134 29 13,bG 135 17,kH 136 14 134 135,ep 17 136] [16,17] (.seq (bF [bG 137 17,hJ 138 .lss 3 137 0] [16,17,138] (.cond (.t 138) (bF [ji 6 false] [6] .ret) .skip)) (.seq (bF [bG 139 17,bG 140 16,kq 141 .neq 3 139 140] [141] (.cond (.t 141) (bF [ji 6 false] [6] .ret) .skip)) (bF [ji 6 true] [6] .ret)))))
def aaH:aT:=.seq (bF [bG 110 17,hJ 111 .lss 3 110 0] [2,3,4,8,9,13,16,17,111] (.cond (.t 111) (bF [ji 6 false] [6] .ret) .skip)) (.seq (bF [bG 112 17,bG 113 16,kq 114 .neq 3 112 113] [2,3,4,8,9,13,16,114] (.cond (.t 114) (bF [ji 6 false] [6] .ret) .skip)) (ot [b5 116 25 3,gK 117 8 116,b5 118 25 4,gK 119 8 118,bG 120 2,gK 121 18 120,wq 122 19 117 119 121,⟨some 115,.my (.t 122),none⟩,wt 123 115 0,wt 124 115 1,hL 18 29,gn 29 18 123,ep 19 124] [[],[0],[],[2,1],[],[4,3],[1,3,5,5],[6],[7],[7],[],[10,8,6,0,1,2,3,4,5,6,7,8,10],[9,11,0,1,2,3,4,5,6,7,8,9,10,11]] [8,9,13,16,18,19] aaG))
def aaI:aT:=.seq (bF [bG 91 15,hJ 92 .lss 3 91 0,bG 93 92,fv 94 93 (.e_ 29 (.t 13)),fv 95 93 (.e_ 29 (.t 8)),⟨some 96,.call (.f 10) [(.t 94),(.t 95)],some (93,false)⟩,fv 97 93 (.un .not (.t 96)),ro 98 (.pick (.t 93) (.c (.bool true)) (.t 97)),bG 99 98,fv 100 99 (.gI (.t 14)),fv 101 99 (.gI (.t 9)),fv 102 99 (.fa .neq 2 (.t 100) (.t 101)),ro 103 (.pick (.t 99) (.c (.bool true)) (.t 102))] [2,3,4,8,9,13,103] (.cond (.t 103) (bF [ji 6 false] [6] .ret) .skip)) (bF [qX 16 1] [2,3,4,8,9,13,16] (bF [b5 104 29 13,bG 105 16,kH 106 12 104 105,ep 16 106] [2,3,4,8,9,13,16] (bF [qX 17 1] [2,3,4,8,9,13,16,17] (bF [b5 107 29 13,bG 108 17,kH 109 14 107 108,ep 17 109] [2,3,4,8,9,13,16,17] aaH))))
def aaJ:aT:=.seq (bF [bG 77 12,bG 78 2,gK 79 18 78,kH 80 20 77 79,s_ 81 80] [2,3,4,8,9,10,11,12,13,14,81] (.cond (.t 81) (bF [ji 6 false] [6] .ret) .skip)) (bF [qX 15 1] [2,3,4,8,9,10,11,12,13,14,15] (bF [b5 82 29 10,bG 83 15,kH 84 12 82 83,ep 15 84] [2,3,4,8,9,11,12,13,14,15] (bF [b5 85 29 11,bG 86 15,kH 87 12 85 86,ep 15 87] [2,3,4,8,9,12,13,14,15] (bF [bG 88 12,bG 89 15,kH 90 21 88 89,ep 15 90] [2,3,4,8,9,13,14,15] aaI))))
def aaK:aT:=.seq (bF [b5 58 29 13,b5 59 29 8,kH 60 10 58 59,s_ 61 60,bG 62 61,fv 63 62 (.gI (.t 14)),fv 64 62 (.gI (.t 9)),fv 65 62 (.fa .neq 2 (.t 63) (.t 64)),ro 66 (.pick (.t 62) (.c (.bool true)) (.t 65))] [2,3,4,8,9,10,11,12,13,14,66] (.cond (.t 66) (bF [ji 6 false] [6] .ret) .skip)) (.seq (ot [b5 67 29 10,b5 68 25 3,gK 69 8 68,kH 70 10 67 69,s_ 71 70] [[],[],[1],[0,2,2],[3]] [2,3,4,8,9,10,11,12,13,14,71] (.cond (.t 71) (bF [ji 6 false] [6] .ret) .skip)) (.seq (ot [b5 72 29 11,b5 73 25 4,gK 74 8 73,kH 75 10 72 74,s_ 76 75] [[],[],[1],[0,2,2],[3]] [2,3,4,8,9,10,11,12,13,14,76] (.cond (.t 76) (bF [ji 6 false] [6] .ret) .skip)) aaJ))
def aaL:aT:=ot [b5 36 25 3,gK 37 8 36,b5 38 25 4,gK 39 8 38,bG 40 2,gK 41 18 40,wq 42 17 37 39 41,⟨some 35,.my (.t 42),none⟩,wt 43 35 0,wt 44 35 1,hL 8 29,gn 29 8 43,ep 9 44] [[],[0],[],[2,1],[],[4,3],[1,3,5,5],[6],[7],[7],[],[10,8,6,0,1,2,3,4,5,6,7,8,10],[9,11,0,1,2,3,4,5,6,7,8,9,10,11]] [2,3,4,8,9] (bF [b5 45 25 3,gK 46 8 45,hL 10 29,gn 29 10 46] [2,3,4,8,9,10] (bF [b5 47 25 4,gK 48 8 47,hL 11 29,gn 29 11 48] [2,3,4,8,9,10,11] (bF [bG 49 2,gK 50 18 49,ep 12 50] [2,3,4,8,9,10,11,12] (bF [b5 52 29 10,b5 53 29 11,bG 54 12,wq 55 19 52 53 54,bG 51 55,wt 56 51 0,wt 57 51 1,hL 13 29,gn 29 13 56,ep 14 57] [2,3,4,8,9,10,11,12,13,14] aaK))))
def aaM:aT:=bF [b5 20 25 3,bG 21 7,kH 22 6 20 21,ep 7 22] [2,3,4,7] (.seq (bF [bG 23 7,hJ 24 .lss 3 23 0] [2,3,4,7,24] (.cond (.t 24) (bF [ji 6 true] [6] .ret) .skip)) (bF [b5 25 25 4,bG 26 7,kH 27 6 25 26,ep 7 27] [2,3,4,7] (.seq (bF [bG 28 7,hJ 29 .lss 3 28 0] [2,3,4,7,29] (.cond (.t 29) (bF [ji 6 true] [6] .ret) .skip)) (bF [bG 30 2,bG 31 7,kH 32 16 30 31,ep 7 32] [2,3,4,7] (.seq (bF [bG 33 7,hJ 34 .lss 3 33 0] [2,3,4,34] (.cond (.t 34) (bF [ji 6 true] [6] .ret) .skip)) aaL)))))
def mR:aT:=bF [ro 3 (.g7 25 (.t 0)),ro 4 (.g7 25 (.t 1)),ji 6 false] [2,3,4] (bF [qX 7 1048576] [2,3,4,7] aaM)
def ahb:=PLift.up (And.intro @Bool.not_true @Bool.not_false)
def ahc:=PLift.up (And.intro @length_append.{0} (And.intro @length_cons.{0} (And.intro @length_nil.{0} (And.intro @length_map.{0,0} (And.intro @length_replicate.{0} (And.intro @Nat.zero_add @Nat.add_zero))))))
end Go.Proofs.YtndfcecbamffaaaGreat
