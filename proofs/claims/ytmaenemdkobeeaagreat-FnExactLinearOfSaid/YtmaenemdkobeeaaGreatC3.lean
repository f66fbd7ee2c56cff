/- Part of a proof that a law returns true for every input. No condition. -/
import Derived.Test.YtmaenemdkobeeaaGreatTb
import Derived.Test.YtmaenemdkobeeaaGreatFwL
import Derived.Test.YtmaenemdkobeeaaGreatP3
namespace Go.Proofs.YtmaenemdkobeeaaGreat
open List Option Go.IntKind Nat Or
open Go Go.ek Go.mc
set_option linter.unusedSimpArgs false
def lO (x:iQ):J:=.agg [.int .i64 x.Kind,.int .i64 x.Value]
theorem adP (x:iQ):(lO x).share=lO x:=by
 simp only[lO,dm]
theorem aqg (x:iQ):(lO x).da=true:=by
 simp only[lO,J.da,J.hZ,Bool.and_self]
def kt (x:arP):J:=.slice (x.map lO)
theorem TL (x:arP):(kt x).share=kt x:=by
 simp only[kt,dm, @bn _ lO lO (λ_=>adP _)]
def jE (x:kq):J:=.agg [.int .i64 x.Kind,.int .i64 x.Number,.str x.Name,.slice (x.a9.map kt)]
theorem TM (x:kq):(jE x).share=jE x:=by
 simp only[jE,dm, @bn _ kt kt (λ_=>TL _)]
def jh (x:kr):J:=.agg [.str x.Name,.int .i64 x.bW,.slice (x.Body.map jE)]
theorem TN (x:kr):(jh x).share=jh x:=by
 simp only[jh,dm, @bn _ jE jE (λ_=>TM _)]
def bd (x:Int):J:=.int .i64 x
theorem jF (x:Int):(bd x).share=bd x:=by
 simp only[bd,dm]
theorem Hf (x:Int):(bd x).da=true:=by
 simp only[bd,J.da,J.hZ,Bool.and_self]
def ji (x:ks):J:=.agg [.int .i64 x.gl,.slice (x.e7.map bd)]
theorem TO (x:ks):(ji x).share=ji x:=by
 simp only[ji,dm, @bn _ bd bd (λ_=>jF _)]
def i5 (x:j9):J:=.agg [.str x.Left,.str x.ct,.str x.Result]
theorem TP (x:j9):(i5 x).share=i5 x:=by
 simp only[i5,dm]
theorem aqh (x:j9):(i5 x).da=true:=by
 simp only[i5,J.da,J.hZ,Bool.and_self]
def bj (x:arE):J:=.str x
theorem hH (x:arE):(bj x).share=bj x:=by
 simp only[bj,dm]
theorem TQ (x:arE):(bj x).da=true:=by
 simp only[bj,J.da,J.hZ,Bool.and_self]
def nI (x:nA):J:=.agg [.slice (x.aC.map jh),.slice (x.b7.map ji),.slice (x.hA.map i5),.slice (x.hg.map bj),.slice (x.hh.map bj)]
theorem aqi (x:nA):(nI x).share=nI x:=by
 simp only[nI,dm, @bn _ jh jh (λ_=>TN _), @bn _ ji ji (λ_=>TO _), @bn _ i5 i5 (λ_=>TP _), @bn _ bj bj (λ_=>hH _)]
def MZ (x:arR):J:=.slice (x.map jh)
theorem aqj (x:arR):(MZ x).share=MZ x:=by
 simp only[MZ,dm, @bn _ jh jh (λ_=>TN _)]
def M0 (x:arS):J:=.slice (x.map ji)
theorem aqk (x:arS):(M0 x).share=M0 x:=by
 simp only[M0,dm, @bn _ ji ji (λ_=>TO _)]
def M1 (x:arT):J:=.slice (x.map i5)
theorem aql (x:arT):(M1 x).share=M1 x:=by
 simp only[M1,dm, @bn _ i5 i5 (λ_=>TP _)]
def Dg (x:arD):J:=.slice (x.map bj)
theorem aqm (x:arD):(Dg x).share=Dg x:=by
 simp only[Dg,dm, @bn _ bj bj (λ_=>hH _)]
def M3 (x:arQ):J:=.slice (x.map jE)
theorem aqn (x:arQ):(M3 x).share=M3 x:=by
 simp only[M3,dm, @bn _ jE jE (λ_=>TM _)]
def M4 (x:arN):J:=.slice (x.map kt)
theorem aqo (x:arN):(M4 x).share=M4 x:=by
 simp only[M4,dm, @bn _ kt kt (λ_=>TL _)]
def c3 (x:arG):J:=.slice (x.map bd)
theorem qF (x:arG):(c3 x).share=c3 x:=by
 simp only[c3,dm, @bn _ bd bd (λ_=>jF _)]
def bf (x:aF):J:=.agg [.int .i64 x.Kind,.int .i64 x.Value]
theorem oi (x:aF):(bf x).share=bf x:=by
 simp only[bf,dm]
theorem xz (x:aF):(bf x).da=true:=by
 simp only[bf,J.da,J.hZ,Bool.and_self]
def cy (x:arU):J:=.slice (x.map bf)
theorem rP (x:arU):(cy x).share=cy x:=by
 simp only[cy,dm, @bn _ bf bf (λ_=>oi _)]
def c2 (x:bk):J:=.agg [.int .i64 x.Kind,.int .i64 x.Number,.str x.Name,.slice (x.a9.map cy)]
theorem M5 (x:bk):(c2 x).share=c2 x:=by
 simp only[c2,dm, @bn _ cy cy (λ_=>rP _)]
def br (x:bg):J:=.agg [.str x.Name,.int .i64 x.bW,.slice (x.Body.map c2)]
theorem pR (x:bg):(br x).share=br x:=by
 simp only[br,dm, @bn _ c2 c2 (λ_=>M5 _)]
def c4 (x:arU):J:=.af 2 (x.map bf)
theorem s0 (x:arU):(c4 x).share=cy x:=by
 simp only[c4,cy,dm, @bn _ bf bf (λ_=>oi _)]
theorem xA (x:arU):(c4 x).da=true:=by
 simp only[c4,J.da,J.hZ,Bool.and_self, @iM _ bf (λ_=>xz _)]
def iG (x:bk):J:=.agg [.int .i64 x.Kind,.int .i64 x.Number,.str x.Name,.af 1 (x.a9.map c4)]
theorem M6 (x:bk):(iG x).share=c2 x:=by
 simp only[iG,c2,dm, @bn _ c4 cy (λ_=>s0 _)]
theorem TR (x:bk):(iG x).da=true:=by
 simp only[iG,J.da,J.hZ,Bool.and_self, @iM _ c4 (λ_=>xA _)]
def g4 (x:bg):J:=.agg [.str x.Name,.int .i64 x.bW,.af 4 (x.Body.map iG)]
theorem xB (x:bg):(g4 x).share=br x:=by
 simp only[g4,br,dm, @bn _ iG c2 (λ_=>M6 _)]
theorem TS (x:bg):(g4 x).da=true:=by
 simp only[g4,J.da,J.hZ,Bool.and_self, @iM _ iG (λ_=>TR _)]
def Hg (x:arV):J:=.af 4 (x.map iG)
def Dh (x:arV):J:=.slice (x.map c2)
theorem aqp (x:arV):(Dh x).share=Dh x:=by
 simp only[Dh,dm, @bn _ c2 c2 (λ_=>M5 _)]
theorem aqq (x:arV):(Hg x).share=Dh x:=by
 simp only[Hg,Dh,dm, @bn _ iG c2 (λ_=>M6 _)]
theorem aqr (x:arV):(Hg x).da=true:=by
 simp only[Hg,J.da,J.hZ,Bool.and_self, @iM _ iG (λ_=>TR _)]
def pS (x:arO):J:=.af 1 (x.map c4)
def nc (x:arO):J:=.slice (x.map cy)
theorem adQ (x:arO):(nc x).share=nc x:=by
 simp only[nc,dm, @bn _ cy cy (λ_=>rP _)]
theorem adR (x:arO):(pS x).share=nc x:=by
 simp only[pS,nc,dm, @bn _ c4 cy (λ_=>s0 _)]
theorem aqs (x:arO):(pS x).da=true:=by
 simp only[pS,J.da,J.hZ,Bool.and_self, @iM _ c4 (λ_=>xA _)]
def dF (x:dn):J:=.agg [.int .i64 x.gl,.slice (x.e7.map bd)]
theorem pT (x:dn):(dF x).share=dF x:=by
 simp only[dF,dm, @bn _ bd bd (λ_=>jF _)]
def hi (x:dn):J:=.agg [.int .i64 x.gl,.af 1 (x.e7.map bd)]
theorem xC (x:dn):(hi x).share=dF x:=by
 simp only[hi,dF,dm, @bn _ bd bd (λ_=>jF _)]
theorem TT (x:dn):(hi x).da=true:=by
 simp only[hi,J.da,J.hZ,Bool.and_self, @iM _ bd (λ_=>Hf _)]
def h7 (x:arG):J:=.af 1 (x.map bd)
theorem M7 (x:arG):(h7 x).share=c3 x:=by
 simp only[h7,c3,dm, @bn _ bd bd (λ_=>jF _)]
theorem aqt (x:arG):(h7 x).da=true:=by
 simp only[h7,J.da,J.hZ,Bool.and_self, @iM _ bd (λ_=>Hf _)]
def bL (x:cq):J:=.agg [.str x.Left,.str x.ct,.str x.Result]
theorem lP (x:cq):(bL x).share=bL x:=by
 simp only[bL,dm]
theorem TU (x:cq):(bL x).da=true:=by
 simp only[bL,J.da,J.hZ,Bool.and_self]
def s3 (x:cG):J:=.agg [.af 3 (x.aC.map g4),.af 2 (x.b7.map hi),.af 3 (x.hA.map bL),.af 1 (x.hg.map bj),.af 1 (x.hh.map bj)]
def fF (x:cG):J:=.agg [.slice (x.aC.map br),.slice (x.b7.map dF),.slice (x.hA.map bL),.slice (x.hg.map bj),.slice (x.hh.map bj)]
theorem TV (x:cG):(fF x).share=fF x:=by
 simp only[fF,dm, @bn _ br br (λ_=>pR _), @bn _ dF dF (λ_=>pT _), @bn _ bL bL (λ_=>lP _), @bn _ bj bj (λ_=>hH _)]
theorem aqu (x:cG):(s3 x).share=fF x:=by
 simp only[s3,fF,dm, @bn _ g4 br (λ_=>xB _), @bn _ hi dF (λ_=>xC _), @bn _ bL bL (λ_=>lP _), @bn _ bj bj (λ_=>hH _)]
theorem aqv (x:cG):(s3 x).da=true:=by
 simp only[s3,J.da,J.hZ,Bool.and_self, @iM _ g4 (λ_=>TS _), @iM _ hi (λ_=>TT _), @iM _ bL (λ_=>TU _), @iM _ bj (λ_=>TQ _)]
def Hh (x:arW):J:=.af 3 (x.map g4)
def Di (x:arW):J:=.slice (x.map br)
theorem aqw (x:arW):(Di x).share=Di x:=by
 simp only[Di,dm, @bn _ br br (λ_=>pR _)]
theorem aqx (x:arW):(Hh x).share=Di x:=by
 simp only[Hh,Di,dm, @bn _ g4 br (λ_=>xB _)]
theorem aqy (x:arW):(Hh x).da=true:=by
 simp only[Hh,J.da,J.hZ,Bool.and_self, @iM _ g4 (λ_=>TS _)]
def Hi (x:arX):J:=.af 2 (x.map hi)
def Dj (x:arX):J:=.slice (x.map dF)
theorem aqz (x:arX):(Dj x).share=Dj x:=by
 simp only[Dj,dm, @bn _ dF dF (λ_=>pT _)]
theorem aqA (x:arX):(Hi x).share=Dj x:=by
 simp only[Hi,Dj,dm, @bn _ hi dF (λ_=>xC _)]
theorem aqB (x:arX):(Hi x).da=true:=by
 simp only[Hi,J.da,J.hZ,Bool.and_self, @iM _ hi (λ_=>TT _)]
def Hj (x:arY):J:=.af 3 (x.map bL)
def Dk (x:arY):J:=.slice (x.map bL)
theorem aqC (x:arY):(Dk x).share=Dk x:=by
 simp only[Dk,dm, @bn _ bL bL (λ_=>lP _)]
theorem aqD (x:arY):(Hj x).share=Dk x:=by
 simp only[Hj,Dk,dm, @bn _ bL bL (λ_=>lP _)]
theorem aqE (x:arY):(Hj x).da=true:=by
 simp only[Hj,J.da,J.hZ,Bool.and_self, @iM _ bL (λ_=>TU _)]
def Hk (x:arD):J:=.af 1 (x.map bj)
theorem aqF (x:arD):(Hk x).share=Dg x:=by
 simp only[Hk,Dg,dm, @bn _ bj bj (λ_=>hH _)]
theorem aqG (x:arD):(Hk x).da=true:=by
 simp only[Hk,J.da,J.hZ,Bool.and_self, @iM _ bj (λ_=>TQ _)]
def dO (x:bH):J:=.agg [.af 1 (x.cx.map bd),.af 2 (x.Guard.map bf),.str x.Name,.af 1 (x.a9.map c4),.af 1 (x.Next.map c4)]
def fL (x:bH):J:=.agg [.slice (x.cx.map bd),.slice (x.Guard.map bf),.str x.Name,.slice (x.a9.map cy),.slice (x.Next.map cy)]
theorem Hl (x:bH):(fL x).share=fL x:=by
 simp only[fL,dm, @bn _ bd bd (λ_=>jF _), @bn _ bf bf (λ_=>oi _), @bn _ cy cy (λ_=>rP _)]
theorem oW (x:bH):(dO x).share=fL x:=by
 simp only[dO,fL,dm, @bn _ bd bd (λ_=>jF _), @bn _ bf bf (λ_=>oi _), @bn _ c4 cy (λ_=>s0 _)]
theorem M8 (x:bH):(dO x).da=true:=by
 simp only[dO,J.da,J.hZ,Bool.and_self, @iM _ bd (λ_=>Hf _), @iM _ bf (λ_=>xz _), @iM _ c4 (λ_=>xA _)]
def gb (x:cr):J:=.agg [.int .i64 x.bW,.af 1 (x.Start.map bd),.af 5 (x.g3.map dO)]
def lQ (x:cr):J:=.agg [.int .i64 x.bW,.slice (x.Start.map bd),.slice (x.g3.map fL)]
theorem adS (x:cr):(lQ x).share=lQ x:=by
 simp only[lQ,dm, @bn _ bd bd (λ_=>jF _), @bn _ fL fL (λ_=>Hl _)]
theorem aqH (x:cr):(gb x).share=lQ x:=by
 simp only[gb,lQ,dm, @bn _ bd bd (λ_=>jF _), @bn _ dO fL (λ_=>oW _)]
theorem Hm (x:cr):(gb x).da=true:=by
 simp only[gb,J.da,J.hZ,Bool.and_self, @iM _ bd (λ_=>Hf _), @iM _ dO (λ_=>M8 _)]
def Hn (x:arZ):J:=.af 5 (x.map dO)
def Dl (x:arZ):J:=.slice (x.map fL)
theorem aqI (x:arZ):(Dl x).share=Dl x:=by
 simp only[Dl,dm, @bn _ fL fL (λ_=>Hl _)]
theorem aqJ (x:arZ):(Hn x).share=Dl x:=by
 simp only[Hn,Dl,dm, @bn _ dO fL (λ_=>oW _)]
theorem aqK (x:arZ):(Hn x).da=true:=by
 simp only[Hn,J.da,J.hZ,Bool.and_self, @iM _ dO (λ_=>M8 _)]
def e8 (x:dv):J:=.agg [.int .i64 x.scope,.bool x.behind]
theorem TW (x:dv):(e8 x).share=e8 x:=by
 simp only[e8,dm]
theorem adT (x:dv):(e8 x).da=true:=by
 simp only[e8,J.da,J.hZ,Bool.and_self]
def Dm (x:Bool):J:=.bool x
theorem aqL (x:Bool):(Dm x).share=Dm x:=by
 simp only[Dm,dm]
theorem aqM (x:Bool):(Dm x).da=true:=by
 simp only[Dm,J.da,J.hZ,Bool.and_self]
def ku (x:hS):J:=.agg [fF x.s,.slice (x.places.map c3),lQ x.out]
theorem aqN (x:hS):(ku x).share=ku x:=by
 simp only[ku,dm,TV, @bn _ c3 c3 (λ_=>qF _),adS]
def M9 (x:List arG):J:=.slice (x.map c3)
theorem aqO (x:List arG):(M9 x).share=M9 x:=by
 simp only[M9,dm, @bn _ c3 c3 (λ_=>qF _)]
def oj (x:fE):J:=.agg [.slice (x.hB.map bd),.slice (x.guards.map cy)]
theorem aqP (x:fE):(oj x).share=oj x:=by
 simp only[oj,dm, @bn _ bd bd (λ_=>jF _), @bn _ cy cy (λ_=>rP _)]
def tX (x:Bool×arO):J:=cond x.1 (.hole) (pS x.2)
theorem Ho:(tX∘λx=>(false,x))=pS:=rfl
theorem M_ (x:arO):tX (true,x)= .hole:=rfl
theorem Hp {x:Bool×arO} (h:Iq (!x.1)=some ()):tX x=pS x.2:=by
 obtain⟨b,x⟩:=x;cases b
 .rfl
 .cases h
theorem aqQ (x:Bool×arO):(tX x).wd=1:=by
 obtain⟨b,x⟩:=x;cases b<;>rfl
noncomputable def adU:aN:=bK (bJ 12 [0] Tryz.f170 [[0,1],[1],[1,10],[4],[4]])
noncomputable def adV:aN:=bK (bJ 27 [0] Tryz.f143 [[0,1],[0,1],[0,1,11],[4],[0,1,5],[0,1,5,15],[0,1,5],[0,1,5,25],[4],[0,1,5],[4]])
noncomputable def adW:aN:=bK (bJ 19 [0] Tryz.f108 [[1,2],[1,2],[1,2,11],[4],[1],[1,17],[4],[4]])
noncomputable def adX:aN:=bK (bJ 27 [0] Tryz.f73 [[0,1],[0,1],[0,1,11],[4],[0,1,5],[0,1,5,15],[0,1,5],[0,1,5,25],[4],[0,1,5],[4]])
noncomputable def Na:aN:=bK (bJ 19 [0] Tryz.f41 [[1,2],[1,2],[1,2,11],[4],[1],[1,17],[4],[4]])
noncomputable def adY:aN:=bK (bJ 27 [0] Tryz.f13 [[0,1],[0,1],[0,1,11],[4],[0,1,5],[0,1,5,15],[0,1,5],[0,1,5,25],[4],[0,1,5],[4]])
noncomputable def adZ:aN:=bK (bJ 12 [0] Tryz.f74 [[0,1],[1],[1,10],[4],[4]])
noncomputable def ad0:aN:=bK (bJ 12 [0] Tryz.f42 [[1,2],[1],[1,10],[4],[4]])
noncomputable def hT:aN:=bK (bJ 27 [0] Tryz.f14 [[0,1],[0,1],[0,1,11],[4],[0,1,5],[0,1,5,15],[0,1,5],[0,1,5,25],[4],[0,1,5],[4]])
noncomputable def ad1:aN:=bK (bJ 27 [0] Tryz.f43 [[1,2],[1,2],[1,2,11],[4],[1,2],[1,2,18],[4],[1],[1,25],[4],[4]])
noncomputable def ad2:aN:=bK (bJ 27 [0] Tryz.f15 [[0,1],[0,1],[0,1,11],[4],[0,1,5],[0,1,5,15],[0,1,5],[0,1,5,25],[4],[0,1,5],[4]])
noncomputable def jj:aN:=bK (bJ 28 [0] Tryz.f16 [[0,1],[0,1],[0,1,11],[4],[0,1,5],[0,1,5,15],[0,1,5],[0,1,5,26],[4],[0,1,5],[4]])
noncomputable def j3:aN:=bK (bJ 36 [0] Tryz.f4 [[1,2],[1,2],[1,2,10],[4],[1,2],[1,2,16],[4],[1,2],[1,2,22],[4],[1,2],[1,2,28],[4],[1],[1,34],[4],[4]])
noncomputable def ad3:aN:=bK (bJ 11 [0] Tryz.f185 [[1,2],[1,2,3],[1,2,3],[2,3],[2]])
noncomputable def ad4:aN:=bK (bJ 23 [0] Tryz.f174 [[0],[0,3],[0,3,4],[0,3,4,11],[0,3,4],[0,3,4],[2]])
noncomputable def ad5:aN:=bK (bJ 23 [0] Tryz.f150 [[0],[0,3],[0,3,4],[0,3,4,11],[0,3,4],[0,3,4],[2]])
noncomputable def ad6:aN:=bK (bJ 18 [0] Tryz.f118 [[1,2],[1,2,3],[1,2,3],[1,2,3],[1,2,3],[2,3],[2]])
noncomputable def ad7:aN:=bK (bJ 23 [0] Tryz.f86 [[0],[0,3],[0,3,4],[0,3,4,11],[0,3,4],[0,3,4],[2]])
noncomputable def Nb:aN:=bK (bJ 15 [0] Tryz.f53 [[1,2],[1,2,3],[1,2,3],[1,2,3],[2,3],[2]])
noncomputable def Nc:aN:=bK (bJ 23 [0] Tryz.f20 [[0],[0,3],[0,3,4],[0,3,4,11],[0,3,4],[0,3,4],[2]])
noncomputable def ad8:aN:=bK (bJ 22 [0] Tryz.f87 [[0],[0,3],[0,3,4],[0,3,4,11],[0,3,4],[0,3,4],[2]])
noncomputable def ad9:aN:=bK (bJ 12 [0] Tryz.f54 [[1,2],[1,2,3],[1,2,3],[2,3],[2]])
noncomputable def ad_:aN:=bK (bJ 23 [0] Tryz.f21 [[0],[0,3],[0,3,4],[0,3,4,11],[0,3,4],[0,3,4],[2]])
noncomputable def aea:aN:=bK (bJ 14 [0] Tryz.f55 [[1,2],[1,2,3],[1,2,3],[1,2,3],[2,3],[2]])
noncomputable def xD:aN:=bK (bJ 23 [0] Tryz.f22 [[0],[0,3],[0,3,4],[0,3,4,11],[0,3,4],[0,3,4],[2]])
noncomputable def aeb:aN:=bK (bJ 22 [0] Tryz.f23 [[0],[0,3],[0,3,4],[0,3,4,11],[0,3,4],[0,3,4],[2]])
noncomputable def eA:aN:=bK (bJ 25 [0] Tryz.f6 [[1,2],[1,2,3],[1,2,3],[1,2,3],[1,2,3],[1,2,3],[2,3],[2]])
noncomputable def aec:aN:=bK (bJ 9 [0] Tryz.f144 [[0],[2]])
noncomputable def aed:aN:=bK (bJ 9 [0] Tryz.f145 [[0],[2]])
noncomputable def aee:aN:=bK (bJ 35 [0] Tryz.f109 [[0],[0,16],[2],[0,3],[0,3,20],[0,3,34],[2],[0,3],[2]])
noncomputable def Nd:aN:=bK (bJ 15 [0,1,2] Tryz.f18 [[0,1,2],[6]])
noncomputable def aef:aN:=bK (bJ 13 [0] Tryz.f171 [[0],[6],[6,7],[6,7],[6,7],[2],[11],[2],[2]])
noncomputable def aeg:aN:=bK (bJ 30 [0] Tryz.f146 [[0],[0,12],[2],[0,3],[0,3,4],[0,3,4,16],[0,3,4,20],[2],[0,3,4],[0,3,4],[2]])
noncomputable def aeh:aN:=bK (bJ 73 [0] Tryz.f172 [[0],[0,6],[0,6,7],[0,6,7],[2],[0,6,30],[2],[0,6,37],[2],[0,6,51],[2],[0,66],[2],[2]])
noncomputable def aei:aN:=bK (bJ 18 [0] Tryz.f184 [[0,1],[0,1,5],[0,1,5,7],[0,1,5],[0,1,5],[4]])
noncomputable def aej:aN:=bK (bJ 38 [0,1] Tryz.f173 [[0,1],[0,1,5],[0,1,5,6],[0,1,5,6,13],[0,1,5,6,34],[0,1,5,6],[0,1,5,6],[4]])
noncomputable def aek:aN:=bK (bJ 39 [0,1] Tryz.f148 [[0,1],[0,1,8],[0,1,8,9],[4],[0,1,8,16],[4],[0,8,25],[4],[0,32],[4],[4]])
noncomputable def ael:aN:=bK (bJ 11 [0] Tryz.f149 [[0],[6],[6,7],[2],[9],[2],[2]])
noncomputable def aem:aN:=bK (bJ 38 [0,1,2] Tryz.f116 [[0,1,2],[0,1,12],[6],[0,1,7],[0,1,7,8],[0,1,7,8,16],[0,1,7,8,28],[6],[0,1,7,8],[0,1,7,8],[6]])
def bZ (r:List cn) (k:arH) (c:aN):aN:=.seq (.fK r (some k)) c
def zZ (r:List cn) (a:arF) (k:arH) (c:aN):aN:=.seq (.jC r a (some k)) c
abbrev eW (d t:Nat) (o:eP):cn:=⟨some d,o,some (t,true)⟩
abbrev fv (d t:Nat) (o:eP):cn:=⟨some d,o,some (t,false)⟩
abbrev aqR (n:Nat) (k:arH) (f:Func) (c:aN):Prop:=fY ⟨n,k⟩ (f.body.getD .skip)=some c.strip
def TX:aN:=.cond (.t 28) (bZ [i2 6 3] [6] .ret) .skip
def TY:aN:=.cond (.t 51) (bZ [i2 6 4] [6] .ret) .skip
def aen:aN:=.cond (.t 57) (bZ [cg 59 8,g2 60 .gtr 2 59 2,cg 61 60,fv 62 61 (.hF (.t 8)),fv 63 61 (.ff .gtr 2 (.t 62) (.c (.int .i64 0))),fv 64 61 (.hF (.t 63)),eW 65 64 (.gQ 131 (.t 7) 2),eW 66 64 (.fo 9 (.t 65)),⟨some 67,.ff .eql 9 (.t 66) (.c (.str [116,97,117])),some (64,true)⟩,fv 68 61 (.pick (.t 64) (.t 67) (.c (.bool false))),ro 69 (.pick (.t 61) (.c (.bool true)) (.t 68))] [1,2,7,8,69] (.cond (.t 69) (bZ [i2 6 5] [6] .ret) .skip)) (bZ [g2 71 .eql 2 56 3,eU 70 71] [0,1,2,7,8,56,70] (.cond (.t 70) (bZ [cg 72 8,g2 73 .neq 2 72 1] [1,2,7,8,73] (.cond (.t 73) (bZ [i2 6 5] [6] .ret) .skip)) (bZ [g2 75 .eql 2 56 5,eU 74 75] [0,1,2,7,8,74] (.cond (.t 74) (bZ [cg 76 8,cg 77 0,eQ 78 131 7 1,dU 79 2 78,rD 80 35 77 79,eQ 81 92 80 1,dU 82 2 81,nz 83 .neq 2 76 82] [1,2,7,8,83] (.cond (.t 83) (bZ [i2 6 5] [6] .ret) .skip)) .skip))))
def TZ:aN:=.cond (.t 102) (bZ [i2 6 6] [6] .ret) .skip
def T0:aN:=.seq (bZ [cg 113 10,cg 114 8,nz 115 .lss 2 113 114] [7,8,9,10,115] (.cond (.t 115) .skip (.exit 1))) (.seq (.block 2 (bZ [eQ 118 131 7 3,dU 119 98 118,cg 120 10,rD 121 98 119 120,dU 122 97 121,cg 123 9,ro 124 (.call (.f 116) [(.t 122),(.t 123),(.c (.int .i64 15))]),sL 125 124] [7,8,9,10,125] (.cond (.t 125) (bZ [i2 6 8] [6] .ret) .skip))) (.fK [cg 116 10,g2 117 .add 2 116 1,eU 10 117] (some [7,8,9,10])))
def T1:aN:=.seq (bZ [eQ 84 131 7 0,dU 85 2 84,g2 86 .eql 2 85 5,cg 87 86,eW 88 87 (.hF (.t 2)),eW 89 87 (.ff .eql 2 (.t 88) (.c (.int .i64 0))),eW 90 87 (.hF (.t 89)),fv 91 90 (.hF (.t 1)),fv 92 90 (.j6 (.t 91)),fv 93 90 (.gQ 92 (.t 92) 2),fv 94 90 (.fo 90 (.t 93)),fv 95 90 (.hF (.t 2)),fv 96 90 (.ff .sub 2 (.t 95) (.c (.int .i64 1))),fv 97 90 (.j0 90 (.t 94) (.t 96)),fv 98 90 (.gQ 131 (.t 97) 0),fv 99 90 (.fo 2 (.t 98)),fv 100 90 (.ff .neq 2 (.t 99) (.c (.int .i64 1))),eW 101 87 (.pick (.t 90) (.c (.bool true)) (.t 100)),ro 102 (.pick (.t 87) (.t 101) (.c (.bool false)))] [1,2,7,8,102] TZ) (bZ [cg 103 1,cg 104 2,sK 105 173 103 104,eU 9 105] [7,8,9] (.seq (bZ [eQ 106 131 7 0,dU 107 2 106,g2 108 .eql 2 107 4,cg 109 108,eW 110 109 (.hF (.t 9)),eW 111 109 (.ff .geq 2 (.t 110) (.c (.int .i64 6))),ro 112 (.pick (.t 109) (.t 111) (.c (.bool false)))] [7,8,9,112] (.cond (.t 112) (bZ [i2 6 7] [6] .ret) .skip)) (.seq (bZ [i2 10 0] [7,8,9,10] (.block 1 (.loop T0))) (bZ [i2 6 0] [6] .ret))))
def aeo:aN:=.seq (bZ [eQ 29 131 7 0,dU 30 2 29,g2 31 .eql 2 30 4,cg 32 31,eW 33 32 (.gQ 131 (.t 7) 1),eW 34 32 (.fo 2 (.t 33)),⟨some 35,.call (.f 18) [(.t 34),(.c (.int .i64 1)),(.c (.int .i64 7))],some (32,true)⟩,eW 36 32 (.un .not (.t 35)),ro 37 (.pick (.t 32) (.t 36) (.c (.bool false))),cg 38 37,fv 39 38 (.gQ 131 (.t 7) 0),fv 40 38 (.fo 2 (.t 39)),fv 41 38 (.ff .eql 2 (.t 40) (.c (.int .i64 5))),fv 42 38 (.hF (.t 41)),eW 43 42 (.gQ 131 (.t 7) 1),eW 44 42 (.fo 2 (.t 43)),eW 45 42 (.hF (.t 0)),eW 46 42 (.len 35 (.t 45)),eW 47 42 (.ff .sub 2 (.t 46) (.c (.int .i64 1))),⟨some 48,.call (.f 18) [(.t 44),(.c (.int .i64 0)),(.t 47)],some (42,true)⟩,eW 49 42 (.un .not (.t 48)),fv 50 38 (.pick (.t 42) (.t 49) (.c (.bool false))),ro 51 (.pick (.t 38) (.c (.bool true)) (.t 50))] [0,1,2,7,51] TY) (bZ [eQ 52 131 7 3,dU 53 98 52,mD 54 98 53,eU 8 54] [0,1,2,7,8] (.seq (bZ [eQ 55 131 7 0,dU 56 2 55] [0,1,2,7,8,56] (.block 0 (bZ [g2 58 .eql 2 56 1,eU 57 58] [0,1,2,7,8,56,57] aen))) T1))
def aep:aN:=bZ [i2 6 0] [0,1,2] (bZ [cg 11 1,mE 12 11,eQ 13 92 12 2,dU 14 90 13,cg 15 2,rD 16 90 14 15,dU 17 131 16,w1 7 131,m6 131 7 17] [0,1,2,7] (.seq (bZ [n_ 18 172 7,sL 19 18] [0,1,2,7,19] (.cond (.t 19) (bZ [i2 6 2] [6] .ret) .skip)) (.seq (bZ [eQ 20 131 7 0,dU 21 2 20,g2 22 .eql 2 21 1,cg 23 22,eW 24 23 (.gQ 131 (.t 7) 2),eW 25 23 (.fo 9 (.t 24)),⟨some 26,.call (.f 109) [(.t 25)],some (23,true)⟩,eW 27 23 (.un .not (.t 26)),ro 28 (.pick (.t 23) (.t 27) (.c (.bool false)))] [0,1,2,7,28] TX) aeo)))
noncomputable def aeq:aN:=bK (bJ 31 [0,1] Tryz.f110 [[0,1],[0,1,13],[4,5],[0,1,6],[0,1,6,20],[0,1,6,7],[0,1,6,7,28],[4,5],[0,1,6],[4,5]])
noncomputable def Nf:aN:=bK (bJ 70 [0] Tryz.f75 [[0],[0,15],[2],[0,3],[0,3,19],[0,3,37],[2],[0,3,4],[0,3,4,40],[0,3,4,53],[2],[0,3,4],[0,3],[0,5],[0,5,57],[0,5,7],[0,5,69],[2],[0,5],[2]])
noncomputable def aer:aN:=bK (bJ 16 [0] Tryz.f111 [[0],[0,3],[0,3,7],[0,3,15],[2],[0,3],[2]])
noncomputable def aes:aN:=bK (bJ 64 [0] Tryz.f76 [[0],[0,18],[2],[0,3],[0,3,25],[0,3,4],[0,3,4,44],[2],[0,3,63],[2],[0,3],[2]])
def aet:aN:=bZ [pr 2 false] [0] (bZ [cg 3 0,n_ 4 109 3,cg 5 4,eW 6 5 (.hF (.t 0)),⟨some 7,.ff .neq 9 (.t 6) (.c (.str [116,97,117])),some (5,true)⟩,ro 8 (.pick (.t 5) (.t 7) (.c (.bool false))),eU 2 8] [2] .ret)
noncomputable def aeu:aN:=bK (bJ 101 [0] Tryz.f77 [[0],[0,8],[2],[0,3],[0,3,12],[0,3,4],[0,3,4,41],[2],[0,3,4,76],[2],[0,3,4,5],[0,3,4,5,80],[0,3,4,5,100],[2],[0,3,4,5],[0,3],[2]])
noncomputable def aev:aN:=bK (bJ 16 [0] Tryz.f113 [[0],[0,3],[0,3,7],[0,3,15],[2],[0,3],[2]])
noncomputable def aew:aN:=bK (bJ 28 [0] Tryz.f78 [[0],[0,11],[2],[0,3],[0,3,15],[0,3,27],[2],[0,3],[2]])
noncomputable def Dn:aN:=bK (bJ 30 [0] Tryz.f44 [[0],[0,8],[2],[0,11],[2],[0,17],[2],[0,23],[2],[29],[2],[2]])
noncomputable def aex:aN:=bK (bJ 6 [0] Tryz.f17 [[0],[2]])
noncomputable def aey:aN:=bK (bJ 58 [0] Tryz.f45 [[0],[0,3],[0,3,4],[0,3,4,14],[0,3,4,5],[0,3,4,5],[0,3,4,5,6],[0,3,4,5,6,33],[0,3,4,5,6,50],[0,3,4,5,6],[0,3,4,5,6],[0,3,4],[2]])
noncomputable def aez:aN:=bK (bJ 9 [0] Tryz.f79 [[0],[3],[3,4],[3,4],[2],[7],[2],[2]])
noncomputable def aeA:aN:=bK (bJ 20 [0] Tryz.f49 [[0,1],[0,1,5],[0,1,5,7],[0,1,5],[0,1,5],[4]])
noncomputable def aeB:aN:=bK (bJ 38 [0,1] Tryz.f47 [[0,1],[0,1,5],[0,1,5,6],[0,1,5,6,13],[0,1,5,6,34],[0,1,5,6],[0,1,5,6],[4]])
noncomputable def Ng:aN:=bK (bJ 10 [0,1] Tryz.f46 [[0,1],[0,1,7],[4],[4]])
noncomputable def aeC:aN:=bK (bJ 33 [0,1,2] Tryz.f48 [[0,1,2],[0,1,2,7],[0,1,2,7,11],[0,1,2,7,31],[6],[0,1,2,7],[6]])
noncomputable def aeD:aN:=bK (bJ 13 [0,1] Tryz.f84 [[0,1],[4]])
noncomputable def aeE:aN:=bK (bJ 30 [0] Tryz.f115 [[0],[0,7],[2],[0,3],[0,3,4],[0,3,4,11],[0,3,4,19],[2],[0,3,4],[0,3,4],[3,28],[2],[2]])
noncomputable def aeF:aN:=bK (bJ 19 [0,1] Tryz.f117 [[0,1],[0,1,5],[0,1,5,9],[0,1,5,18],[4],[0,1,5],[4]])
def aeG:aN:=.seq (bZ [cg 35 0,mE 36 35,eQ 37 100 36 2,dU 38 9 37,ro 39 (.ff .eql 9 (.t 38) (.c (.str [116,97,117]))),cg 40 39,eW 41 40 (.hF (.t 0)),eW 42 40 (.j6 (.t 41)),eW 43 40 (.gQ 100 (.t 42) 3),eW 44 40 (.fo 98 (.t 43)),eW 45 40 (.len 98 (.t 44)),eW 46 40 (.ff .gtr 3 (.t 45) (.c (.int .i64 0))),ro 47 (.pick (.t 40) (.t 46) (.c (.bool false))),cg 48 47,fv 49 48 (.hF (.t 0)),fv 50 48 (.j6 (.t 49)),fv 51 48 (.gQ 100 (.t 50) 2),fv 52 48 (.fo 9 (.t 51)),⟨some 53,.ff .neq 9 (.t 52) (.c (.str [116,97,117])),some (48,false)⟩,fv 54 48 (.hF (.t 53)),eW 55 54 (.hF (.t 0)),eW 56 54 (.j6 (.t 55)),eW 57 54 (.gQ 100 (.t 56) 2),eW 58 54 (.fo 9 (.t 57)),⟨some 59,.call (.f 112) [(.t 58)],some (54,true)⟩,eW 60 54 (.un .not (.t 59)),fv 61 48 (.pick (.t 54) (.t 60) (.c (.bool false))),ro 62 (.pick (.t 48) (.c (.bool true)) (.t 61)),cg 63 62,fv 64 63 (.hF (.t 0)),fv 65 63 (.j6 (.t 64)),fv 66 63 (.gQ 100 (.t 65) 3),fv 67 63 (.fo 98 (.t 66)),fv 68 63 (.len 98 (.t 67)),fv 69 63 (.ff .gtr 3 (.t 68) (.c (.int .i64 2))),ro 70 (.pick (.t 63) (.c (.bool true)) (.t 69))] [0,5,70] (.cond (.t 70) (bZ [pr 4 false] [4] .ret) .skip)) (bZ [cg 71 0,mE 72 71,eQ 73 100 72 3,dU 74 98 73,cg 75 5,sK 76 117 74 75,cg 77 76,eW 78 77 (.hF (.t 0)),eW 79 77 (.j6 (.t 78)),eW 80 77 (.gQ 100 (.t 79) 4),eW 81 77 (.fo 98 (.t 80)),eW 82 77 (.hF (.t 5)),⟨some 83,.call (.f 117) [(.t 81),(.t 82)],some (77,true)⟩,ro 84 (.pick (.t 77) (.t 83) (.c (.bool false))),eU 4 84] [4] .ret)
def aeH:aN:=bZ [cg 12 1,cg 13 0,mE 14 13,eQ 15 100 14 0,dU 16 29 15,mD 17 29 16,nz 18 .add 2 12 17,eU 5 18] [0,1,5] (.seq (bZ [cg 19 0,mE 20 19,eQ 21 100 20 1,dU 22 97 21,cg 23 5,ro 24 (.call (.f 116) [(.t 22),(.t 23),(.c (.int .i64 60))]),sL 25 24,cg 26 25,fv 27 26 (.hF (.t 0)),fv 28 26 (.j6 (.t 27)),fv 29 26 (.gQ 100 (.t 28) 4),fv 30 26 (.fo 98 (.t 29)),fv 31 26 (.len 98 (.t 30)),fv 32 26 (.hF (.t 1)),fv 33 26 (.ff .neq 2 (.t 31) (.t 32)),ro 34 (.pick (.t 26) (.c (.bool true)) (.t 33))] [0,5,34] (.cond (.t 34) (bZ [pr 4 false] [4] .ret) .skip)) aeG)
def aeI:aN:=bZ [pr 4 false] [0,1] (.seq (bZ [cg 6 0,mE 7 6,eQ 8 100 7 0,dU 9 29 8,n_ 10 115 9,g2 11 .eql 2 10 0] [0,1,11] (.cond (.t 11) (bZ [pr 4 false] [4] .ret) .skip)) aeH)
noncomputable def aeJ:aN:=bK (bJ 51 [0] Tryz.f52 [[0],[0,29],[2],[0,3],[0,3,36],[0,3,50],[2],[0,3],[2]])
noncomputable def Nh:aN:=bK (bJ 40 [0,1,2] Tryz.f50 [[0,1,2],[0,1,2,20],[6],[0,2,7],[0,2,7,24],[0,2,7,39],[6],[0,2,7],[6]])
noncomputable def aeK:aN:=bK (bJ 6 [0] Tryz.f80 [[0],[2]])
noncomputable def aeL:aN:=bK (bJ 6 [0] Tryz.f81 [[0],[2]])
noncomputable def aeM:aN:=bK (bJ 33 [0] Tryz.f83 [[0],[0,7],[2],[0,3],[0,3,4],[0,3,4,14],[0,3,4,21],[0,3,4],[0,3,4],[0,3,4],[2]])
noncomputable def aeN:aN:=bK (bJ 6 [0] Tryz.f114 [[0],[2]])
noncomputable def aeO:aN:=bK (bJ 48 [0,1,2] Tryz.f82 [[0,1,2],[1,2,7],[1,2,7,8],[1,2,7,8,15],[1,2,7,8,23],[1,2,7,8,9],[1,2,7,8,9,31],[1,2,7,8],[1,2,7,8],[1,2,7,8],[6]])
noncomputable def aeP:aN:=bK (bJ 223 [0,1,2,3,4] Tryz.f51 [[0,1,2,3,4,10],[0,1,2,3,4,10,11],[0,1,2,3,4,10,11,12],[0,1,2,3,4,10,11,12,13],[1,2,3,4,10,11,12,13,14],[1,2,3,4,10,11,12,13,14,15],[1,2,3,4,10,11,12,13,14,15,16],[1,3,4,10,11,12,13,14,15,17],[1,3,4,10,11,12,14,15,17,18],[1,3,4,10,11,12,14,15,17,18,70],[1,3,4,10,11,12,14,15,17,18,77],[1,3,4,10,11,12,14,15,17,18,83],[1,3,4,10,11,12,14,15,17,18],[1,3,4,10,11,12,14,15,17,18,99],[1,3,4,10,11,12,14,15,17,18],[1,3,4,10,11,12,14,15,17,18],[1,3,4,10,11,12,14,15],[1,3,4,10,11,12,14,15,19],[1,3,4,10,11,12,14,15,19,123],[1,3,4,10,11,12,14,15,19],[1,3,4,10,11,12,14,15,19],[1,3,4,10,11,14,15,20],[1,3,4,10,11,14,15,20,149],[4,10,14,15,20],[4,10,14,15,20,21],[4,10,14,15,20,21,164],[4,10,14,15,20,21],[4,10,14,15,20,21],[4,10,14,15],[4,10,14,15,22],[4,10,14,15,22,23],[4,10,14,15,22,23,198],[4,10,14,15,22,23],[4,10,14,15,22,23],[4,10,15,215],[4,10,15],[10]])
noncomputable def aeQ:aN:=bK (bJ 140 [0,1] Tryz.f19 [[0,1,4],[0,1,4,6],[0,1,4,6,20],[4,5],[0,1,4,6,7],[0,1,4,6,7,8],[0,1,4,6,7,8,25],[0,1,4,6,7,8],[0,1,4,6,7,8],[0,1,4,6,9],[0,4,6,9,10],[0,4,6,9],[0,4,6,9,75],[0,4,6,9],[0,4,6,9,11],[0,4,6,9,11,84],[0,4,6,9,11,12],[0,4,6,9,11,12,13],[0,4,6,9,11,12,13,14],[0,4,6,9,11,12,13,14,15],[0,4,6,9,11,12,13,14,15,112],[0,4,6,9,11,12,13,14,15,118],[0,4,6,9,11,12,13,14,15,122],[4,5],[0,4,6,9,11,12,13,14,15],[0,4,6,9,11,12,13,14,15],[0,4,6,9,11],[4,9,137],[4,5],[4,5]])
noncomputable def nv:aN:=bK (bJ 28 [0,1] Tryz.f5 [[1,2,4],[1,2,4,9],[4,5],[1,2,4,17],[4,5],[4,6,7],[4,6,25],[4,5],[4,5]])
noncomputable def aeR:aN:=bK (bJ 15 [0,1,2] Tryz.f57 [[0,1,2],[6]])
noncomputable def aeS:aN:=bK (bJ 7 [0] Tryz.f152 [[1],[2]])
noncomputable def aeT:aN:=bK (bJ 19 [0,1] Tryz.f154 [[0,1],[0,1,7,8],[0,1,7,8,9],[0,1,5,7,8],[0,1,5,7,8,16],[4],[0,1,7,8],[4]])
noncomputable def aeU:aN:=bK (bJ 9 [0,1] Tryz.f151 [[0,1],[4]])
noncomputable def aeV:aN:=bK (bJ 6 [0] Tryz.f119 [[0],[2]])
noncomputable def aeW:aN:=bK (bJ 9 [0] Tryz.f153 [[0],[2]])
noncomputable def aeX:aN:=bK (bJ 42 [0] Tryz.f120 [[0],[0,6,7],[0,6,7,8],[0,3,6,7],[0,3,4,6,7],[0,6,7,32],[2],[0,6,7],[2]])
noncomputable def aeY:aN:=bK (bJ 8 [0,1] Tryz.f155 [[1,2],[3]])
noncomputable def aeZ:aN:=bK (bJ 19 [0,1] Tryz.f154 [[0,1],[0,1,7,8],[0,1,7,8,9],[0,1,5,7,8],[0,1,5,7,8,16],[4],[0,1,7,8],[4]])
noncomputable def ae0:aN:=bK (bJ 8 [0,1] Tryz.f121 [[0,3],[4]])
noncomputable def ae1:aN:=bK (bJ 11 [0] Tryz.f130 [[1],[4],[4,5],[4,5],[4,5],[2],[9],[2],[2]])
noncomputable def ae2:aN:=bK (bJ 25 [0] Tryz.f98 [[1,2],[1,2,5],[1,2,5,7],[1,2,5,14],[4],[1,2,5],[1,2,5],[4]])
def ae3:aN:=.fK [eQ 29 149 9 0,dU 30 2 29,g2 31 .add 2 30 1,eQ 32 149 9 0,m6 2 32 31] (some [0,2,3,4,8,9])
def ae4:aN:=.cond (.t 28) ae3 .skip
def ae5:aN:=.fK [g2 43 .add 3 37 1,cg 37 43] (some [2,3,4,9,10,36,37])
def ae6:aN:=.seq (.block 1 (.jT (KA ah 129 4 2 39 ((range 3).map (·+2)) [cg 40 10,dU 41 149 9] [(.t 40),(.t 41)] (some 42) [eU 10 42] [2,3,4,9,10,36,37]) (S6 178 4 39 [cg 40 10,dU 41 149 9] [(.t 40),(.t 41)] (some 42) [eU 10 42]))) ae5
def ae7:aN:=.seq (.cond (.t 38) .skip (.exit 0)) ae6
def T2:aN:=bZ [nz 38 .lss 3 37 36] [2,3,4,9,10,36,37,38] ae7
def ae8:aN:=.block 0 (.loop T2)
def ae9:aN:=bZ [cg 44 10,eU 7 44] [2,3,4,7] .ret
def ae_:aN:=.seq (bZ [dU 35 131 8,n_ 36 130 35,BM 37 0] [2,3,4,9,10,36,37] ae8) ae9
def T3:aN:=bZ [cg 33 0,g2 34 .add 3 33 1,eU 10 34] [2,3,4,8,9,10] ae_
def afa:aN:=.seq (bZ [eQ 26 131 8 0,dU 27 2 26,g2 28 .eql 2 27 4] [0,2,3,4,8,9,28] ae4) T3
def afb:aN:=bZ [eQ 20 149 6 0,dU 21 2 20,eQ 22 131 8 0,dU 23 2 22,g2 24 .eql 2 23 1,ro 25 (.ey 149 [(0,(.t 21)),(1,(.t 24))]),w1 9 149,m6 149 9 25] [0,2,3,4,8,9] afa
def afc:aN:=bZ [eQ 15 92 3 2,dU 16 90 15,cg 17 0,rD 18 90 16 17,dU 19 131 18,w1 8 131,m6 131 8 19] [0,2,3,4,6,8] afb
def afd:aN:=bZ [dU 11 146 2,cg 12 0,dU 13 149 6,rD 14 146 11 12,m6 149 14 13] [0,2,3,4,6] afc
def T4:aN:=bZ [ro 6 (.ic 149 (.t 1)),i2 7 0] [0,2,3,4,6] afd
theorem afe:T4.oK (Fx ah 129 [0,1,2,3,4] 5 2 4):=And.intro (True.intro) (And.intro (True.intro) (And.intro (True.intro) (And.intro (True.intro) (And.intro (And.intro (True.intro) (And.intro (True.intro) (True.intro))) (And.intro (True.intro) (And.intro (And.intro (True.intro) (And.intro (True.intro) (And.intro (And.intro (True.intro) (True.intro)) (And.intro (⟨178,2,39,3,_,_,_,_,_,rfl,rfl,(by kernel_rfl),rfl,rfl,rfl,rfl,rfl,rfl,rfl⟩) (True.intro))))) (And.intro (True.intro) (True.intro))))))))
theorem aff:fY ⟨45,[0,1,2,3,4]⟩ (Tryz.f129.body.getD .skip)=some T4.strip:=by kernel_rfl
def Ni:aN:=bZ [dU 15 146 3,eU 2 15] [2] .ret
def afg:aN:=bZ [dU 10 178 4,eQ 11 92 1 1,dU 12 2 11,ro 13 (.ey 149 [(0,(.t 12))]),ro 14 (.call (.t 10) [(.c (.int .i64 0)),(.t 13)])] [3] Ni
def aqS:aN:=bZ [ro 9 (.nW 129 [(.t 3),(.t 1),(.t 4)]),m6 178 4 9] [1,3,4] afg
def afh:aN:=.jT (KE ah 129 4 2 10 9 [3,1,4] [eQ 11 92 1 1,dU 12 2 11,ro 13 (.ey 149 [(0,(.t 12))])] [(.c (.int .i64 0)),(.t 13)] (some 14) [3] Ni) (Ta 178 129 4 10 9 [3,1,4] [eQ 11 92 1 1,dU 12 2 11,ro 13 (.ey 149 [(0,(.t 12))])] [(.c (.int .i64 0)),(.t 13)] (some 14) Ni.l7)
def afi:aN:=bZ [eQ 5 92 1 2,dU 6 90 5,mD 7 90 6,ro 8 (.fi 146 (.t 7) (.t 7)),w1 3 146,m6 146 3 8] [1,3] afh
def T5:aN:=bZ [ro 1 (.ic 92 (.t 0)),yS 2] [1] afi
theorem afj:T5.oK (BL ah):=And.intro (True.intro) (And.intro (True.intro) (⟨178,129,4,2,10,9,_,_,_,_,_,_,rfl,rfl,(by kernel_rfl),⟨Tryz.t178,_,_,(by kernel_rfl),rfl,rfl,rfl,rfl⟩,rfl,rfl,rfl,rfl,(by kernel_rfl)⟩))
theorem afk:fY ⟨16,[0]⟩ (Tryz.f94.body.getD .skip)=some T5.strip:=by kernel_rfl
noncomputable def afl:aN:=bK (bJ 56 [0] Tryz.f175 [[1],[1,3],[1,3,4],[2]])
def afm:aN:=bZ [pr 2 false] [0] (bZ [cg 3 0,n_ 4 120 3,cg 5 4,eW 6 5 (.hF (.t 0)),⟨some 7,.ff .neq 9 (.t 6) (.c (.str [116,97,117])),some (5,true)⟩,ro 8 (.pick (.t 5) (.t 7) (.c (.bool false))),eU 2 8] [2] .ret)
noncomputable def Nj:aN:=bK (bJ 9 [0,1] Tryz.f25 [[0,1],[4]])
def afn:aN:=.cond (.t 11) (bZ [cg 13 5,g2 14 .eql 3 13 0,cg 15 14,fv 16 15 (.gQ 131 (.t 2) 2),fv 17 15 (.fo 9 (.t 16)),⟨some 18,.ff .neq 9 (.t 17) (.c (.str [116,97,117])),some (15,false)⟩,fv 19 15 (.hF (.t 18)),eW 20 19 (.hF (.t 5)),eW 21 19 (.ff .leq 3 (.t 20) (.c (.int .i64 2))),fv 22 15 (.pick (.t 19) (.t 21) (.c (.bool false))),ro 23 (.pick (.t 15) (.c (.bool true)) (.t 22)),eU 4 23] [4] .ret) (bZ [g2 25 .eql 2 10 3,eU 24 25] [1,2,5,10,24] (.cond (.t 24) (bZ [cg 26 5,g2 27 .eql 3 26 1,eU 4 27] [4] .ret) (bZ [g2 29 .eql 2 10 5,eU 28 29] [1,2,5,28] (.cond (.t 28) (bZ [cg 30 5,cg 31 1,eQ 32 131 2 1,dU 33 2 32,rD 34 35 31 33,eQ 35 92 34 1,dU 36 2 35,nz 37 .eql 2 30 36,eU 4 37] [4] .ret) .skip))))
def afo:aN:=bZ [ro 2 (.ic 131 (.t 0)),pr 4 false] [1,2] (bZ [eQ 6 131 2 3,dU 7 98 6,mD 8 98 7,eU 5 8] [1,2,5] (.seq (bZ [eQ 9 131 2 0,dU 10 2 9] [1,2,5,10] (.block 0 (bZ [g2 12 .eql 2 10 1,eU 11 12] [1,2,5,10,11] afn))) (bZ [pr 4 true] [4] .ret)))
noncomputable def afp:aN:=bK (bJ 5 [0] Tryz.f159 [[0],[2]])
noncomputable def afq:aN:=bK (bJ 29 [0,1] Tryz.f168 [[1,2],[1,2,6],[1,2,6,7],[4],[1,2,6,12],[4],[2,6,19],[4],[2,24],[4],[4]])
noncomputable def afr:aN:=bK (bJ 9 [0] Tryz.f169 [[1],[4],[4,5],[2],[7],[2],[2]])
noncomputable def afs:aN:=bK (bJ 47 [0,1,2] Tryz.f140 [[0,1,2],[0,1,24],[6],[0,1,7],[1,7,25,26,27],[1,7,25,26,27,28],[1,7,9,25,26,27],[1,7,9,25,26,27,38],[6],[1,7,25,26,27],[1,7,25,26,27],[6]])
noncomputable def aft:aN:=bK (bJ 9 [0,1] Tryz.f177 [[0,1],[3]])
noncomputable def afu:aN:=bK (bJ 19 [0,1] Tryz.f167 [[0,1],[0,1,7,8],[0,1,7,8,9],[0,1,5,7,8],[0,1,5,7,8,16],[4],[0,1,7,8],[4]])
noncomputable def afv:aN:=bK (bJ 9 [0,1] Tryz.f137 [[0,1],[4]])
def afw:aN:=bZ [eQ 55 131 3 0,dU 56 2 55,g2 57 .eql 2 56 5,cg 58 57,eW 59 58 (.gQ 149 (.t 5) 1),eW 60 58 (.fo 4 (.t 59)),eW 61 58 (.un .not (.t 60)),ro 62 (.pick (.t 58) (.t 61) (.c (.bool false))),eU 54 62] [3,5,54] (.cond (.t 54) (bZ [i2 6 6] [6] .ret) (bZ [eQ 64 131 3 0,dU 65 2 64,g2 66 .eql 2 65 4,cg 67 66,eW 68 67 (.gQ 149 (.t 5) 0),eW 69 67 (.fo 2 (.t 68)),eW 70 67 (.ff .geq 2 (.t 69) (.c (.int .i64 6))),ro 71 (.pick (.t 67) (.t 70) (.c (.bool false))),eU 63 71] [3,5,63] (.cond (.t 63) (bZ [i2 6 7] [6] .ret) (bZ [eQ 73 131 3 3,dU 74 98 73,ro 75 (.nW 177 [(.t 5)]),sK 76 137 74 75,eU 72 76] [72] (.cond (.t 72) (bZ [i2 6 8] [6] .ret) .skip)))))
def T6:aN:=.cond (.t 26) (bZ [i2 6 4] [6] .ret) (bZ [dU 50 131 3,cg 51 1,sK 52 176 50 51,sL 53 52,eU 49 53] [3,5,49] (.cond (.t 49) (bZ [i2 6 5] [6] .ret) afw))
def afx:aN:=bZ [eQ 27 131 3 0,dU 28 2 27,g2 29 .eql 2 28 4,cg 30 29,eW 31 30 (.gQ 131 (.t 3) 1),eW 32 30 (.fo 2 (.t 31)),⟨some 33,.call (.f 57) [(.t 32),(.c (.int .i64 1)),(.c (.int .i64 7))],some (30,true)⟩,eW 34 30 (.un .not (.t 33)),ro 35 (.pick (.t 30) (.t 34) (.c (.bool false))),cg 36 35,fv 37 36 (.gQ 131 (.t 3) 0),fv 38 36 (.fo 2 (.t 37)),fv 39 36 (.ff .eql 2 (.t 38) (.c (.int .i64 5))),fv 40 36 (.hF (.t 39)),eW 41 40 (.gQ 131 (.t 3) 1),eW 42 40 (.fo 2 (.t 41)),eW 43 40 (.hF (.t 1)),eW 44 40 (.len 35 (.t 43)),⟨some 45,.call (.f 25) [(.t 42),(.t 44)],some (40,true)⟩,eW 46 40 (.un .not (.t 45)),fv 47 36 (.pick (.t 40) (.t 46) (.c (.bool false))),ro 48 (.pick (.t 36) (.c (.bool true)) (.t 47)),eU 26 48] [1,3,5,26] T6
def T7:aN:=.cond (.t 11) (bZ [i2 6 3] [6] .ret) afx
def afy:aN:=.seq (.block 0 (bZ [dU 8 131 3,n_ 9 175 8,sL 10 9,eU 7 10] [1,3,5,7] (.cond (.t 7) (bZ [i2 6 2] [6] .ret) (bZ [eQ 12 131 3 0,dU 13 2 12,g2 14 .eql 2 13 1,cg 15 14,eW 16 15 (.gQ 131 (.t 3) 2),eW 17 15 (.fo 9 (.t 16)),⟨some 18,.ff .neq 9 (.t 17) (.c (.str [116,97,117])),some (15,true)⟩,ro 19 (.pick (.t 15) (.t 18) (.c (.bool false))),cg 20 19,eW 21 20 (.gQ 131 (.t 3) 2),eW 22 20 (.fo 9 (.t 21)),⟨some 23,.call (.f 125) [(.t 22)],some (20,true)⟩,eW 24 20 (.un .not (.t 23)),ro 25 (.pick (.t 20) (.t 24) (.c (.bool false))),eU 11 25] [1,3,5,11] T7)))) (bZ [i2 6 0] [6] .ret)
def afz:aN:=bZ [ro 3 (.ic 131 (.t 0)),ro 5 (.ic 149 (.t 2)),i2 6 0] [1,3,5] afy
noncomputable def afA:aN:=bK (bJ 45 [0,1] Tryz.f122 [[0,3],[0,3,22],[4,5],[0,3,6],[0,6,26,27,28],[0,6,26,27,28,29],[0,6,7,8,26,27,28],[0,6,7,9,26,27,28],[0,6,7,9,26,27,28,41],[4,5],[0,6,26,27,28],[4,5]])
noncomputable def afB:aN:=bK (bJ 45 [0] Tryz.f88 [[0],[0,15],[2],[0,16,17,18],[0,16,17,18,19],[0,3,4,16,17,18],[0,4,16,17,18,35],[2],[0,6,16,17,18],[0,16,17,18,43],[2],[0,16,17,18],[2]])
noncomputable def afC:aN:=bK (bJ 6 [0] Tryz.f158 [[0],[2]])
noncomputable def afD:aN:=bK (bJ 19 [0,1] Tryz.f178 [[0,1],[0,1,7,8],[0,1,7,8,9],[0,1,5,7,8],[0,1,5,7,8,16],[4],[0,1,7,8],[4]])
noncomputable def afE:aN:=bK (bJ 9 [0,1] Tryz.f157 [[0,1],[4]])
noncomputable def afF:aN:=bK (bJ 6 [0] Tryz.f124 [[0],[2]])
noncomputable def afG:aN:=bK (bJ 27 [0,1] Tryz.f91 [[0,3],[4]])
noncomputable def Nk:aN:=bK (bJ 9 [0,1] Tryz.f90 [[1,2],[3]])
noncomputable def afH:aN:=bK (bJ 19 [0,1] Tryz.f123 [[0,1],[0,1,7,8],[0,1,7,8,9],[0,1,5,7,8],[0,1,5,7,8,16],[4],[0,1,7,8],[4]])
noncomputable def afI:aN:=bK (bJ 9 [0,1] Tryz.f89 [[0,1],[4]])
noncomputable def afJ:aN:=bK (bJ 6 [0] Tryz.f186 [[0],[2]])
noncomputable def afK:aN:=bK (bJ 20 [0,1] Tryz.f179 [[0,1],[0,1,5],[0,1,5,6],[0,1,6,11],[12],[4],[4],[0,1,13],[4],[0,1,16],[4],[19],[4],[4]])
noncomputable def afL:aN:=bK (bJ 36 [0,1] Tryz.f160 [[0,1],[0,1,9,10,11],[0,1,9,10,11,12],[0,1,5,6,9,10,11],[0,1,5,6,9,10,11,19],[4],[0,1,6,7,9,10,11],[0,1,8,9,10,11],[0,1,8,9,10,11,28],[4],[0,1,9,10,11],[35],[4],[4]])
noncomputable def afM:aN:=bK (bJ 16 [0,1] Tryz.f126 [[2,3],[4]])
noncomputable def afN:aN:=bK (bJ 16 [0,1] Tryz.f128 [[1,2],[3]])
noncomputable def afO:aN:=bK (bJ 19 [0,1] Tryz.f161 [[0,1],[0,1,7,8],[0,1,7,8,9],[0,1,5,7,8],[0,1,5,7,8,16],[4],[0,1,7,8],[4]])
noncomputable def afP:aN:=bK (bJ 9 [0,1] Tryz.f127 [[0,1],[4]])
noncomputable def afQ:aN:=bK (bJ 56 [0] Tryz.f92 [[0],[0,5,6,7],[0,5,6,7,8],[0,3,4,5,6,7],[0,4,5,6,7,48],[2],[0,5,6,7,51],[2],[0,5,6,7],[2]])
noncomputable def Nl:aN:=bK (bJ 32 [0] Tryz.f93 [[0],[0,5,6,7],[0,5,6,7,8],[0,3,4,5,6,7],[0,5,6,7,27],[2],[0,5,6,7],[2]])
noncomputable def Nm:aN:=bK (bJ 35 [0] Tryz.f56 [[1],[1,3],[2],[1,8],[2],[1,20],[2],[1,25],[2],[30],[2],[2]])
noncomputable def Nn:aN:=bK (bJ 6 [0] Tryz.f24 [[1],[2]])
noncomputable def afR:aN:=bK (bJ 48 [0] Tryz.f58 [[1],[1,3],[3,9,10,11],[3,9,10,11,12],[3,4,5,9,10,11],[3,4,5,9,10,11,17,18,19],[3,4,5,9,10,11,17,18,19,20],[3,4,5,6,7,9,10,11,17,18,19],[3,4,5,6,9,10,11,17,18,19,38],[3,4,5,9,10,11,17,18,19],[3,4,5,9,10,11,17,18,19],[3,9,10,11],[2]])
noncomputable def afS:aN:=bK (bJ 22 [0,1] Tryz.f59 [[0,1],[4]])
noncomputable def afT:aN:=bK (bJ 17 [0,1,2] Tryz.f96 [[0,1,2],[4]])
noncomputable def afU:aN:=bK (bJ 19 [0,1] Tryz.f95 [[0,1],[0,1,7,8],[0,1,7,8,9],[0,1,5,7,8],[0,1,5,7,8,16],[4],[0,1,7,8],[4]])
noncomputable def afV:aN:=bK (bJ 13 [0,1,2] Tryz.f60 [[0,4,5],[6]])
noncomputable def afW:aN:=bK (bJ 8 [0] Tryz.f100 [[0],[0,4],[2],[2]])
noncomputable def afX:aN:=bK (bJ 23 [0,1,2] Tryz.f181 [[0,1,2],[0,1,2,7],[4],[4]])
noncomputable def afY:aN:=bK (bJ 31 [0,1] Tryz.f180 [[0,1],[0,1,5],[1,5,9,10,11],[1,5,9,10,11,12],[1,5,7,9,10,11],[1,5,7,8,9,10,11],[1,5,7,8,9,10,11,17],[1,5,7,8,9,10,11],[1,5,7,8,9,10,11,23],[1,5,8,9,10,11],[1,5,9,10,11],[1,5,9,10,11],[4]])
noncomputable def afZ:aN:=bK (bJ 10 [0,1,2] Tryz.f162 [[1,3,5],[6]])
noncomputable def af0:aN:=bK (bJ 25 [0,1,2] Tryz.f131 [[0,1,2],[0,1,2,7],[0,2,7,10,11,12],[0,2,7,10,11,12,13],[0,2,7,9,10,11,12],[0,2,7,10,11,12],[0,2,7,10,11,12],[6]])
noncomputable def af1:aN:=bK (bJ 8 [0] Tryz.f163 [[0],[0,4],[2],[2]])
def T8:aN:=bZ [cg 26 0,eU 4 26] [4] .ret
def T9:aN:=.seq (bZ [cg 8 1,cg 9 0,ro 10 (.cap 97 (.t 9)),cg 11 0,mD 12 97 11,nz 13 .sub 3 10 12,nz 14 .sub 3 8 13,eU 1 14] [0,1] (bZ [cg 15 1,g2 16 .gtr 3 15 0] [0,1,16] (.cond (.t 16) (.fK [cg 17 0,cg 18 0,ro 19 (.cap 97 (.t 18)),ro 20 (.gR 97 (.t 17) none (some (.t 19))),cg 21 1,⟨some 22,.jP 97 3 (.t 20) (.t 21),none⟩,cg 23 0,mD 24 97 23,ro 25 (.gR 97 (.t 22) none (some (.t 24))),eU 0 25] (some [0])) .skip))) T8
def af2:aN:=bZ [yS 4] [0,1] (.seq (bZ [cg 5 1,g2 6 .lss 3 5 0] [0,1,6] (.cond (.t 6) (.fK [ro 7 (.bad),⟨none,.bad,none⟩] (some [0,1])) .skip)) T9)
noncomputable def af3:aN:=bK (bJ 36 [0] Tryz.f164 [[0],[0,3],[0,3,9,10,11],[0,3,9,10,11,12],[0,3,5,9,10,11],[0,3,9,10,11],[0,3,9,10,11,20],[0,3,9,10,11],[0,3,9,10,11],[0,6],[6,25,26,27],[6,25,26,27,28],[6,8,25,26,27],[6,25,26,27],[6,25,26,27],[2]])
def af4:aN:=.seq (bZ [cg 3 0,mD 4 98 3] [0,4] (.block 0 (bZ [g2 6 .eql 3 4 0,eU 5 6] [0,4,5] (.cond (.t 5) (bZ [ro 7 (.ey 134 [(0,(.c (.int .i64 0))),(1,(.c (.int .i64 1)))]),KQ 8 97 7,eU 2 8] [2] .ret) (bZ [g2 10 .eql 3 4 1,eU 9 10] [0,9] (.cond (.t 9) (bZ [cg 11 0,ro 12 (.j0 98 (.t 11) (.c (.int .i64 0))),dU 13 97 12,n_ 14 163 13,eU 2 14] [2] .ret) .skip)))))) (zZ [ro 15 (.ey 134 [(0,(.c (.int .i64 2))),(1,(.c (.int .i64 7)))]),⟨some 16,.shr (.dz 97 1 [(0,(.t 15))]),none⟩,cg 17 0,ro 18 (.j0 98 (.t 17) (.c (.int .i64 0))),dU 19 97 18,cg 20 0,ro 21 (.gR 98 (.t 20) (some (.c (.int .i64 1))) none),n_ 22 132 21,ro 23 (.dz 98 3 [(0,(.t 16)),(1,(.t 19)),(2,(.t 22))]),n_ 24 164 23,eU 2 24] [[],[0],[],[2],[3],[],[5],[6],[1,4,7],[8,7],[9,9,0,1,2,3,4,5,6,7,8,9]] [2] .ret)
def af5:aN:=bZ [yS 2] [0] af4
noncomputable def af6:aN:=bK (bJ 6 [0] Tryz.f166 [[0],[2]])
def T_:aN:=bZ [cg 26 0,eU 4 26] [4] .ret
def Ua:aN:=.seq (bZ [cg 8 1,cg 9 0,ro 10 (.cap 98 (.t 9)),cg 11 0,mD 12 98 11,nz 13 .sub 3 10 12,nz 14 .sub 3 8 13,eU 1 14] [0,1] (bZ [cg 15 1,g2 16 .gtr 3 15 0] [0,1,16] (.cond (.t 16) (.fK [cg 17 0,cg 18 0,ro 19 (.cap 98 (.t 18)),ro 20 (.gR 98 (.t 17) none (some (.t 19))),cg 21 1,⟨some 22,.jP 98 3 (.t 20) (.t 21),none⟩,cg 23 0,mD 24 98 23,ro 25 (.gR 98 (.t 22) none (some (.t 24))),eU 0 25] (some [0])) .skip))) T_
def af7:aN:=bZ [yS 4] [0,1] (.seq (bZ [cg 5 1,g2 6 .lss 3 5 0] [0,1,6] (.cond (.t 6) (.fK [ro 7 (.bad),⟨none,.bad,none⟩] (some [0,1])) .skip)) Ua)
noncomputable def af8:aN:=bK (bJ 36 [0] Tryz.f165 [[0],[0,3],[0,3,9,10,11],[0,3,9,10,11,12],[0,3,5,9,10,11],[0,3,9,10,11],[0,3,9,10,11,20],[0,3,9,10,11],[0,3,9,10,11],[0,6],[6,25,26,27],[6,25,26,27,28],[6,8,25,26,27],[6,25,26,27],[6,25,26,27],[2]])
def Ub:aN:=.fK [g2 22 .add 3 11 1,cg 11 22] (some [0,3,9,10,11])
def Uc:aN:=bZ [nz 12 .lss 3 11 10] [0,3,9,10,11,12] (.seq (.cond (.t 12) .skip (.exit 0)) (.seq (.block 1 (bZ [rD 13 218 9 11,dU 14 98 13,⟨some 5,.nY (.t 14),none⟩] [0,3,5,9,10,11] (bZ [cg 15 3,cg 16 5,mD 17 98 16,nz 18 .add 3 15 17,eU 3 18] [0,3,9,10,11] (bZ [cg 19 3,g2 20 .lss 3 19 0] [0,3,9,10,11,20] (.cond (.t 20) (.fK [ro 21 (.bad),⟨none,.bad,none⟩] (some [0,3,9,10,11])) .skip))))) Ub))
def Ud:aN:=bZ [nz 28 .lss 3 27 26] [0,6,25,26,27,28] (.seq (.cond (.t 28) .skip (.exit 2)) (.seq (.block 3 (bZ [rD 29 218 25 27,dU 30 98 29,⟨some 8,.nY (.t 30),none⟩] [0,6,8,25,26,27] (.fK [cg 31 6,cg 32 8,KR 33 98 98 31 32,eU 6 33] (some [0,6,25,26,27])))) (.fK [g2 34 .add 3 27 1,cg 27 34] (some [0,6,25,26,27]))))
def af9:aN:=bZ [yS 2] [0] (bZ [i2 3 0] [0,3] (.seq (bZ [cg 9 0,mD 10 218 9,BM 11 0] [0,3,9,10,11] (.block 0 (.loop Uc))) (bZ [cg 23 3,ro 24 (.call (.f 183) [(.c .au),(.t 23)]),eU 6 24] [0,6] (.seq (bZ [cg 25 0,mD 26 218 25,BM 27 0] [0,6,25,26,27] (.block 2 (.loop Ud))) (bZ [cg 35 6,eU 2 35] [0,2] .ret)))))
noncomputable def af_:aN:=bK (bJ 27 [0,1,2] Tryz.f133 [[0,1,2],[0,7],[0,7,21],[0,7],[0,6]])
noncomputable def aga:aN:=bK (bJ 6 [0] Tryz.f134 [[0],[2]])
noncomputable def agb:aN:=bK (bJ 135 [0,1,2,3] Tryz.f97 [[0,1,2,7],[0,1,2,7,8,9],[0,1,2,7,8,9,10],[0,1,2,7,8,9,10,11,12],[0,2,7,8,9,10,11,12,13],[0,2,7,8,9,10,12,13,14],[0,2,8,9,10,12,14],[0,2,8,9,10,12,14,82],[0,14],[0,2,8,9,10,14,15],[0,2,8,9,14,15,101,102],[0,2,8,9,14,15,101,102,103],[0,2,8,9,14,15,16,101,102],[0,2,8,9,14,15,101,102],[0,2,8,9,14,15,101,102],[0,14],[0]])
noncomputable def agc:aN:=bK (bJ 8 [0] Tryz.f99 [[0],[0,4],[2],[2]])
noncomputable def agd:aN:=bK (bJ 90 [0,1,2,3] Tryz.f61 [[0,1,2,7],[0,1,2,7,8],[0,1,2,7,8,9],[0,1,2,7,8,9,32],[0,1,2,7,8,9,32,33],[0],[0,1,2,7,8,9,32,40],[0,1,2,7,8],[0],[0,1,2,7,9,32,56],[0,1,2,7],[0],[0,1,2,7,9,74],[0,1,2,7],[0]])
noncomputable def age:aN:=bK (bJ 14 [0,1] Tryz.f101 [[1,2],[4]])
noncomputable def agf:aN:=bK (bJ 29 [0] Tryz.f136 [[1],[1,3],[1,3,7,8,9],[1,3,7,8,9,10],[1,3,5,7,8,9],[1,3,5,7,8,9,15],[2],[1,3,7,8,9],[1,3,7,8,9],[2]])
def agh:aN:=bZ [ro 1 (.ic 100 (.t 0)),yS 2] [1] (bZ [eQ 3 100 1 1,dU 4 97 3,⟨some 5,.shr (.dz 98 1 [(0,(.t 4))]),none⟩,eQ 6 100 1 3,dU 7 98 6,eQ 8 100 1 4,dU 9 98 8,⟨some 10,.shr (.dz 218 3 [(0,(.t 5)),(1,(.t 7)),(2,(.t 9))]),none⟩,n_ 11 165 10,eU 2 11] [2] .ret)
noncomputable def agi:aN:=bK (bJ 13 [0,1,2] Tryz.f139 [[0,1,2],[4]])
noncomputable def agj:aN:=bK (bJ 19 [0,1] Tryz.f167 [[0,1],[0,1,7,8],[0,1,7,8,9],[0,1,5,7,8],[0,1,5,7,8,16],[4],[0,1,7,8],[4]])
noncomputable def agk:aN:=bK (bJ 9 [0,1] Tryz.f137 [[0,1],[4]])
def agl:aN:=bZ [cg 19 5,g2 20 .gtr 3 19 0,cg 21 20,eW 22 21 (.gQ 100 (.t 2) 2),eW 23 21 (.fo 9 (.t 22)),⟨some 24,.ff .eql 9 (.t 23) (.c (.str [116,97,117])),some (21,true)⟩,eW 25 21 (.hF (.t 24)),fv 26 25 (.hF (.t 5)),fv 27 25 (.ff .gtr 3 (.t 26) (.c (.int .i64 2))),eW 28 21 (.pick (.t 25) (.c (.bool true)) (.t 27)),ro 29 (.pick (.t 21) (.t 28) (.c (.bool false))),cg 30 29,fv 31 30 (.gQ 100 (.t 2) 2),fv 32 30 (.fo 9 (.t 31)),⟨some 33,.ff .neq 9 (.t 32) (.c (.str [116,97,117])),some (30,false)⟩,fv 34 30 (.hF (.t 33)),eW 35 34 (.gQ 100 (.t 2) 2),eW 36 34 (.fo 9 (.t 35)),⟨some 37,.call (.f 125) [(.t 36)],some (34,true)⟩,eW 38 34 (.un .not (.t 37)),fv 39 30 (.pick (.t 34) (.t 38) (.c (.bool false))),ro 40 (.pick (.t 30) (.c (.bool true)) (.t 39))] [2,3,40] (.cond (.t 40) (bZ [pr 4 false] [4] .ret) .skip)
def Np:aN:=bZ [ro 2 (.ic 100 (.t 0)),ro 3 (.ic 2 (.t 1)),pr 4 false] [2,3] (.seq (bZ [dU 6 100 2,n_ 7 136 6,sL 8 7,cg 9 8,fv 10 9 (.gQ 100 (.t 2) 4),fv 11 9 (.fo 98 (.t 10)),fv 12 9 (.len 98 (.t 11)),fv 13 9 (.fo 2 (.t 3)),fv 14 9 (.ff .neq 2 (.t 12) (.t 13)),ro 15 (.pick (.t 9) (.c (.bool true)) (.t 14))] [2,3,15] (.cond (.t 15) (bZ [pr 4 false] [4] .ret) .skip)) (.seq (bZ [eQ 16 100 2 3,dU 17 98 16,mD 18 98 17,eU 5 18] [2,3,5] agl) (bZ [dU 41 100 2,n_ 42 138 41,ro 43 (.nW 139 [(.t 3),(.t 2)]),sK 44 137 42 43,sL 45 44,eU 4 45] [4] .ret)))
noncomputable def agm:aN:=bK (bJ 9 [0,1] Tryz.f103 [[1,2],[3]])
noncomputable def agn:aN:=bK (bJ 19 [0,1] Tryz.f135 [[0,1],[0,1,7,8],[0,1,7,8,9],[0,1,5,7,8],[0,1,5,7,8,16],[4],[0,1,7,8],[4]])
noncomputable def ago:aN:=bK (bJ 9 [0,1] Tryz.f102 [[0,1],[4]])
noncomputable def agp:aN:=bK (bJ 25 [0] Tryz.f62 [[1],[1,19],[2],[2]])
def agq:aN:=.seq (.block 1 (bZ [rD 30 85 26 28,dU 31 29 30,⟨some 8,.nY (.t 31),none⟩] [3,4,6,8,26,27,28] (.jC [cg 32 6,cg 33 6,mE 34 33,eQ 35 112 34 2,eQ 36 32 35 0,dU 37 2 36,cg 38 6,cg 39 8,sK 40 59 38 39,ro 41 (.ff .add 2 (.c (.int .i64 1)) (.t 40)),ro 42 (.jQ true (.t 37) (.t 41)),mE 43 32,eQ 44 112 43 2,eQ 45 32 44 0,m6 2 45 42] [[],[],[1],[2],[3],[4],[],[],[6,7],[8],[5,9],[0,0,1,2,3,4,5,6,7,8,9,10],[11,0,1,2,3,4,5,6,7,8,9,10],[12,0,1,2,3,4,5,6,7,8,9,10],[13,10,8,0,1,2,3,4,5,6,7,8,9,10]] (some [3,4,6,26,27,28])))) (.fK [g2 46 .add 3 28 1,cg 28 46] (some [3,4,6,26,27,28]))
def Ue:aN:=bZ [nz 29 .lss 3 28 27] [3,4,6,26,27,28,29] (.seq (.cond (.t 29) .skip (.exit 0)) agq)
def Uf:aN:=.seq (zZ [cg 59 6,mE 60 59,eQ 61 112 60 2,eQ 62 32 61 1,dU 63 29 62,mD 64 29 63,cg 65 6,mE 66 65,eQ 67 112 66 2,eQ 68 32 67 0,dU 69 2 68,nz 70 .lss 2 64 69] [[],[0],[1],[2],[3],[4],[],[6],[7],[8],[9],[5,10]] [4,6,70] (.cond (.t 70) .skip (.exit 2))) (.block 3 (.fK [cg 71 6,cg 72 6,mE 73 72,eQ 74 112 73 2,eQ 75 32 74 1,dU 76 29 75,ro 77 (.dz 29 1 [(0,(.c (.int .i64 0)))]),KR 78 29 29 76 77,mE 79 71,eQ 80 112 79 2,eQ 81 32 80 1,m6 29 81 78] (some [4,6])))
def Ug:aN:=bZ [nz 88 .lss 3 87 86] [4,6,85,86,87,88] (.seq (.cond (.t 88) .skip (.exit 4)) (.seq (.block 5 (bZ [cg 89 87,rD 90 85 85 87,dU 91 29 90,eU 9 89,eU 10 91] [4,6,9,10,85,86,87] (.fK [cg 92 6,cg 93 9,cg 94 10,ro 95 (.j0 29 (.t 94) (.c (.int .i64 1))),dU 96 2 95,ro 97 (.ey 116 []),acd 98 61 92 93 96 97] (some [4,6,85,86,87])))) (.fK [g2 99 .add 3 87 1,cg 87 99] (some [4,6,85,86,87]))))
def agr:aN:=zZ [cg 47 6,cg 48 6,eQ 49 63 3 0,dU 50 2 49,ro 51 (.call (.f 60) [(.t 48),(.t 50),(.c (.int .i64 0))]),KQ 52 29 51,eQ 53 63 3 1,dU 54 29 53,KR 55 29 29 52 54,mE 56 47,eQ 57 112 56 2,eQ 58 32 57 1,m6 29 58 55] [[],[],[],[2],[1,3],[4],[],[6],[5,7,4],[0,0,1,2,3,4,5,6,7,8],[9,0,1,2,3,4,5,6,7,8],[10,0,1,2,3,4,5,6,7,8],[11,8,8,0,1,2,3,4,5,6,7,8]] [4,6] (.seq (.block 2 (.loop Uf)) (.seq (bZ [cg 82 6,mE 83 82,eQ 84 112 83 1,dU 85 85 84,mD 86 85 85,BM 87 0] [4,6,85,86,87] (.block 4 (.loop Ug))) (zZ [cg 100 6,mE 101 100,eQ 102 112 101 2,dU 103 32 102,cg 104 6,mE 105 104,eQ 106 112 105 2,dU 107 32 106,n_ 108 62 107,m6 32 4 103,eU 5 108] [[],[0],[1],[2],[],[4],[5],[6],[7],[3,8,0,1,2,3],[8,9,0,1,2,3,4,5,6,7,8,9]] [4,5] .ret)))
def Dp:aN:=bZ [ro 2 (.ic 39 (.t 0)),ro 3 (.ic 63 (.t 1)),w1 4 32,pr 5 false] [2,3,4] (zZ [dU 11 39 2,dU 12 39 2,n_ 13 58 12,ro 14 (.ey 112 [(0,(.t 11)),(1,(.t 13))]),ro 15 (.ic 112 (.t 14)),eU 6 15] [[],[],[1],[0,2],[3],[4,2,0,1,2,3,4]] [3,4,6] (.seq (bZ [cg 16 6,mE 17 16,eQ 18 112 17 1,dU 19 85 18,mD 20 85 19,g2 21 .gtr 3 20 64] [3,4,6,21] (.cond (.t 21) (bZ [ro 22 (.ey 32 []),m6 32 4 22,pr 5 false] [4,5] .ret) .skip)) (.seq (bZ [cg 23 6,mE 24 23,eQ 25 112 24 1,dU 26 85 25,mD 27 85 26,BM 28 0] [3,4,6,26,27,28] (.block 0 (.loop Ue))) agr)))
def ags:aN:=zZ [dU 22 39 2,eQ 23 39 2 1,dU 24 36 23,cg 25 1,rD 26 36 24 25,dU 27 63 26,sK 28 26 22 27,⟨some 21,.nZ (.t 28),none⟩,Tx 29 21 0,Tx 30 21 1,w1 6 32,m6 32 6 29,eU 7 30] [[],[],[1],[],[2,3],[4],[0,5],[6],[7],[7],[],[10,8,6,0,1,2,3,4,5,6,7,8,10],[9,11,0,1,2,3,4,5,6,7,8,9,10,11]] [4,6,7] (.seq (bZ [cg 31 7,sL 32 31] [4,6,32] (.cond (.t 32) (bZ [ro 33 (.ey 32 []),m6 32 4 33,i2 5 5] [4,5] .ret) .skip)) (bZ [dU 34 32 6,m6 32 4 34,i2 5 0] [4,5] .ret))
def JG:aN:=bZ [ro 2 (.ic 39 (.t 0)),w1 4 32,i2 5 0] [1,2,4] (.seq (.block 0 (bZ [dU 9 39 2,n_ 10 24 9,sL 11 10,eU 8 11] [1,2,4,8] (.cond (.t 8) (bZ [ro 12 (.ey 32 []),m6 32 4 12,i2 5 1] [4,5] .ret) (bZ [cg 14 1,eQ 15 39 2 1,dU 16 36 15,mD 17 36 16,sK 18 25 14 17,sL 19 18,eU 13 19] [1,2,4,13] (.cond (.t 13) (bZ [ro 20 (.ey 32 []),m6 32 4 20,i2 5 2] [4,5] .ret) .skip))))) ags)
noncomputable def agt:aN:=bK (bJ 26 [0,1] Tryz.f27 [[0,1],[0,1,10],[4],[0,1,5],[0,1,5,14],[0,1,5,25],[4],[0,1,5],[4]])
noncomputable def agu:aN:=bK (bJ 15 [0,1] Tryz.f141 [[2,3],[2,3,9],[4],[14],[4],[4]])
noncomputable def agv:aN:=bK (bJ 27 [0,1] Tryz.f105 [[0,1],[0,1,10],[4],[0,1,5],[0,1,5,14],[0,1,5,26],[4],[0,1,5],[4]])
noncomputable def Nq:aN:=bK (bJ 27 [0,1] Tryz.f106 [[0,1],[0,1,10],[4],[0,1,5],[0,1,5,14],[0,1,5,26],[4],[0,1,5],[4]])
noncomputable def agw:aN:=bK (bJ 34 [0,1] Tryz.f63 [[2,3],[2,3,10],[4],[2,3,16],[4],[2,3,21],[4],[2,3,27],[4],[33],[4],[4]])
noncomputable def agx:aN:=bK (bJ 27 [0,1] Tryz.f28 [[0,1],[0,1,10],[4],[0,1,5],[0,1,5,14],[0,1,5,26],[4],[0,1,5],[4]])
noncomputable def hx:aN:=bK (bJ 22 [0,1] Tryz.f8 [[2,3],[2,3,9],[4],[2,3,15],[4],[21],[4],[4]])
noncomputable def agy:aN:=bK (bJ 26 [0,1] Tryz.f142 [[2,3],[2,3,9],[4],[2,3,14],[4],[2,3,19],[4],[25],[4],[4]])
noncomputable def agz:aN:=bK (bJ 27 [0,1] Tryz.f107 [[0,1],[0,1,10],[4],[0,1,5],[0,1,5,14],[0,1,5,26],[4],[0,1,5],[4]])
noncomputable def agA:aN:=bK (bJ 21 [0,1] Tryz.f64 [[2,3],[2,3,9],[4],[2,3,14],[4],[20],[4],[4]])
noncomputable def agB:aN:=bK (bJ 27 [0,1] Tryz.f29 [[0,1],[0,1,10],[4],[0,1,5],[0,1,5,14],[0,1,5,26],[4],[0,1,5],[4]])
noncomputable def agC:aN:=bK (bJ 16 [0,1] Tryz.f65 [[2,3],[2,3,9],[4],[15],[4],[4]])
noncomputable def Nr:aN:=bK (bJ 27 [0,1] Tryz.f30 [[0,1],[0,1,10],[4],[0,1,5],[0,1,5,14],[0,1,5,26],[4],[0,1,5],[4]])
noncomputable def agD:aN:=bK (bJ 20 [0,1] Tryz.f66 [[2,3],[2,3,9],[4],[2,3,14],[4],[19],[4],[4]])
noncomputable def Ns:aN:=bK (bJ 27 [0,1] Tryz.f31 [[0,1],[0,1,10],[4],[0,1,5],[0,1,5,14],[0,1,5,26],[4],[0,1,5],[4]])
noncomputable def agE:aN:=bK (bJ 26 [0,1] Tryz.f32 [[0,1],[0,1,10],[4],[0,1,5],[0,1,5,14],[0,1,5,25],[4],[0,1,5],[4]])
noncomputable def JH:aN:=bK (bJ 35 [0,1] Tryz.f9 [[2,3],[2,3,10],[4],[2,3,16],[4],[2,3,22],[4],[2,3,28],[4],[34],[4],[4]])
def Uh:aN:=.seq (bZ [cg 6 0,g2 7 .gtr 3 6 0] [0,3,7] (.cond (.t 7) .skip (.exit 0))) (.block 1 (bZ [cg 8 0,g2 9 .rem 3 8 10,ro 10 (.ff .add 3 (.c (.int .i64 48)) (.t 9)),Ty 11 3 5 10,KQ 12 160 11,Ty 13 160 9 12,cg 14 3,nz 15 .add 9 13 14,eU 3 15] [0,3] (.fK [cg 16 0,g2 17 .quo 3 16 10,eU 0 17] (some [0,3]))))
def agF:aN:=bZ [ro 2 (.mY (.c (.str [])))] [0] (.seq (bZ [cg 4 0,g2 5 .leq 3 4 0] [0,5] (.cond (.t 5) (bZ [ro 2 (.mY (.c (.str [109,48])))] [2] .ret) .skip)) (bZ [ro 3 (.mY (.c (.str [])))] [0,3] (.seq (.block 0 (.loop Uh)) (bZ [cg 18 3,ro 19 (.ff .add 9 (.c (.str [109])) (.t 18)),eU 2 19] [2] .ret))))
noncomputable def agG:aN:=bK (bJ 27 [0] Tryz.f69 [[0,1],[0,1,5],[0,1,5,9],[0,1,5],[0,1,5],[0,1,5],[0,1,5],[0,1,5],[0,4]])
noncomputable def agH:aN:=bK (bJ 19 [0] Tryz.f70 [[0,1],[0,1,5],[0,1,5,9],[0,1,5],[0,1,5],[0,4]])
noncomputable def Nt:aN:=bK (bJ 42 [0] Tryz.f68 [[0,1],[0,1,5],[0,1,5,9],[0,1,5],[0,1,5],[0,1,5],[0,1,5],[0,1,5],[0,1,5],[0,1,5],[0,1,5],[0,4]])
noncomputable def tY:aN:=bK (bJ 35 [0] Tryz.f33 [[0,1],[0,1,5],[0,1,5,9],[0,1,5],[0,1,5],[0,1,5],[0,1,5],[0,1,5],[0,1,5],[0,4]])
noncomputable def Nu:aN:=bK (bJ 19 [0] Tryz.f37 [[0,1],[0,1,5],[0,1,5,9],[0,1,5],[0,1,5],[0,1,5],[0,4]])
noncomputable def Nv:aN:=bK (bJ 27 [0] Tryz.f34 [[0,1],[0,1,5],[0,1,5,9],[0,1,5],[0,1,5],[0,1,5],[0,1,5],[0,4]])
noncomputable def agI:aN:=bK (bJ 37 [0] Tryz.f35 [[0,1],[0,1,5],[0,1,5,9],[0,1,5],[0,1,5],[0,1,5],[0,1,5],[0,1,5],[0,1,5],[0,1,5],[0,4]])
noncomputable def agJ:aN:=bK (bJ 20 [0] Tryz.f36 [[0,1],[0,1,5],[0,1,5,9],[0,1,5],[0,1,5],[0,1,5],[0,4]])
def agK:aN:=bZ [eQ 5 39 2 0,dU 6 35 5,cg 7 1,⟨some 8,.la (.f 33) [(.t 6),(.t 7)] [2],none⟩,eU 1 8] [0,1,2] (bZ [eQ 9 39 2 1,dU 10 36 9,cg 11 1,⟨some 12,.la (.f 34) [(.t 10),(.t 11)] [2],none⟩,eU 1 12] [0,1,2] (bZ [eQ 13 39 2 2,dU 14 37 13,cg 15 1,⟨some 16,.la (.f 35) [(.t 14),(.t 15)] [2],none⟩,eU 1 16] [0,1,2] (bZ [eQ 17 39 2 3,dU 18 25 17,cg 19 1,⟨some 20,.la (.f 36) [(.t 18),(.t 19)] [2],none⟩,eU 1 20] [0,1,2] (bZ [eQ 21 39 2 4,dU 22 25 21,cg 23 1,sK 24 36 22 23,eU 1 24] [0,1] (bZ [cg 25 1,eU 4 25] [0,4] .ret)))))
def agL:aN:=bZ [⟨some 2,.kA 39 (.t 0),none⟩,i2 4 0] [0,1,2] agK
noncomputable def Dq:aN:=bK (bJ 49 [0] Tryz.f38 [[0,1],[0,1,5],[0,1,5,9],[0,1,5],[0,1,5],[0,1,5],[0,1,5],[0,1,5],[0,1,5],[0,1,5],[0,4]])
def agM:aN:=bZ [⟨some 2,.kA 32 (.t 0),none⟩,i2 4 0] [0,1,2] (bZ [eQ 5 32 2 1,dU 6 29 5,cg 7 1,⟨some 8,.la (.f 37) [(.t 6),(.t 7)] [2],none⟩,eU 1 8] [0,1,2] (bZ [eQ 9 32 2 2,dU 10 30 9,cg 11 1,sK 12 38 10 11,eU 1 12] [0,1] (bZ [cg 13 1,eU 4 13] [0,4] .ret)))
noncomputable def Nw:aN:=bK (bJ 21 [0] Tryz.f39 [[0,1],[0,1,5],[0,1,5,9],[0,1,5,17],[4],[0,1,5],[0,1,5],[4]])
noncomputable def agN:aN:=bK (bJ 31 [0] Tryz.f71 [[0,1],[0,1,5],[0,1,5,9],[0,1,5,18],[4],[0,1,5],[0,1,5,27],[4],[0,1,5],[0,1,5],[4]])
noncomputable def agO:aN:=bK (bJ 21 [0] Tryz.f72 [[0,1],[0,1,5],[0,1,5,9],[0,1,5],[0,1,5,19],[4],[0,1,5],[4]])
noncomputable def agP:aN:=bK (bJ 59 [0] Tryz.f40 [[0,1],[0,1,5],[0,1,5,9],[0,1,5],[0,1,5,20],[4],[0,1,5],[0,1,5,29],[4],[0,1,5,37],[4],[0,1,5],[0,1,5],[0,1,5,48],[4],[0,1,5],[0,1,5,57],[4],[0,1,5],[4]])
noncomputable def Dr:aN:=bK (bJ 18 [0] Tryz.f12 [[1,2],[1,2],[1,2,10],[4],[1],[1,16],[4],[4]])
noncomputable def nu:aN:=bK (bJ 101 [0,1] Tryz.f3 [[1,2],[1,2,5],[1,2,5],[1,2,20],[4],[1,2,6,7],[1,2,6,7,8],[1,2,6,7,8,9,10],[1,2,6,7,8,9,10,44],[4],[1,2,6,7,8,9,10,49],[4],[1,2,6,7,8,9,10,11],[1,2,6,7,9,10,11],[1,2,6,7,9,65],[4],[1,2,6,7,9,12],[1,2,6,7,9,12],[1,2,6,7,9,12,13],[1,2,6,7,9,12,13],[1,2,6,7,9,12,13,73],[4],[1,2,6,7,9,12,76],[4],[6,7,9,12,14,15],[9,12,92],[4],[9,12,13],[12,13],[12,13,97],[4],[100],[4],[4]])
def z0:=PLift.up (And.intro @Bool.not_true @Bool.not_false)
def aqT:=PLift.up (And.intro @length_append.{0} (And.intro @length_cons.{0} (And.intro @length_nil.{0} (And.intro @length_map.{0,0} (And.intro @length_replicate.{0} (And.intro @Nat.zero_add @Nat.add_zero))))))
end Go.Proofs.YtmaenemdkobeeaaGreat
