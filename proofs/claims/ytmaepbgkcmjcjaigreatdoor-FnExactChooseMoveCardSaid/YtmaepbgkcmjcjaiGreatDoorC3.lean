/- Part of a proof that a law returns true for every input. No condition. -/
import Derived.Test.YtmaepbgkcmjcjaiGreatDoorTb
import Derived.Test.YtmaepbgkcmjcjaiGreatDoorFwL
import Derived.Test.YtmaepbgkcmjcjaiGreatDoorP3
namespace Go.Proofs.YtmaepbgkcmjcjaiGreatDoor
open List Option Go.IntKind Nat
open Go Go.eg Go.l_
set_option linter.unusedSimpArgs false
def mV (x:ji):I:=.agg [.int .i64 x.Kind,.int .i64 x.Value]
theorem ajp (x:ji):(mV x).share=mV x:=by
 simp only[mV,cS]
theorem axM (x:ji):(mV x).c1=true:=by
 simp only[mV,I.c1,I.gV,Bool.and_self]
def lr (x:azo):I:=.slice (x.map mV)
theorem XM (x:azo):(lr x).share=lr x:=by
 simp only[lr,cS, @bZ _ mV mV (λ_=>ajp _)]
def kv (x:lk):I:=.agg [.int .i64 x.Kind,.int .i64 x.Number,.str x.Name,.slice (x.cL.map lr)]
theorem XN (x:lk):(kv x).share=kv x:=by
 simp only[kv,cS, @bZ _ lr lr (λ_=>XM _)]
def jU (x:ll):I:=.agg [.str x.Name,.int .i64 x.ek,.slice (x.Body.map kv)]
theorem XO (x:ll):(jU x).share=jU x:=by
 simp only[jU,cS, @bZ _ kv kv (λ_=>XN _)]
def a1 (x:Int):I:=.int .i64 x
theorem j_ (x:Int):(a1 x).share=a1 x:=by
 simp only[a1,cS]
theorem KN (x:Int):(a1 x).c1=true:=by
 simp only[a1,I.c1,I.gV,Bool.and_self]
def jV (x:ln):I:=.agg [.int .i64 x.cE,.slice (x.bV.map a1)]
theorem XP (x:ln):(jV x).share=jV x:=by
 simp only[jV,cS, @bZ _ a1 a1 (λ_=>j_ _)]
def jw (x:k2):I:=.agg [.str x.Left,.str x.cY,.str x.Result]
theorem XQ (x:k2):(jw x).share=jw x:=by
 simp only[jw,cS]
theorem axN (x:k2):(jw x).c1=true:=by
 simp only[jw,I.c1,I.gV,Bool.and_self]
def aX (x:azc):I:=.str x
theorem lu (x:azc):(aX x).share=aX x:=by
 simp only[aX,cS]
theorem XR (x:azc):(aX x).c1=true:=by
 simp only[aX,I.c1,I.gV,Bool.and_self]
def s9 (x:oK):I:=.agg [.slice (x.cw.map jU),.slice (x.cg.map jV),.slice (x.b8.map jw),.slice (x.cB.map aX),.slice (x.cy.map aX)]
theorem axO (x:oK):(s9 x).share=s9 x:=by
 simp only[s9,cS, @bZ _ jU jU (λ_=>XO _), @bZ _ jV jV (λ_=>XP _), @bZ _ jw jw (λ_=>XQ _), @bZ _ aX aX (λ_=>lu _)]
def lv (x:lo):I:=.agg [.int .i64 x.cE,.int .i64 x.Part,.slice (x.bV.map a1)]
theorem axP (x:lo):(lv x).share=lv x:=by
 simp only[lv,cS, @bZ _ a1 a1 (λ_=>j_ _)]
def kR (x:k3):I:=.agg [.int .i64 x.Choice,.int .i64 x.fa,.int .i64 x.Second,.str x.Label]
theorem axQ (x:k3):(kR x).share=kR x:=by
 simp only[kR,cS]
theorem axR (x:k3):(kR x).c1=true:=by
 simp only[kR,I.c1,I.gV,Bool.and_self]
def QN (x:azq):I:=.slice (x.map jU)
theorem axS (x:azq):(QN x).share=QN x:=by
 simp only[QN,cS, @bZ _ jU jU (λ_=>XO _)]
def QO (x:azr):I:=.slice (x.map jV)
theorem axT (x:azr):(QO x).share=QO x:=by
 simp only[QO,cS, @bZ _ jV jV (λ_=>XP _)]
def QP (x:azs):I:=.slice (x.map jw)
theorem axU (x:azs):(QP x).share=QP x:=by
 simp only[QP,cS, @bZ _ jw jw (λ_=>XQ _)]
def GO (x:azb):I:=.slice (x.map aX)
theorem axV (x:azb):(GO x).share=GO x:=by
 simp only[GO,cS, @bZ _ aX aX (λ_=>lu _)]
def QQ (x:azp):I:=.slice (x.map kv)
theorem axW (x:azp):(QQ x).share=QQ x:=by
 simp only[QQ,cS, @bZ _ kv kv (λ_=>XN _)]
def QR (x:azl):I:=.slice (x.map lr)
theorem axX (x:azl):(QR x).share=QR x:=by
 simp only[QR,cS, @bZ _ lr lr (λ_=>XM _)]
def GP (x:aze):I:=.slice (x.map a1)
theorem axY (x:aze):(GP x).share=GP x:=by
 simp only[GP,cS, @bZ _ a1 a1 (λ_=>j_ _)]
def ef (x:ca):I:=.agg [.int .i64 x.Kind,.int .i64 x.Value]
theorem KO (x:ca):(ef x).share=ef x:=by
 simp only[ef,cS]
theorem ajq (x:ca):(ef x).c1=true:=by
 simp only[ef,I.c1,I.gV,Bool.and_self]
def iY (x:azv):I:=.slice (x.map ef)
theorem QS (x:azv):(iY x).share=iY x:=by
 simp only[iY,cS, @bZ _ ef ef (λ_=>KO _)]
def ei (x:cQ):I:=.agg [.int .i64 x.Kind,.int .i64 x.Number,.str x.Name,.slice (x.cL.map iY)]
theorem KP (x:cQ):(ei x).share=ei x:=by
 simp only[ei,cS, @bZ _ iY iY (λ_=>QS _)]
def bg (x:a6):I:=.agg [.str x.Name,.int .i64 x.ek,.slice (x.Body.map ei)]
theorem s_ (x:a6):(bg x).share=bg x:=by
 simp only[bg,cS, @bZ _ ei ei (λ_=>KP _)]
def nL (x:azv):I:=.ak 2 (x.map ef)
theorem XS (x:azv):(nL x).share=iY x:=by
 simp only[nL,iY,cS, @bZ _ ef ef (λ_=>KO _)]
theorem XT (x:azv):(nL x).c1=true:=by
 simp only[nL,I.c1,I.gV,Bool.and_self, @k1 _ ef (λ_=>ajq _)]
def mW (x:cQ):I:=.agg [.int .i64 x.Kind,.int .i64 x.Number,.str x.Name,.ak 1 (x.cL.map nL)]
theorem XU (x:cQ):(mW x).share=ei x:=by
 simp only[mW,ei,cS, @bZ _ nL iY (λ_=>XS _)]
theorem XV (x:cQ):(mW x).c1=true:=by
 simp only[mW,I.c1,I.gV,Bool.and_self, @k1 _ nL (λ_=>XT _)]
def lP (x:a6):I:=.agg [.str x.Name,.int .i64 x.ek,.ak 4 (x.Body.map mW)]
theorem GQ (x:a6):(lP x).share=bg x:=by
 simp only[lP,bg,cS, @bZ _ mW ei (λ_=>XU _)]
theorem XW (x:a6):(lP x).c1=true:=by
 simp only[lP,I.c1,I.gV,Bool.and_self, @k1 _ mW (λ_=>XV _)]
def KQ (x:azw):I:=.ak 4 (x.map mW)
def GR (x:azw):I:=.slice (x.map ei)
theorem axZ (x:azw):(GR x).share=GR x:=by
 simp only[GR,cS, @bZ _ ei ei (λ_=>KP _)]
theorem ax0 (x:azw):(KQ x).share=GR x:=by
 simp only[KQ,GR,cS, @bZ _ mW ei (λ_=>XU _)]
theorem ax1 (x:azw):(KQ x).c1=true:=by
 simp only[KQ,I.c1,I.gV,Bool.and_self, @k1 _ mW (λ_=>XV _)]
def KR (x:azm):I:=.ak 1 (x.map nL)
def GS (x:azm):I:=.slice (x.map iY)
theorem ax2 (x:azm):(GS x).share=GS x:=by
 simp only[GS,cS, @bZ _ iY iY (λ_=>QS _)]
theorem ax3 (x:azm):(KR x).share=GS x:=by
 simp only[KR,GS,cS, @bZ _ nL iY (λ_=>XS _)]
theorem ax4 (x:azm):(KR x).c1=true:=by
 simp only[KR,I.c1,I.gV,Bool.and_self, @k1 _ nL (λ_=>XT _)]
def dm (x:dx):I:=.agg [.int .i64 x.cE,.slice (x.bV.map a1)]
theorem z8 (x:dx):(dm x).share=dm x:=by
 simp only[dm,cS, @bZ _ a1 a1 (λ_=>j_ _)]
def lQ (x:dx):I:=.agg [.int .i64 x.cE,.ak 1 (x.bV.map a1)]
theorem GU (x:dx):(lQ x).share=dm x:=by
 simp only[lQ,dm,cS, @bZ _ a1 a1 (λ_=>j_ _)]
theorem XX (x:dx):(lQ x).c1=true:=by
 simp only[lQ,I.c1,I.gV,Bool.and_self, @k1 _ a1 (λ_=>KN _)]
def KS (x:aze):I:=.ak 1 (x.map a1)
theorem ax5 (x:aze):(KS x).share=GP x:=by
 simp only[KS,GP,cS, @bZ _ a1 a1 (λ_=>j_ _)]
theorem ax6 (x:aze):(KS x).c1=true:=by
 simp only[KS,I.c1,I.gV,Bool.and_self, @k1 _ a1 (λ_=>KN _)]
def bS (x:ch):I:=.agg [.str x.Left,.str x.cY,.str x.Result]
theorem rH (x:ch):(bS x).share=bS x:=by
 simp only[bS,cS]
theorem XY (x:ch):(bS x).c1=true:=by
 simp only[bS,I.c1,I.gV,Bool.and_self]
def wA (x:cM):I:=.agg [.ak 3 (x.cw.map lP),.ak 2 (x.cg.map lQ),.ak 3 (x.b8.map bS),.ak 1 (x.cB.map aX),.ak 1 (x.cy.map aX)]
def fk (x:cM):I:=.agg [.slice (x.cw.map bg),.slice (x.cg.map dm),.slice (x.b8.map bS),.slice (x.cB.map aX),.slice (x.cy.map aX)]
theorem ax7 (x:cM):(fk x).share=fk x:=by
 simp only[fk,cS, @bZ _ bg bg (λ_=>s_ _), @bZ _ dm dm (λ_=>z8 _), @bZ _ bS bS (λ_=>rH _), @bZ _ aX aX (λ_=>lu _)]
theorem ax8 (x:cM):(wA x).share=fk x:=by
 simp only[wA,fk,cS, @bZ _ lP bg (λ_=>GQ _), @bZ _ lQ dm (λ_=>GU _), @bZ _ bS bS (λ_=>rH _), @bZ _ aX aX (λ_=>lu _)]
theorem ax9 (x:cM):(wA x).c1=true:=by
 simp only[wA,I.c1,I.gV,Bool.and_self, @k1 _ lP (λ_=>XW _), @k1 _ lQ (λ_=>XX _), @k1 _ bS (λ_=>XY _), @k1 _ aX (λ_=>XR _)]
def KT (x:azx):I:=.ak 3 (x.map lP)
def GV (x:azx):I:=.slice (x.map bg)
theorem ax_ (x:azx):(GV x).share=GV x:=by
 simp only[GV,cS, @bZ _ bg bg (λ_=>s_ _)]
theorem aya (x:azx):(KT x).share=GV x:=by
 simp only[KT,GV,cS, @bZ _ lP bg (λ_=>GQ _)]
theorem ayb (x:azx):(KT x).c1=true:=by
 simp only[KT,I.c1,I.gV,Bool.and_self, @k1 _ lP (λ_=>XW _)]
def KU (x:azy):I:=.ak 2 (x.map lQ)
def GW (x:azy):I:=.slice (x.map dm)
theorem ayc (x:azy):(GW x).share=GW x:=by
 simp only[GW,cS, @bZ _ dm dm (λ_=>z8 _)]
theorem ayd (x:azy):(KU x).share=GW x:=by
 simp only[KU,GW,cS, @bZ _ lQ dm (λ_=>GU _)]
theorem aye (x:azy):(KU x).c1=true:=by
 simp only[KU,I.c1,I.gV,Bool.and_self, @k1 _ lQ (λ_=>XX _)]
def KV (x:azz):I:=.ak 3 (x.map bS)
def GX (x:azz):I:=.slice (x.map bS)
theorem ayf (x:azz):(GX x).share=GX x:=by
 simp only[GX,cS, @bZ _ bS bS (λ_=>rH _)]
theorem ayg (x:azz):(KV x).share=GX x:=by
 simp only[KV,GX,cS, @bZ _ bS bS (λ_=>rH _)]
theorem ayh (x:azz):(KV x).c1=true:=by
 simp only[KV,I.c1,I.gV,Bool.and_self, @k1 _ bS (λ_=>XY _)]
def KW (x:azb):I:=.ak 1 (x.map aX)
theorem ayi (x:azb):(KW x).share=GO x:=by
 simp only[KW,GO,cS, @bZ _ aX aX (λ_=>lu _)]
theorem ayj (x:azb):(KW x).c1=true:=by
 simp only[KW,I.c1,I.gV,Bool.and_self, @k1 _ aX (λ_=>XR _)]
def bC (x:bp):I:=.agg [.int .i64 x.cE,.int .i64 x.Part,.slice (x.bV.map a1)]
theorem wB (x:bp):(bC x).share=bC x:=by
 simp only[bC,cS, @bZ _ a1 a1 (λ_=>j_ _)]
def eO (x:bp):I:=.agg [.int .i64 x.cE,.int .i64 x.Part,.ak 1 (x.bV.map a1)]
theorem pw (x:bp):(eO x).share=bC x:=by
 simp only[eO,bC,cS, @bZ _ a1 a1 (λ_=>j_ _)]
theorem Dk (x:bp):(eO x).c1=true:=by
 simp only[eO,I.c1,I.gV,Bool.and_self, @k1 _ a1 (λ_=>KN _)]
def fC (x:fu):I:=.agg [.int .i64 x.Choice,.int .i64 x.fa,.int .i64 x.Second,.str x.Label]
theorem KX (x:fu):(fC x).share=fC x:=by
 simp only[fC,cS]
theorem ayk (x:fu):(fC x).c1=true:=by
 simp only[fC,I.c1,I.gV,Bool.and_self]
def fw (x:bf):I:=.agg [.str x.Label,.int .i64 x.fa,.int .i64 x.Second,.slice (x.State.map bC)]
theorem XZ (x:bf):(fw x).share=fw x:=by
 simp only[fw,cS, @bZ _ bC bC (λ_=>wB _)]
def GY (x:azA):I:=.slice (x.map bC)
theorem ayl (x:azA):(GY x).share=GY x:=by
 simp only[GY,cS, @bZ _ bC bC (λ_=>wB _)]
def c8 (x:bb):I:=.agg [.str x.Label,bC x.Next]
theorem Dl (x:bb):(c8 x).share=c8 x:=by
 simp only[c8,cS,wB]
def gj (x:azD):I:=.slice (x.map c8)
theorem aym (x:azD):(gj x).share=gj x:=by
 simp only[gj,cS, @bZ _ c8 c8 (λ_=>Dl _)]
def hF (x:bb):I:=.agg [.str x.Label,eO x.Next]
theorem GZ (x:bb):(hF x).share=c8 x:=by
 simp only[hF,c8,cS,pw]
theorem ajr (x:bb):(hF x).c1=true:=by
 simp only[hF,I.c1,I.gV,Bool.and_self,Dk]
def G0 (x:azD):I:=.ak 4 (x.map hF)
theorem ayn (x:azD):(G0 x).share=gj x:=by
 simp only[G0,gj,cS, @bZ _ hF c8 (λ_=>GZ _)]
theorem ayo (x:azD):(G0 x).c1=true:=by
 simp only[G0,I.c1,I.gV,Bool.and_self, @k1 _ hF (λ_=>ajr _)]
def ff (x:dB):I:=.agg [.int .i64 x.scope,.bool x.behind]
theorem X0 (x:dB):(ff x).share=ff x:=by
 simp only[ff,cS]
theorem ajs (x:dB):(ff x).c1=true:=by
 simp only[ff,I.c1,I.gV,Bool.and_self]
def G1 (x:Bool):I:=.bool x
theorem ayp (x:Bool):(G1 x).share=G1 x:=by
 simp only[G1,cS]
theorem ayq (x:Bool):(G1 x).c1=true:=by
 simp only[G1,I.c1,I.gV,Bool.and_self]
def ye (x:uj):I:=.agg [.int .i64 x.uk,.int .i64 x.zt]
theorem ayr (x:uj):(ye x).share=ye x:=by
 simp only[ye,cS]
theorem ays (x:uj):(ye x).c1=true:=by
 simp only[ye,I.c1,I.gV,Bool.and_self]
theorem ajt:(∀a0 J,(dq.mk a0 J).term=a0)/\(∀a0 J,(dq.mk a0 J).args=J):=⟨λ_ _=>rfl,λ_ _=>rfl⟩
mutual
def qJ:dq->I
 | .mk a0 J=>.agg [ef a0,.slice (rI J)]
def rI:List dq->azk
 |[]=>[]
 |y::r=>.ref (qJ y)::rI r
end
def p2 (x:dq):I:=.ref (qJ x)
theorem X1:∀l,rI l=l.map p2
 |[]=>by simp only[rI,map_nil]
 |y::r=>by simp only[rI,map_cons,X1 r,p2]
theorem aju (x:dq):qJ x= .agg [ef x.term,.slice (x.args.map p2)]:=by
 cases x;simp only[qJ,X1,dq.term,dq.args]
mutual
theorem X2:∀x:dq,(qJ x).share=qJ x
 | .mk a0 J=>by simp only[qJ,cS,I.share,I.shares,X3 J,KO]
theorem X3:∀l:List dq,I.shares (rI l)=rI l
 |[]=>by simp only[rI,I.shares]
 |y::r=>by simp only[rI,I.shares,I.share,X2 y,X3 r]
end
theorem ajv (x:dq):(p2 x).share=p2 x:=by simp only[p2,I.share,X2]
mutual
def yf:dq->I
 | .mk a0 J=>.agg [ef a0,.ak 1 (ta J)]
def ta:List dq->azk
 |[]=>[]
 |y::r=>.aQ (yf y)::ta r
end
def lR (x:dq):I:=.aQ (yf x)
theorem X4:∀l,ta l=l.map lR
 |[]=>by simp only[ta,map_nil]
 |y::r=>by simp only[ta,map_cons,X4 r,lR]
theorem ajw (x:dq):yf x= .agg [ef x.term,.ak 1 (x.args.map lR)]:=by
 cases x;simp only[yf,X4,dq.term,dq.args]
mutual
theorem X5:∀x:dq,(yf x).share=qJ x
 | .mk a0 J=>by simp only[yf,qJ,cS,I.share,I.shares,X6 J,KO]
theorem X6:∀l:List dq,I.shares (ta l)=rI l
 |[]=>by simp only[ta,rI,I.shares]
 |y::r=>by simp only[ta,rI,I.shares,I.share,X5 y,X6 r]
end
theorem X7 (x:dq):(lR x).share=p2 x:=by simp only[lR,p2,I.share,X5]
mutual
theorem X8:∀x:dq,(yf x).c1=true
 | .mk a0 J=>by simp[yf,I.c1,I.gV,X9 J,ef]
theorem X9:∀l:List dq,I.gV (ta l)=true
 |[]=>by simp only[ta,I.gV]
 |y::r=>by simp only[ta,I.gV,I.c1,X8 y,X9 r,Bool.and_self]
end
theorem ajx (x:dq):(lR x).c1=true:=by simp only[lR,I.c1,X8]
def KY (x:List dq):I:=.ak 1 (x.map lR)
def G2 (x:List dq):I:=.slice (x.map p2)
theorem ayt (x:List dq):(G2 x).share=G2 x:=by
 simp only[G2,cS, @bZ _ p2 p2 (λ_=>ajv _)]
theorem ayu (x:List dq):(KY x).share=G2 x:=by
 simp only[KY,G2,cS, @bZ _ lR p2 (λ_=>X7 _)]
theorem ayv (x:List dq):(KY x).c1=true:=by
 simp only[KY,I.c1,I.gV,Bool.and_self, @k1 _ lR (λ_=>ajx _)]
def fQ (x:bf):I:=.agg [.str x.Label,.int .i64 x.fa,.int .i64 x.Second,.ak 3 (x.State.map eO)]
theorem QT (x:bf):(fQ x).share=fw x:=by
 simp only[fQ,fw,cS, @bZ _ eO bC (λ_=>pw _)]
theorem ayw (x:bf):(fQ x).c1=true:=by
 simp only[fQ,I.c1,I.gV,Bool.and_self, @k1 _ eO (λ_=>Dk _)]
def KZ (x:azA):I:=.ak 3 (x.map eO)
theorem ayx (x:azA):(KZ x).share=GY x:=by
 simp only[KZ,GY,cS, @bZ _ eO bC (λ_=>pw _)]
theorem ayy (x:azA):(KZ x).c1=true:=by
 simp only[KZ,I.c1,I.gV,Bool.and_self, @k1 _ eO (λ_=>Dk _)]
noncomputable def c201:aB:=bG (bF 12 [0] Tryz.f201 [[0,1],[1],[1,10],[4],[4]])
noncomputable def ajy:aB:=bG (bF 27 [0] Tryz.f166 [[0,1],[0,1],[0,1,11],[4],[0,1,5],[0,1,5,15],[0,1,5],[0,1,5,25],[4],[0,1,5],[4]])
noncomputable def c119:aB:=bG (bF 19 [0] Tryz.f119 [[1,2],[1,2],[1,2,11],[4],[1],[1,17],[4],[4]])
noncomputable def c85:aB:=bG (bF 27 [0] Tryz.f85 [[0,1],[0,1],[0,1,11],[4],[0,1,5],[0,1,5,15],[0,1,5],[0,1,5,25],[4],[0,1,5],[4]])
noncomputable def ajz:aB:=bG (bF 19 [0] Tryz.f43 [[1,2],[1,2],[1,2,11],[4],[1],[1,17],[4],[4]])
noncomputable def ajA:aB:=bG (bF 27 [0] Tryz.f15 [[0,1],[0,1],[0,1,11],[4],[0,1,5],[0,1,5,15],[0,1,5],[0,1,5,25],[4],[0,1,5],[4]])
noncomputable def c46:aB:=bG (bF 12 [0] Tryz.f46 [[0,1],[1],[1,10],[4],[4]])
noncomputable def G3:aB:=bG (bF 12 [0] Tryz.f44 [[1,2],[1],[1,10],[4],[4]])
noncomputable def jk:aB:=bG (bF 27 [0] Tryz.f16 [[0,1],[0,1],[0,1,11],[4],[0,1,5],[0,1,5,15],[0,1,5],[0,1,5,25],[4],[0,1,5],[4]])
noncomputable def ajB:aB:=bG (bF 27 [0] Tryz.f45 [[1,2],[1,2],[1,2,11],[4],[1,2],[1,2,18],[4],[1],[1,25],[4],[4]])
noncomputable def ajC:aB:=bG (bF 27 [0] Tryz.f17 [[0,1],[0,1],[0,1,11],[4],[0,1,5],[0,1,5,15],[0,1,5],[0,1,5,25],[4],[0,1,5],[4]])
noncomputable def ajD:aB:=bG (bF 28 [0] Tryz.f18 [[0,1],[0,1],[0,1,11],[4],[0,1,5],[0,1,5,15],[0,1,5],[0,1,5,26],[4],[0,1,5],[4]])
noncomputable def c4:aB:=bG (bF 36 [0] Tryz.f4 [[1,2],[1,2],[1,2,10],[4],[1,2],[1,2,16],[4],[1,2],[1,2,22],[4],[1,2],[1,2,28],[4],[1],[1,34],[4],[4]])
noncomputable def ajE:aB:=bG (bF 12 [0] Tryz.f19 [[1,2],[1],[1,10],[4],[4]])
noncomputable def c5:aB:=bG (bF 27 [0] Tryz.f5 [[0,1],[0,1],[0,1,11],[4],[0,1,5],[0,1,5,15],[0,1,5],[0,1,5,25],[4],[0,1,5],[4]])
noncomputable def c20:aB:=bG (bF 13 [0] Tryz.f20 [[1,2],[1],[1,11],[4],[4]])
noncomputable def ft:aB:=bG (bF 27 [0] Tryz.f6 [[0,1],[0,1],[0,1,11],[4],[0,1,5],[0,1,5,15],[0,1,5],[0,1,5,25],[4],[0,1,5],[4]])
noncomputable def ajF:aB:=bG (bF 11 [0] Tryz.f240 [[1,2],[1,2,3],[1,2,3],[2,3],[2]])
noncomputable def ajG:aB:=bG (bF 23 [0] Tryz.f207 [[0],[0,3],[0,3,4],[0,3,4,11],[0,3,4],[0,3,4],[2]])
noncomputable def c173:aB:=bG (bF 23 [0] Tryz.f173 [[0],[0,3],[0,3,4],[0,3,4,11],[0,3,4],[0,3,4],[2]])
noncomputable def ajH:aB:=bG (bF 18 [0] Tryz.f136 [[1,2],[1,2,3],[1,2,3],[1,2,3],[1,2,3],[2,3],[2]])
noncomputable def ajI:aB:=bG (bF 23 [0] Tryz.f97 [[0],[0,3],[0,3,4],[0,3,4,11],[0,3,4],[0,3,4],[2]])
noncomputable def ajJ:aB:=bG (bF 15 [0] Tryz.f60 [[1,2],[1,2,3],[1,2,3],[1,2,3],[2,3],[2]])
noncomputable def QU:aB:=bG (bF 23 [0] Tryz.f26 [[0],[0,3],[0,3,4],[0,3,4,11],[0,3,4],[0,3,4],[2]])
noncomputable def ajK:aB:=bG (bF 22 [0] Tryz.f63 [[0],[0,3],[0,3,4],[0,3,4,11],[0,3,4],[0,3,4],[2]])
noncomputable def ajL:aB:=bG (bF 12 [0] Tryz.f61 [[1,2],[1,2,3],[1,2,3],[2,3],[2]])
noncomputable def ajM:aB:=bG (bF 23 [0] Tryz.f27 [[0],[0,3],[0,3,4],[0,3,4,11],[0,3,4],[0,3,4],[2]])
noncomputable def ajN:aB:=bG (bF 14 [0] Tryz.f62 [[1,2],[1,2,3],[1,2,3],[1,2,3],[2,3],[2]])
noncomputable def c28:aB:=bG (bF 23 [0] Tryz.f28 [[0],[0,3],[0,3,4],[0,3,4,11],[0,3,4],[0,3,4],[2]])
noncomputable def ajO:aB:=bG (bF 22 [0] Tryz.f29 [[0],[0,3],[0,3,4],[0,3,4,11],[0,3,4],[0,3,4],[2]])
noncomputable def hQ:aB:=bG (bF 25 [0] Tryz.f8 [[1,2],[1,2,3],[1,2,3],[1,2,3],[1,2,3],[1,2,3],[2,3],[2]])
noncomputable def ajP:aB:=bG (bF 15 [0] Tryz.f30 [[1,2],[1,2,3],[1,2,3],[1,2,3],[2,3],[2]])
noncomputable def c9:aB:=bG (bF 23 [0] Tryz.f9 [[0],[0,3],[0,3,4],[0,3,4,11],[0,3,4],[0,3,4],[2]])
noncomputable def c31:aB:=bG (bF 17 [0] Tryz.f31 [[1,2],[1,2,3],[1,2,3],[1,2,3],[1,2,3],[2,3],[2]])
noncomputable def z_:aB:=bG (bF 23 [0] Tryz.f10 [[0],[0,3],[0,3,4],[0,3,4,11],[0,3,4],[0,3,4],[2]])
noncomputable def c171:aB:=bG (bF 9 [0] Tryz.f171 [[0],[2]])
noncomputable def ajQ:aB:=bG (bF 9 [0] Tryz.f172 [[0],[2]])
noncomputable def c131:aB:=bG (bF 35 [0] Tryz.f131 [[0],[0,16],[2],[0,3],[0,3,20],[0,3,34],[2],[0,3],[2]])
noncomputable def c49:aB:=bG (bF 15 [0,1,2] Tryz.f49 [[0,1,2],[6]])
noncomputable def ajR:aB:=bG (bF 13 [0] Tryz.f169 [[0],[6],[6,7],[6,7],[6,7],[2],[11],[2],[2]])
noncomputable def ajS:aB:=bG (bF 30 [0] Tryz.f202 [[0],[0,12],[2],[0,3],[0,3,4],[0,3,4,16],[0,3,4,20],[2],[0,3,4],[0,3,4],[2]])
noncomputable def ajT:aB:=bG (bF 73 [0] Tryz.f237 [[0],[0,6],[0,6,7],[0,6,7],[2],[0,6,30],[2],[0,6,37],[2],[0,6,51],[2],[0,66],[2],[2]])
noncomputable def ajU:aB:=bG (bF 18 [0] Tryz.f128 [[0,1],[0,1,5],[0,1,5,7],[0,1,5],[0,1,5],[4]])
noncomputable def c124:aB:=bG (bF 38 [0,1] Tryz.f124 [[0,1],[0,1,5],[0,1,5,6],[0,1,5,6,13],[0,1,5,6,34],[0,1,5,6],[0,1,5,6],[4]])
noncomputable def ajV:aB:=bG (bF 39 [0,1] Tryz.f263 [[0,1],[0,1,8],[0,1,8,9],[4],[0,1,8,16],[4],[0,8,25],[4],[0,32],[4],[4]])
noncomputable def ajW:aB:=bG (bF 11 [0] Tryz.f239 [[0],[6],[6,7],[2],[9],[2],[2]])
noncomputable def ajX:aB:=bG (bF 38 [0,1,2] Tryz.f238 [[0,1,2],[0,1,12],[6],[0,1,7],[0,1,7,8],[0,1,7,8,16],[0,1,7,8,28],[6],[0,1,7,8],[0,1,7,8],[6]])
def ba (r:List cq) (k:azf) (c:aB):aB:=.seq (.en r (some k)) c
def rJ (r:List cq) (a:azd) (k:azf) (c:aB):aB:=.seq (.jL r a (some k)) c
abbrev eX (d t:Nat) (o:eS):cq:=⟨some d,o,some (t,true)⟩
abbrev h0 (d t:Nat) (o:eS):cq:=⟨some d,o,some (t,false)⟩
abbrev ayz (n:Nat) (k:azf) (f:Func) (c:aB):Prop:=fZ ⟨n,k⟩ (f.body.getD .skip)=some c.strip
def X_:aB:=.cond (.t 28) (ba [hY 6 3] [6] .ret) .skip
def Ya:aB:=.cond (.t 51) (ba [hY 6 4] [6] .ret) .skip
def ajY:aB:=.cond (.t 57) (ba [aP 59 8,du 60 .gtr 2 59 2,aP 61 60,h0 62 61 (.hV (.t 8)),h0 63 61 (.eG .gtr 2 (.t 62) (.c (.int .i64 0))),h0 64 61 (.hV (.t 63)),eX 65 64 (.hP 170 (.t 7) 2),eX 66 64 (.fL 9 (.t 65)),⟨some 67,.eG .eql 9 (.t 66) (.c (.str [116,97,117])),some (64,true)⟩,h0 68 61 (.pick (.t 64) (.t 67) (.c (.bool false))),ro 69 (.pick (.t 61) (.c (.bool true)) (.t 68))] [1,2,7,8,69] (.cond (.t 69) (ba [hY 6 5] [6] .ret) .skip)) (ba [du 71 .eql 2 56 3,cc 70 71] [0,1,2,7,8,56,70] (.cond (.t 70) (ba [aP 72 8,du 73 .neq 2 72 1] [1,2,7,8,73] (.cond (.t 73) (ba [hY 6 5] [6] .ret) .skip)) (ba [du 75 .eql 2 56 5,cc 74 75] [0,1,2,7,8,74] (.cond (.t 74) (ba [aP 76 8,aP 77 0,dF 78 170 7 1,cm 79 2 78,gS 80 35 77 79,dF 81 123 80 1,cm 82 2 81,hX 83 .neq 2 76 82] [1,2,7,8,83] (.cond (.t 83) (ba [hY 6 5] [6] .ret) .skip)) .skip))))
def Yb:aB:=.cond (.t 102) (ba [hY 6 6] [6] .ret) .skip
def Yc:aB:=.seq (ba [aP 113 10,aP 114 8,hX 115 .lss 2 113 114] [7,8,9,10,115] (.cond (.t 115) .skip (.exit 1))) (.seq (.block 2 (ba [dF 118 170 7 3,cm 119 168 118,aP 120 10,gS 121 168 119 120,cm 122 207 121,aP 123 9,ro 124 (.call (.f 238) [(.t 122),(.t 123),(.c (.int .i64 15))]),rb 125 124] [7,8,9,10,125] (.cond (.t 125) (ba [hY 6 8] [6] .ret) .skip))) (.en [aP 116 10,du 117 .add 2 116 1,cc 10 117] (some [7,8,9,10])))
def Yd:aB:=.seq (ba [dF 84 170 7 0,cm 85 2 84,du 86 .eql 2 85 5,aP 87 86,eX 88 87 (.hV (.t 2)),eX 89 87 (.eG .eql 2 (.t 88) (.c (.int .i64 0))),eX 90 87 (.hV (.t 89)),h0 91 90 (.hV (.t 1)),h0 92 90 (.ml (.t 91)),h0 93 90 (.hP 123 (.t 92) 2),h0 94 90 (.fL 121 (.t 93)),h0 95 90 (.hV (.t 2)),h0 96 90 (.eG .sub 2 (.t 95) (.c (.int .i64 1))),h0 97 90 (.kF 121 (.t 94) (.t 96)),h0 98 90 (.hP 170 (.t 97) 0),h0 99 90 (.fL 2 (.t 98)),h0 100 90 (.eG .neq 2 (.t 99) (.c (.int .i64 1))),eX 101 87 (.pick (.t 90) (.c (.bool true)) (.t 100)),ro 102 (.pick (.t 87) (.t 101) (.c (.bool false)))] [1,2,7,8,102] Yb) (ba [aP 103 1,aP 104 2,kO 105 124 103 104,cc 9 105] [7,8,9] (.seq (ba [dF 106 170 7 0,cm 107 2 106,du 108 .eql 2 107 4,aP 109 108,eX 110 109 (.hV (.t 9)),eX 111 109 (.eG .geq 2 (.t 110) (.c (.int .i64 6))),ro 112 (.pick (.t 109) (.t 111) (.c (.bool false)))] [7,8,9,112] (.cond (.t 112) (ba [hY 6 7] [6] .ret) .skip)) (.seq (ba [hY 10 0] [7,8,9,10] (.block 1 (.loop Yc))) (ba [hY 6 0] [6] .ret))))
def ajZ:aB:=.seq (ba [dF 29 170 7 0,cm 30 2 29,du 31 .eql 2 30 4,aP 32 31,eX 33 32 (.hP 170 (.t 7) 1),eX 34 32 (.fL 2 (.t 33)),⟨some 35,.call (.f 49) [(.t 34),(.c (.int .i64 1)),(.c (.int .i64 7))],some (32,true)⟩,eX 36 32 (.un .not (.t 35)),ro 37 (.pick (.t 32) (.t 36) (.c (.bool false))),aP 38 37,h0 39 38 (.hP 170 (.t 7) 0),h0 40 38 (.fL 2 (.t 39)),h0 41 38 (.eG .eql 2 (.t 40) (.c (.int .i64 5))),h0 42 38 (.hV (.t 41)),eX 43 42 (.hP 170 (.t 7) 1),eX 44 42 (.fL 2 (.t 43)),eX 45 42 (.hV (.t 0)),eX 46 42 (.len 35 (.t 45)),eX 47 42 (.eG .sub 2 (.t 46) (.c (.int .i64 1))),⟨some 48,.call (.f 49) [(.t 44),(.c (.int .i64 0)),(.t 47)],some (42,true)⟩,eX 49 42 (.un .not (.t 48)),h0 50 38 (.pick (.t 42) (.t 49) (.c (.bool false))),ro 51 (.pick (.t 38) (.c (.bool true)) (.t 50))] [0,1,2,7,51] Ya) (ba [dF 52 170 7 3,cm 53 168 52,ia 54 168 53,cc 8 54] [0,1,2,7,8] (.seq (ba [dF 55 170 7 0,cm 56 2 55] [0,1,2,7,8,56] (.block 0 (ba [du 58 .eql 2 56 1,cc 57 58] [0,1,2,7,8,56,57] ajY))) Yd))
def aj0:aB:=ba [aP 11 1,np 12 11,dF 13 123 12 2,cm 14 121 13,aP 15 2,gS 16 121 14 15,cm 17 170 16,oJ 7 170,j8 170 7 17] [0,1,2,7] (.seq (ba [hK 18 237 7,rb 19 18] [0,1,2,7,19] (.cond (.t 19) (ba [hY 6 2] [6] .ret) .skip)) (.seq (ba [dF 20 170 7 0,cm 21 2 20,du 22 .eql 2 21 1,aP 23 22,eX 24 23 (.hP 170 (.t 7) 2),eX 25 23 (.fL 9 (.t 24)),⟨some 26,.call (.f 131) [(.t 25)],some (23,true)⟩,eX 27 23 (.un .not (.t 26)),ro 28 (.pick (.t 23) (.t 27) (.c (.bool false)))] [0,1,2,7,28] X_) ajZ))
def c203:aB:=ba [hY 6 0] [0,1,2] aj0
noncomputable def c167:aB:=bG (bF 31 [0,1] Tryz.f167 [[0,1],[0,1,13],[4,5],[0,1,6],[0,1,6,20],[0,1,6,7],[0,1,6,7,28],[4,5],[0,1,6],[4,5]])
noncomputable def aj1:aB:=bG (bF 70 [0] Tryz.f120 [[0],[0,15],[2],[0,3],[0,3,19],[0,3,37],[2],[0,3,4],[0,3,4,40],[0,3,4,53],[2],[0,3,4],[0,3],[0,5],[0,5,57],[0,5,7],[0,5,69],[2],[0,5],[2]])
noncomputable def aj2:aB:=bG (bF 16 [0] Tryz.f125 [[0],[0,3],[0,3,7],[0,3,15],[2],[0,3],[2]])
noncomputable def aj3:aB:=bG (bF 64 [0] Tryz.f121 [[0],[0,18],[2],[0,3],[0,3,25],[0,3,4],[0,3,4,44],[2],[0,3,63],[2],[0,3],[2]])
def aj4:aB:=ba [nF 2 false] [0] (ba [aP 3 0,hK 4 131 3,aP 5 4,eX 6 5 (.hV (.t 0)),⟨some 7,.eG .neq 9 (.t 6) (.c (.str [116,97,117])),some (5,true)⟩,ro 8 (.pick (.t 5) (.t 7) (.c (.bool false))),cc 2 8] [2] .ret)
noncomputable def aj5:aB:=bG (bF 101 [0] Tryz.f122 [[0],[0,8],[2],[0,3],[0,3,12],[0,3,4],[0,3,4,41],[2],[0,3,4,76],[2],[0,3,4,5],[0,3,4,5,80],[0,3,4,5,100],[2],[0,3,4,5],[0,3],[2]])
noncomputable def c168:aB:=bG (bF 16 [0] Tryz.f168 [[0],[0,3],[0,3,7],[0,3,15],[2],[0,3],[2]])
noncomputable def aj6:aB:=bG (bF 28 [0] Tryz.f123 [[0],[0,11],[2],[0,3],[0,3,15],[0,3,27],[2],[0,3],[2]])
noncomputable def aj7:aB:=bG (bF 30 [0] Tryz.f86 [[0],[0,8],[2],[0,11],[2],[0,17],[2],[0,23],[2],[29],[2],[2]])
noncomputable def aj8:aB:=bG (bF 6 [0] Tryz.f47 [[0],[2]])
noncomputable def c87:aB:=bG (bF 62 [0,1] Tryz.f87 [[0,1],[0,1,14],[4],[1,5],[1,5,43],[4],[4]])
noncomputable def QV:aB:=bG (bF 29 [0,1] Tryz.f48 [[0,1],[0,1,13],[4],[0,1,5],[0,1,5,17],[0,1,5,28],[4],[0,1,5],[4]])
noncomputable def c21:aB:=bG (bF 14 [0,1] Tryz.f21 [[0,1],[13],[4],[4]])
noncomputable def QW:aB:=bG (bF 11 [0,1] Tryz.f22 [[0,1],[4]])
noncomputable def aj9:aB:=bG (bF 17 [0] Tryz.f90 [[0],[0,3],[0,3,7],[0,3,13],[2],[0,3],[2]])
noncomputable def aj_:aB:=bG (bF 35 [0,1] Tryz.f133 [[0,1],[0,1,5],[0,1,5,6],[0,1,5,6,7],[0,1,5,6,7,12],[0,1,5,6,7,19],[0,1,5,7],[0,1,5,6,7],[0,1,5,6,7],[4]])
noncomputable def aka:aB:=bG (bF 62 [0] Tryz.f134 [[0],[0,4],[0,4,14],[0,4],[0,4,36],[2,3],[0,4,5],[0,4,5,6],[0,4,5,6,41],[0,4,5,6,48],[2,3],[0,4,5,6],[0,4,5,6],[5,58],[5],[2,3]])
noncomputable def c93:aB:=bG (bF 70 [0] Tryz.f93 [[0],[0,4],[0,4,15],[2,3],[0,4,31],[2,3],[5],[5,6],[5,6,7],[5,6,7,44],[5,6,7,8,9],[5,6,7,8,61],[2,3],[5,6,7],[5,6,7],[2,3]])
noncomputable def akb:aB:=bG (bF 11 [0] Tryz.f88 [[0],[4],[2]])
noncomputable def akc:aB:=bG (bF 29 [0] Tryz.f50 [[0],[2]])
noncomputable def akd:aB:=bG (bF 18 [0] Tryz.f23 [[0],[0,6],[2],[0,3],[0,3,10],[0,3,17],[2],[0,3],[2]])
noncomputable def c91:aB:=bG (bF 6 [0] Tryz.f91 [[0],[2]])
noncomputable def ake:aB:=bG (bF 4 [0] Tryz.f204 [[0],[3],[2],[2]])
noncomputable def akf:aB:=bG (bF 18 [0] Tryz.f205 [[0,1],[0,1,5],[0,1,5,7],[0,1,5],[0,1,5],[4]])
noncomputable def c206:aB:=bG (bF 67 [0,1,2] Tryz.f206 [[0,1,2],[1,2,7],[1,2,7,8],[6],[1,2,7,14],[6],[1,2,7,21],[6],[1,2,7,27],[6],[1,2,7,33],[6],[1,2,7,39],[6],[1,2,7,45],[6],[1,2,51],[6],[6]])
noncomputable def akg:aB:=bG (bF 60 [0,1,2] Tryz.f170 [[0,1,2],[0,1,2,13],[0,1,2,13,14],[6],[0,1,2,13,21],[6],[0,1,2,31],[6],[0,1,2,7],[0,2,7,8],[6]])
noncomputable def akh:aB:=bG (bF 8 [0,1] Tryz.f129 [[0,1],[4]])
noncomputable def aki:aB:=bG (bF 24 [0,1] Tryz.f126 [[0,1],[0,1,5],[0,1,5,6],[0,1,5,6,11],[0,1,5,6],[0,1,5,6],[4]])
def Ye:aB:=.en [aP 22 3,aP 23 5,ro 24 (.eG .add 2 (.c (.int .i64 48)) (.t 23)),XA 25 2 5 24,vQ 26 163 25,xW 27 163 163 22 26,cc 3 27] (some [0,3,4])
def Yf:aB:=.seq (ba [aP 12 4,du 13 .neq 2 12 0] [0,3,4,13] (.cond (.t 13) .skip (.exit 0))) (.seq (.block 1 (ba [aP 16 4,du 17 .rem 2 16 10,cc 5 17] [0,3,4,5] (.seq (ba [aP 18 5,du 19 .lss 2 18 0] [0,3,4,5,19] (.cond (.t 19) (.en [aP 20 5,ro 21 (.un .neg (.t 20)),cc 5 21] (some [0,3,4,5])) .skip)) Ye))) (.en [aP 14 4,du 15 .quo 2 14 10,cc 4 15] (some [0,3,4])))
def Yg:aB:=.seq (ba [aP 37 7,du 38 .geq 3 37 0] [3,6,7,38] (.cond (.t 38) .skip (.exit 2))) (.seq (.block 3 (.en [aP 41 6,aP 42 3,aP 43 7,gS 44 163 42 43,cm 45 5 44,vQ 46 163 45,xW 47 163 163 41 46,cc 6 47] (some [3,6,7]))) (.en [aP 39 7,du 40 .sub 3 39 1,cc 7 40] (some [3,6,7])))
def Yh:aB:=ba [ro 33 (.dS 163 0 []),cc 6 33] [3,6] (.seq (ba [aP 34 3,ia 35 163 34,du 36 .sub 3 35 1,cc 7 36] [3,6,7] (.block 2 (.loop Yg))) (ba [aP 48 6,XA 49 163 9 48,cc 2 49] [2] .ret))
def c59:aB:=ba [ro 2 (.h4 (.c (.str [])))] [0] (.seq (ba [aP 8 0,du 9 .eql 2 8 0] [0,9] (.cond (.t 9) (ba [ro 2 (.h4 (.c (.str [48])))] [2] .ret) .skip)) (ba [ro 10 (.dS 163 0 []),cc 3 10] [0,3] (.seq (ba [aP 11 0,cc 4 11] [0,3,4] (.block 0 (.loop Yf))) (.seq (ba [aP 28 0,du 29 .lss 2 28 0] [3,29] (.cond (.t 29) (.en [aP 30 3,ro 31 (.dS 163 1 [(0,(.c (.int .u8 45)))]),xW 32 163 163 30 31,cc 3 32] (some [3])) .skip)) Yh))))
def Yi:aB:=.en [aP 18 3,aP 19 0,aP 20 4,gS 21 54 19 20,cm 22 2 21,hK 23 59 22,hX 24 .add 9 18 23,cc 3 24] (some [0,3,4])
def Yj:aB:=.seq (ba [aP 8 4,aP 9 0,ia 10 54 9,hX 11 .lss 3 8 10] [0,3,4,11] (.cond (.t 11) .skip (.exit 0))) (.seq (.block 1 (.seq (ba [aP 14 4,du 15 .gtr 3 14 0] [0,3,4,15] (.cond (.t 15) (.en [aP 16 3,ro 17 (.eG .add 9 (.t 16) (.c (.str [44]))),cc 3 17] (some [0,3,4])) .skip)) Yi)) (.en [aP 12 4,du 13 .add 3 12 1,cc 4 13] (some [0,3,4])))
def akj:aB:=ba [ro 2 (.h4 (.c (.str [])))] [0] (.seq (ba [aP 5 0,ia 6 54 5,du 7 .eql 3 6 0] [0,7] (.cond (.t 7) (ba [ro 2 (.h4 (.c (.str [45])))] [2] .ret) .skip)) (ba [ro 3 (.h4 (.c (.str [])))] [0,3] (.seq (ba [hY 4 0] [0,3,4] (.block 0 (.loop Yj))) (ba [aP 25 3,cc 2 25] [2] .ret))))
def akk:aB:=ba [ro 4 (.h4 (.c (.str [])))] [0,1] (.seq (ba [aP 5 1,ia 6 54 5,du 7 .eql 3 6 0] [0,1,7] (.cond (.t 7) (ba [aP 8 0,cc 4 8] [4] .ret) .skip)) (ba [aP 9 0,ro 10 (.eG .add 9 (.t 9) (.c (.str [40]))),aP 11 1,hK 12 135 11,hX 13 .add 9 10 12,ro 14 (.eG .add 9 (.t 13) (.c (.str [41]))),cc 4 14] [4] .ret))
noncomputable def akl:aB:=bG (bF 26 [0,1] Tryz.f94 [[0,1],[0,1,10],[4],[0,1,5],[0,1,5,14],[0,1,5,25],[4],[0,1,5],[4]])
noncomputable def c130:aB:=bG (bF 36 [0,1] Tryz.f130 [[0,1],[4]])
noncomputable def c127:aB:=bG (bF 33 [0,1] Tryz.f127 [[0,3],[0,3,5],[0,3,5,9],[0,3,5,27],[4],[0,3,5],[4]])
def Yk:aB:=rJ [aP 60 4,dF 61 170 12 2,cm 62 9 61,dF 63 170 12 3,cm 64 168 63,aP 65 3,kO 66 126 64 65,kO 67 96 62 66,cm 68 72 13,⟨some 69,.shr (.gm 110 [(0,(.t 67)),(1,(.t 68))]),none⟩,kO 70 127 60 69,cc 10 70] [[],[],[1],[],[3],[],[4,5],[2,6,6],[],[7,8],[0,9,7],[10,10,0,1,2,3,4,5,6,7,8,9,10]] [10] .ret
def akm:aB:=.seq (ba [aP 38 11,aP 39 2,du 40 .add 2 39 1,gS 41 121 38 40,dF 42 170 41 0,cm 43 2 42,du 44 .eql 2 43 5] [2,3,4,11,12,13,44] (.cond (.t 44) (.jL [aP 45 11,aP 46 2,du 47 .add 2 46 1,gS 48 121 45 47,dF 49 170 48 1,cm 50 2 49,aP 51 11,aP 52 2,du 53 .add 2 52 1,gS 54 121 51 53,dF 55 170 54 3,cm 56 168 55,aP 57 3,kO 58 126 56 57,ro 59 (.gm 72 [(0,(.t 50)),(2,(.t 58))]),j8 72 13 59] [[],[],[1],[0,2],[3],[4],[],[],[7],[6,8],[9],[10],[],[11,12],[5,13],[14,13,0,1,2,3,4,5,6,7,8,9,10,11,12,13,14]] (some [3,4,12,13])) .skip)) Yk
def Yl:aB:=.seq (ba [aP 107 14,dF 108 170 12 1,cm 109 2 108,hX 110 .leq 2 107 109] [0,1,2,3,4,12,14,110] (.cond (.t 110) .skip (.exit 1))) (.seq (.block 2 (.en [aP 113 0,aP 114 1,aP 115 2,du 116 .add 2 115 1,aP 117 3,hK 118 91 117,aP 119 14,vQ 120 54 119,⟨some 121,.shr (.app 54 54 (.t 118) (.t 120)),none⟩,aP 122 4,ro 123 (.call (.f 89) [(.t 113),(.t 114),(.t 116),(.t 121),(.t 122)]),cc 4 123] (some [0,1,2,3,4,12,14]))) (.en [aP 111 14,du 112 .add 2 111 1,cc 14 112] (some [0,1,2,3,4,12,14])))
def akn:aB:=ba [du 90 .eql 2 29 3,cc 89 90] [0,1,2,3,4,12,29,89] (.cond (.t 89) (ba [dF 91 170 12 3,cm 92 168 91,ro 93 (.kF 168 (.t 92) (.c (.int .i64 0))),cm 94 207 93,aP 95 3,kO 96 129 94 95,du 97 .neq 2 96 0] [0,1,2,3,4,97] (.cond (.t 97) (ba [aP 98 0,aP 99 1,aP 100 2,du 101 .add 2 100 1,aP 102 3,aP 103 4,ro 104 (.call (.f 89) [(.t 98),(.t 99),(.t 101),(.t 102),(.t 103)]),cc 10 104] [10] .ret) .skip)) (ba [du 106 .eql 2 29 4,cc 105 106] [0,1,2,3,4,12,105] (.cond (.t 105) (ba [hY 14 0] [0,1,2,3,4,12,14] (.block 1 (.loop Yl))) .skip)))
def ako:aB:=.cond (.t 30) (ba [aP 32 1,aP 33 2,du 34 .add 2 33 1,aP 35 3,hK 36 91 35,ro 37 (.gm 72 [(0,(.t 32)),(1,(.t 34)),(2,(.t 36))]),oJ 13 72,j8 72 13 37] [2,3,4,11,12,13] akm) (ba [du 72 .eql 2 29 2,cc 71 72] [0,1,2,3,4,11,12,29,71] (.cond (.t 71) (ba [aP 73 0,aP 74 1,aP 75 2,du 76 .add 2 75 1,aP 77 3,aP 78 4,ro 79 (.call (.f 89) [(.t 73),(.t 74),(.t 76),(.t 77),(.t 78)]),cc 4 79] [0,1,2,3,4,11] (ba [aP 80 0,aP 81 1,aP 82 11,aP 83 2,du 84 .add 2 83 1,kO 85 128 82 84,aP 86 3,aP 87 4,ro 88 (.call (.f 89) [(.t 80),(.t 81),(.t 85),(.t 86),(.t 87)]),cc 10 88] [10] .ret)) akn))
def Ym:aB:=ba [aP 124 4,cc 10 124] [10] .ret
def akp:aB:=ba [aP 15 0,aP 16 1,gS 17 35 15 16,dF 18 123 17 2,cm 19 121 18,cc 11 19] [0,1,2,3,4,11] (ba [aP 20 11,aP 21 2,gS 22 121 20 21,cm 23 170 22,oJ 12 170,j8 170 12 23] [0,1,2,3,4,11,12] (.seq (ba [aP 24 4,ia 25 105 24,du 26 .gtr 3 25 200] [0,1,2,3,4,11,12,26] (.cond (.t 26) (ba [aP 27 4,cc 10 27] [10] .ret) .skip)) (.seq (ba [dF 28 170 12 0,cm 29 2 28] [0,1,2,3,4,11,12,29] (.block 0 (ba [du 31 .eql 2 29 1,cc 30 31] [0,1,2,3,4,11,12,29,30] ako))) Ym)))
def akq:aB:=ba [pS 10] [0,1,2,3,4] akp
noncomputable def c51:aB:=bG (bF 26 [0,1] Tryz.f51 [[0,1],[6],[4,5]])
noncomputable def c53:aB:=bG (bF 7 [0] Tryz.f53 [[0],[2]])
noncomputable def akr:aB:=bG (bF 19 [0,1] Tryz.f52 [[0,1],[0,1,5],[0,1,5,9],[0,1,5,17],[4],[0,1,5],[4]])
noncomputable def aks:aB:=bG (bF 33 [0] Tryz.f54 [[0],[0,3],[0,3,4],[0,3,4,9],[0,3,4],[0,3,4],[2]])
def QX:aB:=ba [ro 4 (.h4 (.c (.str [])))] [0,1] (.seq (rJ [aP 5 0,np 6 5,dF 7 39 6 4,cm 8 25 7,aP 9 1,hK 10 53 9,kO 11 52 8 10,du 12 .geq 2 11 0] [[],[0],[1],[2],[],[4],[3,5,5],[6]] [1,12] (.cond (.t 12) (ba [ro 4 (.h4 (.c (.str [116,97,117])))] [4] .ret) .skip)) (ba [aP 13 1,cc 4 13] [4] .ret))
noncomputable def akt:aB:=bG (bF 25 [0,1] Tryz.f92 [[0,1],[0,1,10],[4],[0,1,5],[0,1,5,14],[0,1,5,24],[4],[0,1,5],[4]])
noncomputable def QY:aB:=bG (bF 48 [0,1] Tryz.f55 [[0,3],[0,3,5],[0,3,5,10],[0,3,5,6],[0,3,5,42],[4],[0,3,5],[4]])
noncomputable def aku:aB:=bG (bF 42 [0,1,2] Tryz.f95 [[0,1,2],[0,1,2,10],[6],[0,1,2,7],[0,1,2,7,18],[0,1,2,7,36],[6],[0,1,2,7],[6]])
noncomputable def akv:aB:=bG (bF 49 [0,1,2] Tryz.f57 [[0,1,2],[0,1,2,7],[0,1,2,7,9],[0,1,2,7,25],[6],[0,7,11],[7,11,45],[6],[6]])
def akw:aB:=.seq (.block 1 (rJ [aP 30 0,np 31 30,dF 32 39 31 0,cm 33 35 32,aP 34 1,aP 35 8,gS 36 41 34 35,kO 37 51 33 36,⟨some 29,.pa (.t 37),none⟩,kP 38 29 0,kP 39 29 1,cc 9 38,cc 10 39] [[],[0],[1],[2],[],[],[4,5],[3,6],[7],[8],[8],[9,7,0,1,2,3,4,5,6,7,8,9],[10,11,0,1,2,3,4,5,6,7,8,9,10,11]] [0,1,6,7,8,9,10] (.seq (ba [aP 40 10,rb 41 40] [0,1,6,7,8,9,41] (.cond (.t 41) (ba [pS 4,nF 5 false] [0,4,5] .ret) .skip)) (.en [aP 42 7,aP 43 9,vQ 44 104 43,xW 45 104 104 42 44,cc 7 45] (some [0,1,6,7,8]))))) (.en [aP 27 8,du 28 .add 3 27 1,cc 8 28] (some [0,1,6,7,8]))
def Yn:aB:=.seq (ba [aP 23 8,aP 24 1,ia 25 41 24,hX 26 .lss 3 23 25] [0,1,6,7,8,26] (.cond (.t 26) .skip (.exit 0))) akw
def akx:aB:=.seq (rJ [dF 68 110 13 0,cm 69 9 68,ro 70 (.eG .neq 9 (.t 69) (.c (.str [116,97,117]))),aP 71 70,eX 72 71 (.hV (.t 0)),eX 73 71 (.ml (.t 72)),eX 74 71 (.hP 39 (.t 73) 3),eX 75 71 (.fL 25 (.t 74)),eX 76 71 (.hP 110 (.t 13) 0),eX 77 71 (.fL 9 (.t 76)),⟨some 78,.call (.f 53) [(.t 77)],some (71,true)⟩,⟨some 79,.call (.f 52) [(.t 75),(.t 78)],some (71,true)⟩,eX 80 71 (.eG .lss 2 (.t 79) (.c (.int .i64 0))),ro 81 (.pick (.t 71) (.t 80) (.c (.bool false)))] [[],[0],[1],[2],[3],[4,3],[5,3],[6,3],[3],[8,3],[9,3,3],[7,10,10,3],[11,3],[3,12]] [0,1,6,7,11,12,13,81] (.cond (.t 81) (.exit 5) .skip)) (ba [aP 82 1,hK 83 54 82,cc 14 83] [0,1,6,7,11,12,13,14] (ba [aP 84 14,aP 85 11,dF 86 110 13 1,cm 87 72 86,gS 88 41 84 85,j8 72 88 87] [0,1,6,7,11,12,13,14] (.en [aP 89 6,aP 90 0,dF 91 110 13 0,cm 92 9 91,kO 93 56 90 92,aP 94 11,aP 95 14,hK 96 54 95,⟨some 97,.shr (.gm 117 [(0,(.t 93)),(1,(.t 94)),(2,(.c (.int .i64 (-1)))),(3,(.t 96))]),none⟩,kO 98 55 89 97,cc 6 98] (some [0,1,6,7,11,12]))))
def Yo:aB:=.en [aP 59 12,du 60 .add 3 59 1,cc 12 60] (some [0,1,6,7,11,12])
def Yp:aB:=.seq (ba [aP 52 12,aP 53 7,aP 54 11,gS 55 104 53 54,cm 56 105 55,ia 57 105 56,hX 58 .lss 3 52 57] [0,1,6,7,11,12,58] (.cond (.t 58) .skip (.exit 4))) (.seq (.block 5 (ba [aP 61 7,aP 62 11,gS 63 104 61 62,cm 64 105 63,aP 65 12,gS 66 105 64 65,cm 67 110 66,oJ 13 110,j8 110 13 67] [0,1,6,7,11,12,13] akx)) Yo)
def Yq:aB:=.seq (ba [aP 46 11,aP 47 1,ia 48 41 47,hX 49 .lss 3 46 48] [0,1,6,7,11,49] (.cond (.t 49) .skip (.exit 2))) (.seq (.block 3 (ba [hY 12 0] [0,1,6,7,11,12] (.block 4 (.loop Yp)))) (.en [aP 50 11,du 51 .add 3 50 1,cc 11 51] (some [0,1,6,7,11])))
def aky:aB:=ba [aP 158 20,aP 159 15,aP 160 7,aP 161 15,gS 162 104 160 161,cm 163 105 162,aP 164 17,gS 165 105 163 164,dF 166 110 165 1,cm 167 72 166,gS 168 41 158 159,j8 72 168 167] [0,1,6,7,15,16,17,18,19,20] (ba [aP 169 20,aP 170 16,aP 171 7,aP 172 16,gS 173 104 171 172,cm 174 105 173,aP 175 18,gS 176 105 174 175,dF 177 110 176 1,cm 178 72 177,gS 179 41 169 170,j8 72 179 178] [0,1,6,7,15,16,17,18,19,20] (.en [aP 180 6,aP 181 0,aP 182 19,kO 183 56 181 182,aP 184 15,aP 185 16,aP 186 20,hK 187 54 186,⟨some 188,.shr (.gm 117 [(0,(.t 183)),(1,(.t 184)),(2,(.t 185)),(3,(.t 187))]),none⟩,kO 189 55 180 188,cc 6 189] (some [0,1,6,7,15,16,17,18])))
def Yr:aB:=.en [aP 134 18,du 135 .add 3 134 1,cc 18 135] (some [0,1,6,7,15,16,17,18])
def akz:aB:=.seq (.block 13 (rJ [aP 136 0,aP 137 7,aP 138 15,gS 139 104 137 138,cm 140 105 139,aP 141 17,gS 142 105 140 141,dF 143 110 142 0,cm 144 9 143,aP 145 7,aP 146 16,gS 147 104 145 146,cm 148 105 147,aP 149 18,gS 150 105 148 149,dF 151 110 150 0,cm 152 9 151,Xz 153 57 136 144 152,cc 19 153] [[],[],[],[1,2],[3],[],[4,5],[6],[7],[],[],[9,10],[11],[],[12,13],[14],[15],[0,8,16],[17,17,0,1,2,3,4,5,6,7,8,9,10,11,12,13,14,15,16,17]] [0,1,6,7,15,16,17,18,19] (.seq (ba [aP 154 19,ro 155 (.eG .eql 9 (.t 154) (.c (.str [])))] [0,1,6,7,15,16,17,18,19,155] (.cond (.t 155) (.exit 13) .skip)) (ba [aP 156 1,hK 157 54 156,cc 20 157] [0,1,6,7,15,16,17,18,19,20] aky)))) Yr
def Ys:aB:=.seq (ba [aP 122 18,aP 123 7,aP 124 16,gS 125 104 123 124,cm 126 105 125,ia 127 105 126,hX 128 .lss 3 122 127,aP 129 128,eX 130 129 (.hV (.t 6)),eX 131 129 (.len 64 (.t 130)),eX 132 129 (.eG .leq 3 (.t 131) (.c (.int .i64 200))),ro 133 (.pick (.t 129) (.t 132) (.c (.bool false)))] [0,1,6,7,15,16,17,18,133] (.cond (.t 133) .skip (.exit 12))) akz
def Yt:aB:=.seq (ba [aP 113 17,aP 114 7,aP 115 15,gS 116 104 114 115,cm 117 105 116,ia 118 105 117,hX 119 .lss 3 113 118] [0,1,6,7,15,16,17,119] (.cond (.t 119) .skip (.exit 10))) (.seq (.block 11 (ba [hY 18 0] [0,1,6,7,15,16,17,18] (.block 12 (.loop Ys)))) (.en [aP 120 17,du 121 .add 3 120 1,cc 17 121] (some [0,1,6,7,15,16,17])))
def Yu:aB:=.seq (ba [aP 107 16,aP 108 1,ia 109 41 108,hX 110 .lss 3 107 109] [0,1,6,7,15,16,110] (.cond (.t 110) .skip (.exit 8))) (.seq (.block 9 (ba [hY 17 0] [0,1,6,7,15,16,17] (.block 10 (.loop Yt)))) (.en [aP 111 16,du 112 .add 3 111 1,cc 16 112] (some [0,1,6,7,15,16])))
def Yv:aB:=.seq (ba [aP 99 15,aP 100 1,ia 101 41 100,hX 102 .lss 3 99 101] [0,1,6,7,15,102] (.cond (.t 102) .skip (.exit 6))) (.seq (.block 7 (ba [aP 105 15,du 106 .add 3 105 1,cc 16 106] [0,1,6,7,15,16] (.block 8 (.loop Yu)))) (.en [aP 103 15,du 104 .add 3 103 1,cc 15 104] (some [0,1,6,7,15])))
def akA:aB:=ba [pS 4,nF 5 false] [0,1] (ba [ro 21 (.dS 64 0 []),cc 6 21] [0,1,6] (ba [ro 22 (.dS 104 0 []),cc 7 22] [0,1,6,7] (.seq (ba [hY 8 0] [0,1,6,7,8] (.block 0 (.loop Yn))) (.seq (ba [hY 11 0] [0,1,6,7,11] (.block 2 (.loop Yq))) (.seq (ba [hY 15 0] [0,1,6,7,15] (.block 6 (.loop Yv))) (ba [aP 190 6,aP 191 6,ia 192 64 191,du 193 .leq 3 192 200,cc 4 190,cc 5 193] [0,4,5] .ret))))))
noncomputable def akB:aB:=bG (bF 32 [0] Tryz.f58 [[0,1],[0,1,5],[0,1,5,10],[0,1,5],[0,1,5,6],[0,1,5,6,21],[0,1,5,6],[0,1,5,6,27],[0,1,5,6],[0,1,5,6],[0,1,5],[4]])
def Yw:aB:=.seq (ba [aP 24 10,aP 25 0,ia 26 64 25,hX 27 .lss 3 24 26] [0,9,10,27] (.cond (.t 27) .skip (.exit 1))) (.seq (.block 2 (ba [aP 30 0,aP 31 10,gS 32 64 30 31,dF 33 117 32 1,cm 34 2 33,aP 35 9,hX 36 .gtr 2 34 35] [0,9,10,36] (.cond (.t 36) (ba [aP 37 10,cc 8 37] [8] .ret) .skip))) (.en [aP 28 10,du 29 .add 3 28 1,cc 10 29] (some [0,9,10])))
def akC:aB:=.cond (.t 12) (.seq (ba [aP 14 1,ia 15 43 14,du 16 .eql 3 15 0] [0,1,16] (.cond (.t 16) (ba [hY 8 0] [8] .ret) .skip)) (ba [aP 17 1,aP 18 1,ia 19 43 18,du 20 .sub 3 19 1,gS 21 43 17 20,dF 22 74 21 1,cm 23 2 22,cc 9 23] [0,9] (ba [hY 10 0] [0,9,10] (.block 1 (.loop Yw))))) (ba [du 39 .eql 2 11 2,cc 38 39] [0,1,3,38] (.cond (.t 38) (ba [aP 40 3,hK 41 59 40,ro 42 (.eG .add 9 (.t 41) (.c (.str [45]))),aP 43 1,ia 44 43 43,hK 45 59 44,hX 46 .add 9 42 45,ro 47 (.call (.f 58) [(.t 46),(.c (.int .i64 65535))]),aP 48 0,ia 49 64 48,hX 50 .rem 2 47 49,cc 8 50] [8] .ret) .skip))
def Yx:aB:=ba [hY 8 0] [8] .ret
def akD:aB:=ba [hY 8 0] [0,1,2,3] (.seq (ba [aP 11 2] [0,1,3,11] (.block 0 (ba [du 13 .eql 2 11 1,cc 12 13] [0,1,3,11,12] akC))) Yx)
noncomputable def Nj:aB:=bG (bF 42 [0,1,2,3,4] Tryz.f7 [[1,2,3,4,5],[1,2,3,4,5,12],[1,2,3,4,5,12,18],[10,11],[1,2,3,4,5,23],[10,11],[1,2,3,4,5,26],[10,11],[2,3,4,13,14],[2,3,4,13,33],[10,11],[2,3,4,13,36],[10,11],[10,11]])
noncomputable def akE:aB:=bG (bF 15 [0,1,2] Tryz.f68 [[0,1,2],[6]])
noncomputable def akF:aB:=bG (bF 7 [0] Tryz.f209 [[1],[2]])
noncomputable def akG:aB:=bG (bF 19 [0,1] Tryz.f211 [[0,1],[0,1,7,8],[0,1,7,8,9],[0,1,5,7,8],[0,1,5,7,8,16],[4],[0,1,7,8],[4]])
noncomputable def c208:aB:=bG (bF 9 [0,1] Tryz.f208 [[0,1],[4]])
noncomputable def akH:aB:=bG (bF 6 [0] Tryz.f174 [[0],[2]])
noncomputable def c210:aB:=bG (bF 9 [0] Tryz.f210 [[0],[2]])
noncomputable def c175:aB:=bG (bF 42 [0] Tryz.f175 [[0],[0,6,7],[0,6,7,8],[0,3,6,7],[0,3,4,6,7],[0,6,7,32],[2],[0,6,7],[2]])
noncomputable def c212:aB:=bG (bF 8 [0,1] Tryz.f212 [[1,2],[3]])
noncomputable def akI:aB:=bG (bF 19 [0,1] Tryz.f211 [[0,1],[0,1,7,8],[0,1,7,8,9],[0,1,5,7,8],[0,1,5,7,8,16],[4],[0,1,7,8],[4]])
noncomputable def akJ:aB:=bG (bF 8 [0,1] Tryz.f176 [[0,3],[4]])
noncomputable def akK:aB:=bG (bF 11 [0] Tryz.f144 [[1],[4],[4,5],[4,5],[4,5],[2],[9],[2],[2]])
noncomputable def akL:aB:=bG (bF 25 [0] Tryz.f151 [[1,2],[1,2,5],[1,2,5,7],[1,2,5,14],[4],[1,2,5],[1,2,5],[4]])
def akM:aB:=.en [dF 29 172 9 0,cm 30 2 29,du 31 .add 2 30 1,dF 32 172 9 0,j8 2 32 31] (some [0,2,3,4,8,9])
def akN:aB:=.cond (.t 28) akM .skip
def akO:aB:=.en [du 43 .add 3 37 1,aP 37 43] (some [2,3,4,9,10,36,37])
def akP:aB:=.seq (.block 1 (.kJ (N9 af 143 4 2 39 ((range 3).map (·+2)) [aP 40 10,cm 41 172 9] [(.t 40),(.t 41)] (some 42) [cc 10 42] [2,3,4,9,10,36,37]) (W7 217 4 39 [aP 40 10,cm 41 172 9] [(.t 40),(.t 41)] (some 42) [cc 10 42]))) akO
def akQ:aB:=.seq (.cond (.t 38) .skip (.exit 0)) akP
def Yy:aB:=ba [hX 38 .lss 3 37 36] [2,3,4,9,10,36,37,38] akQ
def akR:aB:=.block 0 (.loop Yy)
def akS:aB:=ba [aP 44 10,cc 7 44] [2,3,4,7] .ret
def akT:aB:=.seq (ba [cm 35 170 8,hK 36 144 35,xV 37 0] [2,3,4,9,10,36,37] akR) akS
def Yz:aB:=ba [aP 33 0,du 34 .add 3 33 1,cc 10 34] [2,3,4,8,9,10] akT
def akU:aB:=.seq (ba [dF 26 170 8 0,cm 27 2 26,du 28 .eql 2 27 4] [0,2,3,4,8,9,28] akN) Yz
def akV:aB:=ba [dF 20 172 6 0,cm 21 2 20,dF 22 170 8 0,cm 23 2 22,du 24 .eql 2 23 1,ro 25 (.gm 172 [(0,(.t 21)),(1,(.t 24))]),oJ 9 172,j8 172 9 25] [0,2,3,4,8,9] akU
def akW:aB:=ba [dF 15 123 3 2,cm 16 121 15,aP 17 0,gS 18 121 16 17,cm 19 170 18,oJ 8 170,j8 170 8 19] [0,2,3,4,6,8] akV
def akX:aB:=ba [cm 11 173 2,aP 12 0,cm 13 172 6,gS 14 173 11 12,j8 172 14 13] [0,2,3,4,6] akW
def c143:aB:=ba [ro 6 (.iG 172 (.t 1)),hY 7 0] [0,2,3,4,6] akX
theorem akY:c143.pN (I2 af 143 [0,1,2,3,4] 5 2 4):=And.intro (True.intro) (And.intro (True.intro) (And.intro (True.intro) (And.intro (True.intro) (And.intro (And.intro (True.intro) (And.intro (True.intro) (True.intro))) (And.intro (True.intro) (And.intro (And.intro (True.intro) (And.intro (True.intro) (And.intro (And.intro (True.intro) (True.intro)) (And.intro (⟨217,2,39,3,_,_,_,_,_,rfl,rfl,(by kernel_rfl),rfl,rfl,rfl,rfl,rfl,rfl,rfl⟩) (True.intro))))) (And.intro (True.intro) (True.intro))))))))
theorem akZ:fZ ⟨45,[0,1,2,3,4]⟩ (Tryz.f143.body.getD .skip)=some c143.strip:=by kernel_rfl
def QZ:aB:=ba [cm 15 173 3,cc 2 15] [2] .ret
def ak0:aB:=ba [cm 10 217 4,dF 11 123 1 1,cm 12 2 11,ro 13 (.gm 172 [(0,(.t 12))]),ro 14 (.call (.t 10) [(.c (.int .i64 0)),(.t 13)])] [3] QZ
def ayA:aB:=ba [ro 9 (.o9 143 [(.t 3),(.t 1),(.t 4)]),j8 217 4 9] [1,3,4] ak0
def ak1:aB:=.kJ (Od af 143 4 2 10 9 [3,1,4] [dF 11 123 1 1,cm 12 2 11,ro 13 (.gm 172 [(0,(.t 12))])] [(.c (.int .i64 0)),(.t 13)] (some 14) [3] QZ) (Xb 217 143 4 10 9 [3,1,4] [dF 11 123 1 1,cm 12 2 11,ro 13 (.gm 172 [(0,(.t 12))])] [(.c (.int .i64 0)),(.t 13)] (some 14) QZ.nj)
def ak2:aB:=ba [dF 5 123 1 2,cm 6 121 5,ia 7 121 6,ro 8 (.fB 173 (.t 7) (.t 7)),oJ 3 173,j8 173 3 8] [1,3] ak1
def YA:aB:=ba [ro 1 (.iG 123 (.t 0)),pS 2] [1] ak2
theorem ak3:YA.pN (Fe af):=And.intro (True.intro) (And.intro (True.intro) (⟨217,143,4,2,10,9,_,_,_,_,_,_,rfl,rfl,(by kernel_rfl),⟨Tryz.t217,_,_,(by kernel_rfl),rfl,rfl,rfl,rfl⟩,rfl,rfl,rfl,rfl,(by kernel_rfl)⟩))
theorem ak4:fZ ⟨16,[0]⟩ (Tryz.f101.body.getD .skip)=some YA.strip:=by kernel_rfl
noncomputable def ak5:aB:=bG (bF 56 [0] Tryz.f241 [[1],[1,3],[1,3,4],[2]])
def c157:aB:=ba [nF 2 false] [0] (ba [aP 3 0,hK 4 175 3,aP 5 4,eX 6 5 (.hV (.t 0)),⟨some 7,.eG .neq 9 (.t 6) (.c (.str [116,97,117])),some (5,true)⟩,ro 8 (.pick (.t 5) (.t 7) (.c (.bool false))),cc 2 8] [2] .ret)
noncomputable def ak6:aB:=bG (bF 9 [0,1] Tryz.f100 [[0,1],[4]])
def ak7:aB:=.cond (.t 11) (ba [aP 13 5,du 14 .eql 3 13 0,aP 15 14,h0 16 15 (.hP 170 (.t 2) 2),h0 17 15 (.fL 9 (.t 16)),⟨some 18,.eG .neq 9 (.t 17) (.c (.str [116,97,117])),some (15,false)⟩,h0 19 15 (.hV (.t 18)),eX 20 19 (.hV (.t 5)),eX 21 19 (.eG .leq 3 (.t 20) (.c (.int .i64 2))),h0 22 15 (.pick (.t 19) (.t 21) (.c (.bool false))),ro 23 (.pick (.t 15) (.c (.bool true)) (.t 22)),cc 4 23] [4] .ret) (ba [du 25 .eql 2 10 3,cc 24 25] [1,2,5,10,24] (.cond (.t 24) (ba [aP 26 5,du 27 .eql 3 26 1,cc 4 27] [4] .ret) (ba [du 29 .eql 2 10 5,cc 28 29] [1,2,5,28] (.cond (.t 28) (ba [aP 30 5,aP 31 1,dF 32 170 2 1,cm 33 2 32,gS 34 35 31 33,dF 35 123 34 1,cm 36 2 35,hX 37 .eql 2 30 36,cc 4 37] [4] .ret) .skip))))
def ak8:aB:=ba [ro 2 (.iG 170 (.t 0)),nF 4 false] [1,2] (ba [dF 6 170 2 3,cm 7 168 6,ia 8 168 7,cc 5 8] [1,2,5] (.seq (ba [dF 9 170 2 0,cm 10 2 9] [1,2,5,10] (.block 0 (ba [du 12 .eql 2 10 1,cc 11 12] [1,2,5,10,11] ak7))) (ba [nF 4 true] [4] .ret)))
noncomputable def ak9:aB:=bG (bF 5 [0] Tryz.f147 [[0],[2]])
noncomputable def ak_:aB:=bG (bF 29 [0,1] Tryz.f265 [[1,2],[1,2,6],[1,2,6,7],[4],[1,2,6,12],[4],[2,6,19],[4],[2,24],[4],[4]])
noncomputable def ala:aB:=bG (bF 9 [0] Tryz.f247 [[1],[4],[4,5],[2],[7],[2],[2]])
noncomputable def alb:aB:=bG (bF 47 [0,1,2] Tryz.f245 [[0,1,2],[0,1,24],[6],[0,1,7],[1,7,25,26,27],[1,7,25,26,27,28],[1,7,9,25,26,27],[1,7,9,25,26,27,38],[6],[1,7,25,26,27],[1,7,25,26,27],[6]])
noncomputable def alc:aB:=bG (bF 9 [0,1] Tryz.f244 [[0,1],[3]])
noncomputable def ald:aB:=bG (bF 19 [0,1] Tryz.f264 [[0,1],[0,1,7,8],[0,1,7,8,9],[0,1,5,7,8],[0,1,5,7,8,16],[4],[0,1,7,8],[4]])
noncomputable def ale:aB:=bG (bF 9 [0,1] Tryz.f243 [[0,1],[4]])
def alf:aB:=ba [dF 55 170 3 0,cm 56 2 55,du 57 .eql 2 56 5,aP 58 57,eX 59 58 (.hP 172 (.t 5) 1),eX 60 58 (.fL 4 (.t 59)),eX 61 58 (.un .not (.t 60)),ro 62 (.pick (.t 58) (.t 61) (.c (.bool false))),cc 54 62] [3,5,54] (.cond (.t 54) (ba [hY 6 6] [6] .ret) (ba [dF 64 170 3 0,cm 65 2 64,du 66 .eql 2 65 4,aP 67 66,eX 68 67 (.hP 172 (.t 5) 0),eX 69 67 (.fL 2 (.t 68)),eX 70 67 (.eG .geq 2 (.t 69) (.c (.int .i64 6))),ro 71 (.pick (.t 67) (.t 70) (.c (.bool false))),cc 63 71] [3,5,63] (.cond (.t 63) (ba [hY 6 7] [6] .ret) (ba [dF 73 170 3 3,cm 74 168 73,ro 75 (.o9 244 [(.t 5)]),kO 76 243 74 75,cc 72 76] [72] (.cond (.t 72) (ba [hY 6 8] [6] .ret) .skip)))))
def YB:aB:=.cond (.t 26) (ba [hY 6 4] [6] .ret) (ba [cm 50 170 3,aP 51 1,kO 52 242 50 51,rb 53 52,cc 49 53] [3,5,49] (.cond (.t 49) (ba [hY 6 5] [6] .ret) alf))
def alg:aB:=ba [dF 27 170 3 0,cm 28 2 27,du 29 .eql 2 28 4,aP 30 29,eX 31 30 (.hP 170 (.t 3) 1),eX 32 30 (.fL 2 (.t 31)),⟨some 33,.call (.f 68) [(.t 32),(.c (.int .i64 1)),(.c (.int .i64 7))],some (30,true)⟩,eX 34 30 (.un .not (.t 33)),ro 35 (.pick (.t 30) (.t 34) (.c (.bool false))),aP 36 35,h0 37 36 (.hP 170 (.t 3) 0),h0 38 36 (.fL 2 (.t 37)),h0 39 36 (.eG .eql 2 (.t 38) (.c (.int .i64 5))),h0 40 36 (.hV (.t 39)),eX 41 40 (.hP 170 (.t 3) 1),eX 42 40 (.fL 2 (.t 41)),eX 43 40 (.hV (.t 1)),eX 44 40 (.len 35 (.t 43)),⟨some 45,.call (.f 100) [(.t 42),(.t 44)],some (40,true)⟩,eX 46 40 (.un .not (.t 45)),h0 47 36 (.pick (.t 40) (.t 46) (.c (.bool false))),ro 48 (.pick (.t 36) (.c (.bool true)) (.t 47)),cc 26 48] [1,3,5,26] YB
def YC:aB:=.cond (.t 11) (ba [hY 6 3] [6] .ret) alg
def alh:aB:=.seq (.block 0 (ba [cm 8 170 3,hK 9 241 8,rb 10 9,cc 7 10] [1,3,5,7] (.cond (.t 7) (ba [hY 6 2] [6] .ret) (ba [dF 12 170 3 0,cm 13 2 12,du 14 .eql 2 13 1,aP 15 14,eX 16 15 (.hP 170 (.t 3) 2),eX 17 15 (.fL 9 (.t 16)),⟨some 18,.eG .neq 9 (.t 17) (.c (.str [116,97,117])),some (15,true)⟩,ro 19 (.pick (.t 15) (.t 18) (.c (.bool false))),aP 20 19,eX 21 20 (.hP 170 (.t 3) 2),eX 22 20 (.fL 9 (.t 21)),⟨some 23,.call (.f 157) [(.t 22)],some (20,true)⟩,eX 24 20 (.un .not (.t 23)),ro 25 (.pick (.t 20) (.t 24) (.c (.bool false))),cc 11 25] [1,3,5,11] YC)))) (ba [hY 6 0] [6] .ret)
def c213:aB:=ba [ro 3 (.iG 170 (.t 0)),ro 5 (.iG 172 (.t 2)),hY 6 0] [1,3,5] alh
noncomputable def ali:aB:=bG (bF 45 [0,1] Tryz.f177 [[0,3],[0,3,22],[4,5],[0,3,6],[0,6,26,27,28],[0,6,26,27,28,29],[0,6,7,8,26,27,28],[0,6,7,9,26,27,28],[0,6,7,9,26,27,28,41],[4,5],[0,6,26,27,28],[4,5]])
noncomputable def alj:aB:=bG (bF 45 [0] Tryz.f137 [[0],[0,15],[2],[0,16,17,18],[0,16,17,18,19],[0,3,4,16,17,18],[0,4,16,17,18,35],[2],[0,6,16,17,18],[0,16,17,18,43],[2],[0,16,17,18],[2]])
noncomputable def c146:aB:=bG (bF 6 [0] Tryz.f146 [[0],[2]])
noncomputable def c182:aB:=bG (bF 19 [0,1] Tryz.f182 [[0,1],[0,1,7,8],[0,1,7,8,9],[0,1,5,7,8],[0,1,5,7,8,16],[4],[0,1,7,8],[4]])
noncomputable def c145:aB:=bG (bF 9 [0,1] Tryz.f145 [[0,1],[4]])
noncomputable def alk:aB:=bG (bF 6 [0] Tryz.f102 [[0],[2]])
noncomputable def alm:aB:=bG (bF 27 [0,1] Tryz.f140 [[0,3],[4]])
noncomputable def c139:aB:=bG (bF 9 [0,1] Tryz.f139 [[1,2],[3]])
noncomputable def aln:aB:=bG (bF 19 [0,1] Tryz.f178 [[0,1],[0,1,7,8],[0,1,7,8,9],[0,1,5,7,8],[0,1,5,7,8,16],[4],[0,1,7,8],[4]])
noncomputable def c138:aB:=bG (bF 9 [0,1] Tryz.f138 [[0,1],[4]])
noncomputable def alo:aB:=bG (bF 6 [0] Tryz.f266 [[0],[2]])
noncomputable def alp:aB:=bG (bF 20 [0,1] Tryz.f246 [[0,1],[0,1,5],[0,1,5,6],[0,1,6,11],[12],[4],[4],[0,1,13],[4],[0,1,16],[4],[19],[4],[4]])
noncomputable def alq:aB:=bG (bF 36 [0,1] Tryz.f214 [[0,1],[0,1,9,10,11],[0,1,9,10,11,12],[0,1,5,6,9,10,11],[0,1,5,6,9,10,11,19],[4],[0,1,6,7,9,10,11],[0,1,8,9,10,11],[0,1,8,9,10,11,28],[4],[0,1,9,10,11],[35],[4],[4]])
noncomputable def alr:aB:=bG (bF 16 [0,1] Tryz.f179 [[2,3],[4]])
noncomputable def als:aB:=bG (bF 16 [0,1] Tryz.f181 [[1,2],[3]])
noncomputable def c162:aB:=bG (bF 19 [0,1] Tryz.f162 [[0,1],[0,1,7,8],[0,1,7,8,9],[0,1,5,7,8],[0,1,5,7,8,16],[4],[0,1,7,8],[4]])
noncomputable def alu:aB:=bG (bF 9 [0,1] Tryz.f180 [[0,1],[4]])
noncomputable def c141:aB:=bG (bF 56 [0] Tryz.f141 [[0],[0,5,6,7],[0,5,6,7,8],[0,3,4,5,6,7],[0,4,5,6,7,48],[2],[0,5,6,7,51],[2],[0,5,6,7],[2]])
noncomputable def alv:aB:=bG (bF 32 [0] Tryz.f142 [[0],[0,5,6,7],[0,5,6,7,8],[0,3,4,5,6,7],[0,5,6,7,27],[2],[0,5,6,7],[2]])
noncomputable def alw:aB:=bG (bF 35 [0] Tryz.f98 [[1],[1,3],[2],[1,8],[2],[1,20],[2],[1,25],[2],[30],[2],[2]])
noncomputable def alx:aB:=bG (bF 6 [0] Tryz.f64 [[1],[2]])
noncomputable def aly:aB:=bG (bF 56 [0,1] Tryz.f67 [[0,3],[0,3,24],[4],[3,5],[4]])
noncomputable def alz:aB:=bG (bF 9 [0,1] Tryz.f66 [[1,2],[3]])
noncomputable def alA:aB:=bG (bF 19 [0,1] Tryz.f99 [[0,1],[0,1,7,8],[0,1,7,8,9],[0,1,5,7,8],[0,1,5,7,8,16],[4],[0,1,7,8],[4]])
noncomputable def alB:aB:=bG (bF 9 [0,1] Tryz.f65 [[0,1],[4]])
noncomputable def Q0:aB:=bG (bF 21 [0,1] Tryz.f32 [[1,2],[4]])
noncomputable def alC:aB:=bG (bF 11 [0] Tryz.f33 [[1],[2]])
noncomputable def c218:aB:=bG (bF 8 [0,1] Tryz.f218 [[0,1],[4]])
noncomputable def alD:aB:=bG (bF 143 [0,1] Tryz.f185 [[0,1],[0,1,5],[0,1,5,16],[4],[0,1,5,24],[4],[0,1,5,31],[4],[0,1,5,36],[4],[0,1,5,6],[0,1,5,6,7],[0,1,5,6,7,8],[0,1,5,6,7,8,9],[0,1,5,6,7,8,9,10],[0,1,5,6,7,8,9,10,59],[0,1,5,6,7,8,9,10,64],[0,1,5,6,7,8,9,10,11],[0,1,5,6,7,8,9,10,11,73],[4],[0,1,5,6,7,8,9,10],[0,1,5,6,7,8,9,10,93],[4],[0,1,5,6,7,8,9,10],[0,1,5,6,7,8,9,10],[0,1,5,6,7,8,9,10,107],[8,12],[8,12,114],[4],[4],[0,1,5,6,7,8,9,10,132],[8,13],[8,13,139],[4],[4],[4]])
noncomputable def alE:aB:=bG (bF 23 [0,1] Tryz.f153 [[0,1],[0,1,7],[0,1,7,12],[4,5,6],[4,5,6]])
noncomputable def alF:aB:=bG (bF 13 [0,1] Tryz.f106 [[0,1],[4,5,6]])
noncomputable def alG:aB:=bG (bF 21 [0,1] Tryz.f191 [[0,1],[4]])
noncomputable def c156:aB:=bG (bF 16 [0,1] Tryz.f156 [[0,1],[0,1,7],[4],[4]])
noncomputable def c109:aB:=bG (bF 8 [0,1] Tryz.f109 [[0,1],[4]])
noncomputable def alH:aB:=bG (bF 8 [0,1] Tryz.f190 [[0,1],[4]])
noncomputable def alI:aB:=bG (bF 34 [1] Tryz.f189 [[0,1],[0,1,9],[4],[0,1,15],[4],[0,1,5],[0,1,5,6],[0,1,5,6,24],[4],[0,1,5,6],[0,1,5]])
noncomputable def alJ:aB:=bG (bF 66 [1,2] Tryz.f155 [[0,1,2,3],[0,1,2,3,13],[8],[0,1,2,3,15],[8],[0,1,2,3,20],[0,1,2,3],[0,1,2,3],[0,1,2,3,9],[0,1,2,3,9],[0,1,2,3,9,10],[0,1,2,3,9,10,36],[0,1,2,3,9,10,11],[0,1,2,3,9,10,11,41],[0,1,2,3,9,10,11],[0,1,2,3,9,10],[0,1,2,3,9,10],[9,10],[8]])
noncomputable def alK:aB:=bG (bF 8 [0,1] Tryz.f108 [[0,1],[4]])
noncomputable def c107:aB:=bG (bF 28 [0] Tryz.f107 [[0],[0,4],[4,9,10,11],[4,9,10,11,12],[4,6,9,10,11],[4,7,8,9,10,11],[4,7,9,10,11,21],[2,3],[4,9,10,11],[4,9,10,11],[2,3]])
noncomputable def alL:aB:=bG (bF 5 [0] Tryz.f77 [[0],[2]])
noncomputable def alM:aB:=bG (bF 27 [0,1] Tryz.f158 [[0,1],[0,1,5],[1,5,11,12,13],[1,5,11,12,13,14],[1,5,6,7,11,12,13],[1,5,11,12,13],[1,5,11,12,13],[4]])
def alN:aB:=ba [aP 13 0,hK 14 157 13,rb 15 14,aP 16 15,h0 17 16 (.hV (.t 1)),h0 18 16 (.len 54 (.t 17)),h0 19 16 (.eG .gtr 3 (.t 18) (.c (.int .i64 2))),ro 20 (.pick (.t 16) (.c (.bool true)) (.t 19)),aP 21 20,h0 22 21 (.hV (.t 1)),⟨some 23,.call (.f 102) [(.t 22)],some (21,false)⟩,h0 24 21 (.un .not (.t 23)),ro 25 (.pick (.t 21) (.c (.bool true)) (.t 24)),cc 12 25] [0,1,12] (.cond (.t 12) (ba [ro 4 (.h4 (.c (.str []))),nF 5 false] [4,5] .ret) (ba [aP 27 1,ia 28 54 27,du 29 .eql 3 28 0,cc 26 29] [0,1,26] (.cond (.t 26) (ba [aP 30 0,cc 4 30,nF 5 true] [4,5] .ret) .skip)))
def alO:aB:=ba [ro 4 (.h4 (.c (.str []))),nF 5 false] [0,1] (.seq (.block 0 (ba [aP 7 0,ro 8 (.eG .eql 9 (.t 7) (.c (.str [116,97,117]))),cc 6 8] [0,1,6] (.cond (.t 6) (ba [aP 9 1,ia 10 54 9,du 11 .eql 3 10 0,ro 4 (.h4 (.c (.str [116,97,117]))),cc 5 11] [4,5] .ret) alN))) (ba [aP 31 0,ro 32 (.eG .add 9 (.t 31) (.c (.str [40]))),aP 33 1,ro 34 (.call (.f 158) [(.t 33),(.c (.str [44]))]),hX 35 .add 9 32 34,ro 36 (.eG .add 9 (.t 35) (.c (.str [41]))),cc 4 36,nF 5 true] [4,5] .ret))
def YD:aB:=.seq (ba [aP 29 5,aP 30 8,kO 31 110 29 30,aP 28 31,kP 32 28 0,kP 33 28 1,cc 10 32,cc 11 33] [0,5,8,10,11] (ba [aP 34 11,rb 35 34,aP 36 35,h0 37 36 (.hV (.t 10)),h0 38 36 (.hV (.t 0)),h0 39 36 (.eG .neq 9 (.t 37) (.t 38)),ro 40 (.pick (.t 36) (.c (.bool true)) (.t 39))] [5,8,40] (.cond (.t 40) (ba [ro 2 (.h4 (.c (.str []))),pS 3,nF 4 false] [2,3,4] .ret) .skip))) (ba [aP 41 5,aP 42 8,cc 2 41,cc 3 42,nF 4 true] [2,3,4] .ret)
def alP:aB:=ba [aP 13 0,ro 14 (.call (.f 106) [(.t 13),(.c (.str [40]))]),aP 12 14,kP 15 12 0,kP 16 12 1,kP 17 12 2,cc 5 15,cc 6 16,cc 7 17] [0,5,6,7] (ba [pS 8] [0,5,6,7,8] (.seq (ba [aP 18 7] [0,5,6,8,18] (.cond (.t 18) (ba [nF 9 false] [0,5,6] (ba [aP 20 6,ro 21 (.call (.f 109) [(.t 20),(.c (.str [41]))]),ro 22 (.call (.f 108) [(.t 21),(.c (.str [44]))]),hK 23 107 22,aP 19 23,kP 24 19 0,kP 25 19 1,cc 8 24,cc 9 25] [0,5,8,9] (ba [aP 26 9,rb 27 26] [0,5,8,27] (.cond (.t 27) (ba [ro 2 (.h4 (.c (.str []))),pS 3,nF 4 false] [2,3,4] .ret) .skip)))) .skip)) YD))
def alQ:aB:=ba [ro 2 (.h4 (.c (.str []))),pS 3,nF 4 false] [0] alP
noncomputable def alR:aB:=bG (bF 13 [0] Tryz.f104 [[0],[5],[2]])
noncomputable def alS:aB:=bG (bF 21 [0] Tryz.f71 [[1],[2]])
noncomputable def c70:aB:=bG (bF 6 [0] Tryz.f70 [[1],[2]])
noncomputable def alT:aB:=bG (bF 19 [0,1] Tryz.f103 [[0,1],[0,1,7,8],[0,1,7,8,9],[0,1,5,7,8],[0,1,5,7,8,16],[4],[0,1,7,8],[4]])
noncomputable def alU:aB:=bG (bF 9 [0,1] Tryz.f69 [[0,1],[4]])
noncomputable def G4:aB:=bG (bF 11 [0] Tryz.f34 [[0],[2]])
noncomputable def alV:aB:=bG (bF 38 [0] Tryz.f215 [[0],[0,4],[0,4,5],[4,5,17,18],[4,5,17,18,19],[4,5,17,18],[4,5,6,17,18],[4,5,17,18],[4,5,17,18],[2,3]])
noncomputable def c183:aB:=bG (bF 11 [0] Tryz.f183 [[0],[3],[2]])
noncomputable def alW:aB:=bG (bF 4 [0] Tryz.f216 [[0],[3],[2],[2]])
noncomputable def alX:aB:=bG (bF 67 [0,1,2] Tryz.f217 [[0,1,2],[1,2,7],[1,2,7,8],[6],[1,2,7,14],[6],[1,2,7,21],[6],[1,2,7,27],[6],[1,2,7,33],[6],[1,2,7,39],[6],[1,2,7,45],[6],[1,2,51],[6],[6]])
noncomputable def alY:aB:=bG (bF 61 [0,1] Tryz.f184 [[0,1],[0,1,9],[0,1,9,10],[4],[0,1,9,17],[4],[0,1,27],[4],[4]])
noncomputable def c152:aB:=bG (bF 9 [0,1] Tryz.f152 [[0,1],[4]])
noncomputable def c148:aB:=bG (bF 22 [0,1] Tryz.f148 [[0,1],[0,1,5],[1,5,8,9,10],[1,5,8,9,10,11],[1,5,7,8,9,10],[1,5,8,9,10],[1,5,8,9,10],[4]])
noncomputable def alZ:aB:=bG (bF 8 [0] Tryz.f149 [[0],[0,4],[2],[2]])
noncomputable def al0:aB:=bG (bF 6 [0] Tryz.f272 [[0],[2]])
noncomputable def al1:aB:=bG (bF 19 [0,1] Tryz.f182 [[0,1],[0,1,7,8],[0,1,7,8,9],[0,1,5,7,8],[0,1,5,7,8,16],[4],[0,1,7,8],[4]])
noncomputable def al2:aB:=bG (bF 9 [0,1] Tryz.f145 [[0,1],[4]])
noncomputable def al3:aB:=bG (bF 11 [0] Tryz.f257 [[0],[2]])
def c228:aB:=ba [ro 2 (.h4 (.c (.str [])))] [0] (.seq (.block 0 (ba [aP 4 0,hK 5 257 4,rb 6 5,cc 3 6] [0,3] (.cond (.t 3) (ba [ro 2 (.h4 (.c (.str [])))] [2] .ret) (ba [aP 8 0,ia 9 54 8,du 10 .eql 3 9 0,cc 7 10] [0,7] (.cond (.t 7) (ba [ro 2 (.h4 (.c (.str [45])))] [2] .ret) .skip))))) (ba [aP 11 0,ro 12 (.call (.f 158) [(.t 11),(.c (.str [44]))]),cc 2 12] [2] .ret))
def al4:aB:=ba [ro 1 (.iG 72 (.t 0)),ro 2 (.h4 (.c (.str [])))] [1] (rJ [dF 3 72 1 1,cm 4 2 3,hK 5 77 4,ro 6 (.eG .add 9 (.t 5) (.c (.str [58]))),dF 7 72 1 2,cm 8 54 7,hK 9 228 8,hX 10 .add 9 6 9,cc 2 10] [[],[0],[1],[2],[],[4],[5,2],[3,6],[7,6,0,1,2,3,4,5,6,7]] [2] .ret)
def c160:aB:=ba [ro 1 (.iG 72 (.t 0)),ro 2 (.h4 (.c (.str [])))] [1] (rJ [dF 3 72 1 0,cm 4 2 3,hK 5 77 4,ro 6 (.eG .add 9 (.t 5) (.c (.str [58]))),cm 7 72 1,hK 8 192 7,hX 9 .add 9 6 8,cc 2 9] [[],[0],[1],[2],[],[4,2],[3,5],[6,5,0,1,2,3,4,5,6]] [2] .ret)
def al5:aB:=ba [aP 12 0,np 13 12,dF 14 179 13 2,cm 15 137 14,aP 16 4,ro 17 (.jI 137 (.t 15) (.t 16)),rb 18 17] [0,1,3,4,18] (.cond (.t 18) (ba [aP 19 0,np 20 19,dF 21 179 20 2,cm 22 137 21,aP 23 4,⟨none,.kX 137 (.t 22) (.t 23) (.c (.bool true)),none⟩] [0,1,3] (.jL [aP 24 0,aP 25 0,np 26 25,dF 27 179 26 1,cm 28 105 27,cm 29 110 3,vQ 30 105 29,xW 31 105 105 28 30,np 32 24,dF 33 179 32 1,j8 105 33 31] [[],[],[1],[2],[3],[],[5],[4,6],[0,0,1,2,3,4,5,6,7],[8,0,1,2,3,4,5,6,7],[9,7,7,0,1,2,3,4,5,6,7]] (some [0,1]))) .skip)
def al6:aB:=ba [ro 3 (.iG 110 (.t 1))] [0,1,3] (rJ [dF 5 110 3 0,cm 6 9 5,ro 7 (.eG .add 9 (.t 6) (.c (.str [32]))),dF 8 110 3 1,cm 9 72 8,hK 10 160 9,hX 11 .add 9 7 10,cc 4 11] [[],[0],[1],[],[3],[4],[2,5],[6,5,0,1,2,3,4,5,6]] [0,1,3,4] al5)
def YE:aB:=.en [aP 63 0,aP 64 10,cm 65 72 12,ro 66 (.gm 110 [(0,(.t 64)),(1,(.t 65))]),kO 67 150 63 66] (some [0])
def al7:aB:=ba [aP 41 1,aP 42 2,du 43 .add 2 42 1,aP 44 3,hK 45 149 44,ro 46 (.gm 72 [(0,(.t 41)),(1,(.t 43)),(2,(.t 45))]),oJ 12 72,j8 72 12 46] [0,2,3,8,10,12] (.seq (ba [dF 47 123 8 2,cm 48 121 47,aP 49 2,du 50 .add 2 49 1,gS 51 121 48 50,cm 52 170 51,oJ 13 170,j8 170 13 52] [0,3,10,12,13] (ba [dF 53 170 13 0,cm 54 2 53,du 55 .eql 2 54 5] [0,3,10,12,13,55] (.cond (.t 55) (.jL [dF 56 170 13 1,cm 57 2 56,dF 58 170 13 3,cm 59 168 58,aP 60 3,kO 61 148 59 60,ro 62 (.gm 72 [(0,(.t 57)),(1,(.c (.int .i64 0))),(2,(.t 61))]),j8 72 12 62] [[],[0],[],[2],[],[3,4],[1,5],[6,5,0,1,2,3,4,5,6]] (some [0,10,12])) .skip))) YE)
def YF:aB:=ba [hX 105 .lss 2 104 103] [0,1,2,3,103,104,105] (.seq (.cond (.t 105) .skip (.exit 1)) (.seq (.block 2 (ba [aP 106 104,cc 14 106] [0,1,2,3,14,103,104] (.en [aP 107 0,aP 108 1,aP 109 2,du 110 .add 2 109 1,aP 111 3,hK 112 149 111,aP 113 14,vQ 114 54 113,⟨some 115,.shr (.app 54 54 (.t 112) (.t 114)),none⟩,Fg 116 105 107 108 110 115] (some [0,1,2,3,103,104])))) (.en [du 117 .add 2 104 1,aP 104 117] (some [0,1,2,3,103,104]))))
def al8:aB:=ba [du 85 .eql 2 28 3,cc 84 85] [0,1,2,3,9,28,84] (.cond (.t 84) (ba [dF 86 170 9 3,cm 87 168 86,ro 88 (.kF 168 (.t 87) (.c (.int .i64 0))),cm 89 207 88,aP 90 3,kO 91 152 89 90,du 92 .neq 2 91 0] [0,1,2,3,92] (.cond (.t 92) (.en [aP 93 0,aP 94 1,aP 95 2,du 96 .add 2 95 1,aP 97 3,Fg 98 105 93 94 96 97] (some [0])) .skip)) (ba [du 100 .eql 2 28 4,cc 99 100] [0,1,2,3,9,99] (.cond (.t 99) (ba [dF 101 170 9 1,cm 102 2 101,du 103 .add 2 102 1,xV 104 0] [0,1,2,3,103,104] (.block 1 (.loop YF))) .skip)))
def al9:aB:=.cond (.t 29) (rJ [dF 32 170 9 2,cm 33 9 32,dF 34 170 9 3,cm 35 168 34,aP 36 3,kO 37 148 35 36,kO 38 110 33 37,aP 31 38,kP 39 31 0,kP 40 31 1,cc 10 39,cc 11 40] [[],[0],[],[2],[],[3,4],[1,5,5],[6],[7],[7],[8,6,0,1,2,3,4,5,6,7,8],[9,10,0,1,2,3,4,5,6,7,8,9,10]] [0,1,2,3,8,10] al7) (ba [du 69 .eql 2 28 2,cc 68 69] [0,1,2,3,8,9,28,68] (.cond (.t 68) (ba [aP 70 0,aP 71 1,aP 72 2,du 73 .add 2 72 1,aP 74 3,Fg 75 105 70 71 73 74] [0,1,2,3,8] (.en [aP 76 0,aP 77 1,cm 78 123 8,aP 79 2,du 80 .add 3 79 1,kO 81 151 78 80,aP 82 3,Fg 83 105 76 77 81 82] (some [0]))) al8))
def c105:aB:=ba [aP 15 0,np 16 15,dF 17 179 16 0,cm 18 35 17,aP 19 1,gS 20 35 18 19,cm 21 123 20,oJ 8 123,j8 123 8 21] [0,1,2,3,8] (ba [dF 22 123 8 2,cm 23 121 22,aP 24 2,gS 25 121 23 24,cm 26 170 25,oJ 9 170,j8 170 9 26] [0,1,2,3,8,9] (ba [dF 27 170 9 0,cm 28 2 27] [0,1,2,3,8,9,28] (.block 0 (ba [du 30 .eql 2 28 1,cc 29 30] [0,1,2,3,8,9,28,29] al9))))
def al_:aB:=ba [aP 7 0,ro 8 (.sv),ro 9 (.gm 179 [(0,(.t 7)),(2,(.t 8))]),ro 10 (.iG 179 (.t 9)),cc 6 10] [3,6] (ba [aP 11 6,dF 12 72 3 0,cm 13 2 12,dF 14 72 3 1,cm 15 2 14,dF 16 72 3 2,cm 17 54 16,Fg 18 105 11 13 15 17] [6] (rJ [aP 19 6,np 20 19,dF 21 179 20 1,cm 22 105 21,aP 23 6,np 24 23,dF 25 179 24 1,cm 26 105 25,ia 27 105 26,du 28 .leq 3 27 200,⟨some 4,.pL (.t 22),none⟩,cc 5 28] [[],[0],[1],[2],[],[4],[5],[6],[7],[8],[3,0,1,2,3],[9,10,0,1,2,3,4,5,6,7,8,9,10]] [4,5,6] .ret))
def c72:aB:=ba [ro 3 (.iG 72 (.t 1)),pS 4,nF 5 false] [0,3] al_
noncomputable def c159:aB:=bG (bF 19 [0,1] Tryz.f159 [[0,1],[0,1,7,8],[0,1,7,8,9],[0,1,5,7,8],[0,1,5,7,8,16],[4],[0,1,7,8],[4]])
noncomputable def ama:aB:=bG (bF 9 [0,1] Tryz.f111 [[0,1],[4]])
noncomputable def amb:aB:=bG (bF 8 [0] Tryz.f113 [[1,2],[1,2],[2]])
noncomputable def amc:aB:=bG (bF 19 [0] Tryz.f112 [[0],[0,3],[3,6,7,8],[3,6,7,8,9],[3,5,6,7,8],[3,6,7,8],[3,6,7,8],[2]])
def YG:aB:=ba [hX 9 .lss 3 8 7] [3,6,7,8,9] (.seq (.cond (.t 9) .skip (.exit 0)) (.seq (.block 1 (ba [gS 10 41 6 8,cm 11 72 10,oJ 5 72,j8 72 5 11] [3,5,6,7,8] (.en [aP 12 3,cm 13 72 5,hK 14 160 13,vQ 15 25 14,xW 16 25 25 12 15,cc 3 16] (some [3,6,7,8])))) (.en [du 17 .add 3 8 1,aP 8 17] (some [3,6,7,8]))))
def amd:aB:=ba [ro 2 (.h4 (.c (.str [])))] [0] (ba [pS 3] [0,3] (.seq (ba [aP 6 0,ia 7 41 6,xV 8 0] [3,6,7,8] (.block 0 (.loop YG))) (ba [aP 18 3,ro 19 (.call (.f 161) [(.t 18),(.c (.str [32]))]),cc 2 19] [2] .ret)))
def ame:aB:=ba [aP 75 0,np 76 75,dF 77 139 76 3,cm 78 137 77,aP 79 15,ro 80 (.jI 137 (.t 78) (.t 79)),rb 81 80] [0,3,4,12,14,15,81] (.cond (.t 81) (ba [aP 82 0,np 83 82,dF 84 139 83 3,cm 85 137 84,aP 86 15,⟨none,.kX 137 (.t 85) (.t 86) (.c (.bool true)),none⟩] [0,3,4,12,14] (.en [aP 87 0,aP 88 0,np 89 88,dF 90 139 89 2,cm 91 64 90,aP 92 12,aP 93 3,aP 94 4,aP 95 14,ro 96 (.gm 117 [(0,(.t 92)),(1,(.t 93)),(2,(.t 94)),(3,(.t 95))]),vQ 97 64 96,xW 98 64 64 91 97,np 99 87,dF 100 139 99 2,j8 64 100 98] (some [0]))) .skip)
def Q1:aB:=ba [aP 62 12,ro 63 (.eG .add 9 (.t 62) (.c (.str [32]))),aP 64 3,hK 65 77 64,hX 66 .add 9 63 65,ro 67 (.eG .add 9 (.t 66) (.c (.str [32]))),aP 68 4,hK 69 77 68,hX 70 .add 9 67 69,ro 71 (.eG .add 9 (.t 70) (.c (.str [32]))),aP 72 14,hK 73 114 72,hX 74 .add 9 71 73,cc 15 74] [0,3,4,12,14,15] ame
def amf:aB:=ba [aP 41 0,np 42 41,dF 43 139 42 1,cm 44 41 43,hK 45 112 44,cc 14 45] [0,3,4,5,12,14] (ba [aP 46 14,aP 47 3,aP 48 5,ro 49 (.kF 41 (.t 48) (.c (.int .i64 0))),cm 50 72 49,hK 51 113 50,gS 52 41 46 47,j8 72 52 51] [0,3,4,5,12,14] (.seq (ba [aP 53 4,du 54 .geq 2 53 0] [0,3,4,5,12,14,54] (.cond (.t 54) (.en [aP 55 14,aP 56 4,aP 57 5,ro 58 (.kF 41 (.t 57) (.c (.int .i64 1))),cm 59 72 58,hK 60 113 59,gS 61 41 55 56,j8 72 61 60] (some [0,3,4,12,14])) .skip)) Q1))
def Q2:aB:=ba [aP 36 1,aP 37 2,kO 38 110 36 37,aP 35 38,kP 39 35 0,kP 40 35 1,cc 12 39,cc 13 40] [0,3,4,5,12] amf
def amg:aB:=.seq (ba [aP 16 1,ro 17 (.eG .neq 9 (.t 16) (.c (.str [116,97,117]))),aP 18 17,eX 19 18 (.hV (.t 0)),eX 20 18 (.ml (.t 19)),eX 21 18 (.hP 139 (.t 20) 0),eX 22 18 (.hP 39 (.t 21) 3),eX 23 18 (.fL 25 (.t 22)),eX 24 18 (.hV (.t 1)),⟨some 25,.call (.f 111) [(.t 23),(.t 24)],some (18,true)⟩,eX 26 18 (.un .not (.t 25)),ro 27 (.pick (.t 18) (.t 26) (.c (.bool false)))] [0,1,2,3,4,5,27] (.cond (.t 27) .ret .skip)) (.seq (ba [aP 28 0,np 29 28,dF 30 139 29 0,dF 31 39 30 4,cm 32 25 31,aP 33 1,kO 34 111 32 33] [0,1,2,3,4,5,34] (.cond (.t 34) (.en [ro 1 (.h4 (.c (.str [116,97,117]))),pS 2] (some [0,1,2,3,4,5])) .skip)) Q2)
noncomputable def amh:aB:=bG (bF 19 [0,1,2] Tryz.f163 [[1,2,3],[4]])
noncomputable def ami:aB:=bG (bF 19 [0,1] Tryz.f162 [[0,1],[0,1,7,8],[0,1,7,8,9],[0,1,5,7,8],[0,1,5,7,8,16],[4],[0,1,7,8],[4]])
noncomputable def amj:aB:=bG (bF 21 [0,1,2] Tryz.f115 [[3,4,5],[3,8],[3,8,14],[6,7],[6,7]])
noncomputable def c116:aB:=bG (bF 26 [0,1] Tryz.f116 [[0,1],[0,1,10],[4],[0,1,12,13],[0,1,12,13,14],[0,1,5,12,13],[0,1,12,13,24],[4],[0,1,12,13],[4]])
def amk:aB:=ba [aP 49 0,np 50 49,dF 51 139 50 0,cm 52 39 51,aP 53 12,aP 54 17,Xz 55 115 52 53 54,aP 48 55,kP 56 48 0,kP 57 48 1,cc 20 56,cc 21 57] [0,1,2,4,11,12,13,16,18,20,21,22,23,24,35,36,37] (ba [aP 58 21,aP 59 58,eX 60 59 (.hV (.t 13)),eX 61 59 (.hV (.t 18)),⟨some 62,.call (.f 116) [(.t 60),(.t 61)],some (59,true)⟩,ro 63 (.pick (.t 59) (.t 62) (.c (.bool false)))] [0,1,2,4,11,12,13,16,20,22,23,24,35,36,37,63] (.cond (.t 63) (.en [aP 64 0,aP 65 20,aP 66 13,aP 67 1,aP 68 2,dF 69 110 11 1,cm 70 72 69,dF 71 110 16 1,cm 72 72 71,⟨some 73,.shr (.dS 41 2 [(0,(.t 70)),(1,(.t 72))]),none⟩,ro 74 (.call (.f 74) [(.t 64),(.t 65),(.t 66),(.t 67),(.t 68),(.t 73)])] (some [0,1,2,4,11,12,13,22,23,24,35,36,37])) .skip))
def YH:aB:=.en [du 75 .add 3 37 1,aP 37 75] (some [0,1,2,4,11,12,13,22,23,24,35,36,37])
def YI:aB:=ba [hX 38 .lss 3 37 36] [0,1,2,4,11,12,13,22,23,24,35,36,37,38] (.seq (.cond (.t 38) .skip (.exit 2)) (.seq (.block 3 (ba [gS 39 105 35 37,cm 40 110 39,oJ 16 110,j8 110 16 40] [0,1,2,4,11,12,13,16,22,23,24,35,36,37] (ba [dF 42 110 16 0,cm 43 9 42,hK 44 73 43,aP 41 44,kP 45 41 0,kP 46 41 1,kP 47 41 2,cc 17 45,cc 18 46,cc 19 47] [0,1,2,4,11,12,13,16,17,18,22,23,24,35,36,37] amk))) YH))
def YJ:aB:=ba [hX 25 .lss 3 24 23] [0,1,2,4,22,23,24,25] (.seq (.cond (.t 25) .skip (.exit 0)) (.seq (.block 1 (ba [gS 26 105 22 24,cm 27 110 26,oJ 11 110,j8 110 11 27] [0,1,2,4,11,22,23,24] (ba [dF 29 110 11 0,cm 30 9 29,hK 31 73 30,aP 28 31,kP 32 28 0,kP 33 28 1,kP 34 28 2,cc 12 32,cc 13 33,cc 14 34] [0,1,2,4,11,12,13,22,23,24] (ba [aP 35 4,ia 36 105 35,xV 37 0] [0,1,2,4,11,12,13,22,23,24,35,36,37] (.block 2 (.loop YI)))))) (.en [du 76 .add 3 24 1,aP 24 76] (some [0,1,2,4,22,23,24]))))
def c75:aB:=ba [aP 22 3,ia 23 105 22,xV 24 0] [0,1,2,4,22,23,24] (.block 0 (.loop YJ))
def aml:aB:=.seq (.block 3 (ba [gS 48 105 44 46,cm 49 110 48,oJ 13 110,j8 110 13 49] [1,2,6,7,8,13,24,25,26,44,45,46] (ba [dF 51 110 13 0,cm 52 9 51,hK 53 73 52,aP 50 53,kP 54 50 0,kP 55 50 1,kP 56 50 2,cc 14 54,cc 15 55,cc 16 56] [1,2,6,7,8,13,14,15,24,25,26,44,45,46] (.en [aP 57 6,aP 58 14,aP 59 15,aP 60 8,dF 61 110 13 1,cm 62 72 61,⟨some 63,.shr (.dS 41 1 [(0,(.t 62))]),none⟩,ro 64 (.call (.f 74) [(.t 57),(.t 58),(.t 59),(.t 60),(.c (.int .i64 (-1))),(.t 63)])] (some [1,2,6,7,8,24,25,26,44,45,46]))))) (.en [du 65 .add 3 46 1,aP 46 65] (some [1,2,6,7,8,24,25,26,44,45,46]))
def YK:aB:=ba [hX 47 .lss 3 46 45] [1,2,6,7,8,24,25,26,44,45,46,47] (.seq (.cond (.t 47) .skip (.exit 2)) aml)
def amm:aB:=.seq (.block 1 (ba [aP 28 26,gS 29 41 24 26,cm 30 72 29,oJ 9 72,cc 8 28,j8 72 9 30] [1,2,6,7,8,9,24,25,26] (ba [dF 32 39 2 0,cm 33 35 32,cm 34 72 9,kO 35 72 33 34,aP 31 35,kP 36 31 0,kP 37 31 1,cc 10 36,cc 11 37] [1,2,6,7,8,10,11,24,25,26] (.seq (ba [aP 38 11,rb 39 38] [1,2,6,7,8,10,24,25,26,39] (.cond (.t 39) (ba [pS 4,nF 5 false] [4,5] .ret) .skip)) (ba [aP 40 7,aP 41 10,vQ 42 104 41,xW 43 104 104 40 42,cc 7 43] [1,2,6,7,8,10,24,25,26] (ba [aP 44 10,ia 45 105 44,xV 46 0] [1,2,6,7,8,24,25,26,44,45,46] (.block 2 (.loop YK)))))))) (.en [du 66 .add 3 26 1,aP 26 66] (some [1,2,6,7,24,25,26]))
def YL:aB:=ba [hX 27 .lss 3 26 25] [1,2,6,7,24,25,26,27] (.seq (.cond (.t 27) .skip (.exit 0)) amm)
def YM:aB:=.seq (ba [aP 74 18,aP 75 1,ia 76 41 75,hX 77 .lss 3 74 76] [1,6,7,17,18,68,69,77] (.cond (.t 77) .skip (.exit 6))) (.seq (.block 7 (.jL [aP 80 6,aP 81 17,aP 82 18,aP 83 7,aP 84 17,gS 85 104 83 84,cm 86 105 85,aP 87 7,aP 88 18,gS 89 104 87 88,cm 90 105 89,ro 91 (.call (.f 75) [(.t 80),(.t 81),(.t 82),(.t 86),(.t 90)])] [[],[],[],[],[],[3,4],[5],[],[],[7,8],[9],[0,1,2,6,10]] (some [1,6,7,17,18,68,69]))) (.en [aP 78 18,du 79 .add 3 78 1,cc 18 79] (some [1,6,7,17,18,68,69])))
def YN:aB:=ba [hX 70 .lss 3 69 68] [1,6,7,68,69,70] (.seq (.cond (.t 70) .skip (.exit 4)) (.seq (.block 5 (ba [aP 71 69,cc 17 71] [1,6,7,17,68,69] (ba [aP 72 17,du 73 .add 3 72 1,cc 18 73] [1,6,7,17,18,68,69] (.block 6 (.loop YM))))) (.en [du 92 .add 3 69 1,aP 69 92] (some [1,6,7,68,69]))))
def amn:aB:=ba [cm 19 39 2,aP 20 1,ro 21 (.sv),ro 22 (.gm 139 [(0,(.t 19)),(1,(.t 20)),(3,(.t 21))]),ro 23 (.iG 139 (.t 22)),cc 6 23] [1,2,6] (ba [pS 7] [1,2,6,7] (.seq (ba [aP 24 1,ia 25 41 24,xV 26 0] [1,2,6,7,24,25,26] (.block 0 (.loop YL))) (.seq (ba [aP 67 1,ia 68 41 67,xV 69 0] [1,6,7,68,69] (.block 4 (.loop YN))) (rJ [aP 93 6,np 94 93,dF 95 139 94 2,cm 96 64 95,aP 97 6,np 98 97,dF 99 139 98 2,cm 100 64 99,ia 101 64 100,du 102 .leq 3 101 200,⟨some 4,.pL (.t 96),none⟩,cc 5 102] [[],[0],[1],[2],[],[4],[5],[6],[7],[8],[3,0,1,2,3],[9,10,0,1,2,3,4,5,6,7,8,9,10]] [4,5,6] .ret))))
def amo:aB:=ba [ro 2 (.iG 39 (.t 0)),pS 4,nF 5 false] [1,2] amn
noncomputable def c76:aB:=bG (bF 35 [0,1] Tryz.f76 [[0,1],[0,1,9],[4],[0,5],[0,5,12,13],[0,5,12,13,14],[0,5,6,12,13],[0,5,12,13],[0,5,12,13,23],[0,5,12,13,23,24],[0,5,12,13,23],[0,5,12,13,23,28],[0,5,12,13,23],[0,5,12,13,23],[0,5,12,13],[4]])
noncomputable def c80:aB:=bG (bF 9 [0] Tryz.f80 [[0,2],[2]])
noncomputable def amp:aB:=bG (bF 10 [0,1] Tryz.f79 [[1,2],[3]])
noncomputable def amq:aB:=bG (bF 19 [0,1] Tryz.f78 [[0,1],[0,1,7,8],[0,1,7,8,9],[0,1,5,7,8],[0,1,5,7,8,16],[4],[0,1,7,8],[4]])
def amr:aB:=.cond (.t 8) (rJ [dF 12 77 3 1,cm 13 2 12,hK 14 77 13,ro 15 (.eG .add 9 (.t 14) (.c (.str [45]))),cm 16 43 5,ia 17 43 16,hK 18 77 17,hX 19 .add 9 15 18,ro 20 (.call (.f 76) [(.t 19),(.c (.int .i64 65535))]),aP 21 1,ia 22 64 21,hX 23 .rem 2 20 22,cc 6 23] [[],[0],[1],[2],[],[4],[5,2],[3,6],[7,6],[],[9],[8,10],[11,8,0,1,2,3,4,5,6,7,8,9,10,11]] [6] .ret) (ba [dF 25 77 3 0,cm 26 2 25,du 27 .eql 2 26 1,aP 28 27,eX 29 28 (.fL 43 (.t 5)),eX 30 28 (.len 43 (.t 29)),eX 31 28 (.eG .gtr 3 (.t 30) (.c (.int .i64 0))),ro 32 (.pick (.t 28) (.t 31) (.c (.bool false))),cc 24 32] [1,5,24] (.cond (.t 24) (ba [aP 33 1,ro 34 (.o9 79 [(.t 5)]),kO 35 78 33 34,cc 7 35] [7] (ba [aP 36 7,ro 37 (.ki true (.t 36) (.c (.int .i64 0))),cc 6 37] [6] .ret)) .skip))
def Q3:aB:=ba [ro 3 (.iG 77 (.t 0)),ro 5 (.iG 43 (.t 2)),hY 6 0] [1,3,5] (.seq (.block 0 (ba [dF 9 77 3 0,cm 10 2 9,du 11 .eql 2 10 2,cc 8 11] [1,3,5,8] amr)) (ba [hY 6 0] [6] .ret))
noncomputable def ams:aB:=bG (bF 48 [0,1,2,3,4] Tryz.f11 [[1,2,3,4,5],[1,2,5,12],[1,2,5,12,18],[10,11],[1,2,5,12,23],[10,11],[1,2,5,12,27],[10,11],[2,12,13,14],[2,12,13,37],[10,11],[2,12,13,40],[10,11],[10,11]])
noncomputable def amt:aB:=bG (bF 15 [0,1] Tryz.f262 [[2,3],[2,3,9],[4],[14],[4],[4]])
noncomputable def c236:aB:=bG (bF 27 [0,1] Tryz.f236 [[0,1],[0,1,10],[4],[0,1,5],[0,1,5,14],[0,1,5,26],[4],[0,1,5],[4]])
noncomputable def amu:aB:=bG (bF 27 [0,1] Tryz.f200 [[0,1],[0,1,10],[4],[0,1,5],[0,1,5,14],[0,1,5,26],[4],[0,1,5],[4]])
noncomputable def amv:aB:=bG (bF 26 [0,1] Tryz.f165 [[2,3],[2,3,9],[4],[2,3,14],[4],[2,3,19],[4],[25],[4],[4]])
noncomputable def amw:aB:=bG (bF 27 [0,1] Tryz.f118 [[0,1],[0,1,10],[4],[0,1,5],[0,1,5,14],[0,1,5,26],[4],[0,1,5],[4]])
noncomputable def amx:aB:=bG (bF 21 [0,1] Tryz.f81 [[2,3],[2,3,9],[4],[2,3,14],[4],[20],[4],[4]])
noncomputable def c37:aB:=bG (bF 27 [0,1] Tryz.f37 [[0,1],[0,1,10],[4],[0,1,5],[0,1,5,14],[0,1,5,26],[4],[0,1,5],[4]])
noncomputable def amy:aB:=bG (bF 26 [0,1] Tryz.f84 [[0,1],[0,1,10],[4],[0,1,5],[0,1,5,14],[0,1,5,25],[4],[0,1,5],[4]])
noncomputable def amz:aB:=bG (bF 16 [0,1] Tryz.f82 [[2,3],[2,3,9],[4],[15],[4],[4]])
noncomputable def amA:aB:=bG (bF 27 [0,1] Tryz.f38 [[0,1],[0,1,10],[4],[0,1,5],[0,1,5,14],[0,1,5,26],[4],[0,1,5],[4]])
noncomputable def amB:aB:=bG (bF 20 [0,1] Tryz.f83 [[2,3],[2,3,9],[4],[2,3,14],[4],[19],[4],[4]])
noncomputable def amC:aB:=bG (bF 27 [0,1] Tryz.f39 [[0,1],[0,1,10],[4],[0,1,5],[0,1,5,14],[0,1,5,26],[4],[0,1,5],[4]])
noncomputable def c40:aB:=bG (bF 26 [0,1] Tryz.f40 [[0,1],[0,1,10],[4],[0,1,5],[0,1,5,14],[0,1,5,25],[4],[0,1,5],[4]])
noncomputable def c12:aB:=bG (bF 35 [0,1] Tryz.f12 [[2,3],[2,3,10],[4],[2,3,16],[4],[2,3,22],[4],[2,3,28],[4],[34],[4],[4]])
noncomputable def amD:aB:=bG (bF 21 [0,1] Tryz.f41 [[2,3],[2,3,9],[4],[2,3,14],[4],[20],[4],[4]])
noncomputable def amE:aB:=bG (bF 27 [0,1] Tryz.f13 [[0,1],[0,1,10],[4],[0,1,5],[0,1,5,14],[0,1,5,26],[4],[0,1,5],[4]])
noncomputable def amF:aB:=bG (bF 25 [0,1] Tryz.f42 [[2,3],[2,3,9],[4],[2,3,14],[4],[2,3,19],[4],[24],[4],[4]])
noncomputable def gw:aB:=bG (bF 27 [0,1] Tryz.f14 [[0,1],[0,1,10],[4],[0,1,5],[0,1,5,14],[0,1,5,26],[4],[0,1,5],[4]])
noncomputable def c3:aB:=bG (bF 84 [0,1,2,3,4] Tryz.f3 [[1,2,3,4,5],[1,2,3,4,5,11],[1,2,3,4,5,11],[1,2,3,4,5,11,23],[10],[1,2,3,4,5,11],[1,2,3,4,5,11,28],[10],[1,2,3,4,5,11],[1,2,3,4,5,33],[10],[1,2,3,4,5,12,13],[1,2,3,4,5,12,13,14],[1,2,3,4,5,12,13,14,15],[1,2,3,4,5,12,13,14,15,16],[1,2,5,12,13,14,15,16,17,18],[1,2,5,14,15,16,68],[10],[1,2,15,16,73],[10],[2,16,78],[10],[83],[10],[10]])
def G5:=PLift.up (And.intro @Bool.not_true @Bool.not_false)
def ayB:=PLift.up (And.intro @length_append.{0} (And.intro @length_cons.{0} (And.intro @length_nil.{0} (And.intro @length_map.{0,0} (And.intro @length_replicate.{0} (And.intro @Nat.zero_add @Nat.add_zero))))))
end Go.Proofs.YtmaepbgkcmjcjaiGreatDoor
