/- Part of a proof that a law returns true for every input. No condition. -/
import Derived.Test.YtmaepbgkcmjcjahGreatDoorTb
import Derived.Test.YtmaepbgkcmjcjahGreatDoorFwL
import Derived.Test.YtmaepbgkcmjcjahGreatDoorP3
namespace Go.Proofs.YtmaepbgkcmjcjahGreatDoor
open List Option Go.IntKind Nat Or
open Go Go.ei Go.k6
set_option linter.unusedSimpArgs false
def nj (x:jx):I:=.agg [.int .i64 x.Kind,.int .i64 x.Value]
theorem ajB (x:jx):(nj x).share=nj x:=by
 simp only[nj,cR]
theorem axU (x:jx):(nj x).dc=true:=by
 simp only[nj,I.dc,I.g_,Bool.and_self]
def lE (x:azo):I:=.slice (x.map nj)
theorem Yy (x:azo):(lE x).share=lE x:=by
 simp only[lE,cR, @b0 _ nj nj (λ_=>ajB _)]
def kI (x:lx):I:=.agg [.int .i64 x.Kind,.int .i64 x.Number,.str x.Name,.slice (x.cl.map lE)]
theorem Yz (x:lx):(kI x).share=kI x:=by
 simp only[kI,cR, @b0 _ lE lE (λ_=>Yy _)]
def j_ (x:ly):I:=.agg [.str x.Name,.int .i64 x.dU,.slice (x.Body.map kI)]
theorem YA (x:ly):(j_ x).share=j_ x:=by
 simp only[j_,cR, @b0 _ kI kI (λ_=>Yz _)]
def aT (x:Int):I:=.int .i64 x
theorem jA (x:Int):(aT x).share=aT x:=by
 simp only[aT,cR]
theorem Le (x:Int):(aT x).dc=true:=by
 simp only[aT,I.dc,I.g_,Bool.and_self]
def ka (x:lz):I:=.agg [.int .i64 x.cA,.slice (x.bK.map aT)]
theorem YB (x:lz):(ka x).share=ka x:=by
 simp only[ka,cR, @b0 _ aT aT (λ_=>jA _)]
def jJ (x:k7):I:=.agg [.str x.Left,.str x.cH,.str x.Result]
theorem YC (x:k7):(jJ x).share=jJ x:=by
 simp only[jJ,cR]
theorem axV (x:k7):(jJ x).dc=true:=by
 simp only[jJ,I.dc,I.g_,Bool.and_self]
def aN (x:azc):I:=.str x
theorem jK (x:azc):(aN x).share=aN x:=by
 simp only[aN,cR]
theorem Rr (x:azc):(aN x).dc=true:=by
 simp only[aN,I.dc,I.g_,Bool.and_self]
def lF (x:o2):I:=.agg [.slice (x.cw.map j_),.slice (x.ch.map ka),.slice (x.b_.map jJ),.slice (x.cD.map aN),.slice (x.cB.map aN)]
theorem axW (x:o2):(lF x).share=lF x:=by
 simp only[lF,cR, @b0 _ j_ j_ (λ_=>YA _), @b0 _ ka ka (λ_=>YB _), @b0 _ jJ jJ (λ_=>YC _), @b0 _ aN aN (λ_=>jK _)]
def ir (x:lA):I:=.agg [.int .i64 x.cA,.int .i64 x.Part,.slice (x.bK.map aT)]
theorem axX (x:lA):(ir x).share=ir x:=by
 simp only[ir,cR, @b0 _ aT aT (λ_=>jA _)]
def Rs (x:azq):I:=.slice (x.map j_)
theorem axY (x:azq):(Rs x).share=Rs x:=by
 simp only[Rs,cR, @b0 _ j_ j_ (λ_=>YA _)]
def Rt (x:azr):I:=.slice (x.map ka)
theorem axZ (x:azr):(Rt x).share=Rt x:=by
 simp only[Rt,cR, @b0 _ ka ka (λ_=>YB _)]
def Ru (x:azs):I:=.slice (x.map jJ)
theorem ax0 (x:azs):(Ru x).share=Ru x:=by
 simp only[Ru,cR, @b0 _ jJ jJ (λ_=>YC _)]
def Ho (x:azb):I:=.slice (x.map aN)
theorem ax1 (x:azb):(Ho x).share=Ho x:=by
 simp only[Ho,cR, @b0 _ aN aN (λ_=>jK _)]
def Rv (x:azp):I:=.slice (x.map kI)
theorem ax2 (x:azp):(Rv x).share=Rv x:=by
 simp only[Rv,cR, @b0 _ kI kI (λ_=>Yz _)]
def Rw (x:azl):I:=.slice (x.map lE)
theorem ax3 (x:azl):(Rw x).share=Rw x:=by
 simp only[Rw,cR, @b0 _ lE lE (λ_=>Yy _)]
def Hp (x:aze):I:=.slice (x.map aT)
theorem ax4 (x:aze):(Hp x).share=Hp x:=by
 simp only[Hp,cR, @b0 _ aT aT (λ_=>jA _)]
def dY (x:bV):I:=.agg [.int .i64 x.Kind,.int .i64 x.Value]
theorem Hq (x:bV):(dY x).share=dY x:=by
 simp only[dY,cR]
theorem ajC (x:bV):(dY x).dc=true:=by
 simp only[dY,I.dc,I.g_,Bool.and_self]
def i_ (x:azu):I:=.slice (x.map dY)
theorem Rx (x:azu):(i_ x).share=i_ x:=by
 simp only[i_,cR, @b0 _ dY dY (λ_=>Hq _)]
def ey (x:ca):I:=.agg [.int .i64 x.Kind,.int .i64 x.Number,.str x.Name,.slice (x.cl.map i_)]
theorem Lf (x:ca):(ey x).share=ey x:=by
 simp only[ey,cR, @b0 _ i_ i_ (λ_=>Rx _)]
def bl (x:a6):I:=.agg [.str x.Name,.int .i64 x.dU,.slice (x.Body.map ey)]
theorem sb (x:a6):(bl x).share=bl x:=by
 simp only[bl,cR, @b0 _ ey ey (λ_=>Lf _)]
def lG (x:azu):I:=.ae 2 (x.map dY)
theorem Ry (x:azu):(lG x).share=i_ x:=by
 simp only[lG,i_,cR, @b0 _ dY dY (λ_=>Hq _)]
theorem YD (x:azu):(lG x).dc=true:=by
 simp only[lG,I.dc,I.g_,Bool.and_self, @jZ _ dY (λ_=>ajC _)]
def jm (x:ca):I:=.agg [.int .i64 x.Kind,.int .i64 x.Number,.str x.Name,.ae 1 (x.cl.map lG)]
theorem Rz (x:ca):(jm x).share=ey x:=by
 simp only[jm,ey,cR, @b0 _ lG i_ (λ_=>Ry _)]
theorem YE (x:ca):(jm x).dc=true:=by
 simp only[jm,I.dc,I.g_,Bool.and_self, @jZ _ lG (λ_=>YD _)]
def hq (x:a6):I:=.agg [.str x.Name,.int .i64 x.dU,.ae 4 (x.Body.map jm)]
theorem At (x:a6):(hq x).share=bl x:=by
 simp only[hq,bl,cR, @b0 _ jm ey (λ_=>Rz _)]
theorem YF (x:a6):(hq x).dc=true:=by
 simp only[hq,I.dc,I.g_,Bool.and_self, @jZ _ jm (λ_=>YE _)]
def Lg (x:azv):I:=.ae 4 (x.map jm)
def Hr (x:azv):I:=.slice (x.map ey)
theorem ax5 (x:azv):(Hr x).share=Hr x:=by
 simp only[Hr,cR, @b0 _ ey ey (λ_=>Lf _)]
theorem ax6 (x:azv):(Lg x).share=Hr x:=by
 simp only[Lg,Hr,cR, @b0 _ jm ey (λ_=>Rz _)]
theorem ax7 (x:azv):(Lg x).dc=true:=by
 simp only[Lg,I.dc,I.g_,Bool.and_self, @jZ _ jm (λ_=>YE _)]
def Lh (x:azm):I:=.ae 1 (x.map lG)
def Hs (x:azm):I:=.slice (x.map i_)
theorem ax8 (x:azm):(Hs x).share=Hs x:=by
 simp only[Hs,cR, @b0 _ i_ i_ (λ_=>Rx _)]
theorem ax9 (x:azm):(Lh x).share=Hs x:=by
 simp only[Lh,Hs,cR, @b0 _ lG i_ (λ_=>Ry _)]
theorem ax_ (x:azm):(Lh x).dc=true:=by
 simp only[Lh,I.dc,I.g_,Bool.and_self, @jZ _ lG (λ_=>YD _)]
def dj (x:cV):I:=.agg [.int .i64 x.cA,.slice (x.bK.map aT)]
theorem yy (x:cV):(dj x).share=dj x:=by
 simp only[dj,cR, @b0 _ aT aT (λ_=>jA _)]
def hM (x:cV):I:=.agg [.int .i64 x.cA,.ae 1 (x.bK.map aT)]
theorem Au (x:cV):(hM x).share=dj x:=by
 simp only[hM,dj,cR, @b0 _ aT aT (λ_=>jA _)]
theorem YG (x:cV):(hM x).dc=true:=by
 simp only[hM,I.dc,I.g_,Bool.and_self, @jZ _ aT (λ_=>Le _)]
def Li (x:aze):I:=.ae 1 (x.map aT)
theorem aya (x:aze):(Li x).share=Hp x:=by
 simp only[Li,Hp,cR, @b0 _ aT aT (λ_=>jA _)]
theorem ayb (x:aze):(Li x).dc=true:=by
 simp only[Li,I.dc,I.g_,Bool.and_self, @jZ _ aT (λ_=>Le _)]
def bI (x:bZ):I:=.agg [.str x.Left,.str x.cH,.str x.Result]
theorem pS (x:bZ):(bI x).share=bI x:=by
 simp only[bI,cR]
theorem YH (x:bZ):(bI x).dc=true:=by
 simp only[bI,I.dc,I.g_,Bool.and_self]
def q8 (x:cL):I:=.agg [.ae 3 (x.cw.map hq),.ae 2 (x.ch.map hM),.ae 3 (x.b_.map bI),.ae 1 (x.cD.map aN),.ae 1 (x.cB.map aN)]
def e1 (x:cL):I:=.agg [.slice (x.cw.map bl),.slice (x.ch.map dj),.slice (x.b_.map bI),.slice (x.cD.map aN),.slice (x.cB.map aN)]
theorem ayc (x:cL):(e1 x).share=e1 x:=by
 simp only[e1,cR, @b0 _ bl bl (λ_=>sb _), @b0 _ dj dj (λ_=>yy _), @b0 _ bI bI (λ_=>pS _), @b0 _ aN aN (λ_=>jK _)]
theorem ajD (x:cL):(q8 x).share=e1 x:=by
 simp only[q8,e1,cR, @b0 _ hq bl (λ_=>At _), @b0 _ hM dj (λ_=>Au _), @b0 _ bI bI (λ_=>pS _), @b0 _ aN aN (λ_=>jK _)]
theorem ayd (x:cL):(q8 x).dc=true:=by
 simp only[q8,I.dc,I.g_,Bool.and_self, @jZ _ hq (λ_=>YF _), @jZ _ hM (λ_=>YG _), @jZ _ bI (λ_=>YH _), @jZ _ aN (λ_=>Rr _)]
def Lj (x:azw):I:=.ae 3 (x.map hq)
def Ht (x:azw):I:=.slice (x.map bl)
theorem aye (x:azw):(Ht x).share=Ht x:=by
 simp only[Ht,cR, @b0 _ bl bl (λ_=>sb _)]
theorem ayf (x:azw):(Lj x).share=Ht x:=by
 simp only[Lj,Ht,cR, @b0 _ hq bl (λ_=>At _)]
theorem ayg (x:azw):(Lj x).dc=true:=by
 simp only[Lj,I.dc,I.g_,Bool.and_self, @jZ _ hq (λ_=>YF _)]
def Lk (x:azx):I:=.ae 2 (x.map hM)
def Hu (x:azx):I:=.slice (x.map dj)
theorem ayh (x:azx):(Hu x).share=Hu x:=by
 simp only[Hu,cR, @b0 _ dj dj (λ_=>yy _)]
theorem ayi (x:azx):(Lk x).share=Hu x:=by
 simp only[Lk,Hu,cR, @b0 _ hM dj (λ_=>Au _)]
theorem ayj (x:azx):(Lk x).dc=true:=by
 simp only[Lk,I.dc,I.g_,Bool.and_self, @jZ _ hM (λ_=>YG _)]
def Ll (x:azy):I:=.ae 3 (x.map bI)
def Hv (x:azy):I:=.slice (x.map bI)
theorem ayk (x:azy):(Hv x).share=Hv x:=by
 simp only[Hv,cR, @b0 _ bI bI (λ_=>pS _)]
theorem ayl (x:azy):(Ll x).share=Hv x:=by
 simp only[Ll,Hv,cR, @b0 _ bI bI (λ_=>pS _)]
theorem aym (x:azy):(Ll x).dc=true:=by
 simp only[Ll,I.dc,I.g_,Bool.and_self, @jZ _ bI (λ_=>YH _)]
def Lm (x:azb):I:=.ae 1 (x.map aN)
theorem ayn (x:azb):(Lm x).share=Ho x:=by
 simp only[Lm,Ho,cR, @b0 _ aN aN (λ_=>jK _)]
theorem ayo (x:azb):(Lm x).dc=true:=by
 simp only[Lm,I.dc,I.g_,Bool.and_self, @jZ _ aN (λ_=>Rr _)]
def bs (x:a8):I:=.agg [.int .i64 x.cA,.int .i64 x.Part,.slice (x.bK.map aT)]
theorem wN (x:a8):(bs x).share=bs x:=by
 simp only[bs,cR, @b0 _ aT aT (λ_=>jA _)]
def cQ (x:a8):I:=.agg [.int .i64 x.cA,.int .i64 x.Part,.ae 1 (x.bK.map aT)]
theorem nK (x:a8):(cQ x).share=bs x:=by
 simp only[cQ,bs,cR, @b0 _ aT aT (λ_=>jA _)]
theorem yz (x:a8):(cQ x).dc=true:=by
 simp only[cQ,I.dc,I.g_,Bool.and_self, @jZ _ aT (λ_=>Le _)]
def gE (x:bp):I:=.agg [.str x.Label,.int .i64 x.n1,.int .i64 x.Second,.slice (x.State.map bs)]
theorem ajE (x:bp):(gE x).share=gE x:=by
 simp only[gE,cR, @b0 _ bs bs (λ_=>wN _)]
def Hw (x:azz):I:=.slice (x.map bs)
theorem ayp (x:azz):(Hw x).share=Hw x:=by
 simp only[Hw,cR, @b0 _ bs bs (λ_=>wN _)]
def df (x:bm):I:=.agg [.str x.Label,bs x.Next]
theorem DO (x:bm):(df x).share=df x:=by
 simp only[df,cR,wN]
def gq (x:azB):I:=.slice (x.map df)
theorem ayq (x:azB):(gq x).share=gq x:=by
 simp only[gq,cR, @b0 _ df df (λ_=>DO _)]
def hS (x:bm):I:=.agg [.str x.Label,cQ x.Next]
theorem Hx (x:bm):(hS x).share=df x:=by
 simp only[hS,df,cR,nK]
theorem ajF (x:bm):(hS x).dc=true:=by
 simp only[hS,I.dc,I.g_,Bool.and_self,yz]
def Hy (x:azB):I:=.ae 4 (x.map hS)
theorem ayr (x:azB):(Hy x).share=gq x:=by
 simp only[Hy,gq,cR, @b0 _ hS df (λ_=>Hx _)]
theorem ays (x:azB):(Hy x).dc=true:=by
 simp only[Hy,I.dc,I.g_,Bool.and_self, @jZ _ hS (λ_=>ajF _)]
def fz (x:dR):I:=.agg [.int .i64 x.scope,.bool x.behind]
theorem YI (x:dR):(fz x).share=fz x:=by
 simp only[fz,cR]
theorem ajG (x:dR):(fz x).dc=true:=by
 simp only[fz,I.dc,I.g_,Bool.and_self]
def Hz (x:Bool):I:=.bool x
theorem ayt (x:Bool):(Hz x).share=Hz x:=by
 simp only[Hz,cR]
theorem ayu (x:Bool):(Hz x).dc=true:=by
 simp only[Hz,I.dc,I.g_,Bool.and_self]
theorem ajH:(∀a0 J,(dG.mk a0 J).term=a0)/\(∀a0 J,(dG.mk a0 J).args=J):=⟨λ_ _=>rfl,λ_ _=>rfl⟩
mutual
def q9:dG->I
 | .mk a0 J=>.agg [dY a0,.slice (sc J)]
def sc:List dG->azk
 |[]=>[]
 |y::r=>.ref (q9 y)::sc r
end
def qo (x:dG):I:=.ref (q9 x)
theorem YJ:∀l,sc l=l.map qo
 |[]=>by simp only[sc,map_nil]
 |y::r=>by simp only[sc,map_cons,YJ r,qo]
theorem ajI (x:dG):q9 x= .agg [dY x.term,.slice (x.args.map qo)]:=by
 cases x;simp only[q9,YJ,dG.term,dG.args]
mutual
theorem YK:∀x:dG,(q9 x).share=q9 x
 | .mk a0 J=>by simp only[q9,cR,I.share,I.shares,YL J,Hq]
theorem YL:∀l:List dG,I.shares (sc l)=sc l
 |[]=>by simp only[sc,I.shares]
 |y::r=>by simp only[sc,I.shares,I.share,YK y,YL r]
end
theorem ajJ (x:dG):(qo x).share=qo x:=by simp only[qo,I.share,YK]
mutual
def yA:dG->I
 | .mk a0 J=>.agg [dY a0,.ae 1 (tC J)]
def tC:List dG->azk
 |[]=>[]
 |y::r=>.aM (yA y)::tC r
end
def l3 (x:dG):I:=.aM (yA x)
theorem YM:∀l,tC l=l.map l3
 |[]=>by simp only[tC,map_nil]
 |y::r=>by simp only[tC,map_cons,YM r,l3]
theorem ajK (x:dG):yA x= .agg [dY x.term,.ae 1 (x.args.map l3)]:=by
 cases x;simp only[yA,YM,dG.term,dG.args]
mutual
theorem YN:∀x:dG,(yA x).share=q9 x
 | .mk a0 J=>by simp only[yA,q9,cR,I.share,I.shares,YO J,Hq]
theorem YO:∀l:List dG,I.shares (tC l)=sc l
 |[]=>by simp only[tC,sc,I.shares]
 |y::r=>by simp only[tC,sc,I.shares,I.share,YN y,YO r]
end
theorem YP (x:dG):(l3 x).share=qo x:=by simp only[l3,qo,I.share,YN]
mutual
theorem YQ:∀x:dG,(yA x).dc=true
 | .mk a0 J=>by simp[yA,I.dc,I.g_,YR J,dY]
theorem YR:∀l:List dG,I.g_ (tC l)=true
 |[]=>by simp only[tC,I.g_]
 |y::r=>by simp only[tC,I.g_,I.dc,YQ y,YR r,Bool.and_self]
end
theorem ajL (x:dG):(l3 x).dc=true:=by simp only[l3,I.dc,YQ]
def Ln (x:List dG):I:=.ae 1 (x.map l3)
def HA (x:List dG):I:=.slice (x.map qo)
theorem ayv (x:List dG):(HA x).share=HA x:=by
 simp only[HA,cR, @b0 _ qo qo (λ_=>ajJ _)]
theorem ayw (x:List dG):(Ln x).share=HA x:=by
 simp only[Ln,HA,cR, @b0 _ l3 qo (λ_=>YP _)]
theorem ayx (x:List dG):(Ln x).dc=true:=by
 simp only[Ln,I.dc,I.g_,Bool.and_self, @jZ _ l3 (λ_=>ajL _)]
def fN (x:bp):I:=.agg [.str x.Label,.int .i64 x.n1,.int .i64 x.Second,.ae 3 (x.State.map cQ)]
theorem YS (x:bp):(fN x).share=gE x:=by
 simp only[fN,gE,cR, @b0 _ cQ bs (λ_=>nK _)]
theorem ajM (x:bp):(fN x).dc=true:=by
 simp only[fN,I.dc,I.g_,Bool.and_self, @jZ _ cQ (λ_=>yz _)]
def Lo (x:azz):I:=.ae 3 (x.map cQ)
theorem ayy (x:azz):(Lo x).share=Hw x:=by
 simp only[Lo,Hw,cR, @b0 _ cQ bs (λ_=>nK _)]
theorem ayz (x:azz):(Lo x).dc=true:=by
 simp only[Lo,I.dc,I.g_,Bool.and_self, @jZ _ cQ (λ_=>yz _)]
noncomputable def ajN:aA:=bR (bQ 12 [0] Tryz.f187 [[0,1],[1],[1,10],[4],[4]])
noncomputable def c154:aA:=bR (bQ 27 [0] Tryz.f154 [[0,1],[0,1],[0,1,11],[4],[0,1,5],[0,1,5,15],[0,1,5],[0,1,5,25],[4],[0,1,5],[4]])
noncomputable def c107:aA:=bR (bQ 19 [0] Tryz.f107 [[1,2],[1,2],[1,2,11],[4],[1],[1,17],[4],[4]])
noncomputable def ajO:aA:=bR (bQ 27 [0] Tryz.f78 [[0,1],[0,1],[0,1,11],[4],[0,1,5],[0,1,5,15],[0,1,5],[0,1,5,25],[4],[0,1,5],[4]])
noncomputable def ajP:aA:=bR (bQ 19 [0] Tryz.f48 [[1,2],[1,2],[1,2,11],[4],[1],[1,17],[4],[4]])
noncomputable def c21:aA:=bR (bQ 27 [0] Tryz.f21 [[0,1],[0,1],[0,1,11],[4],[0,1,5],[0,1,5,15],[0,1,5],[0,1,5,25],[4],[0,1,5],[4]])
noncomputable def c51:aA:=bR (bQ 12 [0] Tryz.f51 [[0,1],[1],[1,10],[4],[4]])
noncomputable def c49:aA:=bR (bQ 12 [0] Tryz.f49 [[1,2],[1],[1,10],[4],[4]])
noncomputable def RA:aA:=bR (bQ 27 [0] Tryz.f22 [[0,1],[0,1],[0,1,11],[4],[0,1,5],[0,1,5,15],[0,1,5],[0,1,5,25],[4],[0,1,5],[4]])
noncomputable def ajQ:aA:=bR (bQ 27 [0] Tryz.f50 [[1,2],[1,2],[1,2,11],[4],[1,2],[1,2,18],[4],[1],[1,25],[4],[4]])
noncomputable def ajR:aA:=bR (bQ 27 [0] Tryz.f23 [[0,1],[0,1],[0,1,11],[4],[0,1,5],[0,1,5,15],[0,1,5],[0,1,5,25],[4],[0,1,5],[4]])
noncomputable def c24:aA:=bR (bQ 28 [0] Tryz.f24 [[0,1],[0,1],[0,1,11],[4],[0,1,5],[0,1,5,15],[0,1,5],[0,1,5,26],[4],[0,1,5],[4]])
noncomputable def c4:aA:=bR (bQ 36 [0] Tryz.f4 [[1,2],[1,2],[1,2,10],[4],[1,2],[1,2,16],[4],[1,2],[1,2,22],[4],[1,2],[1,2,28],[4],[1],[1,34],[4],[4]])
noncomputable def ajS:aA:=bR (bQ 12 [0] Tryz.f25 [[1,2],[1],[1,10],[4],[4]])
noncomputable def c5:aA:=bR (bQ 27 [0] Tryz.f5 [[0,1],[0,1],[0,1,11],[4],[0,1,5],[0,1,5,15],[0,1,5],[0,1,5,25],[4],[0,1,5],[4]])
noncomputable def ajT:aA:=bR (bQ 11 [0] Tryz.f225 [[1,2],[1,2,3],[1,2,3],[2,3],[2]])
noncomputable def c193:aA:=bR (bQ 23 [0] Tryz.f193 [[0],[0,3],[0,3,4],[0,3,4,11],[0,3,4],[0,3,4],[2]])
noncomputable def c162:aA:=bR (bQ 23 [0] Tryz.f162 [[0],[0,3],[0,3,4],[0,3,4,11],[0,3,4],[0,3,4],[2]])
noncomputable def c124:aA:=bR (bQ 18 [0] Tryz.f124 [[1,2],[1,2,3],[1,2,3],[1,2,3],[1,2,3],[2,3],[2]])
noncomputable def ajU:aA:=bR (bQ 23 [0] Tryz.f88 [[0],[0,3],[0,3,4],[0,3,4,11],[0,3,4],[0,3,4],[2]])
noncomputable def ajV:aA:=bR (bQ 15 [0] Tryz.f61 [[1,2],[1,2,3],[1,2,3],[1,2,3],[2,3],[2]])
noncomputable def ajW:aA:=bR (bQ 23 [0] Tryz.f30 [[0],[0,3],[0,3,4],[0,3,4,11],[0,3,4],[0,3,4],[2]])
noncomputable def c9:aA:=bR (bQ 22 [0] Tryz.f9 [[0],[0,3],[0,3,4],[0,3,4,11],[0,3,4],[0,3,4],[2]])
noncomputable def ajX:aA:=bR (bQ 12 [0] Tryz.f62 [[1,2],[1,2,3],[1,2,3],[2,3],[2]])
noncomputable def c31:aA:=bR (bQ 23 [0] Tryz.f31 [[0],[0,3],[0,3,4],[0,3,4,11],[0,3,4],[0,3,4],[2]])
noncomputable def ajY:aA:=bR (bQ 14 [0] Tryz.f63 [[1,2],[1,2,3],[1,2,3],[1,2,3],[2,3],[2]])
noncomputable def ajZ:aA:=bR (bQ 23 [0] Tryz.f32 [[0],[0,3],[0,3,4],[0,3,4,11],[0,3,4],[0,3,4],[2]])
noncomputable def aj0:aA:=bR (bQ 22 [0] Tryz.f33 [[0],[0,3],[0,3,4],[0,3,4,11],[0,3,4],[0,3,4],[2]])
noncomputable def NM:aA:=bR (bQ 25 [0] Tryz.f7 [[1,2],[1,2,3],[1,2,3],[1,2,3],[1,2,3],[1,2,3],[2,3],[2]])
noncomputable def HB:aA:=bR (bQ 15 [0] Tryz.f34 [[1,2],[1,2,3],[1,2,3],[1,2,3],[2,3],[2]])
noncomputable def iA:aA:=bR (bQ 23 [0] Tryz.f8 [[0],[0,3],[0,3,4],[0,3,4,11],[0,3,4],[0,3,4],[2]])
noncomputable def c159:aA:=bR (bQ 9 [0] Tryz.f159 [[0],[2]])
noncomputable def c160:aA:=bR (bQ 9 [0] Tryz.f160 [[0],[2]])
noncomputable def c119:aA:=bR (bQ 35 [0] Tryz.f119 [[0],[0,16],[2],[0,3],[0,3,20],[0,3,34],[2],[0,3],[2]])
noncomputable def aj1:aA:=bR (bQ 15 [0,1,2] Tryz.f29 [[0,1,2],[6]])
noncomputable def c157:aA:=bR (bQ 13 [0] Tryz.f157 [[0],[6],[6,7],[6,7],[6,7],[2],[11],[2],[2]])
noncomputable def aj2:aA:=bR (bQ 30 [0] Tryz.f188 [[0],[0,12],[2],[0,3],[0,3,4],[0,3,4,16],[0,3,4,20],[2],[0,3,4],[0,3,4],[2]])
noncomputable def c222:aA:=bR (bQ 73 [0] Tryz.f222 [[0],[0,6],[0,6,7],[0,6,7],[2],[0,6,30],[2],[0,6,37],[2],[0,6,51],[2],[0,66],[2],[2]])
noncomputable def c116:aA:=bR (bQ 18 [0] Tryz.f116 [[0,1],[0,1,5],[0,1,5,7],[0,1,5],[0,1,5],[4]])
noncomputable def aj3:aA:=bR (bQ 38 [0,1] Tryz.f112 [[0,1],[0,1,5],[0,1,5,6],[0,1,5,6,13],[0,1,5,6,34],[0,1,5,6],[0,1,5,6],[4]])
noncomputable def aj4:aA:=bR (bQ 39 [0,1] Tryz.f251 [[0,1],[0,1,8],[0,1,8,9],[4],[0,1,8,16],[4],[0,8,25],[4],[0,32],[4],[4]])
noncomputable def aj5:aA:=bR (bQ 11 [0] Tryz.f224 [[0],[6],[6,7],[2],[9],[2],[2]])
noncomputable def aj6:aA:=bR (bQ 38 [0,1,2] Tryz.f223 [[0,1,2],[0,1,12],[6],[0,1,7],[0,1,7,8],[0,1,7,8,16],[0,1,7,8,28],[6],[0,1,7,8],[0,1,7,8],[6]])
def aY (r:List cC) (k:azf) (c:aA):aA:=.seq (.ew r (some k)) c
def sd (r:List cC) (a:azd) (k:azf) (c:aA):aA:=.seq (.jX r a (some k)) c
abbrev fg (d t:Nat) (o:e0):cC:=⟨some d,o,some (t,true)⟩
abbrev fD (d t:Nat) (o:e0):cC:=⟨some d,o,some (t,false)⟩
abbrev ayA (n:Nat) (k:azf) (f:Func) (c:aA):Prop:=gb ⟨n,k⟩ (f.body.getD .skip)=some c.strip
def YT:aA:=.cond (.t 28) (aY [im 6 3] [6] .ret) .skip
def YU:aA:=.cond (.t 51) (aY [im 6 4] [6] .ret) .skip
def aj7:aA:=.cond (.t 57) (aY [aJ 59 8,dC 60 .gtr 2 59 2,aJ 61 60,fD 62 61 (.ga (.t 8)),fD 63 61 (.eP .gtr 2 (.t 62) (.c (.int .i64 0))),fD 64 61 (.ga (.t 63)),fg 65 64 (.h2 149 (.t 7) 2),fg 66 64 (.fV 9 (.t 65)),⟨some 67,.eP .eql 9 (.t 66) (.c (.str [116,97,117])),some (64,true)⟩,fD 68 61 (.pick (.t 64) (.t 67) (.c (.bool false))),ro 69 (.pick (.t 61) (.c (.bool true)) (.t 68))] [1,2,7,8,69] (.cond (.t 69) (aY [im 6 5] [6] .ret) .skip)) (aY [dC 71 .eql 2 56 3,b7 70 71] [0,1,2,7,8,56,70] (.cond (.t 70) (aY [aJ 72 8,dC 73 .neq 2 72 1] [1,2,7,8,73] (.cond (.t 73) (aY [im 6 5] [6] .ret) .skip)) (aY [dC 75 .eql 2 56 5,b7 74 75] [0,1,2,7,8,74] (.cond (.t 74) (aY [aJ 76 8,aJ 77 0,dT 78 149 7 1,cr 79 2 78,ho 80 35 77 79,dT 81 110 80 1,cr 82 2 81,i1 83 .neq 2 76 82] [1,2,7,8,83] (.cond (.t 83) (aY [im 6 5] [6] .ret) .skip)) .skip))))
def YV:aA:=.cond (.t 102) (aY [im 6 6] [6] .ret) .skip
def YW:aA:=.seq (aY [aJ 113 10,aJ 114 8,i1 115 .lss 2 113 114] [7,8,9,10,115] (.cond (.t 115) .skip (.exit 1))) (.seq (.block 2 (aY [dT 118 149 7 3,cr 119 147 118,aJ 120 10,ho 121 147 119 120,cr 122 185 121,aJ 123 9,ro 124 (.call (.f 223) [(.t 122),(.t 123),(.c (.int .i64 15))]),oA 125 124] [7,8,9,10,125] (.cond (.t 125) (aY [im 6 8] [6] .ret) .skip))) (.ew [aJ 116 10,dC 117 .add 2 116 1,b7 10 117] (some [7,8,9,10])))
def YX:aA:=.seq (aY [dT 84 149 7 0,cr 85 2 84,dC 86 .eql 2 85 5,aJ 87 86,fg 88 87 (.ga (.t 2)),fg 89 87 (.eP .eql 2 (.t 88) (.c (.int .i64 0))),fg 90 87 (.ga (.t 89)),fD 91 90 (.ga (.t 1)),fD 92 90 (.mC (.t 91)),fD 93 90 (.h2 110 (.t 92) 2),fD 94 90 (.fV 108 (.t 93)),fD 95 90 (.ga (.t 2)),fD 96 90 (.eP .sub 2 (.t 95) (.c (.int .i64 1))),fD 97 90 (.kM 108 (.t 94) (.t 96)),fD 98 90 (.h2 149 (.t 97) 0),fD 99 90 (.fV 2 (.t 98)),fD 100 90 (.eP .neq 2 (.t 99) (.c (.int .i64 1))),fg 101 87 (.pick (.t 90) (.c (.bool true)) (.t 100)),ro 102 (.pick (.t 87) (.t 101) (.c (.bool false)))] [1,2,7,8,102] YV) (aY [aJ 103 1,aJ 104 2,hp 105 112 103 104,b7 9 105] [7,8,9] (.seq (aY [dT 106 149 7 0,cr 107 2 106,dC 108 .eql 2 107 4,aJ 109 108,fg 110 109 (.ga (.t 9)),fg 111 109 (.eP .geq 2 (.t 110) (.c (.int .i64 6))),ro 112 (.pick (.t 109) (.t 111) (.c (.bool false)))] [7,8,9,112] (.cond (.t 112) (aY [im 6 7] [6] .ret) .skip)) (.seq (aY [im 10 0] [7,8,9,10] (.block 1 (.loop YW))) (aY [im 6 0] [6] .ret))))
def aj8:aA:=.seq (aY [dT 29 149 7 0,cr 30 2 29,dC 31 .eql 2 30 4,aJ 32 31,fg 33 32 (.h2 149 (.t 7) 1),fg 34 32 (.fV 2 (.t 33)),⟨some 35,.call (.f 29) [(.t 34),(.c (.int .i64 1)),(.c (.int .i64 7))],some (32,true)⟩,fg 36 32 (.un .not (.t 35)),ro 37 (.pick (.t 32) (.t 36) (.c (.bool false))),aJ 38 37,fD 39 38 (.h2 149 (.t 7) 0),fD 40 38 (.fV 2 (.t 39)),fD 41 38 (.eP .eql 2 (.t 40) (.c (.int .i64 5))),fD 42 38 (.ga (.t 41)),fg 43 42 (.h2 149 (.t 7) 1),fg 44 42 (.fV 2 (.t 43)),fg 45 42 (.ga (.t 0)),fg 46 42 (.len 35 (.t 45)),fg 47 42 (.eP .sub 2 (.t 46) (.c (.int .i64 1))),⟨some 48,.call (.f 29) [(.t 44),(.c (.int .i64 0)),(.t 47)],some (42,true)⟩,fg 49 42 (.un .not (.t 48)),fD 50 38 (.pick (.t 42) (.t 49) (.c (.bool false))),ro 51 (.pick (.t 38) (.c (.bool true)) (.t 50))] [0,1,2,7,51] YU) (aY [dT 52 149 7 3,cr 53 147 52,j4 54 147 53,b7 8 54] [0,1,2,7,8] (.seq (aY [dT 55 149 7 0,cr 56 2 55] [0,1,2,7,8,56] (.block 0 (aY [dC 58 .eql 2 56 1,b7 57 58] [0,1,2,7,8,56,57] aj7))) YX))
def aj9:aA:=aY [aJ 11 1,nH 12 11,dT 13 110 12 2,cr 14 108 13,aJ 15 2,ho 16 108 14 15,cr 17 149 16,oz 7 149,j5 149 7 17] [0,1,2,7] (.seq (aY [gJ 18 222 7,oA 19 18] [0,1,2,7,19] (.cond (.t 19) (aY [im 6 2] [6] .ret) .skip)) (.seq (aY [dT 20 149 7 0,cr 21 2 20,dC 22 .eql 2 21 1,aJ 23 22,fg 24 23 (.h2 149 (.t 7) 2),fg 25 23 (.fV 9 (.t 24)),⟨some 26,.call (.f 119) [(.t 25)],some (23,true)⟩,fg 27 23 (.un .not (.t 26)),ro 28 (.pick (.t 23) (.t 27) (.c (.bool false)))] [0,1,2,7,28] YT) aj8))
def aj_:aA:=aY [im 6 0] [0,1,2] aj9
noncomputable def aka:aA:=bR (bQ 31 [0,1] Tryz.f155 [[0,1],[0,1,13],[4,5],[0,1,6],[0,1,6,20],[0,1,6,7],[0,1,6,7,28],[4,5],[0,1,6],[4,5]])
noncomputable def akb:aA:=bR (bQ 70 [0] Tryz.f108 [[0],[0,15],[2],[0,3],[0,3,19],[0,3,37],[2],[0,3,4],[0,3,4,40],[0,3,4,53],[2],[0,3,4],[0,3],[0,5],[0,5,57],[0,5,7],[0,5,69],[2],[0,5],[2]])
noncomputable def akc:aA:=bR (bQ 16 [0] Tryz.f113 [[0],[0,3],[0,3,7],[0,3,15],[2],[0,3],[2]])
noncomputable def c109:aA:=bR (bQ 64 [0] Tryz.f109 [[0],[0,18],[2],[0,3],[0,3,25],[0,3,4],[0,3,4,44],[2],[0,3,63],[2],[0,3],[2]])
def akd:aA:=aY [iC 2 false] [0] (aY [aJ 3 0,gJ 4 119 3,aJ 5 4,fg 6 5 (.ga (.t 0)),⟨some 7,.eP .neq 9 (.t 6) (.c (.str [116,97,117])),some (5,true)⟩,ro 8 (.pick (.t 5) (.t 7) (.c (.bool false))),b7 2 8] [2] .ret)
noncomputable def ake:aA:=bR (bQ 101 [0] Tryz.f110 [[0],[0,8],[2],[0,3],[0,3,12],[0,3,4],[0,3,4,41],[2],[0,3,4,76],[2],[0,3,4,5],[0,3,4,5,80],[0,3,4,5,100],[2],[0,3,4,5],[0,3],[2]])
noncomputable def c156:aA:=bR (bQ 16 [0] Tryz.f156 [[0],[0,3],[0,3,7],[0,3,15],[2],[0,3],[2]])
noncomputable def akf:aA:=bR (bQ 28 [0] Tryz.f111 [[0],[0,11],[2],[0,3],[0,3,15],[0,3,27],[2],[0,3],[2]])
noncomputable def akg:aA:=bR (bQ 30 [0] Tryz.f79 [[0],[0,8],[2],[0,11],[2],[0,17],[2],[0,23],[2],[29],[2],[2]])
noncomputable def akh:aA:=bR (bQ 6 [0] Tryz.f52 [[0],[2]])
noncomputable def c80:aA:=bR (bQ 62 [0,1] Tryz.f80 [[0,1],[0,1,14],[4],[1,5],[1,5,43],[4],[4]])
noncomputable def c53:aA:=bR (bQ 29 [0,1] Tryz.f53 [[0,1],[0,1,13],[4],[0,1,5],[0,1,5,17],[0,1,5,28],[4],[0,1,5],[4]])
noncomputable def RB:aA:=bR (bQ 14 [0,1] Tryz.f26 [[0,1],[13],[4],[4]])
noncomputable def aki:aA:=bR (bQ 6 [0] Tryz.f54 [[0],[2]])
noncomputable def akj:aA:=bR (bQ 33 [0] Tryz.f27 [[0],[0,3],[0,3,4],[0,3,4,9],[0,3,4],[0,3,4],[2]])
noncomputable def akk:aA:=bR (bQ 4 [0] Tryz.f190 [[0],[3],[2],[2]])
noncomputable def akl:aA:=bR (bQ 18 [0] Tryz.f191 [[0,1],[0,1,5],[0,1,5,7],[0,1,5],[0,1,5],[4]])
noncomputable def akm:aA:=bR (bQ 67 [0,1,2] Tryz.f192 [[0,1,2],[1,2,7],[1,2,7,8],[6],[1,2,7,14],[6],[1,2,7,21],[6],[1,2,7,27],[6],[1,2,7,33],[6],[1,2,7,39],[6],[1,2,7,45],[6],[1,2,51],[6],[6]])
noncomputable def akn:aA:=bR (bQ 60 [0,1,2] Tryz.f158 [[0,1,2],[0,1,2,13],[0,1,2,13,14],[6],[0,1,2,13,21],[6],[0,1,2,31],[6],[0,1,2,7],[0,2,7,8],[6]])
noncomputable def c117:aA:=bR (bQ 8 [0,1] Tryz.f117 [[0,1],[4]])
noncomputable def ako:aA:=bR (bQ 24 [0,1] Tryz.f114 [[0,1],[0,1,5],[0,1,5,6],[0,1,5,6,11],[0,1,5,6],[0,1,5,6],[4]])
def YY:aA:=.ew [aJ 22 3,aJ 23 5,ro 24 (.eP .add 2 (.c (.int .i64 48)) (.t 23)),JJ 25 2 5 24,uL 26 134 25,yc 27 134 134 22 26,b7 3 27] (some [0,3,4])
def YZ:aA:=.seq (aY [aJ 12 4,dC 13 .neq 2 12 0] [0,3,4,13] (.cond (.t 13) .skip (.exit 0))) (.seq (.block 1 (aY [aJ 16 4,dC 17 .rem 2 16 10,b7 5 17] [0,3,4,5] (.seq (aY [aJ 18 5,dC 19 .lss 2 18 0] [0,3,4,5,19] (.cond (.t 19) (.ew [aJ 20 5,ro 21 (.un .neg (.t 20)),b7 5 21] (some [0,3,4,5])) .skip)) YY))) (.ew [aJ 14 4,dC 15 .quo 2 14 10,b7 4 15] (some [0,3,4])))
def Y0:aA:=.seq (aY [aJ 37 7,dC 38 .geq 3 37 0] [3,6,7,38] (.cond (.t 38) .skip (.exit 2))) (.seq (.block 3 (.ew [aJ 41 6,aJ 42 3,aJ 43 7,ho 44 134 42 43,cr 45 5 44,uL 46 134 45,yc 47 134 134 41 46,b7 6 47] (some [3,6,7]))) (.ew [aJ 39 7,dC 40 .sub 3 39 1,b7 7 40] (some [3,6,7])))
def Y1:aA:=aY [ro 33 (.d_ 134 0 []),b7 6 33] [3,6] (.seq (aY [aJ 34 3,j4 35 134 34,dC 36 .sub 3 35 1,b7 7 36] [3,6,7] (.block 2 (.loop Y0))) (aY [aJ 48 6,JJ 49 134 9 48,b7 2 49] [2] .ret))
def akp:aA:=aY [ro 2 (.hX (.c (.str [])))] [0] (.seq (aY [aJ 8 0,dC 9 .eql 2 8 0] [0,9] (.cond (.t 9) (aY [ro 2 (.hX (.c (.str [48])))] [2] .ret) .skip)) (aY [ro 10 (.d_ 134 0 []),b7 3 10] [0,3] (.seq (aY [aJ 11 0,b7 4 11] [0,3,4] (.block 0 (.loop YZ))) (.seq (aY [aJ 28 0,dC 29 .lss 2 28 0] [3,29] (.cond (.t 29) (.ew [aJ 30 3,ro 31 (.d_ 134 1 [(0,(.c (.int .u8 45)))]),yc 32 134 134 30 31,b7 3 32] (some [3])) .skip)) Y1))))
def Y2:aA:=.ew [aJ 18 3,aJ 19 0,aJ 20 4,ho 21 29 19 20,cr 22 2 21,gJ 23 161 22,i1 24 .add 9 18 23,b7 3 24] (some [0,3,4])
def Y3:aA:=.seq (aY [aJ 8 4,aJ 9 0,j4 10 29 9,i1 11 .lss 3 8 10] [0,3,4,11] (.cond (.t 11) .skip (.exit 0))) (.seq (.block 1 (.seq (aY [aJ 14 4,dC 15 .gtr 3 14 0] [0,3,4,15] (.cond (.t 15) (.ew [aJ 16 3,ro 17 (.eP .add 9 (.t 16) (.c (.str [44]))),b7 3 17] (some [0,3,4])) .skip)) Y2)) (.ew [aJ 12 4,dC 13 .add 3 12 1,b7 4 13] (some [0,3,4])))
def akq:aA:=aY [ro 2 (.hX (.c (.str [])))] [0] (.seq (aY [aJ 5 0,j4 6 29 5,dC 7 .eql 3 6 0] [0,7] (.cond (.t 7) (aY [ro 2 (.hX (.c (.str [45])))] [2] .ret) .skip)) (aY [ro 3 (.hX (.c (.str [])))] [0,3] (.seq (aY [im 4 0] [0,3,4] (.block 0 (.loop Y3))) (aY [aJ 25 3,b7 2 25] [2] .ret))))
def c87:aA:=aY [ro 4 (.hX (.c (.str [])))] [0,1] (.seq (aY [aJ 5 1,j4 6 29 5,dC 7 .eql 3 6 0] [0,1,7] (.cond (.t 7) (aY [aJ 8 0,b7 4 8] [4] .ret) .skip)) (aY [aJ 9 0,ro 10 (.eP .add 9 (.t 9) (.c (.str [40]))),aJ 11 1,gJ 12 123 11,i1 13 .add 9 10 12,ro 14 (.eP .add 9 (.t 13) (.c (.str [41]))),b7 4 14] [4] .ret))
noncomputable def c85:aA:=bR (bQ 26 [0,1] Tryz.f85 [[0,1],[0,1,10],[4],[0,1,5],[0,1,5,14],[0,1,5,25],[4],[0,1,5],[4]])
noncomputable def akr:aA:=bR (bQ 36 [0,1] Tryz.f118 [[0,1],[4]])
noncomputable def aks:aA:=bR (bQ 33 [0,1] Tryz.f115 [[0,3],[0,3,5],[0,3,5,9],[0,3,5,27],[4],[0,3,5],[4]])
def Y4:aA:=sd [aJ 60 4,dT 61 149 12 2,cr 62 9 61,dT 63 149 12 3,cr 64 147 63,aJ 65 3,hp 66 114 64 65,hp 67 87 62 66,cr 68 71 13,⟨some 69,.shr (.gH 102 [(0,(.t 67)),(1,(.t 68))]),none⟩,hp 70 115 60 69,b7 10 70] [[],[],[1],[],[3],[],[4,5],[2,6,6],[],[7,8],[0,9,7],[10,10,0,1,2,3,4,5,6,7,8,9,10]] [10] .ret
def akt:aA:=.seq (aY [aJ 38 11,aJ 39 2,dC 40 .add 2 39 1,ho 41 108 38 40,dT 42 149 41 0,cr 43 2 42,dC 44 .eql 2 43 5] [2,3,4,11,12,13,44] (.cond (.t 44) (.jX [aJ 45 11,aJ 46 2,dC 47 .add 2 46 1,ho 48 108 45 47,dT 49 149 48 1,cr 50 2 49,aJ 51 11,aJ 52 2,dC 53 .add 2 52 1,ho 54 108 51 53,dT 55 149 54 3,cr 56 147 55,aJ 57 3,hp 58 114 56 57,ro 59 (.gH 71 [(0,(.t 50)),(2,(.t 58))]),j5 71 13 59] [[],[],[1],[0,2],[3],[4],[],[],[7],[6,8],[9],[10],[],[11,12],[5,13],[14,13,0,1,2,3,4,5,6,7,8,9,10,11,12,13,14]] (some [3,4,12,13])) .skip)) Y4
def Y5:aA:=.seq (aY [aJ 107 14,dT 108 149 12 1,cr 109 2 108,i1 110 .leq 2 107 109] [0,1,2,3,4,12,14,110] (.cond (.t 110) .skip (.exit 1))) (.seq (.block 2 (.ew [aJ 113 0,aJ 114 1,aJ 115 2,dC 116 .add 2 115 1,aJ 117 3,gJ 118 54 117,aJ 119 14,uL 120 29 119,⟨some 121,.shr (.app 29 29 (.t 118) (.t 120)),none⟩,aJ 122 4,ro 123 (.call (.f 81) [(.t 113),(.t 114),(.t 116),(.t 121),(.t 122)]),b7 4 123] (some [0,1,2,3,4,12,14]))) (.ew [aJ 111 14,dC 112 .add 2 111 1,b7 14 112] (some [0,1,2,3,4,12,14])))
def aku:aA:=aY [dC 90 .eql 2 29 3,b7 89 90] [0,1,2,3,4,12,29,89] (.cond (.t 89) (aY [dT 91 149 12 3,cr 92 147 91,ro 93 (.kM 147 (.t 92) (.c (.int .i64 0))),cr 94 185 93,aJ 95 3,hp 96 117 94 95,dC 97 .neq 2 96 0] [0,1,2,3,4,97] (.cond (.t 97) (aY [aJ 98 0,aJ 99 1,aJ 100 2,dC 101 .add 2 100 1,aJ 102 3,aJ 103 4,ro 104 (.call (.f 81) [(.t 98),(.t 99),(.t 101),(.t 102),(.t 103)]),b7 10 104] [10] .ret) .skip)) (aY [dC 106 .eql 2 29 4,b7 105 106] [0,1,2,3,4,12,105] (.cond (.t 105) (aY [im 14 0] [0,1,2,3,4,12,14] (.block 1 (.loop Y5))) .skip)))
def akv:aA:=.cond (.t 30) (aY [aJ 32 1,aJ 33 2,dC 34 .add 2 33 1,aJ 35 3,gJ 36 54 35,ro 37 (.gH 71 [(0,(.t 32)),(1,(.t 34)),(2,(.t 36))]),oz 13 71,j5 71 13 37] [2,3,4,11,12,13] akt) (aY [dC 72 .eql 2 29 2,b7 71 72] [0,1,2,3,4,11,12,29,71] (.cond (.t 71) (aY [aJ 73 0,aJ 74 1,aJ 75 2,dC 76 .add 2 75 1,aJ 77 3,aJ 78 4,ro 79 (.call (.f 81) [(.t 73),(.t 74),(.t 76),(.t 77),(.t 78)]),b7 4 79] [0,1,2,3,4,11] (aY [aJ 80 0,aJ 81 1,aJ 82 11,aJ 83 2,dC 84 .add 2 83 1,hp 85 116 82 84,aJ 86 3,aJ 87 4,ro 88 (.call (.f 81) [(.t 80),(.t 81),(.t 85),(.t 86),(.t 87)]),b7 10 88] [10] .ret)) aku))
def Y6:aA:=aY [aJ 124 4,b7 10 124] [10] .ret
def akw:aA:=aY [aJ 15 0,aJ 16 1,ho 17 35 15 16,dT 18 110 17 2,cr 19 108 18,b7 11 19] [0,1,2,3,4,11] (aY [aJ 20 11,aJ 21 2,ho 22 108 20 21,cr 23 149 22,oz 12 149,j5 149 12 23] [0,1,2,3,4,11,12] (.seq (aY [aJ 24 4,j4 25 97 24,dC 26 .gtr 3 25 200] [0,1,2,3,4,11,12,26] (.cond (.t 26) (aY [aJ 27 4,b7 10 27] [10] .ret) .skip)) (.seq (aY [dT 28 149 12 0,cr 29 2 28] [0,1,2,3,4,11,12,29] (.block 0 (aY [dC 31 .eql 2 29 1,b7 30 31] [0,1,2,3,4,11,12,29,30] akv))) Y6)))
def akx:aA:=aY [qb 10] [0,1,2,3,4] akw
noncomputable def RC:aA:=bR (bQ 26 [0,1] Tryz.f55 [[0,1],[6],[4,5]])
noncomputable def aky:aA:=bR (bQ 17 [0] Tryz.f82 [[0],[0,3],[0,3,7],[0,3,13],[2],[0,3],[2]])
noncomputable def akz:aA:=bR (bQ 7 [0] Tryz.f57 [[0],[2]])
noncomputable def RD:aA:=bR (bQ 19 [0,1] Tryz.f56 [[0,1],[0,1,5],[0,1,5,9],[0,1,5,17],[4],[0,1,5],[4]])
def c59:aA:=aY [ro 4 (.hX (.c (.str [])))] [0,1] (.seq (sd [aJ 5 0,nH 6 5,dT 7 39 6 4,cr 8 25 7,aJ 9 1,gJ 10 57 9,hp 11 56 8 10,dC 12 .geq 2 11 0] [[],[0],[1],[2],[],[4],[3,5,5],[6]] [1,12] (.cond (.t 12) (aY [ro 4 (.hX (.c (.str [116,97,117])))] [4] .ret) .skip)) (aY [aJ 13 1,b7 4 13] [4] .ret))
noncomputable def akA:aA:=bR (bQ 25 [0,1] Tryz.f83 [[0,1],[0,1,10],[4],[0,1,5],[0,1,5,14],[0,1,5,24],[4],[0,1,5],[4]])
noncomputable def akB:aA:=bR (bQ 48 [0,1] Tryz.f58 [[0,3],[0,3,5],[0,3,5,10],[0,3,5,6],[0,3,5,42],[4],[0,3,5],[4]])
noncomputable def akC:aA:=bR (bQ 35 [0,1] Tryz.f121 [[0,1],[0,1,5],[0,1,5,6],[0,1,5,6,7],[0,1,5,6,7,12],[0,1,5,6,7,19],[0,1,5,7],[0,1,5,6,7],[0,1,5,6,7],[4]])
noncomputable def akD:aA:=bR (bQ 62 [0] Tryz.f122 [[0],[0,4],[0,4,14],[0,4],[0,4,36],[2,3],[0,4,5],[0,4,5,6],[0,4,5,6,41],[0,4,5,6,48],[2,3],[0,4,5,6],[0,4,5,6],[5,58],[5],[2,3]])
noncomputable def akE:aA:=bR (bQ 70 [0] Tryz.f84 [[0],[0,4],[0,4,15],[2,3],[0,4,31],[2,3],[5],[5,6],[5,6,7],[5,6,7,44],[5,6,7,8,9],[5,6,7,8,61],[2,3],[5,6,7],[5,6,7],[2,3]])
noncomputable def akF:aA:=bR (bQ 42 [0,1,2] Tryz.f86 [[0,1,2],[0,1,2,10],[6],[0,1,2,7],[0,1,2,7,18],[0,1,2,7,36],[6],[0,1,2,7],[6]])
noncomputable def akG:aA:=bR (bQ 49 [0,1,2] Tryz.f60 [[0,1,2],[0,1,2,7],[0,1,2,7,9],[0,1,2,7,25],[6],[0,7,11],[7,11,45],[6],[6]])
def akH:aA:=.seq (.block 1 (sd [aJ 30 0,nH 31 30,dT 32 39 31 0,cr 33 35 32,aJ 34 1,aJ 35 8,ho 36 32 34 35,hp 37 55 33 36,⟨some 29,.pA (.t 37),none⟩,i6 38 29 0,i6 39 29 1,b7 9 38,b7 10 39] [[],[0],[1],[2],[],[],[4,5],[3,6],[7],[8],[8],[9,7,0,1,2,3,4,5,6,7,8,9],[10,11,0,1,2,3,4,5,6,7,8,9,10,11]] [0,1,6,7,8,9,10] (.seq (aY [aJ 40 10,oA 41 40] [0,1,6,7,8,9,41] (.cond (.t 41) (aY [qb 4,iC 5 false] [0,4,5] .ret) .skip)) (.ew [aJ 42 7,aJ 43 9,uL 44 96 43,yc 45 96 96 42 44,b7 7 45] (some [0,1,6,7,8]))))) (.ew [aJ 27 8,dC 28 .add 3 27 1,b7 8 28] (some [0,1,6,7,8]))
def Y7:aA:=.seq (aY [aJ 23 8,aJ 24 1,j4 25 32 24,i1 26 .lss 3 23 25] [0,1,6,7,8,26] (.cond (.t 26) .skip (.exit 0))) akH
def akI:aA:=.seq (sd [dT 68 102 13 0,cr 69 9 68,ro 70 (.eP .neq 9 (.t 69) (.c (.str [116,97,117]))),aJ 71 70,fg 72 71 (.ga (.t 0)),fg 73 71 (.mC (.t 72)),fg 74 71 (.h2 39 (.t 73) 3),fg 75 71 (.fV 25 (.t 74)),fg 76 71 (.h2 102 (.t 13) 0),fg 77 71 (.fV 9 (.t 76)),⟨some 78,.call (.f 57) [(.t 77)],some (71,true)⟩,⟨some 79,.call (.f 56) [(.t 75),(.t 78)],some (71,true)⟩,fg 80 71 (.eP .lss 2 (.t 79) (.c (.int .i64 0))),ro 81 (.pick (.t 71) (.t 80) (.c (.bool false)))] [[],[0],[1],[2],[3],[4,3],[5,3],[6,3],[3],[8,3],[9,3,3],[7,10,10,3],[11,3],[3,12]] [0,1,6,7,11,12,13,81] (.cond (.t 81) (.exit 5) .skip)) (aY [aJ 82 1,gJ 83 27 82,b7 14 83] [0,1,6,7,11,12,13,14] (aY [aJ 84 14,aJ 85 11,dT 86 102 13 1,cr 87 71 86,ho 88 32 84 85,j5 71 88 87] [0,1,6,7,11,12,13,14] (.ew [aJ 89 6,aJ 90 0,dT 91 102 13 0,cr 92 9 91,hp 93 59 90 92,aJ 94 11,aJ 95 14,gJ 96 27 95,⟨some 97,.shr (.gH 66 [(0,(.t 93)),(1,(.t 94)),(2,(.c (.int .i64 (-1)))),(3,(.t 96))]),none⟩,hp 98 58 89 97,b7 6 98] (some [0,1,6,7,11,12]))))
def Y8:aA:=.ew [aJ 59 12,dC 60 .add 3 59 1,b7 12 60] (some [0,1,6,7,11,12])
def Y9:aA:=.seq (aY [aJ 52 12,aJ 53 7,aJ 54 11,ho 55 96 53 54,cr 56 97 55,j4 57 97 56,i1 58 .lss 3 52 57] [0,1,6,7,11,12,58] (.cond (.t 58) .skip (.exit 4))) (.seq (.block 5 (aY [aJ 61 7,aJ 62 11,ho 63 96 61 62,cr 64 97 63,aJ 65 12,ho 66 97 64 65,cr 67 102 66,oz 13 102,j5 102 13 67] [0,1,6,7,11,12,13] akI)) Y8)
def Y_:aA:=.seq (aY [aJ 46 11,aJ 47 1,j4 48 32 47,i1 49 .lss 3 46 48] [0,1,6,7,11,49] (.cond (.t 49) .skip (.exit 2))) (.seq (.block 3 (aY [im 12 0] [0,1,6,7,11,12] (.block 4 (.loop Y9)))) (.ew [aJ 50 11,dC 51 .add 3 50 1,b7 11 51] (some [0,1,6,7,11])))
def akJ:aA:=aY [aJ 158 20,aJ 159 15,aJ 160 7,aJ 161 15,ho 162 96 160 161,cr 163 97 162,aJ 164 17,ho 165 97 163 164,dT 166 102 165 1,cr 167 71 166,ho 168 32 158 159,j5 71 168 167] [0,1,6,7,15,16,17,18,19,20] (aY [aJ 169 20,aJ 170 16,aJ 171 7,aJ 172 16,ho 173 96 171 172,cr 174 97 173,aJ 175 18,ho 176 97 174 175,dT 177 102 176 1,cr 178 71 177,ho 179 32 169 170,j5 71 179 178] [0,1,6,7,15,16,17,18,19,20] (.ew [aJ 180 6,aJ 181 0,aJ 182 19,hp 183 59 181 182,aJ 184 15,aJ 185 16,aJ 186 20,gJ 187 27 186,⟨some 188,.shr (.gH 66 [(0,(.t 183)),(1,(.t 184)),(2,(.t 185)),(3,(.t 187))]),none⟩,hp 189 58 180 188,b7 6 189] (some [0,1,6,7,15,16,17,18])))
def Za:aA:=.ew [aJ 134 18,dC 135 .add 3 134 1,b7 18 135] (some [0,1,6,7,15,16,17,18])
def akK:aA:=.seq (.block 13 (sd [aJ 136 0,aJ 137 7,aJ 138 15,ho 139 96 137 138,cr 140 97 139,aJ 141 17,ho 142 97 140 141,dT 143 102 142 0,cr 144 9 143,aJ 145 7,aJ 146 16,ho 147 96 145 146,cr 148 97 147,aJ 149 18,ho 150 97 148 149,dT 151 102 150 0,cr 152 9 151,FQ 153 60 136 144 152,b7 19 153] [[],[],[],[1,2],[3],[],[4,5],[6],[7],[],[],[9,10],[11],[],[12,13],[14],[15],[0,8,16],[17,17,0,1,2,3,4,5,6,7,8,9,10,11,12,13,14,15,16,17]] [0,1,6,7,15,16,17,18,19] (.seq (aY [aJ 154 19,ro 155 (.eP .eql 9 (.t 154) (.c (.str [])))] [0,1,6,7,15,16,17,18,19,155] (.cond (.t 155) (.exit 13) .skip)) (aY [aJ 156 1,gJ 157 27 156,b7 20 157] [0,1,6,7,15,16,17,18,19,20] akJ)))) Za
def Zb:aA:=.seq (aY [aJ 122 18,aJ 123 7,aJ 124 16,ho 125 96 123 124,cr 126 97 125,j4 127 97 126,i1 128 .lss 3 122 127,aJ 129 128,fg 130 129 (.ga (.t 6)),fg 131 129 (.len 61 (.t 130)),fg 132 129 (.eP .leq 3 (.t 131) (.c (.int .i64 200))),ro 133 (.pick (.t 129) (.t 132) (.c (.bool false)))] [0,1,6,7,15,16,17,18,133] (.cond (.t 133) .skip (.exit 12))) akK
def Zc:aA:=.seq (aY [aJ 113 17,aJ 114 7,aJ 115 15,ho 116 96 114 115,cr 117 97 116,j4 118 97 117,i1 119 .lss 3 113 118] [0,1,6,7,15,16,17,119] (.cond (.t 119) .skip (.exit 10))) (.seq (.block 11 (aY [im 18 0] [0,1,6,7,15,16,17,18] (.block 12 (.loop Zb)))) (.ew [aJ 120 17,dC 121 .add 3 120 1,b7 17 121] (some [0,1,6,7,15,16,17])))
def Zd:aA:=.seq (aY [aJ 107 16,aJ 108 1,j4 109 32 108,i1 110 .lss 3 107 109] [0,1,6,7,15,16,110] (.cond (.t 110) .skip (.exit 8))) (.seq (.block 9 (aY [im 17 0] [0,1,6,7,15,16,17] (.block 10 (.loop Zc)))) (.ew [aJ 111 16,dC 112 .add 3 111 1,b7 16 112] (some [0,1,6,7,15,16])))
def Ze:aA:=.seq (aY [aJ 99 15,aJ 100 1,j4 101 32 100,i1 102 .lss 3 99 101] [0,1,6,7,15,102] (.cond (.t 102) .skip (.exit 6))) (.seq (.block 7 (aY [aJ 105 15,dC 106 .add 3 105 1,b7 16 106] [0,1,6,7,15,16] (.block 8 (.loop Zd)))) (.ew [aJ 103 15,dC 104 .add 3 103 1,b7 15 104] (some [0,1,6,7,15])))
def akL:aA:=aY [qb 4,iC 5 false] [0,1] (aY [ro 21 (.d_ 61 0 []),b7 6 21] [0,1,6] (aY [ro 22 (.d_ 96 0 []),b7 7 22] [0,1,6,7] (.seq (aY [im 8 0] [0,1,6,7,8] (.block 0 (.loop Y7))) (.seq (aY [im 11 0] [0,1,6,7,11] (.block 2 (.loop Y_))) (.seq (aY [im 15 0] [0,1,6,7,15] (.block 6 (.loop Ze))) (aY [aJ 190 6,aJ 191 6,j4 192 61 191,dC 193 .leq 3 192 200,b7 4 190,b7 5 193] [0,4,5] .ret))))))
noncomputable def akM:aA:=bR (bQ 66 [0,1,2] Tryz.f6 [[1,2,3],[1,2,3,9],[1,2,3,9,18],[1,6,7,8],[1,2,3,10],[1,2,3,10,11],[1,2,3,10,11,12],[1,2,3,10,11,12,26],[1,2,3,11,12,13,14],[1,2,3,11,12,13,35],[1,6,7,8],[1,2,3,11,12,13,44],[1,6,7,8],[1,2,3,11,12,13],[1,2,3,10,11,12],[1,2,3,10,11,12],[1,6,7,8]])
noncomputable def akN:aA:=bR (bQ 15 [0,1,2] Tryz.f73 [[0,1,2],[6]])
noncomputable def akO:aA:=bR (bQ 7 [0] Tryz.f195 [[1],[2]])
noncomputable def akP:aA:=bR (bQ 19 [0,1] Tryz.f197 [[0,1],[0,1,7,8],[0,1,7,8,9],[0,1,5,7,8],[0,1,5,7,8,16],[4],[0,1,7,8],[4]])
noncomputable def c194:aA:=bR (bQ 9 [0,1] Tryz.f194 [[0,1],[4]])
noncomputable def akQ:aA:=bR (bQ 6 [0] Tryz.f163 [[0],[2]])
noncomputable def c196:aA:=bR (bQ 9 [0] Tryz.f196 [[0],[2]])
noncomputable def c164:aA:=bR (bQ 42 [0] Tryz.f164 [[0],[0,6,7],[0,6,7,8],[0,3,6,7],[0,3,4,6,7],[0,6,7,32],[2],[0,6,7],[2]])
noncomputable def c198:aA:=bR (bQ 8 [0,1] Tryz.f198 [[1,2],[3]])
noncomputable def akR:aA:=bR (bQ 19 [0,1] Tryz.f197 [[0,1],[0,1,7,8],[0,1,7,8,9],[0,1,5,7,8],[0,1,5,7,8,16],[4],[0,1,7,8],[4]])
noncomputable def akS:aA:=bR (bQ 8 [0,1] Tryz.f165 [[0,3],[4]])
noncomputable def akT:aA:=bR (bQ 11 [0] Tryz.f132 [[1],[4],[4,5],[4,5],[4,5],[2],[9],[2],[2]])
noncomputable def c138:aA:=bR (bQ 25 [0] Tryz.f138 [[1,2],[1,2,5],[1,2,5,7],[1,2,5,14],[4],[1,2,5],[1,2,5],[4]])
def akU:aA:=.ew [dT 29 151 9 0,cr 30 2 29,dC 31 .add 2 30 1,dT 32 151 9 0,j5 2 32 31] (some [0,2,3,4,8,9])
def akV:aA:=.cond (.t 28) akU .skip
def akW:aA:=.ew [dC 43 .add 3 37 1,aJ 37 43] (some [2,3,4,9,10,36,37])
def akX:aA:=.seq (.block 1 (.kQ (OI ah 131 4 2 39 ((range 3).map (·+2)) [aJ 40 10,cr 41 151 9] [(.t 40),(.t 41)] (some 42) [b7 10 42] [2,3,4,9,10,36,37]) (XY 196 4 39 [aJ 40 10,cr 41 151 9] [(.t 40),(.t 41)] (some 42) [b7 10 42]))) akW
def akY:aA:=.seq (.cond (.t 38) .skip (.exit 0)) akX
def Zf:aA:=aY [i1 38 .lss 3 37 36] [2,3,4,9,10,36,37,38] akY
def akZ:aA:=.block 0 (.loop Zf)
def ak0:aA:=aY [aJ 44 10,b7 7 44] [2,3,4,7] .ret
def ak1:aA:=.seq (aY [cr 35 149 8,gJ 36 132 35,yb 37 0] [2,3,4,9,10,36,37] akZ) ak0
def Zg:aA:=aY [aJ 33 0,dC 34 .add 3 33 1,b7 10 34] [2,3,4,8,9,10] ak1
def ak2:aA:=.seq (aY [dT 26 149 8 0,cr 27 2 26,dC 28 .eql 2 27 4] [0,2,3,4,8,9,28] akV) Zg
def ak3:aA:=aY [dT 20 151 6 0,cr 21 2 20,dT 22 149 8 0,cr 23 2 22,dC 24 .eql 2 23 1,ro 25 (.gH 151 [(0,(.t 21)),(1,(.t 24))]),oz 9 151,j5 151 9 25] [0,2,3,4,8,9] ak2
def ak4:aA:=aY [dT 15 110 3 2,cr 16 108 15,aJ 17 0,ho 18 108 16 17,cr 19 149 18,oz 8 149,j5 149 8 19] [0,2,3,4,6,8] ak3
def ak5:aA:=aY [cr 11 152 2,aJ 12 0,cr 13 151 6,ho 14 152 11 12,j5 151 14 13] [0,2,3,4,6] ak4
def c131:aA:=aY [ro 6 (.iy 151 (.t 1)),im 7 0] [0,2,3,4,6] ak5
theorem ak6:c131.p8 (JF ah 131 [0,1,2,3,4] 5 2 4):=And.intro (True.intro) (And.intro (True.intro) (And.intro (True.intro) (And.intro (True.intro) (And.intro (And.intro (True.intro) (And.intro (True.intro) (True.intro))) (And.intro (True.intro) (And.intro (And.intro (True.intro) (And.intro (True.intro) (And.intro (And.intro (True.intro) (True.intro)) (And.intro (⟨196,2,39,3,_,_,_,_,_,rfl,rfl,(by kernel_rfl),rfl,rfl,rfl,rfl,rfl,rfl,rfl⟩) (True.intro))))) (And.intro (True.intro) (True.intro))))))))
theorem ak7:gb ⟨45,[0,1,2,3,4]⟩ (Tryz.f131.body.getD .skip)=some c131.strip:=by kernel_rfl
def RE:aA:=aY [cr 15 152 3,b7 2 15] [2] .ret
def ak8:aA:=aY [cr 10 196 4,dT 11 110 1 1,cr 12 2 11,ro 13 (.gH 151 [(0,(.t 12))]),ro 14 (.call (.t 10) [(.c (.int .i64 0)),(.t 13)])] [3] RE
def ayB:aA:=aY [ro 9 (.p3 131 [(.t 3),(.t 1),(.t 4)]),j5 196 4 9] [1,3,4] ak8
def ak9:aA:=.kQ (OM ah 131 4 2 10 9 [3,1,4] [dT 11 110 1 1,cr 12 2 11,ro 13 (.gH 151 [(0,(.t 12))])] [(.c (.int .i64 0)),(.t 13)] (some 14) [3] RE) (X3 196 131 4 10 9 [3,1,4] [dT 11 110 1 1,cr 12 2 11,ro 13 (.gH 151 [(0,(.t 12))])] [(.c (.int .i64 0)),(.t 13)] (some 14) RE.nD)
def ak_:aA:=aY [dT 5 110 1 2,cr 6 108 5,j4 7 108 6,ro 8 (.fk 152 (.t 7) (.t 7)),oz 3 152,j5 152 3 8] [1,3] ak9
def c91:aA:=aY [ro 1 (.iy 110 (.t 0)),qb 2] [1] ak_
theorem ala:c91.p8 (FO ah):=And.intro (True.intro) (And.intro (True.intro) (⟨196,131,4,2,10,9,_,_,_,_,_,_,rfl,rfl,(by kernel_rfl),⟨Tryz.t196,_,_,(by kernel_rfl),rfl,rfl,rfl,rfl⟩,rfl,rfl,rfl,rfl,(by kernel_rfl)⟩))
theorem alb:gb ⟨16,[0]⟩ (Tryz.f91.body.getD .skip)=some c91.strip:=by kernel_rfl
noncomputable def c226:aA:=bR (bQ 56 [0] Tryz.f226 [[1],[1,3],[1,3,4],[2]])
def alc:aA:=aY [iC 2 false] [0] (aY [aJ 3 0,gJ 4 164 3,aJ 5 4,fg 6 5 (.ga (.t 0)),⟨some 7,.eP .neq 9 (.t 6) (.c (.str [116,97,117])),some (5,true)⟩,ro 8 (.pick (.t 5) (.t 7) (.c (.bool false))),b7 2 8] [2] .ret)
noncomputable def ald:aA:=bR (bQ 9 [0,1] Tryz.f38 [[0,1],[4]])
def ale:aA:=.cond (.t 11) (aY [aJ 13 5,dC 14 .eql 3 13 0,aJ 15 14,fD 16 15 (.h2 149 (.t 2) 2),fD 17 15 (.fV 9 (.t 16)),⟨some 18,.eP .neq 9 (.t 17) (.c (.str [116,97,117])),some (15,false)⟩,fD 19 15 (.ga (.t 18)),fg 20 19 (.ga (.t 5)),fg 21 19 (.eP .leq 3 (.t 20) (.c (.int .i64 2))),fD 22 15 (.pick (.t 19) (.t 21) (.c (.bool false))),ro 23 (.pick (.t 15) (.c (.bool true)) (.t 22)),b7 4 23] [4] .ret) (aY [dC 25 .eql 2 10 3,b7 24 25] [1,2,5,10,24] (.cond (.t 24) (aY [aJ 26 5,dC 27 .eql 3 26 1,b7 4 27] [4] .ret) (aY [dC 29 .eql 2 10 5,b7 28 29] [1,2,5,28] (.cond (.t 28) (aY [aJ 30 5,aJ 31 1,dT 32 149 2 1,cr 33 2 32,ho 34 35 31 33,dT 35 110 34 1,cr 36 2 35,i1 37 .eql 2 30 36,b7 4 37] [4] .ret) .skip))))
def c227:aA:=aY [ro 2 (.iy 149 (.t 0)),iC 4 false] [1,2] (aY [dT 6 149 2 3,cr 7 147 6,j4 8 147 7,b7 5 8] [1,2,5] (.seq (aY [dT 9 149 2 0,cr 10 2 9] [1,2,5,10] (.block 0 (aY [dC 12 .eql 2 10 1,b7 11 12] [1,2,5,10,11] ale))) (aY [iC 4 true] [4] .ret)))
noncomputable def alf:aA:=bR (bQ 5 [0] Tryz.f135 [[0],[2]])
noncomputable def alg:aA:=bR (bQ 29 [0,1] Tryz.f253 [[1,2],[1,2,6],[1,2,6,7],[4],[1,2,6,12],[4],[2,6,19],[4],[2,24],[4],[4]])
noncomputable def c232:aA:=bR (bQ 9 [0] Tryz.f232 [[1],[4],[4,5],[2],[7],[2],[2]])
noncomputable def alh:aA:=bR (bQ 47 [0,1,2] Tryz.f230 [[0,1,2],[0,1,24],[6],[0,1,7],[1,7,25,26,27],[1,7,25,26,27,28],[1,7,9,25,26,27],[1,7,9,25,26,27,38],[6],[1,7,25,26,27],[1,7,25,26,27],[6]])
noncomputable def c229:aA:=bR (bQ 9 [0,1] Tryz.f229 [[0,1],[3]])
noncomputable def ali:aA:=bR (bQ 19 [0,1] Tryz.f252 [[0,1],[0,1,7,8],[0,1,7,8,9],[0,1,5,7,8],[0,1,5,7,8,16],[4],[0,1,7,8],[4]])
noncomputable def c228:aA:=bR (bQ 9 [0,1] Tryz.f228 [[0,1],[4]])
def alj:aA:=aY [dT 55 149 3 0,cr 56 2 55,dC 57 .eql 2 56 5,aJ 58 57,fg 59 58 (.h2 151 (.t 5) 1),fg 60 58 (.fV 4 (.t 59)),fg 61 58 (.un .not (.t 60)),ro 62 (.pick (.t 58) (.t 61) (.c (.bool false))),b7 54 62] [3,5,54] (.cond (.t 54) (aY [im 6 6] [6] .ret) (aY [dT 64 149 3 0,cr 65 2 64,dC 66 .eql 2 65 4,aJ 67 66,fg 68 67 (.h2 151 (.t 5) 0),fg 69 67 (.fV 2 (.t 68)),fg 70 67 (.eP .geq 2 (.t 69) (.c (.int .i64 6))),ro 71 (.pick (.t 67) (.t 70) (.c (.bool false))),b7 63 71] [3,5,63] (.cond (.t 63) (aY [im 6 7] [6] .ret) (aY [dT 73 149 3 3,cr 74 147 73,ro 75 (.p3 229 [(.t 5)]),hp 76 228 74 75,b7 72 76] [72] (.cond (.t 72) (aY [im 6 8] [6] .ret) .skip)))))
def Zh:aA:=.cond (.t 26) (aY [im 6 4] [6] .ret) (aY [cr 50 149 3,aJ 51 1,hp 52 227 50 51,oA 53 52,b7 49 53] [3,5,49] (.cond (.t 49) (aY [im 6 5] [6] .ret) alj))
def alk:aA:=aY [dT 27 149 3 0,cr 28 2 27,dC 29 .eql 2 28 4,aJ 30 29,fg 31 30 (.h2 149 (.t 3) 1),fg 32 30 (.fV 2 (.t 31)),⟨some 33,.call (.f 73) [(.t 32),(.c (.int .i64 1)),(.c (.int .i64 7))],some (30,true)⟩,fg 34 30 (.un .not (.t 33)),ro 35 (.pick (.t 30) (.t 34) (.c (.bool false))),aJ 36 35,fD 37 36 (.h2 149 (.t 3) 0),fD 38 36 (.fV 2 (.t 37)),fD 39 36 (.eP .eql 2 (.t 38) (.c (.int .i64 5))),fD 40 36 (.ga (.t 39)),fg 41 40 (.h2 149 (.t 3) 1),fg 42 40 (.fV 2 (.t 41)),fg 43 40 (.ga (.t 1)),fg 44 40 (.len 35 (.t 43)),⟨some 45,.call (.f 38) [(.t 42),(.t 44)],some (40,true)⟩,fg 46 40 (.un .not (.t 45)),fD 47 36 (.pick (.t 40) (.t 46) (.c (.bool false))),ro 48 (.pick (.t 36) (.c (.bool true)) (.t 47)),b7 26 48] [1,3,5,26] Zh
def Zi:aA:=.cond (.t 11) (aY [im 6 3] [6] .ret) alk
def alm:aA:=.seq (.block 0 (aY [cr 8 149 3,gJ 9 226 8,oA 10 9,b7 7 10] [1,3,5,7] (.cond (.t 7) (aY [im 6 2] [6] .ret) (aY [dT 12 149 3 0,cr 13 2 12,dC 14 .eql 2 13 1,aJ 15 14,fg 16 15 (.h2 149 (.t 3) 2),fg 17 15 (.fV 9 (.t 16)),⟨some 18,.eP .neq 9 (.t 17) (.c (.str [116,97,117])),some (15,true)⟩,ro 19 (.pick (.t 15) (.t 18) (.c (.bool false))),aJ 20 19,fg 21 20 (.h2 149 (.t 3) 2),fg 22 20 (.fV 9 (.t 21)),⟨some 23,.call (.f 144) [(.t 22)],some (20,true)⟩,fg 24 20 (.un .not (.t 23)),ro 25 (.pick (.t 20) (.t 24) (.c (.bool false))),b7 11 25] [1,3,5,11] Zi)))) (aY [im 6 0] [6] .ret)
def aln:aA:=aY [ro 3 (.iy 149 (.t 0)),ro 5 (.iy 151 (.t 2)),im 6 0] [1,3,5] alm
noncomputable def alo:aA:=bR (bQ 45 [0,1] Tryz.f166 [[0,3],[0,3,22],[4,5],[0,3,6],[0,6,26,27,28],[0,6,26,27,28,29],[0,6,7,8,26,27,28],[0,6,7,9,26,27,28],[0,6,7,9,26,27,28,41],[4,5],[0,6,26,27,28],[4,5]])
noncomputable def alp:aA:=bR (bQ 45 [0] Tryz.f125 [[0],[0,15],[2],[0,16,17,18],[0,16,17,18,19],[0,3,4,16,17,18],[0,4,16,17,18,35],[2],[0,6,16,17,18],[0,16,17,18,43],[2],[0,16,17,18],[2]])
noncomputable def alq:aA:=bR (bQ 6 [0] Tryz.f134 [[0],[2]])
noncomputable def c171:aA:=bR (bQ 19 [0,1] Tryz.f171 [[0,1],[0,1,7,8],[0,1,7,8,9],[0,1,5,7,8],[0,1,5,7,8,16],[4],[0,1,7,8],[4]])
noncomputable def alr:aA:=bR (bQ 9 [0,1] Tryz.f133 [[0,1],[4]])
noncomputable def als:aA:=bR (bQ 6 [0] Tryz.f92 [[0],[2]])
noncomputable def alu:aA:=bR (bQ 27 [0,1] Tryz.f128 [[0,3],[4]])
noncomputable def c127:aA:=bR (bQ 9 [0,1] Tryz.f127 [[1,2],[3]])
noncomputable def c167:aA:=bR (bQ 19 [0,1] Tryz.f167 [[0,1],[0,1,7,8],[0,1,7,8,9],[0,1,5,7,8],[0,1,5,7,8,16],[4],[0,1,7,8],[4]])
noncomputable def alv:aA:=bR (bQ 9 [0,1] Tryz.f126 [[0,1],[4]])
noncomputable def alw:aA:=bR (bQ 6 [0] Tryz.f254 [[0],[2]])
noncomputable def alx:aA:=bR (bQ 20 [0,1] Tryz.f231 [[0,1],[0,1,5],[0,1,5,6],[0,1,6,11],[12],[4],[4],[0,1,13],[4],[0,1,16],[4],[19],[4],[4]])
noncomputable def aly:aA:=bR (bQ 36 [0,1] Tryz.f200 [[0,1],[0,1,9,10,11],[0,1,9,10,11,12],[0,1,5,6,9,10,11],[0,1,5,6,9,10,11,19],[4],[0,1,6,7,9,10,11],[0,1,8,9,10,11],[0,1,8,9,10,11,28],[4],[0,1,9,10,11],[35],[4],[4]])
noncomputable def c168:aA:=bR (bQ 16 [0,1] Tryz.f168 [[2,3],[4]])
noncomputable def alz:aA:=bR (bQ 16 [0,1] Tryz.f170 [[1,2],[3]])
noncomputable def alA:aA:=bR (bQ 19 [0,1] Tryz.f150 [[0,1],[0,1,7,8],[0,1,7,8,9],[0,1,5,7,8],[0,1,5,7,8,16],[4],[0,1,7,8],[4]])
noncomputable def alB:aA:=bR (bQ 9 [0,1] Tryz.f169 [[0,1],[4]])
noncomputable def alC:aA:=bR (bQ 56 [0] Tryz.f129 [[0],[0,5,6,7],[0,5,6,7,8],[0,3,4,5,6,7],[0,4,5,6,7,48],[2],[0,5,6,7,51],[2],[0,5,6,7],[2]])
noncomputable def c130:aA:=bR (bQ 32 [0] Tryz.f130 [[0],[0,5,6,7],[0,5,6,7,8],[0,3,4,5,6,7],[0,5,6,7,27],[2],[0,5,6,7],[2]])
noncomputable def alD:aA:=bR (bQ 35 [0] Tryz.f89 [[1],[1,3],[2],[1,8],[2],[1,20],[2],[1,25],[2],[30],[2],[2]])
noncomputable def alE:aA:=bR (bQ 6 [0] Tryz.f64 [[1],[2]])
noncomputable def alF:aA:=bR (bQ 56 [0,1] Tryz.f67 [[0,3],[0,3,24],[4],[3,5],[4]])
noncomputable def alG:aA:=bR (bQ 9 [0,1] Tryz.f66 [[1,2],[3]])
noncomputable def alH:aA:=bR (bQ 19 [0,1] Tryz.f90 [[0,1],[0,1,7,8],[0,1,7,8,9],[0,1,5,7,8],[0,1,5,7,8,16],[4],[0,1,7,8],[4]])
noncomputable def alI:aA:=bR (bQ 9 [0,1] Tryz.f65 [[0,1],[4]])
noncomputable def alJ:aA:=bR (bQ 21 [0,1] Tryz.f35 [[1,2],[4]])
noncomputable def c93:aA:=bR (bQ 8 [0] Tryz.f93 [[0],[0,4],[2],[2]])
noncomputable def alK:aA:=bR (bQ 8 [0] Tryz.f68 [[1,2],[1,2],[2]])
noncomputable def alL:aA:=bR (bQ 19 [0] Tryz.f36 [[0],[0,3],[3,6,7,8],[3,6,7,8,9],[3,5,6,7,8],[3,6,7,8],[3,6,7,8],[2]])
noncomputable def c201:aA:=bR (bQ 38 [0] Tryz.f201 [[0],[0,4],[0,4,5],[4,5,17,18],[4,5,17,18,19],[4,5,17,18],[4,5,6,17,18],[4,5,17,18],[4,5,17,18],[2,3]])
noncomputable def alM:aA:=bR (bQ 11 [0] Tryz.f172 [[0],[3],[2]])
noncomputable def alN:aA:=bR (bQ 4 [0] Tryz.f202 [[0],[3],[2],[2]])
noncomputable def c203:aA:=bR (bQ 67 [0,1,2] Tryz.f203 [[0,1,2],[1,2,7],[1,2,7,8],[6],[1,2,7,14],[6],[1,2,7,21],[6],[1,2,7,27],[6],[1,2,7,33],[6],[1,2,7,39],[6],[1,2,7,45],[6],[1,2,51],[6],[6]])
noncomputable def c173:aA:=bR (bQ 61 [0,1] Tryz.f173 [[0,1],[0,1,9],[0,1,9,10],[4],[0,1,9,17],[4],[0,1,27],[4],[4]])
noncomputable def c139:aA:=bR (bQ 9 [0,1] Tryz.f139 [[0,1],[4]])
noncomputable def alO:aA:=bR (bQ 22 [0,1] Tryz.f136 [[0,1],[0,1,5],[1,5,8,9,10],[1,5,8,9,10,11],[1,5,7,8,9,10],[1,5,8,9,10],[1,5,8,9,10],[4]])
noncomputable def alP:aA:=bR (bQ 5 [0] Tryz.f101 [[0],[2]])
noncomputable def c145:aA:=bR (bQ 27 [0,1] Tryz.f145 [[0,1],[0,1,5],[1,5,11,12,13],[1,5,11,12,13,14],[1,5,6,7,11,12,13],[1,5,11,12,13],[1,5,11,12,13],[4]])
def alQ:aA:=aY [aJ 13 0,gJ 14 144 13,oA 15 14,aJ 16 15,fD 17 16 (.ga (.t 1)),fD 18 16 (.len 29 (.t 17)),fD 19 16 (.eP .gtr 3 (.t 18) (.c (.int .i64 2))),ro 20 (.pick (.t 16) (.c (.bool true)) (.t 19)),aJ 21 20,fD 22 21 (.ga (.t 1)),⟨some 23,.call (.f 92) [(.t 22)],some (21,false)⟩,fD 24 21 (.un .not (.t 23)),ro 25 (.pick (.t 21) (.c (.bool true)) (.t 24)),b7 12 25] [0,1,12] (.cond (.t 12) (aY [ro 4 (.hX (.c (.str []))),iC 5 false] [4,5] .ret) (aY [aJ 27 1,j4 28 29 27,dC 29 .eql 3 28 0,b7 26 29] [0,1,26] (.cond (.t 26) (aY [aJ 30 0,b7 4 30,iC 5 true] [4,5] .ret) .skip)))
def alR:aA:=aY [ro 4 (.hX (.c (.str []))),iC 5 false] [0,1] (.seq (.block 0 (aY [aJ 7 0,ro 8 (.eP .eql 9 (.t 7) (.c (.str [116,97,117]))),b7 6 8] [0,1,6] (.cond (.t 6) (aY [aJ 9 1,j4 10 29 9,dC 11 .eql 3 10 0,ro 4 (.hX (.c (.str [116,97,117]))),b7 5 11] [4,5] .ret) alQ))) (aY [aJ 31 0,ro 32 (.eP .add 9 (.t 31) (.c (.str [40]))),aJ 33 1,ro 34 (.call (.f 145) [(.t 33),(.c (.str [44]))]),i1 35 .add 9 32 34,ro 36 (.eP .add 9 (.t 35) (.c (.str [41]))),b7 4 36,iC 5 true] [4,5] .ret))
noncomputable def alS:aA:=bR (bQ 6 [0] Tryz.f262 [[0],[2]])
noncomputable def alT:aA:=bR (bQ 19 [0,1] Tryz.f171 [[0,1],[0,1,7,8],[0,1,7,8,9],[0,1,5,7,8],[0,1,5,7,8,16],[4],[0,1,7,8],[4]])
noncomputable def alU:aA:=bR (bQ 9 [0,1] Tryz.f133 [[0,1],[4]])
noncomputable def alV:aA:=bR (bQ 11 [0] Tryz.f247 [[0],[2]])
def c218:aA:=aY [ro 2 (.hX (.c (.str [])))] [0] (.seq (.block 0 (aY [aJ 4 0,gJ 5 247 4,oA 6 5,b7 3 6] [0,3] (.cond (.t 3) (aY [ro 2 (.hX (.c (.str [])))] [2] .ret) (aY [aJ 8 0,j4 9 29 8,dC 10 .eql 3 9 0,b7 7 10] [0,7] (.cond (.t 7) (aY [ro 2 (.hX (.c (.str [45])))] [2] .ret) .skip))))) (aY [aJ 11 0,ro 12 (.call (.f 145) [(.t 11),(.c (.str [44]))]),b7 2 12] [2] .ret))
def c182:aA:=aY [ro 1 (.iy 71 (.t 0)),ro 2 (.hX (.c (.str [])))] [1] (sd [dT 3 71 1 1,cr 4 2 3,gJ 5 101 4,ro 6 (.eP .add 9 (.t 5) (.c (.str [58]))),dT 7 71 1 2,cr 8 29 7,gJ 9 218 8,i1 10 .add 9 6 9,b7 2 10] [[],[0],[1],[2],[],[4],[5,2],[3,6],[7,6,0,1,2,3,4,5,6,7]] [2] .ret)
def c148:aA:=aY [ro 1 (.iy 71 (.t 0)),ro 2 (.hX (.c (.str [])))] [1] (sd [dT 3 71 1 0,cr 4 2 3,gJ 5 101 4,ro 6 (.eP .add 9 (.t 5) (.c (.str [58]))),cr 7 71 1,gJ 8 182 7,i1 9 .add 9 6 8,b7 2 9] [[],[0],[1],[2],[],[4,2],[3,5],[6,5,0,1,2,3,4,5,6]] [2] .ret)
def alW:aA:=aY [aJ 12 0,nH 13 12,dT 14 157 13 2,cr 15 122 14,aJ 16 4,ro 17 (.jT 122 (.t 15) (.t 16)),oA 18 17] [0,1,3,4,18] (.cond (.t 18) (aY [aJ 19 0,nH 20 19,dT 21 157 20 2,cr 22 122 21,aJ 23 4,⟨none,.k4 122 (.t 22) (.t 23) (.c (.bool true)),none⟩] [0,1,3] (.jX [aJ 24 0,aJ 25 0,nH 26 25,dT 27 157 26 1,cr 28 97 27,cr 29 102 3,uL 30 97 29,yc 31 97 97 28 30,nH 32 24,dT 33 157 32 1,j5 97 33 31] [[],[],[1],[2],[3],[],[5],[4,6],[0,0,1,2,3,4,5,6,7],[8,0,1,2,3,4,5,6,7],[9,7,7,0,1,2,3,4,5,6,7]] (some [0,1]))) .skip)
def alX:aA:=aY [ro 3 (.iy 102 (.t 1))] [0,1,3] (sd [dT 5 102 3 0,cr 6 9 5,ro 7 (.eP .add 9 (.t 6) (.c (.str [32]))),dT 8 102 3 1,cr 9 71 8,gJ 10 148 9,i1 11 .add 9 7 10,b7 4 11] [[],[0],[1],[],[3],[4],[2,5],[6,5,0,1,2,3,4,5,6]] [0,1,3,4] alW)
def Zj:aA:=.ew [aJ 63 0,aJ 64 10,cr 65 71 12,ro 66 (.gH 102 [(0,(.t 64)),(1,(.t 65))]),hp 67 137 63 66] (some [0])
def alY:aA:=aY [aJ 41 1,aJ 42 2,dC 43 .add 2 42 1,aJ 44 3,gJ 45 93 44,ro 46 (.gH 71 [(0,(.t 41)),(1,(.t 43)),(2,(.t 45))]),oz 12 71,j5 71 12 46] [0,2,3,8,10,12] (.seq (aY [dT 47 110 8 2,cr 48 108 47,aJ 49 2,dC 50 .add 2 49 1,ho 51 108 48 50,cr 52 149 51,oz 13 149,j5 149 13 52] [0,3,10,12,13] (aY [dT 53 149 13 0,cr 54 2 53,dC 55 .eql 2 54 5] [0,3,10,12,13,55] (.cond (.t 55) (.jX [dT 56 149 13 1,cr 57 2 56,dT 58 149 13 3,cr 59 147 58,aJ 60 3,hp 61 136 59 60,ro 62 (.gH 71 [(0,(.t 57)),(1,(.c (.int .i64 0))),(2,(.t 61))]),j5 71 12 62] [[],[0],[],[2],[],[3,4],[1,5],[6,5,0,1,2,3,4,5,6]] (some [0,10,12])) .skip))) Zj)
def Zk:aA:=aY [i1 105 .lss 2 104 103] [0,1,2,3,103,104,105] (.seq (.cond (.t 105) .skip (.exit 1)) (.seq (.block 2 (aY [aJ 106 104,b7 14 106] [0,1,2,3,14,103,104] (.ew [aJ 107 0,aJ 108 1,aJ 109 2,dC 110 .add 2 109 1,aJ 111 3,gJ 112 93 111,aJ 113 14,uL 114 29 113,⟨some 115,.shr (.app 29 29 (.t 112) (.t 114)),none⟩,FR 116 94 107 108 110 115] (some [0,1,2,3,103,104])))) (.ew [dC 117 .add 2 104 1,aJ 104 117] (some [0,1,2,3,103,104]))))
def alZ:aA:=aY [dC 85 .eql 2 28 3,b7 84 85] [0,1,2,3,9,28,84] (.cond (.t 84) (aY [dT 86 149 9 3,cr 87 147 86,ro 88 (.kM 147 (.t 87) (.c (.int .i64 0))),cr 89 185 88,aJ 90 3,hp 91 139 89 90,dC 92 .neq 2 91 0] [0,1,2,3,92] (.cond (.t 92) (.ew [aJ 93 0,aJ 94 1,aJ 95 2,dC 96 .add 2 95 1,aJ 97 3,FR 98 94 93 94 96 97] (some [0])) .skip)) (aY [dC 100 .eql 2 28 4,b7 99 100] [0,1,2,3,9,99] (.cond (.t 99) (aY [dT 101 149 9 1,cr 102 2 101,dC 103 .add 2 102 1,yb 104 0] [0,1,2,3,103,104] (.block 1 (.loop Zk))) .skip)))
def al0:aA:=.cond (.t 29) (sd [dT 32 149 9 2,cr 33 9 32,dT 34 149 9 3,cr 35 147 34,aJ 36 3,hp 37 136 35 36,hp 38 99 33 37,aJ 31 38,i6 39 31 0,i6 40 31 1,b7 10 39,b7 11 40] [[],[0],[],[2],[],[3,4],[1,5,5],[6],[7],[7],[8,6,0,1,2,3,4,5,6,7,8],[9,10,0,1,2,3,4,5,6,7,8,9,10]] [0,1,2,3,8,10] alY) (aY [dC 69 .eql 2 28 2,b7 68 69] [0,1,2,3,8,9,28,68] (.cond (.t 68) (aY [aJ 70 0,aJ 71 1,aJ 72 2,dC 73 .add 2 72 1,aJ 74 3,FR 75 94 70 71 73 74] [0,1,2,3,8] (.ew [aJ 76 0,aJ 77 1,cr 78 110 8,aJ 79 2,dC 80 .add 3 79 1,hp 81 138 78 80,aJ 82 3,FR 83 94 76 77 81 82] (some [0]))) alZ))
def al1:aA:=aY [aJ 15 0,nH 16 15,dT 17 157 16 0,cr 18 35 17,aJ 19 1,ho 20 35 18 19,cr 21 110 20,oz 8 110,j5 110 8 21] [0,1,2,3,8] (aY [dT 22 110 8 2,cr 23 108 22,aJ 24 2,ho 25 108 23 24,cr 26 149 25,oz 9 149,j5 149 9 26] [0,1,2,3,8,9] (aY [dT 27 149 9 0,cr 28 2 27] [0,1,2,3,8,9,28] (.block 0 (aY [dC 30 .eql 2 28 1,b7 29 30] [0,1,2,3,8,9,28,29] al0))))
def al2:aA:=aY [aJ 7 0,ro 8 (.sX),ro 9 (.gH 157 [(0,(.t 7)),(2,(.t 8))]),ro 10 (.iy 157 (.t 9)),b7 6 10] [3,6] (aY [aJ 11 6,dT 12 71 3 0,cr 13 2 12,dT 14 71 3 1,cr 15 2 14,dT 16 71 3 2,cr 17 29 16,FR 18 94 11 13 15 17] [6] (sd [aJ 19 6,nH 20 19,dT 21 157 20 1,cr 22 97 21,aJ 23 6,nH 24 23,dT 25 157 24 1,cr 26 97 25,j4 27 97 26,dC 28 .leq 3 27 200,⟨some 4,.p5 (.t 22),none⟩,b7 5 28] [[],[0],[1],[2],[],[4],[5],[6],[7],[8],[3,0,1,2,3],[9,10,0,1,2,3,4,5,6,7,8,9,10]] [4,5,6] .ret))
def al3:aA:=aY [ro 3 (.iy 71 (.t 1)),qb 4,iC 5 false] [0,3] al2
noncomputable def al4:aA:=bR (bQ 8 [0,1] Tryz.f204 [[0,1],[4]])
noncomputable def al5:aA:=bR (bQ 143 [0,1] Tryz.f174 [[0,1],[0,1,5],[0,1,5,16],[4],[0,1,5,24],[4],[0,1,5,31],[4],[0,1,5,36],[4],[0,1,5,6],[0,1,5,6,7],[0,1,5,6,7,8],[0,1,5,6,7,8,9],[0,1,5,6,7,8,9,10],[0,1,5,6,7,8,9,10,59],[0,1,5,6,7,8,9,10,64],[0,1,5,6,7,8,9,10,11],[0,1,5,6,7,8,9,10,11,73],[4],[0,1,5,6,7,8,9,10],[0,1,5,6,7,8,9,10,93],[4],[0,1,5,6,7,8,9,10],[0,1,5,6,7,8,9,10],[0,1,5,6,7,8,9,10,107],[8,12],[8,12,114],[4],[4],[0,1,5,6,7,8,9,10,132],[8,13],[8,13,139],[4],[4],[4]])
noncomputable def al6:aA:=bR (bQ 23 [0,1] Tryz.f140 [[0,1],[0,1,7],[0,1,7,12],[4,5,6],[4,5,6]])
noncomputable def al7:aA:=bR (bQ 13 [0,1] Tryz.f95 [[0,1],[4,5,6]])
noncomputable def al8:aA:=bR (bQ 21 [0,1] Tryz.f180 [[0,1],[4]])
noncomputable def c143:aA:=bR (bQ 16 [0,1] Tryz.f143 [[0,1],[0,1,7],[4],[4]])
noncomputable def al9:aA:=bR (bQ 8 [0,1] Tryz.f98 [[0,1],[4]])
noncomputable def al_:aA:=bR (bQ 8 [0,1] Tryz.f179 [[0,1],[4]])
noncomputable def ama:aA:=bR (bQ 34 [1] Tryz.f178 [[0,1],[0,1,9],[4],[0,1,15],[4],[0,1,5],[0,1,5,6],[0,1,5,6,24],[4],[0,1,5,6],[0,1,5]])
noncomputable def amb:aA:=bR (bQ 66 [1,2] Tryz.f142 [[0,1,2,3],[0,1,2,3,13],[8],[0,1,2,3,15],[8],[0,1,2,3,20],[0,1,2,3],[0,1,2,3],[0,1,2,3,9],[0,1,2,3,9],[0,1,2,3,9,10],[0,1,2,3,9,10,36],[0,1,2,3,9,10,11],[0,1,2,3,9,10,11,41],[0,1,2,3,9,10,11],[0,1,2,3,9,10],[0,1,2,3,9,10],[9,10],[8]])
noncomputable def amc:aA:=bR (bQ 8 [0,1] Tryz.f97 [[0,1],[4]])
noncomputable def amd:aA:=bR (bQ 28 [0] Tryz.f96 [[0],[0,4],[4,9,10,11],[4,9,10,11,12],[4,6,9,10,11],[4,7,8,9,10,11],[4,7,9,10,11,21],[2,3],[4,9,10,11],[4,9,10,11],[2,3]])
def Zl:aA:=.seq (aY [aJ 29 5,aJ 30 8,hp 31 99 29 30,aJ 28 31,i6 32 28 0,i6 33 28 1,b7 10 32,b7 11 33] [0,5,8,10,11] (aY [aJ 34 11,oA 35 34,aJ 36 35,fD 37 36 (.ga (.t 10)),fD 38 36 (.ga (.t 0)),fD 39 36 (.eP .neq 9 (.t 37) (.t 38)),ro 40 (.pick (.t 36) (.c (.bool true)) (.t 39))] [5,8,40] (.cond (.t 40) (aY [ro 2 (.hX (.c (.str []))),qb 3,iC 4 false] [2,3,4] .ret) .skip))) (aY [aJ 41 5,aJ 42 8,b7 2 41,b7 3 42,iC 4 true] [2,3,4] .ret)
def ame:aA:=aY [aJ 13 0,ro 14 (.call (.f 95) [(.t 13),(.c (.str [40]))]),aJ 12 14,i6 15 12 0,i6 16 12 1,i6 17 12 2,b7 5 15,b7 6 16,b7 7 17] [0,5,6,7] (aY [qb 8] [0,5,6,7,8] (.seq (aY [aJ 18 7] [0,5,6,8,18] (.cond (.t 18) (aY [iC 9 false] [0,5,6] (aY [aJ 20 6,ro 21 (.call (.f 98) [(.t 20),(.c (.str [41]))]),ro 22 (.call (.f 97) [(.t 21),(.c (.str [44]))]),gJ 23 96 22,aJ 19 23,i6 24 19 0,i6 25 19 1,b7 8 24,b7 9 25] [0,5,8,9] (aY [aJ 26 9,oA 27 26] [0,5,8,27] (.cond (.t 27) (aY [ro 2 (.hX (.c (.str []))),qb 3,iC 4 false] [2,3,4] .ret) .skip)))) .skip)) Zl))
def c70:aA:=aY [ro 2 (.hX (.c (.str []))),qb 3,iC 4 false] [0] ame
noncomputable def c146:aA:=bR (bQ 19 [0,1] Tryz.f146 [[0,1],[0,1,7,8],[0,1,7,8,9],[0,1,5,7,8],[0,1,5,7,8,16],[4],[0,1,7,8],[4]])
noncomputable def amf:aA:=bR (bQ 9 [0,1] Tryz.f100 [[0,1],[4]])
def Zm:aA:=aY [i1 9 .lss 3 8 7] [3,6,7,8,9] (.seq (.cond (.t 9) .skip (.exit 0)) (.seq (.block 1 (aY [ho 10 32 6 8,cr 11 71 10,oz 5 71,j5 71 5 11] [3,5,6,7,8] (.ew [aJ 12 3,cr 13 71 5,gJ 14 148 13,uL 15 25 14,yc 16 25 25 12 15,b7 3 16] (some [3,6,7,8])))) (.ew [dC 17 .add 3 8 1,aJ 8 17] (some [3,6,7,8]))))
def amg:aA:=aY [ro 2 (.hX (.c (.str [])))] [0] (aY [qb 3] [0,3] (.seq (aY [aJ 6 0,j4 7 32 6,yb 8 0] [3,6,7,8] (.block 0 (.loop Zm))) (aY [aJ 18 3,ro 19 (.call (.f 149) [(.t 18),(.c (.str [32]))]),b7 2 19] [2] .ret)))
def amh:aA:=aY [aJ 75 0,nH 76 75,dT 77 124 76 3,cr 78 122 77,aJ 79 15,ro 80 (.jT 122 (.t 78) (.t 79)),oA 81 80] [0,3,4,12,14,15,81] (.cond (.t 81) (aY [aJ 82 0,nH 83 82,dT 84 124 83 3,cr 85 122 84,aJ 86 15,⟨none,.k4 122 (.t 85) (.t 86) (.c (.bool true)),none⟩] [0,3,4,12,14] (.ew [aJ 87 0,aJ 88 0,nH 89 88,dT 90 124 89 2,cr 91 61 90,aJ 92 12,aJ 93 3,aJ 94 4,aJ 95 14,ro 96 (.gH 66 [(0,(.t 92)),(1,(.t 93)),(2,(.t 94)),(3,(.t 95))]),uL 97 61 96,yc 98 61 61 91 97,nH 99 87,dT 100 124 99 2,j5 61 100 98] (some [0]))) .skip)
def RF:aA:=aY [aJ 62 12,ro 63 (.eP .add 9 (.t 62) (.c (.str [32]))),aJ 64 3,gJ 65 101 64,i1 66 .add 9 63 65,ro 67 (.eP .add 9 (.t 66) (.c (.str [32]))),aJ 68 4,gJ 69 101 68,i1 70 .add 9 67 69,ro 71 (.eP .add 9 (.t 70) (.c (.str [32]))),aJ 72 14,gJ 73 102 72,i1 74 .add 9 71 73,b7 15 74] [0,3,4,12,14,15] amh
def ami:aA:=aY [aJ 41 0,nH 42 41,dT 43 124 42 1,cr 44 32 43,gJ 45 36 44,b7 14 45] [0,3,4,5,12,14] (aY [aJ 46 14,aJ 47 3,aJ 48 5,ro 49 (.kM 32 (.t 48) (.c (.int .i64 0))),cr 50 71 49,gJ 51 68 50,ho 52 32 46 47,j5 71 52 51] [0,3,4,5,12,14] (.seq (aY [aJ 53 4,dC 54 .geq 2 53 0] [0,3,4,5,12,14,54] (.cond (.t 54) (.ew [aJ 55 14,aJ 56 4,aJ 57 5,ro 58 (.kM 32 (.t 57) (.c (.int .i64 1))),cr 59 71 58,gJ 60 68 59,ho 61 32 55 56,j5 71 61 60] (some [0,3,4,12,14])) .skip)) RF))
def RG:aA:=aY [aJ 36 1,aJ 37 2,hp 38 99 36 37,aJ 35 38,i6 39 35 0,i6 40 35 1,b7 12 39,b7 13 40] [0,3,4,5,12] ami
def amj:aA:=.seq (aY [aJ 16 1,ro 17 (.eP .neq 9 (.t 16) (.c (.str [116,97,117]))),aJ 18 17,fg 19 18 (.ga (.t 0)),fg 20 18 (.mC (.t 19)),fg 21 18 (.h2 124 (.t 20) 0),fg 22 18 (.h2 39 (.t 21) 3),fg 23 18 (.fV 25 (.t 22)),fg 24 18 (.ga (.t 1)),⟨some 25,.call (.f 100) [(.t 23),(.t 24)],some (18,true)⟩,fg 26 18 (.un .not (.t 25)),ro 27 (.pick (.t 18) (.t 26) (.c (.bool false)))] [0,1,2,3,4,5,27] (.cond (.t 27) .ret .skip)) (.seq (aY [aJ 28 0,nH 29 28,dT 30 124 29 0,dT 31 39 30 4,cr 32 25 31,aJ 33 1,hp 34 100 32 33] [0,1,2,3,4,5,34] (.cond (.t 34) (.ew [ro 1 (.hX (.c (.str [116,97,117]))),qb 2] (some [0,1,2,3,4,5])) .skip)) RG)
noncomputable def amk:aA:=bR (bQ 19 [0,1,2] Tryz.f151 [[1,2,3],[4]])
noncomputable def aml:aA:=bR (bQ 19 [0,1] Tryz.f150 [[0,1],[0,1,7,8],[0,1,7,8,9],[0,1,5,7,8],[0,1,5,7,8,16],[4],[0,1,7,8],[4]])
noncomputable def amm:aA:=bR (bQ 21 [0,1,2] Tryz.f103 [[3,4,5],[3,8],[3,8,14],[6,7],[6,7]])
noncomputable def amn:aA:=bR (bQ 26 [0,1] Tryz.f104 [[0,1],[0,1,10],[4],[0,1,12,13],[0,1,12,13,14],[0,1,5,12,13],[0,1,12,13,24],[4],[0,1,12,13],[4]])
def amo:aA:=aY [aJ 49 0,nH 50 49,dT 51 124 50 0,cr 52 39 51,aJ 53 12,aJ 54 17,FQ 55 103 52 53 54,aJ 48 55,i6 56 48 0,i6 57 48 1,b7 20 56,b7 21 57] [0,1,2,4,11,12,13,16,18,20,21,22,23,24,35,36,37] (aY [aJ 58 21,aJ 59 58,fg 60 59 (.ga (.t 13)),fg 61 59 (.ga (.t 18)),⟨some 62,.call (.f 104) [(.t 60),(.t 61)],some (59,true)⟩,ro 63 (.pick (.t 59) (.t 62) (.c (.bool false)))] [0,1,2,4,11,12,13,16,20,22,23,24,35,36,37,63] (.cond (.t 63) (.ew [aJ 64 0,aJ 65 20,aJ 66 13,aJ 67 1,aJ 68 2,dT 69 102 11 1,cr 70 71 69,dT 71 102 16 1,cr 72 71 71,⟨some 73,.shr (.d_ 32 2 [(0,(.t 70)),(1,(.t 72))]),none⟩,ro 74 (.call (.f 71) [(.t 64),(.t 65),(.t 66),(.t 67),(.t 68),(.t 73)])] (some [0,1,2,4,11,12,13,22,23,24,35,36,37])) .skip))
def Zn:aA:=.ew [dC 75 .add 3 37 1,aJ 37 75] (some [0,1,2,4,11,12,13,22,23,24,35,36,37])
def Zo:aA:=aY [i1 38 .lss 3 37 36] [0,1,2,4,11,12,13,22,23,24,35,36,37,38] (.seq (.cond (.t 38) .skip (.exit 2)) (.seq (.block 3 (aY [ho 39 97 35 37,cr 40 102 39,oz 16 102,j5 102 16 40] [0,1,2,4,11,12,13,16,22,23,24,35,36,37] (aY [dT 42 102 16 0,cr 43 9 42,gJ 44 70 43,aJ 41 44,i6 45 41 0,i6 46 41 1,i6 47 41 2,b7 17 45,b7 18 46,b7 19 47] [0,1,2,4,11,12,13,16,17,18,22,23,24,35,36,37] amo))) Zn))
def Zp:aA:=aY [i1 25 .lss 3 24 23] [0,1,2,4,22,23,24,25] (.seq (.cond (.t 25) .skip (.exit 0)) (.seq (.block 1 (aY [ho 26 97 22 24,cr 27 102 26,oz 11 102,j5 102 11 27] [0,1,2,4,11,22,23,24] (aY [dT 29 102 11 0,cr 30 9 29,gJ 31 70 30,aJ 28 31,i6 32 28 0,i6 33 28 1,i6 34 28 2,b7 12 32,b7 13 33,b7 14 34] [0,1,2,4,11,12,13,22,23,24] (aY [aJ 35 4,j4 36 97 35,yb 37 0] [0,1,2,4,11,12,13,22,23,24,35,36,37] (.block 2 (.loop Zo)))))) (.ew [dC 76 .add 3 24 1,aJ 24 76] (some [0,1,2,4,22,23,24]))))
def c72:aA:=aY [aJ 22 3,j4 23 97 22,yb 24 0] [0,1,2,4,22,23,24] (.block 0 (.loop Zp))
def amp:aA:=.seq (.block 3 (aY [ho 48 97 44 46,cr 49 102 48,oz 13 102,j5 102 13 49] [1,2,6,7,8,13,24,25,26,44,45,46] (aY [dT 51 102 13 0,cr 52 9 51,gJ 53 70 52,aJ 50 53,i6 54 50 0,i6 55 50 1,i6 56 50 2,b7 14 54,b7 15 55,b7 16 56] [1,2,6,7,8,13,14,15,24,25,26,44,45,46] (.ew [aJ 57 6,aJ 58 14,aJ 59 15,aJ 60 8,dT 61 102 13 1,cr 62 71 61,⟨some 63,.shr (.d_ 32 1 [(0,(.t 62))]),none⟩,ro 64 (.call (.f 71) [(.t 57),(.t 58),(.t 59),(.t 60),(.c (.int .i64 (-1))),(.t 63)])] (some [1,2,6,7,8,24,25,26,44,45,46]))))) (.ew [dC 65 .add 3 46 1,aJ 46 65] (some [1,2,6,7,8,24,25,26,44,45,46]))
def Zq:aA:=aY [i1 47 .lss 3 46 45] [1,2,6,7,8,24,25,26,44,45,46,47] (.seq (.cond (.t 47) .skip (.exit 2)) amp)
def amq:aA:=.seq (.block 1 (aY [aJ 28 26,ho 29 32 24 26,cr 30 71 29,oz 9 71,b7 8 28,j5 71 9 30] [1,2,6,7,8,9,24,25,26] (aY [dT 32 39 2 0,cr 33 35 32,cr 34 71 9,hp 35 69 33 34,aJ 31 35,i6 36 31 0,i6 37 31 1,b7 10 36,b7 11 37] [1,2,6,7,8,10,11,24,25,26] (.seq (aY [aJ 38 11,oA 39 38] [1,2,6,7,8,10,24,25,26,39] (.cond (.t 39) (aY [qb 4,iC 5 false] [4,5] .ret) .skip)) (aY [aJ 40 7,aJ 41 10,uL 42 96 41,yc 43 96 96 40 42,b7 7 43] [1,2,6,7,8,10,24,25,26] (aY [aJ 44 10,j4 45 97 44,yb 46 0] [1,2,6,7,8,24,25,26,44,45,46] (.block 2 (.loop Zq)))))))) (.ew [dC 66 .add 3 26 1,aJ 26 66] (some [1,2,6,7,24,25,26]))
def Zr:aA:=aY [i1 27 .lss 3 26 25] [1,2,6,7,24,25,26,27] (.seq (.cond (.t 27) .skip (.exit 0)) amq)
def Zs:aA:=.seq (aY [aJ 74 18,aJ 75 1,j4 76 32 75,i1 77 .lss 3 74 76] [1,6,7,17,18,68,69,77] (.cond (.t 77) .skip (.exit 6))) (.seq (.block 7 (.jX [aJ 80 6,aJ 81 17,aJ 82 18,aJ 83 7,aJ 84 17,ho 85 96 83 84,cr 86 97 85,aJ 87 7,aJ 88 18,ho 89 96 87 88,cr 90 97 89,ro 91 (.call (.f 72) [(.t 80),(.t 81),(.t 82),(.t 86),(.t 90)])] [[],[],[],[],[],[3,4],[5],[],[],[7,8],[9],[0,1,2,6,10]] (some [1,6,7,17,18,68,69]))) (.ew [aJ 78 18,dC 79 .add 3 78 1,b7 18 79] (some [1,6,7,17,18,68,69])))
def Zt:aA:=aY [i1 70 .lss 3 69 68] [1,6,7,68,69,70] (.seq (.cond (.t 70) .skip (.exit 4)) (.seq (.block 5 (aY [aJ 71 69,b7 17 71] [1,6,7,17,68,69] (aY [aJ 72 17,dC 73 .add 3 72 1,b7 18 73] [1,6,7,17,18,68,69] (.block 6 (.loop Zs))))) (.ew [dC 92 .add 3 69 1,aJ 69 92] (some [1,6,7,68,69]))))
def amr:aA:=aY [cr 19 39 2,aJ 20 1,ro 21 (.sX),ro 22 (.gH 124 [(0,(.t 19)),(1,(.t 20)),(3,(.t 21))]),ro 23 (.iy 124 (.t 22)),b7 6 23] [1,2,6] (aY [qb 7] [1,2,6,7] (.seq (aY [aJ 24 1,j4 25 32 24,yb 26 0] [1,2,6,7,24,25,26] (.block 0 (.loop Zr))) (.seq (aY [aJ 67 1,j4 68 32 67,yb 69 0] [1,6,7,68,69] (.block 4 (.loop Zt))) (sd [aJ 93 6,nH 94 93,dT 95 124 94 2,cr 96 61 95,aJ 97 6,nH 98 97,dT 99 124 98 2,cr 100 61 99,j4 101 61 100,dC 102 .leq 3 101 200,⟨some 4,.p5 (.t 96),none⟩,b7 5 102] [[],[0],[1],[2],[],[4],[5],[6],[7],[8],[3,0,1,2,3],[9,10,0,1,2,3,4,5,6,7,8,9,10]] [4,5,6] .ret))))
def c37:aA:=aY [ro 2 (.iy 39 (.t 0)),qb 4,iC 5 false] [1,2] amr
noncomputable def Av:aA:=bR (bQ 57 [0,2] Tryz.f10 [[1,2,3],[1,2,3,17],[6,7,8],[1,2,3],[1,2,3,9],[1,3,9,20,21,22],[1,3,9,20,21,22,23],[1,3,9,11,20,21,22],[3,9,11,12,13,20,21,22],[3,9,11,12,20,21,22,32],[6,7,8],[3,9,11,12,20,21,22,35],[6,7,8],[3,9,11,12,20,21,22],[1,3,9,20,21,22],[1,3,9,20,21,22],[6,7,8]])
noncomputable def hc:aA:=bR (bQ 26 [0,1] Tryz.f14 [[0,1],[0,1,10],[4],[0,1,5],[0,1,5,14],[0,1,5,25],[4],[0,1,5],[4]])
noncomputable def ams:aA:=bR (bQ 21 [0,1] Tryz.f39 [[2,3],[2,3,9],[4],[2,3,14],[4],[20],[4],[4]])
noncomputable def amt:aA:=bR (bQ 27 [0,1] Tryz.f11 [[0,1],[0,1,10],[4],[0,1,5],[0,1,5,14],[0,1,5,26],[4],[0,1,5],[4]])
noncomputable def c12:aA:=bR (bQ 26 [0,1] Tryz.f12 [[0,1],[0,1,10],[4],[0,1,5],[0,1,5,14],[0,1,5,25],[4],[0,1,5],[4]])
noncomputable def amu:aA:=bR (bQ 15 [0,1] Tryz.f250 [[2,3],[2,3,9],[4],[14],[4],[4]])
noncomputable def amv:aA:=bR (bQ 27 [0,1] Tryz.f221 [[0,1],[0,1,10],[4],[0,1,5],[0,1,5,14],[0,1,5,26],[4],[0,1,5],[4]])
noncomputable def amw:aA:=bR (bQ 27 [0,1] Tryz.f186 [[0,1],[0,1,10],[4],[0,1,5],[0,1,5,14],[0,1,5,26],[4],[0,1,5],[4]])
noncomputable def c152:aA:=bR (bQ 26 [0,1] Tryz.f152 [[2,3],[2,3,9],[4],[2,3,14],[4],[2,3,19],[4],[25],[4],[4]])
noncomputable def c105:aA:=bR (bQ 27 [0,1] Tryz.f105 [[0,1],[0,1,10],[4],[0,1,5],[0,1,5,14],[0,1,5,26],[4],[0,1,5],[4]])
noncomputable def amx:aA:=bR (bQ 21 [0,1] Tryz.f74 [[2,3],[2,3,9],[4],[2,3,14],[4],[20],[4],[4]])
noncomputable def c40:aA:=bR (bQ 27 [0,1] Tryz.f40 [[0,1],[0,1,10],[4],[0,1,5],[0,1,5,14],[0,1,5,26],[4],[0,1,5],[4]])
noncomputable def c75:aA:=bR (bQ 16 [0,1] Tryz.f75 [[2,3],[2,3,9],[4],[15],[4],[4]])
noncomputable def amy:aA:=bR (bQ 27 [0,1] Tryz.f41 [[0,1],[0,1,10],[4],[0,1,5],[0,1,5,14],[0,1,5,26],[4],[0,1,5],[4]])
noncomputable def c76:aA:=bR (bQ 20 [0,1] Tryz.f76 [[2,3],[2,3,9],[4],[2,3,14],[4],[19],[4],[4]])
noncomputable def amz:aA:=bR (bQ 27 [0,1] Tryz.f42 [[0,1],[0,1,10],[4],[0,1,5],[0,1,5,14],[0,1,5,26],[4],[0,1,5],[4]])
noncomputable def amA:aA:=bR (bQ 35 [0,1] Tryz.f13 [[2,3],[2,3,10],[4],[2,3,16],[4],[2,3,22],[4],[2,3,28],[4],[34],[4],[4]])
def Zu:aA:=.seq (aY [aJ 6 0,dC 7 .gtr 3 6 0] [0,3,7] (.cond (.t 7) .skip (.exit 0))) (.block 1 (aY [aJ 8 0,dC 9 .rem 3 8 10,ro 10 (.eP .add 3 (.c (.int .i64 48)) (.t 9)),JJ 11 3 5 10,uL 12 134 11,JJ 13 134 9 12,aJ 14 3,i1 15 .add 9 13 14,b7 3 15] [0,3] (.ew [aJ 16 0,dC 17 .quo 3 16 10,b7 0 17] (some [0,3]))))
def c46:aA:=aY [ro 2 (.hX (.c (.str [])))] [0] (.seq (aY [aJ 4 0,dC 5 .leq 3 4 0] [0,5] (.cond (.t 5) (aY [ro 2 (.hX (.c (.str [109,48])))] [2] .ret) .skip)) (aY [ro 3 (.hX (.c (.str [])))] [0,3] (.seq (.block 0 (.loop Zu)) (aY [aJ 18 3,ro 19 (.eP .add 9 (.c (.str [109])) (.t 18)),b7 2 19] [2] .ret))))
noncomputable def amB:aA:=bR (bQ 27 [0] Tryz.f153 [[0,1],[0,1,5],[0,1,5,9],[0,1,5],[0,1,5],[0,1,5],[0,1,5],[0,1,5],[0,4]])
noncomputable def amC:aA:=bR (bQ 19 [0] Tryz.f106 [[0,1],[0,1,5],[0,1,5,9],[0,1,5],[0,1,5],[0,4]])
noncomputable def amD:aA:=bR (bQ 42 [0] Tryz.f77 [[0,1],[0,1,5],[0,1,5,9],[0,1,5],[0,1,5],[0,1,5],[0,1,5],[0,1,5],[0,1,5],[0,1,5],[0,1,5],[0,4]])
noncomputable def amE:aA:=bR (bQ 35 [0] Tryz.f43 [[0,1],[0,1,5],[0,1,5,9],[0,1,5],[0,1,5],[0,1,5],[0,1,5],[0,1,5],[0,1,5],[0,4]])
noncomputable def amF:aA:=bR (bQ 19 [0] Tryz.f17 [[0,1],[0,1,5],[0,1,5,9],[0,1,5],[0,1,5],[0,1,5],[0,4]])
noncomputable def HC:aA:=bR (bQ 27 [0] Tryz.f44 [[0,1],[0,1,5],[0,1,5,9],[0,1,5],[0,1,5],[0,1,5],[0,1,5],[0,4]])
noncomputable def amG:aA:=bR (bQ 37 [0] Tryz.f45 [[0,1],[0,1,5],[0,1,5,9],[0,1,5],[0,1,5],[0,1,5],[0,1,5],[0,1,5],[0,1,5],[0,1,5],[0,4]])
noncomputable def RH:aA:=bR (bQ 20 [0] Tryz.f18 [[0,1],[0,1,5],[0,1,5,9],[0,1,5],[0,1,5],[0,1,5],[0,4]])
def amH:aA:=aY [dT 5 39 2 0,cr 6 35 5,aJ 7 1,⟨some 8,.mV (.f 43) [(.t 6),(.t 7)] [2],none⟩,b7 1 8] [0,1,2] (aY [dT 9 39 2 1,cr 10 36 9,aJ 11 1,⟨some 12,.mV (.f 44) [(.t 10),(.t 11)] [2],none⟩,b7 1 12] [0,1,2] (aY [dT 13 39 2 2,cr 14 37 13,aJ 15 1,⟨some 16,.mV (.f 45) [(.t 14),(.t 15)] [2],none⟩,b7 1 16] [0,1,2] (aY [dT 17 39 2 3,cr 18 25 17,aJ 19 1,⟨some 20,.mV (.f 18) [(.t 18),(.t 19)] [2],none⟩,b7 1 20] [0,1,2] (aY [dT 21 39 2 4,cr 22 25 21,aJ 23 1,hp 24 18 22 23,b7 1 24] [0,1] (aY [aJ 25 1,b7 4 25] [0,4] .ret)))))
def amI:aA:=aY [⟨some 2,.mc 39 (.t 0),none⟩,im 4 0] [0,1,2] amH
noncomputable def kJ:aA:=bR (bQ 34 [0] Tryz.f16 [[0,1],[0,1,5],[0,1,5,9],[0,1,5],[0,1,5],[0,1,5],[0,1,5],[0,1,5],[0,1,5],[0,4]])
noncomputable def amJ:aA:=bR (bQ 21 [0] Tryz.f47 [[0,1],[0,1,5],[0,1,5,9],[0,1,5,17],[4],[0,1,5],[0,1,5],[4]])
noncomputable def amK:aA:=bR (bQ 40 [0] Tryz.f19 [[0,1],[0,1,5],[0,1,5,9],[0,1,5,18],[4],[0,1,5],[0,1,5,27],[4],[0,1,5],[0,1,5],[0,1,5,38],[4],[0,1,5],[4]])
noncomputable def c20:aA:=bR (bQ 22 [0] Tryz.f20 [[0,1],[0,1,5],[0,1,5,9],[0,1,5,18],[4],[0,1,5],[0,1,5],[4]])
def amL:aA:=aY [aJ 164 14,aJ 165 19,hp 166 19 164 165,b7 19 166] [15,18,19] (.seq (aY [aJ 167 19,dC 168 .lss 3 167 0] [15,18,19,168] (.cond (.t 168) (aY [iC 6 false] [6] .ret) .skip)) (aY [aJ 169 15,aJ 170 19,hp 171 20 169 170,b7 19 171] [18,19] (.seq (aY [aJ 172 19,dC 173 .lss 3 172 0] [18,19,173] (.cond (.t 173) (aY [iC 6 false] [6] .ret) .skip)) (.seq (aY [aJ 174 19,aJ 175 18,i1 176 .neq 3 174 175] [176] (.cond (.t 176) (aY [iC 6 false] [6] .ret) .skip)) (aY [iC 6 true] [6] .ret)))))
def amM:aA:=aY [cr 139 27 3,gJ 140 7 139,aJ 141 1,gJ 142 8 141,aJ 143 2,gJ 144 9 143,FQ 145 10 140 142 144,aJ 138 145,⟨some 146,.ext (.t 138) 0,none⟩,i6 147 138 1,i6 148 138 2,b7 20 146,b7 21 147,b7 22 148] [8,9,10,14,15,18,20,21,22] (.seq (aY [aJ 149 20,aJ 150 8,hp 151 11 149 150,oA 152 151,aJ 153 152,fD 154 153 (.ga (.t 21)),fD 155 153 (.ga (.t 9)),⟨some 156,.call (.f 12) [(.t 154),(.t 155)],some (153,false)⟩,fD 157 153 (.un .not (.t 156)),ro 158 (.pick (.t 153) (.c (.bool true)) (.t 157)),aJ 159 158,fD 160 159 (.ga (.t 22)),fD 161 159 (.ga (.t 10)),fD 162 159 (.eP .neq 2 (.t 160) (.t 161)),ro 163 (.pick (.t 159) (.c (.bool true)) (.t 162))] [14,15,18,163] (.cond (.t 163) (aY [iC 6 false] [6] .ret) .skip)) (aY [im 19 1] [14,15,18,19] amL))
def amN:aA:=aY [aJ 125 14,aJ 126 19,hp 127 19 125 126,b7 19 127] [1,2,3,8,9,10,14,15,18,19] (.seq (aY [aJ 128 19,dC 129 .lss 3 128 0] [1,2,3,8,9,10,14,15,18,19,129] (.cond (.t 129) (aY [iC 6 false] [6] .ret) .skip)) (aY [aJ 130 15,aJ 131 19,hp 132 20 130 131,b7 19 132] [1,2,3,8,9,10,14,15,18,19] (.seq (aY [aJ 133 19,dC 134 .lss 3 133 0] [1,2,3,8,9,10,14,15,18,19,134] (.cond (.t 134) (aY [iC 6 false] [6] .ret) .skip)) (.seq (aY [aJ 135 19,aJ 136 18,i1 137 .neq 3 135 136] [1,2,3,8,9,10,14,15,18,137] (.cond (.t 137) (aY [iC 6 false] [6] .ret) .skip)) amM))))
def amO:aA:=.seq (aY [aJ 100 17,dC 101 .lss 3 100 0,aJ 102 101,fD 103 102 (.ga (.t 14)),fD 104 102 (.ga (.t 8)),⟨some 105,.call (.f 11) [(.t 103),(.t 104)],some (102,false)⟩,fD 106 102 (.un .not (.t 105)),ro 107 (.pick (.t 102) (.c (.bool true)) (.t 106)),aJ 108 107,fD 109 108 (.ga (.t 15)),fD 110 108 (.ga (.t 9)),⟨some 111,.call (.f 12) [(.t 109),(.t 110)],some (108,false)⟩,fD 112 108 (.un .not (.t 111)),ro 113 (.pick (.t 108) (.c (.bool true)) (.t 112)),aJ 114 113,fD 115 114 (.ga (.t 16)),fD 116 114 (.ga (.t 10)),fD 117 114 (.eP .neq 2 (.t 115) (.t 116)),ro 118 (.pick (.t 114) (.c (.bool true)) (.t 117))] [1,2,3,8,9,10,14,15,118] (.cond (.t 118) (aY [iC 6 false] [6] .ret) .skip)) (aY [im 18 1] [1,2,3,8,9,10,14,15,18] (aY [aJ 119 14,aJ 120 18,hp 121 16 119 120,b7 18 121] [1,2,3,8,9,10,14,15,18] (aY [aJ 122 15,aJ 123 18,hp 124 18 122 123,b7 18 124] [1,2,3,8,9,10,14,15,18] (aY [im 19 1] [1,2,3,8,9,10,14,15,18,19] amN))))
def amP:aA:=.seq (aY [aJ 86 13,aJ 87 2,gJ 88 9 87,hp 89 14 86 88,oA 90 89] [1,2,3,8,9,10,11,12,13,14,15,16,90] (.cond (.t 90) (aY [iC 6 false] [6] .ret) .skip)) (aY [im 17 1] [1,2,3,8,9,10,11,12,13,14,15,16,17] (aY [cr 91 39 11,aJ 92 17,hp 93 15 91 92,b7 17 93] [1,2,3,8,9,10,12,13,14,15,16,17] (aY [aJ 94 12,aJ 95 17,hp 96 16 94 95,b7 17 96] [1,2,3,8,9,10,13,14,15,16,17] (aY [aJ 97 13,aJ 98 17,hp 99 17 97 98,b7 17 99] [1,2,3,8,9,10,14,15,16,17] amO))))
def amQ:aA:=.seq (aY [aJ 61 14,aJ 62 8,hp 63 11 61 62,oA 64 63,aJ 65 64,fD 66 65 (.ga (.t 15)),fD 67 65 (.ga (.t 9)),⟨some 68,.call (.f 12) [(.t 66),(.t 67)],some (65,false)⟩,fD 69 65 (.un .not (.t 68)),ro 70 (.pick (.t 65) (.c (.bool true)) (.t 69)),aJ 71 70,fD 72 71 (.ga (.t 16)),fD 73 71 (.ga (.t 10)),fD 74 71 (.eP .neq 2 (.t 72) (.t 73)),ro 75 (.pick (.t 71) (.c (.bool true)) (.t 74))] [1,2,3,8,9,10,11,12,13,14,15,16,75] (.cond (.t 75) (aY [iC 6 false] [6] .ret) .skip)) (.seq (sd [cr 76 39 11,cr 77 27 3,gJ 78 7 77,hp 79 13 76 78,oA 80 79] [[],[],[1],[0,2,2],[3]] [1,2,3,8,9,10,11,12,13,14,15,16,80] (.cond (.t 80) (aY [iC 6 false] [6] .ret) .skip)) (.seq (aY [aJ 81 12,aJ 82 1,gJ 83 8 82,hp 84 11 81 83,oA 85 84] [1,2,3,8,9,10,11,12,13,14,15,16,85] (.cond (.t 85) (aY [iC 6 false] [6] .ret) .skip)) amP))
def amR:aA:=aY [cr 37 27 3,gJ 38 7 37,aJ 39 1,gJ 40 8 39,aJ 41 2,gJ 42 9 41,FQ 43 6 38 40 42,aJ 36 43,i6 44 36 0,i6 45 36 1,i6 46 36 2,b7 8 44,b7 9 45,b7 10 46] [1,2,3,8,9,10] (aY [cr 47 27 3,gJ 48 7 47,oz 11 39,j5 39 11 48] [1,2,3,8,9,10,11] (aY [aJ 49 1,gJ 50 8 49,b7 12 50] [1,2,3,8,9,10,11,12] (aY [aJ 51 2,gJ 52 9 51,b7 13 52] [1,2,3,8,9,10,11,12,13] (aY [cr 54 39 11,aJ 55 12,aJ 56 13,FQ 57 10 54 55 56,aJ 53 57,⟨some 58,.ext (.t 53) 0,none⟩,i6 59 53 1,i6 60 53 2,b7 14 58,b7 15 59,b7 16 60] [1,2,3,8,9,10,11,12,13,14,15,16] amQ))))
def amS:aA:=.seq (aY [aJ 23 2,j4 24 29 23,dC 25 .gtr 3 24 1048576] [1,2,3,25] (.cond (.t 25) (aY [iC 6 true] [6] .ret) .skip)) (aY [im 7 1048576] [1,2,3,7] (aY [cr 26 27 3,aJ 27 7,hp 28 4 26 27,b7 7 28] [1,2,3,7] (.seq (aY [aJ 29 7,dC 30 .lss 3 29 0] [1,2,3,7,30] (.cond (.t 30) (aY [iC 6 true] [6] .ret) .skip)) (aY [aJ 31 1,aJ 32 7,hp 33 5 31 32,b7 7 33] [1,2,3,7] (.seq (aY [aJ 34 7,dC 35 .lss 3 34 0] [1,2,3,35] (.cond (.t 35) (aY [iC 6 true] [6] .ret) .skip)) amR)))))
def c3:aA:=aY [ro 3 (.iy 27 (.t 0)),iC 6 false] [1,2,3] amS
def HD:=PLift.up (And.intro @Bool.not_true @Bool.not_false)
def ayC:=PLift.up (And.intro @length_append.{0} (And.intro @length_cons.{0} (And.intro @length_nil.{0} (And.intro @length_map.{0,0} (And.intro @length_replicate.{0} (And.intro @Nat.zero_add @Nat.add_zero))))))
end Go.Proofs.YtmaepbgkcmjcjahGreatDoor
