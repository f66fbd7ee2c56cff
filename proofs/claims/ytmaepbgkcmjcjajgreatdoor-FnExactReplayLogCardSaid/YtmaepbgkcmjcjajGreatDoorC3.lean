/- Part of a proof that a law returns true for every input. No condition. -/
import Derived.Test.YtmaepbgkcmjcjajGreatDoorTb
import Derived.Test.YtmaepbgkcmjcjajGreatDoorFwL
import Derived.Test.YtmaepbgkcmjcjajGreatDoorP3
namespace Go.Proofs.YtmaepbgkcmjcjajGreatDoor
open List Option Go.IntKind Nat Or
open Go Go.ep Go.ld
set_option linter.unusedSimpArgs false
def nm (x:jE):I:=.agg [.int .i64 x.Kind,.int .i64 x.Value]
theorem ajE (x:jE):(nm x).share=nm x:=by
 simp only[nm,cV]
theorem ayc (x:jE):(nm x).dc=true:=by
 simp only[nm,I.dc,I.gN,Bool.and_self]
def lM (x:azC):I:=.slice (x.map nm)
theorem Yf (x:azC):(lM x).share=lM x:=by
 simp only[lM,cV, @b4 _ nm nm (λ_=>ajE _)]
def kL (x:lE):I:=.agg [.int .i64 x.Kind,.int .i64 x.Number,.str x.Name,.slice (x.ck.map lM)]
theorem Yg (x:lE):(kL x).share=kL x:=by
 simp only[kL,cV, @b4 _ lM lM (λ_=>Yf _)]
def kb (x:lF):I:=.agg [.str x.Name,.int .i64 x.dV,.slice (x.Body.map kL)]
theorem Yh (x:lF):(kb x).share=kb x:=by
 simp only[kb,cV, @b4 _ kL kL (λ_=>Yg _)]
def bb (x:Int):I:=.int .i64 x
theorem ko (x:Int):(bb x).share=bb x:=by
 simp only[bb,cV]
theorem Lh (x:Int):(bb x).dc=true:=by
 simp only[bb,I.dc,I.gN,Bool.and_self]
def kc (x:lG):I:=.agg [.int .i64 x.cJ,.slice (x.b5.map bb)]
theorem Yi (x:lG):(kc x).share=kc x:=by
 simp only[kc,cV, @b4 _ bb bb (λ_=>ko _)]
def jT (x:lf):I:=.agg [.str x.Left,.str x.cH,.str x.Result]
theorem Yj (x:lf):(jT x).share=jT x:=by
 simp only[jT,cV]
theorem ayd (x:lf):(jT x).dc=true:=by
 simp only[jT,I.dc,I.gN,Bool.and_self]
def aV (x:azq):I:=.str x
theorem kM (x:azq):(aV x).share=aV x:=by
 simp only[aV,cV]
theorem Yk (x:azq):(aV x).dc=true:=by
 simp only[aV,I.dc,I.gN,Bool.and_self]
def n4 (x:oZ):I:=.agg [.slice (x.cI.map kb),.slice (x.b0.map kc),.slice (x.cb.map jT),.slice (x.cD.map aV),.slice (x.cA.map aV)]
theorem aye (x:oZ):(n4 x).share=n4 x:=by
 simp only[n4,cV, @b4 _ kb kb (λ_=>Yh _), @b4 _ kc kc (λ_=>Yi _), @b4 _ jT jT (λ_=>Yj _), @b4 _ aV aV (λ_=>kM _)]
def jH (x:lg):I:=.agg [.int .i64 x.Choice,.int .i64 x.ef,.int .i64 x.Second,.str x.Label]
theorem ayf (x:lg):(jH x).share=jH x:=by
 simp only[jH,cV]
theorem ayg (x:lg):(jH x).dc=true:=by
 simp only[jH,I.dc,I.gN,Bool.and_self]
def Rp (x:azE):I:=.slice (x.map kb)
theorem ayh (x:azE):(Rp x).share=Rp x:=by
 simp only[Rp,cV, @b4 _ kb kb (λ_=>Yh _)]
def Rq (x:azF):I:=.slice (x.map kc)
theorem ayi (x:azF):(Rq x).share=Rq x:=by
 simp only[Rq,cV, @b4 _ kc kc (λ_=>Yi _)]
def Rr (x:azG):I:=.slice (x.map jT)
theorem ayj (x:azG):(Rr x).share=Rr x:=by
 simp only[Rr,cV, @b4 _ jT jT (λ_=>Yj _)]
def G8 (x:azp):I:=.slice (x.map aV)
theorem ayk (x:azp):(G8 x).share=G8 x:=by
 simp only[G8,cV, @b4 _ aV aV (λ_=>kM _)]
def Rs (x:azD):I:=.slice (x.map kL)
theorem ayl (x:azD):(Rs x).share=Rs x:=by
 simp only[Rs,cV, @b4 _ kL kL (λ_=>Yg _)]
def Rt (x:azz):I:=.slice (x.map lM)
theorem aym (x:azz):(Rt x).share=Rt x:=by
 simp only[Rt,cV, @b4 _ lM lM (λ_=>Yf _)]
def G9 (x:azs):I:=.slice (x.map bb)
theorem ayn (x:azs):(G9 x).share=G9 x:=by
 simp only[G9,cV, @b4 _ bb bb (λ_=>ko _)]
def ea (x:bY):I:=.agg [.int .i64 x.Kind,.int .i64 x.Value]
theorem G_ (x:bY):(ea x).share=ea x:=by
 simp only[ea,cV]
theorem ajF (x:bY):(ea x).dc=true:=by
 simp only[ea,I.dc,I.gN,Bool.and_self]
def jf (x:azI):I:=.slice (x.map ea)
theorem Ru (x:azI):(jf x).share=jf x:=by
 simp only[jf,cV, @b4 _ ea ea (λ_=>G_ _)]
def eH (x:b_):I:=.agg [.int .i64 x.Kind,.int .i64 x.Number,.str x.Name,.slice (x.ck.map jf)]
theorem Rv (x:b_):(eH x).share=eH x:=by
 simp only[eH,cV, @b4 _ jf jf (λ_=>Ru _)]
def bk (x:a1):I:=.agg [.str x.Name,.int .i64 x.dV,.slice (x.Body.map eH)]
theorem tq (x:a1):(bk x).share=bk x:=by
 simp only[bk,cV, @b4 _ eH eH (λ_=>Rv _)]
def lN (x:azI):I:=.ag 2 (x.map ea)
theorem Rw (x:azI):(lN x).share=jf x:=by
 simp only[lN,jf,cV, @b4 _ ea ea (λ_=>G_ _)]
theorem Yl (x:azI):(lN x).dc=true:=by
 simp only[lN,I.dc,I.gN,Bool.and_self, @j5 _ ea (λ_=>ajF _)]
def jw (x:b_):I:=.agg [.int .i64 x.Kind,.int .i64 x.Number,.str x.Name,.ag 1 (x.ck.map lN)]
theorem Rx (x:b_):(jw x).share=eH x:=by
 simp only[jw,eH,cV, @b4 _ lN jf (λ_=>Rw _)]
theorem Ym (x:b_):(jw x).dc=true:=by
 simp only[jw,I.dc,I.gN,Bool.and_self, @j5 _ lN (λ_=>Yl _)]
def hC (x:a1):I:=.agg [.str x.Name,.int .i64 x.dV,.ag 4 (x.Body.map jw)]
theorem Ao (x:a1):(hC x).share=bk x:=by
 simp only[hC,bk,cV, @b4 _ jw eH (λ_=>Rx _)]
theorem Yn (x:a1):(hC x).dc=true:=by
 simp only[hC,I.dc,I.gN,Bool.and_self, @j5 _ jw (λ_=>Ym _)]
def Li (x:azJ):I:=.ag 4 (x.map jw)
def Ha (x:azJ):I:=.slice (x.map eH)
theorem ayo (x:azJ):(Ha x).share=Ha x:=by
 simp only[Ha,cV, @b4 _ eH eH (λ_=>Rv _)]
theorem ayp (x:azJ):(Li x).share=Ha x:=by
 simp only[Li,Ha,cV, @b4 _ jw eH (λ_=>Rx _)]
theorem ayq (x:azJ):(Li x).dc=true:=by
 simp only[Li,I.dc,I.gN,Bool.and_self, @j5 _ jw (λ_=>Ym _)]
def Lj (x:azA):I:=.ag 1 (x.map lN)
def Hb (x:azA):I:=.slice (x.map jf)
theorem ayr (x:azA):(Hb x).share=Hb x:=by
 simp only[Hb,cV, @b4 _ jf jf (λ_=>Ru _)]
theorem ays (x:azA):(Lj x).share=Hb x:=by
 simp only[Lj,Hb,cV, @b4 _ lN jf (λ_=>Rw _)]
theorem ayt (x:azA):(Lj x).dc=true:=by
 simp only[Lj,I.dc,I.gN,Bool.and_self, @j5 _ lN (λ_=>Yl _)]
def db (x:cQ):I:=.agg [.int .i64 x.cJ,.slice (x.b5.map bb)]
theorem Ap (x:cQ):(db x).share=db x:=by
 simp only[db,cV, @b4 _ bb bb (λ_=>ko _)]
def hT (x:cQ):I:=.agg [.int .i64 x.cJ,.ag 1 (x.b5.map bb)]
theorem Aq (x:cQ):(hT x).share=db x:=by
 simp only[hT,db,cV, @b4 _ bb bb (λ_=>ko _)]
theorem Yo (x:cQ):(hT x).dc=true:=by
 simp only[hT,I.dc,I.gN,Bool.and_self, @j5 _ bb (λ_=>Lh _)]
def Lk (x:azs):I:=.ag 1 (x.map bb)
theorem ayu (x:azs):(Lk x).share=G9 x:=by
 simp only[Lk,G9,cV, @b4 _ bb bb (λ_=>ko _)]
theorem ayv (x:azs):(Lk x).dc=true:=by
 simp only[Lk,I.dc,I.gN,Bool.and_self, @j5 _ bb (λ_=>Lh _)]
def bJ (x:bX):I:=.agg [.str x.Left,.str x.cH,.str x.Result]
theorem qi (x:bX):(bJ x).share=bJ x:=by
 simp only[bJ,cV]
theorem Yp (x:bX):(bJ x).dc=true:=by
 simp only[bJ,I.dc,I.gN,Bool.and_self]
def tr (x:cY):I:=.agg [.ag 3 (x.cI.map hC),.ag 2 (x.b0.map hT),.ag 3 (x.cb.map bJ),.ag 1 (x.cD.map aV),.ag 1 (x.cA.map aV)]
def fD (x:cY):I:=.agg [.slice (x.cI.map bk),.slice (x.b0.map db),.slice (x.cb.map bJ),.slice (x.cD.map aV),.slice (x.cA.map aV)]
theorem ayw (x:cY):(fD x).share=fD x:=by
 simp only[fD,cV, @b4 _ bk bk (λ_=>tq _), @b4 _ db db (λ_=>Ap _), @b4 _ bJ bJ (λ_=>qi _), @b4 _ aV aV (λ_=>kM _)]
theorem ajG (x:cY):(tr x).share=fD x:=by
 simp only[tr,fD,cV, @b4 _ hC bk (λ_=>Ao _), @b4 _ hT db (λ_=>Aq _), @b4 _ bJ bJ (λ_=>qi _), @b4 _ aV aV (λ_=>kM _)]
theorem ayx (x:cY):(tr x).dc=true:=by
 simp only[tr,I.dc,I.gN,Bool.and_self, @j5 _ hC (λ_=>Yn _), @j5 _ hT (λ_=>Yo _), @j5 _ bJ (λ_=>Yp _), @j5 _ aV (λ_=>Yk _)]
def Ll (x:azK):I:=.ag 3 (x.map hC)
def Hc (x:azK):I:=.slice (x.map bk)
theorem ayy (x:azK):(Hc x).share=Hc x:=by
 simp only[Hc,cV, @b4 _ bk bk (λ_=>tq _)]
theorem ayz (x:azK):(Ll x).share=Hc x:=by
 simp only[Ll,Hc,cV, @b4 _ hC bk (λ_=>Ao _)]
theorem ayA (x:azK):(Ll x).dc=true:=by
 simp only[Ll,I.dc,I.gN,Bool.and_self, @j5 _ hC (λ_=>Yn _)]
def Lm (x:azL):I:=.ag 2 (x.map hT)
def Hd (x:azL):I:=.slice (x.map db)
theorem ayB (x:azL):(Hd x).share=Hd x:=by
 simp only[Hd,cV, @b4 _ db db (λ_=>Ap _)]
theorem ayC (x:azL):(Lm x).share=Hd x:=by
 simp only[Lm,Hd,cV, @b4 _ hT db (λ_=>Aq _)]
theorem ayD (x:azL):(Lm x).dc=true:=by
 simp only[Lm,I.dc,I.gN,Bool.and_self, @j5 _ hT (λ_=>Yo _)]
def Ln (x:azM):I:=.ag 3 (x.map bJ)
def He (x:azM):I:=.slice (x.map bJ)
theorem ayE (x:azM):(He x).share=He x:=by
 simp only[He,cV, @b4 _ bJ bJ (λ_=>qi _)]
theorem ayF (x:azM):(Ln x).share=He x:=by
 simp only[Ln,He,cV, @b4 _ bJ bJ (λ_=>qi _)]
theorem ayG (x:azM):(Ln x).dc=true:=by
 simp only[Ln,I.dc,I.gN,Bool.and_self, @j5 _ bJ (λ_=>Yp _)]
def Lo (x:azp):I:=.ag 1 (x.map aV)
theorem ayH (x:azp):(Lo x).share=G8 x:=by
 simp only[Lo,G8,cV, @b4 _ aV aV (λ_=>kM _)]
theorem ayI (x:azp):(Lo x).dc=true:=by
 simp only[Lo,I.dc,I.gN,Bool.and_self, @j5 _ aV (λ_=>Yk _)]
def eY (x:dC):I:=.agg [.int .i64 x.Choice,.int .i64 x.ef,.int .i64 x.Second,.str x.Label]
theorem Hf (x:dC):(eY x).share=eY x:=by
 simp only[eY,cV]
theorem ayJ (x:dC):(eY x).dc=true:=by
 simp only[eY,I.dc,I.gN,Bool.and_self]
def bD (x:ba):I:=.agg [.int .i64 x.cJ,.int .i64 x.Part,.slice (x.b5.map bb)]
theorem wM (x:ba):(bD x).share=bD x:=by
 simp only[bD,cV, @b4 _ bb bb (λ_=>ko _)]
def dT (x:ba):I:=.agg [.int .i64 x.cJ,.int .i64 x.Part,.ag 1 (x.b5.map bb)]
theorem pI (x:ba):(dT x).share=bD x:=by
 simp only[dT,bD,cV, @b4 _ bb bb (λ_=>ko _)]
theorem wN (x:ba):(dT x).dc=true:=by
 simp only[dT,I.dc,I.gN,Bool.and_self, @j5 _ bb (λ_=>Lh _)]
def gD (x:br):I:=.agg [.str x.Label,.int .i64 x.ef,.int .i64 x.Second,.slice (x.State.map bD)]
theorem ajH (x:br):(gD x).share=gD x:=by
 simp only[gD,cV, @b4 _ bD bD (λ_=>wM _)]
def Hg (x:azO):I:=.slice (x.map bD)
theorem ayK (x:azO):(Hg x).share=Hg x:=by
 simp only[Hg,cV, @b4 _ bD bD (λ_=>wM _)]
def di (x:bl):I:=.agg [.str x.Label,bD x.Next]
theorem DF (x:bl):(di x).share=di x:=by
 simp only[di,cV,wM]
def gu (x:azQ):I:=.slice (x.map di)
theorem ayL (x:azQ):(gu x).share=gu x:=by
 simp only[gu,cV, @b4 _ di di (λ_=>DF _)]
def hZ (x:bl):I:=.agg [.str x.Label,dT x.Next]
theorem Hh (x:bl):(hZ x).share=di x:=by
 simp only[hZ,di,cV,pI]
theorem ajI (x:bl):(hZ x).dc=true:=by
 simp only[hZ,I.dc,I.gN,Bool.and_self,wN]
def Hi (x:azQ):I:=.ag 4 (x.map hZ)
theorem ayM (x:azQ):(Hi x).share=gu x:=by
 simp only[Hi,gu,cV, @b4 _ hZ di (λ_=>Hh _)]
theorem ayN (x:azQ):(Hi x).dc=true:=by
 simp only[Hi,I.dc,I.gN,Bool.and_self, @j5 _ hZ (λ_=>ajI _)]
def fE (x:dQ):I:=.agg [.int .i64 x.scope,.bool x.behind]
theorem Yq (x:dQ):(fE x).share=fE x:=by
 simp only[fE,cV]
theorem ajJ (x:dQ):(fE x).dc=true:=by
 simp only[fE,I.dc,I.gN,Bool.and_self]
def Hj (x:Bool):I:=.bool x
theorem ayO (x:Bool):(Hj x).share=Hj x:=by
 simp only[Hj,cV]
theorem ayP (x:Bool):(Hj x).dc=true:=by
 simp only[Hj,I.dc,I.gN,Bool.and_self]
theorem ajK:(∀a0 J,(dD.mk a0 J).term=a0)/\(∀a0 J,(dD.mk a0 J).args=J):=⟨λ_ _=>rfl,λ_ _=>rfl⟩
mutual
def qZ:dD->I
 | .mk a0 J=>.agg [ea a0,.slice (rX J)]
def rX:List dD->azy
 |[]=>[]
 |y::r=>.ref (qZ y)::rX r
end
def qj (x:dD):I:=.ref (qZ x)
theorem Yr:∀l,rX l=l.map qj
 |[]=>by simp only[rX,map_nil]
 |y::r=>by simp only[rX,map_cons,Yr r,qj]
theorem ajL (x:dD):qZ x= .agg [ea x.term,.slice (x.args.map qj)]:=by
 cases x;simp only[qZ,Yr,dD.term,dD.args]
mutual
theorem Ys:∀x:dD,(qZ x).share=qZ x
 | .mk a0 J=>by simp only[qZ,cV,I.share,I.shares,Yt J,G_]
theorem Yt:∀l:List dD,I.shares (rX l)=rX l
 |[]=>by simp only[rX,I.shares]
 |y::r=>by simp only[rX,I.shares,I.share,Ys y,Yt r]
end
theorem ajM (x:dD):(qj x).share=qj x:=by simp only[qj,I.share,Ys]
mutual
def yw:dD->I
 | .mk a0 J=>.agg [ea a0,.ag 1 (ts J)]
def ts:List dD->azy
 |[]=>[]
 |y::r=>.aM (yw y)::ts r
end
def l4 (x:dD):I:=.aM (yw x)
theorem Yu:∀l,ts l=l.map l4
 |[]=>by simp only[ts,map_nil]
 |y::r=>by simp only[ts,map_cons,Yu r,l4]
theorem ajN (x:dD):yw x= .agg [ea x.term,.ag 1 (x.args.map l4)]:=by
 cases x;simp only[yw,Yu,dD.term,dD.args]
mutual
theorem Yv:∀x:dD,(yw x).share=qZ x
 | .mk a0 J=>by simp only[yw,qZ,cV,I.share,I.shares,Yw J,G_]
theorem Yw:∀l:List dD,I.shares (ts l)=rX l
 |[]=>by simp only[ts,rX,I.shares]
 |y::r=>by simp only[ts,rX,I.shares,I.share,Yv y,Yw r]
end
theorem Yx (x:dD):(l4 x).share=qj x:=by simp only[l4,qj,I.share,Yv]
mutual
theorem Yy:∀x:dD,(yw x).dc=true
 | .mk a0 J=>by simp[yw,I.dc,I.gN,Yz J,ea]
theorem Yz:∀l:List dD,I.gN (ts l)=true
 |[]=>by simp only[ts,I.gN]
 |y::r=>by simp only[ts,I.gN,I.dc,Yy y,Yz r,Bool.and_self]
end
theorem ajO (x:dD):(l4 x).dc=true:=by simp only[l4,I.dc,Yy]
def Lp (x:List dD):I:=.ag 1 (x.map l4)
def Hk (x:List dD):I:=.slice (x.map qj)
theorem ayQ (x:List dD):(Hk x).share=Hk x:=by
 simp only[Hk,cV, @b4 _ qj qj (λ_=>ajM _)]
theorem ayR (x:List dD):(Lp x).share=Hk x:=by
 simp only[Lp,Hk,cV, @b4 _ l4 qj (λ_=>Yx _)]
theorem ayS (x:List dD):(Lp x).dc=true:=by
 simp only[Lp,I.dc,I.gN,Bool.and_self, @j5 _ l4 (λ_=>ajO _)]
def fI (x:br):I:=.agg [.str x.Label,.int .i64 x.ef,.int .i64 x.Second,.ag 3 (x.State.map dT)]
theorem YA (x:br):(fI x).share=gD x:=by
 simp only[fI,gD,cV, @b4 _ dT bD (λ_=>pI _)]
theorem ajP (x:br):(fI x).dc=true:=by
 simp only[fI,I.dc,I.gN,Bool.and_self, @j5 _ dT (λ_=>wN _)]
def Lq (x:azO):I:=.ag 3 (x.map dT)
theorem ayT (x:azO):(Lq x).share=Hg x:=by
 simp only[Lq,Hg,cV, @b4 _ dT bD (λ_=>pI _)]
theorem ayU (x:azO):(Lq x).dc=true:=by
 simp only[Lq,I.dc,I.gN,Bool.and_self, @j5 _ dT (λ_=>wN _)]
def Lr (x:Bool×br):I:=cond x.1 (.agg [.str x.2.Label,.int .i64 x.2.ef,.int .i64 x.2.Second,.hole]) (fI x.2)
theorem ayV:(Lr∘λx=>(false,x))=fI:=rfl
theorem ayW (x:br):Lr (true,x)= .agg [.str x.Label,.int .i64 x.ef,.int .i64 x.Second,.hole]:=rfl
theorem ayX {x:Bool×br} (h:acU (!x.1)=some ()):Lr x=fI x.2:=by
 obtain⟨b,x⟩:=x;cases b
 .rfl
 .cases h
theorem ayY (x:Bool×br):(Lr x).wd=4:=by
 obtain⟨b,x⟩:=x;cases b<;>rfl
noncomputable def c182:aA:=bO (bN 12 [0] Tryz.f182 [[0,1],[1],[1,10],[4],[4]])
noncomputable def c141:aA:=bO (bN 27 [0] Tryz.f141 [[0,1],[0,1],[0,1,11],[4],[0,1,5],[0,1,5,15],[0,1,5],[0,1,5,25],[4],[0,1,5],[4]])
noncomputable def ajQ:aA:=bO (bN 19 [0] Tryz.f102 [[1,2],[1,2],[1,2,11],[4],[1],[1,17],[4],[4]])
noncomputable def ajR:aA:=bO (bN 27 [0] Tryz.f68 [[0,1],[0,1],[0,1,11],[4],[0,1,5],[0,1,5,15],[0,1,5],[0,1,5,25],[4],[0,1,5],[4]])
noncomputable def c46:aA:=bO (bN 19 [0] Tryz.f46 [[1,2],[1,2],[1,2,11],[4],[1],[1,17],[4],[4]])
noncomputable def ajS:aA:=bO (bN 27 [0] Tryz.f17 [[0,1],[0,1],[0,1,11],[4],[0,1,5],[0,1,5,15],[0,1,5],[0,1,5,25],[4],[0,1,5],[4]])
noncomputable def ajT:aA:=bO (bN 12 [0] Tryz.f69 [[0,1],[1],[1,10],[4],[4]])
noncomputable def ajU:aA:=bO (bN 12 [0] Tryz.f47 [[1,2],[1],[1,10],[4],[4]])
noncomputable def ajV:aA:=bO (bN 27 [0] Tryz.f18 [[0,1],[0,1],[0,1,11],[4],[0,1,5],[0,1,5,15],[0,1,5],[0,1,5,25],[4],[0,1,5],[4]])
noncomputable def ajW:aA:=bO (bN 27 [0] Tryz.f48 [[1,2],[1,2],[1,2,11],[4],[1,2],[1,2,18],[4],[1],[1,25],[4],[4]])
noncomputable def ajX:aA:=bO (bN 27 [0] Tryz.f19 [[0,1],[0,1],[0,1,11],[4],[0,1,5],[0,1,5,15],[0,1,5],[0,1,5,25],[4],[0,1,5],[4]])
noncomputable def c20:aA:=bO (bN 28 [0] Tryz.f20 [[0,1],[0,1],[0,1,11],[4],[0,1,5],[0,1,5,15],[0,1,5],[0,1,5,26],[4],[0,1,5],[4]])
noncomputable def c4:aA:=bO (bN 36 [0] Tryz.f4 [[1,2],[1,2],[1,2,10],[4],[1,2],[1,2,16],[4],[1,2],[1,2,22],[4],[1,2],[1,2,28],[4],[1],[1,34],[4],[4]])
noncomputable def c21:aA:=bO (bN 13 [0] Tryz.f21 [[1,2],[1],[1,11],[4],[4]])
noncomputable def c5:aA:=bO (bN 27 [0] Tryz.f5 [[0,1],[0,1],[0,1,11],[4],[0,1,5],[0,1,5,15],[0,1,5],[0,1,5,25],[4],[0,1,5],[4]])
noncomputable def ajY:aA:=bO (bN 11 [0] Tryz.f219 [[1,2],[1,2,3],[1,2,3],[2,3],[2]])
noncomputable def ajZ:aA:=bO (bN 23 [0] Tryz.f189 [[0],[0,3],[0,3,4],[0,3,4,11],[0,3,4],[0,3,4],[2]])
noncomputable def c154:aA:=bO (bN 23 [0] Tryz.f154 [[0],[0,3],[0,3,4],[0,3,4,11],[0,3,4],[0,3,4],[2]])
noncomputable def aj0:aA:=bO (bN 18 [0] Tryz.f115 [[1,2],[1,2,3],[1,2,3],[1,2,3],[1,2,3],[2,3],[2]])
noncomputable def aj1:aA:=bO (bN 23 [0] Tryz.f84 [[0],[0,3],[0,3,4],[0,3,4,11],[0,3,4],[0,3,4],[2]])
noncomputable def c53:aA:=bO (bN 15 [0] Tryz.f53 [[1,2],[1,2,3],[1,2,3],[1,2,3],[2,3],[2]])
noncomputable def aj2:aA:=bO (bN 23 [0] Tryz.f25 [[0],[0,3],[0,3,4],[0,3,4,11],[0,3,4],[0,3,4],[2]])
noncomputable def c85:aA:=bO (bN 22 [0] Tryz.f85 [[0],[0,3],[0,3,4],[0,3,4,11],[0,3,4],[0,3,4],[2]])
noncomputable def aj3:aA:=bO (bN 12 [0] Tryz.f54 [[1,2],[1,2,3],[1,2,3],[2,3],[2]])
noncomputable def Ry:aA:=bO (bN 23 [0] Tryz.f26 [[0],[0,3],[0,3,4],[0,3,4,11],[0,3,4],[0,3,4],[2]])
noncomputable def Rz:aA:=bO (bN 14 [0] Tryz.f55 [[1,2],[1,2,3],[1,2,3],[1,2,3],[2,3],[2]])
noncomputable def aj4:aA:=bO (bN 23 [0] Tryz.f27 [[0],[0,3],[0,3,4],[0,3,4,11],[0,3,4],[0,3,4],[2]])
noncomputable def c28:aA:=bO (bN 22 [0] Tryz.f28 [[0],[0,3],[0,3,4],[0,3,4,11],[0,3,4],[0,3,4],[2]])
noncomputable def NN:aA:=bO (bN 25 [0] Tryz.f7 [[1,2],[1,2,3],[1,2,3],[1,2,3],[1,2,3],[1,2,3],[2,3],[2]])
noncomputable def aj5:aA:=bO (bN 17 [0] Tryz.f29 [[1,2],[1,2,3],[1,2,3],[1,2,3],[1,2,3],[2,3],[2]])
noncomputable def hd:aA:=bO (bN 23 [0] Tryz.f8 [[0],[0,3],[0,3,4],[0,3,4,11],[0,3,4],[0,3,4],[2]])
noncomputable def aj6:aA:=bO (bN 9 [0] Tryz.f142 [[0],[2]])
noncomputable def c143:aA:=bO (bN 9 [0] Tryz.f143 [[0],[2]])
noncomputable def aj7:aA:=bO (bN 35 [0] Tryz.f103 [[0],[0,16],[2],[0,3],[0,3,20],[0,3,34],[2],[0,3],[2]])
noncomputable def aj8:aA:=bO (bN 15 [0,1,2] Tryz.f74 [[0,1,2],[6]])
noncomputable def c183:aA:=bO (bN 13 [0] Tryz.f183 [[0],[6],[6,7],[6,7],[6,7],[2],[11],[2],[2]])
noncomputable def aj9:aA:=bO (bN 30 [0] Tryz.f144 [[0],[0,12],[2],[0,3],[0,3,4],[0,3,4,16],[0,3,4,20],[2],[0,3,4],[0,3,4],[2]])
noncomputable def aj_:aA:=bO (bN 73 [0] Tryz.f184 [[0],[0,6],[0,6,7],[0,6,7],[2],[0,6,30],[2],[0,6,37],[2],[0,6,51],[2],[0,66],[2],[2]])
noncomputable def aka:aA:=bO (bN 18 [0] Tryz.f150 [[0,1],[0,1,5],[0,1,5,7],[0,1,5],[0,1,5],[4]])
noncomputable def akb:aA:=bO (bN 38 [0,1] Tryz.f185 [[0,1],[0,1,5],[0,1,5,6],[0,1,5,6,13],[0,1,5,6,34],[0,1,5,6],[0,1,5,6],[4]])
noncomputable def akc:aA:=bO (bN 39 [0,1] Tryz.f214 [[0,1],[0,1,8],[0,1,8,9],[4],[0,1,8,16],[4],[0,8,25],[4],[0,32],[4],[4]])
noncomputable def akd:aA:=bO (bN 11 [0] Tryz.f215 [[0],[6],[6,7],[2],[9],[2],[2]])
noncomputable def ake:aA:=bO (bN 38 [0,1,2] Tryz.f186 [[0,1,2],[0,1,12],[6],[0,1,7],[0,1,7,8],[0,1,7,8,16],[0,1,7,8,28],[6],[0,1,7,8],[0,1,7,8],[6]])
def a6 (r:List cC) (k:azt) (c:aA):aA:=.seq (.eD r (some k)) c
def rY (r:List cC) (a:azr) (k:azt) (c:aA):aA:=.seq (.j3 r a (some k)) c
abbrev fh (d t:Nat) (o:e6):cC:=⟨some d,o,some (t,true)⟩
abbrev gv (d t:Nat) (o:e6):cC:=⟨some d,o,some (t,false)⟩
abbrev ayZ (n:Nat) (k:azt) (f:Func) (c:aA):Prop:=gg ⟨n,k⟩ (f.body.getD .skip)=some c.strip
def YB:aA:=.cond (.t 28) (a6 [iB 6 3] [6] .ret) .skip
def YC:aA:=.cond (.t 51) (a6 [iB 6 4] [6] .ret) .skip
def akf:aA:=.cond (.t 57) (a6 [aL 59 8,dG 60 .gtr 2 59 2,aL 61 60,gv 62 61 (.gY (.t 8)),gv 63 61 (.eS .gtr 2 (.t 62) (.c (.int .i64 0))),gv 64 61 (.gY (.t 63)),fh 65 64 (.h9 159 (.t 7) 2),fh 66 64 (.fX 9 (.t 65)),⟨some 67,.eS .eql 9 (.t 66) (.c (.str [116,97,117])),some (64,true)⟩,gv 68 61 (.pick (.t 64) (.t 67) (.c (.bool false))),ro 69 (.pick (.t 61) (.c (.bool true)) (.t 68))] [1,2,7,8,69] (.cond (.t 69) (a6 [iB 6 5] [6] .ret) .skip)) (a6 [dG 71 .eql 2 56 3,cc 70 71] [0,1,2,7,8,56,70] (.cond (.t 70) (a6 [aL 72 8,dG 73 .neq 2 72 1] [1,2,7,8,73] (.cond (.t 73) (a6 [iB 6 5] [6] .ret) .skip)) (a6 [dG 75 .eql 2 56 5,cc 74 75] [0,1,2,7,8,74] (.cond (.t 74) (a6 [aL 76 8,aL 77 0,dS 78 159 7 1,cp 79 2 78,hz 80 34 77 79,dS 81 103 80 1,cp 82 2 81,jd 83 .neq 2 76 82] [1,2,7,8,83] (.cond (.t 83) (a6 [iB 6 5] [6] .ret) .skip)) .skip))))
def YD:aA:=.cond (.t 102) (a6 [iB 6 6] [6] .ret) .skip
def YE:aA:=.seq (a6 [aL 113 10,aL 114 8,jd 115 .lss 2 113 114] [7,8,9,10,115] (.cond (.t 115) .skip (.exit 1))) (.seq (.block 2 (a6 [dS 118 159 7 3,cp 119 157 118,aL 120 10,hz 121 157 119 120,cp 122 200 121,aL 123 9,ro 124 (.call (.f 186) [(.t 122),(.t 123),(.c (.int .i64 15))]),oY 125 124] [7,8,9,10,125] (.cond (.t 125) (a6 [iB 6 8] [6] .ret) .skip))) (.eD [aL 116 10,dG 117 .add 2 116 1,cc 10 117] (some [7,8,9,10])))
def YF:aA:=.seq (a6 [dS 84 159 7 0,cp 85 2 84,dG 86 .eql 2 85 5,aL 87 86,fh 88 87 (.gY (.t 2)),fh 89 87 (.eS .eql 2 (.t 88) (.c (.int .i64 0))),fh 90 87 (.gY (.t 89)),gv 91 90 (.gY (.t 1)),gv 92 90 (.mD (.t 91)),gv 93 90 (.h9 103 (.t 92) 2),gv 94 90 (.fX 101 (.t 93)),gv 95 90 (.gY (.t 2)),gv 96 90 (.eS .sub 2 (.t 95) (.c (.int .i64 1))),gv 97 90 (.kS 101 (.t 94) (.t 96)),gv 98 90 (.h9 159 (.t 97) 0),gv 99 90 (.fX 2 (.t 98)),gv 100 90 (.eS .neq 2 (.t 99) (.c (.int .i64 1))),fh 101 87 (.pick (.t 90) (.c (.bool true)) (.t 100)),ro 102 (.pick (.t 87) (.t 101) (.c (.bool false)))] [1,2,7,8,102] YD) (a6 [aL 103 1,aL 104 2,hS 105 185 103 104,cc 9 105] [7,8,9] (.seq (a6 [dS 106 159 7 0,cp 107 2 106,dG 108 .eql 2 107 4,aL 109 108,fh 110 109 (.gY (.t 9)),fh 111 109 (.eS .geq 2 (.t 110) (.c (.int .i64 6))),ro 112 (.pick (.t 109) (.t 111) (.c (.bool false)))] [7,8,9,112] (.cond (.t 112) (a6 [iB 6 7] [6] .ret) .skip)) (.seq (a6 [iB 10 0] [7,8,9,10] (.block 1 (.loop YE))) (a6 [iB 6 0] [6] .ret))))
def akg:aA:=.seq (a6 [dS 29 159 7 0,cp 30 2 29,dG 31 .eql 2 30 4,aL 32 31,fh 33 32 (.h9 159 (.t 7) 1),fh 34 32 (.fX 2 (.t 33)),⟨some 35,.call (.f 74) [(.t 34),(.c (.int .i64 1)),(.c (.int .i64 7))],some (32,true)⟩,fh 36 32 (.un .not (.t 35)),ro 37 (.pick (.t 32) (.t 36) (.c (.bool false))),aL 38 37,gv 39 38 (.h9 159 (.t 7) 0),gv 40 38 (.fX 2 (.t 39)),gv 41 38 (.eS .eql 2 (.t 40) (.c (.int .i64 5))),gv 42 38 (.gY (.t 41)),fh 43 42 (.h9 159 (.t 7) 1),fh 44 42 (.fX 2 (.t 43)),fh 45 42 (.gY (.t 0)),fh 46 42 (.len 34 (.t 45)),fh 47 42 (.eS .sub 2 (.t 46) (.c (.int .i64 1))),⟨some 48,.call (.f 74) [(.t 44),(.c (.int .i64 0)),(.t 47)],some (42,true)⟩,fh 49 42 (.un .not (.t 48)),gv 50 38 (.pick (.t 42) (.t 49) (.c (.bool false))),ro 51 (.pick (.t 38) (.c (.bool true)) (.t 50))] [0,1,2,7,51] YC) (a6 [dS 52 159 7 3,cp 53 157 52,km 54 157 53,cc 8 54] [0,1,2,7,8] (.seq (a6 [dS 55 159 7 0,cp 56 2 55] [0,1,2,7,8,56] (.block 0 (a6 [dG 58 .eql 2 56 1,cc 57 58] [0,1,2,7,8,56,57] akf))) YF))
def akh:aA:=a6 [aL 11 1,nK 12 11,dS 13 103 12 2,cp 14 101 13,aL 15 2,hz 16 101 14 15,cp 17 159 16,oy 7 159,j8 159 7 17] [0,1,2,7] (.seq (a6 [hA 18 184 7,oY 19 18] [0,1,2,7,19] (.cond (.t 19) (a6 [iB 6 2] [6] .ret) .skip)) (.seq (a6 [dS 20 159 7 0,cp 21 2 20,dG 22 .eql 2 21 1,aL 23 22,fh 24 23 (.h9 159 (.t 7) 2),fh 25 23 (.fX 9 (.t 24)),⟨some 26,.call (.f 103) [(.t 25)],some (23,true)⟩,fh 27 23 (.un .not (.t 26)),ro 28 (.pick (.t 23) (.t 27) (.c (.bool false)))] [0,1,2,7,28] YB) akg))
def c145:aA:=a6 [iB 6 0] [0,1,2] akh
noncomputable def aki:aA:=bO (bN 31 [0,1] Tryz.f104 [[0,1],[0,1,13],[4,5],[0,1,6],[0,1,6,20],[0,1,6,7],[0,1,6,7,28],[4,5],[0,1,6],[4,5]])
noncomputable def c70:aA:=bO (bN 70 [0] Tryz.f70 [[0],[0,15],[2],[0,3],[0,3,19],[0,3,37],[2],[0,3,4],[0,3,4,40],[0,3,4,53],[2],[0,3,4],[0,3],[0,5],[0,5,57],[0,5,7],[0,5,69],[2],[0,5],[2]])
noncomputable def c105:aA:=bO (bN 16 [0] Tryz.f105 [[0],[0,3],[0,3,7],[0,3,15],[2],[0,3],[2]])
noncomputable def akj:aA:=bO (bN 64 [0] Tryz.f71 [[0],[0,18],[2],[0,3],[0,3,25],[0,3,4],[0,3,4,44],[2],[0,3,63],[2],[0,3],[2]])
def akk:aA:=a6 [jD 2 false] [0] (a6 [aL 3 0,hA 4 103 3,aL 5 4,fh 6 5 (.gY (.t 0)),⟨some 7,.eS .neq 9 (.t 6) (.c (.str [116,97,117])),some (5,true)⟩,ro 8 (.pick (.t 5) (.t 7) (.c (.bool false))),cc 2 8] [2] .ret)
noncomputable def c72:aA:=bO (bN 101 [0] Tryz.f72 [[0],[0,8],[2],[0,3],[0,3,12],[0,3,4],[0,3,4,41],[2],[0,3,4,76],[2],[0,3,4,5],[0,3,4,5,80],[0,3,4,5,100],[2],[0,3,4,5],[0,3],[2]])
noncomputable def c107:aA:=bO (bN 16 [0] Tryz.f107 [[0],[0,3],[0,3,7],[0,3,15],[2],[0,3],[2]])
noncomputable def akl:aA:=bO (bN 28 [0] Tryz.f73 [[0],[0,11],[2],[0,3],[0,3,15],[0,3,27],[2],[0,3],[2]])
noncomputable def c49:aA:=bO (bN 30 [0] Tryz.f49 [[0],[0,8],[2],[0,11],[2],[0,17],[2],[0,23],[2],[29],[2],[2]])
noncomputable def RA:aA:=bO (bN 6 [0] Tryz.f22 [[0],[2]])
noncomputable def akm:aA:=bO (bN 17 [0] Tryz.f110 [[0],[0,3],[0,3,7],[0,3,13],[2],[0,3],[2]])
noncomputable def c146:aA:=bO (bN 35 [0,1] Tryz.f146 [[0,1],[0,1,5],[0,1,5,6],[0,1,5,6,7],[0,1,5,6,7,12],[0,1,5,6,7,19],[0,1,5,7],[0,1,5,6,7],[0,1,5,6,7],[4]])
noncomputable def akn:aA:=bO (bN 62 [0] Tryz.f147 [[0],[0,4],[0,4,14],[0,4],[0,4,36],[2,3],[0,4,5],[0,4,5,6],[0,4,5,6,41],[0,4,5,6,48],[2,3],[0,4,5,6],[0,4,5,6],[5,58],[5],[2,3]])
noncomputable def ako:aA:=bO (bN 70 [0] Tryz.f108 [[0],[0,4],[0,4,15],[2,3],[0,4,31],[2,3],[5],[5,6],[5,6,7],[5,6,7,44],[5,6,7,8,9],[5,6,7,8,61],[2,3],[5,6,7],[5,6,7],[2,3]])
noncomputable def c75:aA:=bO (bN 11 [0] Tryz.f75 [[0],[4],[2]])
noncomputable def akp:aA:=bO (bN 29 [0] Tryz.f50 [[0],[2]])
noncomputable def akq:aA:=bO (bN 18 [0] Tryz.f23 [[0],[0,6],[2],[0,3],[0,3,10],[0,3,17],[2],[0,3],[2]])
noncomputable def c76:aA:=bO (bN 6 [0] Tryz.f76 [[0],[2]])
noncomputable def c51:aA:=bO (bN 33 [0] Tryz.f51 [[0],[0,3],[0,3,4],[0,3,4,13],[0,3,4,5],[0,3,4],[0,3,4],[2]])
noncomputable def akr:aA:=bO (bN 4 [0] Tryz.f216 [[0],[3],[2],[2]])
noncomputable def aks:aA:=bO (bN 18 [0] Tryz.f217 [[0,1],[0,1,5],[0,1,5,7],[0,1,5],[0,1,5],[4]])
noncomputable def c218:aA:=bO (bN 67 [0,1,2] Tryz.f218 [[0,1,2],[1,2,7],[1,2,7,8],[6],[1,2,7,14],[6],[1,2,7,21],[6],[1,2,7,27],[6],[1,2,7,33],[6],[1,2,7,39],[6],[1,2,7,45],[6],[1,2,51],[6],[6]])
noncomputable def akt:aA:=bO (bN 60 [0,1,2] Tryz.f187 [[0,1,2],[0,1,2,13],[0,1,2,13,14],[6],[0,1,2,13,21],[6],[0,1,2,31],[6],[0,1,2,7],[0,2,7,8],[6]])
noncomputable def aku:aA:=bO (bN 8 [0,1] Tryz.f151 [[0,1],[4]])
noncomputable def c148:aA:=bO (bN 24 [0,1] Tryz.f148 [[0,1],[0,1,5],[0,1,5,6],[0,1,5,6,11],[0,1,5,6],[0,1,5,6],[4]])
def YG:aA:=.eD [aL 22 3,aL 23 5,ro 24 (.eS .add 2 (.c (.int .i64 48)) (.t 23)),Jv 25 2 5 24,uE 26 121 25,yd 27 121 121 22 26,cc 3 27] (some [0,3,4])
def YH:aA:=.seq (a6 [aL 12 4,dG 13 .neq 2 12 0] [0,3,4,13] (.cond (.t 13) .skip (.exit 0))) (.seq (.block 1 (a6 [aL 16 4,dG 17 .rem 2 16 10,cc 5 17] [0,3,4,5] (.seq (a6 [aL 18 5,dG 19 .lss 2 18 0] [0,3,4,5,19] (.cond (.t 19) (.eD [aL 20 5,ro 21 (.un .neg (.t 20)),cc 5 21] (some [0,3,4,5])) .skip)) YG))) (.eD [aL 14 4,dG 15 .quo 2 14 10,cc 4 15] (some [0,3,4])))
def YI:aA:=.seq (a6 [aL 37 7,dG 38 .geq 3 37 0] [3,6,7,38] (.cond (.t 38) .skip (.exit 2))) (.seq (.block 3 (.eD [aL 41 6,aL 42 3,aL 43 7,hz 44 121 42 43,cp 45 5 44,uE 46 121 45,yd 47 121 121 41 46,cc 6 47] (some [3,6,7]))) (.eD [aL 39 7,dG 40 .sub 3 39 1,cc 7 40] (some [3,6,7])))
def YJ:aA:=a6 [ro 33 (.eh 121 0 []),cc 6 33] [3,6] (.seq (a6 [aL 34 3,km 35 121 34,dG 36 .sub 3 35 1,cc 7 36] [3,6,7] (.block 2 (.loop YI))) (a6 [aL 48 6,Jv 49 121 9 48,cc 2 49] [2] .ret))
def akv:aA:=a6 [ro 2 (.h5 (.c (.str [])))] [0] (.seq (a6 [aL 8 0,dG 9 .eql 2 8 0] [0,9] (.cond (.t 9) (a6 [ro 2 (.h5 (.c (.str [48])))] [2] .ret) .skip)) (a6 [ro 10 (.eh 121 0 []),cc 3 10] [0,3] (.seq (a6 [aL 11 0,cc 4 11] [0,3,4] (.block 0 (.loop YH))) (.seq (a6 [aL 28 0,dG 29 .lss 2 28 0] [3,29] (.cond (.t 29) (.eD [aL 30 3,ro 31 (.eh 121 1 [(0,(.c (.int .u8 45)))]),yd 32 121 121 30 31,cc 3 32] (some [3])) .skip)) YJ))))
def YK:aA:=.eD [aL 18 3,aL 19 0,aL 20 4,hz 21 69 19 20,cp 22 2 21,hA 23 188 22,jd 24 .add 9 18 23,cc 3 24] (some [0,3,4])
def YL:aA:=.seq (a6 [aL 8 4,aL 9 0,km 10 69 9,jd 11 .lss 3 8 10] [0,3,4,11] (.cond (.t 11) .skip (.exit 0))) (.seq (.block 1 (.seq (a6 [aL 14 4,dG 15 .gtr 3 14 0] [0,3,4,15] (.cond (.t 15) (.eD [aL 16 3,ro 17 (.eS .add 9 (.t 16) (.c (.str [44]))),cc 3 17] (some [0,3,4])) .skip)) YK)) (.eD [aL 12 4,dG 13 .add 3 12 1,cc 4 13] (some [0,3,4])))
def akw:aA:=a6 [ro 2 (.h5 (.c (.str [])))] [0] (.seq (a6 [aL 5 0,km 6 69 5,dG 7 .eql 3 6 0] [0,7] (.cond (.t 7) (a6 [ro 2 (.h5 (.c (.str [45])))] [2] .ret) .skip)) (a6 [ro 3 (.h5 (.c (.str [])))] [0,3] (.seq (a6 [iB 4 0] [0,3,4] (.block 0 (.loop YL))) (a6 [aL 25 3,cc 2 25] [2] .ret))))
def akx:aA:=a6 [ro 4 (.h5 (.c (.str [])))] [0,1] (.seq (a6 [aL 5 1,km 6 69 5,dG 7 .eql 3 6 0] [0,1,7] (.cond (.t 7) (a6 [aL 8 0,cc 4 8] [4] .ret) .skip)) (a6 [aL 9 0,ro 10 (.eS .add 9 (.t 9) (.c (.str [40]))),aL 11 1,hA 12 153 11,jd 13 .add 9 10 12,ro 14 (.eS .add 9 (.t 13) (.c (.str [41]))),cc 4 14] [4] .ret))
noncomputable def aky:aA:=bO (bN 26 [0,1] Tryz.f112 [[0,1],[0,1,10],[4],[0,1,5],[0,1,5,14],[0,1,5,25],[4],[0,1,5],[4]])
noncomputable def c152:aA:=bO (bN 36 [0,1] Tryz.f152 [[0,1],[4]])
noncomputable def akz:aA:=bO (bN 33 [0,1] Tryz.f149 [[0,3],[0,3,5],[0,3,5,9],[0,3,5,27],[4],[0,3,5],[4]])
def YM:aA:=rY [aL 60 4,dS 61 159 12 2,cp 62 9 61,dS 63 159 12 3,cp 64 157 63,aL 65 3,hS 66 148 64 65,hS 67 114 62 66,cp 68 71 13,⟨some 69,.shr (.gH 135 [(0,(.t 67)),(1,(.t 68))]),none⟩,hS 70 149 60 69,cc 10 70] [[],[],[1],[],[3],[],[4,5],[2,6,6],[],[7,8],[0,9,7],[10,10,0,1,2,3,4,5,6,7,8,9,10]] [10] .ret
def akA:aA:=.seq (a6 [aL 38 11,aL 39 2,dG 40 .add 2 39 1,hz 41 101 38 40,dS 42 159 41 0,cp 43 2 42,dG 44 .eql 2 43 5] [2,3,4,11,12,13,44] (.cond (.t 44) (.j3 [aL 45 11,aL 46 2,dG 47 .add 2 46 1,hz 48 101 45 47,dS 49 159 48 1,cp 50 2 49,aL 51 11,aL 52 2,dG 53 .add 2 52 1,hz 54 101 51 53,dS 55 159 54 3,cp 56 157 55,aL 57 3,hS 58 148 56 57,ro 59 (.gH 71 [(0,(.t 50)),(2,(.t 58))]),j8 71 13 59] [[],[],[1],[0,2],[3],[4],[],[],[7],[6,8],[9],[10],[],[11,12],[5,13],[14,13,0,1,2,3,4,5,6,7,8,9,10,11,12,13,14]] (some [3,4,12,13])) .skip)) YM
def YN:aA:=.seq (a6 [aL 107 14,dS 108 159 12 1,cp 109 2 108,jd 110 .leq 2 107 109] [0,1,2,3,4,12,14,110] (.cond (.t 110) .skip (.exit 1))) (.seq (.block 2 (.eD [aL 113 0,aL 114 1,aL 115 2,dG 116 .add 2 115 1,aL 117 3,hA 118 76 117,aL 119 14,uE 120 69 119,⟨some 121,.shr (.app 69 69 (.t 118) (.t 120)),none⟩,aL 122 4,ro 123 (.call (.f 109) [(.t 113),(.t 114),(.t 116),(.t 121),(.t 122)]),cc 4 123] (some [0,1,2,3,4,12,14]))) (.eD [aL 111 14,dG 112 .add 2 111 1,cc 14 112] (some [0,1,2,3,4,12,14])))
def akB:aA:=a6 [dG 90 .eql 2 29 3,cc 89 90] [0,1,2,3,4,12,29,89] (.cond (.t 89) (a6 [dS 91 159 12 3,cp 92 157 91,ro 93 (.kS 157 (.t 92) (.c (.int .i64 0))),cp 94 200 93,aL 95 3,hS 96 151 94 95,dG 97 .neq 2 96 0] [0,1,2,3,4,97] (.cond (.t 97) (a6 [aL 98 0,aL 99 1,aL 100 2,dG 101 .add 2 100 1,aL 102 3,aL 103 4,ro 104 (.call (.f 109) [(.t 98),(.t 99),(.t 101),(.t 102),(.t 103)]),cc 10 104] [10] .ret) .skip)) (a6 [dG 106 .eql 2 29 4,cc 105 106] [0,1,2,3,4,12,105] (.cond (.t 105) (a6 [iB 14 0] [0,1,2,3,4,12,14] (.block 1 (.loop YN))) .skip)))
def akC:aA:=.cond (.t 30) (a6 [aL 32 1,aL 33 2,dG 34 .add 2 33 1,aL 35 3,hA 36 76 35,ro 37 (.gH 71 [(0,(.t 32)),(1,(.t 34)),(2,(.t 36))]),oy 13 71,j8 71 13 37] [2,3,4,11,12,13] akA) (a6 [dG 72 .eql 2 29 2,cc 71 72] [0,1,2,3,4,11,12,29,71] (.cond (.t 71) (a6 [aL 73 0,aL 74 1,aL 75 2,dG 76 .add 2 75 1,aL 77 3,aL 78 4,ro 79 (.call (.f 109) [(.t 73),(.t 74),(.t 76),(.t 77),(.t 78)]),cc 4 79] [0,1,2,3,4,11] (a6 [aL 80 0,aL 81 1,aL 82 11,aL 83 2,dG 84 .add 2 83 1,hS 85 150 82 84,aL 86 3,aL 87 4,ro 88 (.call (.f 109) [(.t 80),(.t 81),(.t 85),(.t 86),(.t 87)]),cc 10 88] [10] .ret)) akB))
def YO:aA:=a6 [aL 124 4,cc 10 124] [10] .ret
def akD:aA:=a6 [aL 15 0,aL 16 1,hz 17 34 15 16,dS 18 103 17 2,cp 19 101 18,cc 11 19] [0,1,2,3,4,11] (a6 [aL 20 11,aL 21 2,hz 22 101 20 21,cp 23 159 22,oy 12 159,j8 159 12 23] [0,1,2,3,4,11,12] (.seq (a6 [aL 24 4,km 25 130 24,dG 26 .gtr 3 25 200] [0,1,2,3,4,11,12,26] (.cond (.t 26) (a6 [aL 27 4,cc 10 27] [10] .ret) .skip)) (.seq (a6 [dS 28 159 12 0,cp 29 2 28] [0,1,2,3,4,11,12,29] (.block 0 (a6 [dG 31 .eql 2 29 1,cc 30 31] [0,1,2,3,4,11,12,29,30] akC))) YO)))
def c109:aA:=a6 [p9 10] [0,1,2,3,4] akD
noncomputable def akE:aA:=bO (bN 26 [0,1] Tryz.f77 [[0,1],[6],[4,5]])
noncomputable def akF:aA:=bO (bN 7 [0] Tryz.f79 [[0],[2]])
noncomputable def akG:aA:=bO (bN 19 [0,1] Tryz.f78 [[0,1],[0,1,5],[0,1,5,9],[0,1,5,17],[4],[0,1,5],[4]])
noncomputable def c80:aA:=bO (bN 33 [0] Tryz.f80 [[0],[0,3],[0,3,4],[0,3,4,9],[0,3,4],[0,3,4],[2]])
def akH:aA:=a6 [ro 4 (.h5 (.c (.str [])))] [0,1] (.seq (rY [aL 5 0,nK 6 5,dS 7 38 6 4,cp 8 25 7,aL 9 1,hA 10 79 9,hS 11 78 8 10,dG 12 .geq 2 11 0] [[],[0],[1],[2],[],[4],[3,5,5],[6]] [1,12] (.cond (.t 12) (a6 [ro 4 (.h5 (.c (.str [116,97,117])))] [4] .ret) .skip)) (a6 [aL 13 1,cc 4 13] [4] .ret))
noncomputable def akI:aA:=bO (bN 25 [0,1] Tryz.f111 [[0,1],[0,1,10],[4],[0,1,5],[0,1,5,14],[0,1,5,24],[4],[0,1,5],[4]])
noncomputable def akJ:aA:=bO (bN 48 [0,1] Tryz.f81 [[0,3],[0,3,5],[0,3,5,10],[0,3,5,6],[0,3,5,42],[4],[0,3,5],[4]])
noncomputable def akK:aA:=bO (bN 42 [0,1,2] Tryz.f113 [[0,1,2],[0,1,2,10],[6],[0,1,2,7],[0,1,2,7,18],[0,1,2,7,36],[6],[0,1,2,7],[6]])
noncomputable def akL:aA:=bO (bN 49 [0,1,2] Tryz.f83 [[0,1,2],[0,1,2,7],[0,1,2,7,9],[0,1,2,7,25],[6],[0,7,11],[7,11,45],[6],[6]])
def akM:aA:=.seq (.block 1 (rY [aL 30 0,nK 31 30,dS 32 38 31 0,cp 33 34 32,aL 34 1,aL 35 8,hz 36 31 34 35,hS 37 77 33 36,⟨some 29,.pv (.t 37),none⟩,jt 38 29 0,jt 39 29 1,cc 9 38,cc 10 39] [[],[0],[1],[2],[],[],[4,5],[3,6],[7],[8],[8],[9,7,0,1,2,3,4,5,6,7,8,9],[10,11,0,1,2,3,4,5,6,7,8,9,10,11]] [0,1,6,7,8,9,10] (.seq (a6 [aL 40 10,oY 41 40] [0,1,6,7,8,9,41] (.cond (.t 41) (a6 [p9 4,jD 5 false] [0,4,5] .ret) .skip)) (.eD [aL 42 7,aL 43 9,uE 44 129 43,yd 45 129 129 42 44,cc 7 45] (some [0,1,6,7,8]))))) (.eD [aL 27 8,dG 28 .add 3 27 1,cc 8 28] (some [0,1,6,7,8]))
def YP:aA:=.seq (a6 [aL 23 8,aL 24 1,km 25 31 24,jd 26 .lss 3 23 25] [0,1,6,7,8,26] (.cond (.t 26) .skip (.exit 0))) akM
def akN:aA:=.seq (rY [dS 68 135 13 0,cp 69 9 68,ro 70 (.eS .neq 9 (.t 69) (.c (.str [116,97,117]))),aL 71 70,fh 72 71 (.gY (.t 0)),fh 73 71 (.mD (.t 72)),fh 74 71 (.h9 38 (.t 73) 3),fh 75 71 (.fX 25 (.t 74)),fh 76 71 (.h9 135 (.t 13) 0),fh 77 71 (.fX 9 (.t 76)),⟨some 78,.call (.f 79) [(.t 77)],some (71,true)⟩,⟨some 79,.call (.f 78) [(.t 75),(.t 78)],some (71,true)⟩,fh 80 71 (.eS .lss 2 (.t 79) (.c (.int .i64 0))),ro 81 (.pick (.t 71) (.t 80) (.c (.bool false)))] [[],[0],[1],[2],[3],[4,3],[5,3],[6,3],[3],[8,3],[9,3,3],[7,10,10,3],[11,3],[3,12]] [0,1,6,7,11,12,13,81] (.cond (.t 81) (.exit 5) .skip)) (a6 [aL 82 1,hA 83 80 82,cc 14 83] [0,1,6,7,11,12,13,14] (a6 [aL 84 14,aL 85 11,dS 86 135 13 1,cp 87 71 86,hz 88 31 84 85,j8 71 88 87] [0,1,6,7,11,12,13,14] (.eD [aL 89 6,aL 90 0,dS 91 135 13 0,cp 92 9 91,hS 93 82 90 92,aL 94 11,aL 95 14,hA 96 80 95,⟨some 97,.shr (.gH 100 [(0,(.t 93)),(1,(.t 94)),(2,(.c (.int .i64 (-1)))),(3,(.t 96))]),none⟩,hS 98 81 89 97,cc 6 98] (some [0,1,6,7,11,12]))))
def YQ:aA:=.eD [aL 59 12,dG 60 .add 3 59 1,cc 12 60] (some [0,1,6,7,11,12])
def YR:aA:=.seq (a6 [aL 52 12,aL 53 7,aL 54 11,hz 55 129 53 54,cp 56 130 55,km 57 130 56,jd 58 .lss 3 52 57] [0,1,6,7,11,12,58] (.cond (.t 58) .skip (.exit 4))) (.seq (.block 5 (a6 [aL 61 7,aL 62 11,hz 63 129 61 62,cp 64 130 63,aL 65 12,hz 66 130 64 65,cp 67 135 66,oy 13 135,j8 135 13 67] [0,1,6,7,11,12,13] akN)) YQ)
def YS:aA:=.seq (a6 [aL 46 11,aL 47 1,km 48 31 47,jd 49 .lss 3 46 48] [0,1,6,7,11,49] (.cond (.t 49) .skip (.exit 2))) (.seq (.block 3 (a6 [iB 12 0] [0,1,6,7,11,12] (.block 4 (.loop YR)))) (.eD [aL 50 11,dG 51 .add 3 50 1,cc 11 51] (some [0,1,6,7,11])))
def akO:aA:=a6 [aL 158 20,aL 159 15,aL 160 7,aL 161 15,hz 162 129 160 161,cp 163 130 162,aL 164 17,hz 165 130 163 164,dS 166 135 165 1,cp 167 71 166,hz 168 31 158 159,j8 71 168 167] [0,1,6,7,15,16,17,18,19,20] (a6 [aL 169 20,aL 170 16,aL 171 7,aL 172 16,hz 173 129 171 172,cp 174 130 173,aL 175 18,hz 176 130 174 175,dS 177 135 176 1,cp 178 71 177,hz 179 31 169 170,j8 71 179 178] [0,1,6,7,15,16,17,18,19,20] (.eD [aL 180 6,aL 181 0,aL 182 19,hS 183 82 181 182,aL 184 15,aL 185 16,aL 186 20,hA 187 80 186,⟨some 188,.shr (.gH 100 [(0,(.t 183)),(1,(.t 184)),(2,(.t 185)),(3,(.t 187))]),none⟩,hS 189 81 180 188,cc 6 189] (some [0,1,6,7,15,16,17,18])))
def YT:aA:=.eD [aL 134 18,dG 135 .add 3 134 1,cc 18 135] (some [0,1,6,7,15,16,17,18])
def akP:aA:=.seq (.block 13 (rY [aL 136 0,aL 137 7,aL 138 15,hz 139 129 137 138,cp 140 130 139,aL 141 17,hz 142 130 140 141,dS 143 135 142 0,cp 144 9 143,aL 145 7,aL 146 16,hz 147 129 145 146,cp 148 130 147,aL 149 18,hz 150 130 148 149,dS 151 135 150 0,cp 152 9 151,X6 153 83 136 144 152,cc 19 153] [[],[],[],[1,2],[3],[],[4,5],[6],[7],[],[],[9,10],[11],[],[12,13],[14],[15],[0,8,16],[17,17,0,1,2,3,4,5,6,7,8,9,10,11,12,13,14,15,16,17]] [0,1,6,7,15,16,17,18,19] (.seq (a6 [aL 154 19,ro 155 (.eS .eql 9 (.t 154) (.c (.str [])))] [0,1,6,7,15,16,17,18,19,155] (.cond (.t 155) (.exit 13) .skip)) (a6 [aL 156 1,hA 157 80 156,cc 20 157] [0,1,6,7,15,16,17,18,19,20] akO)))) YT
def YU:aA:=.seq (a6 [aL 122 18,aL 123 7,aL 124 16,hz 125 129 123 124,cp 126 130 125,km 127 130 126,jd 128 .lss 3 122 127,aL 129 128,fh 130 129 (.gY (.t 6)),fh 131 129 (.len 96 (.t 130)),fh 132 129 (.eS .leq 3 (.t 131) (.c (.int .i64 200))),ro 133 (.pick (.t 129) (.t 132) (.c (.bool false)))] [0,1,6,7,15,16,17,18,133] (.cond (.t 133) .skip (.exit 12))) akP
def YV:aA:=.seq (a6 [aL 113 17,aL 114 7,aL 115 15,hz 116 129 114 115,cp 117 130 116,km 118 130 117,jd 119 .lss 3 113 118] [0,1,6,7,15,16,17,119] (.cond (.t 119) .skip (.exit 10))) (.seq (.block 11 (a6 [iB 18 0] [0,1,6,7,15,16,17,18] (.block 12 (.loop YU)))) (.eD [aL 120 17,dG 121 .add 3 120 1,cc 17 121] (some [0,1,6,7,15,16,17])))
def YW:aA:=.seq (a6 [aL 107 16,aL 108 1,km 109 31 108,jd 110 .lss 3 107 109] [0,1,6,7,15,16,110] (.cond (.t 110) .skip (.exit 8))) (.seq (.block 9 (a6 [iB 17 0] [0,1,6,7,15,16,17] (.block 10 (.loop YV)))) (.eD [aL 111 16,dG 112 .add 3 111 1,cc 16 112] (some [0,1,6,7,15,16])))
def YX:aA:=.seq (a6 [aL 99 15,aL 100 1,km 101 31 100,jd 102 .lss 3 99 101] [0,1,6,7,15,102] (.cond (.t 102) .skip (.exit 6))) (.seq (.block 7 (a6 [aL 105 15,dG 106 .add 3 105 1,cc 16 106] [0,1,6,7,15,16] (.block 8 (.loop YW)))) (.eD [aL 103 15,dG 104 .add 3 103 1,cc 15 104] (some [0,1,6,7,15])))
def akQ:aA:=a6 [p9 4,jD 5 false] [0,1] (a6 [ro 21 (.eh 96 0 []),cc 6 21] [0,1,6] (a6 [ro 22 (.eh 129 0 []),cc 7 22] [0,1,6,7] (.seq (a6 [iB 8 0] [0,1,6,7,8] (.block 0 (.loop YP))) (.seq (a6 [iB 11 0] [0,1,6,7,11] (.block 2 (.loop YS))) (.seq (a6 [iB 15 0] [0,1,6,7,15] (.block 6 (.loop YX))) (a6 [aL 190 6,aL 191 6,km 192 96 191,dG 193 .leq 3 192 200,cc 4 190,cc 5 193] [0,4,5] .ret))))))
noncomputable def akR:aA:=bO (bN 64 [0,1] Tryz.f24 [[0,1],[0,1,6],[0,1,6,7],[0,1,6,7,17],[0,1,7,8,9],[0,1,7,8,27],[0,4,5],[0,1,7,8,10],[0,1,7,8,10,36],[0,4,5],[0,1,7,10,11],[0,1,7,11,60],[0,4,5],[0,1,6,7],[0,1,6,7],[0,4,5]])
noncomputable def eN:aA:=bO (bN 15 [0,1] Tryz.f6 [[1,2],[1,2,7],[4,5],[1,2,10],[4,5],[4,5]])
noncomputable def c87:aA:=bO (bN 15 [0,1,2] Tryz.f87 [[0,1,2],[6]])
noncomputable def c156:aA:=bO (bN 7 [0] Tryz.f156 [[1],[2]])
noncomputable def akS:aA:=bO (bN 19 [0,1] Tryz.f158 [[0,1],[0,1,7,8],[0,1,7,8,9],[0,1,5,7,8],[0,1,5,7,8,16],[4],[0,1,7,8],[4]])
noncomputable def akT:aA:=bO (bN 9 [0,1] Tryz.f155 [[0,1],[4]])
noncomputable def c116:aA:=bO (bN 6 [0] Tryz.f116 [[0],[2]])
noncomputable def c157:aA:=bO (bN 9 [0] Tryz.f157 [[0],[2]])
noncomputable def c117:aA:=bO (bN 42 [0] Tryz.f117 [[0],[0,6,7],[0,6,7,8],[0,3,6,7],[0,3,4,6,7],[0,6,7,32],[2],[0,6,7],[2]])
noncomputable def c159:aA:=bO (bN 8 [0,1] Tryz.f159 [[1,2],[3]])
noncomputable def akU:aA:=bO (bN 19 [0,1] Tryz.f158 [[0,1],[0,1,7,8],[0,1,7,8,9],[0,1,5,7,8],[0,1,5,7,8,16],[4],[0,1,7,8],[4]])
noncomputable def akV:aA:=bO (bN 8 [0,1] Tryz.f118 [[0,3],[4]])
noncomputable def akW:aA:=bO (bN 11 [0] Tryz.f190 [[1],[4],[4,5],[4,5],[4,5],[2],[9],[2],[2]])
noncomputable def c160:aA:=bO (bN 25 [0] Tryz.f160 [[1,2],[1,2,5],[1,2,5,7],[1,2,5,14],[4],[1,2,5],[1,2,5],[4]])
def akX:aA:=.eD [dS 29 223 9 0,cp 30 2 29,dG 31 .add 2 30 1,dS 32 223 9 0,j8 2 32 31] (some [0,2,3,4,8,9])
def akY:aA:=.cond (.t 28) akX .skip
def akZ:aA:=.eD [dG 43 .add 3 37 1,aL 37 43] (some [2,3,4,9,10,36,37])
def ak0:aA:=.seq (.block 1 (.kX (OJ ah 191 4 2 39 ((range 3).map (·+2)) [aL 40 10,cp 41 223 9] [(.t 40),(.t 41)] (some 42) [cc 10 42] [2,3,4,9,10,36,37]) (XE 248 4 39 [aL 40 10,cp 41 223 9] [(.t 40),(.t 41)] (some 42) [cc 10 42]))) akZ
def ak1:aA:=.seq (.cond (.t 38) .skip (.exit 0)) ak0
def YY:aA:=a6 [jd 38 .lss 3 37 36] [2,3,4,9,10,36,37,38] ak1
def ak2:aA:=.block 0 (.loop YY)
def ak3:aA:=a6 [aL 44 10,cc 7 44] [2,3,4,7] .ret
def ak4:aA:=.seq (a6 [cp 35 159 8,hA 36 190 35,yc 37 0] [2,3,4,9,10,36,37] ak2) ak3
def YZ:aA:=a6 [aL 33 0,dG 34 .add 3 33 1,cc 10 34] [2,3,4,8,9,10] ak4
def ak5:aA:=.seq (a6 [dS 26 159 8 0,cp 27 2 26,dG 28 .eql 2 27 4] [0,2,3,4,8,9,28] akY) YZ
def ak6:aA:=a6 [dS 20 223 6 0,cp 21 2 20,dS 22 159 8 0,cp 23 2 22,dG 24 .eql 2 23 1,ro 25 (.gH 223 [(0,(.t 21)),(1,(.t 24))]),oy 9 223,j8 223 9 25] [0,2,3,4,8,9] ak5
def ak7:aA:=a6 [dS 15 103 3 2,cp 16 101 15,aL 17 0,hz 18 101 16 17,cp 19 159 18,oy 8 159,j8 159 8 19] [0,2,3,4,6,8] ak6
def ak8:aA:=a6 [cp 11 219 2,aL 12 0,cp 13 223 6,hz 14 219 11 12,j8 223 14 13] [0,2,3,4,6] ak7
def Y0:aA:=a6 [ro 6 (.iF 223 (.t 1)),iB 7 0] [0,2,3,4,6] ak8
theorem ak9:Y0.p4 (Jr ah 191 [0,1,2,3,4] 5 2 4):=And.intro (True.intro) (And.intro (True.intro) (And.intro (True.intro) (And.intro (True.intro) (And.intro (And.intro (True.intro) (And.intro (True.intro) (True.intro))) (And.intro (True.intro) (And.intro (And.intro (True.intro) (And.intro (True.intro) (And.intro (And.intro (True.intro) (True.intro)) (And.intro (⟨248,2,39,3,_,_,_,_,_,rfl,rfl,(by kernel_rfl),rfl,rfl,rfl,rfl,rfl,rfl,rfl⟩) (True.intro))))) (And.intro (True.intro) (True.intro))))))))
theorem ak_:gg ⟨45,[0,1,2,3,4]⟩ (Tryz.f191.body.getD .skip)=some Y0.strip:=by kernel_rfl
def RB:aA:=a6 [cp 15 219 3,cc 2 15] [2] .ret
def ala:aA:=a6 [cp 10 248 4,dS 11 103 1 1,cp 12 2 11,ro 13 (.gH 223 [(0,(.t 12))]),ro 14 (.call (.t 10) [(.c (.int .i64 0)),(.t 13)])] [3] RB
def ay0:aA:=a6 [ro 9 (.pZ 191 [(.t 3),(.t 1),(.t 4)]),j8 248 4 9] [1,3,4] ala
def alb:aA:=.kX (ON ah 191 4 2 10 9 [3,1,4] [dS 11 103 1 1,cp 12 2 11,ro 13 (.gH 223 [(0,(.t 12))])] [(.c (.int .i64 0)),(.t 13)] (some 14) [3] RB) (XJ 248 191 4 10 9 [3,1,4] [dS 11 103 1 1,cp 12 2 11,ro 13 (.gH 223 [(0,(.t 12))])] [(.c (.int .i64 0)),(.t 13)] (some 14) RB.nE)
def alc:aA:=a6 [dS 5 103 1 2,cp 6 101 5,km 7 101 6,ro 8 (.fq 219 (.t 7) (.t 7)),oy 3 219,j8 219 3 8] [1,3] alb
def Y1:aA:=a6 [ro 1 (.iF 103 (.t 0)),p9 2] [1] alc
theorem ald:Y1.p4 (FE ah):=And.intro (True.intro) (And.intro (True.intro) (⟨248,191,4,2,10,9,_,_,_,_,_,_,rfl,rfl,(by kernel_rfl),⟨Tryz.t248,_,_,(by kernel_rfl),rfl,rfl,rfl,rfl⟩,rfl,rfl,rfl,rfl,(by kernel_rfl)⟩))
theorem ale:gg ⟨16,[0]⟩ (Tryz.f161.body.getD .skip)=some Y1.strip:=by kernel_rfl
noncomputable def alf:aA:=bO (bN 56 [0] Tryz.f192 [[1],[1,3],[1,3,4],[2]])
def alg:aA:=a6 [jD 2 false] [0] (a6 [aL 3 0,hA 4 117 3,aL 5 4,fh 6 5 (.gY (.t 0)),⟨some 7,.eS .neq 9 (.t 6) (.c (.str [116,97,117])),some (5,true)⟩,ro 8 (.pick (.t 5) (.t 7) (.c (.bool false))),cc 2 8] [2] .ret)
noncomputable def alh:aA:=bO (bN 9 [0,1] Tryz.f62 [[0,1],[4]])
def ali:aA:=.cond (.t 11) (a6 [aL 13 5,dG 14 .eql 3 13 0,aL 15 14,gv 16 15 (.h9 159 (.t 2) 2),gv 17 15 (.fX 9 (.t 16)),⟨some 18,.eS .neq 9 (.t 17) (.c (.str [116,97,117])),some (15,false)⟩,gv 19 15 (.gY (.t 18)),fh 20 19 (.gY (.t 5)),fh 21 19 (.eS .leq 3 (.t 20) (.c (.int .i64 2))),gv 22 15 (.pick (.t 19) (.t 21) (.c (.bool false))),ro 23 (.pick (.t 15) (.c (.bool true)) (.t 22)),cc 4 23] [4] .ret) (a6 [dG 25 .eql 2 10 3,cc 24 25] [1,2,5,10,24] (.cond (.t 24) (a6 [aL 26 5,dG 27 .eql 3 26 1,cc 4 27] [4] .ret) (a6 [dG 29 .eql 2 10 5,cc 28 29] [1,2,5,28] (.cond (.t 28) (a6 [aL 30 5,aL 31 1,dS 32 159 2 1,cp 33 2 32,hz 34 34 31 33,dS 35 103 34 1,cp 36 2 35,jd 37 .eql 2 30 36,cc 4 37] [4] .ret) .skip))))
def c193:aA:=a6 [ro 2 (.iF 159 (.t 0)),jD 4 false] [1,2] (a6 [dS 6 159 2 3,cp 7 157 6,km 8 157 7,cc 5 8] [1,2,5] (.seq (a6 [dS 9 159 2 0,cp 10 2 9] [1,2,5,10] (.block 0 (a6 [dG 12 .eql 2 10 1,cc 11 12] [1,2,5,10,11] ali))) (a6 [jD 4 true] [4] .ret)))
noncomputable def alj:aA:=bO (bN 5 [0] Tryz.f165 [[0],[2]])
noncomputable def alk:aA:=bO (bN 29 [0,1] Tryz.f221 [[1,2],[1,2,6],[1,2,6,7],[4],[1,2,6,12],[4],[2,6,19],[4],[2,24],[4],[4]])
noncomputable def c222:aA:=bO (bN 9 [0] Tryz.f222 [[1],[4],[4,5],[2],[7],[2],[2]])
noncomputable def c196:aA:=bO (bN 47 [0,1,2] Tryz.f196 [[0,1,2],[0,1,24],[6],[0,1,7],[1,7,25,26,27],[1,7,25,26,27,28],[1,7,9,25,26,27],[1,7,9,25,26,27,38],[6],[1,7,25,26,27],[1,7,25,26,27],[6]])
noncomputable def alm:aA:=bO (bN 9 [0,1] Tryz.f195 [[0,1],[3]])
noncomputable def aln:aA:=bO (bN 19 [0,1] Tryz.f220 [[0,1],[0,1,7,8],[0,1,7,8,9],[0,1,5,7,8],[0,1,5,7,8,16],[4],[0,1,7,8],[4]])
noncomputable def c194:aA:=bO (bN 9 [0,1] Tryz.f194 [[0,1],[4]])
def alo:aA:=a6 [dS 55 159 3 0,cp 56 2 55,dG 57 .eql 2 56 5,aL 58 57,fh 59 58 (.h9 223 (.t 5) 1),fh 60 58 (.fX 4 (.t 59)),fh 61 58 (.un .not (.t 60)),ro 62 (.pick (.t 58) (.t 61) (.c (.bool false))),cc 54 62] [3,5,54] (.cond (.t 54) (a6 [iB 6 6] [6] .ret) (a6 [dS 64 159 3 0,cp 65 2 64,dG 66 .eql 2 65 4,aL 67 66,fh 68 67 (.h9 223 (.t 5) 0),fh 69 67 (.fX 2 (.t 68)),fh 70 67 (.eS .geq 2 (.t 69) (.c (.int .i64 6))),ro 71 (.pick (.t 67) (.t 70) (.c (.bool false))),cc 63 71] [3,5,63] (.cond (.t 63) (a6 [iB 6 7] [6] .ret) (a6 [dS 73 159 3 3,cp 74 157 73,ro 75 (.pZ 195 [(.t 5)]),hS 76 194 74 75,cc 72 76] [72] (.cond (.t 72) (a6 [iB 6 8] [6] .ret) .skip)))))
def Y2:aA:=.cond (.t 26) (a6 [iB 6 4] [6] .ret) (a6 [cp 50 159 3,aL 51 1,hS 52 193 50 51,oY 53 52,cc 49 53] [3,5,49] (.cond (.t 49) (a6 [iB 6 5] [6] .ret) alo))
def alp:aA:=a6 [dS 27 159 3 0,cp 28 2 27,dG 29 .eql 2 28 4,aL 30 29,fh 31 30 (.h9 159 (.t 3) 1),fh 32 30 (.fX 2 (.t 31)),⟨some 33,.call (.f 87) [(.t 32),(.c (.int .i64 1)),(.c (.int .i64 7))],some (30,true)⟩,fh 34 30 (.un .not (.t 33)),ro 35 (.pick (.t 30) (.t 34) (.c (.bool false))),aL 36 35,gv 37 36 (.h9 159 (.t 3) 0),gv 38 36 (.fX 2 (.t 37)),gv 39 36 (.eS .eql 2 (.t 38) (.c (.int .i64 5))),gv 40 36 (.gY (.t 39)),fh 41 40 (.h9 159 (.t 3) 1),fh 42 40 (.fX 2 (.t 41)),fh 43 40 (.gY (.t 1)),fh 44 40 (.len 34 (.t 43)),⟨some 45,.call (.f 62) [(.t 42),(.t 44)],some (40,true)⟩,fh 46 40 (.un .not (.t 45)),gv 47 36 (.pick (.t 40) (.t 46) (.c (.bool false))),ro 48 (.pick (.t 36) (.c (.bool true)) (.t 47)),cc 26 48] [1,3,5,26] Y2
def Y3:aA:=.cond (.t 11) (a6 [iB 6 3] [6] .ret) alp
def alq:aA:=.seq (.block 0 (a6 [cp 8 159 3,hA 9 192 8,oY 10 9,cc 7 10] [1,3,5,7] (.cond (.t 7) (a6 [iB 6 2] [6] .ret) (a6 [dS 12 159 3 0,cp 13 2 12,dG 14 .eql 2 13 1,aL 15 14,fh 16 15 (.h9 159 (.t 3) 2),fh 17 15 (.fX 9 (.t 16)),⟨some 18,.eS .neq 9 (.t 17) (.c (.str [116,97,117])),some (15,true)⟩,ro 19 (.pick (.t 15) (.t 18) (.c (.bool false))),aL 20 19,fh 21 20 (.h9 159 (.t 3) 2),fh 22 20 (.fX 9 (.t 21)),⟨some 23,.call (.f 122) [(.t 22)],some (20,true)⟩,fh 24 20 (.un .not (.t 23)),ro 25 (.pick (.t 20) (.t 24) (.c (.bool false))),cc 11 25] [1,3,5,11] Y3)))) (a6 [iB 6 0] [6] .ret)
def c162:aA:=a6 [ro 3 (.iF 159 (.t 0)),ro 5 (.iF 223 (.t 2)),iB 6 0] [1,3,5] alq
noncomputable def c119:aA:=bO (bN 45 [0,1] Tryz.f119 [[0,3],[0,3,22],[4,5],[0,3,6],[0,6,26,27,28],[0,6,26,27,28,29],[0,6,7,8,26,27,28],[0,6,7,9,26,27,28],[0,6,7,9,26,27,28,41],[4,5],[0,6,26,27,28],[4,5]])
noncomputable def alr:aA:=bO (bN 45 [0] Tryz.f86 [[0],[0,15],[2],[0,16,17,18],[0,16,17,18,19],[0,3,4,16,17,18],[0,4,16,17,18,35],[2],[0,6,16,17,18],[0,16,17,18,43],[2],[0,16,17,18],[2]])
noncomputable def c164:aA:=bO (bN 6 [0] Tryz.f164 [[0],[2]])
noncomputable def als:aA:=bO (bN 19 [0,1] Tryz.f197 [[0,1],[0,1,7,8],[0,1,7,8,9],[0,1,5,7,8],[0,1,5,7,8,16],[4],[0,1,7,8],[4]])
noncomputable def alu:aA:=bO (bN 9 [0,1] Tryz.f163 [[0,1],[4]])
noncomputable def alv:aA:=bO (bN 6 [0] Tryz.f121 [[0],[2]])
noncomputable def alw:aA:=bO (bN 27 [0,1] Tryz.f90 [[0,3],[4]])
noncomputable def alx:aA:=bO (bN 9 [0,1] Tryz.f89 [[1,2],[3]])
noncomputable def aly:aA:=bO (bN 19 [0,1] Tryz.f120 [[0,1],[0,1,7,8],[0,1,7,8,9],[0,1,5,7,8],[0,1,5,7,8,16],[4],[0,1,7,8],[4]])
noncomputable def alz:aA:=bO (bN 9 [0,1] Tryz.f88 [[0,1],[4]])
noncomputable def alA:aA:=bO (bN 6 [0] Tryz.f223 [[0],[2]])
noncomputable def c198:aA:=bO (bN 20 [0,1] Tryz.f198 [[0,1],[0,1,5],[0,1,5,6],[0,1,6,11],[12],[4],[4],[0,1,13],[4],[0,1,16],[4],[19],[4],[4]])
noncomputable def alB:aA:=bO (bN 36 [0,1] Tryz.f166 [[0,1],[0,1,9,10,11],[0,1,9,10,11,12],[0,1,5,6,9,10,11],[0,1,5,6,9,10,11,19],[4],[0,1,6,7,9,10,11],[0,1,8,9,10,11],[0,1,8,9,10,11,28],[4],[0,1,9,10,11],[35],[4],[4]])
noncomputable def alC:aA:=bO (bN 16 [0,1] Tryz.f123 [[2,3],[4]])
noncomputable def alD:aA:=bO (bN 16 [0,1] Tryz.f125 [[1,2],[3]])
noncomputable def c167:aA:=bO (bN 19 [0,1] Tryz.f167 [[0,1],[0,1,7,8],[0,1,7,8,9],[0,1,5,7,8],[0,1,5,7,8,16],[4],[0,1,7,8],[4]])
noncomputable def c124:aA:=bO (bN 9 [0,1] Tryz.f124 [[0,1],[4]])
noncomputable def c91:aA:=bO (bN 56 [0] Tryz.f91 [[0],[0,5,6,7],[0,5,6,7,8],[0,3,4,5,6,7],[0,4,5,6,7,48],[2],[0,5,6,7,51],[2],[0,5,6,7],[2]])
noncomputable def alE:aA:=bO (bN 32 [0] Tryz.f92 [[0],[0,5,6,7],[0,5,6,7,8],[0,3,4,5,6,7],[0,5,6,7,27],[2],[0,5,6,7],[2]])
noncomputable def RC:aA:=bO (bN 35 [0] Tryz.f56 [[1],[1,3],[2],[1,8],[2],[1,20],[2],[1,25],[2],[30],[2],[2]])
noncomputable def alF:aA:=bO (bN 6 [0] Tryz.f30 [[1],[2]])
noncomputable def c227:aA:=bO (bN 8 [0,1] Tryz.f227 [[0,1],[4]])
noncomputable def c201:aA:=bO (bN 143 [0,1] Tryz.f201 [[0,1],[0,1,5],[0,1,5,16],[4],[0,1,5,24],[4],[0,1,5,31],[4],[0,1,5,36],[4],[0,1,5,6],[0,1,5,6,7],[0,1,5,6,7,8],[0,1,5,6,7,8,9],[0,1,5,6,7,8,9,10],[0,1,5,6,7,8,9,10,59],[0,1,5,6,7,8,9,10,64],[0,1,5,6,7,8,9,10,11],[0,1,5,6,7,8,9,10,11,73],[4],[0,1,5,6,7,8,9,10],[0,1,5,6,7,8,9,10,93],[4],[0,1,5,6,7,8,9,10],[0,1,5,6,7,8,9,10],[0,1,5,6,7,8,9,10,107],[8,12],[8,12,114],[4],[4],[0,1,5,6,7,8,9,10,132],[8,13],[8,13,139],[4],[4],[4]])
noncomputable def c171:aA:=bO (bN 23 [0,1] Tryz.f171 [[0,1],[0,1,7],[0,1,7,12],[4,5,6],[4,5,6]])
noncomputable def c127:aA:=bO (bN 13 [0,1] Tryz.f127 [[0,1],[4,5,6]])
noncomputable def alG:aA:=bO (bN 21 [0,1] Tryz.f207 [[0,1],[4]])
noncomputable def alH:aA:=bO (bN 16 [0,1] Tryz.f174 [[0,1],[0,1,7],[4],[4]])
noncomputable def c130:aA:=bO (bN 8 [0,1] Tryz.f130 [[0,1],[4]])
noncomputable def c206:aA:=bO (bN 8 [0,1] Tryz.f206 [[0,1],[4]])
noncomputable def alI:aA:=bO (bN 34 [1] Tryz.f205 [[0,1],[0,1,9],[4],[0,1,15],[4],[0,1,5],[0,1,5,6],[0,1,5,6,24],[4],[0,1,5,6],[0,1,5]])
noncomputable def c173:aA:=bO (bN 66 [1,2] Tryz.f173 [[0,1,2,3],[0,1,2,3,13],[8],[0,1,2,3,15],[8],[0,1,2,3,20],[0,1,2,3],[0,1,2,3],[0,1,2,3,9],[0,1,2,3,9],[0,1,2,3,9,10],[0,1,2,3,9,10,36],[0,1,2,3,9,10,11],[0,1,2,3,9,10,11,41],[0,1,2,3,9,10,11],[0,1,2,3,9,10],[0,1,2,3,9,10],[9,10],[8]])
noncomputable def alJ:aA:=bO (bN 8 [0,1] Tryz.f129 [[0,1],[4]])
noncomputable def alK:aA:=bO (bN 28 [0] Tryz.f128 [[0],[0,4],[4,9,10,11],[4,9,10,11,12],[4,6,9,10,11],[4,7,8,9,10,11],[4,7,9,10,11,21],[2,3],[4,9,10,11],[4,9,10,11],[2,3]])
noncomputable def alL:aA:=bO (bN 5 [0] Tryz.f135 [[0],[2]])
noncomputable def c175:aA:=bO (bN 27 [0,1] Tryz.f175 [[0,1],[0,1,5],[1,5,11,12,13],[1,5,11,12,13,14],[1,5,6,7,11,12,13],[1,5,11,12,13],[1,5,11,12,13],[4]])
def alM:aA:=a6 [aL 13 0,hA 14 122 13,oY 15 14,aL 16 15,gv 17 16 (.gY (.t 1)),gv 18 16 (.len 69 (.t 17)),gv 19 16 (.eS .gtr 3 (.t 18) (.c (.int .i64 2))),ro 20 (.pick (.t 16) (.c (.bool true)) (.t 19)),aL 21 20,gv 22 21 (.gY (.t 1)),⟨some 23,.call (.f 121) [(.t 22)],some (21,false)⟩,gv 24 21 (.un .not (.t 23)),ro 25 (.pick (.t 21) (.c (.bool true)) (.t 24)),cc 12 25] [0,1,12] (.cond (.t 12) (a6 [ro 4 (.h5 (.c (.str []))),jD 5 false] [4,5] .ret) (a6 [aL 27 1,km 28 69 27,dG 29 .eql 3 28 0,cc 26 29] [0,1,26] (.cond (.t 26) (a6 [aL 30 0,cc 4 30,jD 5 true] [4,5] .ret) .skip)))
def c131:aA:=a6 [ro 4 (.h5 (.c (.str []))),jD 5 false] [0,1] (.seq (.block 0 (a6 [aL 7 0,ro 8 (.eS .eql 9 (.t 7) (.c (.str [116,97,117]))),cc 6 8] [0,1,6] (.cond (.t 6) (a6 [aL 9 1,km 10 69 9,dG 11 .eql 3 10 0,ro 4 (.h5 (.c (.str [116,97,117]))),cc 5 11] [4,5] .ret) alM))) (a6 [aL 31 0,ro 32 (.eS .add 9 (.t 31) (.c (.str [40]))),aL 33 1,ro 34 (.call (.f 175) [(.t 33),(.c (.str [44]))]),jd 35 .add 9 32 34,ro 36 (.eS .add 9 (.t 35) (.c (.str [41]))),cc 4 36,jD 5 true] [4,5] .ret))
def Y4:aA:=.seq (a6 [aL 29 5,aL 30 8,hS 31 131 29 30,aL 28 31,jt 32 28 0,jt 33 28 1,cc 10 32,cc 11 33] [0,5,8,10,11] (a6 [aL 34 11,oY 35 34,aL 36 35,gv 37 36 (.gY (.t 10)),gv 38 36 (.gY (.t 0)),gv 39 36 (.eS .neq 9 (.t 37) (.t 38)),ro 40 (.pick (.t 36) (.c (.bool true)) (.t 39))] [5,8,40] (.cond (.t 40) (a6 [ro 2 (.h5 (.c (.str []))),p9 3,jD 4 false] [2,3,4] .ret) .skip))) (a6 [aL 41 5,aL 42 8,cc 2 41,cc 3 42,jD 4 true] [2,3,4] .ret)
def alN:aA:=a6 [aL 13 0,ro 14 (.call (.f 127) [(.t 13),(.c (.str [40]))]),aL 12 14,jt 15 12 0,jt 16 12 1,jt 17 12 2,cc 5 15,cc 6 16,cc 7 17] [0,5,6,7] (a6 [p9 8] [0,5,6,7,8] (.seq (a6 [aL 18 7] [0,5,6,8,18] (.cond (.t 18) (a6 [jD 9 false] [0,5,6] (a6 [aL 20 6,ro 21 (.call (.f 130) [(.t 20),(.c (.str [41]))]),ro 22 (.call (.f 129) [(.t 21),(.c (.str [44]))]),hA 23 128 22,aL 19 23,jt 24 19 0,jt 25 19 1,cc 8 24,cc 9 25] [0,5,8,9] (a6 [aL 26 9,oY 27 26] [0,5,8,27] (.cond (.t 27) (a6 [ro 2 (.h5 (.c (.str []))),p9 3,jD 4 false] [2,3,4] .ret) .skip)))) .skip)) Y4))
def alO:aA:=a6 [ro 2 (.h5 (.c (.str []))),p9 3,jD 4 false] [0] alN
noncomputable def alP:aA:=bO (bN 13 [0] Tryz.f94 [[0],[5],[2]])
noncomputable def c59:aA:=bO (bN 21 [0] Tryz.f59 [[1],[2]])
noncomputable def alQ:aA:=bO (bN 6 [0] Tryz.f58 [[1],[2]])
noncomputable def c93:aA:=bO (bN 19 [0,1] Tryz.f93 [[0,1],[0,1,7,8],[0,1,7,8,9],[0,1,5,7,8],[0,1,5,7,8,16],[4],[0,1,7,8],[4]])
noncomputable def alR:aA:=bO (bN 9 [0,1] Tryz.f57 [[0,1],[4]])
noncomputable def c31:aA:=bO (bN 11 [0] Tryz.f31 [[0],[2]])
noncomputable def alS:aA:=bO (bN 8 [0] Tryz.f95 [[0],[0,4],[2],[2]])
noncomputable def alT:aA:=bO (bN 24 [0] Tryz.f60 [[1],[1,3],[3,7,8,9],[3,7,8,9,10],[3,5,7,8,9],[3,7,8,9],[3,7,8,9],[2]])
noncomputable def alU:aA:=bO (bN 38 [0] Tryz.f224 [[0],[0,4],[0,4,5],[4,5,17,18],[4,5,17,18,19],[4,5,17,18],[4,5,6,17,18],[4,5,17,18],[4,5,17,18],[2,3]])
noncomputable def alV:aA:=bO (bN 11 [0] Tryz.f199 [[0],[3],[2]])
noncomputable def alW:aA:=bO (bN 4 [0] Tryz.f225 [[0],[3],[2],[2]])
noncomputable def c226:aA:=bO (bN 67 [0,1,2] Tryz.f226 [[0,1,2],[1,2,7],[1,2,7,8],[6],[1,2,7,14],[6],[1,2,7,21],[6],[1,2,7,27],[6],[1,2,7,33],[6],[1,2,7,39],[6],[1,2,7,45],[6],[1,2,51],[6],[6]])
noncomputable def alX:aA:=bO (bN 61 [0,1] Tryz.f200 [[0,1],[0,1,9],[0,1,9,10],[4],[0,1,9,17],[4],[0,1,27],[4],[4]])
noncomputable def alY:aA:=bO (bN 9 [0,1] Tryz.f170 [[0,1],[4]])
noncomputable def c168:aA:=bO (bN 22 [0,1] Tryz.f168 [[0,1],[0,1,5],[1,5,8,9,10],[1,5,8,9,10,11],[1,5,7,8,9,10],[1,5,8,9,10],[1,5,8,9,10],[4]])
noncomputable def alZ:aA:=bO (bN 6 [0] Tryz.f269 [[0],[2]])
noncomputable def al0:aA:=bO (bN 19 [0,1] Tryz.f197 [[0,1],[0,1,7,8],[0,1,7,8,9],[0,1,5,7,8],[0,1,5,7,8,16],[4],[0,1,7,8],[4]])
noncomputable def al1:aA:=bO (bN 9 [0,1] Tryz.f163 [[0,1],[4]])
noncomputable def al2:aA:=bO (bN 11 [0] Tryz.f259 [[0],[2]])
def al3:aA:=a6 [ro 2 (.h5 (.c (.str [])))] [0] (.seq (.block 0 (a6 [aL 4 0,hA 5 259 4,oY 6 5,cc 3 6] [0,3] (.cond (.t 3) (a6 [ro 2 (.h5 (.c (.str [])))] [2] .ret) (a6 [aL 8 0,km 9 69 8,dG 10 .eql 3 9 0,cc 7 10] [0,7] (.cond (.t 7) (a6 [ro 2 (.h5 (.c (.str [45])))] [2] .ret) .skip))))) (a6 [aL 11 0,ro 12 (.call (.f 175) [(.t 11),(.c (.str [44]))]),cc 2 12] [2] .ret))
def al4:aA:=a6 [ro 1 (.iF 71 (.t 0)),ro 2 (.h5 (.c (.str [])))] [1] (rY [dS 3 71 1 1,cp 4 2 3,hA 5 135 4,ro 6 (.eS .add 9 (.t 5) (.c (.str [58]))),dS 7 71 1 2,cp 8 69 7,hA 9 241 8,jd 10 .add 9 6 9,cc 2 10] [[],[0],[1],[2],[],[4],[5,2],[3,6],[7,6,0,1,2,3,4,5,6,7]] [2] .ret)
def al5:aA:=a6 [ro 1 (.iF 71 (.t 0)),ro 2 (.h5 (.c (.str [])))] [1] (rY [dS 3 71 1 0,cp 4 2 3,hA 5 135 4,ro 6 (.eS .add 9 (.t 5) (.c (.str [58]))),cp 7 71 1,hA 8 209 7,jd 9 .add 9 6 8,cc 2 9] [[],[0],[1],[2],[],[4,2],[3,5],[6,5,0,1,2,3,4,5,6]] [2] .ret)
def al6:aA:=a6 [aL 12 0,nK 13 12,dS 14 184 13 2,cp 15 148 14,aL 16 4,ro 17 (.jZ 148 (.t 15) (.t 16)),oY 18 17] [0,1,3,4,18] (.cond (.t 18) (a6 [aL 19 0,nK 20 19,dS 21 184 20 2,cp 22 148 21,aL 23 4,⟨none,.k8 148 (.t 22) (.t 23) (.c (.bool true)),none⟩] [0,1,3] (.j3 [aL 24 0,aL 25 0,nK 26 25,dS 27 184 26 1,cp 28 130 27,cp 29 135 3,uE 30 130 29,yd 31 130 130 28 30,nK 32 24,dS 33 184 32 1,j8 130 33 31] [[],[],[1],[2],[3],[],[5],[4,6],[0,0,1,2,3,4,5,6,7],[8,0,1,2,3,4,5,6,7],[9,7,7,0,1,2,3,4,5,6,7]] (some [0,1]))) .skip)
def al7:aA:=a6 [ro 3 (.iF 135 (.t 1))] [0,1,3] (rY [dS 5 135 3 0,cp 6 9 5,ro 7 (.eS .add 9 (.t 6) (.c (.str [32]))),dS 8 135 3 1,cp 9 71 8,hA 10 178 9,jd 11 .add 9 7 10,cc 4 11] [[],[0],[1],[],[3],[4],[2,5],[6,5,0,1,2,3,4,5,6]] [0,1,3,4] al6)
def Y5:aA:=.eD [aL 63 0,aL 64 10,cp 65 71 12,ro 66 (.gH 135 [(0,(.t 64)),(1,(.t 65))]),hS 67 169 63 66] (some [0])
def al8:aA:=a6 [aL 41 1,aL 42 2,dG 43 .add 2 42 1,aL 44 3,hA 45 95 44,ro 46 (.gH 71 [(0,(.t 41)),(1,(.t 43)),(2,(.t 45))]),oy 12 71,j8 71 12 46] [0,2,3,8,10,12] (.seq (a6 [dS 47 103 8 2,cp 48 101 47,aL 49 2,dG 50 .add 2 49 1,hz 51 101 48 50,cp 52 159 51,oy 13 159,j8 159 13 52] [0,3,10,12,13] (a6 [dS 53 159 13 0,cp 54 2 53,dG 55 .eql 2 54 5] [0,3,10,12,13,55] (.cond (.t 55) (.j3 [dS 56 159 13 1,cp 57 2 56,dS 58 159 13 3,cp 59 157 58,aL 60 3,hS 61 168 59 60,ro 62 (.gH 71 [(0,(.t 57)),(1,(.c (.int .i64 0))),(2,(.t 61))]),j8 71 12 62] [[],[0],[],[2],[],[3,4],[1,5],[6,5,0,1,2,3,4,5,6]] (some [0,10,12])) .skip))) Y5)
def Y6:aA:=a6 [jd 105 .lss 2 104 103] [0,1,2,3,103,104,105] (.seq (.cond (.t 105) .skip (.exit 1)) (.seq (.block 2 (a6 [aL 106 104,cc 14 106] [0,1,2,3,14,103,104] (.eD [aL 107 0,aL 108 1,aL 109 2,dG 110 .add 2 109 1,aL 111 3,hA 112 95 111,aL 113 14,uE 114 69 113,⟨some 115,.shr (.app 69 69 (.t 112) (.t 114)),none⟩,FF 116 126 107 108 110 115] (some [0,1,2,3,103,104])))) (.eD [dG 117 .add 2 104 1,aL 104 117] (some [0,1,2,3,103,104]))))
def al9:aA:=a6 [dG 85 .eql 2 28 3,cc 84 85] [0,1,2,3,9,28,84] (.cond (.t 84) (a6 [dS 86 159 9 3,cp 87 157 86,ro 88 (.kS 157 (.t 87) (.c (.int .i64 0))),cp 89 200 88,aL 90 3,hS 91 170 89 90,dG 92 .neq 2 91 0] [0,1,2,3,92] (.cond (.t 92) (.eD [aL 93 0,aL 94 1,aL 95 2,dG 96 .add 2 95 1,aL 97 3,FF 98 126 93 94 96 97] (some [0])) .skip)) (a6 [dG 100 .eql 2 28 4,cc 99 100] [0,1,2,3,9,99] (.cond (.t 99) (a6 [dS 101 159 9 1,cp 102 2 101,dG 103 .add 2 102 1,yc 104 0] [0,1,2,3,103,104] (.block 1 (.loop Y6))) .skip)))
def al_:aA:=.cond (.t 29) (rY [dS 32 159 9 2,cp 33 9 32,dS 34 159 9 3,cp 35 157 34,aL 36 3,hS 37 168 35 36,hS 38 131 33 37,aL 31 38,jt 39 31 0,jt 40 31 1,cc 10 39,cc 11 40] [[],[0],[],[2],[],[3,4],[1,5,5],[6],[7],[7],[8,6,0,1,2,3,4,5,6,7,8],[9,10,0,1,2,3,4,5,6,7,8,9,10]] [0,1,2,3,8,10] al8) (a6 [dG 69 .eql 2 28 2,cc 68 69] [0,1,2,3,8,9,28,68] (.cond (.t 68) (a6 [aL 70 0,aL 71 1,aL 72 2,dG 73 .add 2 72 1,aL 74 3,FF 75 126 70 71 73 74] [0,1,2,3,8] (.eD [aL 76 0,aL 77 1,cp 78 103 8,aL 79 2,dG 80 .add 3 79 1,hS 81 160 78 80,aL 82 3,FF 83 126 76 77 81 82] (some [0]))) al9))
def ama:aA:=a6 [aL 15 0,nK 16 15,dS 17 184 16 0,cp 18 34 17,aL 19 1,hz 20 34 18 19,cp 21 103 20,oy 8 103,j8 103 8 21] [0,1,2,3,8] (a6 [dS 22 103 8 2,cp 23 101 22,aL 24 2,hz 25 101 23 24,cp 26 159 25,oy 9 159,j8 159 9 26] [0,1,2,3,8,9] (a6 [dS 27 159 9 0,cp 28 2 27] [0,1,2,3,8,9,28] (.block 0 (a6 [dG 30 .eql 2 28 1,cc 29 30] [0,1,2,3,8,9,28,29] al_))))
def amb:aA:=a6 [aL 7 0,ro 8 (.sN),ro 9 (.gH 184 [(0,(.t 7)),(2,(.t 8))]),ro 10 (.iF 184 (.t 9)),cc 6 10] [3,6] (a6 [aL 11 6,dS 12 71 3 0,cp 13 2 12,dS 14 71 3 1,cp 15 2 14,dS 16 71 3 2,cp 17 69 16,FF 18 126 11 13 15 17] [6] (rY [aL 19 6,nK 20 19,dS 21 184 20 1,cp 22 130 21,aL 23 6,nK 24 23,dS 25 184 24 1,cp 26 130 25,km 27 130 26,dG 28 .leq 3 27 200,⟨some 4,.p0 (.t 22),none⟩,cc 5 28] [[],[0],[1],[2],[],[4],[5],[6],[7],[8],[3,0,1,2,3],[9,10,0,1,2,3,4,5,6,7,8,9,10]] [4,5,6] .ret))
def amc:aA:=a6 [ro 3 (.iF 71 (.t 1)),p9 4,jD 5 false] [0,3] amb
noncomputable def amd:aA:=bO (bN 19 [0,1] Tryz.f176 [[0,1],[0,1,7,8],[0,1,7,8,9],[0,1,5,7,8],[0,1,5,7,8,16],[4],[0,1,7,8],[4]])
noncomputable def ame:aA:=bO (bN 9 [0,1] Tryz.f132 [[0,1],[4]])
noncomputable def amf:aA:=bO (bN 8 [0] Tryz.f134 [[1,2],[1,2],[2]])
noncomputable def amg:aA:=bO (bN 19 [0] Tryz.f133 [[0],[0,3],[3,6,7,8],[3,6,7,8,9],[3,5,6,7,8],[3,6,7,8],[3,6,7,8],[2]])
def Y7:aA:=a6 [jd 9 .lss 3 8 7] [3,6,7,8,9] (.seq (.cond (.t 9) .skip (.exit 0)) (.seq (.block 1 (a6 [hz 10 31 6 8,cp 11 71 10,oy 5 71,j8 71 5 11] [3,5,6,7,8] (.eD [aL 12 3,cp 13 71 5,hA 14 178 13,uE 15 25 14,yd 16 25 25 12 15,cc 3 16] (some [3,6,7,8])))) (.eD [dG 17 .add 3 8 1,aL 8 17] (some [3,6,7,8]))))
def amh:aA:=a6 [ro 2 (.h5 (.c (.str [])))] [0] (a6 [p9 3] [0,3] (.seq (a6 [aL 6 0,km 7 31 6,yc 8 0] [3,6,7,8] (.block 0 (.loop Y7))) (a6 [aL 18 3,ro 19 (.call (.f 179) [(.t 18),(.c (.str [32]))]),cc 2 19] [2] .ret)))
def ami:aA:=a6 [aL 75 0,nK 76 75,dS 77 150 76 3,cp 78 148 77,aL 79 15,ro 80 (.jZ 148 (.t 78) (.t 79)),oY 81 80] [0,3,4,12,14,15,81] (.cond (.t 81) (a6 [aL 82 0,nK 83 82,dS 84 150 83 3,cp 85 148 84,aL 86 15,⟨none,.k8 148 (.t 85) (.t 86) (.c (.bool true)),none⟩] [0,3,4,12,14] (.eD [aL 87 0,aL 88 0,nK 89 88,dS 90 150 89 2,cp 91 96 90,aL 92 12,aL 93 3,aL 94 4,aL 95 14,ro 96 (.gH 100 [(0,(.t 92)),(1,(.t 93)),(2,(.t 94)),(3,(.t 95))]),uE 97 96 96,yd 98 96 96 91 97,nK 99 87,dS 100 150 99 2,j8 96 100 98] (some [0]))) .skip)
def RD:aA:=a6 [aL 62 12,ro 63 (.eS .add 9 (.t 62) (.c (.str [32]))),aL 64 3,hA 65 135 64,jd 66 .add 9 63 65,ro 67 (.eS .add 9 (.t 66) (.c (.str [32]))),aL 68 4,hA 69 135 68,jd 70 .add 9 67 69,ro 71 (.eS .add 9 (.t 70) (.c (.str [32]))),aL 72 14,hA 73 136 72,jd 74 .add 9 71 73,cc 15 74] [0,3,4,12,14,15] ami
def amj:aA:=a6 [aL 41 0,nK 42 41,dS 43 150 42 1,cp 44 31 43,hA 45 133 44,cc 14 45] [0,3,4,5,12,14] (a6 [aL 46 14,aL 47 3,aL 48 5,ro 49 (.kS 31 (.t 48) (.c (.int .i64 0))),cp 50 71 49,hA 51 134 50,hz 52 31 46 47,j8 71 52 51] [0,3,4,5,12,14] (.seq (a6 [aL 53 4,dG 54 .geq 2 53 0] [0,3,4,5,12,14,54] (.cond (.t 54) (.eD [aL 55 14,aL 56 4,aL 57 5,ro 58 (.kS 31 (.t 57) (.c (.int .i64 1))),cp 59 71 58,hA 60 134 59,hz 61 31 55 56,j8 71 61 60] (some [0,3,4,12,14])) .skip)) RD))
def RE:aA:=a6 [aL 36 1,aL 37 2,hS 38 131 36 37,aL 35 38,jt 39 35 0,jt 40 35 1,cc 12 39,cc 13 40] [0,3,4,5,12] amj
def amk:aA:=.seq (a6 [aL 16 1,ro 17 (.eS .neq 9 (.t 16) (.c (.str [116,97,117]))),aL 18 17,fh 19 18 (.gY (.t 0)),fh 20 18 (.mD (.t 19)),fh 21 18 (.h9 150 (.t 20) 0),fh 22 18 (.h9 38 (.t 21) 3),fh 23 18 (.fX 25 (.t 22)),fh 24 18 (.gY (.t 1)),⟨some 25,.call (.f 132) [(.t 23),(.t 24)],some (18,true)⟩,fh 26 18 (.un .not (.t 25)),ro 27 (.pick (.t 18) (.t 26) (.c (.bool false)))] [0,1,2,3,4,5,27] (.cond (.t 27) .ret .skip)) (.seq (a6 [aL 28 0,nK 29 28,dS 30 150 29 0,dS 31 38 30 4,cp 32 25 31,aL 33 1,hS 34 132 32 33] [0,1,2,3,4,5,34] (.cond (.t 34) (.eD [ro 1 (.h5 (.c (.str [116,97,117]))),p9 2] (some [0,1,2,3,4,5])) .skip)) RE)
noncomputable def aml:aA:=bO (bN 19 [0,1,2] Tryz.f180 [[1,2,3],[4]])
noncomputable def amm:aA:=bO (bN 19 [0,1] Tryz.f167 [[0,1],[0,1,7,8],[0,1,7,8,9],[0,1,5,7,8],[0,1,5,7,8,16],[4],[0,1,7,8],[4]])
noncomputable def amn:aA:=bO (bN 21 [0,1,2] Tryz.f137 [[3,4,5],[3,8],[3,8,14],[6,7],[6,7]])
noncomputable def c138:aA:=bO (bN 26 [0,1] Tryz.f138 [[0,1],[0,1,10],[4],[0,1,12,13],[0,1,12,13,14],[0,1,5,12,13],[0,1,12,13,24],[4],[0,1,12,13],[4]])
def amo:aA:=a6 [aL 49 0,nK 50 49,dS 51 150 50 0,cp 52 38 51,aL 53 12,aL 54 17,X6 55 137 52 53 54,aL 48 55,jt 56 48 0,jt 57 48 1,cc 20 56,cc 21 57] [0,1,2,4,11,12,13,16,18,20,21,22,23,24,35,36,37] (a6 [aL 58 21,aL 59 58,fh 60 59 (.gY (.t 13)),fh 61 59 (.gY (.t 18)),⟨some 62,.call (.f 138) [(.t 60),(.t 61)],some (59,true)⟩,ro 63 (.pick (.t 59) (.t 62) (.c (.bool false)))] [0,1,2,4,11,12,13,16,20,22,23,24,35,36,37,63] (.cond (.t 63) (.eD [aL 64 0,aL 65 20,aL 66 13,aL 67 1,aL 68 2,dS 69 135 11 1,cp 70 71 69,dS 71 135 16 1,cp 72 71 71,⟨some 73,.shr (.eh 31 2 [(0,(.t 70)),(1,(.t 72))]),none⟩,ro 74 (.call (.f 98) [(.t 64),(.t 65),(.t 66),(.t 67),(.t 68),(.t 73)])] (some [0,1,2,4,11,12,13,22,23,24,35,36,37])) .skip))
def Y8:aA:=.eD [dG 75 .add 3 37 1,aL 37 75] (some [0,1,2,4,11,12,13,22,23,24,35,36,37])
def Y9:aA:=a6 [jd 38 .lss 3 37 36] [0,1,2,4,11,12,13,22,23,24,35,36,37,38] (.seq (.cond (.t 38) .skip (.exit 2)) (.seq (.block 3 (a6 [hz 39 130 35 37,cp 40 135 39,oy 16 135,j8 135 16 40] [0,1,2,4,11,12,13,16,22,23,24,35,36,37] (a6 [dS 42 135 16 0,cp 43 9 42,hA 44 97 43,aL 41 44,jt 45 41 0,jt 46 41 1,jt 47 41 2,cc 17 45,cc 18 46,cc 19 47] [0,1,2,4,11,12,13,16,17,18,22,23,24,35,36,37] amo))) Y8))
def Y_:aA:=a6 [jd 25 .lss 3 24 23] [0,1,2,4,22,23,24,25] (.seq (.cond (.t 25) .skip (.exit 0)) (.seq (.block 1 (a6 [hz 26 130 22 24,cp 27 135 26,oy 11 135,j8 135 11 27] [0,1,2,4,11,22,23,24] (a6 [dS 29 135 11 0,cp 30 9 29,hA 31 97 30,aL 28 31,jt 32 28 0,jt 33 28 1,jt 34 28 2,cc 12 32,cc 13 33,cc 14 34] [0,1,2,4,11,12,13,22,23,24] (a6 [aL 35 4,km 36 130 35,yc 37 0] [0,1,2,4,11,12,13,22,23,24,35,36,37] (.block 2 (.loop Y9)))))) (.eD [dG 76 .add 3 24 1,aL 24 76] (some [0,1,2,4,22,23,24]))))
def amp:aA:=a6 [aL 22 3,km 23 130 22,yc 24 0] [0,1,2,4,22,23,24] (.block 0 (.loop Y_))
def amq:aA:=.seq (.block 3 (a6 [hz 48 130 44 46,cp 49 135 48,oy 13 135,j8 135 13 49] [1,2,6,7,8,13,24,25,26,44,45,46] (a6 [dS 51 135 13 0,cp 52 9 51,hA 53 97 52,aL 50 53,jt 54 50 0,jt 55 50 1,jt 56 50 2,cc 14 54,cc 15 55,cc 16 56] [1,2,6,7,8,13,14,15,24,25,26,44,45,46] (.eD [aL 57 6,aL 58 14,aL 59 15,aL 60 8,dS 61 135 13 1,cp 62 71 61,⟨some 63,.shr (.eh 31 1 [(0,(.t 62))]),none⟩,ro 64 (.call (.f 98) [(.t 57),(.t 58),(.t 59),(.t 60),(.c (.int .i64 (-1))),(.t 63)])] (some [1,2,6,7,8,24,25,26,44,45,46]))))) (.eD [dG 65 .add 3 46 1,aL 46 65] (some [1,2,6,7,8,24,25,26,44,45,46]))
def Za:aA:=a6 [jd 47 .lss 3 46 45] [1,2,6,7,8,24,25,26,44,45,46,47] (.seq (.cond (.t 47) .skip (.exit 2)) amq)
def amr:aA:=.seq (.block 1 (a6 [aL 28 26,hz 29 31 24 26,cp 30 71 29,oy 9 71,cc 8 28,j8 71 9 30] [1,2,6,7,8,9,24,25,26] (a6 [dS 32 38 2 0,cp 33 34 32,cp 34 71 9,hS 35 96 33 34,aL 31 35,jt 36 31 0,jt 37 31 1,cc 10 36,cc 11 37] [1,2,6,7,8,10,11,24,25,26] (.seq (a6 [aL 38 11,oY 39 38] [1,2,6,7,8,10,24,25,26,39] (.cond (.t 39) (a6 [p9 4,jD 5 false] [4,5] .ret) .skip)) (a6 [aL 40 7,aL 41 10,uE 42 129 41,yd 43 129 129 40 42,cc 7 43] [1,2,6,7,8,10,24,25,26] (a6 [aL 44 10,km 45 130 44,yc 46 0] [1,2,6,7,8,24,25,26,44,45,46] (.block 2 (.loop Za)))))))) (.eD [dG 66 .add 3 26 1,aL 26 66] (some [1,2,6,7,24,25,26]))
def Zb:aA:=a6 [jd 27 .lss 3 26 25] [1,2,6,7,24,25,26,27] (.seq (.cond (.t 27) .skip (.exit 0)) amr)
def Zc:aA:=.seq (a6 [aL 74 18,aL 75 1,km 76 31 75,jd 77 .lss 3 74 76] [1,6,7,17,18,68,69,77] (.cond (.t 77) .skip (.exit 6))) (.seq (.block 7 (.j3 [aL 80 6,aL 81 17,aL 82 18,aL 83 7,aL 84 17,hz 85 129 83 84,cp 86 130 85,aL 87 7,aL 88 18,hz 89 129 87 88,cp 90 130 89,ro 91 (.call (.f 99) [(.t 80),(.t 81),(.t 82),(.t 86),(.t 90)])] [[],[],[],[],[],[3,4],[5],[],[],[7,8],[9],[0,1,2,6,10]] (some [1,6,7,17,18,68,69]))) (.eD [aL 78 18,dG 79 .add 3 78 1,cc 18 79] (some [1,6,7,17,18,68,69])))
def Zd:aA:=a6 [jd 70 .lss 3 69 68] [1,6,7,68,69,70] (.seq (.cond (.t 70) .skip (.exit 4)) (.seq (.block 5 (a6 [aL 71 69,cc 17 71] [1,6,7,17,68,69] (a6 [aL 72 17,dG 73 .add 3 72 1,cc 18 73] [1,6,7,17,18,68,69] (.block 6 (.loop Zc))))) (.eD [dG 92 .add 3 69 1,aL 69 92] (some [1,6,7,68,69]))))
def ams:aA:=a6 [cp 19 38 2,aL 20 1,ro 21 (.sN),ro 22 (.gH 150 [(0,(.t 19)),(1,(.t 20)),(3,(.t 21))]),ro 23 (.iF 150 (.t 22)),cc 6 23] [1,2,6] (a6 [p9 7] [1,2,6,7] (.seq (a6 [aL 24 1,km 25 31 24,yc 26 0] [1,2,6,7,24,25,26] (.block 0 (.loop Zb))) (.seq (a6 [aL 67 1,km 68 31 67,yc 69 0] [1,6,7,68,69] (.block 4 (.loop Zd))) (rY [aL 93 6,nK 94 93,dS 95 150 94 2,cp 96 96 95,aL 97 6,nK 98 97,dS 99 150 98 2,cp 100 96 99,km 101 96 100,dG 102 .leq 3 101 200,⟨some 4,.p0 (.t 96),none⟩,cc 5 102] [[],[0],[1],[2],[],[4],[5],[6],[7],[8],[3,0,1,2,3],[9,10,0,1,2,3,4,5,6,7,8,9,10]] [4,5,6] .ret))))
def amt:aA:=a6 [ro 2 (.iF 38 (.t 0)),p9 4,jD 5 false] [1,2] ams
noncomputable def amu:aA:=bO (bN 62 [0,1] Tryz.f32 [[1,2],[1,2,6],[2,6,14,15,16],[2,6,14,15,16,17],[2,6,8,14,15,16],[2,8,9,10,14,15,16],[2,8,9,14,15,16,27],[4,5],[2,8,9,14,15,16,33],[4,5],[2,8,11,14,15,16],[2,11,14,15,16,57],[4,5],[2,6,14,15,16],[2,6,14,15,16],[4,5]])
noncomputable def c9:aA:=bO (bN 19 [0,1] Tryz.f9 [[1,2],[1,2,6],[4,5],[1,2,10],[4,5],[4,5]])
noncomputable def amv:aA:=bO (bN 26 [0,1] Tryz.f63 [[0,1],[0,1,10],[4],[0,1,5],[0,1,5,14],[0,1,5,25],[4],[0,1,5],[4]])
noncomputable def amw:aA:=bO (bN 21 [0,1] Tryz.f33 [[2,3],[2,3,9],[4],[2,3,14],[4],[20],[4],[4]])
noncomputable def Ar:aA:=bO (bN 27 [0,1] Tryz.f10 [[0,1],[0,1,10],[4],[0,1,5],[0,1,5,14],[0,1,5,26],[4],[0,1,5],[4]])
noncomputable def amx:aA:=bO (bN 15 [0,1] Tryz.f244 [[2,3],[2,3,9],[4],[14],[4],[4]])
noncomputable def c213:aA:=bO (bN 27 [0,1] Tryz.f213 [[0,1],[0,1,10],[4],[0,1,5],[0,1,5,14],[0,1,5,26],[4],[0,1,5],[4]])
noncomputable def amy:aA:=bO (bN 27 [0,1] Tryz.f181 [[0,1],[0,1,10],[4],[0,1,5],[0,1,5,14],[0,1,5,26],[4],[0,1,5],[4]])
noncomputable def c139:aA:=bO (bN 26 [0,1] Tryz.f139 [[2,3],[2,3,9],[4],[2,3,14],[4],[2,3,19],[4],[25],[4],[4]])
noncomputable def amz:aA:=bO (bN 27 [0,1] Tryz.f100 [[0,1],[0,1,10],[4],[0,1,5],[0,1,5,14],[0,1,5,26],[4],[0,1,5],[4]])
noncomputable def amA:aA:=bO (bN 21 [0,1] Tryz.f64 [[2,3],[2,3,9],[4],[2,3,14],[4],[20],[4],[4]])
noncomputable def Hl:aA:=bO (bN 27 [0,1] Tryz.f34 [[0,1],[0,1,10],[4],[0,1,5],[0,1,5,14],[0,1,5,26],[4],[0,1,5],[4]])
noncomputable def amB:aA:=bO (bN 16 [0,1] Tryz.f65 [[2,3],[2,3,9],[4],[15],[4],[4]])
noncomputable def amC:aA:=bO (bN 27 [0,1] Tryz.f35 [[0,1],[0,1,10],[4],[0,1,5],[0,1,5,14],[0,1,5,26],[4],[0,1,5],[4]])
noncomputable def amD:aA:=bO (bN 20 [0,1] Tryz.f66 [[2,3],[2,3,9],[4],[2,3,14],[4],[19],[4],[4]])
noncomputable def amE:aA:=bO (bN 27 [0,1] Tryz.f36 [[0,1],[0,1,10],[4],[0,1,5],[0,1,5,14],[0,1,5,26],[4],[0,1,5],[4]])
noncomputable def c37:aA:=bO (bN 26 [0,1] Tryz.f37 [[0,1],[0,1,10],[4],[0,1,5],[0,1,5,14],[0,1,5,25],[4],[0,1,5],[4]])
noncomputable def amF:aA:=bO (bN 35 [0,1] Tryz.f11 [[2,3],[2,3,10],[4],[2,3,16],[4],[2,3,22],[4],[2,3,28],[4],[34],[4],[4]])
noncomputable def amG:aA:=bO (bN 25 [0,1] Tryz.f38 [[2,3],[2,3,9],[4],[2,3,14],[4],[2,3,19],[4],[24],[4],[4]])
noncomputable def c12:aA:=bO (bN 27 [0,1] Tryz.f12 [[0,1],[0,1,10],[4],[0,1,5],[0,1,5,14],[0,1,5,26],[4],[0,1,5],[4]])
def Ze:aA:=.seq (a6 [aL 6 0,dG 7 .gtr 3 6 0] [0,3,7] (.cond (.t 7) .skip (.exit 0))) (.block 1 (a6 [aL 8 0,dG 9 .rem 3 8 10,ro 10 (.eS .add 3 (.c (.int .i64 48)) (.t 9)),Jv 11 3 5 10,uE 12 121 11,Jv 13 121 9 12,aL 14 3,jd 15 .add 9 13 14,cc 3 15] [0,3] (.eD [aL 16 0,dG 17 .quo 3 16 10,cc 0 17] (some [0,3]))))
def amH:aA:=a6 [ro 2 (.h5 (.c (.str [])))] [0] (.seq (a6 [aL 4 0,dG 5 .leq 3 4 0] [0,5] (.cond (.t 5) (a6 [ro 2 (.h5 (.c (.str [109,48])))] [2] .ret) .skip)) (a6 [ro 3 (.h5 (.c (.str [])))] [0,3] (.seq (.block 0 (.loop Ze)) (a6 [aL 18 3,ro 19 (.eS .add 9 (.c (.str [109])) (.t 18)),cc 2 19] [2] .ret))))
noncomputable def amI:aA:=bO (bN 27 [0] Tryz.f140 [[0,1],[0,1,5],[0,1,5,9],[0,1,5],[0,1,5],[0,1,5],[0,1,5],[0,1,5],[0,4]])
noncomputable def amJ:aA:=bO (bN 19 [0] Tryz.f101 [[0,1],[0,1,5],[0,1,5,9],[0,1,5],[0,1,5],[0,4]])
noncomputable def amK:aA:=bO (bN 42 [0] Tryz.f67 [[0,1],[0,1,5],[0,1,5,9],[0,1,5],[0,1,5],[0,1,5],[0,1,5],[0,1,5],[0,1,5],[0,1,5],[0,1,5],[0,4]])
noncomputable def amL:aA:=bO (bN 35 [0] Tryz.f39 [[0,1],[0,1,5],[0,1,5,9],[0,1,5],[0,1,5],[0,1,5],[0,1,5],[0,1,5],[0,1,5],[0,4]])
noncomputable def Hm:aA:=bO (bN 19 [0] Tryz.f44 [[0,1],[0,1,5],[0,1,5,9],[0,1,5],[0,1,5],[0,1,5],[0,4]])
noncomputable def c40:aA:=bO (bN 27 [0] Tryz.f40 [[0,1],[0,1,5],[0,1,5,9],[0,1,5],[0,1,5],[0,1,5],[0,1,5],[0,4]])
noncomputable def amM:aA:=bO (bN 37 [0] Tryz.f41 [[0,1],[0,1,5],[0,1,5,9],[0,1,5],[0,1,5],[0,1,5],[0,1,5],[0,1,5],[0,1,5],[0,1,5],[0,4]])
noncomputable def amN:aA:=bO (bN 20 [0] Tryz.f42 [[0,1],[0,1,5],[0,1,5,9],[0,1,5],[0,1,5],[0,1,5],[0,4]])
def amO:aA:=a6 [dS 5 38 2 0,cp 6 34 5,aL 7 1,⟨some 8,.nd (.f 39) [(.t 6),(.t 7)] [2],none⟩,cc 1 8] [0,1,2] (a6 [dS 9 38 2 1,cp 10 35 9,aL 11 1,⟨some 12,.nd (.f 40) [(.t 10),(.t 11)] [2],none⟩,cc 1 12] [0,1,2] (a6 [dS 13 38 2 2,cp 14 36 13,aL 15 1,⟨some 16,.nd (.f 41) [(.t 14),(.t 15)] [2],none⟩,cc 1 16] [0,1,2] (a6 [dS 17 38 2 3,cp 18 25 17,aL 19 1,⟨some 20,.nd (.f 42) [(.t 18),(.t 19)] [2],none⟩,cc 1 20] [0,1,2] (a6 [dS 21 38 2 4,cp 22 25 21,aL 23 1,hS 24 42 22 23,cc 1 24] [0,1] (a6 [aL 25 1,cc 4 25] [0,4] .ret)))))
def amP:aA:=a6 [⟨some 2,.mf 38 (.t 0),none⟩,iB 4 0] [0,1,2] amO
noncomputable def gS:aA:=bO (bN 42 [0] Tryz.f14 [[0,1],[0,1,5],[0,1,5,9],[0,1,5],[0,1,5],[0,1,5],[0,1,5],[0,1,5],[0,1,5],[0,1,5],[0,1,5],[0,1,5],[0,4]])
noncomputable def amQ:aA:=bO (bN 34 [0] Tryz.f15 [[0,1],[0,1,5],[0,1,5,9],[0,1,5],[0,1,5],[0,1,5],[0,1,5],[0,1,5],[0,1,5],[0,4]])
noncomputable def amR:aA:=bO (bN 21 [0] Tryz.f45 [[0,1],[0,1,5],[0,1,5,9],[0,1,5,17],[4],[0,1,5],[0,1,5],[4]])
noncomputable def kN:aA:=bO (bN 40 [0] Tryz.f16 [[0,1],[0,1,5],[0,1,5,9],[0,1,5,18],[4],[0,1,5],[0,1,5,27],[4],[0,1,5],[0,1,5],[0,1,5,38],[4],[0,1,5],[4]])
def amS:aA:=.seq (a6 [aL 102 15,aL 103 6,hS 104 10 102 103,oY 105 104,aL 106 105,gv 107 106 (.gY (.t 16)),gv 108 106 (.gY (.t 7)),gv 109 106 (.eS .neq 2 (.t 107) (.t 108)),ro 110 (.pick (.t 106) (.c (.bool true)) (.t 109))] [10,13,110] (.cond (.t 110) (a6 [jD 4 false] [4] .ret) .skip)) (a6 [iB 14 1] [10,13,14] (a6 [aL 111 10,aL 112 14,hS 113 16 111 112,cc 14 113] [13,14] (.seq (a6 [aL 114 14,dG 115 .lss 3 114 0] [13,14,115] (.cond (.t 115) (a6 [jD 4 false] [4] .ret) .skip)) (.seq (a6 [aL 116 14,aL 117 13,jd 118 .neq 3 116 117] [118] (.cond (.t 118) (a6 [jD 4 false] [4] .ret) .skip)) (a6 [jD 4 true] [4] .ret)))))
def amT:aA:=a6 [aL 86 10,aL 87 14,hS 88 16 86 87,cc 14 88] [1,2,6,7,10,13,14] (.seq (a6 [aL 89 14,dG 90 .lss 3 89 0] [1,2,6,7,10,13,14,90] (.cond (.t 90) (a6 [jD 4 false] [4] .ret) .skip)) (.seq (a6 [aL 91 14,aL 92 13,jd 93 .neq 3 91 92] [1,2,6,7,10,13,93] (.cond (.t 93) (a6 [jD 4 false] [4] .ret) .skip)) (a6 [cp 95 27 2,hA 96 7 95,aL 97 1,hA 98 8 97,hS 99 9 96 98,aL 94 99,jt 100 94 0,jt 101 94 1,cc 15 100,cc 16 101] [6,7,10,13,15,16] amS)))
def amU:aA:=.seq (a6 [aL 70 12,dG 71 .lss 3 70 0,aL 72 71,gv 73 72 (.gY (.t 10)),gv 74 72 (.gY (.t 6)),⟨some 75,.call (.f 10) [(.t 73),(.t 74)],some (72,false)⟩,gv 76 72 (.un .not (.t 75)),ro 77 (.pick (.t 72) (.c (.bool true)) (.t 76)),aL 78 77,gv 79 78 (.gY (.t 11)),gv 80 78 (.gY (.t 7)),gv 81 78 (.eS .neq 2 (.t 79) (.t 80)),ro 82 (.pick (.t 78) (.c (.bool true)) (.t 81))] [1,2,6,7,10,82] (.cond (.t 82) (a6 [jD 4 false] [4] .ret) .skip)) (a6 [iB 13 1] [1,2,6,7,10,13] (a6 [aL 83 10,aL 84 13,hS 85 15 83 84,cc 13 85] [1,2,6,7,10,13] (a6 [iB 14 1] [1,2,6,7,10,13,14] amT)))
def amV:aA:=.seq (rY [cp 54 38 8,cp 55 27 2,hA 56 7 55,hS 57 11 54 56,oY 58 57] [[],[],[1],[0,2,2],[3]] [1,2,6,7,8,9,10,11,58] (.cond (.t 58) (a6 [jD 4 false] [4] .ret) .skip)) (.seq (a6 [aL 59 9,aL 60 1,hA 61 8 60,hS 62 12 59 61,oY 63 62] [1,2,6,7,8,9,10,11,63] (.cond (.t 63) (a6 [jD 4 false] [4] .ret) .skip)) (a6 [iB 12 1] [1,2,6,7,8,9,10,11,12] (a6 [cp 64 38 8,aL 65 12,hS 66 13 64 65,cc 12 66] [1,2,6,7,9,10,11,12] (a6 [aL 67 9,aL 68 12,hS 69 14 67 68,cc 12 69] [1,2,6,7,10,11,12] amU))))
def amW:aA:=a6 [cp 35 27 2,hA 36 7 35,oy 8 38,j8 38 8 36] [1,2,6,7,8] (a6 [aL 37 1,hA 38 8 37,cc 9 38] [1,2,6,7,8,9] (a6 [cp 40 38 8,aL 41 9,hS 42 9 40 41,aL 39 42,jt 43 39 0,jt 44 39 1,cc 10 43,cc 11 44] [1,2,6,7,8,9,10,11] (.seq (a6 [aL 45 10,aL 46 6,hS 47 10 45 46,oY 48 47,aL 49 48,gv 50 49 (.gY (.t 11)),gv 51 49 (.gY (.t 7)),gv 52 49 (.eS .neq 2 (.t 50) (.t 51)),ro 53 (.pick (.t 49) (.c (.bool true)) (.t 52))] [1,2,6,7,8,9,10,11,53] (.cond (.t 53) (a6 [jD 4 false] [4] .ret) .skip)) amV)))
def amX:aA:=a6 [cp 17 27 2,aL 18 5,hS 19 4 17 18,cc 5 19] [1,2,5] (.seq (a6 [aL 20 5,dG 21 .lss 3 20 0] [1,2,5,21] (.cond (.t 21) (a6 [jD 4 true] [4] .ret) .skip)) (a6 [aL 22 1,aL 23 5,hS 24 5 22 23,cc 5 24] [1,2,5] (.seq (a6 [aL 25 5,dG 26 .lss 3 25 0] [1,2,26] (.cond (.t 26) (a6 [jD 4 true] [4] .ret) .skip)) (a6 [cp 28 27 2,hA 29 7 28,aL 30 1,hA 31 8 30,hS 32 6 29 31,aL 27 32,jt 33 27 0,jt 34 27 1,cc 6 33,cc 7 34] [1,2,6,7] amW))))
def c3:aA:=a6 [ro 2 (.iF 27 (.t 0)),jD 4 false] [1,2] (a6 [iB 5 1048576] [1,2,5] amX)
def Hn:=PLift.up (And.intro @Bool.not_true @Bool.not_false)
def ay1:=PLift.up (And.intro @length_append.{0} (And.intro @length_cons.{0} (And.intro @length_nil.{0} (And.intro @length_map.{0,0} (And.intro @length_replicate.{0} (And.intro @Nat.zero_add @Nat.add_zero))))))
end Go.Proofs.YtmaepbgkcmjcjajGreatDoor
