/- Part of a proof that a law returns true for every input. No condition. -/
import Derived.Test.YtmaepbgkcmjcjagGreatDoorTb
import Derived.Test.YtmaepbgkcmjcjagGreatDoorFwL
import Derived.Test.YtmaepbgkcmjcjagGreatDoorP3
namespace Go.Proofs.YtmaepbgkcmjcjagGreatDoor
open List Option Go.IntKind Nat
open Go Go.ef Go.lZ
set_option linter.unusedSimpArgs false
def mQ (x:ja):I:=.agg [.int .i64 x.Kind,.int .i64 x.Value]
theorem ahL (x:ja):(mQ x).share=mQ x:=by
 simp only[mQ,cY]
theorem auP (x:ja):(mQ x).cZ=true:=by
 simp only[mQ,I.cZ,I.ht,Bool.and_self]
def lf (x:axm):I:=.slice (x.map mQ)
theorem Wj (x:axm):(lf x).share=lf x:=by
 simp only[lf,cY, @b0 _ mQ mQ (λ_=>ahL _)]
def kh (x:k7):I:=.agg [.int .i64 x.Kind,.int .i64 x.Number,.str x.Name,.slice (x.cO.map lf)]
theorem Wk (x:k7):(kh x).share=kh x:=by
 simp only[kh,cY, @b0 _ lf lf (λ_=>Wj _)]
def jF (x:k8):I:=.agg [.str x.Name,.int .i64 x.ej,.slice (x.Body.map kh)]
theorem Wl (x:k8):(jF x).share=jF x:=by
 simp only[jF,cY, @b0 _ kh kh (λ_=>Wk _)]
def a1 (x:Int):I:=.int .i64 x
theorem jW (x:Int):(a1 x).share=a1 x:=by
 simp only[a1,cY]
theorem JJ (x:Int):(a1 x).cZ=true:=by
 simp only[a1,I.cZ,I.ht,Bool.and_self]
def jG (x:k9):I:=.agg [.int .i64 x.cD,.slice (x.bV.map a1)]
theorem Wm (x:k9):(jG x).share=jG x:=by
 simp only[jG,cY, @b0 _ a1 a1 (λ_=>jW _)]
def jk (x:kQ):I:=.agg [.str x.Left,.str x.cQ,.str x.Result]
theorem Wn (x:kQ):(jk x).share=jk x:=by
 simp only[jk,cY]
theorem auQ (x:kQ):(jk x).cZ=true:=by
 simp only[jk,I.cZ,I.ht,Bool.and_self]
def aW (x:axa):I:=.str x
theorem lg (x:axa):(aW x).share=aW x:=by
 simp only[aW,cY]
theorem Wo (x:axa):(aW x).cZ=true:=by
 simp only[aW,I.cZ,I.ht,Bool.and_self]
def uD (x:oy):I:=.agg [.slice (x.cq.map jF),.slice (x.b_.map jG),.slice (x.b2.map jk),.slice (x.cw.map aW),.slice (x.ct.map aW)]
theorem auR (x:oy):(uD x).share=uD x:=by
 simp only[uD,cY, @b0 _ jF jF (λ_=>Wl _), @b0 _ jG jG (λ_=>Wm _), @b0 _ jk jk (λ_=>Wn _), @b0 _ aW aW (λ_=>lg _)]
def lF (x:k_):I:=.agg [.int .i64 x.cD,.int .i64 x.Part,.slice (x.bV.map a1)]
theorem auS (x:k_):(lF x).share=lF x:=by
 simp only[lF,cY, @b0 _ a1 a1 (λ_=>jW _)]
def PM (x:axo):I:=.slice (x.map jF)
theorem auT (x:axo):(PM x).share=PM x:=by
 simp only[PM,cY, @b0 _ jF jF (λ_=>Wl _)]
def PN (x:axp):I:=.slice (x.map jG)
theorem auU (x:axp):(PN x).share=PN x:=by
 simp only[PN,cY, @b0 _ jG jG (λ_=>Wm _)]
def PO (x:axq):I:=.slice (x.map jk)
theorem auV (x:axq):(PO x).share=PO x:=by
 simp only[PO,cY, @b0 _ jk jk (λ_=>Wn _)]
def FX (x:awZ):I:=.slice (x.map aW)
theorem auW (x:awZ):(FX x).share=FX x:=by
 simp only[FX,cY, @b0 _ aW aW (λ_=>lg _)]
def PQ (x:axn):I:=.slice (x.map kh)
theorem auX (x:axn):(PQ x).share=PQ x:=by
 simp only[PQ,cY, @b0 _ kh kh (λ_=>Wk _)]
def PR (x:axj):I:=.slice (x.map lf)
theorem auY (x:axj):(PR x).share=PR x:=by
 simp only[PR,cY, @b0 _ lf lf (λ_=>Wj _)]
def FY (x:axc):I:=.slice (x.map a1)
theorem auZ (x:axc):(FY x).share=FY x:=by
 simp only[FY,cY, @b0 _ a1 a1 (λ_=>jW _)]
def ed (x:bZ):I:=.agg [.int .i64 x.Kind,.int .i64 x.Value]
theorem JK (x:bZ):(ed x).share=ed x:=by
 simp only[ed,cY]
theorem ahM (x:bZ):(ed x).cZ=true:=by
 simp only[ed,I.cZ,I.ht,Bool.and_self]
def iO (x:axs):I:=.slice (x.map ed)
theorem PS (x:axs):(iO x).share=iO x:=by
 simp only[iO,cY, @b0 _ ed ed (λ_=>JK _)]
def eh (x:cG):I:=.agg [.int .i64 x.Kind,.int .i64 x.Number,.str x.Name,.slice (x.cO.map iO)]
theorem JL (x:cG):(eh x).share=eh x:=by
 simp only[eh,cY, @b0 _ iO iO (λ_=>PS _)]
def ba (x:a6):I:=.agg [.str x.Name,.int .i64 x.ej,.slice (x.Body.map eh)]
theorem sJ (x:a6):(ba x).share=ba x:=by
 simp only[ba,cY, @b0 _ eh eh (λ_=>JL _)]
def nH (x:axs):I:=.aj 2 (x.map ed)
theorem Wp (x:axs):(nH x).share=iO x:=by
 simp only[nH,iO,cY, @b0 _ ed ed (λ_=>JK _)]
theorem Wq (x:axs):(nH x).cZ=true:=by
 simp only[nH,I.cZ,I.ht,Bool.and_self, @kO _ ed (λ_=>ahM _)]
def mR (x:cG):I:=.agg [.int .i64 x.Kind,.int .i64 x.Number,.str x.Name,.aj 1 (x.cO.map nH)]
theorem Wr (x:cG):(mR x).share=eh x:=by
 simp only[mR,eh,cY, @b0 _ nH iO (λ_=>Wp _)]
theorem Ws (x:cG):(mR x).cZ=true:=by
 simp only[mR,I.cZ,I.ht,Bool.and_self, @kO _ nH (λ_=>Wq _)]
def lG (x:a6):I:=.agg [.str x.Name,.int .i64 x.ej,.aj 4 (x.Body.map mR)]
theorem FZ (x:a6):(lG x).share=ba x:=by
 simp only[lG,ba,cY, @b0 _ mR eh (λ_=>Wr _)]
theorem Wt (x:a6):(lG x).cZ=true:=by
 simp only[lG,I.cZ,I.ht,Bool.and_self, @kO _ mR (λ_=>Ws _)]
def JM (x:axt):I:=.aj 4 (x.map mR)
def F1 (x:axt):I:=.slice (x.map eh)
theorem au0 (x:axt):(F1 x).share=F1 x:=by
 simp only[F1,cY, @b0 _ eh eh (λ_=>JL _)]
theorem au1 (x:axt):(JM x).share=F1 x:=by
 simp only[JM,F1,cY, @b0 _ mR eh (λ_=>Wr _)]
theorem au2 (x:axt):(JM x).cZ=true:=by
 simp only[JM,I.cZ,I.ht,Bool.and_self, @kO _ mR (λ_=>Ws _)]
def JN (x:axk):I:=.aj 1 (x.map nH)
def F2 (x:axk):I:=.slice (x.map iO)
theorem au3 (x:axk):(F2 x).share=F2 x:=by
 simp only[F2,cY, @b0 _ iO iO (λ_=>PS _)]
theorem au4 (x:axk):(JN x).share=F2 x:=by
 simp only[JN,F2,cY, @b0 _ nH iO (λ_=>Wp _)]
theorem au5 (x:axk):(JN x).cZ=true:=by
 simp only[JN,I.cZ,I.ht,Bool.and_self, @kO _ nH (λ_=>Wq _)]
def dh (x:di):I:=.agg [.int .i64 x.cD,.slice (x.bV.map a1)]
theorem zt (x:di):(dh x).share=dh x:=by
 simp only[dh,cY, @b0 _ a1 a1 (λ_=>jW _)]
def lH (x:di):I:=.agg [.int .i64 x.cD,.aj 1 (x.bV.map a1)]
theorem F3 (x:di):(lH x).share=dh x:=by
 simp only[lH,dh,cY, @b0 _ a1 a1 (λ_=>jW _)]
theorem Wu (x:di):(lH x).cZ=true:=by
 simp only[lH,I.cZ,I.ht,Bool.and_self, @kO _ a1 (λ_=>JJ _)]
def JO (x:axc):I:=.aj 1 (x.map a1)
theorem au6 (x:axc):(JO x).share=FY x:=by
 simp only[JO,FY,cY, @b0 _ a1 a1 (λ_=>jW _)]
theorem au7 (x:axc):(JO x).cZ=true:=by
 simp only[JO,I.cZ,I.ht,Bool.and_self, @kO _ a1 (λ_=>JJ _)]
def bQ (x:b5):I:=.agg [.str x.Left,.str x.cQ,.str x.Result]
theorem rk (x:b5):(bQ x).share=bQ x:=by
 simp only[bQ,cY]
theorem Wv (x:b5):(bQ x).cZ=true:=by
 simp only[bQ,I.cZ,I.ht,Bool.and_self]
def xy (x:cJ):I:=.agg [.aj 3 (x.cq.map lG),.aj 2 (x.b_.map lH),.aj 3 (x.b2.map bQ),.aj 1 (x.cw.map aW),.aj 1 (x.ct.map aW)]
def fe (x:cJ):I:=.agg [.slice (x.cq.map ba),.slice (x.b_.map dh),.slice (x.b2.map bQ),.slice (x.cw.map aW),.slice (x.ct.map aW)]
theorem au8 (x:cJ):(fe x).share=fe x:=by
 simp only[fe,cY, @b0 _ ba ba (λ_=>sJ _), @b0 _ dh dh (λ_=>zt _), @b0 _ bQ bQ (λ_=>rk _), @b0 _ aW aW (λ_=>lg _)]
theorem au9 (x:cJ):(xy x).share=fe x:=by
 simp only[xy,fe,cY, @b0 _ lG ba (λ_=>FZ _), @b0 _ lH dh (λ_=>F3 _), @b0 _ bQ bQ (λ_=>rk _), @b0 _ aW aW (λ_=>lg _)]
theorem au_ (x:cJ):(xy x).cZ=true:=by
 simp only[xy,I.cZ,I.ht,Bool.and_self, @kO _ lG (λ_=>Wt _), @kO _ lH (λ_=>Wu _), @kO _ bQ (λ_=>Wv _), @kO _ aW (λ_=>Wo _)]
def JP (x:axu):I:=.aj 3 (x.map lG)
def F4 (x:axu):I:=.slice (x.map ba)
theorem ava (x:axu):(F4 x).share=F4 x:=by
 simp only[F4,cY, @b0 _ ba ba (λ_=>sJ _)]
theorem avb (x:axu):(JP x).share=F4 x:=by
 simp only[JP,F4,cY, @b0 _ lG ba (λ_=>FZ _)]
theorem avc (x:axu):(JP x).cZ=true:=by
 simp only[JP,I.cZ,I.ht,Bool.and_self, @kO _ lG (λ_=>Wt _)]
def JQ (x:axv):I:=.aj 2 (x.map lH)
def F5 (x:axv):I:=.slice (x.map dh)
theorem avd (x:axv):(F5 x).share=F5 x:=by
 simp only[F5,cY, @b0 _ dh dh (λ_=>zt _)]
theorem ave (x:axv):(JQ x).share=F5 x:=by
 simp only[JQ,F5,cY, @b0 _ lH dh (λ_=>F3 _)]
theorem avf (x:axv):(JQ x).cZ=true:=by
 simp only[JQ,I.cZ,I.ht,Bool.and_self, @kO _ lH (λ_=>Wu _)]
def JR (x:axw):I:=.aj 3 (x.map bQ)
def F6 (x:axw):I:=.slice (x.map bQ)
theorem avg (x:axw):(F6 x).share=F6 x:=by
 simp only[F6,cY, @b0 _ bQ bQ (λ_=>rk _)]
theorem avh (x:axw):(JR x).share=F6 x:=by
 simp only[JR,F6,cY, @b0 _ bQ bQ (λ_=>rk _)]
theorem avi (x:axw):(JR x).cZ=true:=by
 simp only[JR,I.cZ,I.ht,Bool.and_self, @kO _ bQ (λ_=>Wv _)]
def JS (x:awZ):I:=.aj 1 (x.map aW)
theorem avj (x:awZ):(JS x).share=FX x:=by
 simp only[JS,FX,cY, @b0 _ aW aW (λ_=>lg _)]
theorem avk (x:awZ):(JS x).cZ=true:=by
 simp only[JS,I.cZ,I.ht,Bool.and_self, @kO _ aW (λ_=>Wo _)]
def bz (x:bd):I:=.agg [.int .i64 x.cD,.int .i64 x.Part,.slice (x.bV.map a1)]
theorem vF (x:bd):(bz x).share=bz x:=by
 simp only[bz,cY, @b0 _ a1 a1 (λ_=>jW _)]
def eV (x:bd):I:=.agg [.int .i64 x.cD,.int .i64 x.Part,.aj 1 (x.bV.map a1)]
theorem pc (x:bd):(eV x).share=bz x:=by
 simp only[eV,bz,cY, @b0 _ a1 a1 (λ_=>jW _)]
theorem Cv (x:bd):(eV x).cZ=true:=by
 simp only[eV,I.cZ,I.ht,Bool.and_self, @kO _ a1 (λ_=>JJ _)]
def gA (x:bh):I:=.agg [.str x.Label,.int .i64 x.nC,.int .i64 x.Second,.slice (x.State.map bz)]
theorem ahN (x:bh):(gA x).share=gA x:=by
 simp only[gA,cY, @b0 _ bz bz (λ_=>vF _)]
def F7 (x:axx):I:=.slice (x.map bz)
theorem avl (x:axx):(F7 x).share=F7 x:=by
 simp only[F7,cY, @b0 _ bz bz (λ_=>vF _)]
def cU (x:a7):I:=.agg [.str x.Label,bz x.Next]
theorem Cw (x:a7):(cU x).share=cU x:=by
 simp only[cU,cY,vF]
def gi (x:axz):I:=.slice (x.map cU)
theorem avm (x:axz):(gi x).share=gi x:=by
 simp only[gi,cY, @b0 _ cU cU (λ_=>Cw _)]
def hC (x:a7):I:=.agg [.str x.Label,eV x.Next]
theorem F8 (x:a7):(hC x).share=cU x:=by
 simp only[hC,cU,cY,pc]
theorem ahO (x:a7):(hC x).cZ=true:=by
 simp only[hC,I.cZ,I.ht,Bool.and_self,Cv]
def F9 (x:axz):I:=.aj 4 (x.map hC)
theorem avn (x:axz):(F9 x).share=gi x:=by
 simp only[F9,gi,cY, @b0 _ hC cU (λ_=>F8 _)]
theorem avo (x:axz):(F9 x).cZ=true:=by
 simp only[F9,I.cZ,I.ht,Bool.and_self, @kO _ hC (λ_=>ahO _)]
def ff (x:du):I:=.agg [.int .i64 x.scope,.bool x.behind]
theorem Ww (x:du):(ff x).share=ff x:=by
 simp only[ff,cY]
theorem ahP (x:du):(ff x).cZ=true:=by
 simp only[ff,I.cZ,I.ht,Bool.and_self]
def F_ (x:Bool):I:=.bool x
theorem avp (x:Bool):(F_ x).share=F_ x:=by
 simp only[F_,cY]
theorem avq (x:Bool):(F_ x).cZ=true:=by
 simp only[F_,I.cZ,I.ht,Bool.and_self]
theorem ahQ:(∀a0 J,(dj.mk a0 J).term=a0)/\(∀a0 J,(dj.mk a0 J).args=J):=⟨λ_ _=>rfl,λ_ _=>rfl⟩
mutual
def qw:dj->I
 | .mk a0 J=>.agg [ed a0,.slice (rl J)]
def rl:List dj->axi
 |[]=>[]
 |y::r=>.ref (qw y)::rl r
end
def pP (x:dj):I:=.ref (qw x)
theorem Wx:∀l,rl l=l.map pP
 |[]=>by simp only[rl,map_nil]
 |y::r=>by simp only[rl,map_cons,Wx r,pP]
theorem ahR (x:dj):qw x= .agg [ed x.term,.slice (x.args.map pP)]:=by
 cases x;simp only[qw,Wx,dj.term,dj.args]
mutual
theorem Wy:∀x:dj,(qw x).share=qw x
 | .mk a0 J=>by simp only[qw,cY,I.share,I.shares,Wz J,JK]
theorem Wz:∀l:List dj,I.shares (rl l)=rl l
 |[]=>by simp only[rl,I.shares]
 |y::r=>by simp only[rl,I.shares,I.share,Wy y,Wz r]
end
theorem ahS (x:dj):(pP x).share=pP x:=by simp only[pP,I.share,Wy]
mutual
def xz:dj->I
 | .mk a0 J=>.agg [ed a0,.aj 1 (sK J)]
def sK:List dj->axi
 |[]=>[]
 |y::r=>.aM (xz y)::sK r
end
def lI (x:dj):I:=.aM (xz x)
theorem WA:∀l,sK l=l.map lI
 |[]=>by simp only[sK,map_nil]
 |y::r=>by simp only[sK,map_cons,WA r,lI]
theorem ahT (x:dj):xz x= .agg [ed x.term,.aj 1 (x.args.map lI)]:=by
 cases x;simp only[xz,WA,dj.term,dj.args]
mutual
theorem WB:∀x:dj,(xz x).share=qw x
 | .mk a0 J=>by simp only[xz,qw,cY,I.share,I.shares,WC J,JK]
theorem WC:∀l:List dj,I.shares (sK l)=rl l
 |[]=>by simp only[sK,rl,I.shares]
 |y::r=>by simp only[sK,rl,I.shares,I.share,WB y,WC r]
end
theorem WD (x:dj):(lI x).share=pP x:=by simp only[lI,pP,I.share,WB]
mutual
theorem WE:∀x:dj,(xz x).cZ=true
 | .mk a0 J=>by simp[xz,I.cZ,I.ht,WG J,ed]
theorem WG:∀l:List dj,I.ht (sK l)=true
 |[]=>by simp only[sK,I.ht]
 |y::r=>by simp only[sK,I.ht,I.cZ,WE y,WG r,Bool.and_self]
end
theorem ahU (x:dj):(lI x).cZ=true:=by simp only[lI,I.cZ,WE]
def JT (x:List dj):I:=.aj 1 (x.map lI)
def Ga (x:List dj):I:=.slice (x.map pP)
theorem avr (x:List dj):(Ga x).share=Ga x:=by
 simp only[Ga,cY, @b0 _ pP pP (λ_=>ahS _)]
theorem avs (x:List dj):(JT x).share=Ga x:=by
 simp only[JT,Ga,cY, @b0 _ lI pP (λ_=>WD _)]
theorem avt (x:List dj):(JT x).cZ=true:=by
 simp only[JT,I.cZ,I.ht,Bool.and_self, @kO _ lI (λ_=>ahU _)]
def fD (x:bh):I:=.agg [.str x.Label,.int .i64 x.nC,.int .i64 x.Second,.aj 3 (x.State.map eV)]
theorem WH (x:bh):(fD x).share=gA x:=by
 simp only[fD,gA,cY, @b0 _ eV bz (λ_=>pc _)]
theorem avu (x:bh):(fD x).cZ=true:=by
 simp only[fD,I.cZ,I.ht,Bool.and_self, @kO _ eV (λ_=>Cv _)]
def JU (x:axx):I:=.aj 3 (x.map eV)
theorem avv (x:axx):(JU x).share=F7 x:=by
 simp only[JU,F7,cY, @b0 _ eV bz (λ_=>pc _)]
theorem avw (x:axx):(JU x).cZ=true:=by
 simp only[JU,I.cZ,I.ht,Bool.and_self, @kO _ eV (λ_=>Cv _)]
noncomputable def ahV:aB:=bN (bM 12 [0] Tryz.f151 [[0,1],[1],[1,10],[4],[4]])
noncomputable def ahW:aB:=bN (bM 27 [0] Tryz.f112 [[0,1],[0,1],[0,1,11],[4],[0,1,5],[0,1,5,15],[0,1,5],[0,1,5,25],[4],[0,1,5],[4]])
noncomputable def ahX:aB:=bN (bM 19 [0] Tryz.f74 [[1,2],[1,2],[1,2,11],[4],[1],[1,17],[4],[4]])
noncomputable def c53:aB:=bN (bM 27 [0] Tryz.f53 [[0,1],[0,1],[0,1,11],[4],[0,1,5],[0,1,5,15],[0,1,5],[0,1,5,25],[4],[0,1,5],[4]])
noncomputable def ahY:aB:=bN (bM 19 [0] Tryz.f30 [[1,2],[1,2],[1,2,11],[4],[1],[1,17],[4],[4]])
noncomputable def c12:aB:=bN (bM 27 [0] Tryz.f12 [[0,1],[0,1],[0,1,11],[4],[0,1,5],[0,1,5,15],[0,1,5],[0,1,5,25],[4],[0,1,5],[4]])
noncomputable def ahZ:aB:=bN (bM 12 [0] Tryz.f33 [[0,1],[1],[1,10],[4],[4]])
noncomputable def c31:aB:=bN (bM 12 [0] Tryz.f31 [[1,2],[1],[1,10],[4],[4]])
noncomputable def ah0:aB:=bN (bM 27 [0] Tryz.f13 [[0,1],[0,1],[0,1,11],[4],[0,1,5],[0,1,5,15],[0,1,5],[0,1,5,25],[4],[0,1,5],[4]])
noncomputable def ah1:aB:=bN (bM 27 [0] Tryz.f32 [[1,2],[1,2],[1,2,11],[4],[1,2],[1,2,18],[4],[1],[1,25],[4],[4]])
noncomputable def gU:aB:=bN (bM 27 [0] Tryz.f14 [[0,1],[0,1],[0,1,11],[4],[0,1,5],[0,1,5,15],[0,1,5],[0,1,5,25],[4],[0,1,5],[4]])
noncomputable def ah2:aB:=bN (bM 28 [0] Tryz.f15 [[0,1],[0,1],[0,1,11],[4],[0,1,5],[0,1,5,15],[0,1,5],[0,1,5,26],[4],[0,1,5],[4]])
noncomputable def c4:aB:=bN (bM 36 [0] Tryz.f4 [[1,2],[1,2],[1,2,10],[4],[1,2],[1,2,16],[4],[1,2],[1,2,22],[4],[1,2],[1,2,28],[4],[1],[1,34],[4],[4]])
noncomputable def ki:aB:=bN (bM 12 [0] Tryz.f16 [[1,2],[1],[1,10],[4],[4]])
noncomputable def c5:aB:=bN (bM 27 [0] Tryz.f5 [[0,1],[0,1],[0,1,11],[4],[0,1,5],[0,1,5,15],[0,1,5],[0,1,5,25],[4],[0,1,5],[4]])
noncomputable def ah3:aB:=bN (bM 11 [0] Tryz.f185 [[1,2],[1,2,3],[1,2,3],[2,3],[2]])
noncomputable def c157:aB:=bN (bM 23 [0] Tryz.f157 [[0],[0,3],[0,3,4],[0,3,4,11],[0,3,4],[0,3,4],[2]])
noncomputable def ah4:aB:=bN (bM 23 [0] Tryz.f120 [[0],[0,3],[0,3,4],[0,3,4,11],[0,3,4],[0,3,4],[2]])
noncomputable def ah5:aB:=bN (bM 18 [0] Tryz.f92 [[1,2],[1,2,3],[1,2,3],[1,2,3],[1,2,3],[2,3],[2]])
noncomputable def ah6:aB:=bN (bM 23 [0] Tryz.f64 [[0],[0,3],[0,3,4],[0,3,4,11],[0,3,4],[0,3,4],[2]])
noncomputable def ah7:aB:=bN (bM 15 [0] Tryz.f43 [[1,2],[1,2,3],[1,2,3],[1,2,3],[2,3],[2]])
noncomputable def ah8:aB:=bN (bM 23 [0] Tryz.f19 [[0],[0,3],[0,3,4],[0,3,4,11],[0,3,4],[0,3,4],[2]])
noncomputable def c46:aB:=bN (bM 22 [0] Tryz.f46 [[0],[0,3],[0,3,4],[0,3,4,11],[0,3,4],[0,3,4],[2]])
noncomputable def Gb:aB:=bN (bM 12 [0] Tryz.f44 [[1,2],[1,2,3],[1,2,3],[2,3],[2]])
noncomputable def c20:aB:=bN (bM 23 [0] Tryz.f20 [[0],[0,3],[0,3,4],[0,3,4,11],[0,3,4],[0,3,4],[2]])
noncomputable def ah9:aB:=bN (bM 14 [0] Tryz.f45 [[1,2],[1,2,3],[1,2,3],[1,2,3],[2,3],[2]])
noncomputable def c21:aB:=bN (bM 23 [0] Tryz.f21 [[0],[0,3],[0,3,4],[0,3,4,11],[0,3,4],[0,3,4],[2]])
noncomputable def PT:aB:=bN (bM 22 [0] Tryz.f22 [[0],[0,3],[0,3,4],[0,3,4,11],[0,3,4],[0,3,4],[2]])
noncomputable def Mj:aB:=bN (bM 25 [0] Tryz.f7 [[1,2],[1,2,3],[1,2,3],[1,2,3],[1,2,3],[1,2,3],[2,3],[2]])
noncomputable def ah_:aB:=bN (bM 15 [0] Tryz.f23 [[1,2],[1,2,3],[1,2,3],[1,2,3],[2,3],[2]])
noncomputable def h4:aB:=bN (bM 23 [0] Tryz.f8 [[0],[0,3],[0,3,4],[0,3,4,11],[0,3,4],[0,3,4],[2]])
noncomputable def c117:aB:=bN (bM 9 [0] Tryz.f117 [[0],[2]])
noncomputable def aia:aB:=bN (bM 9 [0] Tryz.f118 [[0],[2]])
noncomputable def c87:aB:=bN (bM 35 [0] Tryz.f87 [[0],[0,16],[2],[0,3],[0,3,20],[0,3,34],[2],[0,3],[2]])
noncomputable def aib:aB:=bN (bM 15 [0,1,2] Tryz.f79 [[0,1,2],[6]])
noncomputable def aic:aB:=bN (bM 13 [0] Tryz.f115 [[0],[6],[6,7],[6,7],[6,7],[2],[11],[2],[2]])
noncomputable def c152:aB:=bN (bM 30 [0] Tryz.f152 [[0],[0,12],[2],[0,3],[0,3,4],[0,3,4,16],[0,3,4,20],[2],[0,3,4],[0,3,4],[2]])
noncomputable def c182:aB:=bN (bM 73 [0] Tryz.f182 [[0],[0,6],[0,6,7],[0,6,7],[2],[0,6,30],[2],[0,6,37],[2],[0,6,51],[2],[0,66],[2],[2]])
noncomputable def aid:aB:=bN (bM 18 [0] Tryz.f84 [[0,1],[0,1,5],[0,1,5,7],[0,1,5],[0,1,5],[4]])
noncomputable def c80:aB:=bN (bM 38 [0,1] Tryz.f80 [[0,1],[0,1,5],[0,1,5,6],[0,1,5,6,13],[0,1,5,6,34],[0,1,5,6],[0,1,5,6],[4]])
noncomputable def aie:aB:=bN (bM 39 [0,1] Tryz.f214 [[0,1],[0,1,8],[0,1,8,9],[4],[0,1,8,16],[4],[0,8,25],[4],[0,32],[4],[4]])
noncomputable def aif:aB:=bN (bM 11 [0] Tryz.f184 [[0],[6],[6,7],[2],[9],[2],[2]])
noncomputable def c183:aB:=bN (bM 38 [0,1,2] Tryz.f183 [[0,1,2],[0,1,12],[6],[0,1,7],[0,1,7,8],[0,1,7,8,16],[0,1,7,8,28],[6],[0,1,7,8],[0,1,7,8],[6]])
def bg (r:List cm) (k:axd) (c:aB):aB:=.seq (.eu r (some k)) c
def sL (r:List cm) (a:axb) (k:axd) (c:aB):aB:=.seq (.jw r a (some k)) c
abbrev e3 (d t:Nat) (o:eT):cm:=⟨some d,o,some (t,true)⟩
abbrev hX (d t:Nat) (o:eT):cm:=⟨some d,o,some (t,false)⟩
abbrev avx (n:Nat) (k:axd) (f:Func) (c:aB):Prop:=fV ⟨n,k⟩ (f.body.getD .skip)=some c.strip
def WI:aB:=.cond (.t 28) (bg [jj 6 3] [6] .ret) .skip
def WJ:aB:=.cond (.t 51) (bg [jj 6 4] [6] .ret) .skip
def aih:aB:=.cond (.t 57) (bg [aP 59 8,dD 60 .gtr 2 59 2,aP 61 60,hX 62 61 (.hS (.t 8)),hX 63 61 (.eN .gtr 2 (.t 62) (.c (.int .i64 0))),hX 64 61 (.hS (.t 63)),e3 65 64 (.hK 145 (.t 7) 2),e3 66 64 (.fO 9 (.t 65)),⟨some 67,.eN .eql 9 (.t 66) (.c (.str [116,97,117])),some (64,true)⟩,hX 68 61 (.pick (.t 64) (.t 67) (.c (.bool false))),ro 69 (.pick (.t 61) (.c (.bool true)) (.t 68))] [1,2,7,8,69] (.cond (.t 69) (bg [jj 6 5] [6] .ret) .skip)) (bg [dD 71 .eql 2 56 3,ck 70 71] [0,1,2,7,8,56,70] (.cond (.t 70) (bg [aP 72 8,dD 73 .neq 2 72 1] [1,2,7,8,73] (.cond (.t 73) (bg [jj 6 5] [6] .ret) .skip)) (bg [dD 75 .eql 2 56 5,ck 74 75] [0,1,2,7,8,74] (.cond (.t 74) (bg [aP 76 8,aP 77 0,dG 78 145 7 1,cp 79 2 78,ha 80 32 77 79,dG 81 99 80 1,cp 82 2 81,ji 83 .neq 2 76 82] [1,2,7,8,83] (.cond (.t 83) (bg [jj 6 5] [6] .ret) .skip)) .skip))))
def WK:aB:=.cond (.t 102) (bg [jj 6 6] [6] .ret) .skip
def WL:aB:=.seq (bg [aP 113 10,aP 114 8,ji 115 .lss 2 113 114] [7,8,9,10,115] (.cond (.t 115) .skip (.exit 1))) (.seq (.block 2 (bg [dG 118 145 7 3,cp 119 143 118,aP 120 10,ha 121 143 119 120,cp 122 153 121,aP 123 9,ro 124 (.call (.f 183) [(.t 122),(.t 123),(.c (.int .i64 15))]),qZ 125 124] [7,8,9,10,125] (.cond (.t 125) (bg [jj 6 8] [6] .ret) .skip))) (.eu [aP 116 10,dD 117 .add 2 116 1,ck 10 117] (some [7,8,9,10])))
def WM:aB:=.seq (bg [dG 84 145 7 0,cp 85 2 84,dD 86 .eql 2 85 5,aP 87 86,e3 88 87 (.hS (.t 2)),e3 89 87 (.eN .eql 2 (.t 88) (.c (.int .i64 0))),e3 90 87 (.hS (.t 89)),hX 91 90 (.hS (.t 1)),hX 92 90 (.mf (.t 91)),hX 93 90 (.hK 99 (.t 92) 2),hX 94 90 (.fO 97 (.t 93)),hX 95 90 (.hS (.t 2)),hX 96 90 (.eN .sub 2 (.t 95) (.c (.int .i64 1))),hX 97 90 (.ks 97 (.t 94) (.t 96)),hX 98 90 (.hK 145 (.t 97) 0),hX 99 90 (.fO 2 (.t 98)),hX 100 90 (.eN .neq 2 (.t 99) (.c (.int .i64 1))),e3 101 87 (.pick (.t 90) (.c (.bool true)) (.t 100)),ro 102 (.pick (.t 87) (.t 101) (.c (.bool false)))] [1,2,7,8,102] WK) (bg [aP 103 1,aP 104 2,kP 105 80 103 104,ck 9 105] [7,8,9] (.seq (bg [dG 106 145 7 0,cp 107 2 106,dD 108 .eql 2 107 4,aP 109 108,e3 110 109 (.hS (.t 9)),e3 111 109 (.eN .geq 2 (.t 110) (.c (.int .i64 6))),ro 112 (.pick (.t 109) (.t 111) (.c (.bool false)))] [7,8,9,112] (.cond (.t 112) (bg [jj 6 7] [6] .ret) .skip)) (.seq (bg [jj 10 0] [7,8,9,10] (.block 1 (.loop WL))) (bg [jj 6 0] [6] .ret))))
def aii:aB:=.seq (bg [dG 29 145 7 0,cp 30 2 29,dD 31 .eql 2 30 4,aP 32 31,e3 33 32 (.hK 145 (.t 7) 1),e3 34 32 (.fO 2 (.t 33)),⟨some 35,.call (.f 79) [(.t 34),(.c (.int .i64 1)),(.c (.int .i64 7))],some (32,true)⟩,e3 36 32 (.un .not (.t 35)),ro 37 (.pick (.t 32) (.t 36) (.c (.bool false))),aP 38 37,hX 39 38 (.hK 145 (.t 7) 0),hX 40 38 (.fO 2 (.t 39)),hX 41 38 (.eN .eql 2 (.t 40) (.c (.int .i64 5))),hX 42 38 (.hS (.t 41)),e3 43 42 (.hK 145 (.t 7) 1),e3 44 42 (.fO 2 (.t 43)),e3 45 42 (.hS (.t 0)),e3 46 42 (.len 32 (.t 45)),e3 47 42 (.eN .sub 2 (.t 46) (.c (.int .i64 1))),⟨some 48,.call (.f 79) [(.t 44),(.c (.int .i64 0)),(.t 47)],some (42,true)⟩,e3 49 42 (.un .not (.t 48)),hX 50 38 (.pick (.t 42) (.t 49) (.c (.bool false))),ro 51 (.pick (.t 38) (.c (.bool true)) (.t 50))] [0,1,2,7,51] WJ) (bg [dG 52 145 7 3,cp 53 143 52,jS 54 143 53,ck 8 54] [0,1,2,7,8] (.seq (bg [dG 55 145 7 0,cp 56 2 55] [0,1,2,7,8,56] (.block 0 (bg [dD 58 .eql 2 56 1,ck 57 58] [0,1,2,7,8,56,57] aih))) WM))
def aij:aB:=bg [jj 6 0] [0,1,2] (bg [aP 11 1,nj 12 11,dG 13 99 12 2,cp 14 97 13,aP 15 2,ha 16 97 14 15,cp 17 145 16,ox 7 145,jT 145 7 17] [0,1,2,7] (.seq (bg [il 18 182 7,qZ 19 18] [0,1,2,7,19] (.cond (.t 19) (bg [jj 6 2] [6] .ret) .skip)) (.seq (bg [dG 20 145 7 0,cp 21 2 20,dD 22 .eql 2 21 1,aP 23 22,e3 24 23 (.hK 145 (.t 7) 2),e3 25 23 (.fO 9 (.t 24)),⟨some 26,.call (.f 87) [(.t 25)],some (23,true)⟩,e3 27 23 (.un .not (.t 26)),ro 28 (.pick (.t 23) (.t 27) (.c (.bool false)))] [0,1,2,7,28] WI) aii)))
noncomputable def aik:aB:=bN (bM 31 [0,1] Tryz.f113 [[0,1],[0,1,13],[4,5],[0,1,6],[0,1,6,20],[0,1,6,7],[0,1,6,7,28],[4,5],[0,1,6],[4,5]])
noncomputable def c75:aB:=bN (bM 70 [0] Tryz.f75 [[0],[0,15],[2],[0,3],[0,3,19],[0,3,37],[2],[0,3,4],[0,3,4,40],[0,3,4,53],[2],[0,3,4],[0,3],[0,5],[0,5,57],[0,5,7],[0,5,69],[2],[0,5],[2]])
noncomputable def ail:aB:=bN (bM 16 [0] Tryz.f81 [[0],[0,3],[0,3,7],[0,3,15],[2],[0,3],[2]])
noncomputable def c76:aB:=bN (bM 64 [0] Tryz.f76 [[0],[0,18],[2],[0,3],[0,3,25],[0,3,4],[0,3,4,44],[2],[0,3,63],[2],[0,3],[2]])
def aim:aB:=bg [nB 2 false] [0] (bg [aP 3 0,il 4 87 3,aP 5 4,e3 6 5 (.hS (.t 0)),⟨some 7,.eN .neq 9 (.t 6) (.c (.str [116,97,117])),some (5,true)⟩,ro 8 (.pick (.t 5) (.t 7) (.c (.bool false))),ck 2 8] [2] .ret)
noncomputable def ain:aB:=bN (bM 101 [0] Tryz.f77 [[0],[0,8],[2],[0,3],[0,3,12],[0,3,4],[0,3,4,41],[2],[0,3,4,76],[2],[0,3,4,5],[0,3,4,5,80],[0,3,4,5,100],[2],[0,3,4,5],[0,3],[2]])
noncomputable def aio:aB:=bN (bM 16 [0] Tryz.f114 [[0],[0,3],[0,3,7],[0,3,15],[2],[0,3],[2]])
noncomputable def aip:aB:=bN (bM 28 [0] Tryz.f78 [[0],[0,11],[2],[0,3],[0,3,15],[0,3,27],[2],[0,3],[2]])
noncomputable def aiq:aB:=bN (bM 30 [0] Tryz.f54 [[0],[0,8],[2],[0,11],[2],[0,17],[2],[0,23],[2],[29],[2],[2]])
noncomputable def Gc:aB:=bN (bM 6 [0] Tryz.f34 [[0],[2]])
noncomputable def PU:aB:=bN (bM 62 [0,1] Tryz.f55 [[0,1],[0,1,14],[4],[1,5],[1,5,43],[4],[4]])
noncomputable def air:aB:=bN (bM 29 [0,1] Tryz.f35 [[0,1],[0,1,13],[4],[0,1,5],[0,1,5,17],[0,1,5,28],[4],[0,1,5],[4]])
noncomputable def ais:aB:=bN (bM 14 [0,1] Tryz.f17 [[0,1],[13],[4],[4]])
noncomputable def ait:aB:=bN (bM 6 [0] Tryz.f58 [[0],[2]])
noncomputable def c154:aB:=bN (bM 4 [0] Tryz.f154 [[0],[3],[2],[2]])
noncomputable def aiu:aB:=bN (bM 18 [0] Tryz.f155 [[0,1],[0,1,5],[0,1,5,7],[0,1,5],[0,1,5],[4]])
noncomputable def c156:aB:=bN (bM 67 [0,1,2] Tryz.f156 [[0,1,2],[1,2,7],[1,2,7,8],[6],[1,2,7,14],[6],[1,2,7,21],[6],[1,2,7,27],[6],[1,2,7,33],[6],[1,2,7,39],[6],[1,2,7,45],[6],[1,2,51],[6],[6]])
noncomputable def c116:aB:=bN (bM 60 [0,1,2] Tryz.f116 [[0,1,2],[0,1,2,13],[0,1,2,13,14],[6],[0,1,2,13,21],[6],[0,1,2,31],[6],[0,1,2,7],[0,2,7,8],[6]])
noncomputable def c85:aB:=bN (bM 8 [0,1] Tryz.f85 [[0,1],[4]])
noncomputable def aiv:aB:=bN (bM 24 [0,1] Tryz.f82 [[0,1],[0,1,5],[0,1,5,6],[0,1,5,6,11],[0,1,5,6],[0,1,5,6],[4]])
def WN:aB:=.eu [aP 22 3,aP 23 5,ro 24 (.eN .add 2 (.c (.int .i64 48)) (.t 23)),V_ 25 2 5 24,ve 26 220 25,xe 27 220 220 22 26,ck 3 27] (some [0,3,4])
def WO:aB:=.seq (bg [aP 12 4,dD 13 .neq 2 12 0] [0,3,4,13] (.cond (.t 13) .skip (.exit 0))) (.seq (.block 1 (bg [aP 16 4,dD 17 .rem 2 16 10,ck 5 17] [0,3,4,5] (.seq (bg [aP 18 5,dD 19 .lss 2 18 0] [0,3,4,5,19] (.cond (.t 19) (.eu [aP 20 5,ro 21 (.un .neg (.t 20)),ck 5 21] (some [0,3,4,5])) .skip)) WN))) (.eu [aP 14 4,dD 15 .quo 2 14 10,ck 4 15] (some [0,3,4])))
def WQ:aB:=.seq (bg [aP 37 7,dD 38 .geq 3 37 0] [3,6,7,38] (.cond (.t 38) .skip (.exit 2))) (.seq (.block 3 (.eu [aP 41 6,aP 42 3,aP 43 7,ha 44 220 42 43,cp 45 5 44,ve 46 220 45,xe 47 220 220 41 46,ck 6 47] (some [3,6,7]))) (.eu [aP 39 7,dD 40 .sub 3 39 1,ck 7 40] (some [3,6,7])))
def WR:aB:=bg [ro 33 (.dO 220 0 []),ck 6 33] [3,6] (.seq (bg [aP 34 3,jS 35 220 34,dD 36 .sub 3 35 1,ck 7 36] [3,6,7] (.block 2 (.loop WQ))) (bg [aP 48 6,V_ 49 220 9 48,ck 2 49] [2] .ret))
def c119:aB:=bg [ro 2 (.h2 (.c (.str [])))] [0] (.seq (bg [aP 8 0,dD 9 .eql 2 8 0] [0,9] (.cond (.t 9) (bg [ro 2 (.h2 (.c (.str [48])))] [2] .ret) .skip)) (bg [ro 10 (.dO 220 0 []),ck 3 10] [0,3] (.seq (bg [aP 11 0,ck 4 11] [0,3,4] (.block 0 (.loop WO))) (.seq (bg [aP 28 0,dD 29 .lss 2 28 0] [3,29] (.cond (.t 29) (.eu [aP 30 3,ro 31 (.dO 220 1 [(0,(.c (.int .u8 45)))]),xe 32 220 220 30 31,ck 3 32] (some [3])) .skip)) WR))))
def WS:aB:=.eu [aP 18 3,aP 19 0,aP 20 4,ha 21 48 19 20,cp 22 2 21,il 23 119 22,ji 24 .add 9 18 23,ck 3 24] (some [0,3,4])
def WT:aB:=.seq (bg [aP 8 4,aP 9 0,jS 10 48 9,ji 11 .lss 3 8 10] [0,3,4,11] (.cond (.t 11) .skip (.exit 0))) (.seq (.block 1 (.seq (bg [aP 14 4,dD 15 .gtr 3 14 0] [0,3,4,15] (.cond (.t 15) (.eu [aP 16 3,ro 17 (.eN .add 9 (.t 16) (.c (.str [44]))),ck 3 17] (some [0,3,4])) .skip)) WS)) (.eu [aP 12 4,dD 13 .add 3 12 1,ck 4 13] (some [0,3,4])))
def c91:aB:=bg [ro 2 (.h2 (.c (.str [])))] [0] (.seq (bg [aP 5 0,jS 6 48 5,dD 7 .eql 3 6 0] [0,7] (.cond (.t 7) (bg [ro 2 (.h2 (.c (.str [45])))] [2] .ret) .skip)) (bg [ro 3 (.h2 (.c (.str [])))] [0,3] (.seq (bg [jj 4 0] [0,3,4] (.block 0 (.loop WT))) (bg [aP 25 3,ck 2 25] [2] .ret))))
def aiw:aB:=bg [ro 4 (.h2 (.c (.str [])))] [0,1] (.seq (bg [aP 5 1,jS 6 48 5,dD 7 .eql 3 6 0] [0,1,7] (.cond (.t 7) (bg [aP 8 0,ck 4 8] [4] .ret) .skip)) (bg [aP 9 0,ro 10 (.eN .add 9 (.t 9) (.c (.str [40]))),aP 11 1,il 12 91 11,ji 13 .add 9 10 12,ro 14 (.eN .add 9 (.t 13) (.c (.str [41]))),ck 4 14] [4] .ret))
noncomputable def aix:aB:=bN (bM 26 [0,1] Tryz.f61 [[0,1],[0,1,10],[4],[0,1,5],[0,1,5,14],[0,1,5,25],[4],[0,1,5],[4]])
noncomputable def aiy:aB:=bN (bM 36 [0,1] Tryz.f86 [[0,1],[4]])
noncomputable def aiz:aB:=bN (bM 33 [0,1] Tryz.f83 [[0,3],[0,3,5],[0,3,5,9],[0,3,5,27],[4],[0,3,5],[4]])
def WU:aB:=sL [aP 60 4,dG 61 145 12 2,cp 62 9 61,dG 63 145 12 3,cp 64 143 63,aP 65 3,kP 66 82 64 65,kP 67 63 62 66,cp 68 60 13,⟨some 69,.shr (.gx 88 [(0,(.t 67)),(1,(.t 68))]),none⟩,kP 70 83 60 69,ck 10 70] [[],[],[1],[],[3],[],[4,5],[2,6,6],[],[7,8],[0,9,7],[10,10,0,1,2,3,4,5,6,7,8,9,10]] [10] .ret
def aiA:aB:=.seq (bg [aP 38 11,aP 39 2,dD 40 .add 2 39 1,ha 41 97 38 40,dG 42 145 41 0,cp 43 2 42,dD 44 .eql 2 43 5] [2,3,4,11,12,13,44] (.cond (.t 44) (.jw [aP 45 11,aP 46 2,dD 47 .add 2 46 1,ha 48 97 45 47,dG 49 145 48 1,cp 50 2 49,aP 51 11,aP 52 2,dD 53 .add 2 52 1,ha 54 97 51 53,dG 55 145 54 3,cp 56 143 55,aP 57 3,kP 58 82 56 57,ro 59 (.gx 60 [(0,(.t 50)),(2,(.t 58))]),jT 60 13 59] [[],[],[1],[0,2],[3],[4],[],[],[7],[6,8],[9],[10],[],[11,12],[5,13],[14,13,0,1,2,3,4,5,6,7,8,9,10,11,12,13,14]] (some [3,4,12,13])) .skip)) WU
def WV:aB:=.seq (bg [aP 107 14,dG 108 145 12 1,cp 109 2 108,ji 110 .leq 2 107 109] [0,1,2,3,4,12,14,110] (.cond (.t 110) .skip (.exit 1))) (.seq (.block 2 (.eu [aP 113 0,aP 114 1,aP 115 2,dD 116 .add 2 115 1,aP 117 3,il 118 58 117,aP 119 14,ve 120 48 119,⟨some 121,.shr (.app 48 48 (.t 118) (.t 120)),none⟩,aP 122 4,ro 123 (.call (.f 56) [(.t 113),(.t 114),(.t 116),(.t 121),(.t 122)]),ck 4 123] (some [0,1,2,3,4,12,14]))) (.eu [aP 111 14,dD 112 .add 2 111 1,ck 14 112] (some [0,1,2,3,4,12,14])))
def aiB:aB:=bg [dD 90 .eql 2 29 3,ck 89 90] [0,1,2,3,4,12,29,89] (.cond (.t 89) (bg [dG 91 145 12 3,cp 92 143 91,ro 93 (.ks 143 (.t 92) (.c (.int .i64 0))),cp 94 153 93,aP 95 3,kP 96 85 94 95,dD 97 .neq 2 96 0] [0,1,2,3,4,97] (.cond (.t 97) (bg [aP 98 0,aP 99 1,aP 100 2,dD 101 .add 2 100 1,aP 102 3,aP 103 4,ro 104 (.call (.f 56) [(.t 98),(.t 99),(.t 101),(.t 102),(.t 103)]),ck 10 104] [10] .ret) .skip)) (bg [dD 106 .eql 2 29 4,ck 105 106] [0,1,2,3,4,12,105] (.cond (.t 105) (bg [jj 14 0] [0,1,2,3,4,12,14] (.block 1 (.loop WV))) .skip)))
def aiC:aB:=.cond (.t 30) (bg [aP 32 1,aP 33 2,dD 34 .add 2 33 1,aP 35 3,il 36 58 35,ro 37 (.gx 60 [(0,(.t 32)),(1,(.t 34)),(2,(.t 36))]),ox 13 60,jT 60 13 37] [2,3,4,11,12,13] aiA) (bg [dD 72 .eql 2 29 2,ck 71 72] [0,1,2,3,4,11,12,29,71] (.cond (.t 71) (bg [aP 73 0,aP 74 1,aP 75 2,dD 76 .add 2 75 1,aP 77 3,aP 78 4,ro 79 (.call (.f 56) [(.t 73),(.t 74),(.t 76),(.t 77),(.t 78)]),ck 4 79] [0,1,2,3,4,11] (bg [aP 80 0,aP 81 1,aP 82 11,aP 83 2,dD 84 .add 2 83 1,kP 85 84 82 84,aP 86 3,aP 87 4,ro 88 (.call (.f 56) [(.t 80),(.t 81),(.t 85),(.t 86),(.t 87)]),ck 10 88] [10] .ret)) aiB))
def WW:aB:=bg [aP 124 4,ck 10 124] [10] .ret
def aiD:aB:=bg [aP 15 0,aP 16 1,ha 17 32 15 16,dG 18 99 17 2,cp 19 97 18,ck 11 19] [0,1,2,3,4,11] (bg [aP 20 11,aP 21 2,ha 22 97 20 21,cp 23 145 22,ox 12 145,jT 145 12 23] [0,1,2,3,4,11,12] (.seq (bg [aP 24 4,jS 25 83 24,dD 26 .gtr 3 25 200] [0,1,2,3,4,11,12,26] (.cond (.t 26) (bg [aP 27 4,ck 10 27] [10] .ret) .skip)) (.seq (bg [dG 28 145 12 0,cp 29 2 28] [0,1,2,3,4,11,12,29] (.block 0 (bg [dD 31 .eql 2 29 1,ck 30 31] [0,1,2,3,4,11,12,29,30] aiC))) WW)))
def PV:aB:=bg [pD 10] [0,1,2,3,4] aiD
noncomputable def aiE:aB:=bN (bM 26 [0,1] Tryz.f36 [[0,1],[6],[4,5]])
noncomputable def aiF:aB:=bN (bM 17 [0] Tryz.f57 [[0],[0,3],[0,3,7],[0,3,13],[2],[0,3],[2]])
noncomputable def aiG:aB:=bN (bM 7 [0] Tryz.f38 [[0],[2]])
noncomputable def c37:aB:=bN (bM 19 [0,1] Tryz.f37 [[0,1],[0,1,5],[0,1,5,9],[0,1,5,17],[4],[0,1,5],[4]])
noncomputable def aiH:aB:=bN (bM 33 [0] Tryz.f39 [[0],[0,3],[0,3,4],[0,3,4,9],[0,3,4],[0,3,4],[2]])
def aiI:aB:=bg [ro 4 (.h2 (.c (.str [])))] [0,1] (.seq (sL [aP 5 0,nj 6 5,dG 7 36 6 4,cp 8 25 7,aP 9 1,il 10 38 9,kP 11 37 8 10,dD 12 .geq 2 11 0] [[],[0],[1],[2],[],[4],[3,5,5],[6]] [1,12] (.cond (.t 12) (bg [ro 4 (.h2 (.c (.str [116,97,117])))] [4] .ret) .skip)) (bg [aP 13 1,ck 4 13] [4] .ret))
noncomputable def c59:aB:=bN (bM 25 [0,1] Tryz.f59 [[0,1],[0,1,10],[4],[0,1,5],[0,1,5,14],[0,1,5,24],[4],[0,1,5],[4]])
noncomputable def c40:aB:=bN (bM 48 [0,1] Tryz.f40 [[0,3],[0,3,5],[0,3,5,10],[0,3,5,6],[0,3,5,42],[4],[0,3,5],[4]])
noncomputable def aiJ:aB:=bN (bM 35 [0,1] Tryz.f89 [[0,1],[0,1,5],[0,1,5,6],[0,1,5,6,7],[0,1,5,6,7,12],[0,1,5,6,7,19],[0,1,5,7],[0,1,5,6,7],[0,1,5,6,7],[4]])
noncomputable def aiK:aB:=bN (bM 62 [0] Tryz.f90 [[0],[0,4],[0,4,14],[0,4],[0,4,36],[2,3],[0,4,5],[0,4,5,6],[0,4,5,6,41],[0,4,5,6,48],[2,3],[0,4,5,6],[0,4,5,6],[5,58],[5],[2,3]])
noncomputable def aiL:aB:=bN (bM 70 [0] Tryz.f60 [[0],[0,4],[0,4,15],[2,3],[0,4,31],[2,3],[5],[5,6],[5,6,7],[5,6,7,44],[5,6,7,8,9],[5,6,7,8,61],[2,3],[5,6,7],[5,6,7],[2,3]])
noncomputable def aiM:aB:=bN (bM 42 [0,1,2] Tryz.f62 [[0,1,2],[0,1,2,10],[6],[0,1,2,7],[0,1,2,7,18],[0,1,2,7,36],[6],[0,1,2,7],[6]])
noncomputable def aiN:aB:=bN (bM 49 [0,1,2] Tryz.f42 [[0,1,2],[0,1,2,7],[0,1,2,7,9],[0,1,2,7,25],[6],[0,7,11],[7,11,45],[6],[6]])
def aiO:aB:=.seq (.block 1 (sL [aP 30 0,nj 31 30,dG 32 36 31 0,cp 33 32 32,aP 34 1,aP 35 8,ha 36 38 34 35,kP 37 36 33 36,⟨some 29,.oZ (.t 37),none⟩,kD 38 29 0,kD 39 29 1,ck 9 38,ck 10 39] [[],[0],[1],[2],[],[],[4,5],[3,6],[7],[8],[8],[9,7,0,1,2,3,4,5,6,7,8,9],[10,11,0,1,2,3,4,5,6,7,8,9,10,11]] [0,1,6,7,8,9,10] (.seq (bg [aP 40 10,qZ 41 40] [0,1,6,7,8,9,41] (.cond (.t 41) (bg [pD 4,nB 5 false] [0,4,5] .ret) .skip)) (.eu [aP 42 7,aP 43 9,ve 44 82 43,xe 45 82 82 42 44,ck 7 45] (some [0,1,6,7,8]))))) (.eu [aP 27 8,dD 28 .add 3 27 1,ck 8 28] (some [0,1,6,7,8]))
def WX:aB:=.seq (bg [aP 23 8,aP 24 1,jS 25 38 24,ji 26 .lss 3 23 25] [0,1,6,7,8,26] (.cond (.t 26) .skip (.exit 0))) aiO
def aiP:aB:=.seq (sL [dG 68 88 13 0,cp 69 9 68,ro 70 (.eN .neq 9 (.t 69) (.c (.str [116,97,117]))),aP 71 70,e3 72 71 (.hS (.t 0)),e3 73 71 (.mf (.t 72)),e3 74 71 (.hK 36 (.t 73) 3),e3 75 71 (.fO 25 (.t 74)),e3 76 71 (.hK 88 (.t 13) 0),e3 77 71 (.fO 9 (.t 76)),⟨some 78,.call (.f 38) [(.t 77)],some (71,true)⟩,⟨some 79,.call (.f 37) [(.t 75),(.t 78)],some (71,true)⟩,e3 80 71 (.eN .lss 2 (.t 79) (.c (.int .i64 0))),ro 81 (.pick (.t 71) (.t 80) (.c (.bool false)))] [[],[0],[1],[2],[3],[4,3],[5,3],[6,3],[3],[8,3],[9,3,3],[7,10,10,3],[11,3],[3,12]] [0,1,6,7,11,12,13,81] (.cond (.t 81) (.exit 5) .skip)) (bg [aP 82 1,il 83 39 82,ck 14 83] [0,1,6,7,11,12,13,14] (bg [aP 84 14,aP 85 11,dG 86 88 13 1,cp 87 60 86,ha 88 38 84 85,jT 60 88 87] [0,1,6,7,11,12,13,14] (.eu [aP 89 6,aP 90 0,dG 91 88 13 0,cp 92 9 91,kP 93 41 90 92,aP 94 11,aP 95 14,il 96 39 95,⟨some 97,.shr (.gx 95 [(0,(.t 93)),(1,(.t 94)),(2,(.c (.int .i64 (-1)))),(3,(.t 96))]),none⟩,kP 98 40 89 97,ck 6 98] (some [0,1,6,7,11,12]))))
def WY:aB:=.eu [aP 59 12,dD 60 .add 3 59 1,ck 12 60] (some [0,1,6,7,11,12])
def WZ:aB:=.seq (bg [aP 52 12,aP 53 7,aP 54 11,ha 55 82 53 54,cp 56 83 55,jS 57 83 56,ji 58 .lss 3 52 57] [0,1,6,7,11,12,58] (.cond (.t 58) .skip (.exit 4))) (.seq (.block 5 (bg [aP 61 7,aP 62 11,ha 63 82 61 62,cp 64 83 63,aP 65 12,ha 66 83 64 65,cp 67 88 66,ox 13 88,jT 88 13 67] [0,1,6,7,11,12,13] aiP)) WY)
def W0:aB:=.seq (bg [aP 46 11,aP 47 1,jS 48 38 47,ji 49 .lss 3 46 48] [0,1,6,7,11,49] (.cond (.t 49) .skip (.exit 2))) (.seq (.block 3 (bg [jj 12 0] [0,1,6,7,11,12] (.block 4 (.loop WZ)))) (.eu [aP 50 11,dD 51 .add 3 50 1,ck 11 51] (some [0,1,6,7,11])))
def aiQ:aB:=bg [aP 158 20,aP 159 15,aP 160 7,aP 161 15,ha 162 82 160 161,cp 163 83 162,aP 164 17,ha 165 83 163 164,dG 166 88 165 1,cp 167 60 166,ha 168 38 158 159,jT 60 168 167] [0,1,6,7,15,16,17,18,19,20] (bg [aP 169 20,aP 170 16,aP 171 7,aP 172 16,ha 173 82 171 172,cp 174 83 173,aP 175 18,ha 176 83 174 175,dG 177 88 176 1,cp 178 60 177,ha 179 38 169 170,jT 60 179 178] [0,1,6,7,15,16,17,18,19,20] (.eu [aP 180 6,aP 181 0,aP 182 19,kP 183 41 181 182,aP 184 15,aP 185 16,aP 186 20,il 187 39 186,⟨some 188,.shr (.gx 95 [(0,(.t 183)),(1,(.t 184)),(2,(.t 185)),(3,(.t 187))]),none⟩,kP 189 40 180 188,ck 6 189] (some [0,1,6,7,15,16,17,18])))
def W1:aB:=.eu [aP 134 18,dD 135 .add 3 134 1,ck 18 135] (some [0,1,6,7,15,16,17,18])
def aiR:aB:=.seq (.block 13 (sL [aP 136 0,aP 137 7,aP 138 15,ha 139 82 137 138,cp 140 83 139,aP 141 17,ha 142 83 140 141,dG 143 88 142 0,cp 144 9 143,aP 145 7,aP 146 16,ha 147 82 145 146,cp 148 83 147,aP 149 18,ha 150 83 148 149,dG 151 88 150 0,cp 152 9 151,V9 153 42 136 144 152,ck 19 153] [[],[],[],[1,2],[3],[],[4,5],[6],[7],[],[],[9,10],[11],[],[12,13],[14],[15],[0,8,16],[17,17,0,1,2,3,4,5,6,7,8,9,10,11,12,13,14,15,16,17]] [0,1,6,7,15,16,17,18,19] (.seq (bg [aP 154 19,ro 155 (.eN .eql 9 (.t 154) (.c (.str [])))] [0,1,6,7,15,16,17,18,19,155] (.cond (.t 155) (.exit 13) .skip)) (bg [aP 156 1,il 157 39 156,ck 20 157] [0,1,6,7,15,16,17,18,19,20] aiQ)))) W1
def W2:aB:=.seq (bg [aP 122 18,aP 123 7,aP 124 16,ha 125 82 123 124,cp 126 83 125,jS 127 83 126,ji 128 .lss 3 122 127,aP 129 128,e3 130 129 (.hS (.t 6)),e3 131 129 (.len 53 (.t 130)),e3 132 129 (.eN .leq 3 (.t 131) (.c (.int .i64 200))),ro 133 (.pick (.t 129) (.t 132) (.c (.bool false)))] [0,1,6,7,15,16,17,18,133] (.cond (.t 133) .skip (.exit 12))) aiR
def W3:aB:=.seq (bg [aP 113 17,aP 114 7,aP 115 15,ha 116 82 114 115,cp 117 83 116,jS 118 83 117,ji 119 .lss 3 113 118] [0,1,6,7,15,16,17,119] (.cond (.t 119) .skip (.exit 10))) (.seq (.block 11 (bg [jj 18 0] [0,1,6,7,15,16,17,18] (.block 12 (.loop W2)))) (.eu [aP 120 17,dD 121 .add 3 120 1,ck 17 121] (some [0,1,6,7,15,16,17])))
def W4:aB:=.seq (bg [aP 107 16,aP 108 1,jS 109 38 108,ji 110 .lss 3 107 109] [0,1,6,7,15,16,110] (.cond (.t 110) .skip (.exit 8))) (.seq (.block 9 (bg [jj 17 0] [0,1,6,7,15,16,17] (.block 10 (.loop W3)))) (.eu [aP 111 16,dD 112 .add 3 111 1,ck 16 112] (some [0,1,6,7,15,16])))
def W5:aB:=.seq (bg [aP 99 15,aP 100 1,jS 101 38 100,ji 102 .lss 3 99 101] [0,1,6,7,15,102] (.cond (.t 102) .skip (.exit 6))) (.seq (.block 7 (bg [aP 105 15,dD 106 .add 3 105 1,ck 16 106] [0,1,6,7,15,16] (.block 8 (.loop W4)))) (.eu [aP 103 15,dD 104 .add 3 103 1,ck 15 104] (some [0,1,6,7,15])))
def aiS:aB:=bg [pD 4,nB 5 false] [0,1] (bg [ro 21 (.dO 53 0 []),ck 6 21] [0,1,6] (bg [ro 22 (.dO 82 0 []),ck 7 22] [0,1,6,7] (.seq (bg [jj 8 0] [0,1,6,7,8] (.block 0 (.loop WX))) (.seq (bg [jj 11 0] [0,1,6,7,11] (.block 2 (.loop W0))) (.seq (bg [jj 15 0] [0,1,6,7,15] (.block 6 (.loop W5))) (bg [aP 190 6,aP 191 6,jS 192 53 191,dD 193 .leq 3 192 200,ck 4 190,ck 5 193] [0,4,5] .ret))))))
noncomputable def fP:aB:=bN (bM 21 [0,1] Tryz.f6 [[1,2],[1,2,9],[4],[5,6],[4]])
noncomputable def aiT:aB:=bN (bM 15 [0,1,2] Tryz.f122 [[0,1,2],[6]])
noncomputable def aiU:aB:=bN (bM 7 [0] Tryz.f187 [[1],[2]])
noncomputable def aiV:aB:=bN (bM 19 [0,1] Tryz.f189 [[0,1],[0,1,7,8],[0,1,7,8,9],[0,1,5,7,8],[0,1,5,7,8,16],[4],[0,1,7,8],[4]])
noncomputable def aiW:aB:=bN (bM 9 [0,1] Tryz.f186 [[0,1],[4]])
noncomputable def aiX:aB:=bN (bM 6 [0] Tryz.f158 [[0],[2]])
noncomputable def aiY:aB:=bN (bM 9 [0] Tryz.f188 [[0],[2]])
noncomputable def c159:aB:=bN (bM 42 [0] Tryz.f159 [[0],[0,6,7],[0,6,7,8],[0,3,6,7],[0,3,4,6,7],[0,6,7,32],[2],[0,6,7],[2]])
noncomputable def aiZ:aB:=bN (bM 8 [0,1] Tryz.f190 [[1,2],[3]])
noncomputable def ai0:aB:=bN (bM 19 [0,1] Tryz.f189 [[0,1],[0,1,7,8],[0,1,7,8,9],[0,1,5,7,8],[0,1,5,7,8,16],[4],[0,1,7,8],[4]])
noncomputable def c160:aB:=bN (bM 8 [0,1] Tryz.f160 [[0,3],[4]])
noncomputable def ai1:aB:=bN (bM 11 [0] Tryz.f129 [[1],[4],[4,5],[4,5],[4,5],[2],[9],[2],[2]])
noncomputable def ai2:aB:=bN (bM 25 [0] Tryz.f136 [[1,2],[1,2,5],[1,2,5,7],[1,2,5,14],[4],[1,2,5],[1,2,5],[4]])
def ai3:aB:=.eu [dG 29 165 9 0,cp 30 2 29,dD 31 .add 2 30 1,dG 32 165 9 0,jT 2 32 31] (some [0,2,3,4,8,9])
def ai4:aB:=.cond (.t 28) ai3 .skip
def ai5:aB:=.eu [dD 43 .add 3 37 1,aP 37 43] (some [2,3,4,9,10,36,37])
def ai6:aB:=.seq (.block 1 (.ky (M8 ah 128 4 2 39 ((range 3).map (·+2)) [aP 40 10,cp 41 165 9] [(.t 40),(.t 41)] (some 42) [ck 10 42] [2,3,4,9,10,36,37]) (VH 196 4 39 [aP 40 10,cp 41 165 9] [(.t 40),(.t 41)] (some 42) [ck 10 42]))) ai5
def ai7:aB:=.seq (.cond (.t 38) .skip (.exit 0)) ai6
def W6:aB:=bg [ji 38 .lss 3 37 36] [2,3,4,9,10,36,37,38] ai7
def ai8:aB:=.block 0 (.loop W6)
def ai9:aB:=bg [aP 44 10,ck 7 44] [2,3,4,7] .ret
def ai_:aB:=.seq (bg [cp 35 145 8,il 36 129 35,xd 37 0] [2,3,4,9,10,36,37] ai8) ai9
def W7:aB:=bg [aP 33 0,dD 34 .add 3 33 1,ck 10 34] [2,3,4,8,9,10] ai_
def aja:aB:=.seq (bg [dG 26 145 8 0,cp 27 2 26,dD 28 .eql 2 27 4] [0,2,3,4,8,9,28] ai4) W7
def ajb:aB:=bg [dG 20 165 6 0,cp 21 2 20,dG 22 145 8 0,cp 23 2 22,dD 24 .eql 2 23 1,ro 25 (.gx 165 [(0,(.t 21)),(1,(.t 24))]),ox 9 165,jT 165 9 25] [0,2,3,4,8,9] aja
def ajc:aB:=bg [dG 15 99 3 2,cp 16 97 15,aP 17 0,ha 18 97 16 17,cp 19 145 18,ox 8 145,jT 145 8 19] [0,2,3,4,6,8] ajb
def ajd:aB:=bg [cp 11 166 2,aP 12 0,cp 13 165 6,ha 14 166 11 12,jT 165 14 13] [0,2,3,4,6] ajc
def W8:aB:=bg [ro 6 (.iY 165 (.t 1)),jj 7 0] [0,2,3,4,6] ajd
theorem aje:W8.py (H9 ah 128 [0,1,2,3,4] 5 2 4):=And.intro (True.intro) (And.intro (True.intro) (And.intro (True.intro) (And.intro (True.intro) (And.intro (And.intro (True.intro) (And.intro (True.intro) (True.intro))) (And.intro (True.intro) (And.intro (And.intro (True.intro) (And.intro (True.intro) (And.intro (And.intro (True.intro) (True.intro)) (And.intro (⟨196,2,39,3,_,_,_,_,_,rfl,rfl,(by kernel_rfl),rfl,rfl,rfl,rfl,rfl,rfl,rfl⟩) (True.intro))))) (And.intro (True.intro) (True.intro))))))))
theorem ajf:fV ⟨45,[0,1,2,3,4]⟩ (Tryz.f128.body.getD .skip)=some W8.strip:=by kernel_rfl
def PW:aB:=bg [cp 15 166 3,ck 2 15] [2] .ret
def ajg:aB:=bg [cp 10 196 4,dG 11 99 1 1,cp 12 2 11,ro 13 (.gx 165 [(0,(.t 12))]),ro 14 (.call (.t 10) [(.c (.int .i64 0)),(.t 13)])] [3] PW
def avy:aB:=bg [ro 9 (.pv 128 [(.t 3),(.t 1),(.t 4)]),jT 196 4 9] [1,3,4] ajg
def ajh:aB:=.ky (Nc ah 128 4 2 10 9 [3,1,4] [dG 11 99 1 1,cp 12 2 11,ro 13 (.gx 165 [(0,(.t 12))])] [(.c (.int .i64 0)),(.t 13)] (some 14) [3] PW) (VM 196 128 4 10 9 [3,1,4] [dG 11 99 1 1,cp 12 2 11,ro 13 (.gx 165 [(0,(.t 12))])] [(.c (.int .i64 0)),(.t 13)] (some 14) PW.nf)
def aji:aB:=bg [dG 5 99 1 2,cp 6 97 5,jS 7 97 6,ro 8 (.fv 166 (.t 7) (.t 7)),ox 3 166,jT 166 3 8] [1,3] ajh
def W9:aB:=bg [ro 1 (.iY 99 (.t 0)),pD 2] [1] aji
theorem ajj:W9.py (Ep ah):=And.intro (True.intro) (And.intro (True.intro) (⟨196,128,4,2,10,9,_,_,_,_,_,_,rfl,rfl,(by kernel_rfl),⟨Tryz.t196,_,_,(by kernel_rfl),rfl,rfl,rfl,rfl⟩,rfl,rfl,rfl,rfl,(by kernel_rfl)⟩))
theorem ajk:fV ⟨16,[0]⟩ (Tryz.f96.body.getD .skip)=some W9.strip:=by kernel_rfl
noncomputable def ajl:aB:=bN (bM 56 [0] Tryz.f215 [[1],[1,3],[1,3,4],[2]])
def ajm:aB:=bg [nB 2 false] [0] (bg [aP 3 0,il 4 159 3,aP 5 4,e3 6 5 (.hS (.t 0)),⟨some 7,.eN .neq 9 (.t 6) (.c (.str [116,97,117])),some (5,true)⟩,ro 8 (.pick (.t 5) (.t 7) (.c (.bool false))),ck 2 8] [2] .ret)
noncomputable def ajn:aB:=bN (bM 9 [0,1] Tryz.f95 [[0,1],[4]])
def ajo:aB:=.cond (.t 11) (bg [aP 13 5,dD 14 .eql 3 13 0,aP 15 14,hX 16 15 (.hK 145 (.t 2) 2),hX 17 15 (.fO 9 (.t 16)),⟨some 18,.eN .neq 9 (.t 17) (.c (.str [116,97,117])),some (15,false)⟩,hX 19 15 (.hS (.t 18)),e3 20 19 (.hS (.t 5)),e3 21 19 (.eN .leq 3 (.t 20) (.c (.int .i64 2))),hX 22 15 (.pick (.t 19) (.t 21) (.c (.bool false))),ro 23 (.pick (.t 15) (.c (.bool true)) (.t 22)),ck 4 23] [4] .ret) (bg [dD 25 .eql 2 10 3,ck 24 25] [1,2,5,10,24] (.cond (.t 24) (bg [aP 26 5,dD 27 .eql 3 26 1,ck 4 27] [4] .ret) (bg [dD 29 .eql 2 10 5,ck 28 29] [1,2,5,28] (.cond (.t 28) (bg [aP 30 5,aP 31 1,dG 32 145 2 1,cp 33 2 32,ha 34 32 31 33,dG 35 99 34 1,cp 36 2 35,ji 37 .eql 2 30 36,ck 4 37] [4] .ret) .skip))))
def ajp:aB:=bg [ro 2 (.iY 145 (.t 0)),nB 4 false] [1,2] (bg [dG 6 145 2 3,cp 7 143 6,jS 8 143 7,ck 5 8] [1,2,5] (.seq (bg [dG 9 145 2 0,cp 10 2 9] [1,2,5,10] (.block 0 (bg [dD 12 .eql 2 10 1,ck 11 12] [1,2,5,10,11] ajo))) (bg [nB 4 true] [4] .ret)))
noncomputable def ajq:aB:=bN (bM 5 [0] Tryz.f132 [[0],[2]])
noncomputable def ajr:aB:=bN (bM 29 [0,1] Tryz.f240 [[1,2],[1,2,6],[1,2,6,7],[4],[1,2,6,12],[4],[2,6,19],[4],[2,24],[4],[4]])
noncomputable def ajs:aB:=bN (bM 9 [0] Tryz.f221 [[1],[4],[4,5],[2],[7],[2],[2]])
noncomputable def ajt:aB:=bN (bM 47 [0,1,2] Tryz.f219 [[0,1,2],[0,1,24],[6],[0,1,7],[1,7,25,26,27],[1,7,25,26,27,28],[1,7,9,25,26,27],[1,7,9,25,26,27,38],[6],[1,7,25,26,27],[1,7,25,26,27],[6]])
noncomputable def c218:aB:=bN (bM 9 [0,1] Tryz.f218 [[0,1],[3]])
noncomputable def aju:aB:=bN (bM 19 [0,1] Tryz.f239 [[0,1],[0,1,7,8],[0,1,7,8,9],[0,1,5,7,8],[0,1,5,7,8,16],[4],[0,1,7,8],[4]])
noncomputable def ajv:aB:=bN (bM 9 [0,1] Tryz.f217 [[0,1],[4]])
def ajw:aB:=bg [dG 55 145 3 0,cp 56 2 55,dD 57 .eql 2 56 5,aP 58 57,e3 59 58 (.hK 165 (.t 5) 1),e3 60 58 (.fO 4 (.t 59)),e3 61 58 (.un .not (.t 60)),ro 62 (.pick (.t 58) (.t 61) (.c (.bool false))),ck 54 62] [3,5,54] (.cond (.t 54) (bg [jj 6 6] [6] .ret) (bg [dG 64 145 3 0,cp 65 2 64,dD 66 .eql 2 65 4,aP 67 66,e3 68 67 (.hK 165 (.t 5) 0),e3 69 67 (.fO 2 (.t 68)),e3 70 67 (.eN .geq 2 (.t 69) (.c (.int .i64 6))),ro 71 (.pick (.t 67) (.t 70) (.c (.bool false))),ck 63 71] [3,5,63] (.cond (.t 63) (bg [jj 6 7] [6] .ret) (bg [dG 73 145 3 3,cp 74 143 73,ro 75 (.pv 218 [(.t 5)]),kP 76 217 74 75,ck 72 76] [72] (.cond (.t 72) (bg [jj 6 8] [6] .ret) .skip)))))
def W_:aB:=.cond (.t 26) (bg [jj 6 4] [6] .ret) (bg [cp 50 145 3,aP 51 1,kP 52 216 50 51,qZ 53 52,ck 49 53] [3,5,49] (.cond (.t 49) (bg [jj 6 5] [6] .ret) ajw))
def ajx:aB:=bg [dG 27 145 3 0,cp 28 2 27,dD 29 .eql 2 28 4,aP 30 29,e3 31 30 (.hK 145 (.t 3) 1),e3 32 30 (.fO 2 (.t 31)),⟨some 33,.call (.f 122) [(.t 32),(.c (.int .i64 1)),(.c (.int .i64 7))],some (30,true)⟩,e3 34 30 (.un .not (.t 33)),ro 35 (.pick (.t 30) (.t 34) (.c (.bool false))),aP 36 35,hX 37 36 (.hK 145 (.t 3) 0),hX 38 36 (.fO 2 (.t 37)),hX 39 36 (.eN .eql 2 (.t 38) (.c (.int .i64 5))),hX 40 36 (.hS (.t 39)),e3 41 40 (.hK 145 (.t 3) 1),e3 42 40 (.fO 2 (.t 41)),e3 43 40 (.hS (.t 1)),e3 44 40 (.len 32 (.t 43)),⟨some 45,.call (.f 95) [(.t 42),(.t 44)],some (40,true)⟩,e3 46 40 (.un .not (.t 45)),hX 47 36 (.pick (.t 40) (.t 46) (.c (.bool false))),ro 48 (.pick (.t 36) (.c (.bool true)) (.t 47)),ck 26 48] [1,3,5,26] W_
def Xa:aB:=.cond (.t 11) (bg [jj 6 3] [6] .ret) ajx
def ajy:aB:=.seq (.block 0 (bg [cp 8 145 3,il 9 215 8,qZ 10 9,ck 7 10] [1,3,5,7] (.cond (.t 7) (bg [jj 6 2] [6] .ret) (bg [dG 12 145 3 0,cp 13 2 12,dD 14 .eql 2 13 1,aP 15 14,e3 16 15 (.hK 145 (.t 3) 2),e3 17 15 (.fO 9 (.t 16)),⟨some 18,.eN .neq 9 (.t 17) (.c (.str [116,97,117])),some (15,true)⟩,ro 19 (.pick (.t 15) (.t 18) (.c (.bool false))),aP 20 19,e3 21 20 (.hK 145 (.t 3) 2),e3 22 20 (.fO 9 (.t 21)),⟨some 23,.call (.f 142) [(.t 22)],some (20,true)⟩,e3 24 20 (.un .not (.t 23)),ro 25 (.pick (.t 20) (.t 24) (.c (.bool false))),ck 11 25] [1,3,5,11] Xa)))) (bg [jj 6 0] [6] .ret)
def ajz:aB:=bg [ro 3 (.iY 145 (.t 0)),ro 5 (.iY 165 (.t 2)),jj 6 0] [1,3,5] ajy
noncomputable def ajA:aB:=bN (bM 45 [0,1] Tryz.f161 [[0,3],[0,3,22],[4,5],[0,3,6],[0,6,26,27,28],[0,6,26,27,28,29],[0,6,7,8,26,27,28],[0,6,7,9,26,27,28],[0,6,7,9,26,27,28,41],[4,5],[0,6,26,27,28],[4,5]])
noncomputable def ajB:aB:=bN (bM 45 [0] Tryz.f121 [[0],[0,15],[2],[0,16,17,18],[0,16,17,18,19],[0,3,4,16,17,18],[0,4,16,17,18,35],[2],[0,6,16,17,18],[0,16,17,18,43],[2],[0,16,17,18],[2]])
noncomputable def c131:aB:=bN (bM 6 [0] Tryz.f131 [[0],[2]])
noncomputable def ajC:aB:=bN (bM 19 [0,1] Tryz.f166 [[0,1],[0,1,7,8],[0,1,7,8,9],[0,1,5,7,8],[0,1,5,7,8,16],[4],[0,1,7,8],[4]])
noncomputable def c130:aB:=bN (bM 9 [0,1] Tryz.f130 [[0,1],[4]])
noncomputable def ajD:aB:=bN (bM 6 [0] Tryz.f97 [[0],[2]])
noncomputable def ajE:aB:=bN (bM 27 [0,1] Tryz.f125 [[0,3],[4]])
noncomputable def c124:aB:=bN (bM 9 [0,1] Tryz.f124 [[1,2],[3]])
noncomputable def c162:aB:=bN (bM 19 [0,1] Tryz.f162 [[0,1],[0,1,7,8],[0,1,7,8,9],[0,1,5,7,8],[0,1,5,7,8,16],[4],[0,1,7,8],[4]])
noncomputable def ajF:aB:=bN (bM 9 [0,1] Tryz.f123 [[0,1],[4]])
noncomputable def ajG:aB:=bN (bM 6 [0] Tryz.f241 [[0],[2]])
noncomputable def ajH:aB:=bN (bM 20 [0,1] Tryz.f220 [[0,1],[0,1,5],[0,1,5,6],[0,1,6,11],[12],[4],[4],[0,1,13],[4],[0,1,16],[4],[19],[4],[4]])
noncomputable def ajI:aB:=bN (bM 36 [0,1] Tryz.f192 [[0,1],[0,1,9,10,11],[0,1,9,10,11,12],[0,1,5,6,9,10,11],[0,1,5,6,9,10,11,19],[4],[0,1,6,7,9,10,11],[0,1,8,9,10,11],[0,1,8,9,10,11,28],[4],[0,1,9,10,11],[35],[4],[4]])
noncomputable def ajJ:aB:=bN (bM 16 [0,1] Tryz.f163 [[2,3],[4]])
noncomputable def ajK:aB:=bN (bM 16 [0,1] Tryz.f165 [[1,2],[3]])
noncomputable def c148:aB:=bN (bM 19 [0,1] Tryz.f148 [[0,1],[0,1,7,8],[0,1,7,8,9],[0,1,5,7,8],[0,1,5,7,8,16],[4],[0,1,7,8],[4]])
noncomputable def c164:aB:=bN (bM 9 [0,1] Tryz.f164 [[0,1],[4]])
noncomputable def ajL:aB:=bN (bM 56 [0] Tryz.f126 [[0],[0,5,6,7],[0,5,6,7,8],[0,3,4,5,6,7],[0,4,5,6,7,48],[2],[0,5,6,7,51],[2],[0,5,6,7],[2]])
noncomputable def c127:aB:=bN (bM 32 [0] Tryz.f127 [[0],[0,5,6,7],[0,5,6,7,8],[0,3,4,5,6,7],[0,5,6,7,27],[2],[0,5,6,7],[2]])
noncomputable def c93:aB:=bN (bM 35 [0] Tryz.f93 [[1],[1,3],[2],[1,8],[2],[1,20],[2],[1,25],[2],[30],[2],[2]])
noncomputable def ajM:aB:=bN (bM 6 [0] Tryz.f65 [[1],[2]])
noncomputable def ajN:aB:=bN (bM 56 [0,1] Tryz.f68 [[0,3],[0,3,24],[4],[3,5],[4]])
noncomputable def ajO:aB:=bN (bM 9 [0,1] Tryz.f67 [[1,2],[3]])
noncomputable def ajP:aB:=bN (bM 19 [0,1] Tryz.f94 [[0,1],[0,1,7,8],[0,1,7,8,9],[0,1,5,7,8],[0,1,5,7,8,16],[4],[0,1,7,8],[4]])
noncomputable def ajQ:aB:=bN (bM 9 [0,1] Tryz.f66 [[0,1],[4]])
noncomputable def ajR:aB:=bN (bM 21 [0,1] Tryz.f47 [[1,2],[4]])
noncomputable def c193:aB:=bN (bM 38 [0] Tryz.f193 [[0],[0,4],[0,4,5],[4,5,17,18],[4,5,17,18,19],[4,5,17,18],[4,5,6,17,18],[4,5,17,18],[4,5,17,18],[2,3]])
noncomputable def c167:aB:=bN (bM 11 [0] Tryz.f167 [[0],[3],[2]])
noncomputable def c194:aB:=bN (bM 4 [0] Tryz.f194 [[0],[3],[2],[2]])
noncomputable def ajS:aB:=bN (bM 67 [0,1,2] Tryz.f195 [[0,1,2],[1,2,7],[1,2,7,8],[6],[1,2,7,14],[6],[1,2,7,21],[6],[1,2,7,27],[6],[1,2,7,33],[6],[1,2,7,39],[6],[1,2,7,45],[6],[1,2,51],[6],[6]])
noncomputable def c168:aB:=bN (bM 61 [0,1] Tryz.f168 [[0,1],[0,1,9],[0,1,9,10],[4],[0,1,9,17],[4],[0,1,27],[4],[4]])
noncomputable def ajT:aB:=bN (bM 9 [0,1] Tryz.f137 [[0,1],[4]])
noncomputable def ajU:aB:=bN (bM 22 [0,1] Tryz.f133 [[0,1],[0,1,5],[1,5,8,9,10],[1,5,8,9,10,11],[1,5,7,8,9,10],[1,5,8,9,10],[1,5,8,9,10],[4]])
noncomputable def c107:aB:=bN (bM 5 [0] Tryz.f107 [[0],[2]])
noncomputable def c143:aB:=bN (bM 27 [0,1] Tryz.f143 [[0,1],[0,1,5],[1,5,11,12,13],[1,5,11,12,13,14],[1,5,6,7,11,12,13],[1,5,11,12,13],[1,5,11,12,13],[4]])
def ajV:aB:=bg [aP 13 0,il 14 142 13,qZ 15 14,aP 16 15,hX 17 16 (.hS (.t 1)),hX 18 16 (.len 48 (.t 17)),hX 19 16 (.eN .gtr 3 (.t 18) (.c (.int .i64 2))),ro 20 (.pick (.t 16) (.c (.bool true)) (.t 19)),aP 21 20,hX 22 21 (.hS (.t 1)),⟨some 23,.call (.f 97) [(.t 22)],some (21,false)⟩,hX 24 21 (.un .not (.t 23)),ro 25 (.pick (.t 21) (.c (.bool true)) (.t 24)),ck 12 25] [0,1,12] (.cond (.t 12) (bg [ro 4 (.h2 (.c (.str []))),nB 5 false] [4,5] .ret) (bg [aP 27 1,jS 28 48 27,dD 29 .eql 3 28 0,ck 26 29] [0,1,26] (.cond (.t 26) (bg [aP 30 0,ck 4 30,nB 5 true] [4,5] .ret) .skip)))
def ajW:aB:=bg [ro 4 (.h2 (.c (.str []))),nB 5 false] [0,1] (.seq (.block 0 (bg [aP 7 0,ro 8 (.eN .eql 9 (.t 7) (.c (.str [116,97,117]))),ck 6 8] [0,1,6] (.cond (.t 6) (bg [aP 9 1,jS 10 48 9,dD 11 .eql 3 10 0,ro 4 (.h2 (.c (.str [116,97,117]))),ck 5 11] [4,5] .ret) ajV))) (bg [aP 31 0,ro 32 (.eN .add 9 (.t 31) (.c (.str [40]))),aP 33 1,ro 34 (.call (.f 143) [(.t 33),(.c (.str [44]))]),ji 35 .add 9 32 34,ro 36 (.eN .add 9 (.t 35) (.c (.str [41]))),ck 4 36,nB 5 true] [4,5] .ret))
noncomputable def ajX:aB:=bN (bM 8 [0] Tryz.f134 [[0],[0,4],[2],[2]])
noncomputable def ajY:aB:=bN (bM 6 [0] Tryz.f249 [[0],[2]])
noncomputable def ajZ:aB:=bN (bM 19 [0,1] Tryz.f166 [[0,1],[0,1,7,8],[0,1,7,8,9],[0,1,5,7,8],[0,1,5,7,8,16],[4],[0,1,7,8],[4]])
noncomputable def aj0:aB:=bN (bM 9 [0,1] Tryz.f130 [[0,1],[4]])
noncomputable def c236:aB:=bN (bM 11 [0] Tryz.f236 [[0],[2]])
def c210:aB:=bg [ro 2 (.h2 (.c (.str [])))] [0] (.seq (.block 0 (bg [aP 4 0,il 5 236 4,qZ 6 5,ck 3 6] [0,3] (.cond (.t 3) (bg [ro 2 (.h2 (.c (.str [])))] [2] .ret) (bg [aP 8 0,jS 9 48 8,dD 10 .eql 3 9 0,ck 7 10] [0,7] (.cond (.t 7) (bg [ro 2 (.h2 (.c (.str [45])))] [2] .ret) .skip))))) (bg [aP 11 0,ro 12 (.call (.f 143) [(.t 11),(.c (.str [44]))]),ck 2 12] [2] .ret))
def aj1:aB:=bg [ro 1 (.iY 60 (.t 0)),ro 2 (.h2 (.c (.str [])))] [1] (sL [dG 3 60 1 1,cp 4 2 3,il 5 107 4,ro 6 (.eN .add 9 (.t 5) (.c (.str [58]))),dG 7 60 1 2,cp 8 48 7,il 9 210 8,ji 10 .add 9 6 9,ck 2 10] [[],[0],[1],[2],[],[4],[5,2],[3,6],[7,6,0,1,2,3,4,5,6,7]] [2] .ret)
def c146:aB:=bg [ro 1 (.iY 60 (.t 0)),ro 2 (.h2 (.c (.str [])))] [1] (sL [dG 3 60 1 0,cp 4 2 3,il 5 107 4,ro 6 (.eN .add 9 (.t 5) (.c (.str [58]))),cp 7 60 1,il 8 177 7,ji 9 .add 9 6 8,ck 2 9] [[],[0],[1],[2],[],[4,2],[3,5],[6,5,0,1,2,3,4,5,6]] [2] .ret)
def aj2:aB:=bg [aP 12 0,nj 13 12,dG 14 170 13 2,cp 15 126 14,aP 16 4,ro 17 (.jt 126 (.t 15) (.t 16)),qZ 18 17] [0,1,3,4,18] (.cond (.t 18) (bg [aP 19 0,nj 20 19,dG 21 170 20 2,cp 22 126 21,aP 23 4,⟨none,.kM 126 (.t 22) (.t 23) (.c (.bool true)),none⟩] [0,1,3] (.jw [aP 24 0,aP 25 0,nj 26 25,dG 27 170 26 1,cp 28 83 27,cp 29 88 3,ve 30 83 29,xe 31 83 83 28 30,nj 32 24,dG 33 170 32 1,jT 83 33 31] [[],[],[1],[2],[3],[],[5],[4,6],[0,0,1,2,3,4,5,6,7],[8,0,1,2,3,4,5,6,7],[9,7,7,0,1,2,3,4,5,6,7]] (some [0,1]))) .skip)
def aj3:aB:=bg [ro 3 (.iY 88 (.t 1))] [0,1,3] (sL [dG 5 88 3 0,cp 6 9 5,ro 7 (.eN .add 9 (.t 6) (.c (.str [32]))),dG 8 88 3 1,cp 9 60 8,il 10 146 9,ji 11 .add 9 7 10,ck 4 11] [[],[0],[1],[],[3],[4],[2,5],[6,5,0,1,2,3,4,5,6]] [0,1,3,4] aj2)
def Xb:aB:=.eu [aP 63 0,aP 64 10,cp 65 60 12,ro 66 (.gx 88 [(0,(.t 64)),(1,(.t 65))]),kP 67 135 63 66] (some [0])
def aj4:aB:=bg [aP 41 1,aP 42 2,dD 43 .add 2 42 1,aP 44 3,il 45 134 44,ro 46 (.gx 60 [(0,(.t 41)),(1,(.t 43)),(2,(.t 45))]),ox 12 60,jT 60 12 46] [0,2,3,8,10,12] (.seq (bg [dG 47 99 8 2,cp 48 97 47,aP 49 2,dD 50 .add 2 49 1,ha 51 97 48 50,cp 52 145 51,ox 13 145,jT 145 13 52] [0,3,10,12,13] (bg [dG 53 145 13 0,cp 54 2 53,dD 55 .eql 2 54 5] [0,3,10,12,13,55] (.cond (.t 55) (.jw [dG 56 145 13 1,cp 57 2 56,dG 58 145 13 3,cp 59 143 58,aP 60 3,kP 61 133 59 60,ro 62 (.gx 60 [(0,(.t 57)),(1,(.c (.int .i64 0))),(2,(.t 61))]),jT 60 12 62] [[],[0],[],[2],[],[3,4],[1,5],[6,5,0,1,2,3,4,5,6]] (some [0,10,12])) .skip))) Xb)
def Xc:aB:=bg [ji 105 .lss 2 104 103] [0,1,2,3,103,104,105] (.seq (.cond (.t 105) .skip (.exit 1)) (.seq (.block 2 (bg [aP 106 104,ck 14 106] [0,1,2,3,14,103,104] (.eu [aP 107 0,aP 108 1,aP 109 2,dD 110 .add 2 109 1,aP 111 3,il 112 134 111,aP 113 14,ve 114 48 113,⟨some 115,.shr (.app 48 48 (.t 112) (.t 114)),none⟩,Es 116 98 107 108 110 115] (some [0,1,2,3,103,104])))) (.eu [dD 117 .add 2 104 1,aP 104 117] (some [0,1,2,3,103,104]))))
def aj5:aB:=bg [dD 85 .eql 2 28 3,ck 84 85] [0,1,2,3,9,28,84] (.cond (.t 84) (bg [dG 86 145 9 3,cp 87 143 86,ro 88 (.ks 143 (.t 87) (.c (.int .i64 0))),cp 89 153 88,aP 90 3,kP 91 137 89 90,dD 92 .neq 2 91 0] [0,1,2,3,92] (.cond (.t 92) (.eu [aP 93 0,aP 94 1,aP 95 2,dD 96 .add 2 95 1,aP 97 3,Es 98 98 93 94 96 97] (some [0])) .skip)) (bg [dD 100 .eql 2 28 4,ck 99 100] [0,1,2,3,9,99] (.cond (.t 99) (bg [dG 101 145 9 1,cp 102 2 101,dD 103 .add 2 102 1,xd 104 0] [0,1,2,3,103,104] (.block 1 (.loop Xc))) .skip)))
def aj6:aB:=.cond (.t 29) (sL [dG 32 145 9 2,cp 33 9 32,dG 34 145 9 3,cp 35 143 34,aP 36 3,kP 37 133 35 36,kP 38 103 33 37,aP 31 38,kD 39 31 0,kD 40 31 1,ck 10 39,ck 11 40] [[],[0],[],[2],[],[3,4],[1,5,5],[6],[7],[7],[8,6,0,1,2,3,4,5,6,7,8],[9,10,0,1,2,3,4,5,6,7,8,9,10]] [0,1,2,3,8,10] aj4) (bg [dD 69 .eql 2 28 2,ck 68 69] [0,1,2,3,8,9,28,68] (.cond (.t 68) (bg [aP 70 0,aP 71 1,aP 72 2,dD 73 .add 2 72 1,aP 74 3,Es 75 98 70 71 73 74] [0,1,2,3,8] (.eu [aP 76 0,aP 77 1,cp 78 99 8,aP 79 2,dD 80 .add 3 79 1,kP 81 136 78 80,aP 82 3,Es 83 98 76 77 81 82] (some [0]))) aj5))
def aj7:aB:=bg [aP 15 0,nj 16 15,dG 17 170 16 0,cp 18 32 17,aP 19 1,ha 20 32 18 19,cp 21 99 20,ox 8 99,jT 99 8 21] [0,1,2,3,8] (bg [dG 22 99 8 2,cp 23 97 22,aP 24 2,ha 25 97 23 24,cp 26 145 25,ox 9 145,jT 145 9 26] [0,1,2,3,8,9] (bg [dG 27 145 9 0,cp 28 2 27] [0,1,2,3,8,9,28] (.block 0 (bg [dD 30 .eql 2 28 1,ck 29 30] [0,1,2,3,8,9,28,29] aj6))))
def aj8:aB:=bg [aP 7 0,ro 8 (.r4),ro 9 (.gx 170 [(0,(.t 7)),(2,(.t 8))]),ro 10 (.iY 170 (.t 9)),ck 6 10] [3,6] (bg [aP 11 6,dG 12 60 3 0,cp 13 2 12,dG 14 60 3 1,cp 15 2 14,dG 16 60 3 2,cp 17 48 16,Es 18 98 11 13 15 17] [6] (sL [aP 19 6,nj 20 19,dG 21 170 20 1,cp 22 83 21,aP 23 6,nj 24 23,dG 25 170 24 1,cp 26 83 25,jS 27 83 26,dD 28 .leq 3 27 200,⟨some 4,.pw (.t 22),none⟩,ck 5 28] [[],[0],[1],[2],[],[4],[5],[6],[7],[8],[3,0,1,2,3],[9,10,0,1,2,3,4,5,6,7,8,9,10]] [4,5,6] .ret))
def aj9:aB:=bg [ro 3 (.iY 60 (.t 1)),pD 4,nB 5 false] [0,3] aj8
noncomputable def c196:aB:=bN (bM 8 [0,1] Tryz.f196 [[0,1],[4]])
noncomputable def aj_:aB:=bN (bM 143 [0,1] Tryz.f169 [[0,1],[0,1,5],[0,1,5,16],[4],[0,1,5,24],[4],[0,1,5,31],[4],[0,1,5,36],[4],[0,1,5,6],[0,1,5,6,7],[0,1,5,6,7,8],[0,1,5,6,7,8,9],[0,1,5,6,7,8,9,10],[0,1,5,6,7,8,9,10,59],[0,1,5,6,7,8,9,10,64],[0,1,5,6,7,8,9,10,11],[0,1,5,6,7,8,9,10,11,73],[4],[0,1,5,6,7,8,9,10],[0,1,5,6,7,8,9,10,93],[4],[0,1,5,6,7,8,9,10],[0,1,5,6,7,8,9,10],[0,1,5,6,7,8,9,10,107],[8,12],[8,12,114],[4],[4],[0,1,5,6,7,8,9,10,132],[8,13],[8,13,139],[4],[4],[4]])
noncomputable def c138:aB:=bN (bM 23 [0,1] Tryz.f138 [[0,1],[0,1,7],[0,1,7,12],[4,5,6],[4,5,6]])
noncomputable def aka:aB:=bN (bM 13 [0,1] Tryz.f99 [[0,1],[4,5,6]])
noncomputable def c175:aB:=bN (bM 21 [0,1] Tryz.f175 [[0,1],[4]])
noncomputable def c141:aB:=bN (bM 16 [0,1] Tryz.f141 [[0,1],[0,1,7],[4],[4]])
noncomputable def akb:aB:=bN (bM 8 [0,1] Tryz.f102 [[0,1],[4]])
noncomputable def akc:aB:=bN (bM 8 [0,1] Tryz.f174 [[0,1],[4]])
noncomputable def c173:aB:=bN (bM 34 [1] Tryz.f173 [[0,1],[0,1,9],[4],[0,1,15],[4],[0,1,5],[0,1,5,6],[0,1,5,6,24],[4],[0,1,5,6],[0,1,5]])
noncomputable def akd:aB:=bN (bM 66 [1,2] Tryz.f140 [[0,1,2,3],[0,1,2,3,13],[8],[0,1,2,3,15],[8],[0,1,2,3,20],[0,1,2,3],[0,1,2,3],[0,1,2,3,9],[0,1,2,3,9],[0,1,2,3,9,10],[0,1,2,3,9,10,36],[0,1,2,3,9,10,11],[0,1,2,3,9,10,11,41],[0,1,2,3,9,10,11],[0,1,2,3,9,10],[0,1,2,3,9,10],[9,10],[8]])
noncomputable def ake:aB:=bN (bM 8 [0,1] Tryz.f101 [[0,1],[4]])
noncomputable def akf:aB:=bN (bM 28 [0] Tryz.f100 [[0],[0,4],[4,9,10,11],[4,9,10,11,12],[4,6,9,10,11],[4,7,8,9,10,11],[4,7,9,10,11,21],[2,3],[4,9,10,11],[4,9,10,11],[2,3]])
def Xd:aB:=.seq (bg [aP 29 5,aP 30 8,kP 31 103 29 30,aP 28 31,kD 32 28 0,kD 33 28 1,ck 10 32,ck 11 33] [0,5,8,10,11] (bg [aP 34 11,qZ 35 34,aP 36 35,hX 37 36 (.hS (.t 10)),hX 38 36 (.hS (.t 0)),hX 39 36 (.eN .neq 9 (.t 37) (.t 38)),ro 40 (.pick (.t 36) (.c (.bool true)) (.t 39))] [5,8,40] (.cond (.t 40) (bg [ro 2 (.h2 (.c (.str []))),pD 3,nB 4 false] [2,3,4] .ret) .skip))) (bg [aP 41 5,aP 42 8,ck 2 41,ck 3 42,nB 4 true] [2,3,4] .ret)
def akg:aB:=bg [aP 13 0,ro 14 (.call (.f 99) [(.t 13),(.c (.str [40]))]),aP 12 14,kD 15 12 0,kD 16 12 1,kD 17 12 2,ck 5 15,ck 6 16,ck 7 17] [0,5,6,7] (bg [pD 8] [0,5,6,7,8] (.seq (bg [aP 18 7] [0,5,6,8,18] (.cond (.t 18) (bg [nB 9 false] [0,5,6] (bg [aP 20 6,ro 21 (.call (.f 102) [(.t 20),(.c (.str [41]))]),ro 22 (.call (.f 101) [(.t 21),(.c (.str [44]))]),il 23 100 22,aP 19 23,kD 24 19 0,kD 25 19 1,ck 8 24,ck 9 25] [0,5,8,9] (bg [aP 26 9,qZ 27 26] [0,5,8,27] (.cond (.t 27) (bg [ro 2 (.h2 (.c (.str []))),pD 3,nB 4 false] [2,3,4] .ret) .skip)))) .skip)) Xd))
def c70:aB:=bg [ro 2 (.h2 (.c (.str []))),pD 3,nB 4 false] [0] akg
noncomputable def akh:aB:=bN (bM 19 [0,1] Tryz.f144 [[0,1],[0,1,7,8],[0,1,7,8,9],[0,1,5,7,8],[0,1,5,7,8,16],[4],[0,1,7,8],[4]])
noncomputable def aki:aB:=bN (bM 9 [0,1] Tryz.f104 [[0,1],[4]])
noncomputable def akj:aB:=bN (bM 8 [0] Tryz.f106 [[1,2],[1,2],[2]])
noncomputable def c105:aB:=bN (bM 19 [0] Tryz.f105 [[0],[0,3],[3,6,7,8],[3,6,7,8,9],[3,5,6,7,8],[3,6,7,8],[3,6,7,8],[2]])
def Xe:aB:=bg [ji 9 .lss 3 8 7] [3,6,7,8,9] (.seq (.cond (.t 9) .skip (.exit 0)) (.seq (.block 1 (bg [ha 10 38 6 8,cp 11 60 10,ox 5 60,jT 60 5 11] [3,5,6,7,8] (.eu [aP 12 3,cp 13 60 5,il 14 146 13,ve 15 25 14,xe 16 25 25 12 15,ck 3 16] (some [3,6,7,8])))) (.eu [dD 17 .add 3 8 1,aP 8 17] (some [3,6,7,8]))))
def akk:aB:=bg [ro 2 (.h2 (.c (.str [])))] [0] (bg [pD 3] [0,3] (.seq (bg [aP 6 0,jS 7 38 6,xd 8 0] [3,6,7,8] (.block 0 (.loop Xe))) (bg [aP 18 3,ro 19 (.call (.f 147) [(.t 18),(.c (.str [32]))]),ck 2 19] [2] .ret)))
def akl:aB:=bg [aP 75 0,nj 76 75,dG 77 128 76 3,cp 78 126 77,aP 79 15,ro 80 (.jt 126 (.t 78) (.t 79)),qZ 81 80] [0,3,4,12,14,15,81] (.cond (.t 81) (bg [aP 82 0,nj 83 82,dG 84 128 83 3,cp 85 126 84,aP 86 15,⟨none,.kM 126 (.t 85) (.t 86) (.c (.bool true)),none⟩] [0,3,4,12,14] (.eu [aP 87 0,aP 88 0,nj 89 88,dG 90 128 89 2,cp 91 53 90,aP 92 12,aP 93 3,aP 94 4,aP 95 14,ro 96 (.gx 95 [(0,(.t 92)),(1,(.t 93)),(2,(.t 94)),(3,(.t 95))]),ve 97 53 96,xe 98 53 53 91 97,nj 99 87,dG 100 128 99 2,jT 53 100 98] (some [0]))) .skip)
def PX:aB:=bg [aP 62 12,ro 63 (.eN .add 9 (.t 62) (.c (.str [32]))),aP 64 3,il 65 107 64,ji 66 .add 9 63 65,ro 67 (.eN .add 9 (.t 66) (.c (.str [32]))),aP 68 4,il 69 107 68,ji 70 .add 9 67 69,ro 71 (.eN .add 9 (.t 70) (.c (.str [32]))),aP 72 14,il 73 108 72,ji 74 .add 9 71 73,ck 15 74] [0,3,4,12,14,15] akl
def akm:aB:=bg [aP 41 0,nj 42 41,dG 43 128 42 1,cp 44 38 43,il 45 105 44,ck 14 45] [0,3,4,5,12,14] (bg [aP 46 14,aP 47 3,aP 48 5,ro 49 (.ks 38 (.t 48) (.c (.int .i64 0))),cp 50 60 49,il 51 106 50,ha 52 38 46 47,jT 60 52 51] [0,3,4,5,12,14] (.seq (bg [aP 53 4,dD 54 .geq 2 53 0] [0,3,4,5,12,14,54] (.cond (.t 54) (.eu [aP 55 14,aP 56 4,aP 57 5,ro 58 (.ks 38 (.t 57) (.c (.int .i64 1))),cp 59 60 58,il 60 106 59,ha 61 38 55 56,jT 60 61 60] (some [0,3,4,12,14])) .skip)) PX))
def PY:aB:=bg [aP 36 1,aP 37 2,kP 38 103 36 37,aP 35 38,kD 39 35 0,kD 40 35 1,ck 12 39,ck 13 40] [0,3,4,5,12] akm
def akn:aB:=.seq (bg [aP 16 1,ro 17 (.eN .neq 9 (.t 16) (.c (.str [116,97,117]))),aP 18 17,e3 19 18 (.hS (.t 0)),e3 20 18 (.mf (.t 19)),e3 21 18 (.hK 128 (.t 20) 0),e3 22 18 (.hK 36 (.t 21) 3),e3 23 18 (.fO 25 (.t 22)),e3 24 18 (.hS (.t 1)),⟨some 25,.call (.f 104) [(.t 23),(.t 24)],some (18,true)⟩,e3 26 18 (.un .not (.t 25)),ro 27 (.pick (.t 18) (.t 26) (.c (.bool false)))] [0,1,2,3,4,5,27] (.cond (.t 27) .ret .skip)) (.seq (bg [aP 28 0,nj 29 28,dG 30 128 29 0,dG 31 36 30 4,cp 32 25 31,aP 33 1,kP 34 104 32 33] [0,1,2,3,4,5,34] (.cond (.t 34) (.eu [ro 1 (.h2 (.c (.str [116,97,117]))),pD 2] (some [0,1,2,3,4,5])) .skip)) PY)
noncomputable def ako:aB:=bN (bM 19 [0,1,2] Tryz.f149 [[1,2,3],[4]])
noncomputable def akp:aB:=bN (bM 19 [0,1] Tryz.f148 [[0,1],[0,1,7,8],[0,1,7,8,9],[0,1,5,7,8],[0,1,5,7,8,16],[4],[0,1,7,8],[4]])
noncomputable def c109:aB:=bN (bM 21 [0,1,2] Tryz.f109 [[3,4,5],[3,8],[3,8,14],[6,7],[6,7]])
noncomputable def akq:aB:=bN (bM 26 [0,1] Tryz.f110 [[0,1],[0,1,10],[4],[0,1,12,13],[0,1,12,13,14],[0,1,5,12,13],[0,1,12,13,24],[4],[0,1,12,13],[4]])
def akr:aB:=bg [aP 49 0,nj 50 49,dG 51 128 50 0,cp 52 36 51,aP 53 12,aP 54 17,V9 55 109 52 53 54,aP 48 55,kD 56 48 0,kD 57 48 1,ck 20 56,ck 21 57] [0,1,2,4,11,12,13,16,18,20,21,22,23,24,35,36,37] (bg [aP 58 21,aP 59 58,e3 60 59 (.hS (.t 13)),e3 61 59 (.hS (.t 18)),⟨some 62,.call (.f 110) [(.t 60),(.t 61)],some (59,true)⟩,ro 63 (.pick (.t 59) (.t 62) (.c (.bool false)))] [0,1,2,4,11,12,13,16,20,22,23,24,35,36,37,63] (.cond (.t 63) (.eu [aP 64 0,aP 65 20,aP 66 13,aP 67 1,aP 68 2,dG 69 88 11 1,cp 70 60 69,dG 71 88 16 1,cp 72 60 71,⟨some 73,.shr (.dO 38 2 [(0,(.t 70)),(1,(.t 72))]),none⟩,ro 74 (.call (.f 71) [(.t 64),(.t 65),(.t 66),(.t 67),(.t 68),(.t 73)])] (some [0,1,2,4,11,12,13,22,23,24,35,36,37])) .skip))
def Xf:aB:=.eu [dD 75 .add 3 37 1,aP 37 75] (some [0,1,2,4,11,12,13,22,23,24,35,36,37])
def Xg:aB:=bg [ji 38 .lss 3 37 36] [0,1,2,4,11,12,13,22,23,24,35,36,37,38] (.seq (.cond (.t 38) .skip (.exit 2)) (.seq (.block 3 (bg [ha 39 83 35 37,cp 40 88 39,ox 16 88,jT 88 16 40] [0,1,2,4,11,12,13,16,22,23,24,35,36,37] (bg [dG 42 88 16 0,cp 43 9 42,il 44 70 43,aP 41 44,kD 45 41 0,kD 46 41 1,kD 47 41 2,ck 17 45,ck 18 46,ck 19 47] [0,1,2,4,11,12,13,16,17,18,22,23,24,35,36,37] akr))) Xf))
def Xh:aB:=bg [ji 25 .lss 3 24 23] [0,1,2,4,22,23,24,25] (.seq (.cond (.t 25) .skip (.exit 0)) (.seq (.block 1 (bg [ha 26 83 22 24,cp 27 88 26,ox 11 88,jT 88 11 27] [0,1,2,4,11,22,23,24] (bg [dG 29 88 11 0,cp 30 9 29,il 31 70 30,aP 28 31,kD 32 28 0,kD 33 28 1,kD 34 28 2,ck 12 32,ck 13 33,ck 14 34] [0,1,2,4,11,12,13,22,23,24] (bg [aP 35 4,jS 36 83 35,xd 37 0] [0,1,2,4,11,12,13,22,23,24,35,36,37] (.block 2 (.loop Xg)))))) (.eu [dD 76 .add 3 24 1,aP 24 76] (some [0,1,2,4,22,23,24]))))
def c72:aB:=bg [aP 22 3,jS 23 83 22,xd 24 0] [0,1,2,4,22,23,24] (.block 0 (.loop Xh))
def aks:aB:=.seq (.block 3 (bg [ha 48 83 44 46,cp 49 88 48,ox 13 88,jT 88 13 49] [1,2,6,7,8,13,24,25,26,44,45,46] (bg [dG 51 88 13 0,cp 52 9 51,il 53 70 52,aP 50 53,kD 54 50 0,kD 55 50 1,kD 56 50 2,ck 14 54,ck 15 55,ck 16 56] [1,2,6,7,8,13,14,15,24,25,26,44,45,46] (.eu [aP 57 6,aP 58 14,aP 59 15,aP 60 8,dG 61 88 13 1,cp 62 60 61,⟨some 63,.shr (.dO 38 1 [(0,(.t 62))]),none⟩,ro 64 (.call (.f 71) [(.t 57),(.t 58),(.t 59),(.t 60),(.c (.int .i64 (-1))),(.t 63)])] (some [1,2,6,7,8,24,25,26,44,45,46]))))) (.eu [dD 65 .add 3 46 1,aP 46 65] (some [1,2,6,7,8,24,25,26,44,45,46]))
def Xi:aB:=bg [ji 47 .lss 3 46 45] [1,2,6,7,8,24,25,26,44,45,46,47] (.seq (.cond (.t 47) .skip (.exit 2)) aks)
def akt:aB:=.seq (.block 1 (bg [aP 28 26,ha 29 38 24 26,cp 30 60 29,ox 9 60,ck 8 28,jT 60 9 30] [1,2,6,7,8,9,24,25,26] (bg [dG 32 36 2 0,cp 33 32 32,cp 34 60 9,kP 35 69 33 34,aP 31 35,kD 36 31 0,kD 37 31 1,ck 10 36,ck 11 37] [1,2,6,7,8,10,11,24,25,26] (.seq (bg [aP 38 11,qZ 39 38] [1,2,6,7,8,10,24,25,26,39] (.cond (.t 39) (bg [pD 4,nB 5 false] [4,5] .ret) .skip)) (bg [aP 40 7,aP 41 10,ve 42 82 41,xe 43 82 82 40 42,ck 7 43] [1,2,6,7,8,10,24,25,26] (bg [aP 44 10,jS 45 83 44,xd 46 0] [1,2,6,7,8,24,25,26,44,45,46] (.block 2 (.loop Xi)))))))) (.eu [dD 66 .add 3 26 1,aP 26 66] (some [1,2,6,7,24,25,26]))
def Xj:aB:=bg [ji 27 .lss 3 26 25] [1,2,6,7,24,25,26,27] (.seq (.cond (.t 27) .skip (.exit 0)) akt)
def Xk:aB:=.seq (bg [aP 74 18,aP 75 1,jS 76 38 75,ji 77 .lss 3 74 76] [1,6,7,17,18,68,69,77] (.cond (.t 77) .skip (.exit 6))) (.seq (.block 7 (.jw [aP 80 6,aP 81 17,aP 82 18,aP 83 7,aP 84 17,ha 85 82 83 84,cp 86 83 85,aP 87 7,aP 88 18,ha 89 82 87 88,cp 90 83 89,ro 91 (.call (.f 72) [(.t 80),(.t 81),(.t 82),(.t 86),(.t 90)])] [[],[],[],[],[],[3,4],[5],[],[],[7,8],[9],[0,1,2,6,10]] (some [1,6,7,17,18,68,69]))) (.eu [aP 78 18,dD 79 .add 3 78 1,ck 18 79] (some [1,6,7,17,18,68,69])))
def Xl:aB:=bg [ji 70 .lss 3 69 68] [1,6,7,68,69,70] (.seq (.cond (.t 70) .skip (.exit 4)) (.seq (.block 5 (bg [aP 71 69,ck 17 71] [1,6,7,17,68,69] (bg [aP 72 17,dD 73 .add 3 72 1,ck 18 73] [1,6,7,17,18,68,69] (.block 6 (.loop Xk))))) (.eu [dD 92 .add 3 69 1,aP 69 92] (some [1,6,7,68,69]))))
def aku:aB:=bg [cp 19 36 2,aP 20 1,ro 21 (.r4),ro 22 (.gx 128 [(0,(.t 19)),(1,(.t 20)),(3,(.t 21))]),ro 23 (.iY 128 (.t 22)),ck 6 23] [1,2,6] (bg [pD 7] [1,2,6,7] (.seq (bg [aP 24 1,jS 25 38 24,xd 26 0] [1,2,6,7,24,25,26] (.block 0 (.loop Xj))) (.seq (bg [aP 67 1,jS 68 38 67,xd 69 0] [1,6,7,68,69] (.block 4 (.loop Xl))) (sL [aP 93 6,nj 94 93,dG 95 128 94 2,cp 96 53 95,aP 97 6,nj 98 97,dG 99 128 98 2,cp 100 53 99,jS 101 53 100,dD 102 .leq 3 101 200,⟨some 4,.pw (.t 96),none⟩,ck 5 102] [[],[0],[1],[2],[],[4],[5],[6],[7],[8],[3,0,1,2,3],[9,10,0,1,2,3,4,5,6,7,8,9,10]] [4,5,6] .ret))))
def akv:aB:=bg [ro 2 (.iY 36 (.t 0)),pD 4,nB 5 false] [1,2] aku
noncomputable def c24:aB:=bN (bM 21 [0,1] Tryz.f24 [[1,2],[1,2,11],[4,5],[6,7],[6,19],[4,5],[4,5]])
noncomputable def c9:aB:=bN (bM 20 [0,1] Tryz.f9 [[1,2],[5,6],[4]])
noncomputable def c213:aB:=bN (bM 15 [0,1] Tryz.f213 [[2,3],[2,3,9],[4],[14],[4],[4]])
noncomputable def akw:aB:=bN (bM 27 [0,1] Tryz.f181 [[0,1],[0,1,10],[4],[0,1,5],[0,1,5,14],[0,1,5,26],[4],[0,1,5],[4]])
noncomputable def akx:aB:=bN (bM 27 [0,1] Tryz.f150 [[0,1],[0,1,10],[4],[0,1,5],[0,1,5,14],[0,1,5,26],[4],[0,1,5],[4]])
noncomputable def aky:aB:=bN (bM 26 [0,1] Tryz.f111 [[2,3],[2,3,9],[4],[2,3,14],[4],[2,3,19],[4],[25],[4],[4]])
noncomputable def akz:aB:=bN (bM 27 [0,1] Tryz.f73 [[0,1],[0,1,10],[4],[0,1,5],[0,1,5,14],[0,1,5,26],[4],[0,1,5],[4]])
noncomputable def c49:aB:=bN (bM 21 [0,1] Tryz.f49 [[2,3],[2,3,9],[4],[2,3,14],[4],[20],[4],[4]])
noncomputable def akA:aB:=bN (bM 27 [0,1] Tryz.f25 [[0,1],[0,1,10],[4],[0,1,5],[0,1,5,14],[0,1,5,26],[4],[0,1,5],[4]])
noncomputable def akB:aB:=bN (bM 26 [0,1] Tryz.f52 [[0,1],[0,1,10],[4],[0,1,5],[0,1,5,14],[0,1,5,25],[4],[0,1,5],[4]])
noncomputable def akC:aB:=bN (bM 16 [0,1] Tryz.f50 [[2,3],[2,3,9],[4],[15],[4],[4]])
noncomputable def PZ:aB:=bN (bM 27 [0,1] Tryz.f26 [[0,1],[0,1,10],[4],[0,1,5],[0,1,5,14],[0,1,5,26],[4],[0,1,5],[4]])
noncomputable def c51:aB:=bN (bM 20 [0,1] Tryz.f51 [[2,3],[2,3,9],[4],[2,3,14],[4],[19],[4],[4]])
noncomputable def akD:aB:=bN (bM 27 [0,1] Tryz.f27 [[0,1],[0,1,10],[4],[0,1,5],[0,1,5,14],[0,1,5,26],[4],[0,1,5],[4]])
noncomputable def c28:aB:=bN (bM 26 [0,1] Tryz.f28 [[0,1],[0,1,10],[4],[0,1,5],[0,1,5,14],[0,1,5,25],[4],[0,1,5],[4]])
noncomputable def zu:aB:=bN (bM 35 [0,1] Tryz.f10 [[2,3],[2,3,10],[4],[2,3,16],[4],[2,3,22],[4],[2,3,28],[4],[34],[4],[4]])
noncomputable def akE:aB:=bN (bM 21 [0,1] Tryz.f29 [[2,3],[2,3,9],[4],[2,3,14],[4],[20],[4],[4]])
noncomputable def akF:aB:=bN (bM 27 [0,1] Tryz.f11 [[0,1],[0,1,10],[4],[0,1,5],[0,1,5,14],[0,1,5,26],[4],[0,1,5],[4]])
noncomputable def c3:aB:=bN (bM 45 [0,1] Tryz.f3 [[1,2],[1,2,5],[1,2,5],[1,2,5,14],[4],[1,2,5],[1,2,19],[4],[1,2,6],[1,2,6,7],[1,2,6,7,8],[1,2,6,7,8,9],[1,2,7,8,34],[4],[1,8,39],[4],[44],[4],[4]])
def Gd:=PLift.up (And.intro @Bool.not_true @Bool.not_false)
def avz:=PLift.up (And.intro @length_append.{0} (And.intro @length_cons.{0} (And.intro @length_nil.{0} (And.intro @length_map.{0,0} (And.intro @length_replicate.{0} (And.intro @Nat.zero_add @Nat.add_zero))))))
end Go.Proofs.YtmaepbgkcmjcjagGreatDoor
