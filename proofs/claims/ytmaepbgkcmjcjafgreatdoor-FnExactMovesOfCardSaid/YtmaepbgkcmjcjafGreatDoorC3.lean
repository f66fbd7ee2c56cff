/- Part of a proof that a law returns true for every input. No condition. -/
import Derived.Test.YtmaepbgkcmjcjafGreatDoorTb
import Derived.Test.YtmaepbgkcmjcjafGreatDoorFwL
import Derived.Test.YtmaepbgkcmjcjafGreatDoorP3
namespace Go.Proofs.YtmaepbgkcmjcjafGreatDoor
open List Option Go.IntKind Nat
open Go Go.eg Go.kX
set_option linter.unusedSimpArgs false
def mW (x:jq):I:=.agg [.int .i64 x.Kind,.int .i64 x.Value]
theorem ai5 (x:jq):(mW x).share=mW x:=by
 simp only[mW,cG]
theorem aw5 (x:jq):(mW x).cX=true:=by
 simp only[mW,I.cX,I.hd,Bool.and_self]
def ly (x:ayo):I:=.slice (x.map mW)
theorem XB (x:ayo):(ly x).share=ly x:=by
 simp only[ly,cG, @bV _ mW mW (λ_=>ai5 _)]
def ky (x:ll):I:=.agg [.int .i64 x.Kind,.int .i64 x.Number,.str x.Name,.slice (x.cd.map ly)]
theorem XC (x:ll):(ky x).share=ky x:=by
 simp only[ky,cG, @bV _ ly ly (λ_=>XB _)]
def jU (x:ln):I:=.agg [.str x.Name,.int .i64 x.dP,.slice (x.Body.map ky)]
theorem XD (x:ln):(jU x).share=jU x:=by
 simp only[jU,cG, @bV _ ky ky (λ_=>XC _)]
def a8 (x:Int):I:=.int .i64 x
theorem jV (x:Int):(a8 x).share=a8 x:=by
 simp only[a8,cG]
theorem KB (x:Int):(a8 x).cX=true:=by
 simp only[a8,I.cX,I.hd,Bool.and_self]
def jW (x:lo):I:=.agg [.int .i64 x.cp,.slice (x.bH.map a8)]
theorem XE (x:lo):(jW x).share=jW x:=by
 simp only[jW,cG, @bV _ a8 a8 (λ_=>jV _)]
def jA (x:kY):I:=.agg [.str x.Left,.str x.cx,.str x.Result]
theorem XF (x:kY):(jA x).share=jA x:=by
 simp only[jA,cG]
theorem aw6 (x:kY):(jA x).cX=true:=by
 simp only[jA,I.cX,I.hd,Bool.and_self]
def bm (x:ayc):I:=.str x
theorem k5 (x:ayc):(bm x).share=bm x:=by
 simp only[bm,cG]
theorem XG (x:ayc):(bm x).cX=true:=by
 simp only[bm,I.cX,I.hd,Bool.and_self]
def nN (x:oN):I:=.agg [.slice (x.c8.map jU),.slice (x.cL.map jW),.slice (x.cz.map jA),.slice (x.dj.map bm),.slice (x.dk.map bm)]
theorem aw7 (x:oN):(nN x).share=nN x:=by
 simp only[nN,cG, @bV _ jU jU (λ_=>XD _), @bV _ jW jW (λ_=>XE _), @bV _ jA jA (λ_=>XF _), @bV _ bm bm (λ_=>k5 _)]
def jB (x:lp):I:=.agg [.int .i64 x.cp,.int .i64 x.Part,.slice (x.bH.map a8)]
theorem aw8 (x:lp):(jB x).share=jB x:=by
 simp only[jB,cG, @bV _ a8 a8 (λ_=>jV _)]
def QO (x:ayq):I:=.slice (x.map jU)
theorem aw9 (x:ayq):(QO x).share=QO x:=by
 simp only[QO,cG, @bV _ jU jU (λ_=>XD _)]
def QP (x:ayr):I:=.slice (x.map jW)
theorem aw_ (x:ayr):(QP x).share=QP x:=by
 simp only[QP,cG, @bV _ jW jW (λ_=>XE _)]
def QQ (x:ays):I:=.slice (x.map jA)
theorem axa (x:ays):(QQ x).share=QQ x:=by
 simp only[QQ,cG, @bV _ jA jA (λ_=>XF _)]
def GC (x:ayb):I:=.slice (x.map bm)
theorem axb (x:ayb):(GC x).share=GC x:=by
 simp only[GC,cG, @bV _ bm bm (λ_=>k5 _)]
def QR (x:ayp):I:=.slice (x.map ky)
theorem axc (x:ayp):(QR x).share=QR x:=by
 simp only[QR,cG, @bV _ ky ky (λ_=>XC _)]
def QS (x:ayl):I:=.slice (x.map ly)
theorem axd (x:ayl):(QS x).share=QS x:=by
 simp only[QS,cG, @bV _ ly ly (λ_=>XB _)]
def GD (x:aye):I:=.slice (x.map a8)
theorem axe (x:aye):(GD x).share=GD x:=by
 simp only[GD,cG, @bV _ a8 a8 (λ_=>jV _)]
def dR (x:bQ):I:=.agg [.int .i64 x.Kind,.int .i64 x.Value]
theorem GF (x:bQ):(dR x).share=dR x:=by
 simp only[dR,cG]
theorem ai6 (x:bQ):(dR x).cX=true:=by
 simp only[dR,I.cX,I.hd,Bool.and_self]
def iX (x:ayu):I:=.slice (x.map dR)
theorem QT (x:ayu):(iX x).share=iX x:=by
 simp only[iX,cG, @bV _ dR dR (λ_=>GF _)]
def ep (x:b1):I:=.agg [.int .i64 x.Kind,.int .i64 x.Number,.str x.Name,.slice (x.cd.map iX)]
theorem KC (x:b1):(ep x).share=ep x:=by
 simp only[ep,cG, @bV _ iX iX (λ_=>QT _)]
def bx (x:bb):I:=.agg [.str x.Name,.int .i64 x.dP,.slice (x.Body.map ep)]
theorem uR (x:bb):(bx x).share=bx x:=by
 simp only[bx,cG, @bV _ ep ep (λ_=>KC _)]
def lz (x:ayu):I:=.ag 2 (x.map dR)
theorem QU (x:ayu):(lz x).share=iX x:=by
 simp only[lz,iX,cG, @bV _ dR dR (λ_=>GF _)]
theorem XH (x:ayu):(lz x).cX=true:=by
 simp only[lz,I.cX,I.hd,Bool.and_self, @kq _ dR (λ_=>ai6 _)]
def je (x:b1):I:=.agg [.int .i64 x.Kind,.int .i64 x.Number,.str x.Name,.ag 1 (x.cd.map lz)]
theorem QV (x:b1):(je x).share=ep x:=by
 simp only[je,ep,cG, @bV _ lz iX (λ_=>QU _)]
theorem XI (x:b1):(je x).cX=true:=by
 simp only[je,I.cX,I.hd,Bool.and_self, @kq _ lz (λ_=>XH _)]
def hn (x:bb):I:=.agg [.str x.Name,.int .i64 x.dP,.ag 4 (x.Body.map je)]
theorem zI (x:bb):(hn x).share=bx x:=by
 simp only[hn,bx,cG, @bV _ je ep (λ_=>QV _)]
theorem XJ (x:bb):(hn x).cX=true:=by
 simp only[hn,I.cX,I.hd,Bool.and_self, @kq _ je (λ_=>XI _)]
def KD (x:ayv):I:=.ag 4 (x.map je)
def GG (x:ayv):I:=.slice (x.map ep)
theorem axf (x:ayv):(GG x).share=GG x:=by
 simp only[GG,cG, @bV _ ep ep (λ_=>KC _)]
theorem axg (x:ayv):(KD x).share=GG x:=by
 simp only[KD,GG,cG, @bV _ je ep (λ_=>QV _)]
theorem axh (x:ayv):(KD x).cX=true:=by
 simp only[KD,I.cX,I.hd,Bool.and_self, @kq _ je (λ_=>XI _)]
def KE (x:aym):I:=.ag 1 (x.map lz)
def GH (x:aym):I:=.slice (x.map iX)
theorem axi (x:aym):(GH x).share=GH x:=by
 simp only[GH,cG, @bV _ iX iX (λ_=>QT _)]
theorem axj (x:aym):(KE x).share=GH x:=by
 simp only[KE,GH,cG, @bV _ lz iX (λ_=>QU _)]
theorem axk (x:aym):(KE x).cX=true:=by
 simp only[KE,I.cX,I.hd,Bool.and_self, @kq _ lz (λ_=>XH _)]
def eV (x:df):I:=.agg [.int .i64 x.cp,.slice (x.bH.map a8)]
theorem C2 (x:df):(eV x).share=eV x:=by
 simp only[eV,cG, @bV _ a8 a8 (λ_=>jV _)]
def hC (x:df):I:=.agg [.int .i64 x.cp,.ag 1 (x.bH.map a8)]
theorem zJ (x:df):(hC x).share=eV x:=by
 simp only[hC,eV,cG, @bV _ a8 a8 (λ_=>jV _)]
theorem XK (x:df):(hC x).cX=true:=by
 simp only[hC,I.cX,I.hd,Bool.and_self, @kq _ a8 (λ_=>KB _)]
def KF (x:aye):I:=.ag 1 (x.map a8)
theorem axl (x:aye):(KF x).share=GD x:=by
 simp only[KF,GD,cG, @bV _ a8 a8 (λ_=>jV _)]
theorem axm (x:aye):(KF x).cX=true:=by
 simp only[KF,I.cX,I.hd,Bool.and_self, @kq _ a8 (λ_=>KB _)]
def b3 (x:b0):I:=.agg [.str x.Left,.str x.cx,.str x.Result]
theorem qH (x:b0):(b3 x).share=b3 x:=by
 simp only[b3,cG]
theorem XL (x:b0):(b3 x).cX=true:=by
 simp only[b3,I.cX,I.hd,Bool.and_self]
def sZ (x:cE):I:=.agg [.ag 3 (x.c8.map hn),.ag 2 (x.cL.map hC),.ag 3 (x.cz.map b3),.ag 1 (x.dj.map bm),.ag 1 (x.dk.map bm)]
def dQ (x:cE):I:=.agg [.slice (x.c8.map bx),.slice (x.cL.map eV),.slice (x.cz.map b3),.slice (x.dj.map bm),.slice (x.dk.map bm)]
theorem ai7 (x:cE):(dQ x).share=dQ x:=by
 simp only[dQ,cG, @bV _ bx bx (λ_=>uR _), @bV _ eV eV (λ_=>C2 _), @bV _ b3 b3 (λ_=>qH _), @bV _ bm bm (λ_=>k5 _)]
theorem ai8 (x:cE):(sZ x).share=dQ x:=by
 simp only[sZ,dQ,cG, @bV _ hn bx (λ_=>zI _), @bV _ hC eV (λ_=>zJ _), @bV _ b3 b3 (λ_=>qH _), @bV _ bm bm (λ_=>k5 _)]
theorem axn (x:cE):(sZ x).cX=true:=by
 simp only[sZ,I.cX,I.hd,Bool.and_self, @kq _ hn (λ_=>XJ _), @kq _ hC (λ_=>XK _), @kq _ b3 (λ_=>XL _), @kq _ bm (λ_=>XG _)]
def KG (x:ayw):I:=.ag 3 (x.map hn)
def GI (x:ayw):I:=.slice (x.map bx)
theorem axo (x:ayw):(GI x).share=GI x:=by
 simp only[GI,cG, @bV _ bx bx (λ_=>uR _)]
theorem axp (x:ayw):(KG x).share=GI x:=by
 simp only[KG,GI,cG, @bV _ hn bx (λ_=>zI _)]
theorem axq (x:ayw):(KG x).cX=true:=by
 simp only[KG,I.cX,I.hd,Bool.and_self, @kq _ hn (λ_=>XJ _)]
def KH (x:ayx):I:=.ag 2 (x.map hC)
def GJ (x:ayx):I:=.slice (x.map eV)
theorem axr (x:ayx):(GJ x).share=GJ x:=by
 simp only[GJ,cG, @bV _ eV eV (λ_=>C2 _)]
theorem axs (x:ayx):(KH x).share=GJ x:=by
 simp only[KH,GJ,cG, @bV _ hC eV (λ_=>zJ _)]
theorem axt (x:ayx):(KH x).cX=true:=by
 simp only[KH,I.cX,I.hd,Bool.and_self, @kq _ hC (λ_=>XK _)]
def KI (x:ayy):I:=.ag 3 (x.map b3)
def GK (x:ayy):I:=.slice (x.map b3)
theorem axu (x:ayy):(GK x).share=GK x:=by
 simp only[GK,cG, @bV _ b3 b3 (λ_=>qH _)]
theorem axv (x:ayy):(KI x).share=GK x:=by
 simp only[KI,GK,cG, @bV _ b3 b3 (λ_=>qH _)]
theorem axw (x:ayy):(KI x).cX=true:=by
 simp only[KI,I.cX,I.hd,Bool.and_self, @kq _ b3 (λ_=>XL _)]
def KJ (x:ayb):I:=.ag 1 (x.map bm)
theorem axx (x:ayb):(KJ x).share=GC x:=by
 simp only[KJ,GC,cG, @bV _ bm bm (λ_=>k5 _)]
theorem axy (x:ayb):(KJ x).cX=true:=by
 simp only[KJ,I.cX,I.hd,Bool.and_self, @kq _ bm (λ_=>XG _)]
def bB (x:bd):I:=.agg [.int .i64 x.cp,.int .i64 x.Part,.slice (x.bH.map a8)]
theorem vX (x:bd):(bB x).share=bB x:=by
 simp only[bB,cG, @bV _ a8 a8 (λ_=>jV _)]
def ea (x:bd):I:=.agg [.int .i64 x.cp,.int .i64 x.Part,.ag 1 (x.bH.map a8)]
theorem nO (x:bd):(ea x).share=bB x:=by
 simp only[ea,bB,cG, @bV _ a8 a8 (λ_=>jV _)]
theorem C3 (x:bd):(ea x).cX=true:=by
 simp only[ea,I.cX,I.hd,Bool.and_self, @kq _ a8 (λ_=>KB _)]
def eW (x:a1):I:=.agg [.str x.Label,.int .i64 x.gH,.int .i64 x.Second,.slice (x.State.map bB)]
theorem XM (x:a1):(eW x).share=eW x:=by
 simp only[eW,cG, @bV _ bB bB (λ_=>vX _)]
def GL (x:ayz):I:=.slice (x.map bB)
theorem axz (x:ayz):(GL x).share=GL x:=by
 simp only[GL,cG, @bV _ bB bB (λ_=>vX _)]
def cZ (x:bk):I:=.agg [.str x.Label,bB x.Next]
theorem C4 (x:bk):(cZ x).share=cZ x:=by
 simp only[cZ,cG,vX]
def gv (x:ayB):I:=.slice (x.map cZ)
theorem axA (x:ayB):(gv x).share=gv x:=by
 simp only[gv,cG, @bV _ cZ cZ (λ_=>C4 _)]
def hK (x:bk):I:=.agg [.str x.Label,ea x.Next]
theorem GM (x:bk):(hK x).share=cZ x:=by
 simp only[hK,cZ,cG,nO]
theorem ai9 (x:bk):(hK x).cX=true:=by
 simp only[hK,I.cX,I.hd,Bool.and_self,C3]
def GN (x:ayB):I:=.ag 4 (x.map hK)
theorem axB (x:ayB):(GN x).share=gv x:=by
 simp only[GN,gv,cG, @bV _ hK cZ (λ_=>GM _)]
theorem axC (x:ayB):(GN x).cX=true:=by
 simp only[GN,I.cX,I.hd,Bool.and_self, @kq _ hK (λ_=>ai9 _)]
def fv (x:dM):I:=.agg [.int .i64 x.scope,.bool x.behind]
theorem XN (x:dM):(fv x).share=fv x:=by
 simp only[fv,cG]
theorem ai_ (x:dM):(fv x).cX=true:=by
 simp only[fv,I.cX,I.hd,Bool.and_self]
def GO (x:Bool):I:=.bool x
theorem axD (x:Bool):(GO x).share=GO x:=by
 simp only[GO,cG]
theorem axE (x:Bool):(GO x).cX=true:=by
 simp only[GO,I.cX,I.hd,Bool.and_self]
theorem aja:(∀a0 J,(dr.mk a0 J).term=a0)/\(∀a0 J,(dr.mk a0 J).args=J):=⟨λ_ _=>rfl,λ_ _=>rfl⟩
mutual
def qI:dr->I
 | .mk a0 J=>.agg [dR a0,.slice (rF J)]
def rF:List dr->ayk
 |[]=>[]
 |y::r=>.ref (qI y)::rF r
end
def p2 (x:dr):I:=.ref (qI x)
theorem XO:∀l,rF l=l.map p2
 |[]=>by simp only[rF,map_nil]
 |y::r=>by simp only[rF,map_cons,XO r,p2]
theorem ajb (x:dr):qI x= .agg [dR x.term,.slice (x.args.map p2)]:=by
 cases x;simp only[qI,XO,dr.term,dr.args]
mutual
theorem XP:∀x:dr,(qI x).share=qI x
 | .mk a0 J=>by simp only[qI,cG,I.share,I.shares,XQ J,GF]
theorem XQ:∀l:List dr,I.shares (rF l)=rF l
 |[]=>by simp only[rF,I.shares]
 |y::r=>by simp only[rF,I.shares,I.share,XP y,XQ r]
end
theorem ajc (x:dr):(p2 x).share=p2 x:=by simp only[p2,I.share,XP]
mutual
def xZ:dr->I
 | .mk a0 J=>.agg [dR a0,.ag 1 (s0 J)]
def s0:List dr->ayk
 |[]=>[]
 |y::r=>.aS (xZ y)::s0 r
end
def lQ (x:dr):I:=.aS (xZ x)
theorem XR:∀l,s0 l=l.map lQ
 |[]=>by simp only[s0,map_nil]
 |y::r=>by simp only[s0,map_cons,XR r,lQ]
theorem ajd (x:dr):xZ x= .agg [dR x.term,.ag 1 (x.args.map lQ)]:=by
 cases x;simp only[xZ,XR,dr.term,dr.args]
mutual
theorem XS:∀x:dr,(xZ x).share=qI x
 | .mk a0 J=>by simp only[xZ,qI,cG,I.share,I.shares,XT J,GF]
theorem XT:∀l:List dr,I.shares (s0 l)=rF l
 |[]=>by simp only[s0,rF,I.shares]
 |y::r=>by simp only[s0,rF,I.shares,I.share,XS y,XT r]
end
theorem XU (x:dr):(lQ x).share=p2 x:=by simp only[lQ,p2,I.share,XS]
mutual
theorem XV:∀x:dr,(xZ x).cX=true
 | .mk a0 J=>by simp[xZ,I.cX,I.hd,XW J,dR]
theorem XW:∀l:List dr,I.hd (s0 l)=true
 |[]=>by simp only[s0,I.hd]
 |y::r=>by simp only[s0,I.hd,I.cX,XV y,XW r,Bool.and_self]
end
theorem aje (x:dr):(lQ x).cX=true:=by simp only[lQ,I.cX,XV]
def KK (x:List dr):I:=.ag 1 (x.map lQ)
def GP (x:List dr):I:=.slice (x.map p2)
theorem axF (x:List dr):(GP x).share=GP x:=by
 simp only[GP,cG, @bV _ p2 p2 (λ_=>ajc _)]
theorem axG (x:List dr):(KK x).share=GP x:=by
 simp only[KK,GP,cG, @bV _ lQ p2 (λ_=>XU _)]
theorem axH (x:List dr):(KK x).cX=true:=by
 simp only[KK,I.cX,I.hd,Bool.and_self, @kq _ lQ (λ_=>aje _)]
def en (x:a1):I:=.agg [.str x.Label,.int .i64 x.gH,.int .i64 x.Second,.ag 3 (x.State.map ea)]
theorem GQ (x:a1):(en x).share=eW x:=by
 simp only[en,eW,cG, @bV _ ea bB (λ_=>nO _)]
theorem XX (x:a1):(en x).cX=true:=by
 simp only[en,I.cX,I.hd,Bool.and_self, @kq _ ea (λ_=>C3 _)]
def KL (x:ayz):I:=.ag 3 (x.map ea)
theorem axI (x:ayz):(KL x).share=GL x:=by
 simp only[KL,GL,cG, @bV _ ea bB (λ_=>nO _)]
theorem axJ (x:ayz):(KL x).cX=true:=by
 simp only[KL,I.cX,I.hd,Bool.and_self, @kq _ ea (λ_=>C3 _)]
noncomputable def ajf:aC:=bL (bK 12 [0] Tryz.f190 [[0,1],[1],[1,10],[4],[4]])
noncomputable def c157:aC:=bL (bK 27 [0] Tryz.f157 [[0,1],[0,1],[0,1,11],[4],[0,1,5],[0,1,5,15],[0,1,5],[0,1,5,25],[4],[0,1,5],[4]])
noncomputable def c107:aC:=bL (bK 19 [0] Tryz.f107 [[1,2],[1,2],[1,2,11],[4],[1],[1,17],[4],[4]])
noncomputable def c75:aC:=bL (bK 27 [0] Tryz.f75 [[0,1],[0,1],[0,1,11],[4],[0,1,5],[0,1,5,15],[0,1,5],[0,1,5,25],[4],[0,1,5],[4]])
noncomputable def GR:aC:=bL (bK 19 [0] Tryz.f44 [[1,2],[1,2],[1,2,11],[4],[1],[1,17],[4],[4]])
noncomputable def ajg:aC:=bL (bK 27 [0] Tryz.f17 [[0,1],[0,1],[0,1,11],[4],[0,1,5],[0,1,5,15],[0,1,5],[0,1,5,25],[4],[0,1,5],[4]])
noncomputable def ajh:aC:=bL (bK 12 [0] Tryz.f47 [[0,1],[1],[1,10],[4],[4]])
noncomputable def aji:aC:=bL (bK 12 [0] Tryz.f45 [[1,2],[1],[1,10],[4],[4]])
noncomputable def ajj:aC:=bL (bK 27 [0] Tryz.f18 [[0,1],[0,1],[0,1,11],[4],[0,1,5],[0,1,5,15],[0,1,5],[0,1,5,25],[4],[0,1,5],[4]])
noncomputable def c46:aC:=bL (bK 27 [0] Tryz.f46 [[1,2],[1,2],[1,2,11],[4],[1,2],[1,2,18],[4],[1],[1,25],[4],[4]])
noncomputable def ajk:aC:=bL (bK 27 [0] Tryz.f19 [[0,1],[0,1],[0,1,11],[4],[0,1,5],[0,1,5,15],[0,1,5],[0,1,5,25],[4],[0,1,5],[4]])
noncomputable def c20:aC:=bL (bK 28 [0] Tryz.f20 [[0,1],[0,1],[0,1,11],[4],[0,1,5],[0,1,5,15],[0,1,5],[0,1,5,26],[4],[0,1,5],[4]])
noncomputable def c4:aC:=bL (bK 36 [0] Tryz.f4 [[1,2],[1,2],[1,2,10],[4],[1,2],[1,2,16],[4],[1,2],[1,2,22],[4],[1,2],[1,2,28],[4],[1],[1,34],[4],[4]])
noncomputable def c21:aC:=bL (bK 12 [0] Tryz.f21 [[1,2],[1],[1,10],[4],[4]])
noncomputable def c5:aC:=bL (bK 27 [0] Tryz.f5 [[0,1],[0,1],[0,1,11],[4],[0,1,5],[0,1,5,15],[0,1,5],[0,1,5,25],[4],[0,1,5],[4]])
noncomputable def c228:aC:=bL (bK 11 [0] Tryz.f228 [[1,2],[1,2,3],[1,2,3],[2,3],[2]])
noncomputable def c196:aC:=bL (bK 23 [0] Tryz.f196 [[0],[0,3],[0,3,4],[0,3,4,11],[0,3,4],[0,3,4],[2]])
noncomputable def ajl:aC:=bL (bK 23 [0] Tryz.f165 [[0],[0,3],[0,3,4],[0,3,4,11],[0,3,4],[0,3,4],[2]])
noncomputable def ajm:aC:=bL (bK 18 [0] Tryz.f125 [[1,2],[1,2,3],[1,2,3],[1,2,3],[1,2,3],[2,3],[2]])
noncomputable def ajn:aC:=bL (bK 23 [0] Tryz.f86 [[0],[0,3],[0,3,4],[0,3,4,11],[0,3,4],[0,3,4],[2]])
noncomputable def ajo:aC:=bL (bK 15 [0] Tryz.f57 [[1,2],[1,2,3],[1,2,3],[1,2,3],[2,3],[2]])
noncomputable def c24:aC:=bL (bK 23 [0] Tryz.f24 [[0],[0,3],[0,3,4],[0,3,4,11],[0,3,4],[0,3,4],[2]])
noncomputable def ajp:aC:=bL (bK 22 [0] Tryz.f60 [[0],[0,3],[0,3,4],[0,3,4,11],[0,3,4],[0,3,4],[2]])
noncomputable def ajq:aC:=bL (bK 12 [0] Tryz.f58 [[1,2],[1,2,3],[1,2,3],[2,3],[2]])
noncomputable def ajr:aC:=bL (bK 23 [0] Tryz.f25 [[0],[0,3],[0,3,4],[0,3,4,11],[0,3,4],[0,3,4],[2]])
noncomputable def c59:aC:=bL (bK 14 [0] Tryz.f59 [[1,2],[1,2,3],[1,2,3],[1,2,3],[2,3],[2]])
noncomputable def QW:aC:=bL (bK 23 [0] Tryz.f26 [[0],[0,3],[0,3,4],[0,3,4,11],[0,3,4],[0,3,4],[2]])
noncomputable def ajs:aC:=bL (bK 22 [0] Tryz.f27 [[0],[0,3],[0,3,4],[0,3,4,11],[0,3,4],[0,3,4],[2]])
noncomputable def M1:aC:=bL (bK 25 [0] Tryz.f7 [[1,2],[1,2,3],[1,2,3],[1,2,3],[1,2,3],[1,2,3],[2,3],[2]])
noncomputable def c28:aC:=bL (bK 15 [0] Tryz.f28 [[1,2],[1,2,3],[1,2,3],[1,2,3],[2,3],[2]])
noncomputable def il:aC:=bL (bK 23 [0] Tryz.f8 [[0],[0,3],[0,3,4],[0,3,4,11],[0,3,4],[0,3,4],[2]])
noncomputable def c162:aC:=bL (bK 9 [0] Tryz.f162 [[0],[2]])
noncomputable def ajt:aC:=bL (bK 9 [0] Tryz.f163 [[0],[2]])
noncomputable def aju:aC:=bL (bK 35 [0] Tryz.f120 [[0],[0,16],[2],[0,3],[0,3,20],[0,3,34],[2],[0,3],[2]])
noncomputable def ajv:aC:=bL (bK 15 [0,1,2] Tryz.f112 [[0,1,2],[6]])
noncomputable def c160:aC:=bL (bK 13 [0] Tryz.f160 [[0],[6],[6,7],[6,7],[6,7],[2],[11],[2],[2]])
noncomputable def ajw:aC:=bL (bK 30 [0] Tryz.f191 [[0],[0,12],[2],[0,3],[0,3,4],[0,3,4,16],[0,3,4,20],[2],[0,3,4],[0,3,4],[2]])
noncomputable def ajx:aC:=bL (bK 73 [0] Tryz.f225 [[0],[0,6],[0,6,7],[0,6,7],[2],[0,6,30],[2],[0,6,37],[2],[0,6,51],[2],[0,66],[2],[2]])
noncomputable def c117:aC:=bL (bK 18 [0] Tryz.f117 [[0,1],[0,1,5],[0,1,5,7],[0,1,5],[0,1,5],[4]])
noncomputable def ajy:aC:=bL (bK 38 [0,1] Tryz.f113 [[0,1],[0,1,5],[0,1,5,6],[0,1,5,6,13],[0,1,5,6,34],[0,1,5,6],[0,1,5,6],[4]])
noncomputable def ajz:aC:=bL (bK 39 [0,1] Tryz.f254 [[0,1],[0,1,8],[0,1,8,9],[4],[0,1,8,16],[4],[0,8,25],[4],[0,32],[4],[4]])
noncomputable def c227:aC:=bL (bK 11 [0] Tryz.f227 [[0],[6],[6,7],[2],[9],[2],[2]])
noncomputable def c226:aC:=bL (bK 38 [0,1,2] Tryz.f226 [[0,1,2],[0,1,12],[6],[0,1,7],[0,1,7,8],[0,1,7,8,16],[0,1,7,8,28],[6],[0,1,7,8],[0,1,7,8],[6]])
def a6 (r:List cu) (k:ayf) (c:aC):aC:=.seq (.ez r (some k)) c
def rG (r:List cu) (a:ayd) (k:ayf) (c:aC):aC:=.seq (.jM r a (some k)) c
abbrev ff (d t:Nat) (o:e2):cu:=⟨some d,o,some (t,true)⟩
abbrev gm (d t:Nat) (o:e2):cu:=⟨some d,o,some (t,false)⟩
abbrev axK (n:Nat) (k:ayf) (f:Func) (c:aC):Prop:=fW ⟨n,k⟩ (f.body.getD .skip)=some c.strip
def XY:aC:=.cond (.t 28) (a6 [ia 6 3] [6] .ret) .skip
def XZ:aC:=.cond (.t 51) (a6 [ia 6 4] [6] .ret) .skip
def ajA:aC:=.cond (.t 57) (a6 [aM 59 8,du 60 .gtr 2 59 2,aM 61 60,gm 62 61 (.gM (.t 8)),gm 63 61 (.eL .gtr 2 (.t 62) (.c (.int .i64 0))),gm 64 61 (.gM (.t 63)),ff 65 64 (.hU 150 (.t 7) 2),ff 66 64 (.fS 9 (.t 65)),⟨some 67,.eL .eql 9 (.t 66) (.c (.str [116,97,117])),some (64,true)⟩,gm 68 61 (.pick (.t 64) (.t 67) (.c (.bool false))),ro 69 (.pick (.t 61) (.c (.bool true)) (.t 68))] [1,2,7,8,69] (.cond (.t 69) (a6 [ia 6 5] [6] .ret) .skip)) (a6 [du 71 .eql 2 56 3,b5 70 71] [0,1,2,7,8,56,70] (.cond (.t 70) (a6 [aM 72 8,du 73 .neq 2 72 1] [1,2,7,8,73] (.cond (.t 73) (a6 [ia 6 5] [6] .ret) .skip)) (a6 [du 75 .eql 2 56 5,b5 74 75] [0,1,2,7,8,74] (.cond (.t 74) (a6 [aM 76 8,aM 77 0,dN 78 150 7 1,cg 79 2 78,hh 80 34 77 79,dN 81 109 80 1,cg 82 2 81,iV 83 .neq 2 76 82] [1,2,7,8,83] (.cond (.t 83) (a6 [ia 6 5] [6] .ret) .skip)) .skip))))
def X0:aC:=.cond (.t 102) (a6 [ia 6 6] [6] .ret) .skip
def X1:aC:=.seq (a6 [aM 113 10,aM 114 8,iV 115 .lss 2 113 114] [7,8,9,10,115] (.cond (.t 115) .skip (.exit 1))) (.seq (.block 2 (a6 [dN 118 150 7 3,cg 119 148 118,aM 120 10,hh 121 148 119 120,cg 122 188 121,aM 123 9,ro 124 (.call (.f 226) [(.t 122),(.t 123),(.c (.int .i64 15))]),oM 125 124] [7,8,9,10,125] (.cond (.t 125) (a6 [ia 6 8] [6] .ret) .skip))) (.ez [aM 116 10,du 117 .add 2 116 1,b5 10 117] (some [7,8,9,10])))
def X2:aC:=.seq (a6 [dN 84 150 7 0,cg 85 2 84,du 86 .eql 2 85 5,aM 87 86,ff 88 87 (.gM (.t 2)),ff 89 87 (.eL .eql 2 (.t 88) (.c (.int .i64 0))),ff 90 87 (.gM (.t 89)),gm 91 90 (.gM (.t 1)),gm 92 90 (.mm (.t 91)),gm 93 90 (.hU 109 (.t 92) 2),gm 94 90 (.fS 107 (.t 93)),gm 95 90 (.gM (.t 2)),gm 96 90 (.eL .sub 2 (.t 95) (.c (.int .i64 1))),gm 97 90 (.kD 107 (.t 94) (.t 96)),gm 98 90 (.hU 150 (.t 97) 0),gm 99 90 (.fS 2 (.t 98)),gm 100 90 (.eL .neq 2 (.t 99) (.c (.int .i64 1))),ff 101 87 (.pick (.t 90) (.c (.bool true)) (.t 100)),ro 102 (.pick (.t 87) (.t 101) (.c (.bool false)))] [1,2,7,8,102] X0) (a6 [aM 103 1,aM 104 2,hB 105 113 103 104,b5 9 105] [7,8,9] (.seq (a6 [dN 106 150 7 0,cg 107 2 106,du 108 .eql 2 107 4,aM 109 108,ff 110 109 (.gM (.t 9)),ff 111 109 (.eL .geq 2 (.t 110) (.c (.int .i64 6))),ro 112 (.pick (.t 109) (.t 111) (.c (.bool false)))] [7,8,9,112] (.cond (.t 112) (a6 [ia 6 7] [6] .ret) .skip)) (.seq (a6 [ia 10 0] [7,8,9,10] (.block 1 (.loop X1))) (a6 [ia 6 0] [6] .ret))))
def ajB:aC:=.seq (a6 [dN 29 150 7 0,cg 30 2 29,du 31 .eql 2 30 4,aM 32 31,ff 33 32 (.hU 150 (.t 7) 1),ff 34 32 (.fS 2 (.t 33)),⟨some 35,.call (.f 112) [(.t 34),(.c (.int .i64 1)),(.c (.int .i64 7))],some (32,true)⟩,ff 36 32 (.un .not (.t 35)),ro 37 (.pick (.t 32) (.t 36) (.c (.bool false))),aM 38 37,gm 39 38 (.hU 150 (.t 7) 0),gm 40 38 (.fS 2 (.t 39)),gm 41 38 (.eL .eql 2 (.t 40) (.c (.int .i64 5))),gm 42 38 (.gM (.t 41)),ff 43 42 (.hU 150 (.t 7) 1),ff 44 42 (.fS 2 (.t 43)),ff 45 42 (.gM (.t 0)),ff 46 42 (.len 34 (.t 45)),ff 47 42 (.eL .sub 2 (.t 46) (.c (.int .i64 1))),⟨some 48,.call (.f 112) [(.t 44),(.c (.int .i64 0)),(.t 47)],some (42,true)⟩,ff 49 42 (.un .not (.t 48)),gm 50 38 (.pick (.t 42) (.t 49) (.c (.bool false))),ro 51 (.pick (.t 38) (.c (.bool true)) (.t 50))] [0,1,2,7,51] XZ) (a6 [dN 52 150 7 3,cg 53 148 52,j6 54 148 53,b5 8 54] [0,1,2,7,8] (.seq (a6 [dN 55 150 7 0,cg 56 2 55] [0,1,2,7,8,56] (.block 0 (a6 [du 58 .eql 2 56 1,b5 57 58] [0,1,2,7,8,56,57] ajA))) X2))
def ajC:aC:=a6 [aM 11 1,ns 12 11,dN 13 109 12 2,cg 14 107 13,aM 15 2,hh 16 107 14 15,cg 17 150 16,oa 7 150,jQ 150 7 17] [0,1,2,7] (.seq (a6 [hi 18 225 7,oM 19 18] [0,1,2,7,19] (.cond (.t 19) (a6 [ia 6 2] [6] .ret) .skip)) (.seq (a6 [dN 20 150 7 0,cg 21 2 20,du 22 .eql 2 21 1,aM 23 22,ff 24 23 (.hU 150 (.t 7) 2),ff 25 23 (.fS 9 (.t 24)),⟨some 26,.call (.f 120) [(.t 25)],some (23,true)⟩,ff 27 23 (.un .not (.t 26)),ro 28 (.pick (.t 23) (.t 27) (.c (.bool false)))] [0,1,2,7,28] XY) ajB))
def ajD:aC:=a6 [ia 6 0] [0,1,2] ajC
noncomputable def ajE:aC:=bL (bK 31 [0,1] Tryz.f158 [[0,1],[0,1,13],[4,5],[0,1,6],[0,1,6,20],[0,1,6,7],[0,1,6,7,28],[4,5],[0,1,6],[4,5]])
noncomputable def ajF:aC:=bL (bK 70 [0] Tryz.f108 [[0],[0,15],[2],[0,3],[0,3,19],[0,3,37],[2],[0,3,4],[0,3,4,40],[0,3,4,53],[2],[0,3,4],[0,3],[0,5],[0,5,57],[0,5,7],[0,5,69],[2],[0,5],[2]])
noncomputable def ajG:aC:=bL (bK 16 [0] Tryz.f114 [[0],[0,3],[0,3,7],[0,3,15],[2],[0,3],[2]])
noncomputable def c109:aC:=bL (bK 64 [0] Tryz.f109 [[0],[0,18],[2],[0,3],[0,3,25],[0,3,4],[0,3,4,44],[2],[0,3,63],[2],[0,3],[2]])
def ajH:aC:=a6 [jo 2 false] [0] (a6 [aM 3 0,hi 4 120 3,aM 5 4,ff 6 5 (.gM (.t 0)),⟨some 7,.eL .neq 9 (.t 6) (.c (.str [116,97,117])),some (5,true)⟩,ro 8 (.pick (.t 5) (.t 7) (.c (.bool false))),b5 2 8] [2] .ret)
noncomputable def ajI:aC:=bL (bK 101 [0] Tryz.f110 [[0],[0,8],[2],[0,3],[0,3,12],[0,3,4],[0,3,4,41],[2],[0,3,4,76],[2],[0,3,4,5],[0,3,4,5,80],[0,3,4,5,100],[2],[0,3,4,5],[0,3],[2]])
noncomputable def c159:aC:=bL (bK 16 [0] Tryz.f159 [[0],[0,3],[0,3,7],[0,3,15],[2],[0,3],[2]])
noncomputable def ajJ:aC:=bL (bK 28 [0] Tryz.f111 [[0],[0,11],[2],[0,3],[0,3,15],[0,3,27],[2],[0,3],[2]])
noncomputable def c76:aC:=bL (bK 30 [0] Tryz.f76 [[0],[0,8],[2],[0,11],[2],[0,17],[2],[0,23],[2],[29],[2],[2]])
noncomputable def ajK:aC:=bL (bK 6 [0] Tryz.f48 [[0],[2]])
noncomputable def ajL:aC:=bL (bK 62 [0,1] Tryz.f77 [[0,1],[0,1,14],[4],[1,5],[1,5,43],[4],[4]])
noncomputable def c49:aC:=bL (bK 29 [0,1] Tryz.f49 [[0,1],[0,1,13],[4],[0,1,5],[0,1,5,17],[0,1,5,28],[4],[0,1,5],[4]])
noncomputable def QX:aC:=bL (bK 14 [0,1] Tryz.f22 [[0,1],[13],[4],[4]])
noncomputable def c80:aC:=bL (bK 6 [0] Tryz.f80 [[0],[2]])
noncomputable def c193:aC:=bL (bK 4 [0] Tryz.f193 [[0],[3],[2],[2]])
noncomputable def c194:aC:=bL (bK 18 [0] Tryz.f194 [[0,1],[0,1,5],[0,1,5,7],[0,1,5],[0,1,5],[4]])
noncomputable def ajM:aC:=bL (bK 67 [0,1,2] Tryz.f195 [[0,1,2],[1,2,7],[1,2,7,8],[6],[1,2,7,14],[6],[1,2,7,21],[6],[1,2,7,27],[6],[1,2,7,33],[6],[1,2,7,39],[6],[1,2,7,45],[6],[1,2,51],[6],[6]])
noncomputable def ajN:aC:=bL (bK 60 [0,1,2] Tryz.f161 [[0,1,2],[0,1,2,13],[0,1,2,13,14],[6],[0,1,2,13,21],[6],[0,1,2,31],[6],[0,1,2,7],[0,2,7,8],[6]])
noncomputable def ajO:aC:=bL (bK 8 [0,1] Tryz.f118 [[0,1],[4]])
noncomputable def ajP:aC:=bL (bK 24 [0,1] Tryz.f115 [[0,1],[0,1,5],[0,1,5,6],[0,1,5,6,11],[0,1,5,6],[0,1,5,6],[4]])
def X3:aC:=.ez [aM 22 3,aM 23 5,ro 24 (.eL .add 2 (.c (.int .i64 48)) (.t 23)),I3 25 2 5 24,tX 26 134 25,xF 27 134 134 22 26,b5 3 27] (some [0,3,4])
def X4:aC:=.seq (a6 [aM 12 4,du 13 .neq 2 12 0] [0,3,4,13] (.cond (.t 13) .skip (.exit 0))) (.seq (.block 1 (a6 [aM 16 4,du 17 .rem 2 16 10,b5 5 17] [0,3,4,5] (.seq (a6 [aM 18 5,du 19 .lss 2 18 0] [0,3,4,5,19] (.cond (.t 19) (.ez [aM 20 5,ro 21 (.un .neg (.t 20)),b5 5 21] (some [0,3,4,5])) .skip)) X3))) (.ez [aM 14 4,du 15 .quo 2 14 10,b5 4 15] (some [0,3,4])))
def X5:aC:=.seq (a6 [aM 37 7,du 38 .geq 3 37 0] [3,6,7,38] (.cond (.t 38) .skip (.exit 2))) (.seq (.block 3 (.ez [aM 41 6,aM 42 3,aM 43 7,hh 44 134 42 43,cg 45 5 44,tX 46 134 45,xF 47 134 134 41 46,b5 6 47] (some [3,6,7]))) (.ez [aM 39 7,du 40 .sub 3 39 1,b5 7 40] (some [3,6,7])))
def X6:aC:=a6 [ro 33 (.dW 134 0 []),b5 6 33] [3,6] (.seq (a6 [aM 34 3,j6 35 134 34,du 36 .sub 3 35 1,b5 7 36] [3,6,7] (.block 2 (.loop X5))) (a6 [aM 48 6,I3 49 134 9 48,b5 2 49] [2] .ret))
def c164:aC:=a6 [ro 2 (.hO (.c (.str [])))] [0] (.seq (a6 [aM 8 0,du 9 .eql 2 8 0] [0,9] (.cond (.t 9) (a6 [ro 2 (.hO (.c (.str [48])))] [2] .ret) .skip)) (a6 [ro 10 (.dW 134 0 []),b5 3 10] [0,3] (.seq (a6 [aM 11 0,b5 4 11] [0,3,4] (.block 0 (.loop X4))) (.seq (a6 [aM 28 0,du 29 .lss 2 28 0] [3,29] (.cond (.t 29) (.ez [aM 30 3,ro 31 (.dW 134 1 [(0,(.c (.int .u8 45)))]),xF 32 134 134 30 31,b5 3 32] (some [3])) .skip)) X6))))
def X7:aC:=.ez [aM 18 3,aM 19 0,aM 20 4,hh 21 54 19 20,cg 22 2 21,hi 23 164 22,iV 24 .add 9 18 23,b5 3 24] (some [0,3,4])
def X8:aC:=.seq (a6 [aM 8 4,aM 9 0,j6 10 54 9,iV 11 .lss 3 8 10] [0,3,4,11] (.cond (.t 11) .skip (.exit 0))) (.seq (.block 1 (.seq (a6 [aM 14 4,du 15 .gtr 3 14 0] [0,3,4,15] (.cond (.t 15) (.ez [aM 16 3,ro 17 (.eL .add 9 (.t 16) (.c (.str [44]))),b5 3 17] (some [0,3,4])) .skip)) X7)) (.ez [aM 12 4,du 13 .add 3 12 1,b5 4 13] (some [0,3,4])))
def c124:aC:=a6 [ro 2 (.hO (.c (.str [])))] [0] (.seq (a6 [aM 5 0,j6 6 54 5,du 7 .eql 3 6 0] [0,7] (.cond (.t 7) (a6 [ro 2 (.hO (.c (.str [45])))] [2] .ret) .skip)) (a6 [ro 3 (.hO (.c (.str [])))] [0,3] (.seq (a6 [ia 4 0] [0,3,4] (.block 0 (.loop X8))) (a6 [aM 25 3,b5 2 25] [2] .ret))))
def c85:aC:=a6 [ro 4 (.hO (.c (.str [])))] [0,1] (.seq (a6 [aM 5 1,j6 6 54 5,du 7 .eql 3 6 0] [0,1,7] (.cond (.t 7) (a6 [aM 8 0,b5 4 8] [4] .ret) .skip)) (a6 [aM 9 0,ro 10 (.eL .add 9 (.t 9) (.c (.str [40]))),aM 11 1,hi 12 124 11,iV 13 .add 9 10 12,ro 14 (.eL .add 9 (.t 13) (.c (.str [41]))),b5 4 14] [4] .ret))
noncomputable def ajQ:aC:=bL (bK 26 [0,1] Tryz.f83 [[0,1],[0,1,10],[4],[0,1,5],[0,1,5,14],[0,1,5,25],[4],[0,1,5],[4]])
noncomputable def c119:aC:=bL (bK 36 [0,1] Tryz.f119 [[0,1],[4]])
noncomputable def c116:aC:=bL (bK 33 [0,1] Tryz.f116 [[0,3],[0,3,5],[0,3,5,9],[0,3,5,27],[4],[0,3,5],[4]])
def X9:aC:=rG [aM 60 4,dN 61 150 12 2,cg 62 9 61,dN 63 150 12 3,cg 64 148 63,aM 65 3,hB 66 115 64 65,hB 67 85 62 66,cg 68 65 13,⟨some 69,.shr (.gz 100 [(0,(.t 67)),(1,(.t 68))]),none⟩,hB 70 116 60 69,b5 10 70] [[],[],[1],[],[3],[],[4,5],[2,6,6],[],[7,8],[0,9,7],[10,10,0,1,2,3,4,5,6,7,8,9,10]] [10] .ret
def ajR:aC:=.seq (a6 [aM 38 11,aM 39 2,du 40 .add 2 39 1,hh 41 107 38 40,dN 42 150 41 0,cg 43 2 42,du 44 .eql 2 43 5] [2,3,4,11,12,13,44] (.cond (.t 44) (.jM [aM 45 11,aM 46 2,du 47 .add 2 46 1,hh 48 107 45 47,dN 49 150 48 1,cg 50 2 49,aM 51 11,aM 52 2,du 53 .add 2 52 1,hh 54 107 51 53,dN 55 150 54 3,cg 56 148 55,aM 57 3,hB 58 115 56 57,ro 59 (.gz 65 [(0,(.t 50)),(2,(.t 58))]),jQ 65 13 59] [[],[],[1],[0,2],[3],[4],[],[],[7],[6,8],[9],[10],[],[11,12],[5,13],[14,13,0,1,2,3,4,5,6,7,8,9,10,11,12,13,14]] (some [3,4,12,13])) .skip)) X9
def X_:aC:=.seq (a6 [aM 107 14,dN 108 150 12 1,cg 109 2 108,iV 110 .leq 2 107 109] [0,1,2,3,4,12,14,110] (.cond (.t 110) .skip (.exit 1))) (.seq (.block 2 (.ez [aM 113 0,aM 114 1,aM 115 2,du 116 .add 2 115 1,aM 117 3,hi 118 80 117,aM 119 14,tX 120 54 119,⟨some 121,.shr (.app 54 54 (.t 118) (.t 120)),none⟩,aM 122 4,ro 123 (.call (.f 78) [(.t 113),(.t 114),(.t 116),(.t 121),(.t 122)]),b5 4 123] (some [0,1,2,3,4,12,14]))) (.ez [aM 111 14,du 112 .add 2 111 1,b5 14 112] (some [0,1,2,3,4,12,14])))
def ajS:aC:=a6 [du 90 .eql 2 29 3,b5 89 90] [0,1,2,3,4,12,29,89] (.cond (.t 89) (a6 [dN 91 150 12 3,cg 92 148 91,ro 93 (.kD 148 (.t 92) (.c (.int .i64 0))),cg 94 188 93,aM 95 3,hB 96 118 94 95,du 97 .neq 2 96 0] [0,1,2,3,4,97] (.cond (.t 97) (a6 [aM 98 0,aM 99 1,aM 100 2,du 101 .add 2 100 1,aM 102 3,aM 103 4,ro 104 (.call (.f 78) [(.t 98),(.t 99),(.t 101),(.t 102),(.t 103)]),b5 10 104] [10] .ret) .skip)) (a6 [du 106 .eql 2 29 4,b5 105 106] [0,1,2,3,4,12,105] (.cond (.t 105) (a6 [ia 14 0] [0,1,2,3,4,12,14] (.block 1 (.loop X_))) .skip)))
def ajT:aC:=.cond (.t 30) (a6 [aM 32 1,aM 33 2,du 34 .add 2 33 1,aM 35 3,hi 36 80 35,ro 37 (.gz 65 [(0,(.t 32)),(1,(.t 34)),(2,(.t 36))]),oa 13 65,jQ 65 13 37] [2,3,4,11,12,13] ajR) (a6 [du 72 .eql 2 29 2,b5 71 72] [0,1,2,3,4,11,12,29,71] (.cond (.t 71) (a6 [aM 73 0,aM 74 1,aM 75 2,du 76 .add 2 75 1,aM 77 3,aM 78 4,ro 79 (.call (.f 78) [(.t 73),(.t 74),(.t 76),(.t 77),(.t 78)]),b5 4 79] [0,1,2,3,4,11] (a6 [aM 80 0,aM 81 1,aM 82 11,aM 83 2,du 84 .add 2 83 1,hB 85 117 82 84,aM 86 3,aM 87 4,ro 88 (.call (.f 78) [(.t 80),(.t 81),(.t 85),(.t 86),(.t 87)]),b5 10 88] [10] .ret)) ajS))
def Ya:aC:=a6 [aM 124 4,b5 10 124] [10] .ret
def ajU:aC:=a6 [aM 15 0,aM 16 1,hh 17 34 15 16,dN 18 109 17 2,cg 19 107 18,b5 11 19] [0,1,2,3,4,11] (a6 [aM 20 11,aM 21 2,hh 22 107 20 21,cg 23 150 22,oa 12 150,jQ 150 12 23] [0,1,2,3,4,11,12] (.seq (a6 [aM 24 4,j6 25 95 24,du 26 .gtr 3 25 200] [0,1,2,3,4,11,12,26] (.cond (.t 26) (a6 [aM 27 4,b5 10 27] [10] .ret) .skip)) (.seq (a6 [dN 28 150 12 0,cg 29 2 28] [0,1,2,3,4,11,12,29] (.block 0 (a6 [du 31 .eql 2 29 1,b5 30 31] [0,1,2,3,4,11,12,29,30] ajT))) Ya)))
def ajV:aC:=a6 [pR 10] [0,1,2,3,4] ajU
noncomputable def ajW:aC:=bL (bK 26 [0,1] Tryz.f50 [[0,1],[6],[4,5]])
noncomputable def ajX:aC:=bL (bK 17 [0] Tryz.f79 [[0],[0,3],[0,3,7],[0,3,13],[2],[0,3],[2]])
noncomputable def ajY:aC:=bL (bK 7 [0] Tryz.f52 [[0],[2]])
noncomputable def c51:aC:=bL (bK 19 [0,1] Tryz.f51 [[0,1],[0,1,5],[0,1,5,9],[0,1,5,17],[4],[0,1,5],[4]])
noncomputable def c53:aC:=bL (bK 33 [0] Tryz.f53 [[0],[0,3],[0,3,4],[0,3,4,9],[0,3,4],[0,3,4],[2]])
def QY:aC:=a6 [ro 4 (.hO (.c (.str [])))] [0,1] (.seq (rG [aM 5 0,ns 6 5,dN 7 38 6 4,cg 8 25 7,aM 9 1,hi 10 52 9,hB 11 51 8 10,du 12 .geq 2 11 0] [[],[0],[1],[2],[],[4],[3,5,5],[6]] [1,12] (.cond (.t 12) (a6 [ro 4 (.hO (.c (.str [116,97,117])))] [4] .ret) .skip)) (a6 [aM 13 1,b5 4 13] [4] .ret))
noncomputable def ajZ:aC:=bL (bK 25 [0,1] Tryz.f81 [[0,1],[0,1,10],[4],[0,1,5],[0,1,5,14],[0,1,5,24],[4],[0,1,5],[4]])
noncomputable def aj0:aC:=bL (bK 48 [0,1] Tryz.f54 [[0,3],[0,3,5],[0,3,5,10],[0,3,5,6],[0,3,5,42],[4],[0,3,5],[4]])
noncomputable def aj1:aC:=bL (bK 35 [0,1] Tryz.f122 [[0,1],[0,1,5],[0,1,5,6],[0,1,5,6,7],[0,1,5,6,7,12],[0,1,5,6,7,19],[0,1,5,7],[0,1,5,6,7],[0,1,5,6,7],[4]])
noncomputable def aj2:aC:=bL (bK 62 [0] Tryz.f123 [[0],[0,4],[0,4,14],[0,4],[0,4,36],[2,3],[0,4,5],[0,4,5,6],[0,4,5,6,41],[0,4,5,6,48],[2,3],[0,4,5,6],[0,4,5,6],[5,58],[5],[2,3]])
noncomputable def aj3:aC:=bL (bK 70 [0] Tryz.f82 [[0],[0,4],[0,4,15],[2,3],[0,4,31],[2,3],[5],[5,6],[5,6,7],[5,6,7,44],[5,6,7,8,9],[5,6,7,8,61],[2,3],[5,6,7],[5,6,7],[2,3]])
noncomputable def aj4:aC:=bL (bK 42 [0,1,2] Tryz.f84 [[0,1,2],[0,1,2,10],[6],[0,1,2,7],[0,1,2,7,18],[0,1,2,7,36],[6],[0,1,2,7],[6]])
noncomputable def QZ:aC:=bL (bK 49 [0,1,2] Tryz.f56 [[0,1,2],[0,1,2,7],[0,1,2,7,9],[0,1,2,7,25],[6],[0,7,11],[7,11,45],[6],[6]])
def aj5:aC:=.seq (.block 1 (rG [aM 30 0,ns 31 30,dN 32 38 31 0,cg 33 34 32,aM 34 1,aM 35 8,hh 36 40 34 35,hB 37 50 33 36,⟨some 29,.pe (.t 37),none⟩,jc 38 29 0,jc 39 29 1,b5 9 38,b5 10 39] [[],[0],[1],[2],[],[],[4,5],[3,6],[7],[8],[8],[9,7,0,1,2,3,4,5,6,7,8,9],[10,11,0,1,2,3,4,5,6,7,8,9,10,11]] [0,1,6,7,8,9,10] (.seq (a6 [aM 40 10,oM 41 40] [0,1,6,7,8,9,41] (.cond (.t 41) (a6 [pR 4,jo 5 false] [4,5] .ret) .skip)) (.ez [aM 42 7,aM 43 9,tX 44 94 43,xF 45 94 94 42 44,b5 7 45] (some [0,1,6,7,8]))))) (.ez [aM 27 8,du 28 .add 3 27 1,b5 8 28] (some [0,1,6,7,8]))
def Yb:aC:=.seq (a6 [aM 23 8,aM 24 1,j6 25 40 24,iV 26 .lss 3 23 25] [0,1,6,7,8,26] (.cond (.t 26) .skip (.exit 0))) aj5
def aj6:aC:=.seq (rG [dN 68 100 13 0,cg 69 9 68,ro 70 (.eL .neq 9 (.t 69) (.c (.str [116,97,117]))),aM 71 70,ff 72 71 (.gM (.t 0)),ff 73 71 (.mm (.t 72)),ff 74 71 (.hU 38 (.t 73) 3),ff 75 71 (.fS 25 (.t 74)),ff 76 71 (.hU 100 (.t 13) 0),ff 77 71 (.fS 9 (.t 76)),⟨some 78,.call (.f 52) [(.t 77)],some (71,true)⟩,⟨some 79,.call (.f 51) [(.t 75),(.t 78)],some (71,true)⟩,ff 80 71 (.eL .lss 2 (.t 79) (.c (.int .i64 0))),ro 81 (.pick (.t 71) (.t 80) (.c (.bool false)))] [[],[0],[1],[2],[3],[4,3],[5,3],[6,3],[3],[8,3],[9,3,3],[7,10,10,3],[11,3],[3,12]] [0,1,6,7,11,12,13,81] (.cond (.t 81) (.exit 5) .skip)) (a6 [aM 82 1,hi 83 53 82,b5 14 83] [0,1,6,7,11,12,13,14] (a6 [aM 84 14,aM 85 11,dN 86 100 13 1,cg 87 65 86,hh 88 40 84 85,jQ 65 88 87] [0,1,6,7,11,12,13,14] (.ez [aM 89 6,aM 90 0,dN 91 100 13 0,cg 92 9 91,hB 93 55 90 92,aM 94 11,aM 95 14,hi 96 53 95,⟨some 97,.shr (.gz 71 [(0,(.t 93)),(1,(.t 94)),(2,(.c (.int .i64 (-1)))),(3,(.t 96))]),none⟩,hB 98 54 89 97,b5 6 98] (some [0,1,6,7,11,12]))))
def Yc:aC:=.ez [aM 59 12,du 60 .add 3 59 1,b5 12 60] (some [0,1,6,7,11,12])
def Yd:aC:=.seq (a6 [aM 52 12,aM 53 7,aM 54 11,hh 55 94 53 54,cg 56 95 55,j6 57 95 56,iV 58 .lss 3 52 57] [0,1,6,7,11,12,58] (.cond (.t 58) .skip (.exit 4))) (.seq (.block 5 (a6 [aM 61 7,aM 62 11,hh 63 94 61 62,cg 64 95 63,aM 65 12,hh 66 95 64 65,cg 67 100 66,oa 13 100,jQ 100 13 67] [0,1,6,7,11,12,13] aj6)) Yc)
def Ye:aC:=.seq (a6 [aM 46 11,aM 47 1,j6 48 40 47,iV 49 .lss 3 46 48] [0,1,6,7,11,49] (.cond (.t 49) .skip (.exit 2))) (.seq (.block 3 (a6 [ia 12 0] [0,1,6,7,11,12] (.block 4 (.loop Yd)))) (.ez [aM 50 11,du 51 .add 3 50 1,b5 11 51] (some [0,1,6,7,11])))
def aj7:aC:=a6 [aM 158 20,aM 159 15,aM 160 7,aM 161 15,hh 162 94 160 161,cg 163 95 162,aM 164 17,hh 165 95 163 164,dN 166 100 165 1,cg 167 65 166,hh 168 40 158 159,jQ 65 168 167] [0,1,6,7,15,16,17,18,19,20] (a6 [aM 169 20,aM 170 16,aM 171 7,aM 172 16,hh 173 94 171 172,cg 174 95 173,aM 175 18,hh 176 95 174 175,dN 177 100 176 1,cg 178 65 177,hh 179 40 169 170,jQ 65 179 178] [0,1,6,7,15,16,17,18,19,20] (.ez [aM 180 6,aM 181 0,aM 182 19,hB 183 55 181 182,aM 184 15,aM 185 16,aM 186 20,hi 187 53 186,⟨some 188,.shr (.gz 71 [(0,(.t 183)),(1,(.t 184)),(2,(.t 185)),(3,(.t 187))]),none⟩,hB 189 54 180 188,b5 6 189] (some [0,1,6,7,15,16,17,18])))
def Yf:aC:=.ez [aM 134 18,du 135 .add 3 134 1,b5 18 135] (some [0,1,6,7,15,16,17,18])
def aj8:aC:=.seq (.block 13 (rG [aM 136 0,aM 137 7,aM 138 15,hh 139 94 137 138,cg 140 95 139,aM 141 17,hh 142 95 140 141,dN 143 100 142 0,cg 144 9 143,aM 145 7,aM 146 16,hh 147 94 145 146,cg 148 95 147,aM 149 18,hh 150 95 148 149,dN 151 100 150 0,cg 152 9 151,Xr 153 56 136 144 152,b5 19 153] [[],[],[],[1,2],[3],[],[4,5],[6],[7],[],[],[9,10],[11],[],[12,13],[14],[15],[0,8,16],[17,17,0,1,2,3,4,5,6,7,8,9,10,11,12,13,14,15,16,17]] [0,1,6,7,15,16,17,18,19] (.seq (a6 [aM 154 19,ro 155 (.eL .eql 9 (.t 154) (.c (.str [])))] [0,1,6,7,15,16,17,18,19,155] (.cond (.t 155) (.exit 13) .skip)) (a6 [aM 156 1,hi 157 53 156,b5 20 157] [0,1,6,7,15,16,17,18,19,20] aj7)))) Yf
def Yg:aC:=.seq (a6 [aM 122 18,aM 123 7,aM 124 16,hh 125 94 123 124,cg 126 95 125,j6 127 95 126,iV 128 .lss 3 122 127,aM 129 128,ff 130 129 (.gM (.t 6)),ff 131 129 (.len 31 (.t 130)),ff 132 129 (.eL .leq 3 (.t 131) (.c (.int .i64 200))),ro 133 (.pick (.t 129) (.t 132) (.c (.bool false)))] [0,1,6,7,15,16,17,18,133] (.cond (.t 133) .skip (.exit 12))) aj8
def Yh:aC:=.seq (a6 [aM 113 17,aM 114 7,aM 115 15,hh 116 94 114 115,cg 117 95 116,j6 118 95 117,iV 119 .lss 3 113 118] [0,1,6,7,15,16,17,119] (.cond (.t 119) .skip (.exit 10))) (.seq (.block 11 (a6 [ia 18 0] [0,1,6,7,15,16,17,18] (.block 12 (.loop Yg)))) (.ez [aM 120 17,du 121 .add 3 120 1,b5 17 121] (some [0,1,6,7,15,16,17])))
def Yi:aC:=.seq (a6 [aM 107 16,aM 108 1,j6 109 40 108,iV 110 .lss 3 107 109] [0,1,6,7,15,16,110] (.cond (.t 110) .skip (.exit 8))) (.seq (.block 9 (a6 [ia 17 0] [0,1,6,7,15,16,17] (.block 10 (.loop Yh)))) (.ez [aM 111 16,du 112 .add 3 111 1,b5 16 112] (some [0,1,6,7,15,16])))
def Yj:aC:=.seq (a6 [aM 99 15,aM 100 1,j6 101 40 100,iV 102 .lss 3 99 101] [0,1,6,7,15,102] (.cond (.t 102) .skip (.exit 6))) (.seq (.block 7 (a6 [aM 105 15,du 106 .add 3 105 1,b5 16 106] [0,1,6,7,15,16] (.block 8 (.loop Yi)))) (.ez [aM 103 15,du 104 .add 3 103 1,b5 15 104] (some [0,1,6,7,15])))
def aj9:aC:=a6 [pR 4,jo 5 false] [0,1] (a6 [ro 21 (.dW 31 0 []),b5 6 21] [0,1,6] (a6 [ro 22 (.dW 94 0 []),b5 7 22] [0,1,6,7] (.seq (a6 [ia 8 0] [0,1,6,7,8] (.block 0 (.loop Yb))) (.seq (a6 [ia 11 0] [0,1,6,7,11] (.block 2 (.loop Ye))) (.seq (a6 [ia 15 0] [0,1,6,7,15] (.block 6 (.loop Yj))) (a6 [aM 190 6,aM 191 6,j6 192 31 191,du 193 .leq 3 192 200,b5 4 190,b5 5 193] [4,5] .ret))))))
noncomputable def aj_:aC:=bL (bK 22 [0,1] Tryz.f6 [[1,2],[1,2,6],[1,2,6,12],[1,4,5],[1,7,8],[1,7,20],[1,4,5],[1,4,5]])
noncomputable def c127:aC:=bL (bK 15 [0,1,2] Tryz.f127 [[0,1,2],[6]])
noncomputable def c198:aC:=bL (bK 7 [0] Tryz.f198 [[1],[2]])
noncomputable def aka:aC:=bL (bK 19 [0,1] Tryz.f200 [[0,1],[0,1,7,8],[0,1,7,8,9],[0,1,5,7,8],[0,1,5,7,8,16],[4],[0,1,7,8],[4]])
noncomputable def akb:aC:=bL (bK 9 [0,1] Tryz.f197 [[0,1],[4]])
noncomputable def akc:aC:=bL (bK 6 [0] Tryz.f166 [[0],[2]])
noncomputable def akd:aC:=bL (bK 9 [0] Tryz.f199 [[0],[2]])
noncomputable def c167:aC:=bL (bK 42 [0] Tryz.f167 [[0],[0,6,7],[0,6,7,8],[0,3,6,7],[0,3,4,6,7],[0,6,7,32],[2],[0,6,7],[2]])
noncomputable def c201:aC:=bL (bK 8 [0,1] Tryz.f201 [[1,2],[3]])
noncomputable def ake:aC:=bL (bK 19 [0,1] Tryz.f200 [[0,1],[0,1,7,8],[0,1,7,8,9],[0,1,5,7,8],[0,1,5,7,8,16],[4],[0,1,7,8],[4]])
noncomputable def c168:aC:=bL (bK 8 [0,1] Tryz.f168 [[0,3],[4]])
noncomputable def akf:aC:=bL (bK 11 [0] Tryz.f134 [[1],[4],[4,5],[4,5],[4,5],[2],[9],[2],[2]])
noncomputable def c141:aC:=bL (bK 25 [0] Tryz.f141 [[1,2],[1,2,5],[1,2,5,7],[1,2,5,14],[4],[1,2,5],[1,2,5],[4]])
def akg:aC:=.ez [dN 29 152 9 0,cg 30 2 29,du 31 .add 2 30 1,dN 32 152 9 0,jQ 2 32 31] (some [0,2,3,4,8,9])
def akh:aC:=.cond (.t 28) akg .skip
def aki:aC:=.ez [du 43 .add 3 37 1,aM 37 43] (some [2,3,4,9,10,36,37])
def akj:aC:=.seq (.block 1 (.kI (N0 ah 133 4 2 39 ((range 3).map (·+2)) [aM 40 10,cg 41 152 9] [(.t 40),(.t 41)] (some 42) [b5 10 42] [2,3,4,9,10,36,37]) (W0 199 4 39 [aM 40 10,cg 41 152 9] [(.t 40),(.t 41)] (some 42) [b5 10 42]))) aki
def akk:aC:=.seq (.cond (.t 38) .skip (.exit 0)) akj
def Yk:aC:=a6 [iV 38 .lss 3 37 36] [2,3,4,9,10,36,37,38] akk
def akl:aC:=.block 0 (.loop Yk)
def akm:aC:=a6 [aM 44 10,b5 7 44] [2,3,4,7] .ret
def akn:aC:=.seq (a6 [cg 35 150 8,hi 36 134 35,xE 37 0] [2,3,4,9,10,36,37] akl) akm
def Yl:aC:=a6 [aM 33 0,du 34 .add 3 33 1,b5 10 34] [2,3,4,8,9,10] akn
def ako:aC:=.seq (a6 [dN 26 150 8 0,cg 27 2 26,du 28 .eql 2 27 4] [0,2,3,4,8,9,28] akh) Yl
def akp:aC:=a6 [dN 20 152 6 0,cg 21 2 20,dN 22 150 8 0,cg 23 2 22,du 24 .eql 2 23 1,ro 25 (.gz 152 [(0,(.t 21)),(1,(.t 24))]),oa 9 152,jQ 152 9 25] [0,2,3,4,8,9] ako
def akq:aC:=a6 [dN 15 109 3 2,cg 16 107 15,aM 17 0,hh 18 107 16 17,cg 19 150 18,oa 8 150,jQ 150 8 19] [0,2,3,4,6,8] akp
def akr:aC:=a6 [cg 11 153 2,aM 12 0,cg 13 152 6,hh 14 153 11 12,jQ 152 14 13] [0,2,3,4,6] akq
def Ym:aC:=a6 [ro 6 (.ij 152 (.t 1)),ia 7 0] [0,2,3,4,6] akr
theorem aks:Ym.pN (IZ ah 133 [0,1,2,3,4] 5 2 4):=And.intro (True.intro) (And.intro (True.intro) (And.intro (True.intro) (And.intro (True.intro) (And.intro (And.intro (True.intro) (And.intro (True.intro) (True.intro))) (And.intro (True.intro) (And.intro (And.intro (True.intro) (And.intro (True.intro) (And.intro (And.intro (True.intro) (True.intro)) (And.intro (⟨199,2,39,3,_,_,_,_,_,rfl,rfl,(by kernel_rfl),rfl,rfl,rfl,rfl,rfl,rfl,rfl⟩) (True.intro))))) (And.intro (True.intro) (True.intro))))))))
theorem akt:fW ⟨45,[0,1,2,3,4]⟩ (Tryz.f133.body.getD .skip)=some Ym.strip:=by kernel_rfl
def Q0:aC:=a6 [cg 15 153 3,b5 2 15] [2] .ret
def aku:aC:=a6 [cg 10 199 4,dN 11 109 1 1,cg 12 2 11,ro 13 (.gz 152 [(0,(.t 12))]),ro 14 (.call (.t 10) [(.c (.int .i64 0)),(.t 13)])] [3] Q0
def axL:aC:=a6 [ro 9 (.pJ 133 [(.t 3),(.t 1),(.t 4)]),jQ 199 4 9] [1,3,4] aku
def akv:aC:=.kI (N4 ah 133 4 2 10 9 [3,1,4] [dN 11 109 1 1,cg 12 2 11,ro 13 (.gz 152 [(0,(.t 12))])] [(.c (.int .i64 0)),(.t 13)] (some 14) [3] Q0) (W5 199 133 4 10 9 [3,1,4] [dN 11 109 1 1,cg 12 2 11,ro 13 (.gz 152 [(0,(.t 12))])] [(.c (.int .i64 0)),(.t 13)] (some 14) Q0.nm)
def akw:aC:=a6 [dN 5 109 1 2,cg 6 107 5,j6 7 107 6,ro 8 (.fF 153 (.t 7) (.t 7)),oa 3 153,jQ 153 3 8] [1,3] akv
def Yn:aC:=a6 [ro 1 (.ij 109 (.t 0)),pR 2] [1] akw
theorem akx:Yn.pN (EX ah):=And.intro (True.intro) (And.intro (True.intro) (⟨199,133,4,2,10,9,_,_,_,_,_,_,rfl,rfl,(by kernel_rfl),⟨Tryz.t199,_,_,(by kernel_rfl),rfl,rfl,rfl,rfl⟩,rfl,rfl,rfl,rfl,(by kernel_rfl)⟩))
theorem aky:fW ⟨16,[0]⟩ (Tryz.f90.body.getD .skip)=some Yn.strip:=by kernel_rfl
noncomputable def c229:aC:=bL (bK 56 [0] Tryz.f229 [[1],[1,3],[1,3,4],[2]])
def akz:aC:=a6 [jo 2 false] [0] (a6 [aM 3 0,hi 4 167 3,aM 5 4,ff 6 5 (.gM (.t 0)),⟨some 7,.eL .neq 9 (.t 6) (.c (.str [116,97,117])),some (5,true)⟩,ro 8 (.pick (.t 5) (.t 7) (.c (.bool false))),b5 2 8] [2] .ret)
noncomputable def akA:aC:=bL (bK 9 [0,1] Tryz.f89 [[0,1],[4]])
def akB:aC:=.cond (.t 11) (a6 [aM 13 5,du 14 .eql 3 13 0,aM 15 14,gm 16 15 (.hU 150 (.t 2) 2),gm 17 15 (.fS 9 (.t 16)),⟨some 18,.eL .neq 9 (.t 17) (.c (.str [116,97,117])),some (15,false)⟩,gm 19 15 (.gM (.t 18)),ff 20 19 (.gM (.t 5)),ff 21 19 (.eL .leq 3 (.t 20) (.c (.int .i64 2))),gm 22 15 (.pick (.t 19) (.t 21) (.c (.bool false))),ro 23 (.pick (.t 15) (.c (.bool true)) (.t 22)),b5 4 23] [4] .ret) (a6 [du 25 .eql 2 10 3,b5 24 25] [1,2,5,10,24] (.cond (.t 24) (a6 [aM 26 5,du 27 .eql 3 26 1,b5 4 27] [4] .ret) (a6 [du 29 .eql 2 10 5,b5 28 29] [1,2,5,28] (.cond (.t 28) (a6 [aM 30 5,aM 31 1,dN 32 150 2 1,cg 33 2 32,hh 34 34 31 33,dN 35 109 34 1,cg 36 2 35,iV 37 .eql 2 30 36,b5 4 37] [4] .ret) .skip))))
def akC:aC:=a6 [ro 2 (.ij 150 (.t 0)),jo 4 false] [1,2] (a6 [dN 6 150 2 3,cg 7 148 6,j6 8 148 7,b5 5 8] [1,2,5] (.seq (a6 [dN 9 150 2 0,cg 10 2 9] [1,2,5,10] (.block 0 (a6 [du 12 .eql 2 10 1,b5 11 12] [1,2,5,10,11] akB))) (a6 [jo 4 true] [4] .ret)))
noncomputable def akD:aC:=bL (bK 5 [0] Tryz.f137 [[0],[2]])
noncomputable def akE:aC:=bL (bK 29 [0,1] Tryz.f256 [[1,2],[1,2,6],[1,2,6,7],[4],[1,2,6,12],[4],[2,6,19],[4],[2,24],[4],[4]])
noncomputable def akF:aC:=bL (bK 9 [0] Tryz.f235 [[1],[4],[4,5],[2],[7],[2],[2]])
noncomputable def c233:aC:=bL (bK 47 [0,1,2] Tryz.f233 [[0,1,2],[0,1,24],[6],[0,1,7],[1,7,25,26,27],[1,7,25,26,27,28],[1,7,9,25,26,27],[1,7,9,25,26,27,38],[6],[1,7,25,26,27],[1,7,25,26,27],[6]])
noncomputable def c232:aC:=bL (bK 9 [0,1] Tryz.f232 [[0,1],[3]])
noncomputable def akG:aC:=bL (bK 19 [0,1] Tryz.f255 [[0,1],[0,1,7,8],[0,1,7,8,9],[0,1,5,7,8],[0,1,5,7,8,16],[4],[0,1,7,8],[4]])
noncomputable def akH:aC:=bL (bK 9 [0,1] Tryz.f231 [[0,1],[4]])
def akI:aC:=a6 [dN 55 150 3 0,cg 56 2 55,du 57 .eql 2 56 5,aM 58 57,ff 59 58 (.hU 152 (.t 5) 1),ff 60 58 (.fS 4 (.t 59)),ff 61 58 (.un .not (.t 60)),ro 62 (.pick (.t 58) (.t 61) (.c (.bool false))),b5 54 62] [3,5,54] (.cond (.t 54) (a6 [ia 6 6] [6] .ret) (a6 [dN 64 150 3 0,cg 65 2 64,du 66 .eql 2 65 4,aM 67 66,ff 68 67 (.hU 152 (.t 5) 0),ff 69 67 (.fS 2 (.t 68)),ff 70 67 (.eL .geq 2 (.t 69) (.c (.int .i64 6))),ro 71 (.pick (.t 67) (.t 70) (.c (.bool false))),b5 63 71] [3,5,63] (.cond (.t 63) (a6 [ia 6 7] [6] .ret) (a6 [dN 73 150 3 3,cg 74 148 73,ro 75 (.pJ 232 [(.t 5)]),hB 76 231 74 75,b5 72 76] [72] (.cond (.t 72) (a6 [ia 6 8] [6] .ret) .skip)))))
def Yo:aC:=.cond (.t 26) (a6 [ia 6 4] [6] .ret) (a6 [cg 50 150 3,aM 51 1,hB 52 230 50 51,oM 53 52,b5 49 53] [3,5,49] (.cond (.t 49) (a6 [ia 6 5] [6] .ret) akI))
def akJ:aC:=a6 [dN 27 150 3 0,cg 28 2 27,du 29 .eql 2 28 4,aM 30 29,ff 31 30 (.hU 150 (.t 3) 1),ff 32 30 (.fS 2 (.t 31)),⟨some 33,.call (.f 127) [(.t 32),(.c (.int .i64 1)),(.c (.int .i64 7))],some (30,true)⟩,ff 34 30 (.un .not (.t 33)),ro 35 (.pick (.t 30) (.t 34) (.c (.bool false))),aM 36 35,gm 37 36 (.hU 150 (.t 3) 0),gm 38 36 (.fS 2 (.t 37)),gm 39 36 (.eL .eql 2 (.t 38) (.c (.int .i64 5))),gm 40 36 (.gM (.t 39)),ff 41 40 (.hU 150 (.t 3) 1),ff 42 40 (.fS 2 (.t 41)),ff 43 40 (.gM (.t 1)),ff 44 40 (.len 34 (.t 43)),⟨some 45,.call (.f 89) [(.t 42),(.t 44)],some (40,true)⟩,ff 46 40 (.un .not (.t 45)),gm 47 36 (.pick (.t 40) (.t 46) (.c (.bool false))),ro 48 (.pick (.t 36) (.c (.bool true)) (.t 47)),b5 26 48] [1,3,5,26] Yo
def Yp:aC:=.cond (.t 11) (a6 [ia 6 3] [6] .ret) akJ
def akK:aC:=.seq (.block 0 (a6 [cg 8 150 3,hi 9 229 8,oM 10 9,b5 7 10] [1,3,5,7] (.cond (.t 7) (a6 [ia 6 2] [6] .ret) (a6 [dN 12 150 3 0,cg 13 2 12,du 14 .eql 2 13 1,aM 15 14,ff 16 15 (.hU 150 (.t 3) 2),ff 17 15 (.fS 9 (.t 16)),⟨some 18,.eL .neq 9 (.t 17) (.c (.str [116,97,117])),some (15,true)⟩,ro 19 (.pick (.t 15) (.t 18) (.c (.bool false))),aM 20 19,ff 21 20 (.hU 150 (.t 3) 2),ff 22 20 (.fS 9 (.t 21)),⟨some 23,.call (.f 147) [(.t 22)],some (20,true)⟩,ff 24 20 (.un .not (.t 23)),ro 25 (.pick (.t 20) (.t 24) (.c (.bool false))),b5 11 25] [1,3,5,11] Yp)))) (a6 [ia 6 0] [6] .ret)
def akL:aC:=a6 [ro 3 (.ij 150 (.t 0)),ro 5 (.ij 152 (.t 2)),ia 6 0] [1,3,5] akK
noncomputable def akM:aC:=bL (bK 45 [0,1] Tryz.f169 [[0,3],[0,3,22],[4,5],[0,3,6],[0,6,26,27,28],[0,6,26,27,28,29],[0,6,7,8,26,27,28],[0,6,7,9,26,27,28],[0,6,7,9,26,27,28,41],[4,5],[0,6,26,27,28],[4,5]])
noncomputable def akN:aC:=bL (bK 45 [0] Tryz.f126 [[0],[0,15],[2],[0,16,17,18],[0,16,17,18,19],[0,3,4,16,17,18],[0,4,16,17,18,35],[2],[0,6,16,17,18],[0,16,17,18,43],[2],[0,16,17,18],[2]])
noncomputable def akO:aC:=bL (bK 6 [0] Tryz.f136 [[0],[2]])
noncomputable def akP:aC:=bL (bK 19 [0,1] Tryz.f174 [[0,1],[0,1,7,8],[0,1,7,8,9],[0,1,5,7,8],[0,1,5,7,8,16],[4],[0,1,7,8],[4]])
noncomputable def akQ:aC:=bL (bK 9 [0,1] Tryz.f135 [[0,1],[4]])
noncomputable def c91:aC:=bL (bK 6 [0] Tryz.f91 [[0],[2]])
noncomputable def c130:aC:=bL (bK 27 [0,1] Tryz.f130 [[0,3],[4]])
noncomputable def akR:aC:=bL (bK 9 [0,1] Tryz.f129 [[1,2],[3]])
noncomputable def akS:aC:=bL (bK 19 [0,1] Tryz.f170 [[0,1],[0,1,7,8],[0,1,7,8,9],[0,1,5,7,8],[0,1,5,7,8,16],[4],[0,1,7,8],[4]])
noncomputable def akT:aC:=bL (bK 9 [0,1] Tryz.f128 [[0,1],[4]])
noncomputable def akU:aC:=bL (bK 6 [0] Tryz.f257 [[0],[2]])
noncomputable def c234:aC:=bL (bK 20 [0,1] Tryz.f234 [[0,1],[0,1,5],[0,1,5,6],[0,1,6,11],[12],[4],[4],[0,1,13],[4],[0,1,16],[4],[19],[4],[4]])
noncomputable def c203:aC:=bL (bK 36 [0,1] Tryz.f203 [[0,1],[0,1,9,10,11],[0,1,9,10,11,12],[0,1,5,6,9,10,11],[0,1,5,6,9,10,11,19],[4],[0,1,6,7,9,10,11],[0,1,8,9,10,11],[0,1,8,9,10,11,28],[4],[0,1,9,10,11],[35],[4],[4]])
noncomputable def c171:aC:=bL (bK 16 [0,1] Tryz.f171 [[2,3],[4]])
noncomputable def c173:aC:=bL (bK 16 [0,1] Tryz.f173 [[1,2],[3]])
noncomputable def akV:aC:=bL (bK 19 [0,1] Tryz.f153 [[0,1],[0,1,7,8],[0,1,7,8,9],[0,1,5,7,8],[0,1,5,7,8,16],[4],[0,1,7,8],[4]])
noncomputable def akW:aC:=bL (bK 9 [0,1] Tryz.f172 [[0,1],[4]])
noncomputable def c131:aC:=bL (bK 56 [0] Tryz.f131 [[0],[0,5,6,7],[0,5,6,7,8],[0,3,4,5,6,7],[0,4,5,6,7,48],[2],[0,5,6,7,51],[2],[0,5,6,7],[2]])
noncomputable def akX:aC:=bL (bK 32 [0] Tryz.f132 [[0],[0,5,6,7],[0,5,6,7,8],[0,3,4,5,6,7],[0,5,6,7,27],[2],[0,5,6,7],[2]])
noncomputable def c87:aC:=bL (bK 35 [0] Tryz.f87 [[1],[1,3],[2],[1,8],[2],[1,20],[2],[1,25],[2],[30],[2],[2]])
noncomputable def akY:aC:=bL (bK 6 [0] Tryz.f61 [[1],[2]])
noncomputable def akZ:aC:=bL (bK 56 [0,1] Tryz.f64 [[0,3],[0,3,24],[4],[3,5],[4]])
noncomputable def ak0:aC:=bL (bK 9 [0,1] Tryz.f63 [[1,2],[3]])
noncomputable def ak1:aC:=bL (bK 19 [0,1] Tryz.f88 [[0,1],[0,1,7,8],[0,1,7,8,9],[0,1,5,7,8],[0,1,5,7,8,16],[4],[0,1,7,8],[4]])
noncomputable def ak2:aC:=bL (bK 9 [0,1] Tryz.f62 [[0,1],[4]])
noncomputable def ak3:aC:=bL (bK 21 [0,1] Tryz.f29 [[1,2],[4]])
noncomputable def ak4:aC:=bL (bK 38 [0] Tryz.f204 [[0],[0,4],[0,4,5],[4,5,17,18],[4,5,17,18,19],[4,5,17,18],[4,5,6,17,18],[4,5,17,18],[4,5,17,18],[2,3]])
noncomputable def c175:aC:=bL (bK 11 [0] Tryz.f175 [[0],[3],[2]])
noncomputable def ak5:aC:=bL (bK 4 [0] Tryz.f205 [[0],[3],[2],[2]])
noncomputable def c206:aC:=bL (bK 67 [0,1,2] Tryz.f206 [[0,1,2],[1,2,7],[1,2,7,8],[6],[1,2,7,14],[6],[1,2,7,21],[6],[1,2,7,27],[6],[1,2,7,33],[6],[1,2,7,39],[6],[1,2,7,45],[6],[1,2,51],[6],[6]])
noncomputable def ak6:aC:=bL (bK 61 [0,1] Tryz.f176 [[0,1],[0,1,9],[0,1,9,10],[4],[0,1,9,17],[4],[0,1,27],[4],[4]])
noncomputable def ak7:aC:=bL (bK 9 [0,1] Tryz.f142 [[0,1],[4]])
noncomputable def c138:aC:=bL (bK 22 [0,1] Tryz.f138 [[0,1],[0,1,5],[1,5,8,9,10],[1,5,8,9,10,11],[1,5,7,8,9,10],[1,5,8,9,10],[1,5,8,9,10],[4]])
noncomputable def ak8:aC:=bL (bK 5 [0] Tryz.f101 [[0],[2]])
noncomputable def c148:aC:=bL (bK 27 [0,1] Tryz.f148 [[0,1],[0,1,5],[1,5,11,12,13],[1,5,11,12,13,14],[1,5,6,7,11,12,13],[1,5,11,12,13],[1,5,11,12,13],[4]])
def ak9:aC:=a6 [aM 13 0,hi 14 147 13,oM 15 14,aM 16 15,gm 17 16 (.gM (.t 1)),gm 18 16 (.len 54 (.t 17)),gm 19 16 (.eL .gtr 3 (.t 18) (.c (.int .i64 2))),ro 20 (.pick (.t 16) (.c (.bool true)) (.t 19)),aM 21 20,gm 22 21 (.gM (.t 1)),⟨some 23,.call (.f 91) [(.t 22)],some (21,false)⟩,gm 24 21 (.un .not (.t 23)),ro 25 (.pick (.t 21) (.c (.bool true)) (.t 24)),b5 12 25] [0,1,12] (.cond (.t 12) (a6 [ro 4 (.hO (.c (.str []))),jo 5 false] [4,5] .ret) (a6 [aM 27 1,j6 28 54 27,du 29 .eql 3 28 0,b5 26 29] [0,1,26] (.cond (.t 26) (a6 [aM 30 0,b5 4 30,jo 5 true] [4,5] .ret) .skip)))
def ak_:aC:=a6 [ro 4 (.hO (.c (.str []))),jo 5 false] [0,1] (.seq (.block 0 (a6 [aM 7 0,ro 8 (.eL .eql 9 (.t 7) (.c (.str [116,97,117]))),b5 6 8] [0,1,6] (.cond (.t 6) (a6 [aM 9 1,j6 10 54 9,du 11 .eql 3 10 0,ro 4 (.hO (.c (.str [116,97,117]))),b5 5 11] [4,5] .ret) ak9))) (a6 [aM 31 0,ro 32 (.eL .add 9 (.t 31) (.c (.str [40]))),aM 33 1,ro 34 (.call (.f 148) [(.t 33),(.c (.str [44]))]),iV 35 .add 9 32 34,ro 36 (.eL .add 9 (.t 35) (.c (.str [41]))),b5 4 36,jo 5 true] [4,5] .ret))
noncomputable def c139:aC:=bL (bK 8 [0] Tryz.f139 [[0],[0,4],[2],[2]])
noncomputable def ala:aC:=bL (bK 6 [0] Tryz.f265 [[0],[2]])
noncomputable def alb:aC:=bL (bK 19 [0,1] Tryz.f174 [[0,1],[0,1,7,8],[0,1,7,8,9],[0,1,5,7,8],[0,1,5,7,8,16],[4],[0,1,7,8],[4]])
noncomputable def alc:aC:=bL (bK 9 [0,1] Tryz.f135 [[0,1],[4]])
noncomputable def ald:aC:=bL (bK 11 [0] Tryz.f250 [[0],[2]])
def ale:aC:=a6 [ro 2 (.hO (.c (.str [])))] [0] (.seq (.block 0 (a6 [aM 4 0,hi 5 250 4,oM 6 5,b5 3 6] [0,3] (.cond (.t 3) (a6 [ro 2 (.hO (.c (.str [])))] [2] .ret) (a6 [aM 8 0,j6 9 54 8,du 10 .eql 3 9 0,b5 7 10] [0,7] (.cond (.t 7) (a6 [ro 2 (.hO (.c (.str [45])))] [2] .ret) .skip))))) (a6 [aM 11 0,ro 12 (.call (.f 148) [(.t 11),(.c (.str [44]))]),b5 2 12] [2] .ret))
def alf:aC:=a6 [ro 1 (.ij 65 (.t 0)),ro 2 (.hO (.c (.str [])))] [1] (rG [dN 3 65 1 1,cg 4 2 3,hi 5 101 4,ro 6 (.eL .add 9 (.t 5) (.c (.str [58]))),dN 7 65 1 2,cg 8 54 7,hi 9 221 8,iV 10 .add 9 6 9,b5 2 10] [[],[0],[1],[2],[],[4],[5,2],[3,6],[7,6,0,1,2,3,4,5,6,7]] [2] .ret)
def alg:aC:=a6 [ro 1 (.ij 65 (.t 0)),ro 2 (.hO (.c (.str [])))] [1] (rG [dN 3 65 1 0,cg 4 2 3,hi 5 101 4,ro 6 (.eL .add 9 (.t 5) (.c (.str [58]))),cg 7 65 1,hi 8 185 7,iV 9 .add 9 6 8,b5 2 9] [[],[0],[1],[2],[],[4,2],[3,5],[6,5,0,1,2,3,4,5,6]] [2] .ret)
def alh:aC:=a6 [aM 12 0,ns 13 12,dN 14 158 13 2,cg 15 121 14,aM 16 4,ro 17 (.jH 121 (.t 15) (.t 16)),oM 18 17] [0,1,3,4,18] (.cond (.t 18) (a6 [aM 19 0,ns 20 19,dN 21 158 20 2,cg 22 121 21,aM 23 4,⟨none,.kU 121 (.t 22) (.t 23) (.c (.bool true)),none⟩] [0,1,3] (.jM [aM 24 0,aM 25 0,ns 26 25,dN 27 158 26 1,cg 28 95 27,cg 29 100 3,tX 30 95 29,xF 31 95 95 28 30,ns 32 24,dN 33 158 32 1,jQ 95 33 31] [[],[],[1],[2],[3],[],[5],[4,6],[0,0,1,2,3,4,5,6,7],[8,0,1,2,3,4,5,6,7],[9,7,7,0,1,2,3,4,5,6,7]] (some [0,1]))) .skip)
def ali:aC:=a6 [ro 3 (.ij 100 (.t 1))] [0,1,3] (rG [dN 5 100 3 0,cg 6 9 5,ro 7 (.eL .add 9 (.t 6) (.c (.str [32]))),dN 8 100 3 1,cg 9 65 8,hi 10 151 9,iV 11 .add 9 7 10,b5 4 11] [[],[0],[1],[],[3],[4],[2,5],[6,5,0,1,2,3,4,5,6]] [0,1,3,4] alh)
def Yq:aC:=.ez [aM 63 0,aM 64 10,cg 65 65 12,ro 66 (.gz 100 [(0,(.t 64)),(1,(.t 65))]),hB 67 140 63 66] (some [0])
def alj:aC:=a6 [aM 41 1,aM 42 2,du 43 .add 2 42 1,aM 44 3,hi 45 139 44,ro 46 (.gz 65 [(0,(.t 41)),(1,(.t 43)),(2,(.t 45))]),oa 12 65,jQ 65 12 46] [0,2,3,8,10,12] (.seq (a6 [dN 47 109 8 2,cg 48 107 47,aM 49 2,du 50 .add 2 49 1,hh 51 107 48 50,cg 52 150 51,oa 13 150,jQ 150 13 52] [0,3,10,12,13] (a6 [dN 53 150 13 0,cg 54 2 53,du 55 .eql 2 54 5] [0,3,10,12,13,55] (.cond (.t 55) (.jM [dN 56 150 13 1,cg 57 2 56,dN 58 150 13 3,cg 59 148 58,aM 60 3,hB 61 138 59 60,ro 62 (.gz 65 [(0,(.t 57)),(1,(.c (.int .i64 0))),(2,(.t 61))]),jQ 65 12 62] [[],[0],[],[2],[],[3,4],[1,5],[6,5,0,1,2,3,4,5,6]] (some [0,10,12])) .skip))) Yq)
def Yr:aC:=a6 [iV 105 .lss 2 104 103] [0,1,2,3,103,104,105] (.seq (.cond (.t 105) .skip (.exit 1)) (.seq (.block 2 (a6 [aM 106 104,b5 14 106] [0,1,2,3,14,103,104] (.ez [aM 107 0,aM 108 1,aM 109 2,du 110 .add 2 109 1,aM 111 3,hi 112 139 111,aM 113 14,tX 114 54 113,⟨some 115,.shr (.app 54 54 (.t 112) (.t 114)),none⟩,E0 116 92 107 108 110 115] (some [0,1,2,3,103,104])))) (.ez [du 117 .add 2 104 1,aM 104 117] (some [0,1,2,3,103,104]))))
def alk:aC:=a6 [du 85 .eql 2 28 3,b5 84 85] [0,1,2,3,9,28,84] (.cond (.t 84) (a6 [dN 86 150 9 3,cg 87 148 86,ro 88 (.kD 148 (.t 87) (.c (.int .i64 0))),cg 89 188 88,aM 90 3,hB 91 142 89 90,du 92 .neq 2 91 0] [0,1,2,3,92] (.cond (.t 92) (.ez [aM 93 0,aM 94 1,aM 95 2,du 96 .add 2 95 1,aM 97 3,E0 98 92 93 94 96 97] (some [0])) .skip)) (a6 [du 100 .eql 2 28 4,b5 99 100] [0,1,2,3,9,99] (.cond (.t 99) (a6 [dN 101 150 9 1,cg 102 2 101,du 103 .add 2 102 1,xE 104 0] [0,1,2,3,103,104] (.block 1 (.loop Yr))) .skip)))
def alm:aC:=.cond (.t 29) (rG [dN 32 150 9 2,cg 33 9 32,dN 34 150 9 3,cg 35 148 34,aM 36 3,hB 37 138 35 36,hB 38 97 33 37,aM 31 38,jc 39 31 0,jc 40 31 1,b5 10 39,b5 11 40] [[],[0],[],[2],[],[3,4],[1,5,5],[6],[7],[7],[8,6,0,1,2,3,4,5,6,7,8],[9,10,0,1,2,3,4,5,6,7,8,9,10]] [0,1,2,3,8,10] alj) (a6 [du 69 .eql 2 28 2,b5 68 69] [0,1,2,3,8,9,28,68] (.cond (.t 68) (a6 [aM 70 0,aM 71 1,aM 72 2,du 73 .add 2 72 1,aM 74 3,E0 75 92 70 71 73 74] [0,1,2,3,8] (.ez [aM 76 0,aM 77 1,cg 78 109 8,aM 79 2,du 80 .add 3 79 1,hB 81 141 78 80,aM 82 3,E0 83 92 76 77 81 82] (some [0]))) alk))
def aln:aC:=a6 [aM 15 0,ns 16 15,dN 17 158 16 0,cg 18 34 17,aM 19 1,hh 20 34 18 19,cg 21 109 20,oa 8 109,jQ 109 8 21] [0,1,2,3,8] (a6 [dN 22 109 8 2,cg 23 107 22,aM 24 2,hh 25 107 23 24,cg 26 150 25,oa 9 150,jQ 150 9 26] [0,1,2,3,8,9] (a6 [dN 27 150 9 0,cg 28 2 27] [0,1,2,3,8,9,28] (.block 0 (a6 [du 30 .eql 2 28 1,b5 29 30] [0,1,2,3,8,9,28,29] alm))))
def alo:aC:=a6 [aM 7 0,ro 8 (.sj),ro 9 (.gz 158 [(0,(.t 7)),(2,(.t 8))]),ro 10 (.ij 158 (.t 9)),b5 6 10] [3,6] (a6 [aM 11 6,dN 12 65 3 0,cg 13 2 12,dN 14 65 3 1,cg 15 2 14,dN 16 65 3 2,cg 17 54 16,E0 18 92 11 13 15 17] [6] (rG [aM 19 6,ns 20 19,dN 21 158 20 1,cg 22 95 21,aM 23 6,ns 24 23,dN 25 158 24 1,cg 26 95 25,j6 27 95 26,du 28 .leq 3 27 200,⟨some 4,.pK (.t 22),none⟩,b5 5 28] [[],[0],[1],[2],[],[4],[5],[6],[7],[8],[3,0,1,2,3],[9,10,0,1,2,3,4,5,6,7,8,9,10]] [4,5,6] .ret))
def alp:aC:=a6 [ro 3 (.ij 65 (.t 1)),pR 4,jo 5 false] [0,3] alo
noncomputable def alq:aC:=bL (bK 8 [0,1] Tryz.f207 [[0,1],[4]])
noncomputable def alr:aC:=bL (bK 143 [0,1] Tryz.f177 [[0,1],[0,1,5],[0,1,5,16],[4],[0,1,5,24],[4],[0,1,5,31],[4],[0,1,5,36],[4],[0,1,5,6],[0,1,5,6,7],[0,1,5,6,7,8],[0,1,5,6,7,8,9],[0,1,5,6,7,8,9,10],[0,1,5,6,7,8,9,10,59],[0,1,5,6,7,8,9,10,64],[0,1,5,6,7,8,9,10,11],[0,1,5,6,7,8,9,10,11,73],[4],[0,1,5,6,7,8,9,10],[0,1,5,6,7,8,9,10,93],[4],[0,1,5,6,7,8,9,10],[0,1,5,6,7,8,9,10],[0,1,5,6,7,8,9,10,107],[8,12],[8,12,114],[4],[4],[0,1,5,6,7,8,9,10,132],[8,13],[8,13,139],[4],[4],[4]])
noncomputable def c143:aC:=bL (bK 23 [0,1] Tryz.f143 [[0,1],[0,1,7],[0,1,7,12],[4,5,6],[4,5,6]])
noncomputable def c93:aC:=bL (bK 13 [0,1] Tryz.f93 [[0,1],[4,5,6]])
noncomputable def c183:aC:=bL (bK 21 [0,1] Tryz.f183 [[0,1],[4]])
noncomputable def c146:aC:=bL (bK 16 [0,1] Tryz.f146 [[0,1],[0,1,7],[4],[4]])
noncomputable def als:aC:=bL (bK 8 [0,1] Tryz.f96 [[0,1],[4]])
noncomputable def c182:aC:=bL (bK 8 [0,1] Tryz.f182 [[0,1],[4]])
noncomputable def alu:aC:=bL (bK 34 [1] Tryz.f181 [[0,1],[0,1,9],[4],[0,1,15],[4],[0,1,5],[0,1,5,6],[0,1,5,6,24],[4],[0,1,5,6],[0,1,5]])
noncomputable def c145:aC:=bL (bK 66 [1,2] Tryz.f145 [[0,1,2,3],[0,1,2,3,13],[8],[0,1,2,3,15],[8],[0,1,2,3,20],[0,1,2,3],[0,1,2,3],[0,1,2,3,9],[0,1,2,3,9],[0,1,2,3,9,10],[0,1,2,3,9,10,36],[0,1,2,3,9,10,11],[0,1,2,3,9,10,11,41],[0,1,2,3,9,10,11],[0,1,2,3,9,10],[0,1,2,3,9,10],[9,10],[8]])
noncomputable def alv:aC:=bL (bK 8 [0,1] Tryz.f95 [[0,1],[4]])
noncomputable def alw:aC:=bL (bK 28 [0] Tryz.f94 [[0],[0,4],[4,9,10,11],[4,9,10,11,12],[4,6,9,10,11],[4,7,8,9,10,11],[4,7,9,10,11,21],[2,3],[4,9,10,11],[4,9,10,11],[2,3]])
def Ys:aC:=.seq (a6 [aM 29 5,aM 30 8,hB 31 97 29 30,aM 28 31,jc 32 28 0,jc 33 28 1,b5 10 32,b5 11 33] [0,5,8,10,11] (a6 [aM 34 11,oM 35 34,aM 36 35,gm 37 36 (.gM (.t 10)),gm 38 36 (.gM (.t 0)),gm 39 36 (.eL .neq 9 (.t 37) (.t 38)),ro 40 (.pick (.t 36) (.c (.bool true)) (.t 39))] [5,8,40] (.cond (.t 40) (a6 [ro 2 (.hO (.c (.str []))),pR 3,jo 4 false] [2,3,4] .ret) .skip))) (a6 [aM 41 5,aM 42 8,b5 2 41,b5 3 42,jo 4 true] [2,3,4] .ret)
def alx:aC:=a6 [aM 13 0,ro 14 (.call (.f 93) [(.t 13),(.c (.str [40]))]),aM 12 14,jc 15 12 0,jc 16 12 1,jc 17 12 2,b5 5 15,b5 6 16,b5 7 17] [0,5,6,7] (a6 [pR 8] [0,5,6,7,8] (.seq (a6 [aM 18 7] [0,5,6,8,18] (.cond (.t 18) (a6 [jo 9 false] [0,5,6] (a6 [aM 20 6,ro 21 (.call (.f 96) [(.t 20),(.c (.str [41]))]),ro 22 (.call (.f 95) [(.t 21),(.c (.str [44]))]),hi 23 94 22,aM 19 23,jc 24 19 0,jc 25 19 1,b5 8 24,b5 9 25] [0,5,8,9] (a6 [aM 26 9,oM 27 26] [0,5,8,27] (.cond (.t 27) (a6 [ro 2 (.hO (.c (.str []))),pR 3,jo 4 false] [2,3,4] .ret) .skip)))) .skip)) Ys))
def aly:aC:=a6 [ro 2 (.hO (.c (.str []))),pR 3,jo 4 false] [0] alx
noncomputable def alz:aC:=bL (bK 19 [0,1] Tryz.f149 [[0,1],[0,1,7,8],[0,1,7,8,9],[0,1,5,7,8],[0,1,5,7,8,16],[4],[0,1,7,8],[4]])
noncomputable def alA:aC:=bL (bK 9 [0,1] Tryz.f98 [[0,1],[4]])
noncomputable def alB:aC:=bL (bK 8 [0] Tryz.f100 [[1,2],[1,2],[2]])
noncomputable def alC:aC:=bL (bK 19 [0] Tryz.f99 [[0],[0,3],[3,6,7,8],[3,6,7,8,9],[3,5,6,7,8],[3,6,7,8],[3,6,7,8],[2]])
def Yt:aC:=a6 [iV 9 .lss 3 8 7] [3,6,7,8,9] (.seq (.cond (.t 9) .skip (.exit 0)) (.seq (.block 1 (a6 [hh 10 40 6 8,cg 11 65 10,oa 5 65,jQ 65 5 11] [3,5,6,7,8] (.ez [aM 12 3,cg 13 65 5,hi 14 151 13,tX 15 25 14,xF 16 25 25 12 15,b5 3 16] (some [3,6,7,8])))) (.ez [du 17 .add 3 8 1,aM 8 17] (some [3,6,7,8]))))
def alD:aC:=a6 [ro 2 (.hO (.c (.str [])))] [0] (a6 [pR 3] [0,3] (.seq (a6 [aM 6 0,j6 7 40 6,xE 8 0] [3,6,7,8] (.block 0 (.loop Yt))) (a6 [aM 18 3,ro 19 (.call (.f 152) [(.t 18),(.c (.str [32]))]),b5 2 19] [2] .ret)))
def alE:aC:=a6 [aM 75 0,ns 76 75,dN 77 123 76 3,cg 78 121 77,aM 79 15,ro 80 (.jH 121 (.t 78) (.t 79)),oM 81 80] [0,3,4,12,14,15,81] (.cond (.t 81) (a6 [aM 82 0,ns 83 82,dN 84 123 83 3,cg 85 121 84,aM 86 15,⟨none,.kU 121 (.t 85) (.t 86) (.c (.bool true)),none⟩] [0,3,4,12,14] (.ez [aM 87 0,aM 88 0,ns 89 88,dN 90 123 89 2,cg 91 31 90,aM 92 12,aM 93 3,aM 94 4,aM 95 14,ro 96 (.gz 71 [(0,(.t 92)),(1,(.t 93)),(2,(.t 94)),(3,(.t 95))]),tX 97 31 96,xF 98 31 31 91 97,ns 99 87,dN 100 123 99 2,jQ 31 100 98] (some [0]))) .skip)
def Q1:aC:=a6 [aM 62 12,ro 63 (.eL .add 9 (.t 62) (.c (.str [32]))),aM 64 3,hi 65 101 64,iV 66 .add 9 63 65,ro 67 (.eL .add 9 (.t 66) (.c (.str [32]))),aM 68 4,hi 69 101 68,iV 70 .add 9 67 69,ro 71 (.eL .add 9 (.t 70) (.c (.str [32]))),aM 72 14,hi 73 102 72,iV 74 .add 9 71 73,b5 15 74] [0,3,4,12,14,15] alE
def alF:aC:=a6 [aM 41 0,ns 42 41,dN 43 123 42 1,cg 44 40 43,hi 45 99 44,b5 14 45] [0,3,4,5,12,14] (a6 [aM 46 14,aM 47 3,aM 48 5,ro 49 (.kD 40 (.t 48) (.c (.int .i64 0))),cg 50 65 49,hi 51 100 50,hh 52 40 46 47,jQ 65 52 51] [0,3,4,5,12,14] (.seq (a6 [aM 53 4,du 54 .geq 2 53 0] [0,3,4,5,12,14,54] (.cond (.t 54) (.ez [aM 55 14,aM 56 4,aM 57 5,ro 58 (.kD 40 (.t 57) (.c (.int .i64 1))),cg 59 65 58,hi 60 100 59,hh 61 40 55 56,jQ 65 61 60] (some [0,3,4,12,14])) .skip)) Q1))
def Q2:aC:=a6 [aM 36 1,aM 37 2,hB 38 97 36 37,aM 35 38,jc 39 35 0,jc 40 35 1,b5 12 39,b5 13 40] [0,3,4,5,12] alF
def alG:aC:=.seq (a6 [aM 16 1,ro 17 (.eL .neq 9 (.t 16) (.c (.str [116,97,117]))),aM 18 17,ff 19 18 (.gM (.t 0)),ff 20 18 (.mm (.t 19)),ff 21 18 (.hU 123 (.t 20) 0),ff 22 18 (.hU 38 (.t 21) 3),ff 23 18 (.fS 25 (.t 22)),ff 24 18 (.gM (.t 1)),⟨some 25,.call (.f 98) [(.t 23),(.t 24)],some (18,true)⟩,ff 26 18 (.un .not (.t 25)),ro 27 (.pick (.t 18) (.t 26) (.c (.bool false)))] [0,1,2,3,4,5,27] (.cond (.t 27) .ret .skip)) (.seq (a6 [aM 28 0,ns 29 28,dN 30 123 29 0,dN 31 38 30 4,cg 32 25 31,aM 33 1,hB 34 98 32 33] [0,1,2,3,4,5,34] (.cond (.t 34) (.ez [ro 1 (.hO (.c (.str [116,97,117]))),pR 2] (some [0,1,2,3,4,5])) .skip)) Q2)
noncomputable def c154:aC:=bL (bK 19 [0,1,2] Tryz.f154 [[1,2,3],[4]])
noncomputable def alH:aC:=bL (bK 19 [0,1] Tryz.f153 [[0,1],[0,1,7,8],[0,1,7,8,9],[0,1,5,7,8],[0,1,5,7,8,16],[4],[0,1,7,8],[4]])
noncomputable def alI:aC:=bL (bK 21 [0,1,2] Tryz.f103 [[3,4,5],[3,8],[3,8,14],[6,7],[6,7]])
noncomputable def alJ:aC:=bL (bK 26 [0,1] Tryz.f104 [[0,1],[0,1,10],[4],[0,1,12,13],[0,1,12,13,14],[0,1,5,12,13],[0,1,12,13,24],[4],[0,1,12,13],[4]])
def alK:aC:=a6 [aM 49 0,ns 50 49,dN 51 123 50 0,cg 52 38 51,aM 53 12,aM 54 17,Xr 55 103 52 53 54,aM 48 55,jc 56 48 0,jc 57 48 1,b5 20 56,b5 21 57] [0,1,2,4,11,12,13,16,18,20,21,22,23,24,35,36,37] (a6 [aM 58 21,aM 59 58,ff 60 59 (.gM (.t 13)),ff 61 59 (.gM (.t 18)),⟨some 62,.call (.f 104) [(.t 60),(.t 61)],some (59,true)⟩,ro 63 (.pick (.t 59) (.t 62) (.c (.bool false)))] [0,1,2,4,11,12,13,16,20,22,23,24,35,36,37,63] (.cond (.t 63) (.ez [aM 64 0,aM 65 20,aM 66 13,aM 67 1,aM 68 2,dN 69 100 11 1,cg 70 65 69,dN 71 100 16 1,cg 72 65 71,⟨some 73,.shr (.dW 40 2 [(0,(.t 70)),(1,(.t 72))]),none⟩,ro 74 (.call (.f 67) [(.t 64),(.t 65),(.t 66),(.t 67),(.t 68),(.t 73)])] (some [0,1,2,4,11,12,13,22,23,24,35,36,37])) .skip))
def Yu:aC:=.ez [du 75 .add 3 37 1,aM 37 75] (some [0,1,2,4,11,12,13,22,23,24,35,36,37])
def Yv:aC:=a6 [iV 38 .lss 3 37 36] [0,1,2,4,11,12,13,22,23,24,35,36,37,38] (.seq (.cond (.t 38) .skip (.exit 2)) (.seq (.block 3 (a6 [hh 39 95 35 37,cg 40 100 39,oa 16 100,jQ 100 16 40] [0,1,2,4,11,12,13,16,22,23,24,35,36,37] (a6 [dN 42 100 16 0,cg 43 9 42,hi 44 66 43,aM 41 44,jc 45 41 0,jc 46 41 1,jc 47 41 2,b5 17 45,b5 18 46,b5 19 47] [0,1,2,4,11,12,13,16,17,18,22,23,24,35,36,37] alK))) Yu))
def Yw:aC:=a6 [iV 25 .lss 3 24 23] [0,1,2,4,22,23,24,25] (.seq (.cond (.t 25) .skip (.exit 0)) (.seq (.block 1 (a6 [hh 26 95 22 24,cg 27 100 26,oa 11 100,jQ 100 11 27] [0,1,2,4,11,22,23,24] (a6 [dN 29 100 11 0,cg 30 9 29,hi 31 66 30,aM 28 31,jc 32 28 0,jc 33 28 1,jc 34 28 2,b5 12 32,b5 13 33,b5 14 34] [0,1,2,4,11,12,13,22,23,24] (a6 [aM 35 4,j6 36 95 35,xE 37 0] [0,1,2,4,11,12,13,22,23,24,35,36,37] (.block 2 (.loop Yv)))))) (.ez [du 76 .add 3 24 1,aM 24 76] (some [0,1,2,4,22,23,24]))))
def alL:aC:=a6 [aM 22 3,j6 23 95 22,xE 24 0] [0,1,2,4,22,23,24] (.block 0 (.loop Yw))
def alM:aC:=.seq (.block 3 (a6 [hh 48 95 44 46,cg 49 100 48,oa 13 100,jQ 100 13 49] [1,2,6,7,8,13,24,25,26,44,45,46] (a6 [dN 51 100 13 0,cg 52 9 51,hi 53 66 52,aM 50 53,jc 54 50 0,jc 55 50 1,jc 56 50 2,b5 14 54,b5 15 55,b5 16 56] [1,2,6,7,8,13,14,15,24,25,26,44,45,46] (.ez [aM 57 6,aM 58 14,aM 59 15,aM 60 8,dN 61 100 13 1,cg 62 65 61,⟨some 63,.shr (.dW 40 1 [(0,(.t 62))]),none⟩,ro 64 (.call (.f 67) [(.t 57),(.t 58),(.t 59),(.t 60),(.c (.int .i64 (-1))),(.t 63)])] (some [1,2,6,7,8,24,25,26,44,45,46]))))) (.ez [du 65 .add 3 46 1,aM 46 65] (some [1,2,6,7,8,24,25,26,44,45,46]))
def Yx:aC:=a6 [iV 47 .lss 3 46 45] [1,2,6,7,8,24,25,26,44,45,46,47] (.seq (.cond (.t 47) .skip (.exit 2)) alM)
def alN:aC:=.seq (.block 1 (a6 [aM 28 26,hh 29 40 24 26,cg 30 65 29,oa 9 65,b5 8 28,jQ 65 9 30] [1,2,6,7,8,9,24,25,26] (a6 [dN 32 38 2 0,cg 33 34 32,cg 34 65 9,hB 35 65 33 34,aM 31 35,jc 36 31 0,jc 37 31 1,b5 10 36,b5 11 37] [1,2,6,7,8,10,11,24,25,26] (.seq (a6 [aM 38 11,oM 39 38] [1,2,6,7,8,10,24,25,26,39] (.cond (.t 39) (a6 [pR 4,jo 5 false] [4,5] .ret) .skip)) (a6 [aM 40 7,aM 41 10,tX 42 94 41,xF 43 94 94 40 42,b5 7 43] [1,2,6,7,8,10,24,25,26] (a6 [aM 44 10,j6 45 95 44,xE 46 0] [1,2,6,7,8,24,25,26,44,45,46] (.block 2 (.loop Yx)))))))) (.ez [du 66 .add 3 26 1,aM 26 66] (some [1,2,6,7,24,25,26]))
def Yy:aC:=a6 [iV 27 .lss 3 26 25] [1,2,6,7,24,25,26,27] (.seq (.cond (.t 27) .skip (.exit 0)) alN)
def Yz:aC:=.seq (a6 [aM 74 18,aM 75 1,j6 76 40 75,iV 77 .lss 3 74 76] [1,6,7,17,18,68,69,77] (.cond (.t 77) .skip (.exit 6))) (.seq (.block 7 (.jM [aM 80 6,aM 81 17,aM 82 18,aM 83 7,aM 84 17,hh 85 94 83 84,cg 86 95 85,aM 87 7,aM 88 18,hh 89 94 87 88,cg 90 95 89,ro 91 (.call (.f 68) [(.t 80),(.t 81),(.t 82),(.t 86),(.t 90)])] [[],[],[],[],[],[3,4],[5],[],[],[7,8],[9],[0,1,2,6,10]] (some [1,6,7,17,18,68,69]))) (.ez [aM 78 18,du 79 .add 3 78 1,b5 18 79] (some [1,6,7,17,18,68,69])))
def YA:aC:=a6 [iV 70 .lss 3 69 68] [1,6,7,68,69,70] (.seq (.cond (.t 70) .skip (.exit 4)) (.seq (.block 5 (a6 [aM 71 69,b5 17 71] [1,6,7,17,68,69] (a6 [aM 72 17,du 73 .add 3 72 1,b5 18 73] [1,6,7,17,18,68,69] (.block 6 (.loop Yz))))) (.ez [du 92 .add 3 69 1,aM 69 92] (some [1,6,7,68,69]))))
def alO:aC:=a6 [cg 19 38 2,aM 20 1,ro 21 (.sj),ro 22 (.gz 123 [(0,(.t 19)),(1,(.t 20)),(3,(.t 21))]),ro 23 (.ij 123 (.t 22)),b5 6 23] [1,2,6] (a6 [pR 7] [1,2,6,7] (.seq (a6 [aM 24 1,j6 25 40 24,xE 26 0] [1,2,6,7,24,25,26] (.block 0 (.loop Yy))) (.seq (a6 [aM 67 1,j6 68 40 67,xE 69 0] [1,6,7,68,69] (.block 4 (.loop YA))) (rG [aM 93 6,ns 94 93,dN 95 123 94 2,cg 96 31 95,aM 97 6,ns 98 97,dN 99 123 98 2,cg 100 31 99,j6 101 31 100,du 102 .leq 3 101 200,⟨some 4,.pK (.t 96),none⟩,b5 5 102] [[],[0],[1],[2],[],[4],[5],[6],[7],[8],[3,0,1,2,3],[9,10,0,1,2,3,4,5,6,7,8,9,10]] [4,5,6] .ret))))
def alP:aC:=a6 [ro 2 (.ij 38 (.t 0)),pR 4,jo 5 false] [1,2] alO
noncomputable def c9:aC:=bL (bK 21 [0,1] Tryz.f9 [[1,2],[1,2,11],[4,5],[6,7],[6,19],[4,5],[4,5]])
noncomputable def c72:aC:=bL (bK 26 [0,1] Tryz.f72 [[0,1],[0,1,10],[4],[0,1,5],[0,1,5,14],[0,1,5,25],[4],[0,1,5],[4]])
noncomputable def alQ:aC:=bL (bK 21 [0,1] Tryz.f36 [[2,3],[2,3,9],[4],[2,3,14],[4],[20],[4],[4]])
noncomputable def c12:aC:=bL (bK 27 [0,1] Tryz.f12 [[0,1],[0,1,10],[4],[0,1,5],[0,1,5,14],[0,1,5,26],[4],[0,1,5],[4]])
noncomputable def c31:aC:=bL (bK 26 [0,1] Tryz.f31 [[2,3],[2,3,9],[4],[2,3,14],[4],[2,3,19],[4],[25],[4],[4]])
noncomputable def zK:aC:=bL (bK 27 [0,1] Tryz.f10 [[0,1],[0,1,10],[4],[0,1,5],[0,1,5,14],[0,1,5,26],[4],[0,1,5],[4]])
noncomputable def alR:aC:=bL (bK 15 [0,1] Tryz.f253 [[2,3],[2,3,9],[4],[14],[4],[4]])
noncomputable def alS:aC:=bL (bK 27 [0,1] Tryz.f224 [[0,1],[0,1,10],[4],[0,1,5],[0,1,5,14],[0,1,5,26],[4],[0,1,5],[4]])
noncomputable def alT:aC:=bL (bK 27 [0,1] Tryz.f189 [[0,1],[0,1,10],[4],[0,1,5],[0,1,5,14],[0,1,5,26],[4],[0,1,5],[4]])
noncomputable def alU:aC:=bL (bK 26 [0,1] Tryz.f155 [[2,3],[2,3,9],[4],[2,3,14],[4],[2,3,19],[4],[25],[4],[4]])
noncomputable def c105:aC:=bL (bK 27 [0,1] Tryz.f105 [[0,1],[0,1,10],[4],[0,1,5],[0,1,5,14],[0,1,5,26],[4],[0,1,5],[4]])
noncomputable def alV:aC:=bL (bK 21 [0,1] Tryz.f69 [[2,3],[2,3,9],[4],[2,3,14],[4],[20],[4],[4]])
noncomputable def alW:aC:=bL (bK 27 [0,1] Tryz.f32 [[0,1],[0,1,10],[4],[0,1,5],[0,1,5,14],[0,1,5,26],[4],[0,1,5],[4]])
noncomputable def c70:aC:=bL (bK 16 [0,1] Tryz.f70 [[2,3],[2,3,9],[4],[15],[4],[4]])
noncomputable def alX:aC:=bL (bK 27 [0,1] Tryz.f33 [[0,1],[0,1,10],[4],[0,1,5],[0,1,5,14],[0,1,5,26],[4],[0,1,5],[4]])
noncomputable def alY:aC:=bL (bK 20 [0,1] Tryz.f71 [[2,3],[2,3,9],[4],[2,3,14],[4],[19],[4],[4]])
noncomputable def GS:aC:=bL (bK 27 [0,1] Tryz.f34 [[0,1],[0,1,10],[4],[0,1,5],[0,1,5,14],[0,1,5,26],[4],[0,1,5],[4]])
noncomputable def alZ:aC:=bL (bK 26 [0,1] Tryz.f35 [[0,1],[0,1,10],[4],[0,1,5],[0,1,5,14],[0,1,5,25],[4],[0,1,5],[4]])
noncomputable def al0:aC:=bL (bK 35 [0,1] Tryz.f11 [[2,3],[2,3,10],[4],[2,3,16],[4],[2,3,22],[4],[2,3,28],[4],[34],[4],[4]])
def YB:aC:=.seq (a6 [aM 6 0,du 7 .gtr 3 6 0] [0,3,7] (.cond (.t 7) .skip (.exit 0))) (.block 1 (a6 [aM 8 0,du 9 .rem 3 8 10,ro 10 (.eL .add 3 (.c (.int .i64 48)) (.t 9)),I3 11 3 5 10,tX 12 134 11,I3 13 134 9 12,aM 14 3,iV 15 .add 9 13 14,b5 3 15] [0,3] (.ez [aM 16 0,du 17 .quo 3 16 10,b5 0 17] (some [0,3]))))
def al1:aC:=a6 [ro 2 (.hO (.c (.str [])))] [0] (.seq (a6 [aM 4 0,du 5 .leq 3 4 0] [0,5] (.cond (.t 5) (a6 [ro 2 (.hO (.c (.str [109,48])))] [2] .ret) .skip)) (a6 [ro 3 (.hO (.c (.str [])))] [0,3] (.seq (.block 0 (.loop YB)) (a6 [aM 18 3,ro 19 (.eL .add 9 (.c (.str [109])) (.t 18)),b5 2 19] [2] .ret))))
noncomputable def c156:aC:=bL (bK 27 [0] Tryz.f156 [[0,1],[0,1,5],[0,1,5,9],[0,1,5],[0,1,5],[0,1,5],[0,1,5],[0,1,5],[0,4]])
noncomputable def al2:aC:=bL (bK 19 [0] Tryz.f106 [[0,1],[0,1,5],[0,1,5,9],[0,1,5],[0,1,5],[0,4]])
noncomputable def al3:aC:=bL (bK 42 [0] Tryz.f73 [[0,1],[0,1,5],[0,1,5,9],[0,1,5],[0,1,5],[0,1,5],[0,1,5],[0,1,5],[0,1,5],[0,1,5],[0,1,5],[0,4]])
noncomputable def c37:aC:=bL (bK 35 [0] Tryz.f37 [[0,1],[0,1,5],[0,1,5,9],[0,1,5],[0,1,5],[0,1,5],[0,1,5],[0,1,5],[0,1,5],[0,4]])
noncomputable def al4:aC:=bL (bK 19 [0] Tryz.f41 [[0,1],[0,1,5],[0,1,5,9],[0,1,5],[0,1,5],[0,1,5],[0,4]])
noncomputable def al5:aC:=bL (bK 27 [0] Tryz.f38 [[0,1],[0,1,5],[0,1,5,9],[0,1,5],[0,1,5],[0,1,5],[0,1,5],[0,4]])
noncomputable def al6:aC:=bL (bK 37 [0] Tryz.f39 [[0,1],[0,1,5],[0,1,5,9],[0,1,5],[0,1,5],[0,1,5],[0,1,5],[0,1,5],[0,1,5],[0,1,5],[0,4]])
noncomputable def c40:aC:=bL (bK 20 [0] Tryz.f40 [[0,1],[0,1,5],[0,1,5,9],[0,1,5],[0,1,5],[0,1,5],[0,4]])
def al7:aC:=a6 [dN 5 38 2 0,cg 6 34 5,aM 7 1,⟨some 8,.mM (.f 37) [(.t 6),(.t 7)] [2],none⟩,b5 1 8] [0,1,2] (a6 [dN 9 38 2 1,cg 10 35 9,aM 11 1,⟨some 12,.mM (.f 38) [(.t 10),(.t 11)] [2],none⟩,b5 1 12] [0,1,2] (a6 [dN 13 38 2 2,cg 14 36 13,aM 15 1,⟨some 16,.mM (.f 39) [(.t 14),(.t 15)] [2],none⟩,b5 1 16] [0,1,2] (a6 [dN 17 38 2 3,cg 18 25 17,aM 19 1,⟨some 20,.mM (.f 40) [(.t 18),(.t 19)] [2],none⟩,b5 1 20] [0,1,2] (a6 [dN 21 38 2 4,cg 22 25 21,aM 23 1,hB 24 40 22 23,b5 1 24] [0,1] (a6 [aM 25 1,b5 4 25] [0,4] .ret)))))
def al8:aC:=a6 [⟨some 2,.l0 38 (.t 0),none⟩,ia 4 0] [0,1,2] al7
noncomputable def gJ:aC:=bL (bK 34 [0] Tryz.f14 [[0,1],[0,1,5],[0,1,5,9],[0,1,5],[0,1,5],[0,1,5],[0,1,5],[0,1,5],[0,1,5],[0,4]])
noncomputable def al9:aC:=bL (bK 42 [0] Tryz.f15 [[0,1],[0,1,5],[0,1,5,9],[0,1,5],[0,1,5],[0,1,5],[0,1,5],[0,1,5],[0,1,5],[0,1,5],[0,1,5],[0,4]])
noncomputable def al_:aC:=bL (bK 21 [0] Tryz.f74 [[0,1],[0,1,5],[0,1,5,9],[0,1,5,17],[4],[0,1,5],[0,1,5],[4]])
noncomputable def ama:aC:=bL (bK 40 [0] Tryz.f43 [[0,1],[0,1,5],[0,1,5,9],[0,1,5,18],[4],[0,1,5],[0,1,5,27],[4],[0,1,5],[0,1,5],[0,1,5,38],[4],[0,1,5],[4]])
noncomputable def kz:aC:=bL (bK 50 [0] Tryz.f16 [[0,1],[0,1,5],[0,1,5,9],[0,1,5,19],[4],[0,1,5],[0,1,5,28],[4],[0,1,5],[0,1,5,37],[4],[0,1,5],[0,1,5],[0,1,5,48],[4],[0,1,5],[4]])
def amb:aC:=.seq (a6 [aM 102 15,aM 103 6,hB 104 10 102 103,oM 105 104,aM 106 105,gm 107 106 (.gM (.t 16)),gm 108 106 (.gM (.t 7)),gm 109 106 (.eL .neq 2 (.t 107) (.t 108)),ro 110 (.pick (.t 106) (.c (.bool true)) (.t 109))] [10,13,110] (.cond (.t 110) (a6 [jo 4 false] [4] .ret) .skip)) (a6 [ia 14 1] [10,13,14] (a6 [aM 111 10,aM 112 14,hB 113 16 111 112,b5 14 113] [13,14] (.seq (a6 [aM 114 14,du 115 .lss 3 114 0] [13,14,115] (.cond (.t 115) (a6 [jo 4 false] [4] .ret) .skip)) (.seq (a6 [aM 116 14,aM 117 13,iV 118 .neq 3 116 117] [118] (.cond (.t 118) (a6 [jo 4 false] [4] .ret) .skip)) (a6 [jo 4 true] [4] .ret)))))
def amc:aC:=a6 [aM 86 10,aM 87 14,hB 88 16 86 87,b5 14 88] [1,2,6,7,10,13,14] (.seq (a6 [aM 89 14,du 90 .lss 3 89 0] [1,2,6,7,10,13,14,90] (.cond (.t 90) (a6 [jo 4 false] [4] .ret) .skip)) (.seq (a6 [aM 91 14,aM 92 13,iV 93 .neq 3 91 92] [1,2,6,7,10,13,93] (.cond (.t 93) (a6 [jo 4 false] [4] .ret) .skip)) (a6 [cg 95 27 2,hi 96 7 95,aM 97 1,hi 98 8 97,hB 99 9 96 98,aM 94 99,jc 100 94 0,jc 101 94 1,b5 15 100,b5 16 101] [6,7,10,13,15,16] amb)))
def amd:aC:=.seq (a6 [aM 70 12,du 71 .lss 3 70 0,aM 72 71,gm 73 72 (.gM (.t 10)),gm 74 72 (.gM (.t 6)),⟨some 75,.call (.f 10) [(.t 73),(.t 74)],some (72,false)⟩,gm 76 72 (.un .not (.t 75)),ro 77 (.pick (.t 72) (.c (.bool true)) (.t 76)),aM 78 77,gm 79 78 (.gM (.t 11)),gm 80 78 (.gM (.t 7)),gm 81 78 (.eL .neq 2 (.t 79) (.t 80)),ro 82 (.pick (.t 78) (.c (.bool true)) (.t 81))] [1,2,6,7,10,82] (.cond (.t 82) (a6 [jo 4 false] [4] .ret) .skip)) (a6 [ia 13 1] [1,2,6,7,10,13] (a6 [aM 83 10,aM 84 13,hB 85 15 83 84,b5 13 85] [1,2,6,7,10,13] (a6 [ia 14 1] [1,2,6,7,10,13,14] amc)))
def ame:aC:=.seq (rG [cg 54 38 8,cg 55 27 2,hi 56 7 55,hB 57 11 54 56,oM 58 57] [[],[],[1],[0,2,2],[3]] [1,2,6,7,8,9,10,11,58] (.cond (.t 58) (a6 [jo 4 false] [4] .ret) .skip)) (.seq (a6 [aM 59 9,aM 60 1,hi 61 8 60,hB 62 12 59 61,oM 63 62] [1,2,6,7,8,9,10,11,63] (.cond (.t 63) (a6 [jo 4 false] [4] .ret) .skip)) (a6 [ia 12 1] [1,2,6,7,8,9,10,11,12] (a6 [cg 64 38 8,aM 65 12,hB 66 13 64 65,b5 12 66] [1,2,6,7,9,10,11,12] (a6 [aM 67 9,aM 68 12,hB 69 14 67 68,b5 12 69] [1,2,6,7,10,11,12] amd))))
def amf:aC:=a6 [cg 35 27 2,hi 36 7 35,oa 8 38,jQ 38 8 36] [1,2,6,7,8] (a6 [aM 37 1,hi 38 8 37,b5 9 38] [1,2,6,7,8,9] (a6 [cg 40 38 8,aM 41 9,hB 42 9 40 41,aM 39 42,jc 43 39 0,jc 44 39 1,b5 10 43,b5 11 44] [1,2,6,7,8,9,10,11] (.seq (a6 [aM 45 10,aM 46 6,hB 47 10 45 46,oM 48 47,aM 49 48,gm 50 49 (.gM (.t 11)),gm 51 49 (.gM (.t 7)),gm 52 49 (.eL .neq 2 (.t 50) (.t 51)),ro 53 (.pick (.t 49) (.c (.bool true)) (.t 52))] [1,2,6,7,8,9,10,11,53] (.cond (.t 53) (a6 [jo 4 false] [4] .ret) .skip)) ame)))
def amg:aC:=a6 [cg 17 27 2,aM 18 5,hB 19 4 17 18,b5 5 19] [1,2,5] (.seq (a6 [aM 20 5,du 21 .lss 3 20 0] [1,2,5,21] (.cond (.t 21) (a6 [jo 4 true] [4] .ret) .skip)) (a6 [aM 22 1,aM 23 5,hB 24 5 22 23,b5 5 24] [1,2,5] (.seq (a6 [aM 25 5,du 26 .lss 3 25 0] [1,2,26] (.cond (.t 26) (a6 [jo 4 true] [4] .ret) .skip)) (a6 [cg 28 27 2,hi 29 7 28,aM 30 1,hi 31 8 30,hB 32 6 29 31,aM 27 32,jc 33 27 0,jc 34 27 1,b5 6 33,b5 7 34] [1,2,6,7] amf))))
def c3:aC:=a6 [ro 2 (.ij 27 (.t 0)),jo 4 false] [1,2] (a6 [ia 5 1048576] [1,2,5] amg)
def GU:=PLift.up (And.intro @Bool.not_true @Bool.not_false)
def axM:=PLift.up (And.intro @length_append.{0} (And.intro @length_cons.{0} (And.intro @length_nil.{0} (And.intro @length_map.{0,0} (And.intro @length_replicate.{0} (And.intro @Nat.zero_add @Nat.add_zero))))))
end Go.Proofs.YtmaepbgkcmjcjafGreatDoor
