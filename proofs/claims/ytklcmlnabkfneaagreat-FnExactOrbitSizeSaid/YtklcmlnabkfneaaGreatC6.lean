/- Part of a proof that a law returns true for every input. No condition. -/
import Derived.Test.YtklcmlnabkfneaaGreatTb
import Derived.Test.YtklcmlnabkfneaaGreatFwL
import Derived.Test.YtklcmlnabkfneaaGreatP6
namespace Go.Proofs.YtklcmlnabkfneaaGreat
open List Option Go.IntKind Nat Or
open Go Go.cU Go.ll
set_option linter.unusedSimpArgs false
def j0 (x:hj):I:=.agg [.int .i64 x.Kind,.int .i64 x.Value]
theorem Wi (x:hj):(j0 x).share=j0 x:=by
 simp only[j0,dJ]
theorem ahv (x:hj):(j0 x).cu=true:=by
 simp only[j0,I.cu,I.gU,Bool.and_self]
def iT (x:aiJ):I:=.slice (x.map j0)
theorem ME (x:aiJ):(iT x).share=iT x:=by
 simp only[iT,dJ, @cQ _ j0 j0 (λ_=>Wi _)]
def h4 (x:iN):I:=.agg [.int .i64 x.Kind,.int .i64 x.Number,.str x.Name,.slice (x.da.map iT)]
theorem MF (x:iN):(h4 x).share=h4 x:=by
 simp only[h4,dJ, @cQ _ iT iT (λ_=>ME _)]
def hQ (x:iO):I:=.agg [.str x.Name,.int .i64 x.dr,.slice (x.Body.map h4)]
theorem MG (x:iO):(hQ x).share=hQ x:=by
 simp only[hQ,dJ, @cQ _ h4 h4 (λ_=>MF _)]
def bf (x:Int):I:=.int .i64 x
theorem mJ (x:Int):(bf x).share=bf x:=by
 simp only[bf,dJ]
theorem Gz (x:Int):(bf x).cu=true:=by
 simp only[bf,I.cu,I.gU,Bool.and_self]
def hR (x:iP):I:=.agg [.int .i64 x.b7,.slice (x.b4.map bf)]
theorem MH (x:iP):(hR x).share=hR x:=by
 simp only[hR,dJ, @cQ _ bf bf (λ_=>mJ _)]
def hv (x:ix):I:=.agg [.str x.Left,.str x.b8,.str x.Result]
theorem MI (x:ix):(hv x).share=hv x:=by
 simp only[hv,dJ]
theorem ahw (x:ix):(hv x).cu=true:=by
 simp only[hv,I.cu,I.gU,Bool.and_self]
def cJ (x:aix):I:=.str x
theorem lR (x:aix):(cJ x).share=cJ x:=by
 simp only[cJ,dJ]
theorem MJ (x:aix):(cJ x).cu=true:=by
 simp only[cJ,I.cu,I.gU,Bool.and_self]
def ot (x:ln):I:=.agg [.slice (x.dQ.map hQ),.slice (x.cv.map hR),.slice (x.hk.map hv),.slice (x.gV.map cJ),.slice (x.gW.map cJ)]
theorem ahx (x:ln):(ot x).share=ot x:=by
 simp only[ot,dJ, @cQ _ hQ hQ (λ_=>MG _), @cQ _ hR hR (λ_=>MH _), @cQ _ hv hv (λ_=>MI _), @cQ _ cJ cJ (λ_=>lR _)]
def iU (x:iQ):I:=.agg [.int .i64 x.b7,.int .i64 x.Part,.slice (x.b4.map bf)]
theorem ahy (x:iQ):(iU x).share=iU x:=by
 simp only[iU,dJ, @cQ _ bf bf (λ_=>mJ _)]
def GA (x:aiL):I:=.slice (x.map hQ)
theorem ahz (x:aiL):(GA x).share=GA x:=by
 simp only[GA,dJ, @cQ _ hQ hQ (λ_=>MG _)]
def GB (x:aiM):I:=.slice (x.map hR)
theorem ahA (x:aiM):(GB x).share=GB x:=by
 simp only[GB,dJ, @cQ _ hR hR (λ_=>MH _)]
def GC (x:aiN):I:=.slice (x.map hv)
theorem ahB (x:aiN):(GC x).share=GC x:=by
 simp only[GC,dJ, @cQ _ hv hv (λ_=>MI _)]
def yo (x:aiw):I:=.slice (x.map cJ)
theorem ahC (x:aiw):(yo x).share=yo x:=by
 simp only[yo,dJ, @cQ _ cJ cJ (λ_=>lR _)]
def GD (x:aiK):I:=.slice (x.map h4)
theorem ahD (x:aiK):(GD x).share=GD x:=by
 simp only[GD,dJ, @cQ _ h4 h4 (λ_=>MF _)]
def GF (x:aiG):I:=.slice (x.map iT)
theorem ahE (x:aiG):(GF x).share=GF x:=by
 simp only[GF,dJ, @cQ _ iT iT (λ_=>ME _)]
def mK (x:aiz):I:=.slice (x.map bf)
theorem ahF (x:aiz):(mK x).share=mK x:=by
 simp only[mK,dJ, @cQ _ bf bf (λ_=>mJ _)]
def fV (x:c8):I:=.agg [.int .i64 x.Kind,.int .i64 x.Value]
theorem MK (x:c8):(fV x).share=fV x:=by
 simp only[fV,dJ]
theorem Wj (x:c8):(fV x).cu=true:=by
 simp only[fV,I.cu,I.gU,Bool.and_self]
def jc (x:aiP):I:=.slice (x.map fV)
theorem GG (x:aiP):(jc x).share=jc x:=by
 simp only[jc,dJ, @cQ _ fV fV (λ_=>MK _)]
def db (x:ck):I:=.agg [.int .i64 x.Kind,.int .i64 x.Number,.str x.Name,.slice (x.da.map jc)]
theorem BF (x:ck):(db x).share=db x:=by
 simp only[db,dJ, @cQ _ jc jc (λ_=>GG _)]
def bP (x:bI):I:=.agg [.str x.Name,.int .i64 x.dr,.slice (x.Body.map db)]
theorem GH (x:bI):(bP x).share=bP x:=by
 simp only[bP,dJ, @cQ _ db db (λ_=>BF _)]
def kD (x:aiP):I:=.al 2 (x.map fV)
theorem ML (x:aiP):(kD x).share=jc x:=by
 simp only[kD,jc,dJ, @cQ _ fV fV (λ_=>MK _)]
theorem MM (x:aiP):(kD x).cu=true:=by
 simp only[kD,I.cu,I.gU,Bool.and_self, @jY _ fV (λ_=>Wj _)]
def j1 (x:ck):I:=.agg [.int .i64 x.Kind,.int .i64 x.Number,.str x.Name,.al 1 (x.da.map kD)]
theorem MN (x:ck):(j1 x).share=db x:=by
 simp only[j1,db,dJ, @cQ _ kD jc (λ_=>ML _)]
theorem MO (x:ck):(j1 x).cu=true:=by
 simp only[j1,I.cu,I.gU,Bool.and_self, @jY _ kD (λ_=>MM _)]
def jd (x:bI):I:=.agg [.str x.Name,.int .i64 x.dr,.al 4 (x.Body.map j1)]
theorem yp (x:bI):(jd x).share=bP x:=by
 simp only[jd,bP,dJ, @cQ _ j1 db (λ_=>MN _)]
theorem MP (x:bI):(jd x).cu=true:=by
 simp only[jd,I.cu,I.gU,Bool.and_self, @jY _ j1 (λ_=>MO _)]
def BG (x:aiQ):I:=.al 4 (x.map j1)
def yq (x:aiQ):I:=.slice (x.map db)
theorem ahG (x:aiQ):(yq x).share=yq x:=by
 simp only[yq,dJ, @cQ _ db db (λ_=>BF _)]
theorem ahH (x:aiQ):(BG x).share=yq x:=by
 simp only[BG,yq,dJ, @cQ _ j1 db (λ_=>MN _)]
theorem ahI (x:aiQ):(BG x).cu=true:=by
 simp only[BG,I.cu,I.gU,Bool.and_self, @jY _ j1 (λ_=>MO _)]
def BH (x:aiH):I:=.al 1 (x.map kD)
def yr (x:aiH):I:=.slice (x.map jc)
theorem ahJ (x:aiH):(yr x).share=yr x:=by
 simp only[yr,dJ, @cQ _ jc jc (λ_=>GG _)]
theorem ahK (x:aiH):(BH x).share=yr x:=by
 simp only[BH,yr,dJ, @cQ _ kD jc (λ_=>ML _)]
theorem ahL (x:aiH):(BH x).cu=true:=by
 simp only[BH,I.cu,I.gU,Bool.and_self, @jY _ kD (λ_=>MM _)]
def hx (x:fo):I:=.agg [.int .i64 x.b7,.slice (x.b4.map bf)]
theorem GI (x:fo):(hx x).share=hx x:=by
 simp only[hx,dJ, @cQ _ bf bf (λ_=>mJ _)]
def je (x:fo):I:=.agg [.int .i64 x.b7,.al 1 (x.b4.map bf)]
theorem yt (x:fo):(je x).share=hx x:=by
 simp only[je,hx,dJ, @cQ _ bf bf (λ_=>mJ _)]
theorem MQ (x:fo):(je x).cu=true:=by
 simp only[je,I.cu,I.gU,Bool.and_self, @jY _ bf (λ_=>Gz _)]
def jI (x:aiz):I:=.al 1 (x.map bf)
theorem Wk (x:aiz):(jI x).share=mK x:=by
 simp only[jI,mK,dJ, @cQ _ bf bf (λ_=>mJ _)]
theorem ahM (x:aiz):(jI x).cu=true:=by
 simp only[jI,I.cu,I.gU,Bool.and_self, @jY _ bf (λ_=>Gz _)]
def cE (x:dy):I:=.agg [.str x.Left,.str x.b8,.str x.Result]
theorem rv (x:dy):(cE x).share=cE x:=by
 simp only[cE,dJ]
theorem MR (x:dy):(cE x).cu=true:=by
 simp only[cE,I.cu,I.gU,Bool.and_self]
def qk (x:eC):I:=.agg [.al 3 (x.dQ.map jd),.al 2 (x.cv.map je),.al 3 (x.hk.map cE),.al 1 (x.gV.map cJ),.al 1 (x.gW.map cJ)]
def hS (x:eC):I:=.agg [.slice (x.dQ.map bP),.slice (x.cv.map hx),.slice (x.hk.map cE),.slice (x.gV.map cJ),.slice (x.gW.map cJ)]
theorem ahN (x:eC):(hS x).share=hS x:=by
 simp only[hS,dJ, @cQ _ bP bP (λ_=>GH _), @cQ _ hx hx (λ_=>GI _), @cQ _ cE cE (λ_=>rv _), @cQ _ cJ cJ (λ_=>lR _)]
theorem ahO (x:eC):(qk x).share=hS x:=by
 simp only[qk,hS,dJ, @cQ _ jd bP (λ_=>yp _), @cQ _ je hx (λ_=>yt _), @cQ _ cE cE (λ_=>rv _), @cQ _ cJ cJ (λ_=>lR _)]
theorem ahP (x:eC):(qk x).cu=true:=by
 simp only[qk,I.cu,I.gU,Bool.and_self, @jY _ jd (λ_=>MP _), @jY _ je (λ_=>MQ _), @jY _ cE (λ_=>MR _), @jY _ cJ (λ_=>MJ _)]
def BI (x:aiR):I:=.al 3 (x.map jd)
def yu (x:aiR):I:=.slice (x.map bP)
theorem ahQ (x:aiR):(yu x).share=yu x:=by
 simp only[yu,dJ, @cQ _ bP bP (λ_=>GH _)]
theorem ahR (x:aiR):(BI x).share=yu x:=by
 simp only[BI,yu,dJ, @cQ _ jd bP (λ_=>yp _)]
theorem ahS (x:aiR):(BI x).cu=true:=by
 simp only[BI,I.cu,I.gU,Bool.and_self, @jY _ jd (λ_=>MP _)]
def BJ (x:aiS):I:=.al 2 (x.map je)
def yv (x:aiS):I:=.slice (x.map hx)
theorem ahT (x:aiS):(yv x).share=yv x:=by
 simp only[yv,dJ, @cQ _ hx hx (λ_=>GI _)]
theorem ahU (x:aiS):(BJ x).share=yv x:=by
 simp only[BJ,yv,dJ, @cQ _ je hx (λ_=>yt _)]
theorem ahV (x:aiS):(BJ x).cu=true:=by
 simp only[BJ,I.cu,I.gU,Bool.and_self, @jY _ je (λ_=>MQ _)]
def BK (x:aiT):I:=.al 3 (x.map cE)
def yw (x:aiT):I:=.slice (x.map cE)
theorem ahW (x:aiT):(yw x).share=yw x:=by
 simp only[yw,dJ, @cQ _ cE cE (λ_=>rv _)]
theorem ahX (x:aiT):(BK x).share=yw x:=by
 simp only[BK,yw,dJ, @cQ _ cE cE (λ_=>rv _)]
theorem ahY (x:aiT):(BK x).cu=true:=by
 simp only[BK,I.cu,I.gU,Bool.and_self, @jY _ cE (λ_=>MR _)]
def BL (x:aiw):I:=.al 1 (x.map cJ)
theorem ahZ (x:aiw):(BL x).share=yo x:=by
 simp only[BL,yo,dJ, @cQ _ cJ cJ (λ_=>lR _)]
theorem ah0 (x:aiw):(BL x).cu=true:=by
 simp only[BL,I.cu,I.gU,Bool.and_self, @jY _ cJ (λ_=>MJ _)]
def bN (x:aU):I:=.agg [.int .i64 x.b7,.int .i64 x.Part,.slice (x.b4.map bf)]
theorem Wl (x:aU):(bN x).share=bN x:=by
 simp only[bN,dJ, @cQ _ bf bf (λ_=>mJ _)]
def dn (x:aU):I:=.agg [.int .i64 x.b7,.int .i64 x.Part,.al 1 (x.b4.map bf)]
theorem u1 (x:aU):(dn x).share=bN x:=by
 simp only[dn,bN,dJ, @cQ _ bf bf (λ_=>mJ _)]
theorem GJ (x:aU):(dn x).cu=true:=by
 simp only[dn,I.cu,I.gU,Bool.and_self, @jY _ bf (λ_=>Gz _)]
def dF (x:aiU):I:=.slice (x.map bN)
theorem ah1 (x:aiU):(dF x).share=dF x:=by
 simp only[dF,dJ, @cQ _ bN bN (λ_=>Wl _)]
def gg (x:aiU):I:=.al 3 (x.map dn)
theorem MS (x:aiU):(gg x).share=dF x:=by
 simp only[gg,dF,dJ, @cQ _ dn bN (λ_=>u1 _)]
theorem ah2 (x:aiU):(gg x).cu=true:=by
 simp only[gg,I.cu,I.gU,Bool.and_self, @jY _ dn (λ_=>GJ _)]
def BM (x:Bool×aiU):I:=cond x.1 (.hole) (gg x.2)
theorem ah3:(BM∘λx=>(false,x))=gg:=rfl
theorem ah4 (x:aiU):BM (true,x)= .hole:=rfl
theorem ah5 {x:Bool×aiU} (h:Pj (!x.1)=some ()):BM x=gg x.2:=by
 obtain⟨b,x⟩:=x;cases b
 .rfl
 .cases h
theorem ah6 (x:Bool×aiU):(BM x).wd=1:=by
 obtain⟨b,x⟩:=x;cases b<;>rfl
def ea (x:cD):I:=.agg [.int .i64 x.scope,.bool x.behind]
theorem MT (x:cD):(ea x).share=ea x:=by
 simp only[ea,dJ]
theorem Wm (x:cD):(ea x).cu=true:=by
 simp only[ea,I.cu,I.gU,Bool.and_self]
def yx (x:Bool):I:=.bool x
theorem ah7 (x:Bool):(yx x).share=yx x:=by
 simp only[yx,dJ]
theorem ah8 (x:Bool):(yx x).cu=true:=by
 simp only[yx,I.cu,I.gU,Bool.and_self]
noncomputable def Wn:aI:=bE (bD 12 [0] Tryz.f166 [[0,1],[1],[1,10],[4],[4]])
noncomputable def Wo:aI:=bE (bD 27 [0] Tryz.f167 [[0,1],[0,1],[0,1,11],[4],[0,1,5],[0,1,5,15],[0,1,5],[0,1,5,25],[4],[0,1,5],[4]])
noncomputable def Wp:aI:=bE (bD 19 [0] Tryz.f264 [[1,2],[1,2],[1,2,11],[4],[1],[1,17],[4],[4]])
noncomputable def Wq:aI:=bE (bD 27 [0] Tryz.f210 [[0,1],[0,1],[0,1,11],[4],[0,1,5],[0,1,5,15],[0,1,5],[0,1,5,25],[4],[0,1,5],[4]])
noncomputable def Wr:aI:=bE (bD 19 [0] Tryz.f142 [[1,2],[1,2],[1,2,11],[4],[1],[1,17],[4],[4]])
noncomputable def Ws:aI:=bE (bD 27 [0] Tryz.f69 [[0,1],[0,1],[0,1,11],[4],[0,1,5],[0,1,5,15],[0,1,5],[0,1,5,25],[4],[0,1,5],[4]])
noncomputable def Wt:aI:=bE (bD 12 [0] Tryz.f41 [[0,1],[1],[1,10],[4],[4]])
noncomputable def Wu:aI:=bE (bD 12 [0] Tryz.f143 [[1,2],[1],[1,10],[4],[4]])
noncomputable def Wv:aI:=bE (bD 27 [0] Tryz.f70 [[0,1],[0,1],[0,1,11],[4],[0,1,5],[0,1,5,15],[0,1,5],[0,1,5,25],[4],[0,1,5],[4]])
noncomputable def Ww:aI:=bE (bD 27 [0] Tryz.f59 [[1,2],[1,2],[1,2,11],[4],[1,2],[1,2,18],[4],[1],[1,25],[4],[4]])
noncomputable def Wx:aI:=bE (bD 27 [0] Tryz.f18 [[0,1],[0,1],[0,1,11],[4],[0,1,5],[0,1,5,15],[0,1,5],[0,1,5,25],[4],[0,1,5],[4]])
noncomputable def Wy:aI:=bE (bD 28 [0] Tryz.f71 [[0,1],[0,1],[0,1,11],[4],[0,1,5],[0,1,5,15],[0,1,5],[0,1,5,26],[4],[0,1,5],[4]])
noncomputable def Wz:aI:=bE (bD 36 [0] Tryz.f26 [[1,2],[1,2],[1,2,10],[4],[1,2],[1,2,16],[4],[1,2],[1,2,22],[4],[1,2],[1,2,28],[4],[1],[1,34],[4],[4]])
noncomputable def WA:aI:=bE (bD 12 [0] Tryz.f72 [[1,2],[1],[1,10],[4],[4]])
noncomputable def yy:aI:=bE (bD 27 [0] Tryz.f27 [[0,1],[0,1],[0,1,11],[4],[0,1,5],[0,1,5,15],[0,1,5],[0,1,5,25],[4],[0,1,5],[4]])
noncomputable def WB:aI:=bE (bD 11 [0] Tryz.f232 [[1,2],[1,2,3],[1,2,3],[2,3],[2]])
noncomputable def WC:aI:=bE (bD 23 [0] Tryz.f174 [[0],[0,3],[0,3,4],[0,3,4,11],[0,3,4],[0,3,4],[2]])
noncomputable def WD:aI:=bE (bD 23 [0] Tryz.f175 [[0],[0,3],[0,3,4],[0,3,4,11],[0,3,4],[0,3,4],[2]])
noncomputable def WE:aI:=bE (bD 18 [0] Tryz.f270 [[1,2],[1,2,3],[1,2,3],[1,2,3],[1,2,3],[2,3],[2]])
noncomputable def WG:aI:=bE (bD 23 [0] Tryz.f217 [[0],[0,3],[0,3,4],[0,3,4,11],[0,3,4],[0,3,4],[2]])
noncomputable def WH:aI:=bE (bD 15 [0] Tryz.f151 [[1,2],[1,2,3],[1,2,3],[1,2,3],[2,3],[2]])
noncomputable def WI:aI:=bE (bD 23 [0] Tryz.f76 [[0],[0,3],[0,3,4],[0,3,4,11],[0,3,4],[0,3,4],[2]])
noncomputable def yz:aI:=bE (bD 22 [0] Tryz.f47 [[0],[0,3],[0,3,4],[0,3,4,11],[0,3,4],[0,3,4],[2]])
noncomputable def WJ:aI:=bE (bD 12 [0] Tryz.f152 [[1,2],[1,2,3],[1,2,3],[2,3],[2]])
noncomputable def WK:aI:=bE (bD 23 [0] Tryz.f77 [[0],[0,3],[0,3,4],[0,3,4,11],[0,3,4],[0,3,4],[2]])
noncomputable def WL:aI:=bE (bD 14 [0] Tryz.f62 [[1,2],[1,2,3],[1,2,3],[1,2,3],[2,3],[2]])
noncomputable def WM:aI:=bE (bD 23 [0] Tryz.f20 [[0],[0,3],[0,3,4],[0,3,4,11],[0,3,4],[0,3,4],[2]])
noncomputable def WN:aI:=bE (bD 22 [0] Tryz.f78 [[0],[0,3],[0,3,4],[0,3,4,11],[0,3,4],[0,3,4],[2]])
noncomputable def WO:aI:=bE (bD 25 [0] Tryz.f29 [[1,2],[1,2,3],[1,2,3],[1,2,3],[1,2,3],[1,2,3],[2,3],[2]])
noncomputable def WQ:aI:=bE (bD 15 [0] Tryz.f79 [[1,2],[1,2,3],[1,2,3],[1,2,3],[2,3],[2]])
noncomputable def WR:aI:=bE (bD 23 [0] Tryz.f30 [[0],[0,3],[0,3,4],[0,3,4,11],[0,3,4],[0,3,4],[2]])
noncomputable def WS:aI:=bE (bD 9 [0] Tryz.f242 [[0],[2]])
noncomputable def WT:aI:=bE (bD 9 [0] Tryz.f243 [[0],[2]])
noncomputable def WU:aI:=bE (bD 35 [0] Tryz.f189 [[0],[0,16],[2],[0,3],[0,3,20],[0,3,34],[2],[0,3],[2]])
noncomputable def WV:aI:=bE (bD 15 [0,1,2] Tryz.f91 [[0,1,2],[6]])
noncomputable def WW:aI:=bE (bD 13 [0] Tryz.f301 [[0],[6],[6,7],[6,7],[6,7],[2],[11],[2],[2]])
noncomputable def WX:aI:=bE (bD 30 [0] Tryz.f299 [[0],[0,12],[2],[0,3],[0,3,4],[0,3,4,16],[0,3,4,20],[2],[0,3,4],[0,3,4],[2]])
noncomputable def WY:aI:=bE (bD 73 [0] Tryz.f310 [[0],[0,6],[0,6,7],[0,6,7],[2],[0,6,30],[2],[0,6,37],[2],[0,6,51],[2],[0,66],[2],[2]])
noncomputable def WZ:aI:=bE (bD 18 [0] Tryz.f267 [[0,1],[0,1,5],[0,1,5,7],[0,1,5],[0,1,5],[4]])
noncomputable def W0:aI:=bE (bD 38 [0,1] Tryz.f214 [[0,1],[0,1,5],[0,1,5,6],[0,1,5,6,13],[0,1,5,6,34],[0,1,5,6],[0,1,5,6],[4]])
noncomputable def W1:aI:=bE (bD 39 [0,1] Tryz.f227 [[0,1],[0,1,8],[0,1,8,9],[4],[0,1,8,16],[4],[0,8,25],[4],[0,32],[4],[4]])
noncomputable def W2:aI:=bE (bD 11 [0] Tryz.f228 [[0],[6],[6,7],[2],[9],[2],[2]])
noncomputable def W3:aI:=bE (bD 38 [0,1,2] Tryz.f170 [[0,1,2],[0,1,12],[6],[0,1,7],[0,1,7,8],[0,1,7,8,16],[0,1,7,8,28],[6],[0,1,7,8],[0,1,7,8],[6]])
def c0 (r:List bZ) (k:aiA) (c:aI):aI:=.seq (.fB r (some k)) c
def ah9 (r:List bZ) (a:aiy) (k:aiA) (c:aI):aI:=.seq (.jC r a (some k)) c
abbrev fs (d t:Nat) (o:dI):bZ:=⟨some d,o,some (t,true)⟩
abbrev hY (d t:Nat) (o:dI):bZ:=⟨some d,o,some (t,false)⟩
abbrev ah_ (n:Nat) (k:aiA) (f:Func) (c:aI):Prop:=eB ⟨n,k⟩ (f.body.getD .skip)=some c.strip
def MU:aI:=.cond (.t 28) (c0 [jq 6 3] [6] .ret) .skip
def MV:aI:=.cond (.t 51) (c0 [jq 6 4] [6] .ret) .skip
def W4:aI:=.cond (.t 57) (c0 [eM 59 8,iw 60 .gtr 2 59 2,eM 61 60,hY 62 61 (.iK (.t 8)),hY 63 61 (.eL .gtr 2 (.t 62) (.c (.int .i64 0))),hY 64 61 (.iK (.t 63)),fs 65 64 (.gK 243 (.t 7) 2),fs 66 64 (.eR 9 (.t 65)),⟨some 67,.eL .eql 9 (.t 66) (.c (.str [116,97,117])),some (64,true)⟩,hY 68 61 (.pick (.t 64) (.t 67) (.c (.bool false))),ro 69 (.pick (.t 61) (.c (.bool true)) (.t 68))] [1,2,7,8,69] (.cond (.t 69) (c0 [jq 6 5] [6] .ret) .skip)) (c0 [iw 71 .eql 2 56 3,hL 70 71] [0,1,2,7,8,56,70] (.cond (.t 70) (c0 [eM 72 8,iw 73 .neq 2 72 1] [1,2,7,8,73] (.cond (.t 73) (c0 [jq 6 5] [6] .ret) .skip)) (c0 [iw 75 .eql 2 56 5,hL 74 75] [0,1,2,7,8,74] (.cond (.t 74) (c0 [eM 76 8,eM 77 0,hM 78 243 7 1,fK 79 2 78,sG 80 57 77 79,hM 81 192 80 1,fK 82 2 81,wZ 83 .neq 2 76 82] [1,2,7,8,83] (.cond (.t 83) (c0 [jq 6 5] [6] .ret) .skip)) .skip))))
def MW:aI:=.cond (.t 102) (c0 [jq 6 6] [6] .ret) .skip
def MX:aI:=.seq (c0 [eM 113 10,eM 114 8,wZ 115 .lss 2 113 114] [7,8,9,10,115] (.cond (.t 115) .skip (.exit 1))) (.seq (.block 2 (c0 [hM 118 243 7 3,fK 119 87 118,eM 120 10,sG 121 87 119 120,fK 122 86 121,eM 123 9,ro 124 (.call (.f 170) [(.t 122),(.t 123),(.c (.int .i64 15))]),Ao 125 124] [7,8,9,10,125] (.cond (.t 125) (c0 [jq 6 8] [6] .ret) .skip))) (.fB [eM 116 10,iw 117 .add 2 116 1,hL 10 117] (some [7,8,9,10])))
def MY:aI:=.seq (c0 [hM 84 243 7 0,fK 85 2 84,iw 86 .eql 2 85 5,eM 87 86,fs 88 87 (.iK (.t 2)),fs 89 87 (.eL .eql 2 (.t 88) (.c (.int .i64 0))),fs 90 87 (.iK (.t 89)),hY 91 90 (.iK (.t 1)),hY 92 90 (.kb (.t 91)),hY 93 90 (.gK 192 (.t 92) 2),hY 94 90 (.eR 190 (.t 93)),hY 95 90 (.iK (.t 2)),hY 96 90 (.eL .sub 2 (.t 95) (.c (.int .i64 1))),hY 97 90 (.jk 190 (.t 94) (.t 96)),hY 98 90 (.gK 243 (.t 97) 0),hY 99 90 (.eR 2 (.t 98)),hY 100 90 (.eL .neq 2 (.t 99) (.c (.int .i64 1))),fs 101 87 (.pick (.t 90) (.c (.bool true)) (.t 100)),ro 102 (.pick (.t 87) (.t 101) (.c (.bool false)))] [1,2,7,8,102] MW) (c0 [eM 103 1,eM 104 2,An 105 214 103 104,hL 9 105] [7,8,9] (.seq (c0 [hM 106 243 7 0,fK 107 2 106,iw 108 .eql 2 107 4,eM 109 108,fs 110 109 (.iK (.t 9)),fs 111 109 (.eL .geq 2 (.t 110) (.c (.int .i64 6))),ro 112 (.pick (.t 109) (.t 111) (.c (.bool false)))] [7,8,9,112] (.cond (.t 112) (c0 [jq 6 7] [6] .ret) .skip)) (.seq (c0 [jq 10 0] [7,8,9,10] (.block 1 (.loop MX))) (c0 [jq 6 0] [6] .ret))))
def W5:aI:=.seq (c0 [hM 29 243 7 0,fK 30 2 29,iw 31 .eql 2 30 4,eM 32 31,fs 33 32 (.gK 243 (.t 7) 1),fs 34 32 (.eR 2 (.t 33)),⟨some 35,.call (.f 91) [(.t 34),(.c (.int .i64 1)),(.c (.int .i64 7))],some (32,true)⟩,fs 36 32 (.un .not (.t 35)),ro 37 (.pick (.t 32) (.t 36) (.c (.bool false))),eM 38 37,hY 39 38 (.gK 243 (.t 7) 0),hY 40 38 (.eR 2 (.t 39)),hY 41 38 (.eL .eql 2 (.t 40) (.c (.int .i64 5))),hY 42 38 (.iK (.t 41)),fs 43 42 (.gK 243 (.t 7) 1),fs 44 42 (.eR 2 (.t 43)),fs 45 42 (.iK (.t 0)),fs 46 42 (.len 57 (.t 45)),fs 47 42 (.eL .sub 2 (.t 46) (.c (.int .i64 1))),⟨some 48,.call (.f 91) [(.t 44),(.c (.int .i64 0)),(.t 47)],some (42,true)⟩,fs 49 42 (.un .not (.t 48)),hY 50 38 (.pick (.t 42) (.t 49) (.c (.bool false))),ro 51 (.pick (.t 38) (.c (.bool true)) (.t 50))] [0,1,2,7,51] MV) (c0 [hM 52 243 7 3,fK 53 87 52,wY 54 87 53,hL 8 54] [0,1,2,7,8] (.seq (c0 [hM 55 243 7 0,fK 56 2 55] [0,1,2,7,8,56] (.block 0 (c0 [iw 58 .eql 2 56 1,hL 57 58] [0,1,2,7,8,56,57] W4))) MY))
def W6:aI:=c0 [eM 11 1,Uv 12 11,hM 13 192 12 2,fK 14 190 13,eM 15 2,sG 16 190 14 15,fK 17 243 16,Am 7 243,sH 243 7 17] [0,1,2,7] (.seq (c0 [ud 18 310 7,Ao 19 18] [0,1,2,7,19] (.cond (.t 19) (c0 [jq 6 2] [6] .ret) .skip)) (.seq (c0 [hM 20 243 7 0,fK 21 2 20,iw 22 .eql 2 21 1,eM 23 22,fs 24 23 (.gK 243 (.t 7) 2),fs 25 23 (.eR 9 (.t 24)),⟨some 26,.call (.f 189) [(.t 25)],some (23,true)⟩,fs 27 23 (.un .not (.t 26)),ro 28 (.pick (.t 23) (.t 27) (.c (.bool false)))] [0,1,2,7,28] MU) W5))
def W7:aI:=c0 [jq 6 0] [0,1,2] W6
noncomputable def W8:aI:=bE (bD 31 [0,1] Tryz.f265 [[0,1],[0,1,13],[4,5],[0,1,6],[0,1,6,20],[0,1,6,7],[0,1,6,7,28],[4,5],[0,1,6],[4,5]])
noncomputable def W9:aI:=bE (bD 70 [0] Tryz.f211 [[0],[0,15],[2],[0,3],[0,3,19],[0,3,37],[2],[0,3,4],[0,3,4,40],[0,3,4,53],[2],[0,3,4],[0,3],[0,5],[0,5,57],[0,5,7],[0,5,69],[2],[0,5],[2]])
noncomputable def W_:aI:=bE (bD 16 [0] Tryz.f168 [[0],[0,3],[0,3,7],[0,3,15],[2],[0,3],[2]])
noncomputable def Xa:aI:=bE (bD 64 [0] Tryz.f212 [[0],[0,18],[2],[0,3],[0,3,25],[0,3,4],[0,3,4,44],[2],[0,3,63],[2],[0,3],[2]])
def Xb:aI:=c0 [Al 2 false] [0] (c0 [eM 3 0,ud 4 189 3,eM 5 4,fs 6 5 (.iK (.t 0)),⟨some 7,.eL .neq 9 (.t 6) (.c (.str [116,97,117])),some (5,true)⟩,ro 8 (.pick (.t 5) (.t 7) (.c (.bool false))),hL 2 8] [2] .ret)
noncomputable def Xc:aI:=bE (bD 101 [0] Tryz.f60 [[0],[0,8],[2],[0,3],[0,3,12],[0,3,4],[0,3,4,41],[2],[0,3,4,76],[2],[0,3,4,5],[0,3,4,5,80],[0,3,4,5,100],[2],[0,3,4,5],[0,3],[2]])
noncomputable def Xd:aI:=bE (bD 16 [0] Tryz.f266 [[0],[0,3],[0,3,7],[0,3,15],[2],[0,3],[2]])
noncomputable def Xe:aI:=bE (bD 28 [0] Tryz.f213 [[0],[0,11],[2],[0,3],[0,3,15],[0,3,27],[2],[0,3],[2]])
noncomputable def Xf:aI:=bE (bD 30 [0] Tryz.f144 [[0],[0,8],[2],[0,11],[2],[0,17],[2],[0,23],[2],[29],[2],[2]])
noncomputable def Xg:aI:=bE (bD 6 [0] Tryz.f73 [[0],[2]])
noncomputable def Xh:aI:=bE (bD 62 [0,1] Tryz.f145 [[0,1],[0,1,14],[4],[1,5],[1,5,43],[4],[4]])
noncomputable def Xi:aI:=bE (bD 29 [0,1] Tryz.f74 [[0,1],[0,1,13],[4],[0,1,5],[0,1,5,17],[0,1,5,28],[4],[0,1,5],[4]])
noncomputable def Xj:aI:=bE (bD 16 [0] Tryz.f146 [[0],[0,3],[0,3,4],[0,3,4,8],[0,3,4],[0,3,4],[2]])
noncomputable def Xk:aI:=bE (bD 6 [0] Tryz.f95 [[0],[2]])
noncomputable def Xl:aI:=bE (bD 34 [0,1] Tryz.f147 [[0,1],[0,1,5],[0,1,5,6],[0,1,5,6,12],[0,1,5,6,7],[0,1,5,6],[0,1,5,6],[4]])
noncomputable def Xm:aI:=bE (bD 46 [0,1] Tryz.f268 [[0,1],[0,1,5],[0,1,5,15],[0,1,5,26],[4],[0,1,5,35],[4],[0,1,5],[0,1,40],[4],[45],[4],[4]])
noncomputable def Xn:aI:=bE (bD 41 [0,1] Tryz.f215 [[0,1],[0,1,5],[0,1,5,6],[0,1,7],[0,1,7,30],[4],[4]])
noncomputable def Xo:aI:=bE (bD 24 [0,1] Tryz.f148 [[0,1],[0,1,5],[0,1,5,10],[0,1,5,6],[0,1,5,6,21],[4],[0,1,5],[4]])
noncomputable def Xp:aI:=bE (bD 26 [0,1] Tryz.f269 [[0,1],[0,1,10],[4],[0,1,5],[0,1,5,14],[0,1,5,25],[4],[0,1,5],[4]])
noncomputable def Xq:aI:=bE (bD 36 [0,1] Tryz.f216 [[0,1],[4]])
noncomputable def Xr:aI:=bE (bD 25 [0,1] Tryz.f149 [[0,1],[0,1,10],[4],[0,1,5],[0,1,5,14],[0,1,5,24],[4],[0,1,5],[4]])
noncomputable def Xs:aI:=bE (bD 86 [0] Tryz.f150 [[0],[0,3],[0,3,25],[0,3],[0,3,29],[0,2],[0,3,4],[0,3,4,41],[0,3,4],[0,3,4,5],[0,3,4,5],[0,3],[0,6],[0,6,7],[0,6,7,66],[0,6,7,8],[0,6,7,8],[0,6,7],[0,6,7],[0,6,7],[0,2]])
noncomputable def Xt:aI:=bE (bD 69 [0] Tryz.f75 [[0],[0,3],[0,3,4],[0,3,4,5],[0,3,4,5,6],[0,3,4,5,6,27],[0,3,4,5,6],[0,3,4,5,6,41],[0,3,4,5,6],[0,3,4,5,6,7],[0,3,4,5,6,7,50],[0,3,4,5,6,7],[0,3,4,5,6,7],[0,3,4],[0,3,4,67],[2]])
noncomputable def Xu:aI:=bE (bD 16 [0,1] Tryz.f28 [[1,2],[1,12],[4,5],[4,5]])
noncomputable def Xv:aI:=bE (bD 15 [0,1,2] Tryz.f99 [[0,1,2],[6]])
noncomputable def Xw:aI:=bE (bD 7 [0] Tryz.f312 [[1],[2]])
noncomputable def Xx:aI:=bE (bD 19 [0,1] Tryz.f313 [[0,1],[0,1,7,8],[0,1,7,8,9],[0,1,5,7,8],[0,1,5,7,8,16],[4],[0,1,7,8],[4]])
noncomputable def Xy:aI:=bE (bD 9 [0,1] Tryz.f311 [[0,1],[4]])
noncomputable def Xz:aI:=bE (bD 6 [0] Tryz.f302 [[0],[2]])
noncomputable def XA:aI:=bE (bD 9 [0] Tryz.f247 [[0],[2]])
noncomputable def XB:aI:=bE (bD 42 [0] Tryz.f193 [[0],[0,6,7],[0,6,7,8],[0,3,6,7],[0,3,4,6,7],[0,6,7,32],[2],[0,6,7],[2]])
noncomputable def XC:aI:=bE (bD 8 [0,1] Tryz.f314 [[1,2],[3]])
noncomputable def XD:aI:=bE (bD 19 [0,1] Tryz.f313 [[0,1],[0,1,7,8],[0,1,7,8,9],[0,1,5,7,8],[0,1,5,7,8,16],[4],[0,1,7,8],[4]])
noncomputable def XE:aI:=bE (bD 8 [0,1] Tryz.f303 [[0,3],[4]])
noncomputable def XF:aI:=bE (bD 11 [0] Tryz.f277 [[1],[4],[4,5],[4,5],[4,5],[2],[9],[2],[2]])
noncomputable def XG:aI:=bE (bD 25 [0] Tryz.f315 [[1,2],[1,2,5],[1,2,5,7],[1,2,5,14],[4],[1,2,5],[1,2,5],[4]])
def XH:aI:=.fB [hM 29 253 9 0,fK 30 2 29,iw 31 .add 2 30 1,hM 32 253 9 0,sH 2 32 31] (some [0,2,3,4,8,9])
def XI:aI:=.cond (.t 28) XH .skip
def XJ:aI:=.fB [iw 43 .add 3 37 1,eM 37 43] (some [2,3,4,9,10,36,37])
def XK:aI:=.seq (.block 1 (.ib (En ah 276 4 2 39 ((range 3).map (·+2)) [eM 40 10,fK 41 253 9] [(.t 40),(.t 41)] (some 42) [hL 10 42] [2,3,4,9,10,36,37]) (LL 301 4 39 [eM 40 10,fK 41 253 9] [(.t 40),(.t 41)] (some 42) [hL 10 42]))) XJ
def XL:aI:=.seq (.cond (.t 38) .skip (.exit 0)) XK
def MZ:aI:=c0 [wZ 38 .lss 3 37 36] [2,3,4,9,10,36,37,38] XL
def XM:aI:=.block 0 (.loop MZ)
def XN:aI:=c0 [eM 44 10,hL 7 44] [2,3,4,7] .ret
def XO:aI:=.seq (c0 [fK 35 243 8,ud 36 277 35,Md 37 0] [2,3,4,9,10,36,37] XM) XN
def M0:aI:=c0 [eM 33 0,iw 34 .add 3 33 1,hL 10 34] [2,3,4,8,9,10] XO
def XP:aI:=.seq (c0 [hM 26 243 8 0,fK 27 2 26,iw 28 .eql 2 27 4] [0,2,3,4,8,9,28] XI) M0
def XQ:aI:=c0 [hM 20 253 6 0,fK 21 2 20,hM 22 243 8 0,fK 23 2 22,iw 24 .eql 2 23 1,ro 25 (.gH 253 [(0,(.t 21)),(1,(.t 24))]),Am 9 253,sH 253 9 25] [0,2,3,4,8,9] XP
def XR:aI:=c0 [hM 15 192 3 2,fK 16 190 15,eM 17 0,sG 18 190 16 17,fK 19 243 18,Am 8 243,sH 243 8 19] [0,2,3,4,6,8] XQ
def XS:aI:=c0 [fK 11 254 2,eM 12 0,fK 13 253 6,sG 14 254 11 12,sH 253 14 13] [0,2,3,4,6] XR
def M1:aI:=c0 [ro 6 (.iJ 253 (.t 1)),jq 7 0] [0,2,3,4,6] XS
theorem XT:M1.l7 (Ai ah 276 [0,1,2,3,4] 5 2 4):=And.intro (True.intro) (And.intro (True.intro) (And.intro (True.intro) (And.intro (True.intro) (And.intro (And.intro (True.intro) (And.intro (True.intro) (True.intro))) (And.intro (True.intro) (And.intro (And.intro (True.intro) (And.intro (True.intro) (And.intro (And.intro (True.intro) (True.intro)) (And.intro (⟨301,2,39,3,_,_,_,_,_,rfl,rfl,(by kernel_rfl),rfl,rfl,rfl,rfl,rfl,rfl,rfl⟩) (True.intro))))) (And.intro (True.intro) (True.intro))))))))
theorem XU:eB ⟨45,[0,1,2,3,4]⟩ (Tryz.f276.body.getD .skip)=some M1.strip:=by kernel_rfl
def GK:aI:=c0 [fK 15 254 3,hL 2 15] [2] .ret
def XV:aI:=c0 [fK 10 301 4,hM 11 192 1 1,fK 12 2 11,ro 13 (.gH 253 [(0,(.t 12))]),ro 14 (.call (.t 10) [(.c (.int .i64 0)),(.t 13)])] [3] GK
def aia:aI:=c0 [ro 9 (.l3 276 [(.t 3),(.t 1),(.t 4)]),sH 301 4 9] [1,3,4] XV
def XW:aI:=.ib (Es ah 276 4 2 10 9 [3,1,4] [hM 11 192 1 1,fK 12 2 11,ro 13 (.gH 253 [(0,(.t 12))])] [(.c (.int .i64 0)),(.t 13)] (some 14) [3] GK) (LQ 301 276 4 10 9 [3,1,4] [hM 11 192 1 1,fK 12 2 11,ro 13 (.gH 253 [(0,(.t 12))])] [(.c (.int .i64 0)),(.t 13)] (some 14) GK.kf)
def XX:aI:=c0 [hM 5 192 1 2,fK 6 190 5,wY 7 190 6,ro 8 (.ek 254 (.t 7) (.t 7)),Am 3 254,sH 254 3 8] [1,3] XW
def M3:aI:=c0 [ro 1 (.iJ 192 (.t 0)),ED 2] [1] XX
theorem XY:M3.l7 (wV ah):=And.intro (True.intro) (And.intro (True.intro) (⟨301,276,4,2,10,9,_,_,_,_,_,_,rfl,rfl,(by kernel_rfl),⟨Tryz.t301,_,_,(by kernel_rfl),rfl,rfl,rfl,rfl⟩,rfl,rfl,rfl,rfl,(by kernel_rfl)⟩))
theorem XZ:eB ⟨16,[0]⟩ (Tryz.f221.body.getD .skip)=some M3.strip:=by kernel_rfl
noncomputable def X0:aI:=bE (bD 56 [0] Tryz.f318 [[1],[1,3],[1,3,4],[2]])
def X1:aI:=c0 [Al 2 false] [0] (c0 [eM 3 0,ud 4 193 3,eM 5 4,fs 6 5 (.iK (.t 0)),⟨some 7,.eL .neq 9 (.t 6) (.c (.str [116,97,117])),some (5,true)⟩,ro 8 (.pick (.t 5) (.t 7) (.c (.bool false))),hL 2 8] [2] .ret)
noncomputable def X2:aI:=bE (bD 9 [0,1] Tryz.f220 [[0,1],[4]])
def X3:aI:=.cond (.t 11) (c0 [eM 13 5,iw 14 .eql 3 13 0,eM 15 14,hY 16 15 (.gK 243 (.t 2) 2),hY 17 15 (.eR 9 (.t 16)),⟨some 18,.eL .neq 9 (.t 17) (.c (.str [116,97,117])),some (15,false)⟩,hY 19 15 (.iK (.t 18)),fs 20 19 (.iK (.t 5)),fs 21 19 (.eL .leq 3 (.t 20) (.c (.int .i64 2))),hY 22 15 (.pick (.t 19) (.t 21) (.c (.bool false))),ro 23 (.pick (.t 15) (.c (.bool true)) (.t 22)),hL 4 23] [4] .ret) (c0 [iw 25 .eql 2 10 3,hL 24 25] [1,2,5,10,24] (.cond (.t 24) (c0 [eM 26 5,iw 27 .eql 3 26 1,hL 4 27] [4] .ret) (c0 [iw 29 .eql 2 10 5,hL 28 29] [1,2,5,28] (.cond (.t 28) (c0 [eM 30 5,eM 31 1,hM 32 243 2 1,fK 33 2 32,sG 34 57 31 33,hM 35 192 34 1,fK 36 2 35,wZ 37 .eql 2 30 36,hL 4 37] [4] .ret) .skip))))
def X4:aI:=c0 [ro 2 (.iJ 243 (.t 0)),Al 4 false] [1,2] (c0 [hM 6 243 2 3,fK 7 87 6,wY 8 87 7,hL 5 8] [1,2,5] (.seq (c0 [hM 9 243 2 0,fK 10 2 9] [1,2,5,10] (.block 0 (c0 [iw 12 .eql 2 10 1,hL 11 12] [1,2,5,10,11] X3))) (c0 [Al 4 true] [4] .ret)))
noncomputable def X5:aI:=bE (bD 5 [0] Tryz.f235 [[0],[2]])
noncomputable def X6:aI:=bE (bD 29 [0,1] Tryz.f237 [[1,2],[1,2,6],[1,2,6,7],[4],[1,2,6,12],[4],[2,6,19],[4],[2,24],[4],[4]])
noncomputable def X7:aI:=bE (bD 9 [0] Tryz.f238 [[1],[4],[4,5],[2],[7],[2],[2]])
noncomputable def X8:aI:=bE (bD 47 [0,1,2] Tryz.f182 [[0,1,2],[0,1,24],[6],[0,1,7],[1,7,25,26,27],[1,7,25,26,27,28],[1,7,9,25,26,27],[1,7,9,25,26,27,38],[6],[1,7,25,26,27],[1,7,25,26,27],[6]])
noncomputable def X9:aI:=bE (bD 9 [0,1] Tryz.f320 [[0,1],[3]])
noncomputable def X_:aI:=bE (bD 19 [0,1] Tryz.f236 [[0,1],[0,1,7,8],[0,1,7,8,9],[0,1,5,7,8],[0,1,5,7,8,16],[4],[0,1,7,8],[4]])
noncomputable def Ya:aI:=bE (bD 9 [0,1] Tryz.f179 [[0,1],[4]])
def Yb:aI:=c0 [hM 55 243 3 0,fK 56 2 55,iw 57 .eql 2 56 5,eM 58 57,fs 59 58 (.gK 253 (.t 5) 1),fs 60 58 (.eR 4 (.t 59)),fs 61 58 (.un .not (.t 60)),ro 62 (.pick (.t 58) (.t 61) (.c (.bool false))),hL 54 62] [3,5,54] (.cond (.t 54) (c0 [jq 6 6] [6] .ret) (c0 [hM 64 243 3 0,fK 65 2 64,iw 66 .eql 2 65 4,eM 67 66,fs 68 67 (.gK 253 (.t 5) 0),fs 69 67 (.eR 2 (.t 68)),fs 70 67 (.eL .geq 2 (.t 69) (.c (.int .i64 6))),ro 71 (.pick (.t 67) (.t 70) (.c (.bool false))),hL 63 71] [3,5,63] (.cond (.t 63) (c0 [jq 6 7] [6] .ret) (c0 [hM 73 243 3 3,fK 74 87 73,ro 75 (.l3 320 [(.t 5)]),An 76 179 74 75,hL 72 76] [72] (.cond (.t 72) (c0 [jq 6 8] [6] .ret) .skip)))))
def M4:aI:=.cond (.t 26) (c0 [jq 6 4] [6] .ret) (c0 [fK 50 243 3,eM 51 1,An 52 319 50 51,Ao 53 52,hL 49 53] [3,5,49] (.cond (.t 49) (c0 [jq 6 5] [6] .ret) Yb))
def Yc:aI:=c0 [hM 27 243 3 0,fK 28 2 27,iw 29 .eql 2 28 4,eM 30 29,fs 31 30 (.gK 243 (.t 3) 1),fs 32 30 (.eR 2 (.t 31)),⟨some 33,.call (.f 99) [(.t 32),(.c (.int .i64 1)),(.c (.int .i64 7))],some (30,true)⟩,fs 34 30 (.un .not (.t 33)),ro 35 (.pick (.t 30) (.t 34) (.c (.bool false))),eM 36 35,hY 37 36 (.gK 243 (.t 3) 0),hY 38 36 (.eR 2 (.t 37)),hY 39 36 (.eL .eql 2 (.t 38) (.c (.int .i64 5))),hY 40 36 (.iK (.t 39)),fs 41 40 (.gK 243 (.t 3) 1),fs 42 40 (.eR 2 (.t 41)),fs 43 40 (.iK (.t 1)),fs 44 40 (.len 57 (.t 43)),⟨some 45,.call (.f 220) [(.t 42),(.t 44)],some (40,true)⟩,fs 46 40 (.un .not (.t 45)),hY 47 36 (.pick (.t 40) (.t 46) (.c (.bool false))),ro 48 (.pick (.t 36) (.c (.bool true)) (.t 47)),hL 26 48] [1,3,5,26] M4
def M5:aI:=.cond (.t 11) (c0 [jq 6 3] [6] .ret) Yc
def Yd:aI:=.seq (.block 0 (c0 [fK 8 243 3,ud 9 318 8,Ao 10 9,hL 7 10] [1,3,5,7] (.cond (.t 7) (c0 [jq 6 2] [6] .ret) (c0 [hM 12 243 3 0,fK 13 2 12,iw 14 .eql 2 13 1,eM 15 14,fs 16 15 (.gK 243 (.t 3) 2),fs 17 15 (.eR 9 (.t 16)),⟨some 18,.eL .neq 9 (.t 17) (.c (.str [116,97,117])),some (15,true)⟩,ro 19 (.pick (.t 15) (.t 18) (.c (.bool false))),eM 20 19,fs 21 20 (.gK 243 (.t 3) 2),fs 22 20 (.eR 9 (.t 21)),⟨some 23,.call (.f 130) [(.t 22)],some (20,true)⟩,fs 24 20 (.un .not (.t 23)),ro 25 (.pick (.t 20) (.t 24) (.c (.bool false))),hL 11 25] [1,3,5,11] M5)))) (c0 [jq 6 0] [6] .ret)
def Ye:aI:=c0 [ro 3 (.iJ 243 (.t 0)),ro 5 (.iJ 253 (.t 2)),jq 6 0] [1,3,5] Yd
noncomputable def Yf:aI:=bE (bD 45 [0,1] Tryz.f304 [[0,3],[0,3,22],[4,5],[0,3,6],[0,6,26,27,28],[0,6,26,27,28,29],[0,6,7,8,26,27,28],[0,6,7,9,26,27,28],[0,6,7,9,26,27,28,41],[4,5],[0,6,26,27,28],[4,5]])
noncomputable def Yg:aI:=bE (bD 45 [0] Tryz.f271 [[0],[0,15],[2],[0,16,17,18],[0,16,17,18,19],[0,3,4,16,17,18],[0,4,16,17,18,35],[2],[0,6,16,17,18],[0,16,17,18,43],[2],[0,16,17,18],[2]])
noncomputable def Yh:aI:=bE (bD 6 [0] Tryz.f234 [[0],[2]])
noncomputable def Yi:aI:=bE (bD 19 [0,1] Tryz.f183 [[0,1],[0,1,7,8],[0,1,7,8,9],[0,1,5,7,8],[0,1,5,7,8,16],[4],[0,1,7,8],[4]])
noncomputable def Yj:aI:=bE (bD 9 [0,1] Tryz.f233 [[0,1],[4]])
noncomputable def Yk:aI:=bE (bD 6 [0] Tryz.f176 [[0],[2]])
noncomputable def Yl:aI:=bE (bD 27 [0,1] Tryz.f274 [[0,3],[4]])
noncomputable def Ym:aI:=bE (bD 9 [0,1] Tryz.f273 [[1,2],[3]])
noncomputable def Yn:aI:=bE (bD 19 [0,1] Tryz.f305 [[0,1],[0,1,7,8],[0,1,7,8,9],[0,1,5,7,8],[0,1,5,7,8,16],[4],[0,1,7,8],[4]])
noncomputable def Yo:aI:=bE (bD 9 [0,1] Tryz.f272 [[0,1],[4]])
noncomputable def Yp:aI:=bE (bD 6 [0] Tryz.f291 [[0],[2]])
noncomputable def Yq:aI:=bE (bD 20 [0,1] Tryz.f248 [[0,1],[0,1,5],[0,1,5,6],[0,1,6,11],[12],[4],[4],[0,1,13],[4],[0,1,16],[4],[19],[4],[4]])
noncomputable def Yr:aI:=bE (bD 36 [0,1] Tryz.f194 [[0,1],[0,1,9,10,11],[0,1,9,10,11,12],[0,1,5,6,9,10,11],[0,1,5,6,9,10,11,19],[4],[0,1,6,7,9,10,11],[0,1,8,9,10,11],[0,1,8,9,10,11,28],[4],[0,1,9,10,11],[35],[4],[4]])
noncomputable def Ys:aI:=bE (bD 16 [0,1] Tryz.f131 [[2,3],[4]])
noncomputable def Yt:aI:=bE (bD 16 [0,1] Tryz.f133 [[1,2],[3]])
noncomputable def Yu:aI:=bE (bD 19 [0,1] Tryz.f195 [[0,1],[0,1,7,8],[0,1,7,8,9],[0,1,5,7,8],[0,1,5,7,8,16],[4],[0,1,7,8],[4]])
noncomputable def Yv:aI:=bE (bD 9 [0,1] Tryz.f132 [[0,1],[4]])
noncomputable def Yw:aI:=bE (bD 56 [0] Tryz.f63 [[0],[0,5,6,7],[0,5,6,7,8],[0,3,4,5,6,7],[0,4,5,6,7,48],[2],[0,5,6,7,51],[2],[0,5,6,7],[2]])
noncomputable def Yx:aI:=bE (bD 32 [0] Tryz.f275 [[0],[0,5,6,7],[0,5,6,7,8],[0,3,4,5,6,7],[0,5,6,7,27],[2],[0,5,6,7],[2]])
noncomputable def Yy:aI:=bE (bD 35 [0] Tryz.f218 [[1],[1,3],[2],[1,8],[2],[1,20],[2],[1,25],[2],[30],[2],[2]])
noncomputable def Yz:aI:=bE (bD 6 [0] Tryz.f153 [[1],[2]])
noncomputable def YA:aI:=bE (bD 56 [0,1] Tryz.f156 [[0,3],[0,3,24],[4],[3,5],[4]])
noncomputable def YB:aI:=bE (bD 9 [0,1] Tryz.f155 [[1,2],[3]])
noncomputable def YC:aI:=bE (bD 19 [0,1] Tryz.f219 [[0,1],[0,1,7,8],[0,1,7,8,9],[0,1,5,7,8],[0,1,5,7,8,16],[4],[0,1,7,8],[4]])
noncomputable def YD:aI:=bE (bD 9 [0,1] Tryz.f154 [[0,1],[4]])
noncomputable def YE:aI:=bE (bD 21 [0,1] Tryz.f80 [[1,2],[4]])
noncomputable def YF:aI:=bE (bD 19 [0,1] Tryz.f120 [[0,1],[0,1,7,8],[0,1,7,8,9],[0,1,5,7,8],[0,1,5,7,8,16],[4],[0,1,7,8],[4]])
noncomputable def YG:aI:=bE (bD 9 [0,1] Tryz.f112 [[0,1],[4]])
noncomputable def YH:aI:=bE (bD 8 [0] Tryz.f106 [[0],[0,4],[2],[2]])
noncomputable def YI:aI:=bE (bD 39 [0] Tryz.f157 [[0],[0,3],[0,3,9,10],[0,3,9,10,11],[0,3,4,9,10],[0,3,4,9,10,12,13,14],[0,3,4,9,10,12,13,14,15],[0,3,4,6,9,10,12,13,14],[0,3,4,6,9,10,12,13,14,18,19],[0,3,4,6,9,10,12,13,14,18,19,20],[0,3,4,6,7,9,10,12,13,14,18,19],[0,3,4,6,7,9,10,12,13,14,18,19,25],[0,3,4,6,9,10,12,13,14,18,19],[0,3,4,6,9,10,12,13,14,18,19],[0,3,4,9,10,12,13,14],[0,3,9,10],[0,3,9,10],[2]])
noncomputable def YJ:aI:=bE (bD 8 [0] Tryz.f222 [[1,2],[1,2],[2]])
noncomputable def YK:aI:=bE (bD 24 [0,1] Tryz.f158 [[0,1],[0,1,5],[0,5,8,9,10],[0,5,8,9,10,11],[0,5,7,8,9,10],[0,5,8,9,10],[0,5,8,9,10],[4]])
noncomputable def YL:aI:=bE (bD 6 [0] Tryz.f298 [[0],[2]])
noncomputable def YM:aI:=bE (bD 20 [0,1] Tryz.f287 [[0,1],[0,1,5],[0,1,5,6],[0,1,6,11],[12],[4],[4],[0,1,13],[4],[0,1,16],[4],[19],[4],[4]])
noncomputable def YN:aI:=bE (bD 36 [0,1] Tryz.f288 [[0,1],[0,1,9,10,11],[0,1,9,10,11,12],[0,1,5,6,9,10,11],[0,1,5,6,9,10,11,19],[4],[0,1,6,7,9,10,11],[0,1,8,9,10,11],[0,1,8,9,10,11,28],[4],[0,1,9,10,11],[35],[4],[4]])
noncomputable def YO:aI:=bE (bD 18 [0] Tryz.f286 [[0],[0,3],[3,6,7,8],[3,6,7,8,9],[3,5,6,7,8],[3,5,6,7,8,14],[2],[3,6,7,8],[2]])
noncomputable def YP:aI:=bE (bD 22 [0,1] Tryz.f225 [[2,3],[4]])
noncomputable def YQ:aI:=bE (bD 39 [0,1,2] Tryz.f224 [[0,1,2],[0,1,2,11,12,13],[0,1,2,11,12,13,14],[0,1,2,7,8,11,12,13],[0,1,2,7,8,11,12,13,21],[6],[0,1,2,8,9,11,12,13],[0,1,2,10,11,12,13],[0,1,2,10,11,12,13,31],[6],[0,1,2,11,12,13],[38],[6],[6]])
noncomputable def YR:aI:=bE (bD 8 [0,1] Tryz.f160 [[0,1],[4]])
noncomputable def YS:aI:=bE (bD 9 [0,1] Tryz.f162 [[0,1],[4]])
def M6:aI:=c0 [wZ 11 .lss 3 10 9] [0,3,8,9,10,11] (.seq (.cond (.t 11) .skip (.exit 0)) (.seq (.block 1 (c0 [sG 12 200 8 10,fK 13 22 12,⟨some 5,.mu (.t 13),none⟩] [0,3,5,8,9,10] (.fB [eM 14 3,eM 15 0,eM 16 5,An 17 158 15 16,Uw 18 67 17,Ux 19 67 67 14 18,hL 3 19] (some [0,3,8,9,10])))) (.fB [iw 20 .add 3 10 1,eM 10 20] (some [0,3,8,9,10]))))
def YT:aI:=c0 [ED 2] [0] (c0 [ED 3] [0,3] (.seq (c0 [eM 6 0,wY 7 62 6,ud 8 157 7,wY 9 200 8,Md 10 0] [0,3,8,9,10] (.block 0 (.loop M6))) (c0 [eM 21 3,ro 22 (.call (.f 159) [(.t 21),(.f 160)])] [3] (c0 [eM 23 3,ro 24 (.call (.f 161) [(.t 23),(.f 162)]),hL 2 24] [2] .ret))))
noncomputable def YU:aI:=bE (bD 13 [0,1] Tryz.f31 [[1,2],[1,9],[4,5],[4,5]])
noncomputable def YV:aI:=bE (bD 15 [0,1] Tryz.f241 [[2,3],[2,3,9],[4],[14],[4],[4]])
noncomputable def YW:aI:=bE (bD 27 [0,1] Tryz.f187 [[0,1],[0,1,10],[4],[0,1,5],[0,1,5,14],[0,1,5,26],[4],[0,1,5],[4]])
noncomputable def YX:aI:=bE (bD 27 [0,1] Tryz.f188 [[0,1],[0,1,10],[4],[0,1,5],[0,1,5,14],[0,1,5,26],[4],[0,1,5],[4]])
noncomputable def YY:aI:=bE (bD 26 [0,1] Tryz.f289 [[2,3],[2,3,9],[4],[2,3,14],[4],[2,3,19],[4],[25],[4],[4]])
noncomputable def YZ:aI:=bE (bD 27 [0,1] Tryz.f226 [[0,1],[0,1,10],[4],[0,1,5],[0,1,5,14],[0,1,5,26],[4],[0,1,5],[4]])
noncomputable def Y0:aI:=bE (bD 21 [0,1] Tryz.f163 [[2,3],[2,3,9],[4],[2,3,14],[4],[20],[4],[4]])
noncomputable def Y1:aI:=bE (bD 27 [0,1] Tryz.f82 [[0,1],[0,1,10],[4],[0,1,5],[0,1,5,14],[0,1,5,26],[4],[0,1,5],[4]])
noncomputable def Y2:aI:=bE (bD 26 [0,1] Tryz.f13 [[0,1],[0,1,10],[4],[0,1,5],[0,1,5,14],[0,1,5,25],[4],[0,1,5],[4]])
noncomputable def Y3:aI:=bE (bD 16 [0,1] Tryz.f164 [[2,3],[2,3,9],[4],[15],[4],[4]])
noncomputable def Y4:aI:=bE (bD 27 [0,1] Tryz.f83 [[0,1],[0,1,10],[4],[0,1,5],[0,1,5,14],[0,1,5,26],[4],[0,1,5],[4]])
noncomputable def Y5:aI:=bE (bD 20 [0,1] Tryz.f65 [[2,3],[2,3,9],[4],[2,3,14],[4],[19],[4],[4]])
noncomputable def GL:aI:=bE (bD 27 [0,1] Tryz.f22 [[0,1],[0,1,10],[4],[0,1,5],[0,1,5,14],[0,1,5,26],[4],[0,1,5],[4]])
noncomputable def Y6:aI:=bE (bD 26 [0,1] Tryz.f84 [[0,1],[0,1,10],[4],[0,1,5],[0,1,5,14],[0,1,5,25],[4],[0,1,5],[4]])
noncomputable def Y7:aI:=bE (bD 35 [0,1] Tryz.f32 [[2,3],[2,3,10],[4],[2,3,16],[4],[2,3,22],[4],[2,3,28],[4],[34],[4],[4]])
noncomputable def Y8:aI:=bE (bD 21 [0,1] Tryz.f85 [[2,3],[2,3,9],[4],[2,3,14],[4],[20],[4],[4]])
noncomputable def Y9:aI:=bE (bD 27 [0,1] Tryz.f33 [[0,1],[0,1,10],[4],[0,1,5],[0,1,5,14],[0,1,5,26],[4],[0,1,5],[4]])
noncomputable def e2:aI:=bE (bD 58 [0,1] Tryz.f6 [[1,2],[1,2,5],[1,2,5],[1,2,5,16],[4],[1,2,5],[1,2,21],[4],[1,2,6,7],[1,2,6,7,8],[1,2,6,7,8,9],[1,2,6,7,8,9,10,11],[1,2,8,9,47],[4],[1,9,52],[4],[57],[4],[4]])
def yA:=PLift.up (And.intro @Bool.not_true @Bool.not_false)
def aib:=PLift.up (And.intro @length_append.{0} (And.intro @length_cons.{0} (And.intro @length_nil.{0} (And.intro @length_map.{0,0} (And.intro @length_replicate.{0} (And.intro @Nat.zero_add @Nat.add_zero))))))
end Go.Proofs.YtklcmlnabkfneaaGreat
