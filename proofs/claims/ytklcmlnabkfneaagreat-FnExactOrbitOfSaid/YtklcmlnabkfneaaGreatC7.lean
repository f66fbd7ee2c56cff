/- Part of a proof that a law returns true for every input. No condition. -/
import Derived.Test.YtklcmlnabkfneaaGreatTb
import Derived.Test.YtklcmlnabkfneaaGreatFwL
import Derived.Test.YtklcmlnabkfneaaGreatP7
namespace Go.Proofs.YtklcmlnabkfneaaGreat
open List Option Go.IntKind Nat Or
open Go Go.de Go.l3
set_option linter.unusedSimpArgs false
def kz (x:hS):I:=.agg [.int .i64 x.Kind,.int .i64 x.Value]
theorem YT (x:hS):(kz x).share=kz x:=by
 simp only[kz,dr]
theorem akP (x:hS):(kz x).cS=true:=by
 simp only[kz,I.cS,I.hg,Bool.and_self]
def jq (x:ama):I:=.slice (x.map kz)
theorem OS (x:ama):(jq x).share=jq x:=by
 simp only[jq,dr, @cr _ kz kz (λ_=>YT _)]
def iJ (x:jk):I:=.agg [.int .i64 x.Kind,.int .i64 x.Number,.str x.Name,.slice (x.cw.map jq)]
theorem OT (x:jk):(iJ x).share=iJ x:=by
 simp only[iJ,dr, @cr _ jq jq (λ_=>OS _)]
def il (x:jl):I:=.agg [.str x.Name,.int .i64 x.db,.slice (x.Body.map iJ)]
theorem OU (x:jl):(il x).share=il x:=by
 simp only[il,dr, @cr _ iJ iJ (λ_=>OT _)]
def bj (x:Int):I:=.int .i64 x
theorem mA (x:Int):(bj x).share=bj x:=by
 simp only[bj,dr]
theorem Iw (x:Int):(bj x).cS=true:=by
 simp only[bj,I.cS,I.hg,Bool.and_self]
def im (x:jm):I:=.agg [.int .i64 x.b6,.slice (x.bL.map bj)]
theorem OV (x:jm):(im x).share=im x:=by
 simp only[im,dr, @cr _ bj bj (λ_=>mA _)]
def h1 (x:iZ):I:=.agg [.str x.Left,.str x.b_,.str x.Result]
theorem OW (x:iZ):(h1 x).share=h1 x:=by
 simp only[h1,dr]
theorem akQ (x:iZ):(h1 x).cS=true:=by
 simp only[h1,I.cS,I.hg,Bool.and_self]
def cd (x:alO):I:=.str x
theorem kA (x:alO):(cd x).share=cd x:=by
 simp only[cd,dr]
theorem OX (x:alO):(cd x).cS=true:=by
 simp only[cd,I.cS,I.hg,Bool.and_self]
def lb (x:l4):I:=.agg [.slice (x.dU.map il),.slice (x.cU.map im),.slice (x.gV.map h1),.slice (x.gP.map cd),.slice (x.gQ.map cd)]
theorem akR (x:l4):(lb x).share=lb x:=by
 simp only[lb,dr, @cr _ il il (λ_=>OU _), @cr _ im im (λ_=>OV _), @cr _ h1 h1 (λ_=>OW _), @cr _ cd cd (λ_=>kA _)]
def h2 (x:jn):I:=.agg [.int .i64 x.b6,.int .i64 x.Part,.slice (x.bL.map bj)]
theorem akS (x:jn):(h2 x).share=h2 x:=by
 simp only[h2,dr, @cr _ bj bj (λ_=>mA _)]
def Ix (x:amc):I:=.slice (x.map il)
theorem akT (x:amc):(Ix x).share=Ix x:=by
 simp only[Ix,dr, @cr _ il il (λ_=>OU _)]
def Iy (x:amd):I:=.slice (x.map im)
theorem akU (x:amd):(Iy x).share=Iy x:=by
 simp only[Iy,dr, @cr _ im im (λ_=>OV _)]
def Iz (x:ame):I:=.slice (x.map h1)
theorem akV (x:ame):(Iz x).share=Iz x:=by
 simp only[Iz,dr, @cr _ h1 h1 (λ_=>OW _)]
def zT (x:alN):I:=.slice (x.map cd)
theorem akW (x:alN):(zT x).share=zT x:=by
 simp only[zT,dr, @cr _ cd cd (λ_=>kA _)]
def IA (x:amb):I:=.slice (x.map iJ)
theorem akX (x:amb):(IA x).share=IA x:=by
 simp only[IA,dr, @cr _ iJ iJ (λ_=>OT _)]
def IB (x:alX):I:=.slice (x.map jq)
theorem akY (x:alX):(IB x).share=IB x:=by
 simp only[IB,dr, @cr _ jq jq (λ_=>OS _)]
def nH (x:alQ):I:=.slice (x.map bj)
theorem akZ (x:alQ):(nH x).share=nH x:=by
 simp only[nH,dr, @cr _ bj bj (λ_=>mA _)]
def fh (x:ct):I:=.agg [.int .i64 x.Kind,.int .i64 x.Value]
theorem IC (x:ct):(fh x).share=fh x:=by
 simp only[fh,dr]
theorem YU (x:ct):(fh x).cS=true:=by
 simp only[fh,I.cS,I.hg,Bool.and_self]
def jr (x:amg):I:=.slice (x.map fh)
theorem ID (x:amg):(jr x).share=jr x:=by
 simp only[jr,dr, @cr _ fh fh (λ_=>IC _)]
def dA (x:bT):I:=.agg [.int .i64 x.Kind,.int .i64 x.Number,.str x.Name,.slice (x.cw.map jr)]
theorem De (x:bT):(dA x).share=dA x:=by
 simp only[dA,dr, @cr _ jr jr (λ_=>ID _)]
def b4 (x:bs):I:=.agg [.str x.Name,.int .i64 x.db,.slice (x.Body.map dA)]
theorem Df (x:bs):(b4 x).share=b4 x:=by
 simp only[b4,dr, @cr _ dA dA (λ_=>De _)]
def js (x:amg):I:=.ag 2 (x.map fh)
theorem IE (x:amg):(js x).share=jr x:=by
 simp only[js,jr,dr, @cr _ fh fh (λ_=>IC _)]
theorem OY (x:amg):(js x).cS=true:=by
 simp only[js,I.cS,I.hg,Bool.and_self, @jV _ fh (λ_=>YU _)]
def hC (x:bT):I:=.agg [.int .i64 x.Kind,.int .i64 x.Number,.str x.Name,.ag 1 (x.cw.map js)]
theorem IF (x:bT):(hC x).share=dA x:=by
 simp only[hC,dA,dr, @cr _ js jr (λ_=>IE _)]
theorem OZ (x:bT):(hC x).cS=true:=by
 simp only[hC,I.cS,I.hg,Bool.and_self, @jV _ js (λ_=>OY _)]
def fY (x:bs):I:=.agg [.str x.Name,.int .i64 x.db,.ag 4 (x.Body.map hC)]
theorem t_ (x:bs):(fY x).share=b4 x:=by
 simp only[fY,b4,dr, @cr _ hC dA (λ_=>IF _)]
theorem O0 (x:bs):(fY x).cS=true:=by
 simp only[fY,I.cS,I.hg,Bool.and_self, @jV _ hC (λ_=>OZ _)]
def Dg (x:amh):I:=.ag 4 (x.map hC)
def zU (x:amh):I:=.slice (x.map dA)
theorem ak0 (x:amh):(zU x).share=zU x:=by
 simp only[zU,dr, @cr _ dA dA (λ_=>De _)]
theorem ak1 (x:amh):(Dg x).share=zU x:=by
 simp only[Dg,zU,dr, @cr _ hC dA (λ_=>IF _)]
theorem ak2 (x:amh):(Dg x).cS=true:=by
 simp only[Dg,I.cS,I.hg,Bool.and_self, @jV _ hC (λ_=>OZ _)]
def Dh (x:alY):I:=.ag 1 (x.map js)
def zV (x:alY):I:=.slice (x.map jr)
theorem ak3 (x:alY):(zV x).share=zV x:=by
 simp only[zV,dr, @cr _ jr jr (λ_=>ID _)]
theorem ak4 (x:alY):(Dh x).share=zV x:=by
 simp only[Dh,zV,dr, @cr _ js jr (λ_=>IE _)]
theorem ak5 (x:alY):(Dh x).cS=true:=by
 simp only[Dh,I.cS,I.hg,Bool.and_self, @jV _ js (λ_=>OY _)]
def hj (x:dR):I:=.agg [.int .i64 x.b6,.slice (x.bL.map bj)]
theorem Di (x:dR):(hj x).share=hj x:=by
 simp only[hj,dr, @cr _ bj bj (λ_=>mA _)]
def gi (x:dR):I:=.agg [.int .i64 x.b6,.ag 1 (x.bL.map bj)]
theorem ua (x:dR):(gi x).share=hj x:=by
 simp only[gi,hj,dr, @cr _ bj bj (λ_=>mA _)]
theorem O1 (x:dR):(gi x).cS=true:=by
 simp only[gi,I.cS,I.hg,Bool.and_self, @jV _ bj (λ_=>Iw _)]
def ke (x:alQ):I:=.ag 1 (x.map bj)
theorem YV (x:alQ):(ke x).share=nH x:=by
 simp only[ke,nH,dr, @cr _ bj bj (λ_=>mA _)]
theorem ak6 (x:alQ):(ke x).cS=true:=by
 simp only[ke,I.cS,I.hg,Bool.and_self, @jV _ bj (λ_=>Iw _)]
def cq (x:cA):I:=.agg [.str x.Left,.str x.b_,.str x.Result]
theorem pd (x:cA):(cq x).share=cq x:=by
 simp only[cq,dr]
theorem O2 (x:cA):(cq x).cS=true:=by
 simp only[cq,I.cS,I.hg,Bool.and_self]
def pe (x:e1):I:=.agg [.ag 3 (x.dU.map fY),.ag 2 (x.cU.map gi),.ag 3 (x.gV.map cq),.ag 1 (x.gP.map cd),.ag 1 (x.gQ.map cd)]
def h3 (x:e1):I:=.agg [.slice (x.dU.map b4),.slice (x.cU.map hj),.slice (x.gV.map cq),.slice (x.gP.map cd),.slice (x.gQ.map cd)]
theorem ak7 (x:e1):(h3 x).share=h3 x:=by
 simp only[h3,dr, @cr _ b4 b4 (λ_=>Df _), @cr _ hj hj (λ_=>Di _), @cr _ cq cq (λ_=>pd _), @cr _ cd cd (λ_=>kA _)]
theorem YW (x:e1):(pe x).share=h3 x:=by
 simp only[pe,h3,dr, @cr _ fY b4 (λ_=>t_ _), @cr _ gi hj (λ_=>ua _), @cr _ cq cq (λ_=>pd _), @cr _ cd cd (λ_=>kA _)]
theorem ak8 (x:e1):(pe x).cS=true:=by
 simp only[pe,I.cS,I.hg,Bool.and_self, @jV _ fY (λ_=>O0 _), @jV _ gi (λ_=>O1 _), @jV _ cq (λ_=>O2 _), @jV _ cd (λ_=>OX _)]
def Dj (x:ami):I:=.ag 3 (x.map fY)
def zW (x:ami):I:=.slice (x.map b4)
theorem ak9 (x:ami):(zW x).share=zW x:=by
 simp only[zW,dr, @cr _ b4 b4 (λ_=>Df _)]
theorem ak_ (x:ami):(Dj x).share=zW x:=by
 simp only[Dj,zW,dr, @cr _ fY b4 (λ_=>t_ _)]
theorem ala (x:ami):(Dj x).cS=true:=by
 simp only[Dj,I.cS,I.hg,Bool.and_self, @jV _ fY (λ_=>O0 _)]
def Dk (x:amj):I:=.ag 2 (x.map gi)
def zX (x:amj):I:=.slice (x.map hj)
theorem alb (x:amj):(zX x).share=zX x:=by
 simp only[zX,dr, @cr _ hj hj (λ_=>Di _)]
theorem alc (x:amj):(Dk x).share=zX x:=by
 simp only[Dk,zX,dr, @cr _ gi hj (λ_=>ua _)]
theorem ald (x:amj):(Dk x).cS=true:=by
 simp only[Dk,I.cS,I.hg,Bool.and_self, @jV _ gi (λ_=>O1 _)]
def Dl (x:amk):I:=.ag 3 (x.map cq)
def zY (x:amk):I:=.slice (x.map cq)
theorem ale (x:amk):(zY x).share=zY x:=by
 simp only[zY,dr, @cr _ cq cq (λ_=>pd _)]
theorem alf (x:amk):(Dl x).share=zY x:=by
 simp only[Dl,zY,dr, @cr _ cq cq (λ_=>pd _)]
theorem alg (x:amk):(Dl x).cS=true:=by
 simp only[Dl,I.cS,I.hg,Bool.and_self, @jV _ cq (λ_=>O2 _)]
def Dm (x:alN):I:=.ag 1 (x.map cd)
theorem alh (x:alN):(Dm x).share=zT x:=by
 simp only[Dm,zT,dr, @cr _ cd cd (λ_=>kA _)]
theorem ali (x:alN):(Dm x).cS=true:=by
 simp only[Dm,I.cS,I.hg,Bool.and_self, @jV _ cd (λ_=>OX _)]
def c6 (x:aT):I:=.agg [.int .i64 x.b6,.int .i64 x.Part,.slice (x.bL.map bj)]
theorem YX (x:aT):(c6 x).share=c6 x:=by
 simp only[c6,dr, @cr _ bj bj (λ_=>mA _)]
def b0 (x:aT):I:=.agg [.int .i64 x.b6,.int .i64 x.Part,.ag 1 (x.bL.map bj)]
theorem qt (x:aT):(b0 x).share=c6 x:=by
 simp only[b0,c6,dr, @cr _ bj bj (λ_=>mA _)]
theorem IG (x:aT):(b0 x).cS=true:=by
 simp only[b0,I.cS,I.hg,Bool.and_self, @jV _ bj (λ_=>Iw _)]
def c7 (x:aml):I:=.slice (x.map c6)
theorem YY (x:aml):(c7 x).share=c7 x:=by
 simp only[c7,dr, @cr _ c6 c6 (λ_=>YX _)]
def ew (x:aml):I:=.ag 3 (x.map b0)
theorem Dn (x:aml):(ew x).share=c7 x:=by
 simp only[ew,c7,dr, @cr _ b0 c6 (λ_=>qt _)]
theorem O3 (x:aml):(ew x).cS=true:=by
 simp only[ew,I.cS,I.hg,Bool.and_self, @jV _ b0 (λ_=>IG _)]
def Dp (x:Bool×aml):I:=cond x.1 (.hole) (ew x.2)
theorem alj:(Dp∘λx=>(false,x))=ew:=rfl
theorem alk (x:aml):Dp (true,x)= .hole:=rfl
theorem alm {x:Bool×aml} (h:RF (!x.1)=some ()):Dp x=ew x.2:=by
 obtain⟨b,x⟩:=x;cases b
 .rfl
 .cases h
theorem aln (x:Bool×aml):(Dp x).wd=1:=by
 obtain⟨b,x⟩:=x;cases b<;>rfl
def eE (x:c5):I:=.agg [.int .i64 x.scope,.bool x.behind]
theorem O4 (x:c5):(eE x).share=eE x:=by
 simp only[eE,dr]
theorem YZ (x:c5):(eE x).cS=true:=by
 simp only[eE,I.cS,I.hg,Bool.and_self]
def zZ (x:Bool):I:=.bool x
theorem alo (x:Bool):(zZ x).share=zZ x:=by
 simp only[zZ,dr]
theorem alp (x:Bool):(zZ x).cS=true:=by
 simp only[zZ,I.cS,I.hg,Bool.and_self]
noncomputable def Y0:aI:=bI (bH 12 [0] Tryz.f166 [[0,1],[1],[1,10],[4],[4]])
noncomputable def Y1:aI:=bI (bH 27 [0] Tryz.f167 [[0,1],[0,1],[0,1,11],[4],[0,1,5],[0,1,5,15],[0,1,5],[0,1,5,25],[4],[0,1,5],[4]])
noncomputable def Y2:aI:=bI (bH 19 [0] Tryz.f264 [[1,2],[1,2],[1,2,11],[4],[1],[1,17],[4],[4]])
noncomputable def Y3:aI:=bI (bH 27 [0] Tryz.f210 [[0,1],[0,1],[0,1,11],[4],[0,1,5],[0,1,5,15],[0,1,5],[0,1,5,25],[4],[0,1,5],[4]])
noncomputable def Y4:aI:=bI (bH 19 [0] Tryz.f142 [[1,2],[1,2],[1,2,11],[4],[1],[1,17],[4],[4]])
noncomputable def Y5:aI:=bI (bH 27 [0] Tryz.f69 [[0,1],[0,1],[0,1,11],[4],[0,1,5],[0,1,5,15],[0,1,5],[0,1,5,25],[4],[0,1,5],[4]])
noncomputable def Y6:aI:=bI (bH 12 [0] Tryz.f41 [[0,1],[1],[1,10],[4],[4]])
noncomputable def Y7:aI:=bI (bH 12 [0] Tryz.f143 [[1,2],[1],[1,10],[4],[4]])
noncomputable def Y8:aI:=bI (bH 27 [0] Tryz.f70 [[0,1],[0,1],[0,1,11],[4],[0,1,5],[0,1,5,15],[0,1,5],[0,1,5,25],[4],[0,1,5],[4]])
noncomputable def Y9:aI:=bI (bH 27 [0] Tryz.f59 [[1,2],[1,2],[1,2,11],[4],[1,2],[1,2,18],[4],[1],[1,25],[4],[4]])
noncomputable def Y_:aI:=bI (bH 27 [0] Tryz.f18 [[0,1],[0,1],[0,1,11],[4],[0,1,5],[0,1,5,15],[0,1,5],[0,1,5,25],[4],[0,1,5],[4]])
noncomputable def Za:aI:=bI (bH 28 [0] Tryz.f71 [[0,1],[0,1],[0,1,11],[4],[0,1,5],[0,1,5,15],[0,1,5],[0,1,5,26],[4],[0,1,5],[4]])
noncomputable def Zb:aI:=bI (bH 36 [0] Tryz.f26 [[1,2],[1,2],[1,2,10],[4],[1,2],[1,2,16],[4],[1,2],[1,2,22],[4],[1,2],[1,2,28],[4],[1],[1,34],[4],[4]])
noncomputable def Zc:aI:=bI (bH 12 [0] Tryz.f72 [[1,2],[1],[1,10],[4],[4]])
noncomputable def z1:aI:=bI (bH 27 [0] Tryz.f27 [[0,1],[0,1],[0,1,11],[4],[0,1,5],[0,1,5,15],[0,1,5],[0,1,5,25],[4],[0,1,5],[4]])
noncomputable def Zd:aI:=bI (bH 11 [0] Tryz.f232 [[1,2],[1,2,3],[1,2,3],[2,3],[2]])
noncomputable def Ze:aI:=bI (bH 23 [0] Tryz.f174 [[0],[0,3],[0,3,4],[0,3,4,11],[0,3,4],[0,3,4],[2]])
noncomputable def Zf:aI:=bI (bH 23 [0] Tryz.f175 [[0],[0,3],[0,3,4],[0,3,4,11],[0,3,4],[0,3,4],[2]])
noncomputable def Zg:aI:=bI (bH 18 [0] Tryz.f270 [[1,2],[1,2,3],[1,2,3],[1,2,3],[1,2,3],[2,3],[2]])
noncomputable def Zh:aI:=bI (bH 23 [0] Tryz.f217 [[0],[0,3],[0,3,4],[0,3,4,11],[0,3,4],[0,3,4],[2]])
noncomputable def Zi:aI:=bI (bH 15 [0] Tryz.f151 [[1,2],[1,2,3],[1,2,3],[1,2,3],[2,3],[2]])
noncomputable def Zj:aI:=bI (bH 23 [0] Tryz.f76 [[0],[0,3],[0,3,4],[0,3,4,11],[0,3,4],[0,3,4],[2]])
noncomputable def z6:aI:=bI (bH 22 [0] Tryz.f47 [[0],[0,3],[0,3,4],[0,3,4,11],[0,3,4],[0,3,4],[2]])
noncomputable def Zk:aI:=bI (bH 12 [0] Tryz.f152 [[1,2],[1,2,3],[1,2,3],[2,3],[2]])
noncomputable def Zl:aI:=bI (bH 23 [0] Tryz.f77 [[0],[0,3],[0,3,4],[0,3,4,11],[0,3,4],[0,3,4],[2]])
noncomputable def Zm:aI:=bI (bH 14 [0] Tryz.f62 [[1,2],[1,2,3],[1,2,3],[1,2,3],[2,3],[2]])
noncomputable def Zn:aI:=bI (bH 23 [0] Tryz.f20 [[0],[0,3],[0,3,4],[0,3,4,11],[0,3,4],[0,3,4],[2]])
noncomputable def Zo:aI:=bI (bH 22 [0] Tryz.f78 [[0],[0,3],[0,3,4],[0,3,4,11],[0,3,4],[0,3,4],[2]])
noncomputable def Zp:aI:=bI (bH 25 [0] Tryz.f29 [[1,2],[1,2,3],[1,2,3],[1,2,3],[1,2,3],[1,2,3],[2,3],[2]])
noncomputable def Zq:aI:=bI (bH 15 [0] Tryz.f79 [[1,2],[1,2,3],[1,2,3],[1,2,3],[2,3],[2]])
noncomputable def Zr:aI:=bI (bH 23 [0] Tryz.f30 [[0],[0,3],[0,3,4],[0,3,4,11],[0,3,4],[0,3,4],[2]])
noncomputable def Zs:aI:=bI (bH 9 [0] Tryz.f242 [[0],[2]])
noncomputable def Zt:aI:=bI (bH 9 [0] Tryz.f243 [[0],[2]])
noncomputable def Zu:aI:=bI (bH 35 [0] Tryz.f189 [[0],[0,16],[2],[0,3],[0,3,20],[0,3,34],[2],[0,3],[2]])
noncomputable def Zv:aI:=bI (bH 15 [0,1,2] Tryz.f91 [[0,1,2],[6]])
noncomputable def Zw:aI:=bI (bH 13 [0] Tryz.f301 [[0],[6],[6,7],[6,7],[6,7],[2],[11],[2],[2]])
noncomputable def Zx:aI:=bI (bH 30 [0] Tryz.f299 [[0],[0,12],[2],[0,3],[0,3,4],[0,3,4,16],[0,3,4,20],[2],[0,3,4],[0,3,4],[2]])
noncomputable def Zy:aI:=bI (bH 73 [0] Tryz.f310 [[0],[0,6],[0,6,7],[0,6,7],[2],[0,6,30],[2],[0,6,37],[2],[0,6,51],[2],[0,66],[2],[2]])
noncomputable def Zz:aI:=bI (bH 18 [0] Tryz.f267 [[0,1],[0,1,5],[0,1,5,7],[0,1,5],[0,1,5],[4]])
noncomputable def ZA:aI:=bI (bH 38 [0,1] Tryz.f214 [[0,1],[0,1,5],[0,1,5,6],[0,1,5,6,13],[0,1,5,6,34],[0,1,5,6],[0,1,5,6],[4]])
noncomputable def ZB:aI:=bI (bH 39 [0,1] Tryz.f227 [[0,1],[0,1,8],[0,1,8,9],[4],[0,1,8,16],[4],[0,8,25],[4],[0,32],[4],[4]])
noncomputable def ZC:aI:=bI (bH 11 [0] Tryz.f228 [[0],[6],[6,7],[2],[9],[2],[2]])
noncomputable def ZD:aI:=bI (bH 38 [0,1,2] Tryz.f170 [[0,1,2],[0,1,12],[6],[0,1,7],[0,1,7,8],[0,1,7,8,16],[0,1,7,8,28],[6],[0,1,7,8],[0,1,7,8],[6]])
def b2 (r:List ch) (k:alR) (c:aI):aI:=.seq (.fN r (some k)) c
def ZE (r:List ch) (a:alP) (k:alR) (c:aI):aI:=.seq (.j7 r a (some k)) c
abbrev fO (d t:Nat) (o:ed):ch:=⟨some d,o,some (t,true)⟩
abbrev gj (d t:Nat) (o:ed):ch:=⟨some d,o,some (t,false)⟩
abbrev alq (n:Nat) (k:alR) (f:Func) (c:aI):Prop:=e5 ⟨n,k⟩ (f.body.getD .skip)=some c.strip
def O5:aI:=.cond (.t 28) (b2 [iA 6 3] [6] .ret) .skip
def O6:aI:=.cond (.t 51) (b2 [iA 6 4] [6] .ret) .skip
def ZF:aI:=.cond (.t 57) (b2 [cT 59 8,hi 60 .gtr 2 59 2,cT 61 60,gj 62 61 (.hB (.t 8)),gj 63 61 (.eU .gtr 2 (.t 62) (.c (.int .i64 0))),gj 64 61 (.hB (.t 63)),fO 65 64 (.ho 243 (.t 7) 2),fO 66 64 (.fk 9 (.t 65)),⟨some 67,.eU .eql 9 (.t 66) (.c (.str [116,97,117])),some (64,true)⟩,gj 68 61 (.pick (.t 64) (.t 67) (.c (.bool false))),ro 69 (.pick (.t 61) (.c (.bool true)) (.t 68))] [1,2,7,8,69] (.cond (.t 69) (b2 [iA 6 5] [6] .ret) .skip)) (b2 [hi 71 .eql 2 56 3,e6 70 71] [0,1,2,7,8,56,70] (.cond (.t 70) (b2 [cT 72 8,hi 73 .neq 2 72 1] [1,2,7,8,73] (.cond (.t 73) (b2 [iA 6 5] [6] .ret) .skip)) (b2 [hi 75 .eql 2 56 5,e6 74 75] [0,1,2,7,8,74] (.cond (.t 74) (b2 [cT 76 8,cT 77 0,hh 78 243 7 1,eZ 79 2 78,tI 80 57 77 79,hh 81 192 80 1,eZ 82 2 81,sk 83 .neq 2 76 82] [1,2,7,8,83] (.cond (.t 83) (b2 [iA 6 5] [6] .ret) .skip)) .skip))))
def O7:aI:=.cond (.t 102) (b2 [iA 6 6] [6] .ret) .skip
def O8:aI:=.seq (b2 [cT 113 10,cT 114 8,sk 115 .lss 2 113 114] [7,8,9,10,115] (.cond (.t 115) .skip (.exit 1))) (.seq (.block 2 (b2 [hh 118 243 7 3,eZ 119 87 118,cT 120 10,tI 121 87 119 120,eZ 122 86 121,cT 123 9,ro 124 (.call (.f 170) [(.t 122),(.t 123),(.c (.int .i64 15))]),sl 125 124] [7,8,9,10,125] (.cond (.t 125) (b2 [iA 6 8] [6] .ret) .skip))) (.fN [cT 116 10,hi 117 .add 2 116 1,e6 10 117] (some [7,8,9,10])))
def O9:aI:=.seq (b2 [hh 84 243 7 0,eZ 85 2 84,hi 86 .eql 2 85 5,cT 87 86,fO 88 87 (.hB (.t 2)),fO 89 87 (.eU .eql 2 (.t 88) (.c (.int .i64 0))),fO 90 87 (.hB (.t 89)),gj 91 90 (.hB (.t 1)),gj 92 90 (.kK (.t 91)),gj 93 90 (.ho 192 (.t 92) 2),gj 94 90 (.fk 190 (.t 93)),gj 95 90 (.hB (.t 2)),gj 96 90 (.eU .sub 2 (.t 95) (.c (.int .i64 1))),gj 97 90 (.jL 190 (.t 94) (.t 96)),gj 98 90 (.ho 243 (.t 97) 0),gj 99 90 (.fk 2 (.t 98)),gj 100 90 (.eU .neq 2 (.t 99) (.c (.int .i64 1))),fO 101 87 (.pick (.t 90) (.c (.bool true)) (.t 100)),ro 102 (.pick (.t 87) (.t 101) (.c (.bool false)))] [1,2,7,8,102] O7) (b2 [cT 103 1,cT 104 2,kV 105 214 103 104,e6 9 105] [7,8,9] (.seq (b2 [hh 106 243 7 0,eZ 107 2 106,hi 108 .eql 2 107 4,cT 109 108,fO 110 109 (.hB (.t 9)),fO 111 109 (.eU .geq 2 (.t 110) (.c (.int .i64 6))),ro 112 (.pick (.t 109) (.t 111) (.c (.bool false)))] [7,8,9,112] (.cond (.t 112) (b2 [iA 6 7] [6] .ret) .skip)) (.seq (b2 [iA 10 0] [7,8,9,10] (.block 1 (.loop O8))) (b2 [iA 6 0] [6] .ret))))
def ZG:aI:=.seq (b2 [hh 29 243 7 0,eZ 30 2 29,hi 31 .eql 2 30 4,cT 32 31,fO 33 32 (.ho 243 (.t 7) 1),fO 34 32 (.fk 2 (.t 33)),⟨some 35,.call (.f 91) [(.t 34),(.c (.int .i64 1)),(.c (.int .i64 7))],some (32,true)⟩,fO 36 32 (.un .not (.t 35)),ro 37 (.pick (.t 32) (.t 36) (.c (.bool false))),cT 38 37,gj 39 38 (.ho 243 (.t 7) 0),gj 40 38 (.fk 2 (.t 39)),gj 41 38 (.eU .eql 2 (.t 40) (.c (.int .i64 5))),gj 42 38 (.hB (.t 41)),fO 43 42 (.ho 243 (.t 7) 1),fO 44 42 (.fk 2 (.t 43)),fO 45 42 (.hB (.t 0)),fO 46 42 (.len 57 (.t 45)),fO 47 42 (.eU .sub 2 (.t 46) (.c (.int .i64 1))),⟨some 48,.call (.f 91) [(.t 44),(.c (.int .i64 0)),(.t 47)],some (42,true)⟩,fO 49 42 (.un .not (.t 48)),gj 50 38 (.pick (.t 42) (.t 49) (.c (.bool false))),ro 51 (.pick (.t 38) (.c (.bool true)) (.t 50))] [0,1,2,7,51] O6) (b2 [hh 52 243 7 3,eZ 53 87 52,yq 54 87 53,e6 8 54] [0,1,2,7,8] (.seq (b2 [hh 55 243 7 0,eZ 56 2 55] [0,1,2,7,8,56] (.block 0 (b2 [hi 58 .eql 2 56 1,e6 57 58] [0,1,2,7,8,56,57] ZF))) O9))
def ZH:aI:=b2 [cT 11 1,W5 12 11,hh 13 192 12 2,eZ 14 190 13,cT 15 2,tI 16 190 14 15,eZ 17 243 16,yr 7 243,sm 243 7 17] [0,1,2,7] (.seq (b2 [mU 18 310 7,sl 19 18] [0,1,2,7,19] (.cond (.t 19) (b2 [iA 6 2] [6] .ret) .skip)) (.seq (b2 [hh 20 243 7 0,eZ 21 2 20,hi 22 .eql 2 21 1,cT 23 22,fO 24 23 (.ho 243 (.t 7) 2),fO 25 23 (.fk 9 (.t 24)),⟨some 26,.call (.f 189) [(.t 25)],some (23,true)⟩,fO 27 23 (.un .not (.t 26)),ro 28 (.pick (.t 23) (.t 27) (.c (.bool false)))] [0,1,2,7,28] O5) ZG))
def ZI:aI:=b2 [iA 6 0] [0,1,2] ZH
noncomputable def ZJ:aI:=bI (bH 31 [0,1] Tryz.f265 [[0,1],[0,1,13],[4,5],[0,1,6],[0,1,6,20],[0,1,6,7],[0,1,6,7,28],[4,5],[0,1,6],[4,5]])
noncomputable def ZK:aI:=bI (bH 70 [0] Tryz.f211 [[0],[0,15],[2],[0,3],[0,3,19],[0,3,37],[2],[0,3,4],[0,3,4,40],[0,3,4,53],[2],[0,3,4],[0,3],[0,5],[0,5,57],[0,5,7],[0,5,69],[2],[0,5],[2]])
noncomputable def ZL:aI:=bI (bH 16 [0] Tryz.f168 [[0],[0,3],[0,3,7],[0,3,15],[2],[0,3],[2]])
noncomputable def ZM:aI:=bI (bH 64 [0] Tryz.f212 [[0],[0,18],[2],[0,3],[0,3,25],[0,3,4],[0,3,4,44],[2],[0,3,63],[2],[0,3],[2]])
def ZN:aI:=b2 [lG 2 false] [0] (b2 [cT 3 0,mU 4 189 3,cT 5 4,fO 6 5 (.hB (.t 0)),⟨some 7,.eU .neq 9 (.t 6) (.c (.str [116,97,117])),some (5,true)⟩,ro 8 (.pick (.t 5) (.t 7) (.c (.bool false))),e6 2 8] [2] .ret)
noncomputable def ZO:aI:=bI (bH 101 [0] Tryz.f60 [[0],[0,8],[2],[0,3],[0,3,12],[0,3,4],[0,3,4,41],[2],[0,3,4,76],[2],[0,3,4,5],[0,3,4,5,80],[0,3,4,5,100],[2],[0,3,4,5],[0,3],[2]])
noncomputable def ZP:aI:=bI (bH 16 [0] Tryz.f266 [[0],[0,3],[0,3,7],[0,3,15],[2],[0,3],[2]])
noncomputable def ZQ:aI:=bI (bH 28 [0] Tryz.f213 [[0],[0,11],[2],[0,3],[0,3,15],[0,3,27],[2],[0,3],[2]])
noncomputable def ZR:aI:=bI (bH 30 [0] Tryz.f144 [[0],[0,8],[2],[0,11],[2],[0,17],[2],[0,23],[2],[29],[2],[2]])
noncomputable def ZS:aI:=bI (bH 6 [0] Tryz.f73 [[0],[2]])
noncomputable def ZT:aI:=bI (bH 62 [0,1] Tryz.f145 [[0,1],[0,1,14],[4],[1,5],[1,5,43],[4],[4]])
noncomputable def ZU:aI:=bI (bH 29 [0,1] Tryz.f74 [[0,1],[0,1,13],[4],[0,1,5],[0,1,5,17],[0,1,5,28],[4],[0,1,5],[4]])
noncomputable def ZV:aI:=bI (bH 16 [0] Tryz.f146 [[0],[0,3],[0,3,4],[0,3,4,8],[0,3,4],[0,3,4],[2]])
noncomputable def ZW:aI:=bI (bH 6 [0] Tryz.f95 [[0],[2]])
noncomputable def ZX:aI:=bI (bH 34 [0,1] Tryz.f147 [[0,1],[0,1,5],[0,1,5,6],[0,1,5,6,12],[0,1,5,6,7],[0,1,5,6],[0,1,5,6],[4]])
noncomputable def ZY:aI:=bI (bH 46 [0,1] Tryz.f268 [[0,1],[0,1,5],[0,1,5,15],[0,1,5,26],[4],[0,1,5,35],[4],[0,1,5],[0,1,40],[4],[45],[4],[4]])
noncomputable def ZZ:aI:=bI (bH 41 [0,1] Tryz.f215 [[0,1],[0,1,5],[0,1,5,6],[0,1,7],[0,1,7,30],[4],[4]])
noncomputable def Z0:aI:=bI (bH 24 [0,1] Tryz.f148 [[0,1],[0,1,5],[0,1,5,10],[0,1,5,6],[0,1,5,6,21],[4],[0,1,5],[4]])
noncomputable def Z1:aI:=bI (bH 26 [0,1] Tryz.f269 [[0,1],[0,1,10],[4],[0,1,5],[0,1,5,14],[0,1,5,25],[4],[0,1,5],[4]])
noncomputable def Z2:aI:=bI (bH 36 [0,1] Tryz.f216 [[0,1],[4]])
noncomputable def Z3:aI:=bI (bH 25 [0,1] Tryz.f149 [[0,1],[0,1,10],[4],[0,1,5],[0,1,5,14],[0,1,5,24],[4],[0,1,5],[4]])
noncomputable def Z4:aI:=bI (bH 86 [0] Tryz.f150 [[0],[0,3],[0,3,25],[0,3],[0,3,29],[0,2],[0,3,4],[0,3,4,41],[0,3,4],[0,3,4,5],[0,3,4,5],[0,3],[0,6],[0,6,7],[0,6,7,66],[0,6,7,8],[0,6,7,8],[0,6,7],[0,6,7],[0,6,7],[0,2]])
noncomputable def Z5:aI:=bI (bH 69 [0] Tryz.f75 [[0],[0,3],[0,3,4],[0,3,4,5],[0,3,4,5,6],[0,3,4,5,6,27],[0,3,4,5,6],[0,3,4,5,6,41],[0,3,4,5,6],[0,3,4,5,6,7],[0,3,4,5,6,7,50],[0,3,4,5,6,7],[0,3,4,5,6,7],[0,3,4],[0,3,4,67],[0,2]])
noncomputable def Z6:aI:=bI (bH 15 [0,1] Tryz.f34 [[1,2],[1,12],[1,4,5],[1,4,5]])
noncomputable def Z7:aI:=bI (bH 15 [0,1,2] Tryz.f99 [[0,1,2],[6]])
noncomputable def Z8:aI:=bI (bH 7 [0] Tryz.f312 [[1],[2]])
noncomputable def Z9:aI:=bI (bH 19 [0,1] Tryz.f313 [[0,1],[0,1,7,8],[0,1,7,8,9],[0,1,5,7,8],[0,1,5,7,8,16],[4],[0,1,7,8],[4]])
noncomputable def Z_:aI:=bI (bH 9 [0,1] Tryz.f311 [[0,1],[4]])
noncomputable def aaa:aI:=bI (bH 6 [0] Tryz.f302 [[0],[2]])
noncomputable def aab:aI:=bI (bH 9 [0] Tryz.f247 [[0],[2]])
noncomputable def aac:aI:=bI (bH 42 [0] Tryz.f193 [[0],[0,6,7],[0,6,7,8],[0,3,6,7],[0,3,4,6,7],[0,6,7,32],[2],[0,6,7],[2]])
noncomputable def aad:aI:=bI (bH 8 [0,1] Tryz.f314 [[1,2],[3]])
noncomputable def aae:aI:=bI (bH 19 [0,1] Tryz.f313 [[0,1],[0,1,7,8],[0,1,7,8,9],[0,1,5,7,8],[0,1,5,7,8,16],[4],[0,1,7,8],[4]])
noncomputable def aaf:aI:=bI (bH 8 [0,1] Tryz.f303 [[0,3],[4]])
noncomputable def aag:aI:=bI (bH 11 [0] Tryz.f277 [[1],[4],[4,5],[4,5],[4,5],[2],[9],[2],[2]])
noncomputable def aah:aI:=bI (bH 25 [0] Tryz.f315 [[1,2],[1,2,5],[1,2,5,7],[1,2,5,14],[4],[1,2,5],[1,2,5],[4]])
def aai:aI:=.fN [hh 29 253 9 0,eZ 30 2 29,hi 31 .add 2 30 1,hh 32 253 9 0,sm 2 32 31] (some [0,2,3,4,8,9])
def aaj:aI:=.cond (.t 28) aai .skip
def aak:aI:=.fN [hi 43 .add 3 37 1,cT 37 43] (some [2,3,4,9,10,36,37])
def aal:aI:=.seq (.block 1 (.iQ (F9 ak 276 4 2 39 ((range 3).map (·+2)) [cT 40 10,eZ 41 253 9] [(.t 40),(.t 41)] (some 42) [e6 10 42] [2,3,4,9,10,36,37]) (NV 301 4 39 [cT 40 10,eZ 41 253 9] [(.t 40),(.t 41)] (some 42) [e6 10 42]))) aak
def aam:aI:=.seq (.cond (.t 38) .skip (.exit 0)) aal
def O_:aI:=b2 [sk 38 .lss 3 37 36] [2,3,4,9,10,36,37,38] aam
def aan:aI:=.block 0 (.loop O_)
def aao:aI:=b2 [cT 44 10,e6 7 44] [2,3,4,7] .ret
def aap:aI:=.seq (b2 [eZ 35 243 8,mU 36 277 35,On 37 0] [2,3,4,9,10,36,37] aan) aao
def Pa:aI:=b2 [cT 33 0,hi 34 .add 3 33 1,e6 10 34] [2,3,4,8,9,10] aap
def aaq:aI:=.seq (b2 [hh 26 243 8 0,eZ 27 2 26,hi 28 .eql 2 27 4] [0,2,3,4,8,9,28] aaj) Pa
def aar:aI:=b2 [hh 20 253 6 0,eZ 21 2 20,hh 22 243 8 0,eZ 23 2 22,hi 24 .eql 2 23 1,ro 25 (.hd 253 [(0,(.t 21)),(1,(.t 24))]),yr 9 253,sm 253 9 25] [0,2,3,4,8,9] aaq
def aas:aI:=b2 [hh 15 192 3 2,eZ 16 190 15,cT 17 0,tI 18 190 16 17,eZ 19 243 18,yr 8 243,sm 243 8 19] [0,2,3,4,6,8] aar
def aat:aI:=b2 [eZ 11 254 2,cT 12 0,eZ 13 253 6,tI 14 254 11 12,sm 253 14 13] [0,2,3,4,6] aas
def Pb:aI:=b2 [ro 6 (.iw 253 (.t 1)),iA 7 0] [0,2,3,4,6] aat
theorem aau:Pb.mQ (BQ ak 276 [0,1,2,3,4] 5 2 4):=And.intro (True.intro) (And.intro (True.intro) (And.intro (True.intro) (And.intro (True.intro) (And.intro (And.intro (True.intro) (And.intro (True.intro) (True.intro))) (And.intro (True.intro) (And.intro (And.intro (True.intro) (And.intro (True.intro) (And.intro (And.intro (True.intro) (True.intro)) (And.intro (⟨301,2,39,3,_,_,_,_,_,rfl,rfl,(by kernel_rfl),rfl,rfl,rfl,rfl,rfl,rfl,rfl⟩) (True.intro))))) (And.intro (True.intro) (True.intro))))))))
theorem aav:e5 ⟨45,[0,1,2,3,4]⟩ (Tryz.f276.body.getD .skip)=some Pb.strip:=by kernel_rfl
def IH:aI:=b2 [eZ 15 254 3,e6 2 15] [2] .ret
def aaw:aI:=b2 [eZ 10 301 4,hh 11 192 1 1,eZ 12 2 11,ro 13 (.hd 253 [(0,(.t 12))]),ro 14 (.call (.t 10) [(.c (.int .i64 0)),(.t 13)])] [3] IH
def alr:aI:=b2 [ro 9 (.mL 276 [(.t 3),(.t 1),(.t 4)]),sm 301 4 9] [1,3,4] aaw
def aax:aI:=.iQ (Gc ak 276 4 2 10 9 [3,1,4] [hh 11 192 1 1,eZ 12 2 11,ro 13 (.hd 253 [(0,(.t 12))])] [(.c (.int .i64 0)),(.t 13)] (some 14) [3] IH) (N0 301 276 4 10 9 [3,1,4] [hh 11 192 1 1,eZ 12 2 11,ro 13 (.hd 253 [(0,(.t 12))])] [(.c (.int .i64 0)),(.t 13)] (some 14) IH.kO)
def aay:aI:=b2 [hh 5 192 1 2,eZ 6 190 5,yq 7 190 6,ro 8 (.eK 254 (.t 7) (.t 7)),yr 3 254,sm 254 3 8] [1,3] aax
def Pc:aI:=b2 [ro 1 (.iw 192 (.t 0)),Gn 2] [1] aay
theorem aaz:Pc.mQ (yn ak):=And.intro (True.intro) (And.intro (True.intro) (⟨301,276,4,2,10,9,_,_,_,_,_,_,rfl,rfl,(by kernel_rfl),⟨Tryz.t301,_,_,(by kernel_rfl),rfl,rfl,rfl,rfl⟩,rfl,rfl,rfl,rfl,(by kernel_rfl)⟩))
theorem aaA:e5 ⟨16,[0]⟩ (Tryz.f221.body.getD .skip)=some Pc.strip:=by kernel_rfl
noncomputable def aaB:aI:=bI (bH 56 [0] Tryz.f318 [[1],[1,3],[1,3,4],[2]])
def aaC:aI:=b2 [lG 2 false] [0] (b2 [cT 3 0,mU 4 193 3,cT 5 4,fO 6 5 (.hB (.t 0)),⟨some 7,.eU .neq 9 (.t 6) (.c (.str [116,97,117])),some (5,true)⟩,ro 8 (.pick (.t 5) (.t 7) (.c (.bool false))),e6 2 8] [2] .ret)
noncomputable def aaD:aI:=bI (bH 9 [0,1] Tryz.f220 [[0,1],[4]])
def aaE:aI:=.cond (.t 11) (b2 [cT 13 5,hi 14 .eql 3 13 0,cT 15 14,gj 16 15 (.ho 243 (.t 2) 2),gj 17 15 (.fk 9 (.t 16)),⟨some 18,.eU .neq 9 (.t 17) (.c (.str [116,97,117])),some (15,false)⟩,gj 19 15 (.hB (.t 18)),fO 20 19 (.hB (.t 5)),fO 21 19 (.eU .leq 3 (.t 20) (.c (.int .i64 2))),gj 22 15 (.pick (.t 19) (.t 21) (.c (.bool false))),ro 23 (.pick (.t 15) (.c (.bool true)) (.t 22)),e6 4 23] [4] .ret) (b2 [hi 25 .eql 2 10 3,e6 24 25] [1,2,5,10,24] (.cond (.t 24) (b2 [cT 26 5,hi 27 .eql 3 26 1,e6 4 27] [4] .ret) (b2 [hi 29 .eql 2 10 5,e6 28 29] [1,2,5,28] (.cond (.t 28) (b2 [cT 30 5,cT 31 1,hh 32 243 2 1,eZ 33 2 32,tI 34 57 31 33,hh 35 192 34 1,eZ 36 2 35,sk 37 .eql 2 30 36,e6 4 37] [4] .ret) .skip))))
def aaF:aI:=b2 [ro 2 (.iw 243 (.t 0)),lG 4 false] [1,2] (b2 [hh 6 243 2 3,eZ 7 87 6,yq 8 87 7,e6 5 8] [1,2,5] (.seq (b2 [hh 9 243 2 0,eZ 10 2 9] [1,2,5,10] (.block 0 (b2 [hi 12 .eql 2 10 1,e6 11 12] [1,2,5,10,11] aaE))) (b2 [lG 4 true] [4] .ret)))
noncomputable def aaG:aI:=bI (bH 5 [0] Tryz.f235 [[0],[2]])
noncomputable def aaH:aI:=bI (bH 29 [0,1] Tryz.f237 [[1,2],[1,2,6],[1,2,6,7],[4],[1,2,6,12],[4],[2,6,19],[4],[2,24],[4],[4]])
noncomputable def aaI:aI:=bI (bH 9 [0] Tryz.f238 [[1],[4],[4,5],[2],[7],[2],[2]])
noncomputable def aaJ:aI:=bI (bH 47 [0,1,2] Tryz.f182 [[0,1,2],[0,1,24],[6],[0,1,7],[1,7,25,26,27],[1,7,25,26,27,28],[1,7,9,25,26,27],[1,7,9,25,26,27,38],[6],[1,7,25,26,27],[1,7,25,26,27],[6]])
noncomputable def aaK:aI:=bI (bH 9 [0,1] Tryz.f320 [[0,1],[3]])
noncomputable def aaL:aI:=bI (bH 19 [0,1] Tryz.f236 [[0,1],[0,1,7,8],[0,1,7,8,9],[0,1,5,7,8],[0,1,5,7,8,16],[4],[0,1,7,8],[4]])
noncomputable def aaM:aI:=bI (bH 9 [0,1] Tryz.f179 [[0,1],[4]])
def aaN:aI:=b2 [hh 55 243 3 0,eZ 56 2 55,hi 57 .eql 2 56 5,cT 58 57,fO 59 58 (.ho 253 (.t 5) 1),fO 60 58 (.fk 4 (.t 59)),fO 61 58 (.un .not (.t 60)),ro 62 (.pick (.t 58) (.t 61) (.c (.bool false))),e6 54 62] [3,5,54] (.cond (.t 54) (b2 [iA 6 6] [6] .ret) (b2 [hh 64 243 3 0,eZ 65 2 64,hi 66 .eql 2 65 4,cT 67 66,fO 68 67 (.ho 253 (.t 5) 0),fO 69 67 (.fk 2 (.t 68)),fO 70 67 (.eU .geq 2 (.t 69) (.c (.int .i64 6))),ro 71 (.pick (.t 67) (.t 70) (.c (.bool false))),e6 63 71] [3,5,63] (.cond (.t 63) (b2 [iA 6 7] [6] .ret) (b2 [hh 73 243 3 3,eZ 74 87 73,ro 75 (.mL 320 [(.t 5)]),kV 76 179 74 75,e6 72 76] [72] (.cond (.t 72) (b2 [iA 6 8] [6] .ret) .skip)))))
def Pd:aI:=.cond (.t 26) (b2 [iA 6 4] [6] .ret) (b2 [eZ 50 243 3,cT 51 1,kV 52 319 50 51,sl 53 52,e6 49 53] [3,5,49] (.cond (.t 49) (b2 [iA 6 5] [6] .ret) aaN))
def aaO:aI:=b2 [hh 27 243 3 0,eZ 28 2 27,hi 29 .eql 2 28 4,cT 30 29,fO 31 30 (.ho 243 (.t 3) 1),fO 32 30 (.fk 2 (.t 31)),⟨some 33,.call (.f 99) [(.t 32),(.c (.int .i64 1)),(.c (.int .i64 7))],some (30,true)⟩,fO 34 30 (.un .not (.t 33)),ro 35 (.pick (.t 30) (.t 34) (.c (.bool false))),cT 36 35,gj 37 36 (.ho 243 (.t 3) 0),gj 38 36 (.fk 2 (.t 37)),gj 39 36 (.eU .eql 2 (.t 38) (.c (.int .i64 5))),gj 40 36 (.hB (.t 39)),fO 41 40 (.ho 243 (.t 3) 1),fO 42 40 (.fk 2 (.t 41)),fO 43 40 (.hB (.t 1)),fO 44 40 (.len 57 (.t 43)),⟨some 45,.call (.f 220) [(.t 42),(.t 44)],some (40,true)⟩,fO 46 40 (.un .not (.t 45)),gj 47 36 (.pick (.t 40) (.t 46) (.c (.bool false))),ro 48 (.pick (.t 36) (.c (.bool true)) (.t 47)),e6 26 48] [1,3,5,26] Pd
def Pe:aI:=.cond (.t 11) (b2 [iA 6 3] [6] .ret) aaO
def aaP:aI:=.seq (.block 0 (b2 [eZ 8 243 3,mU 9 318 8,sl 10 9,e6 7 10] [1,3,5,7] (.cond (.t 7) (b2 [iA 6 2] [6] .ret) (b2 [hh 12 243 3 0,eZ 13 2 12,hi 14 .eql 2 13 1,cT 15 14,fO 16 15 (.ho 243 (.t 3) 2),fO 17 15 (.fk 9 (.t 16)),⟨some 18,.eU .neq 9 (.t 17) (.c (.str [116,97,117])),some (15,true)⟩,ro 19 (.pick (.t 15) (.t 18) (.c (.bool false))),cT 20 19,fO 21 20 (.ho 243 (.t 3) 2),fO 22 20 (.fk 9 (.t 21)),⟨some 23,.call (.f 130) [(.t 22)],some (20,true)⟩,fO 24 20 (.un .not (.t 23)),ro 25 (.pick (.t 20) (.t 24) (.c (.bool false))),e6 11 25] [1,3,5,11] Pe)))) (b2 [iA 6 0] [6] .ret)
def aaQ:aI:=b2 [ro 3 (.iw 243 (.t 0)),ro 5 (.iw 253 (.t 2)),iA 6 0] [1,3,5] aaP
noncomputable def aaR:aI:=bI (bH 45 [0,1] Tryz.f304 [[0,3],[0,3,22],[4,5],[0,3,6],[0,6,26,27,28],[0,6,26,27,28,29],[0,6,7,8,26,27,28],[0,6,7,9,26,27,28],[0,6,7,9,26,27,28,41],[4,5],[0,6,26,27,28],[4,5]])
noncomputable def aaS:aI:=bI (bH 45 [0] Tryz.f271 [[0],[0,15],[2],[0,16,17,18],[0,16,17,18,19],[0,3,4,16,17,18],[0,4,16,17,18,35],[2],[0,6,16,17,18],[0,16,17,18,43],[2],[0,16,17,18],[2]])
noncomputable def aaT:aI:=bI (bH 6 [0] Tryz.f234 [[0],[2]])
noncomputable def aaU:aI:=bI (bH 19 [0,1] Tryz.f183 [[0,1],[0,1,7,8],[0,1,7,8,9],[0,1,5,7,8],[0,1,5,7,8,16],[4],[0,1,7,8],[4]])
noncomputable def aaV:aI:=bI (bH 9 [0,1] Tryz.f233 [[0,1],[4]])
noncomputable def aaW:aI:=bI (bH 6 [0] Tryz.f176 [[0],[2]])
noncomputable def aaX:aI:=bI (bH 27 [0,1] Tryz.f274 [[0,3],[4]])
noncomputable def aaY:aI:=bI (bH 9 [0,1] Tryz.f273 [[1,2],[3]])
noncomputable def aaZ:aI:=bI (bH 19 [0,1] Tryz.f305 [[0,1],[0,1,7,8],[0,1,7,8,9],[0,1,5,7,8],[0,1,5,7,8,16],[4],[0,1,7,8],[4]])
noncomputable def aa0:aI:=bI (bH 9 [0,1] Tryz.f272 [[0,1],[4]])
noncomputable def aa1:aI:=bI (bH 6 [0] Tryz.f291 [[0],[2]])
noncomputable def aa2:aI:=bI (bH 20 [0,1] Tryz.f248 [[0,1],[0,1,5],[0,1,5,6],[0,1,6,11],[12],[4],[4],[0,1,13],[4],[0,1,16],[4],[19],[4],[4]])
noncomputable def aa3:aI:=bI (bH 36 [0,1] Tryz.f194 [[0,1],[0,1,9,10,11],[0,1,9,10,11,12],[0,1,5,6,9,10,11],[0,1,5,6,9,10,11,19],[4],[0,1,6,7,9,10,11],[0,1,8,9,10,11],[0,1,8,9,10,11,28],[4],[0,1,9,10,11],[35],[4],[4]])
noncomputable def aa4:aI:=bI (bH 16 [0,1] Tryz.f131 [[2,3],[4]])
noncomputable def aa5:aI:=bI (bH 16 [0,1] Tryz.f133 [[1,2],[3]])
noncomputable def aa6:aI:=bI (bH 19 [0,1] Tryz.f195 [[0,1],[0,1,7,8],[0,1,7,8,9],[0,1,5,7,8],[0,1,5,7,8,16],[4],[0,1,7,8],[4]])
noncomputable def aa7:aI:=bI (bH 9 [0,1] Tryz.f132 [[0,1],[4]])
noncomputable def aa8:aI:=bI (bH 56 [0] Tryz.f63 [[0],[0,5,6,7],[0,5,6,7,8],[0,3,4,5,6,7],[0,4,5,6,7,48],[2],[0,5,6,7,51],[2],[0,5,6,7],[2]])
noncomputable def aa9:aI:=bI (bH 32 [0] Tryz.f275 [[0],[0,5,6,7],[0,5,6,7,8],[0,3,4,5,6,7],[0,5,6,7,27],[2],[0,5,6,7],[2]])
noncomputable def aa_:aI:=bI (bH 35 [0] Tryz.f218 [[1],[1,3],[2],[1,8],[2],[1,20],[2],[1,25],[2],[30],[2],[2]])
noncomputable def aba:aI:=bI (bH 6 [0] Tryz.f153 [[1],[2]])
noncomputable def abb:aI:=bI (bH 56 [0,1] Tryz.f156 [[0,3],[0,3,24],[4],[3,5],[4]])
noncomputable def abc:aI:=bI (bH 9 [0,1] Tryz.f155 [[1,2],[3]])
noncomputable def abd:aI:=bI (bH 19 [0,1] Tryz.f219 [[0,1],[0,1,7,8],[0,1,7,8,9],[0,1,5,7,8],[0,1,5,7,8,16],[4],[0,1,7,8],[4]])
noncomputable def abe:aI:=bI (bH 9 [0,1] Tryz.f154 [[0,1],[4]])
noncomputable def abf:aI:=bI (bH 21 [0,1] Tryz.f80 [[1,2],[4]])
noncomputable def abg:aI:=bI (bH 19 [0,1] Tryz.f120 [[0,1],[0,1,7,8],[0,1,7,8,9],[0,1,5,7,8],[0,1,5,7,8,16],[4],[0,1,7,8],[4]])
noncomputable def abh:aI:=bI (bH 9 [0,1] Tryz.f112 [[0,1],[4]])
noncomputable def abi:aI:=bI (bH 8 [0] Tryz.f106 [[0],[0,4],[2],[2]])
noncomputable def abj:aI:=bI (bH 39 [0] Tryz.f157 [[0],[0,3],[0,3,9,10],[0,3,9,10,11],[0,3,4,9,10],[0,3,4,9,10,12,13,14],[0,3,4,9,10,12,13,14,15],[0,3,4,6,9,10,12,13,14],[0,3,4,6,9,10,12,13,14,18,19],[0,3,4,6,9,10,12,13,14,18,19,20],[0,3,4,6,7,9,10,12,13,14,18,19],[0,3,4,6,7,9,10,12,13,14,18,19,25],[0,3,4,6,9,10,12,13,14,18,19],[0,3,4,6,9,10,12,13,14,18,19],[0,3,4,9,10,12,13,14],[0,3,9,10],[0,3,9,10],[2]])
noncomputable def abk:aI:=bI (bH 8 [0] Tryz.f222 [[1,2],[1,2],[2]])
noncomputable def abl:aI:=bI (bH 24 [0,1] Tryz.f158 [[0,1],[0,1,5],[0,5,8,9,10],[0,5,8,9,10,11],[0,5,7,8,9,10],[0,5,8,9,10],[0,5,8,9,10],[4]])
noncomputable def abm:aI:=bI (bH 6 [0] Tryz.f298 [[0],[2]])
noncomputable def abn:aI:=bI (bH 20 [0,1] Tryz.f287 [[0,1],[0,1,5],[0,1,5,6],[0,1,6,11],[12],[4],[4],[0,1,13],[4],[0,1,16],[4],[19],[4],[4]])
noncomputable def abo:aI:=bI (bH 36 [0,1] Tryz.f288 [[0,1],[0,1,9,10,11],[0,1,9,10,11,12],[0,1,5,6,9,10,11],[0,1,5,6,9,10,11,19],[4],[0,1,6,7,9,10,11],[0,1,8,9,10,11],[0,1,8,9,10,11,28],[4],[0,1,9,10,11],[35],[4],[4]])
noncomputable def abp:aI:=bI (bH 18 [0] Tryz.f286 [[0],[0,3],[3,6,7,8],[3,6,7,8,9],[3,5,6,7,8],[3,5,6,7,8,14],[2],[3,6,7,8],[2]])
noncomputable def abq:aI:=bI (bH 22 [0,1] Tryz.f225 [[2,3],[4]])
noncomputable def abr:aI:=bI (bH 39 [0,1,2] Tryz.f224 [[0,1,2],[0,1,2,11,12,13],[0,1,2,11,12,13,14],[0,1,2,7,8,11,12,13],[0,1,2,7,8,11,12,13,21],[6],[0,1,2,8,9,11,12,13],[0,1,2,10,11,12,13],[0,1,2,10,11,12,13,31],[6],[0,1,2,11,12,13],[38],[6],[6]])
noncomputable def abt:aI:=bI (bH 8 [0,1] Tryz.f160 [[0,1],[4]])
noncomputable def abu:aI:=bI (bH 9 [0,1] Tryz.f162 [[0,1],[4]])
def Pf:aI:=b2 [sk 11 .lss 3 10 9] [0,3,8,9,10,11] (.seq (.cond (.t 11) .skip (.exit 0)) (.seq (.block 1 (b2 [tI 12 200 8 10,eZ 13 22 12,⟨some 5,.ns (.t 13),none⟩] [0,3,5,8,9,10] (.fN [cT 14 3,cT 15 0,cT 16 5,kV 17 158 15 16,Oo 18 67 17,W6 19 67 67 14 18,e6 3 19] (some [0,3,8,9,10])))) (.fN [hi 20 .add 3 10 1,cT 10 20] (some [0,3,8,9,10]))))
def abv:aI:=b2 [Gn 2] [0] (b2 [Gn 3] [0,3] (.seq (b2 [cT 6 0,yq 7 62 6,mU 8 157 7,yq 9 200 8,On 10 0] [0,3,8,9,10] (.block 0 (.loop Pf))) (b2 [cT 21 3,ro 22 (.call (.f 159) [(.t 21),(.f 160)])] [3] (b2 [cT 23 3,ro 24 (.call (.f 161) [(.t 23),(.f 162)]),e6 2 24] [2] .ret))))
noncomputable def abw:aI:=bI (bH 12 [0,1] Tryz.f35 [[1,2],[1,9],[4,5],[4,5]])
noncomputable def abx:aI:=bI (bH 26 [0,1] Tryz.f13 [[0,1],[0,1,10],[4],[0,1,5],[0,1,5,14],[0,1,5,25],[4],[0,1,5],[4]])
noncomputable def aby:aI:=bI (bH 21 [0,1] Tryz.f85 [[2,3],[2,3,9],[4],[2,3,14],[4],[20],[4],[4]])
noncomputable def abz:aI:=bI (bH 27 [0,1] Tryz.f33 [[0,1],[0,1,10],[4],[0,1,5],[0,1,5,14],[0,1,5,26],[4],[0,1,5],[4]])
noncomputable def abA:aI:=bI (bH 27 [0,1] Tryz.f36 [[0,1],[0,1,10],[4],[0,1,5],[0,1,5,14],[0,1,5,26],[4],[0,1,5],[4]])
noncomputable def abB:aI:=bI (bH 15 [0,1] Tryz.f241 [[2,3],[2,3,9],[4],[14],[4],[4]])
noncomputable def abC:aI:=bI (bH 27 [0,1] Tryz.f187 [[0,1],[0,1,10],[4],[0,1,5],[0,1,5,14],[0,1,5,26],[4],[0,1,5],[4]])
noncomputable def abD:aI:=bI (bH 27 [0,1] Tryz.f188 [[0,1],[0,1,10],[4],[0,1,5],[0,1,5,14],[0,1,5,26],[4],[0,1,5],[4]])
noncomputable def abE:aI:=bI (bH 26 [0,1] Tryz.f289 [[2,3],[2,3,9],[4],[2,3,14],[4],[2,3,19],[4],[25],[4],[4]])
noncomputable def abF:aI:=bI (bH 27 [0,1] Tryz.f226 [[0,1],[0,1,10],[4],[0,1,5],[0,1,5,14],[0,1,5,26],[4],[0,1,5],[4]])
noncomputable def abG:aI:=bI (bH 21 [0,1] Tryz.f163 [[2,3],[2,3,9],[4],[2,3,14],[4],[20],[4],[4]])
noncomputable def abH:aI:=bI (bH 27 [0,1] Tryz.f82 [[0,1],[0,1,10],[4],[0,1,5],[0,1,5,14],[0,1,5,26],[4],[0,1,5],[4]])
noncomputable def abI:aI:=bI (bH 16 [0,1] Tryz.f164 [[2,3],[2,3,9],[4],[15],[4],[4]])
noncomputable def abJ:aI:=bI (bH 27 [0,1] Tryz.f83 [[0,1],[0,1,10],[4],[0,1,5],[0,1,5,14],[0,1,5,26],[4],[0,1,5],[4]])
noncomputable def abK:aI:=bI (bH 20 [0,1] Tryz.f65 [[2,3],[2,3,9],[4],[2,3,14],[4],[19],[4],[4]])
noncomputable def II:aI:=bI (bH 27 [0,1] Tryz.f22 [[0,1],[0,1,10],[4],[0,1,5],[0,1,5,14],[0,1,5,26],[4],[0,1,5],[4]])
noncomputable def abL:aI:=bI (bH 26 [0,1] Tryz.f84 [[0,1],[0,1,10],[4],[0,1,5],[0,1,5,14],[0,1,5,25],[4],[0,1,5],[4]])
noncomputable def abM:aI:=bI (bH 35 [0,1] Tryz.f32 [[2,3],[2,3,10],[4],[2,3,16],[4],[2,3,22],[4],[2,3,28],[4],[34],[4],[4]])
def Pg:aI:=.seq (b2 [cT 6 0,hi 7 .gtr 3 6 0] [0,3,7] (.cond (.t 7) .skip (.exit 0))) (.block 1 (b2 [cT 8 0,hi 9 .rem 3 8 10,ro 10 (.eU .add 3 (.c (.int .i64 48)) (.t 9)),Oq 11 3 5 10,Oo 12 173 11,Oq 13 173 9 12,cT 14 3,sk 15 .add 9 13 14,e6 3 15] [0,3] (.fN [cT 16 0,hi 17 .quo 3 16 10,e6 0 17] (some [0,3]))))
def abN:aI:=b2 [ro 2 (.lx (.c (.str [])))] [0] (.seq (b2 [cT 4 0,hi 5 .leq 3 4 0] [0,5] (.cond (.t 5) (b2 [ro 2 (.lx (.c (.str [109,48])))] [2] .ret) .skip)) (b2 [ro 3 (.lx (.c (.str [])))] [0,3] (.seq (.block 0 (.loop Pg)) (b2 [cT 18 3,ro 19 (.eU .add 9 (.c (.str [109])) (.t 18)),e6 2 19] [2] .ret))))
noncomputable def abO:aI:=bI (bH 27 [0] Tryz.f122 [[0,1],[0,1,5],[0,1,5,9],[0,1,5],[0,1,5],[0,1,5],[0,1,5],[0,1,5],[0,4]])
noncomputable def abP:aI:=bI (bH 19 [0] Tryz.f123 [[0,1],[0,1,5],[0,1,5,9],[0,1,5],[0,1,5],[0,4]])
noncomputable def abQ:aI:=bI (bH 42 [0] Tryz.f165 [[0,1],[0,1,5],[0,1,5,9],[0,1,5],[0,1,5],[0,1,5],[0,1,5],[0,1,5],[0,1,5],[0,1,5],[0,1,5],[0,4]])
noncomputable def abR:aI:=bI (bH 35 [0] Tryz.f86 [[0,1],[0,1,5],[0,1,5,9],[0,1,5],[0,1,5],[0,1,5],[0,1,5],[0,1,5],[0,1,5],[0,4]])
noncomputable def IJ:aI:=bI (bH 19 [0] Tryz.f15 [[0,1],[0,1,5],[0,1,5,9],[0,1,5],[0,1,5],[0,1,5],[0,4]])
noncomputable def abS:aI:=bI (bH 27 [0] Tryz.f87 [[0,1],[0,1,5],[0,1,5,9],[0,1,5],[0,1,5],[0,1,5],[0,1,5],[0,4]])
noncomputable def IK:aI:=bI (bH 37 [0] Tryz.f23 [[0,1],[0,1,5],[0,1,5,9],[0,1,5],[0,1,5],[0,1,5],[0,1,5],[0,1,5],[0,1,5],[0,1,5],[0,4]])
noncomputable def abT:aI:=bI (bH 20 [0] Tryz.f88 [[0,1],[0,1,5],[0,1,5,9],[0,1,5],[0,1,5],[0,1,5],[0,4]])
def abU:aI:=b2 [hh 5 60 2 0,eZ 6 57 5,cT 7 1,⟨some 8,.ks (.f 86) [(.t 6),(.t 7)] [2],none⟩,e6 1 8] [0,1,2] (b2 [hh 9 60 2 1,eZ 10 58 9,cT 11 1,⟨some 12,.ks (.f 87) [(.t 10),(.t 11)] [2],none⟩,e6 1 12] [0,1,2] (b2 [hh 13 60 2 2,eZ 14 42 13,cT 15 1,⟨some 16,.ks (.f 23) [(.t 14),(.t 15)] [2],none⟩,e6 1 16] [0,1,2] (b2 [hh 17 60 2 3,eZ 18 49 17,cT 19 1,⟨some 20,.ks (.f 88) [(.t 18),(.t 19)] [2],none⟩,e6 1 20] [0,1,2] (b2 [hh 21 60 2 4,eZ 22 49 21,cT 23 1,kV 24 88 22 23,e6 1 24] [0,1] (b2 [cT 25 1,e6 4 25] [0,4] .ret)))))
def IL:aI:=b2 [⟨some 2,.jM 60 (.t 0),none⟩,iA 4 0] [0,1,2] abU
noncomputable def abV:aI:=bI (bH 34 [0] Tryz.f38 [[0,1],[0,1,5],[0,1,5,9],[0,1,5],[0,1,5],[0,1,5],[0,1,5],[0,1,5],[0,1,5],[0,4]])
noncomputable def abW:aI:=bI (bH 19 [0] Tryz.f39 [[0,1],[0,1,5],[0,1,5,9],[0,1,5],[0,1,5],[0,4]])
noncomputable def abX:aI:=bI (bH 21 [0] Tryz.f17 [[0,1],[0,1,5],[0,1,5,9],[0,1,5,17],[4],[0,1,5],[0,1,5],[4]])
noncomputable def abY:aI:=bI (bH 40 [0] Tryz.f89 [[0,1],[0,1,5],[0,1,5,9],[0,1,5,18],[4],[0,1,5],[0,1,5,27],[4],[0,1,5],[0,1,5],[0,1,5,38],[4],[0,1,5],[4]])
noncomputable def abZ:aI:=bI (bH 21 [0] Tryz.f40 [[0,1],[0,1,5],[0,1,5,9],[0,1,5],[0,1,5,19],[4],[0,1,5],[4]])
def ab0:aI:=.seq (b2 [cT 102 15,cT 103 6,kV 104 36 102 103,sl 105 104,cT 106 105,gj 107 106 (.hB (.t 16)),gj 108 106 (.hB (.t 7)),gj 109 106 (.eU .neq 2 (.t 107) (.t 108)),ro 110 (.pick (.t 106) (.c (.bool true)) (.t 109))] [10,13,110] (.cond (.t 110) (b2 [lG 4 false] [4] .ret) .skip)) (b2 [iA 14 1] [10,13,14] (b2 [cT 111 10,cT 112 14,kV 113 40 111 112,e6 14 113] [13,14] (.seq (b2 [cT 114 14,hi 115 .lss 3 114 0] [13,14,115] (.cond (.t 115) (b2 [lG 4 false] [4] .ret) .skip)) (.seq (b2 [cT 116 14,cT 117 13,sk 118 .neq 3 116 117] [118] (.cond (.t 118) (b2 [lG 4 false] [4] .ret) .skip)) (b2 [lG 4 true] [4] .ret)))))
def ab1:aI:=b2 [cT 86 10,cT 87 14,kV 88 40 86 87,e6 14 88] [1,2,6,7,10,13,14] (.seq (b2 [cT 89 14,hi 90 .lss 3 89 0] [1,2,6,7,10,13,14,90] (.cond (.t 90) (b2 [lG 4 false] [4] .ret) .skip)) (.seq (b2 [cT 91 14,cT 92 13,sk 93 .neq 3 91 92] [1,2,6,7,10,13,93] (.cond (.t 93) (b2 [lG 4 false] [4] .ret) .skip)) (b2 [eZ 95 51 2,mU 96 29 95,cT 97 1,mU 98 30 97,kV 99 35 96 98,cT 94 99,vl 100 94 0,vl 101 94 1,e6 15 100,e6 16 101] [6,7,10,13,15,16] ab0)))
def ab2:aI:=.seq (b2 [cT 70 12,hi 71 .lss 3 70 0,cT 72 71,gj 73 72 (.hB (.t 10)),gj 74 72 (.hB (.t 6)),⟨some 75,.call (.f 36) [(.t 73),(.t 74)],some (72,false)⟩,gj 76 72 (.un .not (.t 75)),ro 77 (.pick (.t 72) (.c (.bool true)) (.t 76)),cT 78 77,gj 79 78 (.hB (.t 11)),gj 80 78 (.hB (.t 7)),gj 81 78 (.eU .neq 2 (.t 79) (.t 80)),ro 82 (.pick (.t 78) (.c (.bool true)) (.t 81))] [1,2,6,7,10,82] (.cond (.t 82) (b2 [lG 4 false] [4] .ret) .skip)) (b2 [iA 13 1] [1,2,6,7,10,13] (b2 [cT 83 10,cT 84 13,kV 85 39 83 84,e6 13 85] [1,2,6,7,10,13] (b2 [iA 14 1] [1,2,6,7,10,13,14] ab1)))
def ab3:aI:=.seq (ZE [eZ 54 60 8,eZ 55 51 2,mU 56 29 55,kV 57 32 54 56,sl 58 57] [[],[],[1],[0,2,2],[3]] [1,2,6,7,8,9,10,11,58] (.cond (.t 58) (b2 [lG 4 false] [4] .ret) .skip)) (.seq (b2 [cT 59 9,cT 60 1,mU 61 30 60,kV 62 33 59 61,sl 63 62] [1,2,6,7,8,9,10,11,63] (.cond (.t 63) (b2 [lG 4 false] [4] .ret) .skip)) (b2 [iA 12 1] [1,2,6,7,8,9,10,11,12] (b2 [eZ 64 60 8,cT 65 12,kV 66 37 64 65,e6 12 66] [1,2,6,7,9,10,11,12] (b2 [cT 67 9,cT 68 12,kV 69 38 67 68,e6 12 69] [1,2,6,7,10,11,12] ab2))))
def ab4:aI:=b2 [eZ 35 51 2,mU 36 29 35,yr 8 60,sm 60 8 36] [1,2,6,7,8] (b2 [cT 37 1,mU 38 30 37,e6 9 38] [1,2,6,7,8,9] (b2 [eZ 40 60 8,cT 41 9,kV 42 35 40 41,cT 39 42,vl 43 39 0,vl 44 39 1,e6 10 43,e6 11 44] [1,2,6,7,8,9,10,11] (.seq (b2 [cT 45 10,cT 46 6,kV 47 36 45 46,sl 48 47,cT 49 48,gj 50 49 (.hB (.t 11)),gj 51 49 (.hB (.t 7)),gj 52 49 (.eU .neq 2 (.t 50) (.t 51)),ro 53 (.pick (.t 49) (.c (.bool true)) (.t 52))] [1,2,6,7,8,9,10,11,53] (.cond (.t 53) (b2 [lG 4 false] [4] .ret) .skip)) ab3)))
def ab5:aI:=b2 [eZ 17 51 2,cT 18 5,kV 19 26 17 18,e6 5 19] [1,2,5] (.seq (b2 [cT 20 5,hi 21 .lss 3 20 0] [1,2,5,21] (.cond (.t 21) (b2 [lG 4 true] [4] .ret) .skip)) (b2 [cT 22 1,cT 23 5,kV 24 27 22 23,e6 5 24] [1,2,5] (.seq (b2 [cT 25 5,hi 26 .lss 3 25 0] [1,2,26] (.cond (.t 26) (b2 [lG 4 true] [4] .ret) .skip)) (b2 [eZ 28 51 2,mU 29 29 28,cT 30 1,mU 31 30 30,kV 32 34 29 31,cT 27 32,vl 33 27 0,vl 34 27 1,e6 6 33,e6 7 34] [1,2,6,7] ab4))))
def xO:aI:=b2 [ro 2 (.iw 51 (.t 0)),lG 4 false] [1,2] (b2 [iA 5 1048576] [1,2,5] ab5)
def z7:=PLift.up (And.intro @Bool.not_true @Bool.not_false)
def als:=PLift.up (And.intro @length_append.{0} (And.intro @length_cons.{0} (And.intro @length_nil.{0} (And.intro @length_map.{0,0} (And.intro @length_replicate.{0} (And.intro @Nat.zero_add @Nat.add_zero))))))
end Go.Proofs.YtklcmlnabkfneaaGreat
