/- Part of a proof that a law returns true for every input. No condition. -/
import Derived.Test.YtndfcecbamffaaaGreatTb
import Derived.Test.YtndfcecbamffaaaGreatFwL
import Derived.Test.YtndfcecbamffaaaGreatFwSp
import Derived.Test.YtndfcecbamffaaaGreatP5
namespace Go.Proofs.YtndfcecbamffaaaGreat
open List Option Go.IntKind Nat Or
open Go Go.cW Go.mn
set_option linter.unusedSimpArgs false
def aC (x:Int):j:=.int .i64 x
theorem hn (x:Int):(aC x).share=aC x:=by
 simp only[aC,e1]
theorem s_ (x:Int):(aC x).cL=true:=by
 simp only[aC,j.cL,j.hN,Bool.and_self]
def hE (x:gu):j:=.agg [.int .i64 x.Kind,.int .i64 x.Value]
theorem K9 (x:gu):(hE x).share=hE x:=by
 simp only[hE,e1]
theorem aa1 (x:gu):(hE x).cL=true:=by
 simp only[hE,j.cL,j.hN,Bool.and_self]
def hg (x:abQ):j:=.slice (x.map hE)
theorem K_ (x:abQ):(hg x).share=hg x:=by
 simp only[hg,e1, @c2 _ hE hE (λ_=>K9 _)]
def g3 (x:h5):j:=.agg [.slice (x.bs.map aC),.slice (x.Guard.map hE),.str x.Name,.slice (x.bl.map hg),.slice (x.Next.map hg)]
theorem La (x:h5):(g3 x).share=g3 x:=by
 simp only[g3,e1, @c2 _ aC aC (λ_=>hn _), @c2 _ hE hE (λ_=>K9 _), @c2 _ hg hg (λ_=>K_ _)]
def jh (x:lb):j:=.agg [.int .i64 x.a8,.slice (x.Start.map aC),.slice (x.aW.map g3)]
theorem aa2 (x:lb):(jh x).share=jh x:=by
 simp only[jh,e1, @c2 _ aC aC (λ_=>hn _), @c2 _ g3 g3 (λ_=>La _)]
def xS (x:abH):j:=.slice (x.map aC)
theorem aa3 (x:abH):(xS x).share=xS x:=by
 simp only[xS,e1, @c2 _ aC aC (λ_=>hn _)]
def ER (x:abR):j:=.slice (x.map g3)
theorem aa4 (x:abR):(ER x).share=ER x:=by
 simp only[ER,e1, @c2 _ g3 g3 (λ_=>La _)]
def xT (x:nq):j:=.str x
theorem aa5 (x:nq):(xT x).share=xT x:=by
 simp only[xT,e1]
theorem aa6 (x:nq):(xT x).cL=true:=by
 simp only[xT,j.cL,j.hN,Bool.and_self]
def ES (x:abO):j:=.slice (x.map hg)
theorem aa7 (x:abO):(ES x).share=ES x:=by
 simp only[ES,e1, @c2 _ hg hg (λ_=>K_ _)]
def ba (x:aG):j:=.agg [.int .i64 x.Kind,.int .i64 x.Value]
theorem pB (x:aG):(ba x).share=ba x:=by
 simp only[ba,e1]
theorem xU (x:aG):(ba x).cL=true:=by
 simp only[ba,j.cL,j.hN,Bool.and_self]
def cV (x:abS):j:=.slice (x.map ba)
theorem rf (x:abS):(cV x).share=cV x:=by
 simp only[cV,e1, @c2 _ ba ba (λ_=>pB _)]
def cM (x:bc):j:=.agg [.slice (x.bs.map aC),.slice (x.Guard.map ba),.str x.Name,.slice (x.bl.map cV),.slice (x.Next.map cV)]
theorem vp (x:bc):(cM x).share=cM x:=by
 simp only[cM,e1, @c2 _ aC aC (λ_=>hn _), @c2 _ ba ba (λ_=>pB _), @c2 _ cV cV (λ_=>rf _)]
def di (x:abS):j:=.ad 2 (x.map ba)
theorem ET (x:abS):(di x).share=cV x:=by
 simp only[di,cV,e1, @c2 _ ba ba (λ_=>pB _)]
theorem Aw (x:abS):(di x).cL=true:=by
 simp only[di,j.cL,j.hN,Bool.and_self, @ju _ ba (λ_=>xU _)]
def cG (x:bc):j:=.agg [.ad 1 (x.bs.map aC),.ad 2 (x.Guard.map ba),.str x.Name,.ad 1 (x.bl.map di),.ad 1 (x.Next.map di)]
theorem rh (x:bc):(cG x).share=cM x:=by
 simp only[cG,cM,e1, @c2 _ aC aC (λ_=>hn _), @c2 _ ba ba (λ_=>pB _), @c2 _ di cV (λ_=>ET _)]
theorem Lb (x:bc):(cG x).cL=true:=by
 simp only[cG,j.cL,j.hN,Bool.and_self, @ju _ aC (λ_=>s_ _), @ju _ ba (λ_=>xU _), @ju _ di (λ_=>Aw _)]
def Ax (x:abH):j:=.ad 1 (x.map aC)
theorem aa8 (x:abH):(Ax x).share=xS x:=by
 simp only[Ax,xS,e1, @c2 _ aC aC (λ_=>hn _)]
theorem aa9 (x:abH):(Ax x).cL=true:=by
 simp only[Ax,j.cL,j.hN,Bool.and_self, @ju _ aC (λ_=>s_ _)]
def Ay (x:abP):j:=.ad 1 (x.map di)
def kJ (x:abP):j:=.slice (x.map cV)
theorem T1 (x:abP):(kJ x).share=kJ x:=by
 simp only[kJ,e1, @c2 _ cV cV (λ_=>rf _)]
theorem aa_ (x:abP):(Ay x).share=kJ x:=by
 simp only[Ay,kJ,e1, @c2 _ di cV (λ_=>ET _)]
theorem aba (x:abP):(Ay x).cL=true:=by
 simp only[Ay,j.cL,j.hN,Bool.and_self, @ju _ di (λ_=>Aw _)]
def eC (x:bj):j:=.agg [.int .i64 x.a8,.ad 1 (x.Start.map aC),.ad 5 (x.aW.map cG)]
def ca (x:bj):j:=.agg [.int .i64 x.a8,.slice (x.Start.map aC),.slice (x.aW.map cM)]
theorem abb (x:bj):(ca x).share=ca x:=by
 simp only[ca,e1, @c2 _ aC aC (λ_=>hn _), @c2 _ cM cM (λ_=>vp _)]
theorem abc (x:bj):(eC x).share=ca x:=by
 simp only[eC,ca,e1, @c2 _ aC aC (λ_=>hn _), @c2 _ cG cM (λ_=>rh _)]
theorem Az (x:bj):(eC x).cL=true:=by
 simp only[eC,j.cL,j.hN,Bool.and_self, @ju _ aC (λ_=>s_ _), @ju _ cG (λ_=>Lb _)]
def AA (x:abT):j:=.ad 5 (x.map cG)
def xV (x:abT):j:=.slice (x.map cM)
theorem abd (x:abT):(xV x).share=xV x:=by
 simp only[xV,e1, @c2 _ cM cM (λ_=>vp _)]
theorem abe (x:abT):(AA x).share=xV x:=by
 simp only[AA,xV,e1, @c2 _ cG cM (λ_=>rh _)]
theorem abf (x:abT):(AA x).cL=true:=by
 simp only[AA,j.cL,j.hN,Bool.and_self, @ju _ cG (λ_=>Lb _)]
def db (x:Bool):j:=.bool x
theorem EU (x:Bool):(db x).share=db x:=by
 simp only[db,e1]
theorem T2 (x:Bool):(db x).cL=true:=by
 simp only[db,j.cL,j.hN,Bool.and_self]
def pC (x:Bool×abS):j:=cond x.1 (.hole) (di x.2)
theorem Lc:(pC∘λx=>(false,x))=di:=rfl
theorem T3 (x:abS):pC (true,x)= .hole:=rfl
theorem Ld {x:Bool×abS} (h:Be (!x.1)=some ()):pC x=di x.2:=by
 obtain⟨b,x⟩:=x;cases b
 .rfl
 .cases h
theorem abg (x:Bool×abS):(pC x).wd=1:=by
 obtain⟨b,x⟩:=x;cases b<;>rfl
noncomputable def EV:aP:=cJ (cI 12 [0] Tryz.f24 [[0,1],[1],[1,10],[4],[4]])
noncomputable def T4:aP:=cJ (cI 12 [0] Tryz.f104 [[0,1],[1],[1,10],[4],[4]])
noncomputable def T5:aP:=cJ (cI 27 [0] Tryz.f105 [[0,1],[0,1],[0,1,11],[4],[0,1,5],[0,1,5,15],[0,1,5],[0,1,5,25],[4],[0,1,5],[4]])
noncomputable def T6:aP:=cJ (cI 37 [0] Tryz.f52 [[1,2],[1,2],[1,2,10],[4],[1,2],[1,2,16],[4],[1,2],[1,2,23],[4],[1,2],[1,2,29],[4],[1],[1,35],[4],[4]])
noncomputable def EW:aP:=cJ (cI 27 [0] Tryz.f25 [[0,1],[0,1],[0,1,11],[4],[0,1,5],[0,1,5,15],[0,1,5],[0,1,5,25],[4],[0,1,5],[4]])
noncomputable def fV:aP:=cJ (cI 18 [0] Tryz.f6 [[1,2],[1,2],[1,2,10],[4],[1],[1,16],[4],[4]])
noncomputable def T7:aP:=cJ (cI 22 [0] Tryz.f30 [[0],[0,3],[0,3,4],[0,3,4,11],[0,3,4],[0,3,4],[2]])
noncomputable def T8:aP:=cJ (cI 11 [0] Tryz.f153 [[1,2],[1,2,3],[1,2,3],[2,3],[2]])
noncomputable def T9:aP:=cJ (cI 23 [0] Tryz.f112 [[0],[0,3],[0,3,4],[0,3,4,11],[0,3,4],[0,3,4],[2]])
noncomputable def T_:aP:=cJ (cI 23 [0] Tryz.f113 [[0],[0,3],[0,3,4],[0,3,4,11],[0,3,4],[0,3,4],[2]])
noncomputable def Ua:aP:=cJ (cI 24 [0] Tryz.f60 [[1,2],[1,2,3],[1,2,3],[1,2,3],[1,2,3],[1,2,3],[2,3],[2]])
noncomputable def Ub:aP:=cJ (cI 23 [0] Tryz.f31 [[0],[0,3],[0,3,4],[0,3,4,11],[0,3,4],[0,3,4],[2]])
noncomputable def gE:aP:=cJ (cI 16 [0] Tryz.f8 [[1,2],[1,2,3],[1,2,3],[1,2,3],[2,3],[2]])
noncomputable def Uc:aP:=cJ (cI 15 [0,1,2] Tryz.f53 [[0,1,2],[6]])
noncomputable def Ud:aP:=cJ (cI 16 [0] Tryz.f106 [[0],[0,3],[0,3,7],[0,3,15],[2],[0,3],[2]])
noncomputable def Ue:aP:=cJ (cI 13 [0,1] Tryz.f54 [[0,1],[4]])
noncomputable def Uf:aP:=cJ (cI 30 [0] Tryz.f107 [[0],[0,7],[2],[0,3],[0,3,4],[0,3,4,11],[0,3,4,19],[2],[0,3,4],[0,3,4],[3,28],[2],[2]])
noncomputable def Ug:aP:=cJ (cI 39 [0,1] Tryz.f148 [[0,1],[0,1,8],[0,1,8,9],[4],[0,1,8,16],[4],[0,8,25],[4],[0,32],[4],[4]])
noncomputable def Uh:aP:=cJ (cI 11 [0] Tryz.f149 [[0],[6],[6,7],[2],[9],[2],[2]])
noncomputable def Ui:aP:=cJ (cI 38 [0,1,2] Tryz.f108 [[0,1,2],[0,1,12],[6],[0,1,7],[0,1,7,8],[0,1,7,8,16],[0,1,7,8,28],[6],[0,1,7,8],[0,1,7,8],[6]])
noncomputable def Uj:aP:=cJ (cI 19 [0,1] Tryz.f109 [[0,1],[0,1,5],[0,1,5,9],[0,1,5,18],[4],[0,1,5],[4]])
noncomputable def Uk:aP:=cJ (cI 9 [0] Tryz.f163 [[0],[2]])
noncomputable def Ul:aP:=cJ (cI 9 [0] Tryz.f164 [[0],[2]])
noncomputable def Um:aP:=cJ (cI 35 [0] Tryz.f127 [[0],[0,16],[2],[0,3],[0,3,20],[0,3,34],[2],[0,3],[2]])
def b2 (r:List bG) (k:abI) (c:aP):aP:=.seq (.eK r (some k)) c
def Le (r:List bG) (a:abG) (k:abI) (c:aP):aP:=.seq (.ie r a (some k)) c
abbrev hO (d t:Nat) (o:c9):bG:=⟨some d,o,some (t,true)⟩
abbrev ei (d t:Nat) (o:c9):bG:=⟨some d,o,some (t,false)⟩
abbrev abh (n:Nat) (k:abI) (f:Func) (c:aP):Prop:=fm ⟨n,k⟩ (f.body.getD .skip)=some c.strip
def Un:aP:=b2 [iJ 2 false] [0] (b2 [cu 3 0,kh 4 127 3,cu 5 4,hO 6 5 (.fT (.t 0)),⟨some 7,.el .neq 9 (.t 6) (.c (.str [116,97,117])),some (5,true)⟩,ro 8 (.pick (.t 5) (.t 7) (.c (.bool false))),fo 2 8] [2] .ret)
def Uo:aP:=.seq (b2 [cu 35 0,xc 36 35,fW 37 62 36 2,c3 38 9 37,ro 39 (.el .eql 9 (.t 38) (.c (.str [116,97,117]))),cu 40 39,hO 41 40 (.fT (.t 0)),hO 42 40 (.h1 (.t 41)),hO 43 40 (.hb 62 (.t 42) 3),hO 44 40 (.e0 60 (.t 43)),hO 45 40 (.len 60 (.t 44)),hO 46 40 (.el .gtr 3 (.t 45) (.c (.int .i64 0))),ro 47 (.pick (.t 40) (.t 46) (.c (.bool false))),cu 48 47,ei 49 48 (.fT (.t 0)),ei 50 48 (.h1 (.t 49)),ei 51 48 (.hb 62 (.t 50) 2),ei 52 48 (.e0 9 (.t 51)),⟨some 53,.el .neq 9 (.t 52) (.c (.str [116,97,117])),some (48,false)⟩,ei 54 48 (.fT (.t 53)),hO 55 54 (.fT (.t 0)),hO 56 54 (.h1 (.t 55)),hO 57 54 (.hb 62 (.t 56) 2),hO 58 54 (.e0 9 (.t 57)),⟨some 59,.call (.f 88) [(.t 58)],some (54,true)⟩,hO 60 54 (.un .not (.t 59)),ei 61 48 (.pick (.t 54) (.t 60) (.c (.bool false))),ro 62 (.pick (.t 48) (.c (.bool true)) (.t 61)),cu 63 62,ei 64 63 (.fT (.t 0)),ei 65 63 (.h1 (.t 64)),ei 66 63 (.hb 62 (.t 65) 3),ei 67 63 (.e0 60 (.t 66)),ei 68 63 (.len 60 (.t 67)),ei 69 63 (.el .gtr 3 (.t 68) (.c (.int .i64 2))),ro 70 (.pick (.t 63) (.c (.bool true)) (.t 69))] [0,5,70] (.cond (.t 70) (b2 [iJ 4 false] [4] .ret) .skip)) (b2 [cu 71 0,xc 72 71,fW 73 62 72 3,c3 74 60 73,cu 75 5,k_ 76 109 74 75,cu 77 76,hO 78 77 (.fT (.t 0)),hO 79 77 (.h1 (.t 78)),hO 80 77 (.hb 62 (.t 79) 4),hO 81 77 (.e0 60 (.t 80)),hO 82 77 (.fT (.t 5)),⟨some 83,.call (.f 109) [(.t 81),(.t 82)],some (77,true)⟩,ro 84 (.pick (.t 77) (.t 83) (.c (.bool false))),fo 4 84] [4] .ret)
def Up:aP:=b2 [cu 12 1,cu 13 0,xc 14 13,fW 15 62 14 0,c3 16 22 15,ml 17 22 16,lP 18 .add 2 12 17,fo 5 18] [0,1,5] (.seq (b2 [cu 19 0,xc 20 19,fW 21 62 20 1,c3 22 59 21,cu 23 5,ro 24 (.call (.f 108) [(.t 22),(.t 23),(.c (.int .i64 60))]),uw 25 24,cu 26 25,ei 27 26 (.fT (.t 0)),ei 28 26 (.h1 (.t 27)),ei 29 26 (.hb 62 (.t 28) 4),ei 30 26 (.e0 60 (.t 29)),ei 31 26 (.len 60 (.t 30)),ei 32 26 (.fT (.t 1)),ei 33 26 (.el .neq 2 (.t 31) (.t 32)),ro 34 (.pick (.t 26) (.c (.bool true)) (.t 33))] [0,5,34] (.cond (.t 34) (b2 [iJ 4 false] [4] .ret) .skip)) Uo)
def Uq:aP:=b2 [iJ 4 false] [0,1] (.seq (b2 [cu 6 0,xc 7 6,fW 8 62 7 0,c3 9 22 8,kh 10 107 9,iI 11 .eql 2 10 0] [0,1,11] (.cond (.t 11) (b2 [iJ 4 false] [4] .ret) .skip)) Up)
noncomputable def xW:aP:=cJ (cI 51 [0] Tryz.f26 [[0],[0,29],[2],[0,3],[0,3,36],[0,3,50],[2],[0,3],[2]])
noncomputable def Ur:aP:=cJ (cI 34 [0,1] Tryz.f99 [[0,1,4],[0,1,4,8],[0,1,4,26],[0,1,4],[0,1,4]])
noncomputable def EX:aP:=cJ (cI 102 [0] Tryz.f50 [[0],[0,3],[0,3,4],[0,3,4,20],[0,3,4],[0,3,4,5],[0,3,4,5,43],[0,3,4,5],[0,3,4,5],[0,3,4],[0,3,6],[0,3,6,64],[0,3,6,7],[0,3,6,7,73],[0,3,6,7,8],[0,3,6,7,8,81],[0,3,6,7,8,87],[0,3,6,7,8],[0,3,6,7,8],[0,3,6,7],[0,3,6],[2]])
noncomputable def EY:aP:=cJ (cI 25 [0,1] Tryz.f29 [[0,1],[0,1,5],[0,1,5,6],[0,1,5,6,11],[0,1,5,6,19],[0,1,5,6],[0,1,5,6],[4]])
noncomputable def Us:aP:=cJ (cI 6 [0] Tryz.f57 [[0],[2]])
noncomputable def Ut:aP:=cJ (cI 6 [0] Tryz.f111 [[0],[2]])
noncomputable def EZ:aP:=cJ (cI 56 [0,1,2] Tryz.f59 [[0,1,2],[1,2,7],[1,2,7,8],[1,2,7,8,14],[1,2,7,8,42],[1,2,7,8],[1,2,7,8],[6]])
noncomputable def Uu:aP:=cJ (cI 54 [0,1] Tryz.f58 [[0,1],[1,5],[1,5,6],[1,5,6,14],[1,5,6,22],[1,5,6,7],[1,5,6,7,8],[1,5,6,7,8,35],[1,5,6,7,8,41],[1,5,6,7,8],[1,5,6,7,8],[1,5,6],[1,5,6],[4]])
noncomputable def Uv:aP:=cJ (cI 142 [0,1] Tryz.f28 [[0,1,4],[0,1,4,5],[0,1,4,5,6],[0,1,4,5,6,7],[0,1,4,5,6,7,21],[0,1,4,5,6,7],[0,1,4,5,6,7],[0,1,4,5,6,8],[0,1,4,5,6,8,45],[0,1,4,5,6,8,9],[0,1,4,5,6,8,9,10],[0,1,4,5,6,8,9,10],[0,1,4,5,6,8,9,10,11],[0,1,4,5,6,8,9,10,11,83],[0,1,4,5,6,8,9,10,11],[0,1,4,5,6,8,9,10,11],[0,1,4,5,6,8,9,10,12],[0,1,4,5,6,8,9,10,12,109],[0,1,4,5,6,8,9,10,12],[0,1,4,5,6,8,9,10,12],[0,1,4,5,6,8],[0,1,4,5,6,8],[4]])
noncomputable def ta:aP:=cJ (cI 29 [0] Tryz.f22 [[1,2],[1,2,8],[2,3,4],[1,2,5],[1,2,5,6],[1,2,5,6,14],[1,2,5,6],[1,2,5,6],[2,3,4]])
noncomputable def Uw:aP:=cJ (cI 15 [0,1,2] Tryz.f61 [[0,1,2],[6]])
noncomputable def Ux:aP:=cJ (cI 5 [0] Tryz.f156 [[0],[2]])
noncomputable def Uy:aP:=cJ (cI 6 [0] Tryz.f155 [[0],[2]])
noncomputable def Uz:aP:=cJ (cI 19 [0,1] Tryz.f121 [[0,1],[0,1,7,8],[0,1,7,8,9],[0,1,5,7,8],[0,1,5,7,8,16],[4],[0,1,7,8],[4]])
noncomputable def UA:aP:=cJ (cI 9 [0,1] Tryz.f154 [[0,1],[4]])
noncomputable def UB:aP:=cJ (cI 6 [0] Tryz.f114 [[0],[2]])
noncomputable def E0:aP:=cJ (cI 14 [0,1] Tryz.f62 [[1,2],[4]])
noncomputable def UC:aP:=cJ (cI 29 [0] Tryz.f116 [[1],[1,3],[1,3,7,8,9],[1,3,7,8,9,10],[1,3,5,7,8,9],[1,3,5,7,8,9,15],[2],[1,3,7,8,9],[1,3,7,8,9],[2]])
noncomputable def UD:aP:=cJ (cI 9 [0] Tryz.f168 [[0],[2]])
noncomputable def UE:aP:=cJ (cI 42 [0] Tryz.f131 [[0],[0,6,7],[0,6,7,8],[0,3,6,7],[0,3,4,6,7],[0,6,7,32],[2],[0,6,7],[2]])
def UF:aP:=b2 [iJ 2 false] [0] (b2 [cu 3 0,kh 4 131 3,cu 5 4,hO 6 5 (.fT (.t 0)),⟨some 7,.el .neq 9 (.t 6) (.c (.str [116,97,117])),some (5,true)⟩,ro 8 (.pick (.t 5) (.t 7) (.c (.bool false))),fo 2 8] [2] .ret)
def Lf:aP:=b2 [cu 26 0,fo 4 26] [4] .ret
def Lg:aP:=.seq (b2 [cu 8 1,cu 9 0,ro 10 (.cap 60 (.t 9)),cu 11 0,ml 12 60 11,lP 13 .sub 3 10 12,lP 14 .sub 3 8 13,fo 1 14] [0,1] (b2 [cu 15 1,iI 16 .gtr 3 15 0] [0,1,16] (.cond (.t 16) (.eK [cu 17 0,cu 18 0,ro 19 (.cap 60 (.t 18)),ro 20 (.fl 60 (.t 17) none (some (.t 19))),cu 21 1,⟨some 22,.h_ 60 3 (.t 20) (.t 21),none⟩,cu 23 0,ml 24 60 23,ro 25 (.fl 60 (.t 22) none (some (.t 24))),fo 0 25] (some [0])) .skip))) Lf
def UG:aP:=b2 [zA 4] [0,1] (.seq (b2 [cu 5 1,iI 6 .lss 3 5 0] [0,1,6] (.cond (.t 6) (.eK [ro 7 (.bad),⟨none,.bad,none⟩] (some [0,1])) .skip)) Lg)
noncomputable def UH:aP:=cJ (cI 36 [0] Tryz.f102 [[0],[0,3],[0,3,9,10,11],[0,3,9,10,11,12],[0,3,5,9,10,11],[0,3,9,10,11],[0,3,9,10,11,20],[0,3,9,10,11],[0,3,9,10,11],[0,6],[6,25,26,27],[6,25,26,27,28],[6,8,25,26,27],[6,25,26,27],[6,25,26,27],[2]])
def UI:aP:=b2 [ro 1 (.gK 62 (.t 0)),zA 2] [1] (b2 [fW 3 62 1 1,c3 4 59 3,⟨some 5,.shr (.ef 60 1 [(0,(.t 4))]),none⟩,fW 6 62 1 3,c3 7 60 6,fW 8 62 1 4,c3 9 60 8,⟨some 10,.shr (.ef 161 3 [(0,(.t 5)),(1,(.t 7)),(2,(.t 9))]),none⟩,kh 11 102 10,fo 2 11] [2] .ret)
noncomputable def UJ:aP:=cJ (cI 29 [0,1] Tryz.f158 [[1,2],[1,2,6],[1,2,6,7],[4],[1,2,6,12],[4],[2,6,19],[4],[2,24],[4],[4]])
noncomputable def UK:aP:=cJ (cI 9 [0] Tryz.f159 [[1],[4],[4,5],[2],[7],[2],[2]])
noncomputable def UL:aP:=cJ (cI 47 [0,1,2] Tryz.f120 [[0,1,2],[0,1,24],[6],[0,1,7],[1,7,25,26,27],[1,7,25,26,27,28],[1,7,9,25,26,27],[1,7,9,25,26,27,38],[6],[1,7,25,26,27],[1,7,25,26,27],[6]])
noncomputable def UM:aP:=cJ (cI 13 [0,1,2] Tryz.f119 [[0,1,2],[4]])
noncomputable def UN:aP:=cJ (cI 19 [0,1] Tryz.f157 [[0,1],[0,1,7,8],[0,1,7,8,9],[0,1,5,7,8],[0,1,5,7,8,16],[4],[0,1,7,8],[4]])
noncomputable def UO:aP:=cJ (cI 9 [0,1] Tryz.f117 [[0,1],[4]])
def UP:aP:=b2 [cu 19 5,iI 20 .gtr 3 19 0,cu 21 20,hO 22 21 (.hb 62 (.t 2) 2),hO 23 21 (.e0 9 (.t 22)),⟨some 24,.el .eql 9 (.t 23) (.c (.str [116,97,117])),some (21,true)⟩,hO 25 21 (.fT (.t 24)),ei 26 25 (.fT (.t 5)),ei 27 25 (.el .gtr 3 (.t 26) (.c (.int .i64 2))),hO 28 21 (.pick (.t 25) (.c (.bool true)) (.t 27)),ro 29 (.pick (.t 21) (.t 28) (.c (.bool false))),cu 30 29,ei 31 30 (.hb 62 (.t 2) 2),ei 32 30 (.e0 9 (.t 31)),⟨some 33,.el .neq 9 (.t 32) (.c (.str [116,97,117])),some (30,false)⟩,ei 34 30 (.fT (.t 33)),hO 35 34 (.hb 62 (.t 2) 2),hO 36 34 (.e0 9 (.t 35)),⟨some 37,.call (.f 92) [(.t 36)],some (34,true)⟩,hO 38 34 (.un .not (.t 37)),ei 39 30 (.pick (.t 34) (.t 38) (.c (.bool false))),ro 40 (.pick (.t 30) (.c (.bool true)) (.t 39))] [2,3,40] (.cond (.t 40) (b2 [iJ 4 false] [4] .ret) .skip)
def UQ:aP:=b2 [ro 2 (.gK 62 (.t 0)),ro 3 (.gK 2 (.t 1)),iJ 4 false] [2,3] (.seq (b2 [c3 6 62 2,kh 7 116 6,uw 8 7,cu 9 8,ei 10 9 (.hb 62 (.t 2) 4),ei 11 9 (.e0 60 (.t 10)),ei 12 9 (.len 60 (.t 11)),ei 13 9 (.e0 2 (.t 3)),ei 14 9 (.el .neq 2 (.t 12) (.t 13)),ro 15 (.pick (.t 9) (.c (.bool true)) (.t 14))] [2,3,15] (.cond (.t 15) (b2 [iJ 4 false] [4] .ret) .skip)) (.seq (b2 [fW 16 62 2 3,c3 17 60 16,ml 18 60 17,fo 5 18] [2,3,5] UP) (b2 [c3 41 62 2,kh 42 118 41,ro 43 (.m6 119 [(.t 3),(.t 2)]),k_ 44 117 42 43,uw 45 44,fo 4 45] [4] .ret)))
noncomputable def UR:aP:=cJ (cI 9 [0,1] Tryz.f64 [[1,2],[3]])
noncomputable def US:aP:=cJ (cI 19 [0,1] Tryz.f115 [[0,1],[0,1,7,8],[0,1,7,8,9],[0,1,5,7,8],[0,1,5,7,8,16],[4],[0,1,7,8],[4]])
noncomputable def UT:aP:=cJ (cI 9 [0,1] Tryz.f63 [[0,1],[4]])
noncomputable def UU:aP:=cJ (cI 25 [0] Tryz.f32 [[1],[1,19],[2],[2]])
noncomputable def UW:aP:=cJ (cI 25 [0] Tryz.f101 [[0],[0,3],[3,6,7,8],[3,6,7,8,9],[3,5,6,7,8],[3,5,6,7,8,14],[3,6,7,8],[3,6,7,8],[3],[2]])
noncomputable def UX:aP:=cJ (cI 19 [0,1] Tryz.f82 [[0,1],[0,1,7,8],[0,1,7,8,9],[0,1,5,7,8],[0,1,5,7,8,16],[4],[0,1,7,8],[4]])
noncomputable def UY:aP:=cJ (cI 9 [0,1] Tryz.f74 [[0,1],[4]])
noncomputable def UZ:aP:=cJ (cI 31 [0,1,2] Tryz.f100 [[0,1,2],[0,1,2,5],[1,2,5,9,10,11],[1,2,5,9,10,11,12],[1,2,5,7,9,10,11],[1,2,5,7,9,10,11,24],[1,2,9,10,11],[1,2,5,9,10,11],[1,2,5,9,10,11],[2,4]])
def Lh:aP:=b2 [lP 29 .lss 3 28 27] [1,3,4,14,15,16,26,27,28,29] (.seq (.cond (.t 29) .skip (.exit 2)) (.seq (.block 3 (b2 [mj 30 60 26 28,c3 31 59 30,fo 8 31] [1,3,4,8,14,15,16,26,27,28] (.eK [cu 32 4,cu 33 8,⟨some 34,.iT (.t 32) [(.t 33)] [4],none⟩] (some [1,3,4,14,15,16,26,27,28])))) (.eK [iI 35 .add 3 28 1,cu 28 35] (some [1,3,4,14,15,16,26,27,28]))))
def Li:aP:=b2 [lP 17 .lss 3 16 15] [1,3,4,14,15,16,17] (.seq (.cond (.t 17) .skip (.exit 0)) (.seq (.block 1 (b2 [mj 18 27 14 16,c3 19 62 18,lQ 6 62,lR 62 6 19] [1,3,4,6,14,15,16] (b2 [fW 20 62 6 1,c3 21 59 20,⟨some 22,.shr (.ef 60 1 [(0,(.t 21))]),none⟩,fW 23 62 6 3,c3 24 60 23,⟨some 25,.shr (.ef 161 2 [(0,(.t 22)),(1,(.t 24))]),none⟩,kh 26 102 25,ml 27 60 26,sF 28 0] [1,3,4,14,15,16,26,27,28] (.block 2 (.loop Lh))))) (.eK [iI 36 .add 3 16 1,cu 16 36] (some [1,3,4,14,15,16]))))
def Lj:aP:=b2 [lP 47 .lss 3 46 45] [1,3,4,9,44,45,46,47] (.seq (.cond (.t 47) .skip (.exit 6)) (.seq (.block 7 (b2 [mj 48 27 44 46,c3 49 62 48,lQ 11 62,lR 62 11 49] [1,3,4,9,11,44,45,46] (.ie [cu 50 4,fW 51 62 11 4,c3 52 60 51,c3 53 22 3,cu 54 9,mj 55 22 53 54,c3 56 2 55,mj 57 60 52 56,c3 58 59 57,⟨some 59,.iT (.t 50) [(.t 58)] [4],none⟩] [[],[],[1],[],[],[3,4],[5],[2,6],[7],[0,8]] (some [1,3,4,9,44,45,46])))) (.eK [iI 60 .add 3 46 1,cu 46 60] (some [1,3,4,9,44,45,46]))))
def Lk:aP:=.seq (b2 [cu 37 9,c3 38 22 3,ml 39 22 38,lP 40 .lss 3 37 39] [1,3,4,9,40] (.cond (.t 40) .skip (.exit 4))) (.seq (.block 5 (b2 [fW 43 29 1 2,c3 44 27 43,ml 45 27 44,sF 46 0] [1,3,4,9,44,45,46] (.block 6 (.loop Lj)))) (.eK [cu 41 9,iI 42 .add 3 41 1,fo 9 42] (some [1,3,4,9])))
def U0:aP:=b2 [ro 1 (.gK 29 (.t 0)),zA 2] [1] (b2 [lQ 3 22] [1,3] (b2 [ro 12 (.m6 100 [(.t 1),(.t 3)]),fo 4 12] [1,3,4] (.seq (b2 [fW 13 29 1 2,c3 14 27 13,ml 15 27 14,sF 16 0] [1,3,4,14,15,16] (.block 0 (.loop Li))) (.seq (b2 [sG 9 0] [1,3,4,9] (.block 4 (.loop Lk))) (b2 [c3 61 22 3,kh 62 103 61] [3] (b2 [c3 63 22 3,fo 2 63] [2] .ret))))))
noncomputable def U1:aP:=cJ (cI 8 [0] Tryz.f68 [[0],[0,4],[2],[2]])
noncomputable def U2:aP:=cJ (cI 6 [0] Tryz.f81 [[0],[2]])
noncomputable def U3:aP:=cJ (cI 25 [0,1,2] Tryz.f80 [[0,1,2],[0,1,2,9],[4],[5],[5,22],[4],[4]])
noncomputable def E1:aP:=cJ (cI 31 [0,1] Tryz.f76 [[0,1],[0,1,5],[1,5,9,10,11],[1,5,9,10,11,12],[1,5,7,9,10,11],[1,5,7,8,9,10,11],[1,5,7,8,9,10,11,17],[1,5,7,8,9,10,11],[1,5,7,8,9,10,11,23],[1,5,8,9,10,11],[1,5,9,10,11],[1,5,9,10,11],[4]])
noncomputable def U4:aP:=cJ (cI 10 [0,1,2,3] Tryz.f79 [[1,2,3],[6]])
noncomputable def U5:aP:=cJ (cI 23 [0,1,2] Tryz.f75 [[0,1,2],[0,1,2,5],[1,2,5,8,9,10],[1,2,5,8,9,10,11],[1,2,5,7,8,9,10],[1,2,5,8,9,10],[1,2,5,8,9,10],[4]])
def U6:aP:=.ie [fW 23 29 5 2,c3 24 27 23,fW 25 62 7 0,c3 26 22 25,kh 27 68 26,c3 28 64 3,c3 29 62 7,fW 30 62 7 1,c3 31 59 30,ro 32 (.call (.t 28) [(.t 29),(.t 31)]),fW 33 62 7 2,c3 34 9 33,cu 35 8,fW 36 62 7 3,c3 37 60 36,ro 38 (.call (.t 35) [(.t 37)]),cu 39 8,fW 40 62 7 4,c3 41 60 40,ro 42 (.call (.t 39) [(.t 41)]),ro 43 (.gm 62 [(0,(.t 27)),(1,(.t 32)),(2,(.t 34)),(3,(.t 38)),(4,(.t 42))]),zB 44 27 43,DD 45 27 27 24 44,fW 46 29 5 2,lR 27 46 45] [[],[0],[],[2],[3],[],[],[],[7],[5,6,8,4],[],[10],[],[],[13],[12,14,9],[],[],[17],[16,18,15],[4,9,11,15,19],[20],[1,21,19],[0,1,2,3,4,5,6,7,8,9,10,11,12,13,14,15,16,17,18,19,20,21,22],[23,22,22,0,1,2,3,4,5,6,7,8,9,10,11,12,13,14,15,16,17,18,19,20,21,22]] (some [3,4,5,16,17,18])
def Ll:aP:=b2 [lP 19 .lss 3 18 17] [3,4,5,16,17,18,19] (.seq (.cond (.t 19) .skip (.exit 0)) (.seq (.block 1 (b2 [mj 20 27 16 18,c3 21 62 20,lQ 7 62,lR 62 7 21] [3,4,5,7,16,17,18] (b2 [ro 22 (.m6 75 [(.t 3),(.t 7)]),fo 8 22] [3,4,5,7,8,16,17,18] U6))) (.eK [iI 47 .add 3 18 1,cu 18 47] (some [3,4,5,16,17,18]))))
def U7:aP:=b2 [ro 2 (.gK 29 (.t 0)),⟨some 3,.h0 64 (.t 1),none⟩,lQ 4 29] [2,3,4] (Le [fW 9 29 2 0,c3 10 2 9,fW 11 29 2 1,c3 12 22 11,kh 13 68 12,ro 14 (.gm 29 [(0,(.t 10)),(1,(.t 13))]),lQ 5 29,lR 29 5 14] [[],[0],[],[2],[3],[1,4],[],[6,5,4,0,1,2,3,4,5,6]] [2,3,4,5] (.seq (b2 [fW 15 29 2 2,c3 16 27 15,ml 17 27 16,sF 18 0] [3,4,5,16,17,18] (.block 0 (.loop Ll))) (b2 [c3 48 29 5,lR 29 4 48] [4] .ret)))
def U8:aP:=.ie [fW 26 29 5 1,c3 27 22 26,fW 28 29 2 1,c3 29 22 28,cu 30 7,mj 31 22 29 30,c3 32 2 31,zB 33 22 32,DD 34 22 22 27 33,fW 35 29 5 1,lR 22 35 34] [[],[0],[],[2],[],[3,4],[5],[6],[1,7],[0,1,2,3,4,5,6,7,8],[9,8,8,0,1,2,3,4,5,6,7,8]] (some [2,3,4,5,20,21,22])
def U9:aP:=.eK [iI 36 .add 3 22 1,cu 22 36] (some [2,3,4,5,20,21,22])
def U_:aP:=.seq (.block 1 (b2 [mj 24 22 20 22,c3 25 2 24,fo 7 25] [2,3,4,5,7,20,21,22] U8)) U9
def Va:aP:=.seq (.cond (.t 23) .skip (.exit 0)) U_
def Lm:aP:=b2 [lP 23 .lss 3 22 21] [2,3,4,5,20,21,22,23] Va
def Vb:aP:=.block 0 (.loop Lm)
def Vc:aP:=.eK [cu 51 10,fW 52 62 9 4,c3 53 60 52,cu 54 12,mj 55 60 53 54,c3 56 59 55,zB 57 60 56,DD 58 60 60 51 57,fo 10 58] (some [3,4,5,8,9,10,38,39,40,45,46,47])
def Vd:aP:=.eK [iI 59 .add 3 47 1,cu 47 59] (some [3,4,5,8,9,10,38,39,40,45,46,47])
def Ve:aP:=.seq (.block 5 (b2 [mj 49 22 45 47,c3 50 2 49,fo 12 50] [3,4,5,8,9,10,12,38,39,40,45,46,47] Vc)) Vd
def Vf:aP:=.seq (.cond (.t 48) .skip (.exit 4)) Ve
def Ln:aP:=b2 [lP 48 .lss 3 47 46] [3,4,5,8,9,10,38,39,40,45,46,47,48] Vf
def Vg:aP:=.block 4 (.loop Ln)
def Vh:aP:=.eK [fW 60 29 5 2,c3 61 27 60,cu 62 8,cu 63 10,mj 64 27 61 62,fW 65 62 64 4,⟨none,.kt 60 (.t 65) (.t 63) 38,none⟩] (some [3,4,5,38,39,40])
def Vi:aP:=.seq (b2 [c3 45 22 3,ml 46 22 45,sF 47 0] [3,4,5,8,9,10,38,39,40,45,46,47] Vg) Vh
def Vj:aP:=b2 [zA 10] [3,4,5,8,9,10,38,39,40] Vi
def Vk:aP:=.eK [iI 66 .add 3 40 1,cu 40 66] (some [3,4,5,38,39,40])
def Vl:aP:=.seq (.block 3 (.seq (.hA (xd az [cu 42 40,mj 43 27 38 40,c3 44 62 43,lQ 9 62,fo 8 42] 62 9 44 4 38 [] [3,4,5,8,9,38,39,40]) (K3 [cu 42 40,mj 43 27 38 40,c3 44 62 43,lQ 9 62,fo 8 42] 62 9 44 [])) Vj)) Vk
def Vm:aP:=.seq (.cond (.t 41) .skip (.exit 2)) Vl
def Lo:aP:=b2 [lP 41 .lss 3 40 39] [3,4,5,38,39,40,41] Vm
def Vn:aP:=.block 2 (.loop Lo)
def Vo:aP:=b2 [c3 67 29 5,lR 29 4 67] [4] .ret
def Vp:aP:=.seq (b2 [fW 37 29 5 2,c3 38 27 37,ml 39 27 38,sF 40 0] [3,4,5,38,39,40] Vn) Vo
def Vq:aP:=.seq (b2 [c3 20 22 3,ml 21 22 20,sF 22 0] [2,3,4,5,20,21,22] Vb) Vp
def Vr:aP:=b2 [fW 19 29 5 1,⟨none,.gp 22 (.t 19) (.c .aJ),none⟩] [2,3,4,5] Vq
def Vs:aP:=b2 [c3 16 22 3,ml 17 22 16,fW 18 29 5 0,lR 2 18 17] [2,3,4,5] Vr
def Vt:aP:=b2 [c3 13 29 2,ro 14 (.m6 79 [(.t 2),(.t 3)]),k_ 15 35 13 14,lQ 5 29,lR 29 5 15] [2,3,4,5] Vs
def AB:aP:=b2 [ro 2 (.gK 29 (.t 0)),ro 3 (.gK 22 (.t 1)),lQ 4 29] [2,3,4] Vt
theorem Vu:AB.nf (zE az):=And.intro (True.intro) (And.intro (True.intro) (And.intro (True.intro) (And.intro (True.intro) (And.intro (And.intro (True.intro) (And.intro (True.intro) (And.intro (And.intro (True.intro) (True.intro)) (And.intro (And.intro (True.intro) (True.intro)) (True.intro))))) (And.intro (And.intro (True.intro) (And.intro (True.intro) (And.intro (And.intro (True.intro) (True.intro)) (And.intro (And.intro (⟨_,_,_,_,_,_,_,_,rfl,rfl⟩) (And.intro (True.intro) (And.intro (And.intro (True.intro) (And.intro (True.intro) (And.intro (And.intro (True.intro) (True.intro)) (And.intro (And.intro (True.intro) (True.intro)) (True.intro))))) (True.intro)))) (True.intro))))) (And.intro (True.intro) (True.intro)))))))
theorem Vv:fm ⟨68,[0,1]⟩ (Tryz.f38.body.getD .skip)=some AB.strip:=by kernel_rfl
noncomputable def Vw:aP:=cJ (cI 16 [0] Tryz.f23 [[1,2],[1,2,8],[2,3,4],[1,2,5],[2,3,4]])
noncomputable def Vx:aP:=cJ (cI 26 [0,1] Tryz.f11 [[0,1],[0,1,10],[4],[0,1,5],[0,1,5,14],[0,1,5,25],[4],[0,1,5],[4]])
noncomputable def Vy:aP:=cJ (cI 15 [0,1] Tryz.f162 [[2,3],[2,3,9],[4],[14],[4],[4]])
noncomputable def Vz:aP:=cJ (cI 27 [0,1] Tryz.f125 [[0,1],[0,1,10],[4],[0,1,5],[0,1,5,14],[0,1,5,26],[4],[0,1,5],[4]])
noncomputable def VA:aP:=cJ (cI 27 [0,1] Tryz.f126 [[0,1],[0,1,10],[4],[0,1,5],[0,1,5,14],[0,1,5,26],[4],[0,1,5],[4]])
noncomputable def VB:aP:=cJ (cI 34 [0,1] Tryz.f83 [[2,3],[2,3,10],[4],[2,3,16],[4],[2,3,21],[4],[2,3,27],[4],[33],[4],[4]])
noncomputable def VC:aP:=cJ (cI 27 [0,1] Tryz.f39 [[0,1],[0,1,10],[4],[0,1,5],[0,1,5,14],[0,1,5,26],[4],[0,1,5],[4]])
noncomputable def E2:aP:=cJ (cI 22 [0,1] Tryz.f10 [[2,3],[2,3,9],[4],[2,3,15],[4],[21],[4],[4]])
noncomputable def VD:aP:=cJ (cI 19 [0] Tryz.f13 [[0,1],[0,1,5],[0,1,5,9],[0,1,5],[0,1,5],[0,1,5],[0,4]])
noncomputable def VE:aP:=cJ (cI 27 [0] Tryz.f84 [[0,1],[0,1,5],[0,1,5,9],[0,1,5],[0,1,5],[0,1,5],[0,1,5],[0,1,5],[0,4]])
def Lp:aP:=.seq (b2 [cu 6 0,iI 7 .gtr 3 6 0] [0,3,7] (.cond (.t 7) .skip (.exit 0))) (.block 1 (b2 [cu 8 0,iI 9 .rem 3 8 10,ro 10 (.el .add 3 (.c (.int .i64 48)) (.t 9)),KQ 11 3 5 10,zB 12 129 11,KQ 13 129 9 12,cu 14 3,lP 15 .add 9 13 14,fo 3 15] [0,3] (.eK [cu 16 0,iI 17 .quo 3 16 10,fo 0 17] (some [0,3]))))
def VF:aP:=b2 [ro 2 (.k1 (.c (.str [])))] [0] (.seq (b2 [cu 4 0,iI 5 .leq 3 4 0] [0,5] (.cond (.t 5) (b2 [ro 2 (.k1 (.c (.str [109,48])))] [2] .ret) .skip)) (b2 [ro 3 (.k1 (.c (.str [])))] [0,3] (.seq (.block 0 (.loop Lp)) (b2 [cu 18 3,ro 19 (.el .add 9 (.c (.str [109])) (.t 18)),fo 2 19] [2] .ret))))
noncomputable def VG:aP:=cJ (cI 19 [0] Tryz.f85 [[0,1],[0,1,5],[0,1,5,9],[0,1,5],[0,1,5],[0,4]])
noncomputable def VH:aP:=cJ (cI 49 [0] Tryz.f40 [[0,1],[0,1,5],[0,1,5,9],[0,1,5],[0,1,5],[0,1,5],[0,1,5],[0,1,5],[0,1,5],[0,1,5],[0,4]])
def VI:aP:=b2 [⟨some 2,.h0 29 (.t 0),none⟩,sG 4 0] [0,1,2] (b2 [fW 5 29 2 1,c3 6 22 5,cu 7 1,⟨some 8,.iT (.f 13) [(.t 6),(.t 7)] [2],none⟩,fo 1 8] [0,1,2] (b2 [fW 9 29 2 2,c3 10 27 9,cu 11 1,k_ 12 40 10 11,fo 1 12] [0,1] (b2 [cu 13 1,fo 4 13] [0,4] .ret)))
noncomputable def VJ:aP:=cJ (cI 21 [0] Tryz.f15 [[0,1],[0,1,5],[0,1,5,9],[0,1,5,17],[4],[0,1,5],[0,1,5],[4]])
noncomputable def VK:aP:=cJ (cI 31 [0] Tryz.f86 [[0,1],[0,1,5],[0,1,5,9],[0,1,5,18],[4],[0,1,5],[0,1,5,27],[4],[0,1,5],[0,1,5],[4]])
noncomputable def VL:aP:=cJ (cI 21 [0] Tryz.f87 [[0,1],[0,1,5],[0,1,5,9],[0,1,5],[0,1,5,19],[4],[0,1,5],[4]])
noncomputable def VM:aP:=cJ (cI 59 [0] Tryz.f41 [[0,1],[0,1,5],[0,1,5,9],[0,1,5],[0,1,5,20],[4],[0,1,5],[0,1,5,29],[4],[0,1,5,37],[4],[0,1,5],[0,1,5],[0,1,5,48],[4],[0,1,5],[0,1,5,57],[4],[0,1,5],[4]])
noncomputable def mC:aP:=cJ (cI 18 [0] Tryz.f14 [[1,2],[1,2],[1,2,10],[4],[1],[1,16],[4],[4]])
def VN:aP:=b2 [c3 120 29 8,cu 121 13,k_ 122 14 120 121,fo 13 122] [9,12,13] (.seq (b2 [cu 123 13,iI 124 .lss 3 123 0] [9,12,13,124] (.cond (.t 124) (b2 [iJ 2 false] [2] .ret) .skip)) (b2 [cu 125 9,cu 126 13,k_ 127 15 125 126,fo 13 127] [12,13] (.seq (b2 [cu 128 13,iI 129 .lss 3 128 0] [12,13,129] (.cond (.t 129) (b2 [iJ 2 false] [2] .ret) .skip)) (.seq (b2 [cu 130 13,cu 131 12,lP 132 .neq 3 130 131] [132] (.cond (.t 132) (b2 [iJ 2 false] [2] .ret) .skip)) (b2 [iJ 2 true] [2] .ret)))))
def VO:aP:=b2 [c3 99 25 1,kh 100 8 99,kh 101 23 100,cu 98 101,⟨some 102,.ext (.t 98) 0,none⟩,uv 103 98 1,uv 104 98 2,lQ 14 29,lR 29 14 102,fo 15 103,fo 16 104] [4,5,6,8,9,12,14,15,16] (.seq (b2 [c3 105 29 14,c3 106 29 4,k_ 107 10 105 106,uw 108 107,cu 109 108,ei 110 109 (.fT (.t 15)),ei 111 109 (.fT (.t 5)),⟨some 112,.call (.f 11) [(.t 110),(.t 111)],some (109,false)⟩,ei 113 109 (.un .not (.t 112)),ro 114 (.pick (.t 109) (.c (.bool true)) (.t 113)),cu 115 114,ei 116 115 (.fT (.t 16)),ei 117 115 (.fT (.t 6)),ei 118 115 (.el .neq 2 (.t 116) (.t 117)),ro 119 (.pick (.t 115) (.c (.bool true)) (.t 118))] [8,9,12,119] (.cond (.t 119) (b2 [iJ 2 false] [2] .ret) .skip)) (b2 [sG 13 1] [8,9,12,13] VN))
def VP:aP:=b2 [c3 85 29 8,cu 86 13,k_ 87 14 85 86,fo 13 87] [1,4,5,6,8,9,12,13] (.seq (b2 [cu 88 13,iI 89 .lss 3 88 0] [1,4,5,6,8,9,12,13,89] (.cond (.t 89) (b2 [iJ 2 false] [2] .ret) .skip)) (b2 [cu 90 9,cu 91 13,k_ 92 15 90 91,fo 13 92] [1,4,5,6,8,9,12,13] (.seq (b2 [cu 93 13,iI 94 .lss 3 93 0] [1,4,5,6,8,9,12,13,94] (.cond (.t 94) (b2 [iJ 2 false] [2] .ret) .skip)) (.seq (b2 [cu 95 13,cu 96 12,lP 97 .neq 3 95 96] [1,4,5,6,8,9,12,97] (.cond (.t 97) (b2 [iJ 2 false] [2] .ret) .skip)) VO))))
def VQ:aP:=.seq (b2 [cu 60 11,iI 61 .lss 3 60 0,cu 62 61,ei 63 62 (.e0 29 (.t 8)),ei 64 62 (.e0 29 (.t 4)),⟨some 65,.call (.f 10) [(.t 63),(.t 64)],some (62,false)⟩,ei 66 62 (.un .not (.t 65)),ro 67 (.pick (.t 62) (.c (.bool true)) (.t 66)),cu 68 67,ei 69 68 (.fT (.t 9)),ei 70 68 (.fT (.t 5)),⟨some 71,.call (.f 11) [(.t 69),(.t 70)],some (68,false)⟩,ei 72 68 (.un .not (.t 71)),ro 73 (.pick (.t 68) (.c (.bool true)) (.t 72)),cu 74 73,ei 75 74 (.fT (.t 10)),ei 76 74 (.fT (.t 6)),ei 77 74 (.el .neq 2 (.t 75) (.t 76)),ro 78 (.pick (.t 74) (.c (.bool true)) (.t 77))] [1,4,5,6,8,9,78] (.cond (.t 78) (b2 [iJ 2 false] [2] .ret) .skip)) (b2 [sG 12 1] [1,4,5,6,8,9,12] (b2 [c3 79 29 8,cu 80 12,k_ 81 12 79 80,fo 12 81] [1,4,5,6,8,9,12] (b2 [cu 82 9,cu 83 12,k_ 84 13 82 83,fo 12 84] [1,4,5,6,8,9,12] (b2 [sG 13 1] [1,4,5,6,8,9,12,13] VP))))
def VR:aP:=.seq (b2 [c3 37 29 8,c3 38 29 4,k_ 39 10 37 38,uw 40 39,cu 41 40,ei 42 41 (.fT (.t 9)),ei 43 41 (.fT (.t 5)),⟨some 44,.call (.f 11) [(.t 42),(.t 43)],some (41,false)⟩,ei 45 41 (.un .not (.t 44)),ro 46 (.pick (.t 41) (.c (.bool true)) (.t 45)),cu 47 46,ei 48 47 (.fT (.t 10)),ei 49 47 (.fT (.t 6)),ei 50 47 (.el .neq 2 (.t 48) (.t 49)),ro 51 (.pick (.t 47) (.c (.bool true)) (.t 50))] [1,4,5,6,7,8,9,10,51] (.cond (.t 51) (b2 [iJ 2 false] [2] .ret) .skip)) (.seq (Le [c3 52 29 7,c3 53 25 1,kh 54 8 53,k_ 55 10 52 54,uw 56 55] [[],[],[1],[0,2,2],[3]] [1,4,5,6,7,8,9,10,56] (.cond (.t 56) (b2 [iJ 2 false] [2] .ret) .skip)) (b2 [sG 11 1] [1,4,5,6,7,8,9,10,11] (b2 [c3 57 29 7,cu 58 11,k_ 59 12 57 58,fo 11 59] [1,4,5,6,8,9,10,11] VQ)))
def VS:aP:=.seq (b2 [cu 20 3,iI 21 .lss 3 20 0] [1,21] (.cond (.t 21) (b2 [iJ 2 true] [2] .ret) .skip)) (b2 [c3 23 25 1,kh 24 8 23,kh 25 22 24,cu 22 25,⟨some 26,.ext (.t 22) 0,none⟩,uv 27 22 1,uv 28 22 2,lQ 4 29,lR 29 4 26,fo 5 27,fo 6 28] [1,4,5,6] (b2 [c3 29 25 1,kh 30 8 29,lQ 7 29,lR 29 7 30] [1,4,5,6,7] (b2 [c3 32 29 7,kh 33 23 32,cu 31 33,⟨some 34,.ext (.t 31) 0,none⟩,uv 35 31 1,uv 36 31 2,lQ 8 29,lR 29 8 34,fo 9 35,fo 10 36] [1,4,5,6,7,8,9,10] VR)))
def o1:aP:=b2 [ro 1 (.gK 25 (.t 0)),iJ 2 false] [1] (b2 [sG 3 1048576] [1,3] (b2 [c3 17 25 1,cu 18 3,k_ 19 6 17 18,fo 3 19] [1,3] VS))
def abi:=PLift.up (And.intro @Bool.not_true @Bool.not_false)
def abj:=PLift.up (And.intro @length_append.{0} (And.intro @length_cons.{0} (And.intro @length_nil.{0} (And.intro @length_map.{0,0} (And.intro @length_replicate.{0} (And.intro @Nat.zero_add @Nat.add_zero))))))
end Go.Proofs.YtndfcecbamffaaaGreat
