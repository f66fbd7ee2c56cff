/- Part of a proof that a law returns true for every input. No condition. -/
import Derived.Test.YtngohoaiimbacabGreatDoorTb
import Derived.Test.YtngohoaiimbacabGreatDoorFwL
import Derived.Test.YtngohoaiimbacabGreatDoorP3
namespace Go.Proofs.YtngohoaiimbacabGreatDoor
open List Option Go.IntKind Nat Or
open Go Go.c_ Go.lV
set_option linter.unusedSimpArgs false
def kl (x:hA):I:=.agg [.int .i64 x.Kind,.int .i64 x.Value]
theorem WC (x:hA):(kl x).share=kl x:=by
 simp only[kl,dL]
theorem agE (x:hA):(kl x).cF=true:=by
 simp only[kl,I.cF,I.gM,Bool.and_self]
def jd (x:ahE):I:=.slice (x.map kl)
theorem M5 (x:ahE):(jd x).share=jd x:=by
 simp only[jd,dL, @cL _ kl kl (λ_=>WC _)]
def ie (x:i_):I:=.agg [.int .i64 x.Kind,.int .i64 x.Number,.str x.Name,.slice (x.ck.map jd)]
theorem M6 (x:i_):(ie x).share=ie x:=by
 simp only[ie,dL, @cL _ jd jd (λ_=>M5 _)]
def h0 (x:ja):I:=.agg [.str x.Name,.int .i64 x.cU,.slice (x.Body.map ie)]
theorem M7 (x:ja):(h0 x).share=h0 x:=by
 simp only[h0,dL, @cL _ ie ie (λ_=>M6 _)]
def cA (x:Int):I:=.int .i64 x
theorem qF (x:Int):(cA x).share=cA x:=by
 simp only[cA,dL]
theorem B3 (x:Int):(cA x).cF=true:=by
 simp only[cA,I.cF,I.gM,Bool.and_self]
def h1 (x:jb):I:=.agg [.int .i64 x.dd,.slice (x.b5.map cA)]
theorem M8 (x:jb):(h1 x).share=h1 x:=by
 simp only[h1,dL, @cL _ cA cA (λ_=>qF _)]
def hH (x:iJ):I:=.agg [.str x.Left,.str x.b0,.str x.Result]
theorem M9 (x:iJ):(hH x).share=hH x:=by
 simp only[hH,dL]
theorem agF (x:iJ):(hH x).cF=true:=by
 simp only[hH,I.cF,I.gM,Bool.and_self]
def bn (x:aht):I:=.str x
theorem kL (x:aht):(bn x).share=bn x:=by
 simp only[bn,dL]
theorem M_ (x:aht):(bn x).cF=true:=by
 simp only[bn,I.cF,I.gM,Bool.and_self]
def l0 (x:lW):I:=.agg [.slice (x.br.map h0),.slice (x.cw.map h1),.slice (x.gP.map hH),.slice (x.gF.map bn),.slice (x.gG.map bn)]
theorem agG (x:lW):(l0 x).share=l0 x:=by
 simp only[l0,dL, @cL _ h0 h0 (λ_=>M7 _), @cL _ h1 h1 (λ_=>M8 _), @cL _ hH hH (λ_=>M9 _), @cL _ bn bn (λ_=>kL _)]
def G5 (x:ahG):I:=.slice (x.map h0)
theorem agH (x:ahG):(G5 x).share=G5 x:=by
 simp only[G5,dL, @cL _ h0 h0 (λ_=>M7 _)]
def G6 (x:ahH):I:=.slice (x.map h1)
theorem agI (x:ahH):(G6 x).share=G6 x:=by
 simp only[G6,dL, @cL _ h1 h1 (λ_=>M8 _)]
def G7 (x:ahI):I:=.slice (x.map hH)
theorem agJ (x:ahI):(G7 x).share=G7 x:=by
 simp only[G7,dL, @cL _ hH hH (λ_=>M9 _)]
def yM (x:nq):I:=.slice (x.map bn)
theorem agK (x:nq):(yM x).share=yM x:=by
 simp only[yM,dL, @cL _ bn bn (λ_=>kL _)]
def G8 (x:ahF):I:=.slice (x.map ie)
theorem agL (x:ahF):(G8 x).share=G8 x:=by
 simp only[G8,dL, @cL _ ie ie (λ_=>M6 _)]
def G9 (x:ahC):I:=.slice (x.map jd)
theorem agM (x:ahC):(G9 x).share=G9 x:=by
 simp only[G9,dL, @cL _ jd jd (λ_=>M5 _)]
def yN (x:ahv):I:=.slice (x.map cA)
theorem agN (x:ahv):(yN x).share=yN x:=by
 simp only[yN,dL, @cL _ cA cA (λ_=>qF _)]
def e0 (x:cj):I:=.agg [.int .i64 x.Kind,.int .i64 x.Value]
theorem G_ (x:cj):(e0 x).share=e0 x:=by
 simp only[e0,dL]
theorem WD (x:cj):(e0 x).cF=true:=by
 simp only[e0,I.cF,I.gM,Bool.and_self]
def je (x:ahJ):I:=.slice (x.map e0)
theorem Ha (x:ahJ):(je x).share=je x:=by
 simp only[je,dL, @cL _ e0 e0 (λ_=>G_ _)]
def df (x:bD):I:=.agg [.int .i64 x.Kind,.int .i64 x.Number,.str x.Name,.slice (x.ck.map je)]
theorem B4 (x:bD):(df x).share=df x:=by
 simp only[df,dL, @cL _ je je (λ_=>Ha _)]
def bU (x:bl):I:=.agg [.str x.Name,.int .i64 x.cU,.slice (x.Body.map df)]
theorem Hb (x:bl):(bU x).share=bU x:=by
 simp only[bU,dL, @cL _ df df (λ_=>B4 _)]
def jf (x:ahJ):I:=.ao 2 (x.map e0)
theorem Hc (x:ahJ):(jf x).share=je x:=by
 simp only[jf,je,dL, @cL _ e0 e0 (λ_=>G_ _)]
theorem Na (x:ahJ):(jf x).cF=true:=by
 simp only[jf,I.cF,I.gM,Bool.and_self, @ki _ e0 (λ_=>WD _)]
def hn (x:bD):I:=.agg [.int .i64 x.Kind,.int .i64 x.Number,.str x.Name,.ao 1 (x.ck.map jf)]
theorem Hd (x:bD):(hn x).share=df x:=by
 simp only[hn,df,dL, @cL _ jf je (λ_=>Hc _)]
theorem Nb (x:bD):(hn x).cF=true:=by
 simp only[hn,I.cF,I.gM,Bool.and_self, @ki _ jf (λ_=>Na _)]
def fS (x:bl):I:=.agg [.str x.Name,.int .i64 x.cU,.ao 4 (x.Body.map hn)]
theorem tz (x:bl):(fS x).share=bU x:=by
 simp only[fS,bU,dL, @cL _ hn df (λ_=>Hd _)]
theorem Nc (x:bl):(fS x).cF=true:=by
 simp only[fS,I.cF,I.gM,Bool.and_self, @ki _ hn (λ_=>Nb _)]
def B5 (x:ahK):I:=.ao 4 (x.map hn)
def yO (x:ahK):I:=.slice (x.map df)
theorem agO (x:ahK):(yO x).share=yO x:=by
 simp only[yO,dL, @cL _ df df (λ_=>B4 _)]
theorem agP (x:ahK):(B5 x).share=yO x:=by
 simp only[B5,yO,dL, @cL _ hn df (λ_=>Hd _)]
theorem agQ (x:ahK):(B5 x).cF=true:=by
 simp only[B5,I.cF,I.gM,Bool.and_self, @ki _ hn (λ_=>Nb _)]
def B6 (x:ahD):I:=.ao 1 (x.map jf)
def yP (x:ahD):I:=.slice (x.map je)
theorem agR (x:ahD):(yP x).share=yP x:=by
 simp only[yP,dL, @cL _ je je (λ_=>Ha _)]
theorem agS (x:ahD):(B6 x).share=yP x:=by
 simp only[B6,yP,dL, @cL _ jf je (λ_=>Hc _)]
theorem agT (x:ahD):(B6 x).cF=true:=by
 simp only[B6,I.cF,I.gM,Bool.and_self, @ki _ jf (λ_=>Na _)]
def ho (x:dG):I:=.agg [.int .i64 x.dd,.slice (x.b5.map cA)]
theorem He (x:dG):(ho x).share=ho x:=by
 simp only[ho,dL, @cL _ cA cA (λ_=>qF _)]
def gd (x:dG):I:=.agg [.int .i64 x.dd,.ao 1 (x.b5.map cA)]
theorem tA (x:dG):(gd x).share=ho x:=by
 simp only[gd,ho,dL, @cL _ cA cA (λ_=>qF _)]
theorem Nd (x:dG):(gd x).cF=true:=by
 simp only[gd,I.cF,I.gM,Bool.and_self, @ki _ cA (λ_=>B3 _)]
def B7 (x:ahv):I:=.ao 1 (x.map cA)
theorem agU (x:ahv):(B7 x).share=yN x:=by
 simp only[B7,yN,dL, @cL _ cA cA (λ_=>qF _)]
theorem agV (x:ahv):(B7 x).cF=true:=by
 simp only[B7,I.cF,I.gM,Bool.and_self, @ki _ cA (λ_=>B3 _)]
def cb (x:cp):I:=.agg [.str x.Left,.str x.b0,.str x.Result]
theorem pM (x:cp):(cb x).share=cb x:=by
 simp only[cb,dL]
theorem Nf (x:cp):(cb x).cF=true:=by
 simp only[cb,I.cF,I.gM,Bool.and_self]
def pN (x:dH):I:=.agg [.ao 3 (x.br.map fS),.ao 2 (x.cw.map gd),.ao 3 (x.gP.map cb),.ao 1 (x.gF.map bn),.ao 1 (x.gG.map bn)]
def fj (x:dH):I:=.agg [.slice (x.br.map bU),.slice (x.cw.map ho),.slice (x.gP.map cb),.slice (x.gF.map bn),.slice (x.gG.map bn)]
theorem agW (x:dH):(fj x).share=fj x:=by
 simp only[fj,dL, @cL _ bU bU (λ_=>Hb _), @cL _ ho ho (λ_=>He _), @cL _ cb cb (λ_=>pM _), @cL _ bn bn (λ_=>kL _)]
theorem WE (x:dH):(pN x).share=fj x:=by
 simp only[pN,fj,dL, @cL _ fS bU (λ_=>tz _), @cL _ gd ho (λ_=>tA _), @cL _ cb cb (λ_=>pM _), @cL _ bn bn (λ_=>kL _)]
theorem agX (x:dH):(pN x).cF=true:=by
 simp only[pN,I.cF,I.gM,Bool.and_self, @ki _ fS (λ_=>Nc _), @ki _ gd (λ_=>Nd _), @ki _ cb (λ_=>Nf _), @ki _ bn (λ_=>M_ _)]
def B8 (x:ahL):I:=.ao 3 (x.map fS)
def yQ (x:ahL):I:=.slice (x.map bU)
theorem agY (x:ahL):(yQ x).share=yQ x:=by
 simp only[yQ,dL, @cL _ bU bU (λ_=>Hb _)]
theorem agZ (x:ahL):(B8 x).share=yQ x:=by
 simp only[B8,yQ,dL, @cL _ fS bU (λ_=>tz _)]
theorem ag0 (x:ahL):(B8 x).cF=true:=by
 simp only[B8,I.cF,I.gM,Bool.and_self, @ki _ fS (λ_=>Nc _)]
def B9 (x:ahM):I:=.ao 2 (x.map gd)
def yR (x:ahM):I:=.slice (x.map ho)
theorem ag1 (x:ahM):(yR x).share=yR x:=by
 simp only[yR,dL, @cL _ ho ho (λ_=>He _)]
theorem ag2 (x:ahM):(B9 x).share=yR x:=by
 simp only[B9,yR,dL, @cL _ gd ho (λ_=>tA _)]
theorem ag3 (x:ahM):(B9 x).cF=true:=by
 simp only[B9,I.cF,I.gM,Bool.and_self, @ki _ gd (λ_=>Nd _)]
def B_ (x:ahN):I:=.ao 3 (x.map cb)
def yS (x:ahN):I:=.slice (x.map cb)
theorem ag4 (x:ahN):(yS x).share=yS x:=by
 simp only[yS,dL, @cL _ cb cb (λ_=>pM _)]
theorem ag5 (x:ahN):(B_ x).share=yS x:=by
 simp only[B_,yS,dL, @cL _ cb cb (λ_=>pM _)]
theorem ag6 (x:ahN):(B_ x).cF=true:=by
 simp only[B_,I.cF,I.gM,Bool.and_self, @ki _ cb (λ_=>Nf _)]
def Ca (x:nq):I:=.ao 1 (x.map bn)
theorem ag7 (x:nq):(Ca x).share=yM x:=by
 simp only[Ca,yM,dL, @cL _ bn bn (λ_=>kL _)]
theorem ag8 (x:nq):(Ca x).cF=true:=by
 simp only[Ca,I.cF,I.gM,Bool.and_self, @ki _ bn (λ_=>M_ _)]
def fk (x:bY):I:=.agg [.int .i64 x.dd,.int .i64 x.Part,.slice (x.b5.map cA)]
theorem WG (x:bY):(fk x).share=fk x:=by
 simp only[fk,dL, @cL _ cA cA (λ_=>qF _)]
def eX (x:bY):I:=.agg [.int .i64 x.dd,.int .i64 x.Part,.ao 1 (x.b5.map cA)]
theorem Cb (x:bY):(eX x).share=fk x:=by
 simp only[eX,fk,dL, @cL _ cA cA (λ_=>qF _)]
theorem Hf (x:bY):(eX x).cF=true:=by
 simp only[eX,I.cF,I.gM,Bool.and_self, @ki _ cA (λ_=>B3 _)]
def ep (x:cM):I:=.agg [.int .i64 x.scope,.bool x.behind]
theorem Ng (x:cM):(ep x).share=ep x:=by
 simp only[ep,dL]
theorem WH (x:cM):(ep x).cF=true:=by
 simp only[ep,I.cF,I.gM,Bool.and_self]
def yT (x:Bool):I:=.bool x
theorem ag9 (x:Bool):(yT x).share=yT x:=by
 simp only[yT,dL]
theorem ag_ (x:Bool):(yT x).cF=true:=by
 simp only[yT,I.cF,I.gM,Bool.and_self]
noncomputable def WI:aG:=bI (bH 12 [0] Tryz.f178 [[0,1],[1],[1,10],[4],[4]])
noncomputable def c143:aG:=bI (bH 27 [0] Tryz.f143 [[0,1],[0,1],[0,1,11],[4],[0,1,5],[0,1,5,15],[0,1,5],[0,1,5,25],[4],[0,1,5],[4]])
noncomputable def WJ:aG:=bI (bH 19 [0] Tryz.f106 [[1,2],[1,2],[1,2,11],[4],[1],[1,17],[4],[4]])
noncomputable def WK:aG:=bI (bH 27 [0] Tryz.f71 [[0,1],[0,1],[0,1,11],[4],[0,1,5],[0,1,5,15],[0,1,5],[0,1,5,25],[4],[0,1,5],[4]])
noncomputable def WL:aG:=bI (bH 19 [0] Tryz.f42 [[1,2],[1,2],[1,2,11],[4],[1],[1,17],[4],[4]])
noncomputable def WM:aG:=bI (bH 27 [0] Tryz.f13 [[0,1],[0,1],[0,1,11],[4],[0,1,5],[0,1,5,15],[0,1,5],[0,1,5,25],[4],[0,1,5],[4]])
noncomputable def c72:aG:=bI (bH 12 [0] Tryz.f72 [[0,1],[1],[1,10],[4],[4]])
noncomputable def WN:aG:=bI (bH 12 [0] Tryz.f43 [[1,2],[1],[1,10],[4],[4]])
noncomputable def hb:aG:=bI (bH 27 [0] Tryz.f14 [[0,1],[0,1],[0,1,11],[4],[0,1,5],[0,1,5,15],[0,1,5],[0,1,5,25],[4],[0,1,5],[4]])
noncomputable def yU:aG:=bI (bH 27 [0] Tryz.f44 [[1,2],[1,2],[1,2,11],[4],[1,2],[1,2,18],[4],[1],[1,25],[4],[4]])
noncomputable def WO:aG:=bI (bH 27 [0] Tryz.f15 [[0,1],[0,1],[0,1,11],[4],[0,1,5],[0,1,5,15],[0,1,5],[0,1,5,25],[4],[0,1,5],[4]])
noncomputable def iK:aG:=bI (bH 28 [0] Tryz.f16 [[0,1],[0,1],[0,1,11],[4],[0,1,5],[0,1,5,15],[0,1,5],[0,1,5,26],[4],[0,1,5],[4]])
noncomputable def c4:aG:=bI (bH 36 [0] Tryz.f4 [[1,2],[1,2],[1,2,10],[4],[1,2],[1,2,16],[4],[1,2],[1,2,22],[4],[1,2],[1,2,28],[4],[1],[1,34],[4],[4]])
noncomputable def c201:aG:=bI (bH 11 [0] Tryz.f201 [[1,2],[1,2,3],[1,2,3],[2,3],[2]])
noncomputable def WQ:aG:=bI (bH 23 [0] Tryz.f181 [[0],[0,3],[0,3,4],[0,3,4,11],[0,3,4],[0,3,4],[2]])
noncomputable def c148:aG:=bI (bH 23 [0] Tryz.f148 [[0],[0,3],[0,3,4],[0,3,4,11],[0,3,4],[0,3,4],[2]])
noncomputable def WR:aG:=bI (bH 18 [0] Tryz.f112 [[1,2],[1,2,3],[1,2,3],[1,2,3],[1,2,3],[2,3],[2]])
noncomputable def WS:aG:=bI (bH 23 [0] Tryz.f81 [[0],[0,3],[0,3,4],[0,3,4,11],[0,3,4],[0,3,4],[2]])
noncomputable def c49:aG:=bI (bH 15 [0] Tryz.f49 [[1,2],[1,2,3],[1,2,3],[1,2,3],[2,3],[2]])
noncomputable def c20:aG:=bI (bH 23 [0] Tryz.f20 [[0],[0,3],[0,3,4],[0,3,4,11],[0,3,4],[0,3,4],[2]])
noncomputable def WT:aG:=bI (bH 22 [0] Tryz.f82 [[0],[0,3],[0,3,4],[0,3,4,11],[0,3,4],[0,3,4],[2]])
noncomputable def WU:aG:=bI (bH 12 [0] Tryz.f50 [[1,2],[1,2,3],[1,2,3],[2,3],[2]])
noncomputable def c21:aG:=bI (bH 23 [0] Tryz.f21 [[0],[0,3],[0,3,4],[0,3,4,11],[0,3,4],[0,3,4],[2]])
noncomputable def c51:aG:=bI (bH 14 [0] Tryz.f51 [[1,2],[1,2,3],[1,2,3],[1,2,3],[2,3],[2]])
noncomputable def Hg:aG:=bI (bH 23 [0] Tryz.f22 [[0],[0,3],[0,3,4],[0,3,4,11],[0,3,4],[0,3,4],[2]])
noncomputable def WV:aG:=bI (bH 22 [0] Tryz.f23 [[0],[0,3],[0,3,4],[0,3,4,11],[0,3,4],[0,3,4],[2]])
noncomputable def eo:aG:=bI (bH 25 [0] Tryz.f6 [[1,2],[1,2,3],[1,2,3],[1,2,3],[1,2,3],[1,2,3],[2,3],[2]])
noncomputable def WW:aG:=bI (bH 9 [0] Tryz.f144 [[0],[2]])
noncomputable def WX:aG:=bI (bH 9 [0] Tryz.f77 [[0],[2]])
noncomputable def c107:aG:=bI (bH 35 [0] Tryz.f107 [[0],[0,16],[2],[0,3],[0,3,20],[0,3,34],[2],[0,3],[2]])
noncomputable def WY:aG:=bI (bH 15 [0,1,2] Tryz.f78 [[0,1,2],[6]])
noncomputable def WZ:aG:=bI (bH 13 [0] Tryz.f147 [[0],[6],[6,7],[6,7],[6,7],[2],[11],[2],[2]])
noncomputable def c145:aG:=bI (bH 30 [0] Tryz.f145 [[0],[0,12],[2],[0,3],[0,3,4],[0,3,4,16],[0,3,4,20],[2],[0,3,4],[0,3,4],[2]])
noncomputable def W0:aG:=bI (bH 73 [0] Tryz.f179 [[0],[0,6],[0,6,7],[0,6,7],[2],[0,6,30],[2],[0,6,37],[2],[0,6,51],[2],[0,66],[2],[2]])
noncomputable def W1:aG:=bI (bH 18 [0] Tryz.f111 [[0,1],[0,1,5],[0,1,5,7],[0,1,5],[0,1,5],[4]])
noncomputable def W2:aG:=bI (bH 38 [0,1] Tryz.f79 [[0,1],[0,1,5],[0,1,5,6],[0,1,5,6,13],[0,1,5,6,34],[0,1,5,6],[0,1,5,6],[4]])
noncomputable def W3:aG:=bI (bH 39 [0,1] Tryz.f199 [[0,1],[0,1,8],[0,1,8,9],[4],[0,1,8,16],[4],[0,8,25],[4],[0,32],[4],[4]])
noncomputable def W4:aG:=bI (bH 11 [0] Tryz.f200 [[0],[6],[6,7],[2],[9],[2],[2]])
noncomputable def W5:aG:=bI (bH 38 [0,1,2] Tryz.f180 [[0,1,2],[0,1,12],[6],[0,1,7],[0,1,7,8],[0,1,7,8,16],[0,1,7,8,28],[6],[0,1,7,8],[0,1,7,8],[6]])
def bq (r:List b7) (k:ahw) (c:aG):aG:=.seq (.fq r (some k)) c
def Nh (r:List b7) (a:ahu) (k:ahw) (c:aG):aG:=.seq (.iY r a (some k)) c
abbrev fG (d t:Nat) (o:dQ):b7:=⟨some d,o,some (t,true)⟩
abbrev fb (d t:Nat) (o:dQ):b7:=⟨some d,o,some (t,false)⟩
abbrev aha (n:Nat) (k:ahw) (f:Func) (c:aG):Prop:=eQ ⟨n,k⟩ (f.body.getD .skip)=some c.strip
def Ni:aG:=.cond (.t 28) (bq [hX 6 3] [6] .ret) .skip
def Nj:aG:=.cond (.t 51) (bq [hX 6 4] [6] .ret) .skip
def W6:aG:=.cond (.t 57) (bq [bT 59 8,gl 60 .gtr 2 59 2,bT 61 60,fb 62 61 (.gC (.t 8)),fb 63 61 (.el .gtr 2 (.t 62) (.c (.int .i64 0))),fb 64 61 (.gC (.t 63)),fG 65 64 (.gW 128 (.t 7) 2),fG 66 64 (.e3 9 (.t 65)),⟨some 67,.el .eql 9 (.t 66) (.c (.str [116,97,117])),some (64,true)⟩,fb 68 61 (.pick (.t 64) (.t 67) (.c (.bool false))),ro 69 (.pick (.t 61) (.c (.bool true)) (.t 68))] [1,2,7,8,69] (.cond (.t 69) (bq [hX 6 5] [6] .ret) .skip)) (bq [gl 71 .eql 2 56 3,dw 70 71] [0,1,2,7,8,56,70] (.cond (.t 70) (bq [bT 72 8,gl 73 .neq 2 72 1] [1,2,7,8,73] (.cond (.t 73) (bq [hX 6 5] [6] .ret) .skip)) (bq [gl 75 .eql 2 56 5,dw 74 75] [0,1,2,7,8,74] (.cond (.t 74) (bq [bT 76 8,bT 77 0,ga 78 128 7 1,dM 79 2 78,pw 80 32 77 79,ga 81 90 80 1,dM 82 2 81,nd 83 .neq 2 76 82] [1,2,7,8,83] (.cond (.t 83) (bq [hX 6 5] [6] .ret) .skip)) .skip))))
def Nk:aG:=.cond (.t 102) (bq [hX 6 6] [6] .ret) .skip
def Nl:aG:=.seq (bq [bT 113 10,bT 114 8,nd 115 .lss 2 113 114] [7,8,9,10,115] (.cond (.t 115) .skip (.exit 1))) (.seq (.block 2 (bq [ga 118 128 7 3,dM 119 126 118,bT 120 10,pw 121 126 119 120,dM 122 197 121,bT 123 9,ro 124 (.call (.f 180) [(.t 122),(.t 123),(.c (.int .i64 15))]),nR 125 124] [7,8,9,10,125] (.cond (.t 125) (bq [hX 6 8] [6] .ret) .skip))) (.fq [bT 116 10,gl 117 .add 2 116 1,dw 10 117] (some [7,8,9,10])))
def Nn:aG:=.seq (bq [ga 84 128 7 0,dM 85 2 84,gl 86 .eql 2 85 5,bT 87 86,fG 88 87 (.gC (.t 2)),fG 89 87 (.el .eql 2 (.t 88) (.c (.int .i64 0))),fG 90 87 (.gC (.t 89)),fb 91 90 (.gC (.t 1)),fb 92 90 (.kz (.t 91)),fb 93 90 (.gW 90 (.t 92) 2),fb 94 90 (.e3 88 (.t 93)),fb 95 90 (.gC (.t 2)),fb 96 90 (.el .sub 2 (.t 95) (.c (.int .i64 1))),fb 97 90 (.iz 88 (.t 94) (.t 96)),fb 98 90 (.gW 128 (.t 97) 0),fb 99 90 (.e3 2 (.t 98)),fb 100 90 (.el .neq 2 (.t 99) (.c (.int .i64 1))),fG 101 87 (.pick (.t 90) (.c (.bool true)) (.t 100)),ro 102 (.pick (.t 87) (.t 101) (.c (.bool false)))] [1,2,7,8,102] Nk) (bq [bT 103 1,bT 104 2,lu 105 79 103 104,dw 9 105] [7,8,9] (.seq (bq [ga 106 128 7 0,dM 107 2 106,gl 108 .eql 2 107 4,bT 109 108,fG 110 109 (.gC (.t 9)),fG 111 109 (.el .geq 2 (.t 110) (.c (.int .i64 6))),ro 112 (.pick (.t 109) (.t 111) (.c (.bool false)))] [7,8,9,112] (.cond (.t 112) (bq [hX 6 7] [6] .ret) .skip)) (.seq (bq [hX 10 0] [7,8,9,10] (.block 1 (.loop Nl))) (bq [hX 6 0] [6] .ret))))
def W7:aG:=.seq (bq [ga 29 128 7 0,dM 30 2 29,gl 31 .eql 2 30 4,bT 32 31,fG 33 32 (.gW 128 (.t 7) 1),fG 34 32 (.e3 2 (.t 33)),⟨some 35,.call (.f 78) [(.t 34),(.c (.int .i64 1)),(.c (.int .i64 7))],some (32,true)⟩,fG 36 32 (.un .not (.t 35)),ro 37 (.pick (.t 32) (.t 36) (.c (.bool false))),bT 38 37,fb 39 38 (.gW 128 (.t 7) 0),fb 40 38 (.e3 2 (.t 39)),fb 41 38 (.el .eql 2 (.t 40) (.c (.int .i64 5))),fb 42 38 (.gC (.t 41)),fG 43 42 (.gW 128 (.t 7) 1),fG 44 42 (.e3 2 (.t 43)),fG 45 42 (.gC (.t 0)),fG 46 42 (.len 32 (.t 45)),fG 47 42 (.el .sub 2 (.t 46) (.c (.int .i64 1))),⟨some 48,.call (.f 78) [(.t 44),(.c (.int .i64 0)),(.t 47)],some (42,true)⟩,fG 49 42 (.un .not (.t 48)),fb 50 38 (.pick (.t 42) (.t 49) (.c (.bool false))),ro 51 (.pick (.t 38) (.c (.bool true)) (.t 50))] [0,1,2,7,51] Nj) (bq [ga 52 128 7 3,dM 53 126 52,px 54 126 53,dw 8 54] [0,1,2,7,8] (.seq (bq [ga 55 128 7 0,dM 56 2 55] [0,1,2,7,8,56] (.block 0 (bq [gl 58 .eql 2 56 1,dw 57 58] [0,1,2,7,8,56,57] W6))) Nn))
def c146:aG:=bq [hX 6 0] [0,1,2] (bq [bT 11 1,Vi 12 11,ga 13 90 12 2,dM 14 88 13,bT 15 2,pw 16 88 14 15,dM 17 128 16,uZ 7 128,qu 128 7 17] [0,1,2,7] (.seq (bq [kI 18 179 7,nR 19 18] [0,1,2,7,19] (.cond (.t 19) (bq [hX 6 2] [6] .ret) .skip)) (.seq (bq [ga 20 128 7 0,dM 21 2 20,gl 22 .eql 2 21 1,bT 23 22,fG 24 23 (.gW 128 (.t 7) 2),fG 25 23 (.e3 9 (.t 24)),⟨some 26,.call (.f 107) [(.t 25)],some (23,true)⟩,fG 27 23 (.un .not (.t 26)),ro 28 (.pick (.t 23) (.t 27) (.c (.bool false)))] [0,1,2,7,28] Ni) W7)))
noncomputable def W8:aG:=bI (bH 31 [0,1] Tryz.f108 [[0,1],[0,1,13],[4,5],[0,1,6],[0,1,6,20],[0,1,6,7],[0,1,6,7,28],[4,5],[0,1,6],[4,5]])
noncomputable def W9:aG:=bI (bH 70 [0] Tryz.f73 [[0],[0,15],[2],[0,3],[0,3,19],[0,3,37],[2],[0,3,4],[0,3,4,40],[0,3,4,53],[2],[0,3,4],[0,3],[0,5],[0,5,57],[0,5,7],[0,5,69],[2],[0,5],[2]])
noncomputable def c80:aG:=bI (bH 16 [0] Tryz.f80 [[0],[0,3],[0,3,7],[0,3,15],[2],[0,3],[2]])
noncomputable def W_:aG:=bI (bH 64 [0] Tryz.f74 [[0],[0,18],[2],[0,3],[0,3,25],[0,3,4],[0,3,4,44],[2],[0,3,63],[2],[0,3],[2]])
def c109:aG:=bq [hz 2 false] [0] (bq [bT 3 0,kI 4 107 3,bT 5 4,fG 6 5 (.gC (.t 0)),⟨some 7,.el .neq 9 (.t 6) (.c (.str [116,97,117])),some (5,true)⟩,ro 8 (.pick (.t 5) (.t 7) (.c (.bool false))),dw 2 8] [2] .ret)
noncomputable def c75:aG:=bI (bH 101 [0] Tryz.f75 [[0],[0,8],[2],[0,3],[0,3,12],[0,3,4],[0,3,4,41],[2],[0,3,4,76],[2],[0,3,4,5],[0,3,4,5,80],[0,3,4,5,100],[2],[0,3,4,5],[0,3],[2]])
noncomputable def Xa:aG:=bI (bH 16 [0] Tryz.f110 [[0],[0,3],[0,3,7],[0,3,15],[2],[0,3],[2]])
noncomputable def c76:aG:=bI (bH 28 [0] Tryz.f76 [[0],[0,11],[2],[0,3],[0,3,15],[0,3,27],[2],[0,3],[2]])
noncomputable def Xb:aG:=bI (bH 30 [0] Tryz.f45 [[0],[0,8],[2],[0,11],[2],[0,17],[2],[0,23],[2],[29],[2],[2]])
noncomputable def Xc:aG:=bI (bH 6 [0] Tryz.f17 [[0],[2]])
noncomputable def Hh:aG:=bI (bH 35 [0,1] Tryz.f18 [[0,1],[0,1,5],[0,1,5,6],[0,1,5,6,7],[0,1,5,6,7,12],[0,1,5,6,7,19],[0,1,5,7],[0,1,5,6,7],[0,1,5,6,7],[4]])
noncomputable def c46:aG:=bI (bH 62 [0] Tryz.f46 [[0],[0,4],[0,4,14],[0,4],[0,4,36],[2,3],[0,4,5],[0,4,5,6],[0,4,5,6,41],[0,4,5,6,48],[2,3],[0,4,5,6],[0,4,5,6],[5,58],[5],[2,3]])
def Xd:aG:=.seq (.block 1 (bq [bT 25 4,bT 26 6,pw 27 25 25 26,dM 28 9 27,kI 29 46 28,bT 24 29,mH 30 24 0,mH 31 24 1,dw 7 30,dw 8 31] [4,5,6,7,8] (.seq (bq [bT 32 8,nR 33 32,bT 34 33,fb 35 34 (.gC (.t 7)),⟨some 36,.call (.f 78) [(.t 35),(.c (.int .i64 (-1000000000000))),(.c (.int .i64 1000000000000))],some (34,false)⟩,fb 37 34 (.un .not (.t 36)),ro 38 (.pick (.t 34) (.c (.bool true)) (.t 37))] [4,5,6,7,38] (.cond (.t 38) (bq [mG 2,hz 3 false] [2,3] .ret) .skip)) (.fq [bT 39 5,bT 40 7,AH 41 50 40,Fg 42 50 50 39 41,dw 5 42] (some [4,5,6]))))) (.fq [bT 22 6,gl 23 .add 3 22 1,dw 6 23] (some [4,5,6]))
def Np:aG:=.seq (bq [bT 18 6,bT 19 4,px 20 25 19,nd 21 .lss 3 18 20] [4,5,6,21] (.cond (.t 21) .skip (.exit 0))) Xd
def Xe:aG:=bq [mG 2,hz 3 false] [0] (.seq (bq [bT 9 0,ro 10 (.el .eql 9 (.t 9) (.c (.str [45])))] [0,10] (.cond (.t 10) (bq [ro 11 (.f_ 50 0 []),dw 2 11,hz 3 true] [2,3] .ret) .skip)) (bq [bT 12 0,ro 13 (.call (.f 18) [(.t 12),(.c (.int .u8 44))]),dw 4 13] [4] (.seq (bq [bT 14 4,px 15 25 14,gl 16 .gtr 3 15 64] [4,16] (.cond (.t 16) (bq [mG 2,hz 3 false] [2,3] .ret) .skip)) (bq [ro 17 (.f_ 50 0 []),dw 5 17] [4,5] (.seq (bq [hX 6 0] [4,5,6] (.block 0 (.loop Np))) (bq [bT 43 5,dw 2 43,hz 3 true] [2,3] .ret))))))
noncomputable def Xf:aG:=bI (bH 62 [0,1] Tryz.f48 [[0,1],[0,1,14],[4],[1,5],[1,5,43],[4],[4]])
noncomputable def Xg:aG:=bI (bH 73 [0,1] Tryz.f19 [[0,1,4],[0,4,6],[0,4,6,17],[4,5],[0,4,6,7],[0,4,6,7,8],[0,4,6,7,8,26],[0,4,6,7,8,40],[0,4,6,7,8],[0,4,6,7,8],[0,4,6,7,9,10],[0,4,7,9,10,11,12],[0,4,7,10,11,12],[0,4,7,10,12],[4,5]])
noncomputable def c5:aG:=bI (bH 43 [0,1] Tryz.f5 [[1,2],[1,2,12],[4,5],[2,6],[2,6,20],[4,5],[2,6,7],[2,6,7,8],[2,6,7,8,25],[2,6,7,8,9,10],[2,6,7,8,9,37],[4,5],[2,6,7,8],[2,6,7,8],[4,5]])
noncomputable def Xh:aG:=bI (bH 15 [0,1,2] Tryz.f84 [[0,1,2],[6]])
noncomputable def Xi:aG:=bI (bH 7 [0] Tryz.f150 [[1],[2]])
noncomputable def Xj:aG:=bI (bH 19 [0,1] Tryz.f61 [[0,1],[0,1,7,8],[0,1,7,8,9],[0,1,5,7,8],[0,1,5,7,8,16],[4],[0,1,7,8],[4]])
noncomputable def Xk:aG:=bI (bH 9 [0,1] Tryz.f149 [[0,1],[4]])
noncomputable def Xl:aG:=bI (bH 6 [0] Tryz.f113 [[0],[2]])
noncomputable def Xm:aG:=bI (bH 9 [0] Tryz.f151 [[0],[2]])
noncomputable def Xn:aG:=bI (bH 42 [0] Tryz.f114 [[0],[0,6,7],[0,6,7,8],[0,3,6,7],[0,3,4,6,7],[0,6,7,32],[2],[0,6,7],[2]])
noncomputable def Xo:aG:=bI (bH 8 [0,1] Tryz.f62 [[1,2],[3]])
noncomputable def Xp:aG:=bI (bH 19 [0,1] Tryz.f61 [[0,1],[0,1,7,8],[0,1,7,8,9],[0,1,5,7,8],[0,1,5,7,8,16],[4],[0,1,7,8],[4]])
noncomputable def Xq:aG:=bI (bH 8 [0,1] Tryz.f29 [[0,3],[4]])
noncomputable def c173:aG:=bI (bH 11 [0] Tryz.f173 [[1],[4],[4,5],[4,5],[4,5],[2],[9],[2],[2]])
noncomputable def c152:aG:=bI (bH 25 [0] Tryz.f152 [[1,2],[1,2,5],[1,2,5,7],[1,2,5,14],[4],[1,2,5],[1,2,5],[4]])
def Xr:aG:=.fq [ga 29 184 9 0,dM 30 2 29,gl 31 .add 2 30 1,ga 32 184 9 0,qu 2 32 31] (some [0,2,3,4,8,9])
def Xs:aG:=.cond (.t 28) Xr .skip
def Xt:aG:=.fq [gl 43 .add 3 37 1,bT 37 43] (some [2,3,4,9,10,36,37])
def Xu:aG:=.seq (.block 1 (.iv (EY al 172 4 2 39 ((range 3).map (·+2)) [bT 40 10,dM 41 184 9] [(.t 40),(.t 41)] (some 42) [dw 10 42] [2,3,4,9,10,36,37]) (Mz 219 4 39 [bT 40 10,dM 41 184 9] [(.t 40),(.t 41)] (some 42) [dw 10 42]))) Xt
def Xv:aG:=.seq (.cond (.t 38) .skip (.exit 0)) Xu
def Nq:aG:=bq [nd 38 .lss 3 37 36] [2,3,4,9,10,36,37,38] Xv
def Xw:aG:=.block 0 (.loop Nq)
def Xx:aG:=bq [bT 44 10,dw 7 44] [2,3,4,7] .ret
def Xy:aG:=.seq (bq [dM 35 128 8,kI 36 173 35,Ff 37 0] [2,3,4,9,10,36,37] Xw) Xx
def Nr:aG:=bq [bT 33 0,gl 34 .add 3 33 1,dw 10 34] [2,3,4,8,9,10] Xy
def Xz:aG:=.seq (bq [ga 26 128 8 0,dM 27 2 26,gl 28 .eql 2 27 4] [0,2,3,4,8,9,28] Xs) Nr
def XA:aG:=bq [ga 20 184 6 0,dM 21 2 20,ga 22 128 8 0,dM 23 2 22,gl 24 .eql 2 23 1,ro 25 (.gr 184 [(0,(.t 21)),(1,(.t 24))]),uZ 9 184,qu 184 9 25] [0,2,3,4,8,9] Xz
def XB:aG:=bq [ga 15 90 3 2,dM 16 88 15,bT 17 0,pw 18 88 16 17,dM 19 128 18,uZ 8 128,qu 128 8 19] [0,2,3,4,6,8] XA
def XC:aG:=bq [dM 11 185 2,bT 12 0,dM 13 184 6,pw 14 185 11 12,qu 184 14 13] [0,2,3,4,6] XB
def Ns:aG:=bq [ro 6 (.ht 184 (.t 1)),hX 7 0] [0,2,3,4,6] XC
theorem XD:Ns.mC (AD al 172 [0,1,2,3,4] 5 2 4):=And.intro (True.intro) (And.intro (True.intro) (And.intro (True.intro) (And.intro (True.intro) (And.intro (And.intro (True.intro) (And.intro (True.intro) (True.intro))) (And.intro (True.intro) (And.intro (And.intro (True.intro) (And.intro (True.intro) (And.intro (And.intro (True.intro) (True.intro)) (And.intro (⟨219,2,39,3,_,_,_,_,_,rfl,rfl,(by kernel_rfl),rfl,rfl,rfl,rfl,rfl,rfl,rfl⟩) (True.intro))))) (And.intro (True.intro) (True.intro))))))))
theorem XE:eQ ⟨45,[0,1,2,3,4]⟩ (Tryz.f172.body.getD .skip)=some Ns.strip:=by kernel_rfl
def Hi:aG:=bq [dM 15 185 3,dw 2 15] [2] .ret
def XF:aG:=bq [dM 10 219 4,ga 11 90 1 1,dM 12 2 11,ro 13 (.gr 184 [(0,(.t 12))]),ro 14 (.call (.t 10) [(.c (.int .i64 0)),(.t 13)])] [3] Hi
def ahb:aG:=bq [ro 9 (.mx 172 [(.t 3),(.t 1),(.t 4)]),qu 219 4 9] [1,3,4] XF
def XG:aG:=.iv (E2 al 172 4 2 10 9 [3,1,4] [ga 11 90 1 1,dM 12 2 11,ro 13 (.gr 184 [(0,(.t 12))])] [(.c (.int .i64 0)),(.t 13)] (some 14) [3] Hi) (ME 219 172 4 10 9 [3,1,4] [ga 11 90 1 1,dM 12 2 11,ro 13 (.gr 184 [(0,(.t 12))])] [(.c (.int .i64 0)),(.t 13)] (some 14) Hi.kC)
def XH:aG:=bq [ga 5 90 1 2,dM 6 88 5,px 7 88 6,ro 8 (.en 185 (.t 7) (.t 7)),uZ 3 185,qu 185 3 8] [1,3] XG
def Nt:aG:=bq [ro 1 (.ht 90 (.t 0)),mG 2] [1] XH
theorem XI:Nt.mC (xy al):=And.intro (True.intro) (And.intro (True.intro) (⟨219,172,4,2,10,9,_,_,_,_,_,_,rfl,rfl,(by kernel_rfl),⟨Tryz.t219,_,_,(by kernel_rfl),rfl,rfl,rfl,rfl⟩,rfl,rfl,rfl,rfl,(by kernel_rfl)⟩))
theorem XJ:eQ ⟨16,[0]⟩ (Tryz.f136.body.getD .skip)=some Nt.strip:=by kernel_rfl
noncomputable def c182:aG:=bI (bH 56 [0] Tryz.f182 [[1],[1,3],[1,3,4],[2]])
def c119:aG:=bq [hz 2 false] [0] (bq [bT 3 0,kI 4 114 3,bT 5 4,fG 6 5 (.gC (.t 0)),⟨some 7,.el .neq 9 (.t 6) (.c (.str [116,97,117])),some (5,true)⟩,ro 8 (.pick (.t 5) (.t 7) (.c (.bool false))),dw 2 8] [2] .ret)
noncomputable def c117:aG:=bI (bH 9 [0,1] Tryz.f117 [[0,1],[4]])
def XK:aG:=.cond (.t 11) (bq [bT 13 5,gl 14 .eql 3 13 0,bT 15 14,fb 16 15 (.gW 128 (.t 2) 2),fb 17 15 (.e3 9 (.t 16)),⟨some 18,.el .neq 9 (.t 17) (.c (.str [116,97,117])),some (15,false)⟩,fb 19 15 (.gC (.t 18)),fG 20 19 (.gC (.t 5)),fG 21 19 (.el .leq 3 (.t 20) (.c (.int .i64 2))),fb 22 15 (.pick (.t 19) (.t 21) (.c (.bool false))),ro 23 (.pick (.t 15) (.c (.bool true)) (.t 22)),dw 4 23] [4] .ret) (bq [gl 25 .eql 2 10 3,dw 24 25] [1,2,5,10,24] (.cond (.t 24) (bq [bT 26 5,gl 27 .eql 3 26 1,dw 4 27] [4] .ret) (bq [gl 29 .eql 2 10 5,dw 28 29] [1,2,5,28] (.cond (.t 28) (bq [bT 30 5,bT 31 1,ga 32 128 2 1,dM 33 2 32,pw 34 32 31 33,ga 35 90 34 1,dM 36 2 35,nd 37 .eql 2 30 36,dw 4 37] [4] .ret) .skip))))
def c183:aG:=bq [ro 2 (.ht 128 (.t 0)),hz 4 false] [1,2] (bq [ga 6 128 2 3,dM 7 126 6,px 8 126 7,dw 5 8] [1,2,5] (.seq (bq [ga 9 128 2 0,dM 10 2 9] [1,2,5,10] (.block 0 (bq [gl 12 .eql 2 10 1,dw 11 12] [1,2,5,10,11] XK))) (bq [hz 4 true] [4] .ret)))
noncomputable def XL:aG:=bI (bH 5 [0] Tryz.f155 [[0],[2]])
noncomputable def c203:aG:=bI (bH 29 [0,1] Tryz.f203 [[1,2],[1,2,6],[1,2,6,7],[4],[1,2,6,12],[4],[2,6,19],[4],[2,24],[4],[4]])
noncomputable def XM:aG:=bI (bH 9 [0] Tryz.f204 [[1],[4],[4,5],[2],[7],[2],[2]])
noncomputable def XN:aG:=bI (bH 47 [0,1,2] Tryz.f186 [[0,1,2],[0,1,24],[6],[0,1,7],[1,7,25,26,27],[1,7,25,26,27,28],[1,7,9,25,26,27],[1,7,9,25,26,27,38],[6],[1,7,25,26,27],[1,7,25,26,27],[6]])
noncomputable def XO:aG:=bI (bH 9 [0,1] Tryz.f185 [[0,1],[3]])
noncomputable def XP:aG:=bI (bH 19 [0,1] Tryz.f202 [[0,1],[0,1,7,8],[0,1,7,8,9],[0,1,5,7,8],[0,1,5,7,8,16],[4],[0,1,7,8],[4]])
noncomputable def XQ:aG:=bI (bH 9 [0,1] Tryz.f184 [[0,1],[4]])
def XR:aG:=bq [ga 55 128 3 0,dM 56 2 55,gl 57 .eql 2 56 5,bT 58 57,fG 59 58 (.gW 184 (.t 5) 1),fG 60 58 (.e3 4 (.t 59)),fG 61 58 (.un .not (.t 60)),ro 62 (.pick (.t 58) (.t 61) (.c (.bool false))),dw 54 62] [3,5,54] (.cond (.t 54) (bq [hX 6 6] [6] .ret) (bq [ga 64 128 3 0,dM 65 2 64,gl 66 .eql 2 65 4,bT 67 66,fG 68 67 (.gW 184 (.t 5) 0),fG 69 67 (.e3 2 (.t 68)),fG 70 67 (.el .geq 2 (.t 69) (.c (.int .i64 6))),ro 71 (.pick (.t 67) (.t 70) (.c (.bool false))),dw 63 71] [3,5,63] (.cond (.t 63) (bq [hX 6 7] [6] .ret) (bq [ga 73 128 3 3,dM 74 126 73,ro 75 (.mx 185 [(.t 5)]),lu 76 184 74 75,dw 72 76] [72] (.cond (.t 72) (bq [hX 6 8] [6] .ret) .skip)))))
def Nu:aG:=.cond (.t 26) (bq [hX 6 4] [6] .ret) (bq [dM 50 128 3,bT 51 1,lu 52 183 50 51,nR 53 52,dw 49 53] [3,5,49] (.cond (.t 49) (bq [hX 6 5] [6] .ret) XR))
def XS:aG:=bq [ga 27 128 3 0,dM 28 2 27,gl 29 .eql 2 28 4,bT 30 29,fG 31 30 (.gW 128 (.t 3) 1),fG 32 30 (.e3 2 (.t 31)),⟨some 33,.call (.f 84) [(.t 32),(.c (.int .i64 1)),(.c (.int .i64 7))],some (30,true)⟩,fG 34 30 (.un .not (.t 33)),ro 35 (.pick (.t 30) (.t 34) (.c (.bool false))),bT 36 35,fb 37 36 (.gW 128 (.t 3) 0),fb 38 36 (.e3 2 (.t 37)),fb 39 36 (.el .eql 2 (.t 38) (.c (.int .i64 5))),fb 40 36 (.gC (.t 39)),fG 41 40 (.gW 128 (.t 3) 1),fG 42 40 (.e3 2 (.t 41)),fG 43 40 (.gC (.t 1)),fG 44 40 (.len 32 (.t 43)),⟨some 45,.call (.f 117) [(.t 42),(.t 44)],some (40,true)⟩,fG 46 40 (.un .not (.t 45)),fb 47 36 (.pick (.t 40) (.t 46) (.c (.bool false))),ro 48 (.pick (.t 36) (.c (.bool true)) (.t 47)),dw 26 48] [1,3,5,26] Nu
def Nv:aG:=.cond (.t 11) (bq [hX 6 3] [6] .ret) XS
def XT:aG:=.seq (.block 0 (bq [dM 8 128 3,kI 9 182 8,nR 10 9,dw 7 10] [1,3,5,7] (.cond (.t 7) (bq [hX 6 2] [6] .ret) (bq [ga 12 128 3 0,dM 13 2 12,gl 14 .eql 2 13 1,bT 15 14,fG 16 15 (.gW 128 (.t 3) 2),fG 17 15 (.e3 9 (.t 16)),⟨some 18,.el .neq 9 (.t 17) (.c (.str [116,97,117])),some (15,true)⟩,ro 19 (.pick (.t 15) (.t 18) (.c (.bool false))),bT 20 19,fG 21 20 (.gW 128 (.t 3) 2),fG 22 20 (.e3 9 (.t 21)),⟨some 23,.call (.f 119) [(.t 22)],some (20,true)⟩,fG 24 20 (.un .not (.t 23)),ro 25 (.pick (.t 20) (.t 24) (.c (.bool false))),dw 11 25] [1,3,5,11] Nv)))) (bq [hX 6 0] [6] .ret)
def XU:aG:=bq [ro 3 (.ht 128 (.t 0)),ro 5 (.ht 184 (.t 2)),hX 6 0] [1,3,5] XT
noncomputable def XV:aG:=bI (bH 45 [0,1] Tryz.f115 [[0,3],[0,3,22],[4,5],[0,3,6],[0,6,26,27,28],[0,6,26,27,28,29],[0,6,7,8,26,27,28],[0,6,7,9,26,27,28],[0,6,7,9,26,27,28,41],[4,5],[0,6,26,27,28],[4,5]])
noncomputable def XW:aG:=bI (bH 45 [0] Tryz.f83 [[0],[0,15],[2],[0,16,17,18],[0,16,17,18,19],[0,3,4,16,17,18],[0,4,16,17,18,35],[2],[0,6,16,17,18],[0,16,17,18,43],[2],[0,16,17,18],[2]])
noncomputable def c154:aG:=bI (bH 6 [0] Tryz.f154 [[0],[2]])
noncomputable def XX:aG:=bI (bH 19 [0,1] Tryz.f134 [[0,1],[0,1,7,8],[0,1,7,8,9],[0,1,5,7,8],[0,1,5,7,8,16],[4],[0,1,7,8],[4]])
noncomputable def XY:aG:=bI (bH 9 [0,1] Tryz.f97 [[0,1],[4]])
noncomputable def XZ:aG:=bI (bH 6 [0] Tryz.f118 [[0],[2]])
noncomputable def c87:aG:=bI (bH 27 [0,1] Tryz.f87 [[0,3],[4]])
noncomputable def X0:aG:=bI (bH 9 [0,1] Tryz.f86 [[1,2],[3]])
noncomputable def c116:aG:=bI (bH 19 [0,1] Tryz.f116 [[0,1],[0,1,7,8],[0,1,7,8,9],[0,1,5,7,8],[0,1,5,7,8,16],[4],[0,1,7,8],[4]])
noncomputable def c85:aG:=bI (bH 9 [0,1] Tryz.f85 [[0,1],[4]])
noncomputable def X1:aG:=bI (bH 6 [0] Tryz.f205 [[0],[2]])
noncomputable def X2:aG:=bI (bH 20 [0,1] Tryz.f187 [[0,1],[0,1,5],[0,1,5,6],[0,1,6,11],[12],[4],[4],[0,1,13],[4],[0,1,16],[4],[19],[4],[4]])
noncomputable def c156:aG:=bI (bH 36 [0,1] Tryz.f156 [[0,1],[0,1,9,10,11],[0,1,9,10,11,12],[0,1,5,6,9,10,11],[0,1,5,6,9,10,11,19],[4],[0,1,6,7,9,10,11],[0,1,8,9,10,11],[0,1,8,9,10,11,28],[4],[0,1,9,10,11],[35],[4],[4]])
noncomputable def X3:aG:=bI (bH 16 [0,1] Tryz.f120 [[2,3],[4]])
noncomputable def X4:aG:=bI (bH 16 [0,1] Tryz.f122 [[1,2],[3]])
noncomputable def c157:aG:=bI (bH 19 [0,1] Tryz.f157 [[0,1],[0,1,7,8],[0,1,7,8,9],[0,1,5,7,8],[0,1,5,7,8,16],[4],[0,1,7,8],[4]])
noncomputable def X5:aG:=bI (bH 9 [0,1] Tryz.f121 [[0,1],[4]])
noncomputable def X6:aG:=bI (bH 56 [0] Tryz.f88 [[0],[0,5,6,7],[0,5,6,7,8],[0,3,4,5,6,7],[0,4,5,6,7,48],[2],[0,5,6,7,51],[2],[0,5,6,7],[2]])
noncomputable def X7:aG:=bI (bH 32 [0] Tryz.f89 [[0],[0,5,6,7],[0,5,6,7,8],[0,3,4,5,6,7],[0,5,6,7,27],[2],[0,5,6,7],[2]])
noncomputable def X8:aG:=bI (bH 35 [0] Tryz.f52 [[1],[1,3],[2],[1,8],[2],[1,20],[2],[1,25],[2],[30],[2],[2]])
noncomputable def c24:aG:=bI (bH 6 [0] Tryz.f24 [[1],[2]])
noncomputable def X9:aG:=bI (bH 5 [0] Tryz.f25 [[0],[2]])
noncomputable def c159:aG:=bI (bH 8 [0,1] Tryz.f159 [[0,1],[4]])
noncomputable def X_:aG:=bI (bH 143 [0,1] Tryz.f126 [[0,1],[0,1,5],[0,1,5,16],[4],[0,1,5,24],[4],[0,1,5,31],[4],[0,1,5,36],[4],[0,1,5,6],[0,1,5,6,7],[0,1,5,6,7,8],[0,1,5,6,7,8,9],[0,1,5,6,7,8,9,10],[0,1,5,6,7,8,9,10,59],[0,1,5,6,7,8,9,10,64],[0,1,5,6,7,8,9,10,11],[0,1,5,6,7,8,9,10,11,73],[4],[0,1,5,6,7,8,9,10],[0,1,5,6,7,8,9,10,93],[4],[0,1,5,6,7,8,9,10],[0,1,5,6,7,8,9,10],[0,1,5,6,7,8,9,10,107],[8,12],[8,12,114],[4],[4],[0,1,5,6,7,8,9,10,132],[8,13],[8,13,139],[4],[4],[4]])
noncomputable def Ya:aG:=bI (bH 8 [0,1] Tryz.f92 [[0,1],[4]])
noncomputable def c91:aG:=bI (bH 34 [1] Tryz.f91 [[0,1],[0,1,9],[4],[0,1,15],[4],[0,1,5],[0,1,5,6],[0,1,5,6,24],[4],[0,1,5,6],[0,1,5]])
noncomputable def Hj:aG:=bI (bH 66 [1,2] Tryz.f55 [[0,1,2,3],[0,1,2,3,13],[8],[0,1,2,3,15],[8],[0,1,2,3,20],[0,1,2,3],[0,1,2,3],[0,1,2,3,9],[0,1,2,3,9],[0,1,2,3,9,10],[0,1,2,3,9,10,36],[0,1,2,3,9,10,11],[0,1,2,3,9,10,11,41],[0,1,2,3,9,10,11],[0,1,2,3,9,10],[0,1,2,3,9,10],[9,10],[8]])
noncomputable def yV:aG:=bI (bH 8 [0,1] Tryz.f26 [[0,1],[4]])
noncomputable def c59:aG:=bI (bH 28 [0] Tryz.f59 [[0],[0,4],[4,9,10,11],[4,9,10,11,12],[4,6,9,10,11],[4,7,8,9,10,11],[4,7,9,10,11,21],[2,3],[4,9,10,11],[4,9,10,11],[2,3]])
noncomputable def Yb:aG:=bI (bH 6 [0] Tryz.f98 [[0],[2]])
noncomputable def Yc:aG:=bI (bH 19 [0,1] Tryz.f134 [[0,1],[0,1,7,8],[0,1,7,8,9],[0,1,5,7,8],[0,1,5,7,8,16],[4],[0,1,7,8],[4]])
noncomputable def Yd:aG:=bI (bH 9 [0,1] Tryz.f97 [[0,1],[4]])
noncomputable def Ye:aG:=bI (bH 11 [0] Tryz.f60 [[0],[2]])
def Yf:aG:=.seq (bq [bT 6 0,ro 7 (.el .eql 9 (.t 6) (.c (.str [45])))] [0,7] (.cond (.t 7) (bq [mG 2,hz 3 true] [2,3] .ret) .skip)) (bq [bT 9 0,ro 10 (.call (.f 26) [(.t 9),(.c (.str [44]))]),kI 11 59 10,bT 8 11,mH 12 8 0,mH 13 8 1,dw 4 12,dw 5 13] [4,5] (.seq (bq [bT 14 5,nR 15 14,bT 16 15,fb 17 16 (.gC (.t 4)),⟨some 18,.call (.f 60) [(.t 17)],some (16,false)⟩,fb 19 16 (.un .not (.t 18)),ro 20 (.pick (.t 16) (.c (.bool true)) (.t 19))] [4,20] (.cond (.t 20) (bq [mG 2,hz 3 false] [2,3] .ret) .skip)) (bq [bT 21 4,dw 2 21,hz 3 true] [2,3] .ret)))
def c28:aG:=bq [mG 2,hz 3 false] [0] Yf
noncomputable def Yg:aG:=bI (bH 56 [0,1] Tryz.f101 [[0,3],[0,3,24],[4],[3,5],[4]])
noncomputable def Yh:aG:=bI (bH 9 [0,1] Tryz.f100 [[1,2],[3]])
noncomputable def Yi:aG:=bI (bH 19 [0,1] Tryz.f135 [[0,1],[0,1,7,8],[0,1,7,8,9],[0,1,5,7,8],[0,1,5,7,8,16],[4],[0,1,7,8],[4]])
noncomputable def Yj:aG:=bI (bH 9 [0,1] Tryz.f99 [[0,1],[4]])
noncomputable def Yk:aG:=bI (bH 21 [0,1] Tryz.f63 [[1,2],[4]])
noncomputable def Yl:aG:=bI (bH 5 [0] Tryz.f58 [[0],[2]])
noncomputable def Ym:aG:=bI (bH 27 [0,1] Tryz.f174 [[0,1],[0,1,5],[1,5,11,12,13],[1,5,11,12,13,14],[1,5,6,7,11,12,13],[1,5,11,12,13],[1,5,11,12,13],[4]])
def Yn:aG:=bq [ro 2 (.kc (.c (.str [])))] [0] (.seq (.block 0 (bq [bT 4 0,kI 5 60 4,nR 6 5,dw 3 6] [0,3] (.cond (.t 3) (bq [ro 2 (.kc (.c (.str [])))] [2] .ret) (bq [bT 8 0,px 9 50 8,gl 10 .eql 3 9 0,dw 7 10] [0,7] (.cond (.t 7) (bq [ro 2 (.kc (.c (.str [45])))] [2] .ret) .skip))))) (bq [bT 11 0,ro 12 (.call (.f 174) [(.t 11),(.c (.str [44]))]),dw 2 12] [2] .ret))
def Yo:aG:=bq [ro 1 (.ht 52 (.t 0)),ro 2 (.kc (.c (.str [])))] [1] (Nh [ga 3 52 1 1,dM 4 2 3,kI 5 58 4,ro 6 (.el .add 9 (.t 5) (.c (.str [58]))),ga 7 52 1 2,dM 8 50 7,kI 9 137 8,nd 10 .add 9 6 9,dw 2 10] [[],[0],[1],[2],[],[4],[5,2],[3,6],[7,6,0,1,2,3,4,5,6,7]] [2] .ret)
def Yp:aG:=.seq (.cond (.t 11) .skip (.exit 0)) (.seq (.block 1 (bq [pw 12 29 8 10,dM 13 52 12,uZ 7 52,qu 52 7 13] [2,5,7,8,9,10] (.iY [bT 14 5,ga 15 36 2 0,dM 16 32 15,ga 17 52 7 0,dM 18 2 17,pw 19 32 16 18,ga 20 90 19 0,dM 21 9 20,ro 22 (.el .add 9 (.t 21) (.c (.str [58]))),dM 23 52 7,kI 24 102 23,nd 25 .add 9 22 24,AH 26 25 25,Fg 27 25 25 14 26,dw 5 27] [[],[],[1],[],[3],[2,4],[5],[6],[7],[],[9],[8,10],[11],[0,12,10],[13,13,0,1,2,3,4,5,6,7,8,9,10,11,12,13]] (some [2,5,8,9,10])))) (.fq [gl 28 .add 3 10 1,bT 10 28] (some [2,5,8,9,10])))
def Nw:aG:=bq [nd 11 .lss 3 10 9] [2,5,8,9,10,11] Yp
def Yq:aG:=bq [ro 2 (.ht 36 (.t 0)),ro 4 (.kc (.c (.str [])))] [1,2] (bq [mG 5] [1,2,5] (.seq (bq [bT 8 1,px 9 29 8,Ff 10 0] [2,5,8,9,10] (.block 0 (.loop Nw))) (bq [bT 29 5,ro 30 (.call (.f 103) [(.t 29),(.c (.str [32]))]),dw 4 30] [4] .ret)))
noncomputable def Yr:aG:=bI (bH 12 [0,1] Tryz.f30 [[1,2],[1,2,8],[4],[4]])
def Ys:aG:=.seq (bq [bT 43 11,nR 44 43,bT 45 44,fb 46 45 (.gC (.t 13)),fb 47 45 (.un .not (.t 46)),ro 48 (.pick (.t 45) (.c (.bool true)) (.t 47))] [1,2,6,9,10,12,18,19,20,48] (.cond (.t 48) (bq [mG 4,hz 5 false] [4,5] .ret) .skip)) (.iY [bT 49 6,ga 50 36 2 0,dM 51 32 50,bT 52 9,ro 53 (.iz 25 (.t 52) (.c (.int .i64 0))),dM 54 9 53,lu 55 29 51 54,bT 56 10,bT 57 12,ro 58 (.gr 52 [(0,(.t 55)),(1,(.t 56)),(2,(.t 57))]),AH 59 29 58,Fg 60 29 29 49 59,dw 6 60] [[],[],[1],[],[3],[4],[2,5],[],[],[6,7,8],[9],[0,10,6],[11,11,0,1,2,3,4,5,6,7,8,9,10,11]] (some [1,2,6,18,19,20]))
def Yt:aG:=bq [bT 24 8,ro 25 (.call (.f 26) [(.t 24),(.c (.str [58]))]),dw 9 25] [1,2,6,9,18,19,20] (.seq (bq [bT 26 9,px 27 25 26,gl 28 .neq 3 27 3] [1,2,6,9,18,19,20,28] (.cond (.t 28) (bq [mG 4,hz 5 false] [4,5] .ret) .skip)) (bq [bT 30 9,ro 31 (.iz 25 (.t 30) (.c (.int .i64 1))),dM 32 9 31,kI 33 27 32,bT 29 33,mH 34 29 0,mH 35 29 1,dw 10 34,dw 11 35] [1,2,6,9,10,11,18,19,20] (bq [bT 37 9,ro 38 (.iz 25 (.t 37) (.c (.int .i64 2))),dM 39 9 38,kI 40 28 39,bT 36 40,mH 41 36 0,mH 42 36 1,dw 12 41,dw 13 42] [1,2,6,9,10,11,12,13,18,19,20] Ys)))
def Nx:aG:=bq [nd 21 .lss 3 20 19] [1,2,6,18,19,20,21] (.seq (.cond (.t 21) .skip (.exit 0)) (.seq (.block 1 (bq [pw 22 25 18 20,dM 23 9 22,dw 8 23] [1,2,6,8,18,19,20] Yt)) (.fq [gl 61 .add 3 20 1,bT 20 61] (some [1,2,6,18,19,20]))))
def Yu:aG:=.seq (bq [dM 14 36 2,kI 15 24 14,nR 16 15] [1,2,16] (.cond (.t 16) (bq [mG 4,hz 5 false] [4,5] .ret) .skip)) (bq [mG 6] [1,2,6] (.seq (bq [bT 17 1,kI 18 25 17,px 19 25 18,Ff 20 0] [1,2,6,18,19,20] (.block 0 (.loop Nx))) (.seq (bq [dM 62 36 2,bT 63 6,lu 64 30 62 63,bT 65 1,nd 66 .neq 9 64 65,bT 67 66,fb 68 67 (.gC (.t 1)),⟨some 69,.el .eql 9 (.t 68) (.c (.str [])),some (67,false)⟩,ro 70 (.pick (.t 67) (.c (.bool true)) (.t 69))] [6,70] (.cond (.t 70) (bq [mG 4,hz 5 false] [4,5] .ret) .skip)) (bq [bT 71 6,dw 4 71,hz 5 true] [4,5] .ret))))
def D_:aG:=bq [ro 2 (.ht 36 (.t 0)),mG 4,hz 5 false] [1,2] Yu
noncomputable def Yv:aG:=bI (bH 26 [0,1] Tryz.f65 [[0,1],[0,1,10],[4],[0,1,5],[0,1,5,14],[0,1,5,25],[4],[0,1,5],[4]])
noncomputable def c31:aG:=bI (bH 21 [0,1] Tryz.f31 [[2,3],[2,3,9],[4],[2,3,14],[4],[20],[4],[4]])
noncomputable def iG:aG:=bI (bH 27 [0,1] Tryz.f8 [[0,1],[0,1,10],[4],[0,1,5],[0,1,5,14],[0,1,5,26],[4],[0,1,5],[4]])
noncomputable def c208:aG:=bI (bH 15 [0,1] Tryz.f208 [[2,3],[2,3,9],[4],[14],[4],[4]])
noncomputable def c198:aG:=bI (bH 27 [0,1] Tryz.f198 [[0,1],[0,1,10],[4],[0,1,5],[0,1,5,14],[0,1,5,26],[4],[0,1,5],[4]])
noncomputable def Yw:aG:=bI (bH 27 [0,1] Tryz.f177 [[0,1],[0,1,10],[4],[0,1,5],[0,1,5,14],[0,1,5,26],[4],[0,1,5],[4]])
noncomputable def c141:aG:=bI (bH 26 [0,1] Tryz.f141 [[2,3],[2,3,9],[4],[2,3,14],[4],[2,3,19],[4],[25],[4],[4]])
noncomputable def Yx:aG:=bI (bH 27 [0,1] Tryz.f104 [[0,1],[0,1,10],[4],[0,1,5],[0,1,5,14],[0,1,5,26],[4],[0,1,5],[4]])
noncomputable def Yy:aG:=bI (bH 21 [0,1] Tryz.f66 [[2,3],[2,3,9],[4],[2,3,14],[4],[20],[4],[4]])
noncomputable def Hk:aG:=bI (bH 27 [0,1] Tryz.f32 [[0,1],[0,1,10],[4],[0,1,5],[0,1,5,14],[0,1,5,26],[4],[0,1,5],[4]])
noncomputable def Yz:aG:=bI (bH 16 [0,1] Tryz.f67 [[2,3],[2,3,9],[4],[15],[4],[4]])
noncomputable def YA:aG:=bI (bH 27 [0,1] Tryz.f33 [[0,1],[0,1,10],[4],[0,1,5],[0,1,5,14],[0,1,5,26],[4],[0,1,5],[4]])
noncomputable def YB:aG:=bI (bH 20 [0,1] Tryz.f68 [[2,3],[2,3,9],[4],[2,3,14],[4],[19],[4],[4]])
noncomputable def yW:aG:=bI (bH 27 [0,1] Tryz.f34 [[0,1],[0,1,10],[4],[0,1,5],[0,1,5,14],[0,1,5,26],[4],[0,1,5],[4]])
noncomputable def YC:aG:=bI (bH 26 [0,1] Tryz.f35 [[0,1],[0,1,10],[4],[0,1,5],[0,1,5,14],[0,1,5,25],[4],[0,1,5],[4]])
noncomputable def c9:aG:=bI (bH 35 [0,1] Tryz.f9 [[2,3],[2,3,10],[4],[2,3,16],[4],[2,3,22],[4],[2,3,28],[4],[34],[4],[4]])
def Ny:aG:=.seq (bq [bT 6 0,gl 7 .gtr 3 6 0] [0,3,7] (.cond (.t 7) .skip (.exit 0))) (.block 1 (bq [bT 8 0,gl 9 .rem 3 8 10,ro 10 (.el .add 3 (.c (.int .i64 48)) (.t 9)),M1 11 3 5 10,AH 12 151 11,M1 13 151 9 12,bT 14 3,nd 15 .add 9 13 14,dw 3 15] [0,3] (.fq [bT 16 0,gl 17 .quo 3 16 10,dw 0 17] (some [0,3]))))
def YD:aG:=bq [ro 2 (.kc (.c (.str [])))] [0] (.seq (bq [bT 4 0,gl 5 .leq 3 4 0] [0,5] (.cond (.t 5) (bq [ro 2 (.kc (.c (.str [109,48])))] [2] .ret) .skip)) (bq [ro 3 (.kc (.c (.str [])))] [0,3] (.seq (.block 0 (.loop Ny)) (bq [bT 18 3,ro 19 (.el .add 9 (.c (.str [109])) (.t 18)),dw 2 19] [2] .ret))))
noncomputable def YE:aG:=bI (bH 27 [0] Tryz.f142 [[0,1],[0,1,5],[0,1,5,9],[0,1,5],[0,1,5],[0,1,5],[0,1,5],[0,1,5],[0,4]])
noncomputable def c105:aG:=bI (bH 19 [0] Tryz.f105 [[0,1],[0,1,5],[0,1,5,9],[0,1,5],[0,1,5],[0,4]])
noncomputable def c70:aG:=bI (bH 42 [0] Tryz.f70 [[0,1],[0,1,5],[0,1,5,9],[0,1,5],[0,1,5],[0,1,5],[0,1,5],[0,1,5],[0,1,5],[0,1,5],[0,1,5],[0,4]])
noncomputable def YF:aG:=bI (bH 35 [0] Tryz.f36 [[0,1],[0,1,5],[0,1,5,9],[0,1,5],[0,1,5],[0,1,5],[0,1,5],[0,1,5],[0,1,5],[0,4]])
noncomputable def c40:aG:=bI (bH 19 [0] Tryz.f40 [[0,1],[0,1,5],[0,1,5,9],[0,1,5],[0,1,5],[0,1,5],[0,4]])
noncomputable def c37:aG:=bI (bH 27 [0] Tryz.f37 [[0,1],[0,1,5],[0,1,5,9],[0,1,5],[0,1,5],[0,1,5],[0,1,5],[0,4]])
noncomputable def YG:aG:=bI (bH 37 [0] Tryz.f38 [[0,1],[0,1,5],[0,1,5,9],[0,1,5],[0,1,5],[0,1,5],[0,1,5],[0,1,5],[0,1,5],[0,1,5],[0,4]])
noncomputable def YH:aG:=bI (bH 20 [0] Tryz.f39 [[0,1],[0,1,5],[0,1,5,9],[0,1,5],[0,1,5],[0,1,5],[0,4]])
def YI:aG:=bq [ga 5 36 2 0,dM 6 32 5,bT 7 1,⟨some 8,.kd (.f 36) [(.t 6),(.t 7)] [2],none⟩,dw 1 8] [0,1,2] (bq [ga 9 36 2 1,dM 10 33 9,bT 11 1,⟨some 12,.kd (.f 37) [(.t 10),(.t 11)] [2],none⟩,dw 1 12] [0,1,2] (bq [ga 13 36 2 2,dM 14 34 13,bT 15 1,⟨some 16,.kd (.f 38) [(.t 14),(.t 15)] [2],none⟩,dw 1 16] [0,1,2] (bq [ga 17 36 2 3,dM 18 25 17,bT 19 1,⟨some 20,.kd (.f 39) [(.t 18),(.t 19)] [2],none⟩,dw 1 20] [0,1,2] (bq [ga 21 36 2 4,dM 22 25 21,bT 23 1,lu 24 39 22 23,dw 1 24] [0,1] (bq [bT 25 1,dw 4 25] [0,4] .ret)))))
def yX:aG:=bq [⟨some 2,.jF 36 (.t 0),none⟩,hX 4 0] [0,1,2] YI
noncomputable def YJ:aG:=bI (bH 34 [0] Tryz.f11 [[0,1],[0,1,5],[0,1,5,9],[0,1,5],[0,1,5],[0,1,5],[0,1,5],[0,1,5],[0,1,5],[0,4]])
noncomputable def YK:aG:=bI (bH 21 [0] Tryz.f41 [[0,1],[0,1,5],[0,1,5,9],[0,1,5,17],[4],[0,1,5],[0,1,5],[4]])
noncomputable def c12:aG:=bI (bH 40 [0] Tryz.f12 [[0,1],[0,1,5],[0,1,5,9],[0,1,5,18],[4],[0,1,5],[0,1,5,27],[4],[0,1,5],[0,1,5],[0,1,5,38],[4],[0,1,5],[4]])
def YL:aG:=.seq (bq [bT 87 14,bT 88 6,lu 89 8 87 88,nR 90 89,bT 91 90,fb 92 91 (.gC (.t 15)),fb 93 91 (.gC (.t 7)),fb 94 91 (.el .neq 4 (.t 92) (.t 93)),ro 95 (.pick (.t 91) (.c (.bool true)) (.t 94))] [9,12,95] (.cond (.t 95) (bq [hz 4 false] [4] .ret) .skip)) (bq [hX 13 1] [9,12,13] (bq [bT 96 9,bT 97 13,lu 98 12 96 97,dw 13 98] [12,13] (.seq (bq [bT 99 13,gl 100 .lss 3 99 0] [12,13,100] (.cond (.t 100) (bq [hz 4 false] [4] .ret) .skip)) (.seq (bq [bT 101 13,bT 102 12,nd 103 .neq 3 101 102] [103] (.cond (.t 103) (bq [hz 4 false] [4] .ret) .skip)) (bq [hz 4 true] [4] .ret)))))
def YM:aG:=bq [hX 13 1] [1,2,6,7,9,12,13] (bq [bT 72 9,bT 73 13,lu 74 12 72 73,dw 13 74] [1,2,6,7,9,12,13] (.seq (bq [bT 75 13,gl 76 .lss 3 75 0] [1,2,6,7,9,12,13,76] (.cond (.t 76) (bq [hz 4 false] [4] .ret) .skip)) (.seq (bq [bT 77 13,bT 78 12,nd 79 .neq 3 77 78] [1,2,6,7,9,12,79] (.cond (.t 79) (bq [hz 4 false] [4] .ret) .skip)) (bq [dM 81 27 2,kI 82 6 81,bT 83 1,lu 84 7 82 83,bT 80 84,mH 85 80 0,mH 86 80 1,dw 14 85,dw 15 86] [6,7,9,12,14,15] YL))))
def YN:aG:=.seq (bq [bT 56 11,gl 57 .lss 3 56 0,bT 58 57,fb 59 58 (.gC (.t 9)),fb 60 58 (.gC (.t 6)),⟨some 61,.call (.f 8) [(.t 59),(.t 60)],some (58,false)⟩,fb 62 58 (.un .not (.t 61)),ro 63 (.pick (.t 58) (.c (.bool true)) (.t 62)),bT 64 63,fb 65 64 (.gC (.t 10)),fb 66 64 (.gC (.t 7)),fb 67 64 (.el .neq 4 (.t 65) (.t 66)),ro 68 (.pick (.t 64) (.c (.bool true)) (.t 67))] [1,2,6,7,9,68] (.cond (.t 68) (bq [hz 4 false] [4] .ret) .skip)) (bq [hX 12 1] [1,2,6,7,9,12] (bq [bT 69 9,bT 70 12,lu 71 11 69 70,dw 12 71] [1,2,6,7,9,12] YM))
def YO:aG:=.seq (bq [bT 39 9,bT 40 6,lu 41 8 39 40,nR 42 41,bT 43 42,fb 44 43 (.gC (.t 10)),fb 45 43 (.gC (.t 7)),fb 46 43 (.el .neq 4 (.t 44) (.t 45)),ro 47 (.pick (.t 43) (.c (.bool true)) (.t 46))] [1,2,6,7,8,9,10,47] (.cond (.t 47) (bq [hz 4 false] [4] .ret) .skip)) (.seq (Nh [dM 48 36 8,dM 49 27 2,kI 50 6 49,lu 51 9 48 50,nR 52 51] [[],[],[1],[0,2,2],[3]] [1,2,6,7,8,9,10,52] (.cond (.t 52) (bq [hz 4 false] [4] .ret) .skip)) (bq [hX 11 1] [1,2,6,7,8,9,10,11] (bq [dM 53 36 8,bT 54 11,lu 55 10 53 54,dw 11 55] [1,2,6,7,9,10,11] YN)))
def YP:aG:=bq [dM 19 27 2,bT 20 5,lu 21 4 19 20,dw 5 21] [1,2,5] (.seq (bq [bT 22 5,gl 23 .lss 3 22 0] [1,2,23] (.cond (.t 23) (bq [hz 4 true] [4] .ret) .skip)) (bq [dM 25 27 2,kI 26 6 25,bT 27 1,lu 28 5 26 27,bT 24 28,mH 29 24 0,mH 30 24 1,dw 6 29,dw 7 30] [1,2,6,7] (bq [dM 31 27 2,kI 32 6 31,uZ 8 36,qu 36 8 32] [1,2,6,7,8] (bq [dM 34 36 8,bT 35 1,lu 36 7 34 35,bT 33 36,mH 37 33 0,mH 38 33 1,dw 9 37,dw 10 38] [1,2,6,7,8,9,10] YO))))
def c3:aG:=bq [ro 2 (.ht 27 (.t 0)),hz 4 false] [1,2] (.seq (bq [bT 16 1,px 17 9 16,gl 18 .gtr 3 17 1048576] [1,2,18] (.cond (.t 18) (bq [hz 4 true] [4] .ret) .skip)) (bq [hX 5 1048576] [1,2,5] YP))
def yY:=PLift.up (And.intro @Bool.not_true @Bool.not_false)
def ahc:=PLift.up (And.intro @length_append.{0} (And.intro @length_cons.{0} (And.intro @length_nil.{0} (And.intro @length_map.{0,0} (And.intro @length_replicate.{0} (And.intro @Nat.zero_add @Nat.add_zero))))))
end Go.Proofs.YtngohoaiimbacabGreatDoor
