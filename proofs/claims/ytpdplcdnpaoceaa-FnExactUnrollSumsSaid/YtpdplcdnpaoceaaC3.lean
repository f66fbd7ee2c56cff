/- Part of a proof that a law returns true for every input. No condition. -/
import Derived.Test.YtpdplcdnpaoceaaTb
import Derived.Test.YtpdplcdnpaoceaaFwL
import Derived.Test.YtpdplcdnpaoceaaFwT
import Derived.Test.YtpdplcdnpaoceaaP3
namespace Go.Proofs.Ytpdplcdnpaoceaa
open List Option Go.IntKind Nat Or
open Go Go.cV Go.nB
set_option linter.unusedSimpArgs false
def aH (x:Int):j:=.int .i64 x
theorem hD (x:Int):(aH x).share=aH x:=by
 simp only[aH,fc]
theorem xx (x:Int):(aH x).ch=true:=by
 simp only[aH,j.ch,j.gU,Bool.and_self]
def ha (x:fJ):j:=.agg [.int .i64 x.Kind,.int .i64 x.Value]
theorem GG (x:fJ):(ha x).share=ha x:=by
 simp only[ha,fc]
theorem UH (x:fJ):(ha x).ch=true:=by
 simp only[ha,j.ch,j.gU,Bool.and_self]
def g0 (x:Vu):j:=.slice (x.map ha)
theorem GH (x:Vu):(g0 x).share=g0 x:=by
 simp only[g0,fc, @c2 _ ha ha (λ_=>GG _)]
def gK (x:hC):j:=.agg [.slice (x.aY.map aH),.slice (x.Guard.map ha),.str x.Name,.slice (x.bG.map g0),.slice (x.Next.map g0)]
theorem GI (x:hC):(gK x).share=gK x:=by
 simp only[gK,fc, @c2 _ aH aH (λ_=>hD _), @c2 _ ha ha (λ_=>GG _), @c2 _ g0 g0 (λ_=>GH _)]
def jQ (x:kg):j:=.agg [.int .i64 x.a7,.slice (x.Start.map aH),.slice (x.bJ.map gK)]
theorem UI (x:kg):(jQ x).share=jQ x:=by
 simp only[jQ,fc, @c2 _ aH aH (λ_=>hD _), @c2 _ gK gK (λ_=>GI _)]
def u_ (x:Vl):j:=.slice (x.map aH)
theorem UJ (x:Vl):(u_ x).share=u_ x:=by
 simp only[u_,fc, @c2 _ aH aH (λ_=>hD _)]
def BA (x:Vv):j:=.slice (x.map gK)
theorem UK (x:Vv):(BA x).share=BA x:=by
 simp only[BA,fc, @c2 _ gK gK (λ_=>GI _)]
def va (x:Vj):j:=.str x
theorem UL (x:Vj):(va x).share=va x:=by
 simp only[va,fc]
theorem UM (x:Vj):(va x).ch=true:=by
 simp only[va,j.ch,j.gU,Bool.and_self]
def BB (x:Vs):j:=.slice (x.map g0)
theorem UN (x:Vs):(BB x).share=BB x:=by
 simp only[BB,fc, @c2 _ g0 g0 (λ_=>GH _)]
def bA (x:aW):j:=.agg [.int .i64 x.Kind,.int .i64 x.Value]
theorem oy (x:aW):(bA x).share=bA x:=by
 simp only[bA,fc]
theorem BC (x:aW):(bA x).ch=true:=by
 simp only[bA,j.ch,j.gU,Bool.and_self]
def cB (x:Vw):j:=.slice (x.map bA)
theorem nH (x:Vw):(cB x).share=cB x:=by
 simp only[cB,fc, @c2 _ bA bA (λ_=>oy _)]
def b3 (x:aN):j:=.agg [.slice (x.aY.map aH),.slice (x.Guard.map bA),.str x.Name,.slice (x.bG.map cB),.slice (x.Next.map cB)]
theorem vb (x:aN):(b3 x).share=b3 x:=by
 simp only[b3,fc, @c2 _ aH aH (λ_=>hD _), @c2 _ bA bA (λ_=>oy _), @c2 _ cB cB (λ_=>nH _)]
def eG (x:Vw):j:=.aq 2 (x.map bA)
theorem BD (x:Vw):(eG x).share=cB x:=by
 simp only[eG,cB,fc, @c2 _ bA bA (λ_=>oy _)]
theorem sL (x:Vw):(eG x).ch=true:=by
 simp only[eG,j.ch,j.gU,Bool.and_self, @jJ _ bA (λ_=>BC _)]
def cg (x:aN):j:=.agg [.aq 1 (x.aY.map aH),.aq 2 (x.Guard.map bA),.str x.Name,.aq 1 (x.bG.map eG),.aq 1 (x.Next.map eG)]
theorem pD (x:aN):(cg x).share=b3 x:=by
 simp only[cg,b3,fc, @c2 _ aH aH (λ_=>hD _), @c2 _ bA bA (λ_=>oy _), @c2 _ eG cB (λ_=>BD _)]
theorem BE (x:aN):(cg x).ch=true:=by
 simp only[cg,j.ch,j.gU,Bool.and_self, @jJ _ aH (λ_=>xx _), @jJ _ bA (λ_=>BC _), @jJ _ eG (λ_=>sL _)]
def xy (x:Vl):j:=.aq 1 (x.map aH)
theorem UO (x:Vl):(xy x).share=u_ x:=by
 simp only[xy,u_,fc, @c2 _ aH aH (λ_=>hD _)]
theorem UP (x:Vl):(xy x).ch=true:=by
 simp only[xy,j.ch,j.gU,Bool.and_self, @jJ _ aH (λ_=>xx _)]
def xz (x:Vt):j:=.aq 1 (x.map eG)
def jR (x:Vt):j:=.slice (x.map cB)
theorem OQ (x:Vt):(jR x).share=jR x:=by
 simp only[jR,fc, @c2 _ cB cB (λ_=>nH _)]
theorem UQ (x:Vt):(xz x).share=jR x:=by
 simp only[xz,jR,fc, @c2 _ eG cB (λ_=>BD _)]
theorem UR (x:Vt):(xz x).ch=true:=by
 simp only[xz,j.ch,j.gU,Bool.and_self, @jJ _ eG (λ_=>sL _)]
def e3 (x:b5):j:=.agg [.int .i64 x.a7,.aq 1 (x.Start.map aH),.aq 5 (x.bJ.map cg)]
def ej (x:b5):j:=.agg [.int .i64 x.a7,.slice (x.Start.map aH),.slice (x.bJ.map b3)]
theorem US (x:b5):(ej x).share=ej x:=by
 simp only[ej,fc, @c2 _ aH aH (λ_=>hD _), @c2 _ b3 b3 (λ_=>vb _)]
theorem UT (x:b5):(e3 x).share=ej x:=by
 simp only[e3,ej,fc, @c2 _ aH aH (λ_=>hD _), @c2 _ cg b3 (λ_=>pD _)]
theorem xA (x:b5):(e3 x).ch=true:=by
 simp only[e3,j.ch,j.gU,Bool.and_self, @jJ _ aH (λ_=>xx _), @jJ _ cg (λ_=>BE _)]
def xB (x:Vx):j:=.aq 5 (x.map cg)
def vc (x:Vx):j:=.slice (x.map b3)
theorem UU (x:Vx):(vc x).share=vc x:=by
 simp only[vc,fc, @c2 _ b3 b3 (λ_=>vb _)]
theorem UW (x:Vx):(xB x).share=vc x:=by
 simp only[xB,vc,fc, @c2 _ cg b3 (λ_=>pD _)]
theorem UX (x:Vx):(xB x).ch=true:=by
 simp only[xB,j.ch,j.gU,Bool.and_self, @jJ _ cg (λ_=>BE _)]
def xC (x:Bool×aN):j:=cond x.1 (.agg [.hole,.hole,.str x.2.Name,.hole,.hole]) (cg x.2)
theorem UY:(xC∘λx=>(false,x))=cg:=rfl
theorem UZ (x:aN):xC (true,x)= .agg [.hole,.hole,.str x.Name,.hole,.hole]:=rfl
theorem U0 {x:Bool×aN} (h:II (!x.1)=some ()):xC x=cg x.2:=by
 obtain⟨b,x⟩:=x;cases b
 .rfl
 .cases h
theorem U1 (x:Bool×aN):(xC x).wd=5:=by
 obtain⟨b,x⟩:=x;cases b<;>rfl
noncomputable def OR:aM:=cD (cC 12 [0] Try.f17 [[0,1],[1],[1,10],[4],[4]])
noncomputable def OS:aM:=cD (cC 12 [0] Try.f68 [[0,1],[1],[1,10],[4],[4]])
noncomputable def OT:aM:=cD (cC 27 [0] Try.f69 [[0,1],[0,1],[0,1,11],[4],[0,1,5],[0,1,5,15],[0,1,5],[0,1,5,25],[4],[0,1,5],[4]])
noncomputable def OU:aM:=cD (cC 37 [0] Try.f42 [[1,2],[1,2],[1,2,10],[4],[1,2],[1,2,16],[4],[1,2],[1,2,23],[4],[1,2],[1,2,29],[4],[1],[1,35],[4],[4]])
noncomputable def OV:aM:=cD (cC 27 [0] Try.f18 [[0,1],[0,1],[0,1,11],[4],[0,1,5],[0,1,5,15],[0,1,5],[0,1,5,25],[4],[0,1,5],[4]])
noncomputable def lS:aM:=cD (cC 18 [0] Try.f5 [[1,2],[1,2],[1,2,10],[4],[1],[1,16],[4],[4]])
noncomputable def OW:aM:=cD (cC 22 [0] Try.f25 [[0],[0,3],[0,3,4],[0,3,4,11],[0,3,4],[0,3,4],[2]])
noncomputable def OX:aM:=cD (cC 11 [0] Try.f97 [[1,2],[1,2,3],[1,2,3],[2,3],[2]])
noncomputable def OY:aM:=cD (cC 23 [0] Try.f74 [[0],[0,3],[0,3,4],[0,3,4,11],[0,3,4],[0,3,4],[2]])
noncomputable def OZ:aM:=cD (cC 23 [0] Try.f75 [[0],[0,3],[0,3,4],[0,3,4,11],[0,3,4],[0,3,4],[2]])
noncomputable def O0:aM:=cD (cC 24 [0] Try.f47 [[1,2],[1,2,3],[1,2,3],[1,2,3],[1,2,3],[1,2,3],[2,3],[2]])
noncomputable def BF:aM:=cD (cC 23 [0] Try.f26 [[0],[0,3],[0,3,4],[0,3,4,11],[0,3,4],[0,3,4],[2]])
noncomputable def zi:aM:=cD (cC 16 [0] Try.f7 [[1,2],[1,2,3],[1,2,3],[1,2,3],[2,3],[2]])
noncomputable def O1:aM:=cD (cC 15 [0,1,2] Try.f43 [[0,1,2],[6]])
noncomputable def O2:aM:=cD (cC 16 [0] Try.f70 [[0],[0,3],[0,3,7],[0,3,15],[2],[0,3],[2]])
noncomputable def O3:aM:=cD (cC 13 [0,1] Try.f44 [[0,1],[4]])
noncomputable def O4:aM:=cD (cC 30 [0] Try.f20 [[0],[0,7],[2],[0,3],[0,3,4],[0,3,4,11],[0,3,4,19],[2],[0,3,4],[0,3,4],[3,28],[2],[2]])
noncomputable def O5:aM:=cD (cC 39 [0,1] Try.f94 [[0,1],[0,1,8],[0,1,8,9],[4],[0,1,8,16],[4],[0,8,25],[4],[0,32],[4],[4]])
noncomputable def O6:aM:=cD (cC 11 [0] Try.f95 [[0],[6],[6,7],[2],[9],[2],[2]])
noncomputable def O7:aM:=cD (cC 38 [0,1,2] Try.f71 [[0,1,2],[0,1,12],[6],[0,1,7],[0,1,7,8],[0,1,7,8,16],[0,1,7,8,28],[6],[0,1,7,8],[0,1,7,8],[6]])
noncomputable def O8:aM:=cD (cC 19 [0,1] Try.f73 [[0,1],[0,1,5],[0,1,5,9],[0,1,5,18],[4],[0,1,5],[4]])
noncomputable def O9:aM:=cD (cC 9 [0] Try.f113 [[0],[2]])
noncomputable def O_:aM:=cD (cC 9 [0] Try.f114 [[0],[2]])
noncomputable def Pa:aM:=cD (cC 35 [0] Try.f96 [[0],[0,16],[2],[0,3],[0,3,20],[0,3,34],[2],[0,3],[2]])
def dn (r:List bE) (k:Vm) (c:aM):aM:=.seq (.eT r (some k)) c
def BG (r:List bE) (a:Vk) (k:Vm) (c:aM):aM:=.seq (.im r a (some k)) c
abbrev fE (d t:Nat) (o:cZ):bE:=⟨some d,o,some (t,true)⟩
abbrev gq (d t:Nat) (o:cZ):bE:=⟨some d,o,some (t,false)⟩
abbrev U2 (n:Nat) (k:Vm) (f:Func) (c:aM):Prop:=e_ ⟨n,k⟩ (f.body.getD .skip)=some c.strip
def Pb:aM:=dn [om 2 false] [0] (dn [dm 3 0,nA 4 96 3,dm 5 4,fE 6 5 (.g5 (.t 0)),⟨some 7,.eb .neq 9 (.t 6) (.c (.str [116,97,117])),some (5,true)⟩,ro 8 (.pick (.t 5) (.t 7) (.c (.bool false))),iO 2 8] [2] .ret)
def Pc:aM:=.seq (dn [dm 35 0,uv 36 35,gZ 37 47 36 2,fe 38 9 37,ro 39 (.eb .eql 9 (.t 38) (.c (.str [116,97,117]))),dm 40 39,fE 41 40 (.g5 (.t 0)),fE 42 40 (.ht (.t 41)),fE 43 40 (.gQ 47 (.t 42) 3),fE 44 40 (.ey 45 (.t 43)),fE 45 40 (.len 45 (.t 44)),fE 46 40 (.eb .gtr 3 (.t 45) (.c (.int .i64 0))),ro 47 (.pick (.t 40) (.t 46) (.c (.bool false))),dm 48 47,gq 49 48 (.g5 (.t 0)),gq 50 48 (.ht (.t 49)),gq 51 48 (.gQ 47 (.t 50) 2),gq 52 48 (.ey 9 (.t 51)),⟨some 53,.eb .neq 9 (.t 52) (.c (.str [116,97,117])),some (48,false)⟩,gq 54 48 (.g5 (.t 53)),fE 55 54 (.g5 (.t 0)),fE 56 54 (.ht (.t 55)),fE 57 54 (.gQ 47 (.t 56) 2),fE 58 54 (.ey 9 (.t 57)),⟨some 59,.call (.f 72) [(.t 58)],some (54,true)⟩,fE 60 54 (.un .not (.t 59)),gq 61 48 (.pick (.t 54) (.t 60) (.c (.bool false))),ro 62 (.pick (.t 48) (.c (.bool true)) (.t 61)),dm 63 62,gq 64 63 (.g5 (.t 0)),gq 65 63 (.ht (.t 64)),gq 66 63 (.gQ 47 (.t 65) 3),gq 67 63 (.ey 45 (.t 66)),gq 68 63 (.len 45 (.t 67)),gq 69 63 (.eb .gtr 3 (.t 68) (.c (.int .i64 2))),ro 70 (.pick (.t 63) (.c (.bool true)) (.t 69))] [0,5,70] (.cond (.t 70) (dn [om 4 false] [4] .ret) .skip)) (dn [dm 71 0,uv 72 71,gZ 73 47 72 3,fe 74 45 73,dm 75 5,Ar 76 73 74 75,dm 77 76,fE 78 77 (.g5 (.t 0)),fE 79 77 (.ht (.t 78)),fE 80 77 (.gQ 47 (.t 79) 4),fE 81 77 (.ey 45 (.t 80)),fE 82 77 (.g5 (.t 5)),⟨some 83,.call (.f 73) [(.t 81),(.t 82)],some (77,true)⟩,ro 84 (.pick (.t 77) (.t 83) (.c (.bool false))),iO 4 84] [4] .ret)
def Pd:aM:=dn [dm 12 1,dm 13 0,uv 14 13,gZ 15 47 14 0,fe 16 22 15,oj 17 22 16,r_ 18 .add 2 12 17,iO 5 18] [0,1,5] (.seq (dn [dm 19 0,uv 20 19,gZ 21 47 20 1,fe 22 44 21,dm 23 5,ro 24 (.call (.f 71) [(.t 22),(.t 23),(.c (.int .i64 60))]),wJ 25 24,dm 26 25,gq 27 26 (.g5 (.t 0)),gq 28 26 (.ht (.t 27)),gq 29 26 (.gQ 47 (.t 28) 4),gq 30 26 (.ey 45 (.t 29)),gq 31 26 (.len 45 (.t 30)),gq 32 26 (.g5 (.t 1)),gq 33 26 (.eb .neq 2 (.t 31) (.t 32)),ro 34 (.pick (.t 26) (.c (.bool true)) (.t 33))] [0,5,34] (.cond (.t 34) (dn [om 4 false] [4] .ret) .skip)) Pc)
def Pe:aM:=dn [om 4 false] [0,1] (.seq (dn [dm 6 0,uv 7 6,gZ 8 47 7 0,fe 9 22 8,nA 10 20 9,jO 11 .eql 2 10 0] [0,1,11] (.cond (.t 11) (dn [om 4 false] [4] .ret) .skip)) Pd)
noncomputable def Pf:aM:=cD (cC 51 [0] Try.f19 [[0],[0,29],[2],[0,3],[0,3,36],[0,3,50],[2],[0,3],[2]])
noncomputable def Pg:aM:=cD (cC 6 [0] Try.f21 [[0],[2]])
noncomputable def Ph:aM:=cD (cC 6 [0] Try.f46 [[0],[2]])
noncomputable def BH:aM:=cD (cC 47 [0,1,2] Try.f22 [[0,1,2],[1,2,7],[1,2,7,8],[1,2,7,8,14],[1,2,7,8,31],[1,2,7,8],[1,2,7,8],[6]])
noncomputable def Pj:aM:=cD (cC 27 [0,1,2] Try.f23 [[0,1,2],[0,1,2,7],[0,1,2,7,8],[0,1,2,7,8,13],[0,1,2,7,8],[0,1,2,7,8],[6]])
noncomputable def Pk:aM:=cD (cC 31 [0,1] Try.f24 [[0,1],[0,1,5],[0,1,5,10],[0,1,5,21],[0],[0,4],[0,1,5],[0,1,5],[0,4]])
noncomputable def fu:aM:=cD (cC 97 [0] Try.f6 [[1,2],[1,2,11],[2,3],[1,2,4],[1,2,4,5],[1,2,4,5,17],[1,2,4,5],[1,2,4,5],[1,2,30],[2,3],[1,2,6],[1,2,6,7],[1,2,6,7,42],[1,2,6,7,8],[1,2,6,7,8,9],[1,2,6,7,8,9],[1,2,6,7,8,9,95],[1,2,6,7],[2,3]])
noncomputable def Pl:aM:=cD (cC 15 [0,1,2] Try.f48 [[0,1,2],[6]])
noncomputable def Pm:aM:=cD (cC 5 [0] Try.f100 [[0],[2]])
noncomputable def Pn:aM:=cD (cC 6 [0] Try.f99 [[0],[2]])
noncomputable def Po:aM:=cD (cC 19 [0,1] Try.f88 [[0,1],[0,1,7,8],[0,1,7,8,9],[0,1,5,7,8],[0,1,5,7,8,16],[4],[0,1,7,8],[4]])
noncomputable def Pp:aM:=cD (cC 9 [0,1] Try.f98 [[0,1],[4]])
noncomputable def Pq:aM:=cD (cC 6 [0] Try.f76 [[0],[2]])
noncomputable def Pr:aM:=cD (cC 14 [0,1] Try.f49 [[1,2],[4]])
noncomputable def Ps:aM:=cD (cC 29 [0] Try.f78 [[1],[1,3],[1,3,7,8,9],[1,3,7,8,9,10],[1,3,5,7,8,9],[1,3,5,7,8,9,15],[2],[1,3,7,8,9],[1,3,7,8,9],[2]])
noncomputable def Pt:aM:=cD (cC 9 [0] Try.f115 [[0],[2]])
noncomputable def Pu:aM:=cD (cC 42 [0] Try.f101 [[0],[0,6,7],[0,6,7,8],[0,3,6,7],[0,3,4,6,7],[0,6,7,32],[2],[0,6,7],[2]])
def Pv:aM:=dn [om 2 false] [0] (dn [dm 3 0,nA 4 101 3,dm 5 4,fE 6 5 (.g5 (.t 0)),⟨some 7,.eb .neq 9 (.t 6) (.c (.str [116,97,117])),some (5,true)⟩,ro 8 (.pick (.t 5) (.t 7) (.c (.bool false))),iO 2 8] [2] .ret)
def GJ:aM:=dn [dm 26 0,iO 4 26] [4] .ret
def GK:aM:=.seq (dn [dm 8 1,dm 9 0,ro 10 (.cap 45 (.t 9)),dm 11 0,oj 12 45 11,r_ 13 .sub 3 10 12,r_ 14 .sub 3 8 13,iO 1 14] [0,1] (dn [dm 15 1,jO 16 .gtr 3 15 0] [0,1,16] (.cond (.t 16) (.eT [dm 17 0,dm 18 0,ro 19 (.cap 45 (.t 18)),ro 20 (.eY 45 (.t 17) none (some (.t 19))),dm 21 1,⟨some 22,.hL 45 3 (.t 20) (.t 21),none⟩,dm 23 0,oj 24 45 23,ro 25 (.eY 45 (.t 22) none (some (.t 24))),iO 0 25] (some [0])) .skip))) GJ
def Pw:aM:=dn [Gj 4] [0,1] (.seq (dn [dm 5 1,jO 6 .lss 3 5 0] [0,1,6] (.cond (.t 6) (.eT [ro 7 (.bad),⟨none,.bad,none⟩] (some [0,1])) .skip)) GK)
noncomputable def Px:aM:=cD (cC 36 [0] Try.f103 [[0],[0,3],[0,3,9,10,11],[0,3,9,10,11,12],[0,3,5,9,10,11],[0,3,9,10,11],[0,3,9,10,11,20],[0,3,9,10,11],[0,3,9,10,11],[0,6],[6,25,26,27],[6,25,26,27,28],[6,8,25,26,27],[6,25,26,27],[6,25,26,27],[2]])
def Py:aM:=dn [ro 1 (.g4 47 (.t 0)),Gj 2] [1] (dn [gZ 3 47 1 1,fe 4 44 3,⟨some 5,.shr (.e6 45 1 [(0,(.t 4))]),none⟩,gZ 6 47 1 3,fe 7 45 6,gZ 8 47 1 4,fe 9 45 8,⟨some 10,.shr (.e6 131 3 [(0,(.t 5)),(1,(.t 7)),(2,(.t 9))]),none⟩,nA 11 103 10,iO 2 11] [2] .ret)
noncomputable def Pz:aM:=cD (cC 29 [0,1] Try.f104 [[1,2],[1,2,6],[1,2,6,7],[4],[1,2,6,12],[4],[2,6,19],[4],[2,24],[4],[4]])
noncomputable def PA:aM:=cD (cC 9 [0] Try.f105 [[1],[4],[4,5],[2],[7],[2],[2]])
noncomputable def PB:aM:=cD (cC 47 [0,1,2] Try.f83 [[0,1,2],[0,1,24],[6],[0,1,7],[1,7,25,26,27],[1,7,25,26,27,28],[1,7,9,25,26,27],[1,7,9,25,26,27,38],[6],[1,7,25,26,27],[1,7,25,26,27],[6]])
noncomputable def PC:aM:=cD (cC 13 [0,1,2] Try.f82 [[0,1,2],[4]])
noncomputable def PD:aM:=cD (cC 19 [0,1] Try.f102 [[0,1],[0,1,7,8],[0,1,7,8,9],[0,1,5,7,8],[0,1,5,7,8,16],[4],[0,1,7,8],[4]])
noncomputable def PE:aM:=cD (cC 9 [0,1] Try.f80 [[0,1],[4]])
def PF:aM:=dn [dm 19 5,jO 20 .gtr 3 19 0,dm 21 20,fE 22 21 (.gQ 47 (.t 2) 2),fE 23 21 (.ey 9 (.t 22)),⟨some 24,.eb .eql 9 (.t 23) (.c (.str [116,97,117])),some (21,true)⟩,fE 25 21 (.g5 (.t 24)),gq 26 25 (.g5 (.t 5)),gq 27 25 (.eb .gtr 3 (.t 26) (.c (.int .i64 2))),fE 28 21 (.pick (.t 25) (.c (.bool true)) (.t 27)),ro 29 (.pick (.t 21) (.t 28) (.c (.bool false))),dm 30 29,gq 31 30 (.gQ 47 (.t 2) 2),gq 32 30 (.ey 9 (.t 31)),⟨some 33,.eb .neq 9 (.t 32) (.c (.str [116,97,117])),some (30,false)⟩,gq 34 30 (.g5 (.t 33)),fE 35 34 (.gQ 47 (.t 2) 2),fE 36 34 (.ey 9 (.t 35)),⟨some 37,.call (.f 79) [(.t 36)],some (34,true)⟩,fE 38 34 (.un .not (.t 37)),gq 39 30 (.pick (.t 34) (.t 38) (.c (.bool false))),ro 40 (.pick (.t 30) (.c (.bool true)) (.t 39))] [2,3,40] (.cond (.t 40) (dn [om 4 false] [4] .ret) .skip)
def PG:aM:=dn [ro 2 (.g4 47 (.t 0)),ro 3 (.g4 2 (.t 1)),om 4 false] [2,3] (.seq (dn [fe 6 47 2,nA 7 78 6,wJ 8 7,dm 9 8,gq 10 9 (.gQ 47 (.t 2) 4),gq 11 9 (.ey 45 (.t 10)),gq 12 9 (.len 45 (.t 11)),gq 13 9 (.ey 2 (.t 3)),gq 14 9 (.eb .neq 2 (.t 12) (.t 13)),ro 15 (.pick (.t 9) (.c (.bool true)) (.t 14))] [2,3,15] (.cond (.t 15) (dn [om 4 false] [4] .ret) .skip)) (.seq (dn [gZ 16 47 2 3,fe 17 45 16,oj 18 45 17,iO 5 18] [2,3,5] PF) (dn [fe 41 47 2,nA 42 81 41,ro 43 (.lN 82 [(.t 3),(.t 2)]),Ar 44 80 42 43,wJ 45 44,iO 4 45] [4] .ret)))
noncomputable def PH:aM:=cD (cC 9 [0,1] Try.f51 [[1,2],[3]])
noncomputable def PI:aM:=cD (cC 19 [0,1] Try.f77 [[0,1],[0,1,7,8],[0,1,7,8,9],[0,1,5,7,8],[0,1,5,7,8,16],[4],[0,1,7,8],[4]])
noncomputable def PJ:aM:=cD (cC 9 [0,1] Try.f50 [[0,1],[4]])
noncomputable def PK:aM:=cD (cC 25 [0] Try.f27 [[1],[1,19],[2],[2]])
noncomputable def PL:aM:=cD (cC 8 [0] Try.f28 [[0],[0,4],[2],[2]])
noncomputable def PM:aM:=cD (cC 6 [0] Try.f35 [[0],[2]])
noncomputable def PN:aM:=cD (cC 17 [0,1,2] Try.f34 [[0,1,2],[0,1,2,8],[4],[4]])
noncomputable def oz:aM:=cD (cC 31 [0,1] Try.f33 [[0,1],[0,1,5],[1,5,9,10,11],[1,5,9,10,11,12],[1,5,7,9,10,11],[1,5,7,8,9,10,11],[1,5,7,8,9,10,11,17],[1,5,7,8,9,10,11],[1,5,7,8,9,10,11,23],[1,5,8,9,10,11],[1,5,9,10,11],[1,5,9,10,11],[4]])
noncomputable def PO:aM:=cD (cC 10 [0,1,2,3] Try.f32 [[1,2,3],[6]])
noncomputable def PQ:aM:=cD (cC 23 [0,1,2] Try.f53 [[0,1,2],[0,1,2,5],[1,2,5,8,9,10],[1,2,5,8,9,10,11],[1,2,5,7,8,9,10],[1,2,5,8,9,10],[1,2,5,8,9,10],[4]])
def PR:aM:=.im [gZ 23 29 5 2,fe 24 27 23,gZ 25 47 7 0,fe 26 22 25,nA 27 28 26,fe 28 58 3,fe 29 47 7,gZ 30 47 7 1,fe 31 44 30,ro 32 (.call (.t 28) [(.t 29),(.t 31)]),gZ 33 47 7 2,fe 34 9 33,dm 35 8,gZ 36 47 7 3,fe 37 45 36,ro 38 (.call (.t 35) [(.t 37)]),dm 39 8,gZ 40 47 7 4,fe 41 45 40,ro 42 (.call (.t 39) [(.t 41)]),ro 43 (.fb 47 [(0,(.t 27)),(1,(.t 32)),(2,(.t 34)),(3,(.t 38)),(4,(.t 42))]),As 44 27 43,NS 45 27 27 24 44,gZ 46 29 5 2,mP 27 46 45] [[],[0],[],[2],[3],[],[],[],[7],[5,6,8,4],[],[10],[],[],[13],[12,14,9],[],[],[17],[16,18,15],[4,9,11,15,19],[20],[1,21,19],[0,1,2,3,4,5,6,7,8,9,10,11,12,13,14,15,16,17,18,19,20,21,22],[23,22,22,0,1,2,3,4,5,6,7,8,9,10,11,12,13,14,15,16,17,18,19,20,21,22]] (some [3,4,5,16,17,18])
def GL:aM:=dn [r_ 19 .lss 3 18 17] [3,4,5,16,17,18,19] (.seq (.cond (.t 19) .skip (.exit 0)) (.seq (.block 1 (dn [uu 20 27 16 18,fe 21 47 20,qV 7 47,mP 47 7 21] [3,4,5,7,16,17,18] (dn [ro 22 (.lN 53 [(.t 3),(.t 7)]),iO 8 22] [3,4,5,7,8,16,17,18] PR))) (.eT [jO 47 .add 3 18 1,dm 18 47] (some [3,4,5,16,17,18]))))
def PS:aM:=dn [ro 2 (.g4 29 (.t 0)),⟨some 3,.hs 58 (.t 1),none⟩,qV 4 29] [2,3,4] (BG [gZ 9 29 2 0,fe 10 2 9,gZ 11 29 2 1,fe 12 22 11,nA 13 28 12,ro 14 (.fb 29 [(0,(.t 10)),(1,(.t 13))]),qV 5 29,mP 29 5 14] [[],[0],[],[2],[3],[1,4],[],[6,5,4,0,1,2,3,4,5,6]] [2,3,4,5] (.seq (dn [gZ 15 29 2 2,fe 16 27 15,oj 17 27 16,Gi 18 0] [3,4,5,16,17,18] (.block 0 (.loop GL))) (dn [fe 48 29 5,mP 29 4 48] [4] .ret)))
noncomputable def PT:aM:=cD (cC 27 [0,1,2,3] Try.f30 [[1,2,3,4],[3,6],[3,6],[3],[3,5]])
def PU:aM:=.cond (.t 11) .skip (.exit 0)
def PV:aM:=.cond (.t 27) .skip (.exit 2)
def PW:aM:=.eT [dm 31 5,jO 32 .sub 3 31 1,iO 5 32] (some [0,1,4,5])
def PX:aM:=.block 3 (dn [dm 28 4,dm 29 5,uu 30 22 28 29,⟨none,.ie 2 (.t 30) (.c (.int .i64 0)),none⟩] [0,1,4,5] PW)
def GM:aM:=.seq (BG [dm 15 5,jO 16 .geq 3 15 0,dm 17 16,fE 18 17 (.g5 (.t 4)),fE 19 17 (.g5 (.t 5)),fE 20 17 (.hJ 22 (.t 18) (.t 19)),fE 21 17 (.ey 2 (.t 20)),fE 22 17 (.g5 (.t 0)),fE 23 17 (.g5 (.t 5)),fE 24 17 (.hJ 22 (.t 22) (.t 23)),fE 25 17 (.ey 2 (.t 24)),fE 26 17 (.eb .eql 2 (.t 21) (.t 25)),ro 27 (.pick (.t 17) (.t 26) (.c (.bool false)))] [[],[0],[1],[2],[2],[3,4,2],[5,2],[2],[2],[7,8,2],[9,2],[6,10,2],[2,11]] [0,1,4,5,27] PV) PX
def PY:aM:=.cond (.t 34) .ret .skip
def PZ:aM:=.eT [dm 35 4,dm 36 5,uu 37 22 35 36,fe 38 2 37,jO 39 .add 2 38 1,uu 40 22 35 36,mP 2 40 39] (some [0,1,4])
def P0:aM:=.seq (dn [dm 33 5,jO 34 .lss 3 33 0] [0,1,4,5,34] PY) PZ
def P1:aM:=.seq (.block 2 (.loop GM)) P0
def P2:aM:=.block 1 (dn [dm 12 4,oj 13 22 12,jO 14 .sub 3 13 1,iO 5 14] [0,1,4,5] P1)
def GN:aM:=.seq (.seq (.gX (qW aA [dm 9 1,dm 10 4] (.t 9) [(.t 10)] (some 11) [] [0,1,4,11]) (Az [dm 9 1,dm 10 4] (.t 9) [(.t 10)] (some 11) [])) PU) P2
def P3:aM:=.block 0 (.loop GN)
def GO:aM:=dn [dm 6 0,oj 7 22 6,ro 8 (.dO 22 (.t 7) (.t 7)),iO 4 8] [0,1,4] P3
theorem P4:GO.k1 (uA aA):=And.intro (True.intro) (And.intro (And.intro (⟨_,_,_,_,_,_,rfl,rfl⟩) (And.intro (True.intro) (True.intro))) (And.intro (True.intro) (And.intro (And.intro (And.intro (True.intro) (And.intro (True.intro) (True.intro))) (And.intro (True.intro) (True.intro))) (And.intro (And.intro (True.intro) (And.intro (True.intro) (True.intro))) (True.intro)))))
theorem P5:e_ ⟨41,[0,1]⟩ (Try.f29.body.getD .skip)=some GO.strip:=by kernel_rfl
def P6:aM:=dn [ro 11 (.fb 29 []),mP 29 2 11,uw 3 1] [2,3] .ret
def P7:aM:=.cond (.t 10) P6 .skip
def P8:aM:=.gX (qW aA [gZ 30 47 6 0,fe 31 22 30,ro 32 (.lN 30 [(.t 7),(.t 1),(.t 4)])] (.f 29) [(.t 31),(.t 32)] (some 33) [] [1,2,4,19,20,21]) (Az [gZ 30 47 6 0,fe 31 22 30,ro 32 (.lN 30 [(.t 7),(.t 1),(.t 4)])] (.f 29) [(.t 31),(.t 32)] (some 33) [])
def P9:aM:=dn [gZ 25 29 1 0,fe 26 2 25,fe 27 47 6,As 28 27 27,ro 29 (.fb 29 [(0,(.t 26)),(2,(.t 28))]),qV 7 29,mP 29 7 29] [1,2,4,6,7,19,20,21] P8
def P_:aM:=.eT [jO 34 .add 3 21 1,dm 21 34] (some [1,2,4,19,20,21])
def Qa:aM:=.seq (.block 1 (dn [uu 23 27 19 21,fe 24 47 23,qV 6 47,mP 47 6 24] [1,2,4,6,19,20,21] P9)) P_
def Qb:aM:=.seq (.cond (.t 22) .skip (.exit 0)) Qa
def GP:aM:=dn [r_ 22 .lss 3 21 20] [1,2,4,19,20,21,22] Qb
def Qc:aM:=.block 0 (.loop GP)
def Qd:aM:=dn [ro 39 (.fb 29 []),mP 29 2 39,uw 3 5] [2,3] .ret
def Qe:aM:=.cond (.t 38) Qd .skip
def Qf:aM:=dn [fe 40 29 4,mP 29 2 40,uw 3 0] [2,3] .ret
def Qg:aM:=.seq (dn [gZ 35 29 4 2,fe 36 27 35,oj 37 27 36,jO 38 .gtr 3 37 60] [2,4,38] Qe) Qf
def Qh:aM:=.seq (dn [gZ 18 29 1 2,fe 19 27 18,oj 20 27 19,Gi 21 0] [1,2,4,19,20,21] Qc) Qg
def Qi:aM:=BG [gZ 12 29 1 0,fe 13 2 12,gZ 14 29 1 1,fe 15 22 14,nA 16 28 15,ro 17 (.fb 29 [(0,(.t 13)),(1,(.t 16))]),qV 4 29,mP 29 4 17] [[],[0],[],[2],[3],[1,4],[],[6,5,4,0,1,2,3,4,5,6]] [1,2,4] Qh
def Qj:aM:=.seq (dn [fe 8 29 1,nA 9 27 8,wJ 10 9] [1,2,10] P7) Qi
def hx:aM:=dn [ro 1 (.g4 29 (.t 0)),qV 2 29,uw 3 0] [1,2] Qj
theorem Qk:hx.k1 (uA aA):=And.intro (True.intro) (And.intro (And.intro (True.intro) (And.intro (And.intro (True.intro) (True.intro)) (True.intro))) (And.intro (True.intro) (And.intro (And.intro (True.intro) (And.intro (True.intro) (And.intro (And.intro (True.intro) (True.intro)) (And.intro (And.intro (True.intro) (And.intro (True.intro) (⟨_,_,_,_,_,_,rfl,rfl⟩))) (True.intro))))) (And.intro (And.intro (True.intro) (And.intro (And.intro (True.intro) (True.intro)) (True.intro))) (And.intro (True.intro) (True.intro))))))
theorem ix:e_ ⟨41,[0]⟩ (Try.f8.body.getD .skip)=some hx.strip:=by kernel_rfl
noncomputable def lj:aM:=cD (cC 26 [0,1] Try.f14 [[0,1],[0,1,10],[4],[0,1,5],[0,1,5,14],[0,1,5,25],[4],[0,1,5],[4]])
noncomputable def Ql:aM:=cD (cC 15 [0,1] Try.f106 [[2,3],[2,3,9],[4],[14],[4],[4]])
noncomputable def Qm:aM:=cD (cC 27 [0,1] Try.f84 [[0,1],[0,1,10],[4],[0,1,5],[0,1,5,14],[0,1,5,26],[4],[0,1,5],[4]])
noncomputable def Qn:aM:=cD (cC 27 [0,1] Try.f85 [[0,1],[0,1,10],[4],[0,1,5],[0,1,5,14],[0,1,5,26],[4],[0,1,5],[4]])
noncomputable def Qo:aM:=cD (cC 34 [0,1] Try.f54 [[2,3],[2,3,10],[4],[2,3,16],[4],[2,3,21],[4],[2,3,27],[4],[33],[4],[4]])
noncomputable def Qp:aM:=cD (cC 27 [0,1] Try.f36 [[0,1],[0,1,10],[4],[0,1,5],[0,1,5,14],[0,1,5,26],[4],[0,1,5],[4]])
noncomputable def zj:aM:=cD (cC 22 [0,1] Try.f9 [[2,3],[2,3,9],[4],[2,3,15],[4],[21],[4],[4]])
noncomputable def Qq:aM:=cD (cC 19 [0] Try.f15 [[0,1],[0,1,5],[0,1,5,9],[0,1,5],[0,1,5],[0,1,5],[0,4]])
noncomputable def BI:aM:=cD (cC 27 [0] Try.f55 [[0,1],[0,1,5],[0,1,5,9],[0,1,5],[0,1,5],[0,1,5],[0,1,5],[0,1,5],[0,4]])
def GQ:aM:=.seq (dn [dm 6 0,jO 7 .gtr 3 6 0] [0,3,7] (.cond (.t 7) .skip (.exit 0))) (.block 1 (dn [dm 8 0,jO 9 .rem 3 8 10,ro 10 (.eb .add 3 (.c (.int .i64 48)) (.t 9)),Gk 11 3 5 10,As 12 110 11,Gk 13 110 9 12,dm 14 3,r_ 15 .add 9 13 14,iO 3 15] [0,3] (.eT [dm 16 0,jO 17 .quo 3 16 10,iO 0 17] (some [0,3]))))
def Qr:aM:=dn [ro 2 (.j6 (.c (.str [])))] [0] (.seq (dn [dm 4 0,jO 5 .leq 3 4 0] [0,5] (.cond (.t 5) (dn [ro 2 (.j6 (.c (.str [109,48])))] [2] .ret) .skip)) (dn [ro 3 (.j6 (.c (.str [])))] [0,3] (.seq (.block 0 (.loop GQ)) (dn [dm 18 3,ro 19 (.eb .add 9 (.c (.str [109])) (.t 18)),iO 2 19] [2] .ret))))
noncomputable def Qs:aM:=cD (cC 19 [0] Try.f57 [[0,1],[0,1,5],[0,1,5,9],[0,1,5],[0,1,5],[0,4]])
noncomputable def Qt:aM:=cD (cC 49 [0] Try.f37 [[0,1],[0,1,5],[0,1,5,9],[0,1,5],[0,1,5],[0,1,5],[0,1,5],[0,1,5],[0,1,5],[0,1,5],[0,4]])
def Qu:aM:=dn [⟨some 2,.hs 29 (.t 0),none⟩,uw 4 0] [0,1,2] (dn [gZ 5 29 2 1,fe 6 22 5,dm 7 1,⟨some 8,.jm (.f 15) [(.t 6),(.t 7)] [2],none⟩,iO 1 8] [0,1,2] (dn [gZ 9 29 2 2,fe 10 27 9,dm 11 1,Ar 12 37 10 11,iO 1 12] [0,1] (dn [dm 13 1,iO 4 13] [0,4] .ret)))
noncomputable def lk:aM:=cD (cC 21 [0] Try.f16 [[0,1],[0,1,5],[0,1,5,9],[0,1,5,17],[4],[0,1,5],[0,1,5],[4]])
noncomputable def Qv:aM:=cD (cC 31 [0] Try.f58 [[0,1],[0,1,5],[0,1,5,9],[0,1,5,18],[4],[0,1,5],[0,1,5,27],[4],[0,1,5],[0,1,5],[4]])
noncomputable def Qw:aM:=cD (cC 21 [0] Try.f59 [[0,1],[0,1,5],[0,1,5,9],[0,1,5],[0,1,5,19],[4],[0,1,5],[4]])
noncomputable def Qx:aM:=cD (cC 59 [0] Try.f38 [[0,1],[0,1,5],[0,1,5,9],[0,1,5],[0,1,5,20],[4],[0,1,5],[0,1,5,29],[4],[0,1,5,37],[4],[0,1,5],[0,1,5],[0,1,5,48],[4],[0,1,5],[0,1,5,57],[4],[0,1,5],[4]])
noncomputable def Qy:aM:=cD (cC 18 [0] Try.f11 [[1,2],[1,2],[1,2,10],[4],[1],[1,16],[4],[4]])
noncomputable def o9:aM:=cD (cC 96 [0] Try.f3 [[1],[1,3],[1,3],[1,18],[2],[1,4,5],[1,4,5,6],[1,4,5,6,7,8],[1,4,5,6,7,8,40],[2],[1,4,5,6,7,8,45],[2],[1,4,5,6,7,8,9],[1,4,5,7,8,9],[1,4,5,7,61],[2],[1,4,5,7,10],[1,4,5,7,10],[1,4,5,7,10,11],[1,4,5,7,10,11],[1,4,5,7,10,11,69],[2],[1,4,5,7,10,72],[2],[4,5,7,10,12,13],[7,10,87],[2],[7,10,11],[10,11],[10,11,92],[2],[95],[2],[2]])
def GR:=PLift.up (And.intro @Bool.not_true @Bool.not_false)
def U3:=PLift.up (And.intro @length_append.{0} (And.intro @length_cons.{0} (And.intro @length_nil.{0} (And.intro @length_map.{0,0} (And.intro @length_replicate.{0} (And.intro @Nat.zero_add @Nat.add_zero))))))
end Go.Proofs.Ytpdplcdnpaoceaa
