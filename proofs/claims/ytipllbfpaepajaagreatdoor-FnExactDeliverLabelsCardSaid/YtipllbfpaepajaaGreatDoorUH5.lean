/- Part of a proof that a law returns true for every input. No condition. -/
import Derived.Test.YtipllbfpaepajaaGreatDoorUH4
namespace Go.ff
open Go Go.ca
theorem max_eq (a b:Int):tU a b=some (eA true a b):=by
 unfold tU eA
 by_cases h:b<a
 ·have:decide (b<a)=true:=by simpa using h
  rw[this,cond_true,if_pos rfl,if_neg (by omega)]
 ·have:decide (b<a)=false:=by simpa using h
  rw[this,cond_false,if_pos rfl]
  by_cases ad:a<b
  ·rw[if_pos ad]
  ·rw[if_neg ad,show a=b by omega]
theorem Ba (a b:Int) (h:0≤a):0≤eA true a b:=by
 unfold eA
 rw[if_pos rfl]
 split<;>omega
theorem Hv (a b:Int) (h:0≤a) (R:b<0):eA true a b=a:=by
 unfold eA
 rw[if_pos rfl,if_neg (by omega)]
def jq (k G:Int):Int:=if k=G then IntKind.i64.wrap (G+1)else G
theorem nB {k G M:Int} (nF:M≤1048576) (bm:0≤G) (ab:G≤M) (al:k<M):0≤jq k G∧jq k G≤M:=by
 unfold jq
 split
 ·rw[dq _ (by omega)];omega
 ·exact⟨bm,ab⟩
theorem Hw (M A G P K dw k:Int):qe M A G P K dw k=some (M,A,jq k G,P,K,jq k G):=by
 unfold qe wo jq
 by_cases h:k=G
 ·have:(k==G)=true:=by simpa using h
  rw[this,if_pos h];rfl
 ·have:(k==G)=false:=by simpa using h
  rw[this,if_neg h];rfl
theorem Hx (M A G P K k:Int):qn M A G P K k=some (jq k G,M,A,jq k G,P,K):=by
 unfold qn wT jq
 by_cases h:k=G
 ·have:(k==G)=true:=by simpa using h
  rw[this,if_pos h];rfl
 ·have:(k==G)=false:=by simpa using h
  rw[this,if_neg h];rfl
theorem uZ (f:Int) (bk:f=0∨f=1∨f=2∨f=3) (M A G P dw:Int) (dS:0≤A):
  ∃cW bF,o5 f M A G P (-1) dw=some (M,cW,G,P,bF,dw)∧o8 f M A G P (-1) dw=some (M,cW,G,P,bF)∧0≤cW∧(dw<0→cW=A∧bF= -1):=by
 unfold o5 o8 wq uj
 by_cases h:dw<0
 ·have:decide (dw<0)=true:=by simpa using h
  rw[this]
  exact⟨A,-1,rfl,rfl,dS,fun _=>⟨rfl,rfl⟩⟩
 ·have:decide (dw<0)=false:=by simpa using h
  rw[this]
  simp only[cond_false,max_eq,Option.bind_some]
  rcases bk with rfl|rfl|rfl|rfl
  ·exact⟨eA true A dw,-1,rfl,rfl,Ba A dw dS,fun aS=>(h aS).elim⟩
  ·exact⟨A,-1,rfl,rfl,dS,fun aS=>(h aS).elim⟩
  ·exact⟨eA true A dw,-1,rfl,rfl,Ba A dw dS,fun aS=>(h aS).elim⟩
  ·exact⟨A,dw,rfl,rfl,dS,fun aS=>(h aS).elim⟩
theorem Hy (f1 f2:Int) (ab:f1=0∨f1=1∨f1=2∨f1=3) (ad:f2=0∨f2=1∨f2=2∨f2=3) (M A G dw:Int) (dS:0≤A):
  ∃cW gK hM bF ly,tW f1 f2 M A G (-1) (-1) dw=some (M,cW,gK,hM,bF,ly)∧od f1 f2 M A G (-1) (-1) dw=some (M,cW,gK,hM,bF)∧0≤cW∧(A=M→dw<0→cW=M∧gK=G∧hM= -1∧bF= -1)∧(0≤M→M≤1048576→0≤G→G≤M→0≤gK∧gK≤M∧hM<M):=by
 unfold tW od
 by_cases h:A<M
 ·have:decide (A<M)=true:=by simpa using h
  rw[this]
  simp only[cond_true,Hw,Hx,Option.bind_some]
  have no:A=M→False:=by omega
  rcases ab with rfl|rfl|rfl|rfl
  ·obtain⟨cW,bF,aH,aJ,aK,_⟩:=uZ f2 ad M A (jq A G) (-1) (jq A G) dS
   exact⟨cW,_,_,bF,_,aH,aJ,aK,fun h=>(no h).elim,fun _ bu bE cK=>⟨(nB bu bE cK h).1,(nB bu bE cK h).2,by omega⟩⟩
  ·obtain⟨cW,bF,aH,aJ,aK,_⟩:=uZ f2 ad M A G (-1) dw dS
   exact⟨cW,_,_,bF,_,aH,aJ,aK,fun h=>(no h).elim,fun _ _ bE cK=>⟨bE,cK,by omega⟩⟩
  ·obtain⟨cW,bF,aH,aJ,aK,_⟩:=uZ f2 ad M A (jq A (jq A G)) (-1) (jq A (jq A G)) dS
   exact⟨cW,_,_,bF,_,aH,aJ,aK,fun h=>(no h).elim,fun _ bu bE cK=>⟨(nB bu (nB bu bE cK h).1 (nB bu bE cK h).2 h).1,(nB bu (nB bu bE cK h).1 (nB bu bE cK h).2 h).2,by omega⟩⟩
  ·obtain⟨cW,bF,aH,aJ,aK,_⟩:=uZ f2 ad M A G A dw dS
   exact⟨cW,_,_,bF,_,aH,aJ,aK,fun h=>(no h).elim,fun _ _ bE cK=>⟨bE,cK,h⟩⟩
 ·have:decide (A<M)=false:=by simpa using h
  rw[this]
  obtain⟨cW,bF,aH,aJ,aK,b0⟩:=uZ f2 ad M A G (-1) dw dS
  exact⟨cW,_,_,bF,_,aH,aJ,aK,fun ba bu=>by rw[(b0 bu).1,(b0 bu).2];exact⟨ba,rfl,rfl,rfl⟩,fun _ _ bE cK=>⟨bE,cK,by omega⟩⟩
theorem Hz (f1 f2:Int) (ab:f1=0∨f1=1∨f1=2∨f1=3) (ad:f2=0∨f2=1∨f2=2∨f2=3) (M A G P K dw:Int) (dS:0≤A):
  ∃cW gK hM bF ly,tY M A G P K dw f1 f2=some (M,cW,gK,hM,bF,ly)∧wW M A G P K f1 f2=some (M,cW,gK,hM,bF)∧0≤cW∧(A=M→P<0→K<0→cW=M∧gK=G∧hM= -1∧bF= -1)∧(0≤M→M≤1048576→0≤G→G≤M→P<M→0≤gK∧gK≤M∧hM<M):=by
 have al:tY M A G P K dw f1 f2=tX f1 f2 M G P (eA true A K):=by
  unfold tY
  by_cases h:0≤K
  ·have:decide (0≤K)=true:=by simpa using h
   rw[this,cond_true,max_eq];rfl
  ·have:decide (0≤K)=false:=by simpa using h
   rw[this,cond_false,Hv A K dS (by omega)]
 rw[al]
 unfold tX wW uj
 simp only[Option.bind_some]
 have HA:=Ba A K dS
 by_cases h:0≤P
 ·have:decide (0≤P)=true:=by simpa using h
  rw[this]
  simp only[cond_true,Hw,Hx,Option.bind_some]
  have ix:∀A G dw,od f1 f2 M A G P K dw=od f1 f2 M A G (-1) (-1) dw:=fun _ _ _=>rfl
  obtain⟨cW,gK,hM,bF,ly,aH,aJ,aK,_,b_⟩:=Hy f1 f2 ab ad M (eA true A K) (jq P G) (jq P G) HA
  exact⟨cW,gK,hM,bF,ly,aH,(ix _ _ _).trans aJ,aK,fun _ ba=>by omega,fun ba bu bE cK eR=>b_ ba bu (nB bu bE cK eR).1 (nB bu bE cK eR).2⟩
 ·have:decide (0≤P)=false:=by simpa using h
  rw[this]
  simp only[cond_false]
  have ix:∀A G dw,od f1 f2 M A G P K dw=od f1 f2 M A G (-1) (-1) dw:=fun _ _ _=>rfl
  obtain⟨cW,gK,hM,bF,ly,aH,aJ,aK,b0,b_⟩:=Hy f1 f2 ab ad M (eA true A K) G (-1) HA
  exact⟨cW,gK,hM,bF,ly,aH,(ix _ _ _).trans aJ,aK,fun ba _ bu=>b0 (by rw[Hv A K dS bu];exact ba) (by omega),fun ba bu bE cK _=>b_ ba bu bE cK⟩
def l3 (M A D:Int) (r:Nat):Int:=if D<0∧A=M then r else D
theorem sy {β:Type} (M A D:Int) (r:Nat) (K:Int→β):cond ((decide (D<0))&&(A==M)) (K (r:Int)) (K D)=K (l3 M A D r):=by
 unfold l3
 by_cases ab:D<0
 ·by_cases ad:A=M
  ·have aH:decide (D<0)=true:=by simpa using ab
   have aJ:(A==M)=true:=by simpa using ad
   rw[aH,aJ,if_pos ⟨ab,ad⟩];rfl
  ·have aH:decide (D<0)=true:=by simpa using ab
   have aJ:(A==M)=false:=by simpa using ad
   rw[aH,aJ,if_neg (fun h=>ad h.2)];rfl
 ·have aH:decide (D<0)=false:=by simpa using ab
  rw[aH,if_neg (fun h=>ab h.1)];rfl
section
variable (ag:List Int) (hl:ag.length≤1048576) (bk:∀x∈ag,x=0∨x=1∨x=2∨x=3)
include hl bk
theorem aaS (M G sA:Int) (nF:0≤M) (acH:0≤sA):∀(k r:Nat) (P K D:Int),ag.length≤2*r+2*k→P<0→K<0→r≤1048576→l3 M M D r=sA→
  ∃hM bF,∀m,k<m→iK ag m M M G P K D (r:Int)=some (M,M,G,hM,bF,sA):=by
 intro k
 induction k with
 |zero=>
  intro r P K D al aC hD aD ae
  refine⟨P,K,fun m hm=> ?_⟩
  obtain⟨m,rfl⟩:∃j,m=j+1:=⟨m-1,by omega⟩
  simp only[iK,qo]
  rw[sy M M D r (fun z=>lh (iK ag m) ag M M G P K z (r:Int)),ae]
  unfold lh
  have e:decide ((ag.length:Int)≤IntKind.i64.wrap (IntKind.i64.wrap (2*(r:Int))+1))=true:=by
   rw[dq (2*(r:Int)) (by omega),dq _ (by omega)];simp;omega
  rw[e];rfl
 |succ k ih=>
  intro r P K D al aC hD aD ae
  by_cases aW:ag.length≤2*r+1
  ·refine⟨P,K,fun m hm=> ?_⟩
   obtain⟨m,rfl⟩:∃j,m=j+1:=⟨m-1,by omega⟩
   simp only[iK,qo]
   rw[sy M M D r (fun z=>lh (iK ag m) ag M M G P K z (r:Int)),ae]
   unfold lh
   have e:decide ((ag.length:Int)≤IntKind.i64.wrap (IntKind.i64.wrap (2*(r:Int))+1))=true:=by
    rw[dq (2*(r:Int)) (by omega),dq _ (by omega)];simp;omega
   rw[e];rfl
  ·have ab:2*r<ag.length:=by omega
   have ad:2*r+1<ag.length:=by omega
   obtain⟨cW,gK,hM,bF,ly,_,aJ,aK,b0,_⟩:=Hz ag[2*r] ag[2*r+1] (bk _ (List.getElem_mem ab)) (bk _ (List.getElem_mem ad)) M M G P K 0 nF
   obtain⟨e_,eB,gR,gS⟩:=b0 rfl aC hD
   subst e_ eB gR gS
   have e8:l3 cW cW sA (r+1)=sA:=by unfold l3;rw[if_neg (by omega)]
   obtain⟨nC,nD,aA⟩:=ih (r+1) (-1) (-1) sA (by omega) (by omega) (by omega) (by omega) e8
   refine⟨nC,nD,fun m hm=> ?_⟩
   obtain⟨m,rfl⟩:∃j,m=j+1:=⟨m-1,by omega⟩
   simp only[iK,qo]
   rw[sy cW cW D r (fun z=>lh (iK ag m) ag cW cW gK P K z (r:Int)),ae]
   unfold lh
   have e:decide ((ag.length:Int)≤IntKind.i64.wrap (IntKind.i64.wrap (2*(r:Int))+1))=false:=by
    rw[dq (2*(r:Int)) (by omega),dq _ (by omega)];simp;omega
   rw[e,dq (2*(r:Int)) (by omega),dq _ (by omega)]
   have g1:cD ag (2*(r:Int))=some ag[2*r]:=gJ ag (2*r) ab
   have g2:cD ag (2*(r:Int)+1)=some ag[2*r+1]:=gJ ag (2*r+1) ad
   rw[g1,g2]
   simp only[cond_false,Option.bind_some,aJ]
   rw[dq ((r:Int)+1) (by omega)]
   exact aA m (by omega)
theorem aaT (M:Int) (nF:0≤M) (aaU:M≤1048576):∀(k r:Nat) (A G P K dw S D:Int),ag.length≤2*r+2*k→0≤A→r≤1048576→l3 M A D r=S→0≤G→G≤M→P<M→
  ∃cW gK aF hM bF ly nC nD,(0≤gK∧gK≤M)∧(∀m,k<m→my M ag m M A G P K dw S (r:Int)=some (M,cW,gK,hM,bF,ly,aF))∧
   ∀m,k<m→iK ag m M A G P K D (r:Int)=some (M,cW,gK,nC,nD,aF):=by
 have fin:∀(r:Nat) (A G P K dw S D:Int),r≤1048576→ag.length≤2*r+1→l3 M A D r=S→
   (∀m,0<m→my M ag m M A G P K dw S (r:Int)=some (M,A,G,P,K,dw,S))∧∀m,0<m→iK ag m M A G P K D (r:Int)=some (M,A,G,P,K,S):=by
  intro r A G P K dw S D aD aW ae
  constructor
  ·intro m hm
   obtain⟨m,rfl⟩:∃j,m=j+1:=⟨m-1,by omega⟩
   simp only[my,t_]
   have e:decide (IntKind.i64.wrap (IntKind.i64.wrap (2*(r:Int))+1)<(ag.length:Int))=false:=by
    rw[dq (2*(r:Int)) (by omega),dq _ (by omega)];simp;omega
   rw[e];rfl
  ·intro m hm
   obtain⟨m,rfl⟩:∃j,m=j+1:=⟨m-1,by omega⟩
   simp only[iK,qo]
   rw[sy M A D r (fun z=>lh (iK ag m) ag M A G P K z (r:Int)),ae]
   unfold lh
   have e:decide ((ag.length:Int)≤IntKind.i64.wrap (IntKind.i64.wrap (2*(r:Int))+1))=true:=by
    rw[dq (2*(r:Int)) (by omega),dq _ (by omega)];simp;omega
   rw[e];rfl
 intro k
 induction k with
 |zero=>
  intro r A G P K dw S D al dS aD ae g0 g1 g2
  obtain⟨a,b⟩:=fin r A G P K dw S D aD (by omega) ae
  exact⟨A,G,S,P,K,dw,P,K,⟨g0,g1⟩,a,b⟩
 |succ k ih=>
  intro r A G P K dw S D al dS aD ae Bb Bc Bd
  by_cases aW:ag.length≤2*r+1
  ·obtain⟨a,b⟩:=fin r A G P K dw S D aD aW ae
   exact⟨A,G,S,P,K,dw,P,K,⟨Bb,Bc⟩,fun m hm=>a m (by omega),fun m hm=>b m (by omega)⟩
  have ab:2*r<ag.length:=by omega
  have ad:2*r+1<ag.length:=by omega
  have e:decide (IntKind.i64.wrap (IntKind.i64.wrap (2*(r:Int))+1)<(ag.length:Int))=true:=by
   rw[dq (2*(r:Int)) (by omega),dq _ (by omega)];simp;omega
  by_cases R:A=M∧P<0∧K<0
  ·obtain⟨rfl,aC,hD⟩:=R
   have bg:0≤S:=by
    rw[←ae];unfold l3
    split<;>rename_i h
    ·omega
    ·have:¬D<0:=fun aS=>h ⟨aS,rfl⟩
     omega
   obtain⟨nC,nD,aA⟩:=aaS ag hl bk A G S nF bg (k+1) r P K D al aC hD aD ae
   refine⟨A,G,S,P,K,dw,nC,nD,⟨Bb,Bc⟩,fun m hm=> ?_,aA⟩
   obtain⟨m,rfl⟩:∃j,m=j+1:=⟨m-1,by omega⟩
   simp only[my,t_]
   have aH:decide (P<0)=true:=by simpa using aC
   have aJ:decide (K<0)=true:=by simpa using hD
   rw[e,aH,aJ]
   simp only[BEq.rfl,Bool.and_self,cond_true]
   rfl
  ·have Bz:(((A==M)&&(decide (P<0)))&&(decide (K<0)))=false:=by
    cases aq:(((A==M)&&(decide (P<0)))&&(decide (K<0)))
    ·rfl
    ·simp only[Bool.and_eq_true,beq_iff_eq,decide_eq_true_eq]at aq
     exact(R ⟨aq.1.1,aq.1.2,aq.2⟩).elim
   obtain⟨cW,gK,hM,bF,ly,aH,aJ,aK,_,b_⟩:=Hz ag[2*r] ag[2*r+1] (bk _ (List.getElem_mem ab)) (bk _ (List.getElem_mem ad)) M A G P K dw dS
   obtain⟨i0,mH,i2⟩:=b_ nF aaU Bb Bc Bd
   obtain⟨x_,Bd,cu,aaV,aaW,aaX,aaY,aaZ,aa0,vO,aa1⟩:=ih (r+1) cW gK hM bF ly (l3 M cW S (r+1)) S (by omega) aK (by omega) rfl i0 mH i2
   have g1:cD ag (2*(r:Int))=some ag[2*r]:=gJ ag (2*r) ab
   have g2:cD ag (2*(r:Int)+1)=some ag[2*r+1]:=gJ ag (2*r+1) ad
   refine⟨x_,Bd,cu,aaV,aaW,aaX,aaY,aaZ,aa0,fun m hm=> ?_,fun m hm=> ?_⟩
   ·obtain⟨m,rfl⟩:∃j,m=j+1:=⟨m-1,by omega⟩
    simp only[my,t_]
    rw[e,Bz,dq (2*(r:Int)) (by omega),dq (2*(r:Int)+1) (by omega),g1,g2,dq ((r:Int)+1) (by omega)]
    simp only[cond_true,cond_false,Option.bind_some,aH]
    have:=sy M cW S (r+1) (fun z=>tZ (my M ag m) M ag M cW gK hM bF ly z (r:Int))
    refine Eq.trans (by simpa using this) ?_
    unfold tZ
    rw[dq ((r:Int)+1) (by omega)]
    exact vO m (by omega)
   ·obtain⟨m,rfl⟩:∃j,m=j+1:=⟨m-1,by omega⟩
    simp only[iK,qo]
    rw[sy M A D r (fun z=>lh (iK ag m) ag M A G P K z (r:Int)),ae]
    unfold lh
    have eG:decide ((ag.length:Int)≤IntKind.i64.wrap (IntKind.i64.wrap (2*(r:Int))+1))=false:=by
     rw[dq (2*(r:Int)) (by omega),dq _ (by omega)];simp;omega
    rw[eG,dq (2*(r:Int)) (by omega),dq _ (by omega),g1,g2]
    simp only[cond_false,Option.bind_some,aJ]
    rw[dq ((r:Int)+1) (by omega)]
    exact aa1 m (by omega)
theorem aa2 (a:List (List UInt8)) (bT:a.length≤1048576):
  ∃A G S P K dw nC nD,(0≤G∧G≤(a.length:Int))∧ub (a.length:Int) ag=some ((a.length:Int),A,G,P,K,dw,S)∧wX a ag=some ((a.length:Int),A,G,nC,nD,S):=by
 obtain⟨A,G,S,P,K,dw,nC,nD,hg,ab,ad⟩:=aaT ag hl bk (a.length:Int) (by omega) (by omega) ag.length 0 0 0 (-1) (-1) (-1) (l3 (a.length:Int) 0 (-1) 0) (-1) (by omega) (by omega) (by omega) rfl (by omega) (by omega) (by omega)
 refine⟨A,G,S,P,K,dw,nC,nD,hg,?_,?_⟩
 ·have:ub (a.length:Int) ag=ua (a.length:Int) ag (l3 (a.length:Int) 0 (-1) 0):=by
   unfold ub l3
   by_cases h:(a.length:Int)=0
   ·have e:((a.length:Int)==0)=true:=by simpa using h
    rw[e,if_pos ⟨by omega,by omega⟩];rfl
   ·have e:((a.length:Int)==0)=false:=by simpa using h
    rw[e,if_neg (by omega)];rfl
  rw[this]
  unfold ua
  exact iQ (ag.length+1) fun m hm=>ab m (by omega)
 ·unfold wX
  exact iQ (ag.length+1) fun m hm=>ad m (by omega)
end
end Go.ff
