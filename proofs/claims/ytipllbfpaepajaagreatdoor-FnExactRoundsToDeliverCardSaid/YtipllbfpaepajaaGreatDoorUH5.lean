/- Part of a proof that a law returns true for every input. No condition. -/
import Derived.Test.YtipllbfpaepajaaGreatDoorUH4
namespace Go.e3
open Go Go.b9
theorem max_eq (a b:Int):tm a b=some (eo true a b):=by
 unfold tm eo
 by_cases h:b<a
 ·have:decide (b<a)=true:=by simpa using h
  rw[this,cond_true,if_pos rfl,if_neg (by omega)]
 ·have:decide (b<a)=false:=by simpa using h
  rw[this,cond_false,if_pos rfl]
  by_cases ad:a<b
  ·rw[if_pos ad]
  ·rw[if_neg ad,show a=b by omega]
theorem Aq (a b:Int) (h:0≤a):0≤eo true a b:=by
 unfold eo
 rw[if_pos rfl]
 split<;>omega
theorem Gt (a b:Int) (h:0≤a) (R:b<0):eo true a b=a:=by
 unfold eo
 rw[if_pos rfl,if_neg (by omega)]
def iS (k G:Int):Int:=if k=G then IntKind.i64.wrap (G+1)else G
theorem mU {k G M:Int} (mX:M≤1048576) (bz:0≤G) (aa:G≤M) (ar:k<M):0≤iS k G∧iS k G≤M:=by
 unfold iS
 split
 ·rw[dn _ (by omega)];omega
 ·exact⟨bz,aa⟩
theorem Gu (M A G P K di k:Int):pQ M A G P K di k=some (M,A,iS k G,P,K,iS k G):=by
 unfold pQ vz iS
 by_cases h:k=G
 ·have:(k==G)=true:=by simpa using h
  rw[this,if_pos h];rfl
 ·have:(k==G)=false:=by simpa using h
  rw[this,if_neg h];rfl
theorem Gv (M A G P K k:Int):pZ M A G P K k=some (iS k G,M,A,iS k G,P,K):=by
 unfold pZ v7 iS
 by_cases h:k=G
 ·have:(k==G)=true:=by simpa using h
  rw[this,if_pos h];rfl
 ·have:(k==G)=false:=by simpa using h
  rw[this,if_neg h];rfl
theorem ui (f:Int) (bh:f=0∨f=1∨f=2∨f=3) (M A G P di:Int) (er:0≤A):
  ∃cQ bC,oF f M A G P (-1) di=some (M,cQ,G,P,bC,di)∧oI f M A G P (-1) di=some (M,cQ,G,P,bC)∧0≤cQ∧(di<0→cQ=A∧bC= -1):=by
 unfold oF oI vA tE
 by_cases h:di<0
 ·have:decide (di<0)=true:=by simpa using h
  rw[this]
  exact⟨A,-1,rfl,rfl,er,fun _=>⟨rfl,rfl⟩⟩
 ·have:decide (di<0)=false:=by simpa using h
  rw[this]
  simp only[cond_false,max_eq,Option.bind_some]
  rcases bh with rfl|rfl|rfl|rfl
  ·exact⟨eo true A di,-1,rfl,rfl,Aq A di er,fun aQ=>(h aQ).elim⟩
  ·exact⟨A,-1,rfl,rfl,er,fun aQ=>(h aQ).elim⟩
  ·exact⟨eo true A di,-1,rfl,rfl,Aq A di er,fun aQ=>(h aQ).elim⟩
  ·exact⟨A,di,rfl,rfl,er,fun aQ=>(h aQ).elim⟩
theorem Gw (f1 f2:Int) (aa:f1=0∨f1=1∨f1=2∨f1=3) (ad:f2=0∨f2=1∨f2=2∨f2=3) (M A G di:Int) (er:0≤A):
  ∃cQ gk hp bC kJ,tp f1 f2 M A G (-1) (-1) di=some (M,cQ,gk,hp,bC,kJ)∧nL f1 f2 M A G (-1) (-1) di=some (M,cQ,gk,hp,bC)∧0≤cQ∧(A=M→di<0→cQ=M∧gk=G∧hp= -1∧bC= -1)∧(0≤M→M≤1048576→0≤G→G≤M→0≤gk∧gk≤M∧hp<M):=by
 unfold tp nL
 by_cases h:A<M
 ·have:decide (A<M)=true:=by simpa using h
  rw[this]
  simp only[cond_true,Gu,Gv,Option.bind_some]
  have no:A=M→False:=by omega
  rcases aa with rfl|rfl|rfl|rfl
  ·obtain⟨cQ,bC,aF,aI,aL,_⟩:=ui f2 ad M A (iS A G) (-1) (iS A G) er
   exact⟨cQ,_,_,bC,_,aF,aI,aL,fun h=>(no h).elim,fun _ bp bB cE=>⟨(mU bp bB cE h).1,(mU bp bB cE h).2,by omega⟩⟩
  ·obtain⟨cQ,bC,aF,aI,aL,_⟩:=ui f2 ad M A G (-1) di er
   exact⟨cQ,_,_,bC,_,aF,aI,aL,fun h=>(no h).elim,fun _ _ bB cE=>⟨bB,cE,by omega⟩⟩
  ·obtain⟨cQ,bC,aF,aI,aL,_⟩:=ui f2 ad M A (iS A (iS A G)) (-1) (iS A (iS A G)) er
   exact⟨cQ,_,_,bC,_,aF,aI,aL,fun h=>(no h).elim,fun _ bp bB cE=>⟨(mU bp (mU bp bB cE h).1 (mU bp bB cE h).2 h).1,(mU bp (mU bp bB cE h).1 (mU bp bB cE h).2 h).2,by omega⟩⟩
  ·obtain⟨cQ,bC,aF,aI,aL,_⟩:=ui f2 ad M A G A di er
   exact⟨cQ,_,_,bC,_,aF,aI,aL,fun h=>(no h).elim,fun _ _ bB cE=>⟨bB,cE,h⟩⟩
 ·have:decide (A<M)=false:=by simpa using h
  rw[this]
  obtain⟨cQ,bC,aF,aI,aL,bX⟩:=ui f2 ad M A G (-1) di er
  exact⟨cQ,_,_,bC,_,aF,aI,aL,fun a6 bp=>by rw[(bX bp).1,(bX bp).2];exact⟨a6,rfl,rfl,rfl⟩,fun _ _ bB cE=>⟨bB,cE,by omega⟩⟩
theorem Gx (f1 f2:Int) (aa:f1=0∨f1=1∨f1=2∨f1=3) (ad:f2=0∨f2=1∨f2=2∨f2=3) (M A G P K di:Int) (er:0≤A):
  ∃cQ gk hp bC kJ,tr M A G P K di f1 f2=some (M,cQ,gk,hp,bC,kJ)∧wa M A G P K f1 f2=some (M,cQ,gk,hp,bC)∧0≤cQ∧(A=M→P<0→K<0→cQ=M∧gk=G∧hp= -1∧bC= -1)∧(0≤M→M≤1048576→0≤G→G≤M→P<M→0≤gk∧gk≤M∧hp<M):=by
 have ar:tr M A G P K di f1 f2=tq f1 f2 M G P (eo true A K):=by
  unfold tr
  by_cases h:0≤K
  ·have:decide (0≤K)=true:=by simpa using h
   rw[this,cond_true,max_eq];rfl
  ·have:decide (0≤K)=false:=by simpa using h
   rw[this,cond_false,Gt A K er (by omega)]
 rw[ar]
 unfold tq wa tE
 simp only[Option.bind_some]
 have Gy:=Aq A K er
 by_cases h:0≤P
 ·have:decide (0≤P)=true:=by simpa using h
  rw[this]
  simp only[cond_true,Gu,Gv,Option.bind_some]
  have jW:∀A G di,nL f1 f2 M A G P K di=nL f1 f2 M A G (-1) (-1) di:=fun _ _ _=>rfl
  obtain⟨cQ,gk,hp,bC,kJ,aF,aI,aL,_,b7⟩:=Gw f1 f2 aa ad M (eo true A K) (iS P G) (iS P G) Gy
  exact⟨cQ,gk,hp,bC,kJ,aF,(jW _ _ _).trans aI,aL,fun _ a6=>by omega,fun a6 bp bB cE eL=>b7 a6 bp (mU bp bB cE eL).1 (mU bp bB cE eL).2⟩
 ·have:decide (0≤P)=false:=by simpa using h
  rw[this]
  simp only[cond_false]
  have jW:∀A G di,nL f1 f2 M A G P K di=nL f1 f2 M A G (-1) (-1) di:=fun _ _ _=>rfl
  obtain⟨cQ,gk,hp,bC,kJ,aF,aI,aL,bX,b7⟩:=Gw f1 f2 aa ad M (eo true A K) G (-1) Gy
  exact⟨cQ,gk,hp,bC,kJ,aF,(jW _ _ _).trans aI,aL,fun a6 _ bp=>bX (by rw[Gt A K er bp];exact a6) (by omega),fun a6 bp bB cE _=>b7 a6 bp bB cE⟩
def lo (M A D:Int) (r:Nat):Int:=if D<0∧A=M then r else D
theorem r1 {β:Type} (M A D:Int) (r:Nat) (K:Int→β):cond ((decide (D<0))&&(A==M)) (K (r:Int)) (K D)=K (lo M A D r):=by
 unfold lo
 by_cases aa:D<0
 ·by_cases ad:A=M
  ·have aF:decide (D<0)=true:=by simpa using aa
   have aI:(A==M)=true:=by simpa using ad
   rw[aF,aI,if_pos ⟨aa,ad⟩];rfl
  ·have aF:decide (D<0)=true:=by simpa using aa
   have aI:(A==M)=false:=by simpa using ad
   rw[aF,aI,if_neg (fun h=>ad h.2)];rfl
 ·have aF:decide (D<0)=false:=by simpa using aa
  rw[aF,if_neg (fun h=>aa h.1)];rfl
section
variable (af:List Int) (aJ:af.length≤1048576) (bh:∀x∈af,x=0∨x=1∨x=2∨x=3)
include aJ bh
theorem Yl (M G r2:Int) (mX:0≤M) (ZV:0≤r2):∀(k r:Nat) (P K D:Int),af.length≤2*r+2*k→P<0→K<0→r≤1048576→lo M M D r=r2→
  ∃hp bC,∀m,k<m→ig af m M M G P K D (r:Int)=some (M,M,G,hp,bC,r2):=by
 intro k
 induction k with
 |zero=>
  intro r P K D ar aH hd aC ae
  refine⟨P,K,fun m hm=> ?_⟩
  obtain⟨m,rfl⟩:∃j,m=j+1:=⟨m-1,by omega⟩
  simp only[ig,p0]
  rw[r1 M M D r (fun z=>kC (ig af m) af M M G P K z (r:Int)),ae]
  unfold kC
  have e:decide ((af.length:Int)≤IntKind.i64.wrap (IntKind.i64.wrap (2*(r:Int))+1))=true:=by
   rw[dn (2*(r:Int)) (by omega),dn _ (by omega)];simp;omega
  rw[e];rfl
 |succ k ih=>
  intro r P K D ar aH hd aC ae
  by_cases aW:af.length≤2*r+1
  ·refine⟨P,K,fun m hm=> ?_⟩
   obtain⟨m,rfl⟩:∃j,m=j+1:=⟨m-1,by omega⟩
   simp only[ig,p0]
   rw[r1 M M D r (fun z=>kC (ig af m) af M M G P K z (r:Int)),ae]
   unfold kC
   have e:decide ((af.length:Int)≤IntKind.i64.wrap (IntKind.i64.wrap (2*(r:Int))+1))=true:=by
    rw[dn (2*(r:Int)) (by omega),dn _ (by omega)];simp;omega
   rw[e];rfl
  ·have aa:2*r<af.length:=by omega
   have ad:2*r+1<af.length:=by omega
   obtain⟨cQ,gk,hp,bC,kJ,_,aI,aL,bX,_⟩:=Gx af[2*r] af[2*r+1] (bh _ (List.getElem_mem aa)) (bh _ (List.getElem_mem ad)) M M G P K 0 mX
   obtain⟨e0,ep,gv,gw⟩:=bX rfl aH hd
   subst e0 ep gv gw
   have eZ:lo cQ cQ r2 (r+1)=r2:=by unfold lo;rw[if_neg (by omega)]
   obtain⟨mV,mW,aA⟩:=ih (r+1) (-1) (-1) r2 (by omega) (by omega) (by omega) (by omega) eZ
   refine⟨mV,mW,fun m hm=> ?_⟩
   obtain⟨m,rfl⟩:∃j,m=j+1:=⟨m-1,by omega⟩
   simp only[ig,p0]
   rw[r1 cQ cQ D r (fun z=>kC (ig af m) af cQ cQ gk P K z (r:Int)),ae]
   unfold kC
   have e:decide ((af.length:Int)≤IntKind.i64.wrap (IntKind.i64.wrap (2*(r:Int))+1))=false:=by
    rw[dn (2*(r:Int)) (by omega),dn _ (by omega)];simp;omega
   rw[e,dn (2*(r:Int)) (by omega),dn _ (by omega)]
   have g1:cF af (2*(r:Int))=some af[2*r]:=gE af (2*r) aa
   have g2:cF af (2*(r:Int)+1)=some af[2*r+1]:=gE af (2*r+1) ad
   rw[g1,g2]
   simp only[cond_false,Option.bind_some,aI]
   rw[dn ((r:Int)+1) (by omega)]
   exact aA m (by omega)
theorem Ym (M:Int) (mX:0≤M) (Yn:M≤1048576):∀(k r:Nat) (A G P K di S D:Int),af.length≤2*r+2*k→0≤A→r≤1048576→lo M A D r=S→0≤G→G≤M→P<M→
  ∃cQ gk aD hp bC kJ mV mW,(0≤gk∧gk≤M)∧(∀m,k<m→lW M af m M A G P K di S (r:Int)=some (M,cQ,gk,hp,bC,kJ,aD))∧
   ∀m,k<m→ig af m M A G P K D (r:Int)=some (M,cQ,gk,mV,mW,aD):=by
 have fin:∀(r:Nat) (A G P K di S D:Int),r≤1048576→af.length≤2*r+1→lo M A D r=S→
   (∀m,0<m→lW M af m M A G P K di S (r:Int)=some (M,A,G,P,K,di,S))∧∀m,0<m→ig af m M A G P K D (r:Int)=some (M,A,G,P,K,S):=by
  intro r A G P K di S D aC aW ae
  constructor
  ·intro m hm
   obtain⟨m,rfl⟩:∃j,m=j+1:=⟨m-1,by omega⟩
   simp only[lW,tt]
   have e:decide (IntKind.i64.wrap (IntKind.i64.wrap (2*(r:Int))+1)<(af.length:Int))=false:=by
    rw[dn (2*(r:Int)) (by omega),dn _ (by omega)];simp;omega
   rw[e];rfl
  ·intro m hm
   obtain⟨m,rfl⟩:∃j,m=j+1:=⟨m-1,by omega⟩
   simp only[ig,p0]
   rw[r1 M A D r (fun z=>kC (ig af m) af M A G P K z (r:Int)),ae]
   unfold kC
   have e:decide ((af.length:Int)≤IntKind.i64.wrap (IntKind.i64.wrap (2*(r:Int))+1))=true:=by
    rw[dn (2*(r:Int)) (by omega),dn _ (by omega)];simp;omega
   rw[e];rfl
 intro k
 induction k with
 |zero=>
  intro r A G P K di S D ar er aC ae g0 g1 g2
  obtain⟨a,b⟩:=fin r A G P K di S D aC (by omega) ae
  exact⟨A,G,S,P,K,di,P,K,⟨g0,g1⟩,a,b⟩
 |succ k ih=>
  intro r A G P K di S D ar er aC ae Ar As At
  by_cases aW:af.length≤2*r+1
  ·obtain⟨a,b⟩:=fin r A G P K di S D aC aW ae
   exact⟨A,G,S,P,K,di,P,K,⟨Ar,As⟩,fun m hm=>a m (by omega),fun m hm=>b m (by omega)⟩
  have aa:2*r<af.length:=by omega
  have ad:2*r+1<af.length:=by omega
  have e:decide (IntKind.i64.wrap (IntKind.i64.wrap (2*(r:Int))+1)<(af.length:Int))=true:=by
   rw[dn (2*(r:Int)) (by omega),dn _ (by omega)];simp;omega
  by_cases R:A=M∧P<0∧K<0
  ·obtain⟨rfl,aH,hd⟩:=R
   have bd:0≤S:=by
    rw[←ae];unfold lo
    split<;>rename_i h
    ·omega
    ·have:¬D<0:=fun aQ=>h ⟨aQ,rfl⟩
     omega
   obtain⟨mV,mW,aA⟩:=Yl af aJ bh A G S mX bd (k+1) r P K D ar aH hd aC ae
   refine⟨A,G,S,P,K,di,mV,mW,⟨Ar,As⟩,fun m hm=> ?_,aA⟩
   obtain⟨m,rfl⟩:∃j,m=j+1:=⟨m-1,by omega⟩
   simp only[lW,tt]
   have aF:decide (P<0)=true:=by simpa using aH
   have aI:decide (K<0)=true:=by simpa using hd
   rw[e,aF,aI]
   simp only[BEq.rfl,Bool.and_self,cond_true]
   rfl
  ·have AQ:(((A==M)&&(decide (P<0)))&&(decide (K<0)))=false:=by
    cases ao:(((A==M)&&(decide (P<0)))&&(decide (K<0)))
    ·rfl
    ·simp only[Bool.and_eq_true,beq_iff_eq,decide_eq_true_eq]at ao
     exact(R ⟨ao.1.1,ao.1.2,ao.2⟩).elim
   obtain⟨cQ,gk,hp,bC,kJ,aF,aI,aL,_,b7⟩:=Gx af[2*r] af[2*r+1] (bh _ (List.getElem_mem aa)) (bh _ (List.getElem_mem ad)) M A G P K di er
   obtain⟨i0,l5,i2⟩:=b7 mX Yn Ar As At
   obtain⟨xq,At,cp,Yo,Yp,Yq,Yr,Ys,Yt,u_,Yu⟩:=ih (r+1) cQ gk hp bC kJ (lo M cQ S (r+1)) S (by omega) aL (by omega) rfl i0 l5 i2
   have g1:cF af (2*(r:Int))=some af[2*r]:=gE af (2*r) aa
   have g2:cF af (2*(r:Int)+1)=some af[2*r+1]:=gE af (2*r+1) ad
   refine⟨xq,At,cp,Yo,Yp,Yq,Yr,Ys,Yt,fun m hm=> ?_,fun m hm=> ?_⟩
   ·obtain⟨m,rfl⟩:∃j,m=j+1:=⟨m-1,by omega⟩
    simp only[lW,tt]
    rw[e,AQ,dn (2*(r:Int)) (by omega),dn (2*(r:Int)+1) (by omega),g1,g2,dn ((r:Int)+1) (by omega)]
    simp only[cond_true,cond_false,Option.bind_some,aF]
    have:=r1 M cQ S (r+1) (fun z=>ts (lW M af m) M af M cQ gk hp bC kJ z (r:Int))
    refine Eq.trans (by simpa using this) ?_
    unfold ts
    rw[dn ((r:Int)+1) (by omega)]
    exact u_ m (by omega)
   ·obtain⟨m,rfl⟩:∃j,m=j+1:=⟨m-1,by omega⟩
    simp only[ig,p0]
    rw[r1 M A D r (fun z=>kC (ig af m) af M A G P K z (r:Int)),ae]
    unfold kC
    have ew:decide ((af.length:Int)≤IntKind.i64.wrap (IntKind.i64.wrap (2*(r:Int))+1))=false:=by
     rw[dn (2*(r:Int)) (by omega),dn _ (by omega)];simp;omega
    rw[ew,dn (2*(r:Int)) (by omega),dn _ (by omega),g1,g2]
    simp only[cond_false,Option.bind_some,aI]
    rw[dn ((r:Int)+1) (by omega)]
    exact Yu m (by omega)
theorem Yv (a:List (List UInt8)) (bQ:a.length≤1048576):
  ∃A G S P K di mV mW,(0≤G∧G≤(a.length:Int))∧tv (a.length:Int) af=some ((a.length:Int),A,G,P,K,di,S)∧wb a af=some ((a.length:Int),A,G,mV,mW,S):=by
 obtain⟨A,G,S,P,K,di,mV,mW,hg,aa,ad⟩:=Ym af aJ bh (a.length:Int) (by omega) (by omega) af.length 0 0 0 (-1) (-1) (-1) (lo (a.length:Int) 0 (-1) 0) (-1) (by omega) (by omega) (by omega) rfl (by omega) (by omega) (by omega)
 refine⟨A,G,S,P,K,di,mV,mW,hg,?_,?_⟩
 ·have:tv (a.length:Int) af=tu (a.length:Int) af (lo (a.length:Int) 0 (-1) 0):=by
   unfold tv lo
   by_cases h:(a.length:Int)=0
   ·have e:((a.length:Int)==0)=true:=by simpa using h
    rw[e,if_pos ⟨by omega,by omega⟩];rfl
   ·have e:((a.length:Int)==0)=false:=by simpa using h
    rw[e,if_neg (by omega)];rfl
  rw[this]
  unfold tu
  exact ki (af.length+1) fun m hm=>aa m (by omega)
 ·unfold wb
  exact ki (af.length+1) fun m hm=>ad m (by omega)
end
end Go.e3
