/- Part of a proof that a law returns true for every input. No condition. -/
import Derived.Test.YtmaepbgkcmjcjagGreatDoorUV0x
import Derived.Test.YtmaepbgkcmjcjagGreatDoorUV6x
namespace Go.lZ
open List Option Go.IntKind Nat
open Go Go.ef
theorem atH {s:cJ} {q:axx} (cx:q.length<=3) {ak:axl} {i0:Nat} (bb:i0<q.length) (aC:ak.length=i0) (aa:∀i (h:i<q.length),i<i0->tU s.cq q[i]=some (ak.getD i [],true)) (bF:∃S,tU s.cq q[i0]=some (S,false)):
  ∀i,i<=i0->∀m,i0-i<m->vw q s.cq s.b_ s.b2 s.cw s.ct m (ak.take i) (i:Int)=some ([],false):=by
 refine down i0 ?_ ?_
 .intro m hm;obtain⟨m,rfl⟩:∃j,m=j+1:=⟨m-1,by omega⟩
  obtain⟨S,e⟩:=bF;simp only[vw,Ff];rw[el bb,cond_true,dM q i0 bb,bind_some,e];rfl
 .intro i ag ih m hm;obtain⟨m,rfl⟩:∃j,m=j+1:=⟨m-1,by omega⟩
  simp only[vw,Ff];rw[el (show i<q.length by omega),cond_true,dM q i (by omega),bind_some,aa i (by omega) ag,bind_some];have mH:i<ak.length:=by omega
  have e:ak.getD i []=ak[i]:=by simp[List.getD,mH]
  simp only[Bool.not_true,cond_false,e];rw[lK (by simp;omega) (by simp;omega),bind_some,<-take_succ_eq_append_getElem mH,d_ i q.length (by omega) (by omega)];exact ih m (by omega)
theorem atI {s:cJ} {q:axx} {ak:axl} (H:tf s q ak) {i0:Nat} (bb:i0<q.length) (aa:∀i (h:i<q.length),i<i0->uj s.cq q[i]=some (ak.getD i [],true)) (bF:∃S,uj s.cq q[i0]=some (S,false)):
  ∀i,i<=i0->∀(p:axy×Seen) m,p.1.length+200*(i0-i)<=1000->i0-i<m->pO s q m s q p.1 p.2 (ak.take i) (i:Int)=some ([],false):=by
 have aI:=H.oM;refine down i0 ?_ ?_
 .intro p m ax hm;obtain⟨m,rfl⟩:∃j,m=j+1:=⟨m-1,by omega⟩
  obtain⟨S,e⟩:=bF;simp only[pO,FL];rw[el bb,cond_true,dM q i0 bb,bind_some,e];rfl
 .intro i ag ih p m ax hm;obtain⟨m,rfl⟩:∃j,m=j+1:=⟨m-1,by omega⟩
  have G3:i<q.length:=by omega
  obtain⟨mH,ia,li,th⟩:=H.at G3;simp only[pO,FL];rw[el G3,cond_true,dM q i G3,bind_some,aa i G3 ag,bind_some,ia];simp only[Bool.not_true,cond_false];rw[lK (by simp;omega) (by simp;omega),bind_some,<-take_succ_eq_append_getElem mH];have iu:b6 (λn=>xt (pO s q m) s q (ak[i],true) n s q p.1 p.2 (ak.take (i+1)) (i:Int) (i:Int) 0)=
    pO s q m s q ((lo s q i ak[i]).foldl h1 p).1 ((lo s q i ak[i]).foldl h1 p).2 (ak.take (i+1)) ((i+1:Nat):Int):=
   fa (ak[i].length+1) λm2 qE=>aa0 H _ _ G3 li th 0 (by omega) p m2 (by omega) (by omega)
  have bX:=An (lo s q i ak[i]) p;have dH:=K8 (s:=s) (q:=q) i ak[i];rw[iu];exact ih _ m (by omega) (by omega)
theorem atJ {s:cJ} (h:uP s) (aE:(my s==0)=true) {q:axx} (cx:∀p∈q,p.bV.length<=1048576) (aa:wy s q=true):
  q.length<=3/\(∀p∈q,kn p)/\∀p∈q,sq s.cq p=some true:=by
 have al:=R8 aE;unfold wy at aa;rw[Bool.and_eq_true]at aa;have ar:s.b_.length<=3:=by
  have ar:uO s=true:=by
   cases ar:uO s
   .unfold my at aE;rw[ar]at aE;revert aE;cases lM s.cq<;>simp
   .rfl
  unfold uO at ar;simp only[Bool.and_eq_true,decide_eq_true_eq]at ar;exact ar.1.2
 have aC:q.length=s.b_.length:=by have:=aa.1;rw[beq_iff_eq]at this;omega
 have ax:∀p∈q,sq s.cq p=some true:=by
  intro p ax;obtain⟨k,au,rfl⟩:=mem_iff_getElem.1 ax;have ad:=oI.1 aa.2 k au;have e:te q k=q[k]:=by simp[te,List.getD,au]
  rw[e]at ad;rw[(R9 _ h.1 al _ (cx _ ax)).1,ad]
 refine⟨by omega,λp G4=>?_,ax⟩;obtain⟨i,ag,j,aN,aU,bE,mD,iu⟩:=aat h.1 al (cx p G4) (ax p G4);have asG:s.cq[i].Body.length<=20:=(z6 ((C4 h.1 al).2.2 i ag).2.1).2.2;have bc:s.cq.length<=4:=(C4 h.1 al).2.1;have P:=(RF h.1 al ag bE).Z6;exact⟨⟨i,by omega,aN⟩,⟨j,by omega,aU⟩,by omega,iu⟩
theorem atK {s:cJ} (h:uP s) (aE:(my s==0)=true) {q:axx} (cx:∀p∈q,p.bV.length<=1048576) (aa:wy s q=true):
  ∃(ln S:axy) (b:Bool),JB s q=some (ln,b)/\IZ s.cq s.b_ s.b2 s.cw s.ct q=some (S,b)/\(b=true->S=ln/\ln.length<=200/\∀m∈ln,iQ q.length m):=by
 obtain⟨aI,hg,ax⟩:=atJ h aE cx aa;have al:=R8 aE;have atL:=λp (G4:p∈q)=>asF h.1 al (cx p G4) (ax p G4);have key:∀l:axx,(∀p∈l,p∈q)->(∃ak:axl,ak.length=l.length/\(∀x∈ak,x.length<=200/\∀y∈x,fy y)/\∀i (ag:i<l.length),uj s.cq l[i]=some (ak.getD i [],true)/\tU s.cq l[i]=some (ak.getD i [],true))\/
   ∃(i0:Nat) (G5:i0<l.length) (ak:axl),ak.length=i0/\(∀x∈ak,x.length<=200/\∀y∈x,fy y)/\(∀i (ag:i<l.length),i<i0->uj s.cq l[i]=some (ak.getD i [],true)/\tU s.cq l[i]=some (ak.getD i [],true))/\
    (∃S,uj s.cq l[i0]=some (S,false))/\∃S,tU s.cq l[i0]=some (S,false):=by
  intro l;induction l with
  |nil=>intro _;exact .inl ⟨[],rfl,λx an=>(by cases an),λi ag=>absurd ag (not_lt_zero i)⟩
  |cons p l ih=>
   intro aC;obtain⟨ln,S,b,J,a2,a3⟩:=atL p (aC p (by simp));cases b
   .exact .inr ⟨0,by simp,[],rfl,λx an=>(by cases an),λi _ ag=>absurd ag (not_lt_zero i),⟨ln,J⟩,⟨S,a2⟩⟩
   .obtain⟨rfl,a4,a5⟩:=a3 rfl;rcases ih λx an=>aC x (mem_cons_of_mem _ an)with⟨ak,hs,fT,fU⟩|⟨i0,G5,ak,hs,fT,fU,bU,cP⟩
    .refine .inl ⟨S::ak,by simp[hs],λx an=>?_,λi ag=>?_⟩
     .rcases mem_cons.1 an with rfl|an
      .exact⟨a4,a5⟩
      .exact fT x an
     .cases i with
      |zero=>exact⟨J,a2⟩
      |succ i=>simpa using fU i (by simpa using ag)
    .refine .inr ⟨i0+1,by simpa using G5,S::ak,by simp[hs],λx an=>?_,λi ag eB=>?_,by simpa using bU,by simpa using cP⟩
     .rcases mem_cons.1 an with rfl|an
      .exact⟨a4,a5⟩
      .exact fT x an
     .cases i with
      |zero=>exact⟨J,a2⟩
      |succ i=>simpa using fU i (by simpa using ag) (by omega)
 rcases key q λ_ h=>h with⟨ak,hs,fT,fU⟩|⟨i0,G5,ak,hs,fT,fU,bU,cP⟩
 .have H:tf s q ak:=⟨aE,⟨h.2.2.1.1,h.2.2.2.1.1,h.2.2.2.2.1⟩,aI,hg,hs,fT⟩
  have Da:JB s q=some (((two s q ak 0).foldl h1 ((one s q ak 0).foldl h1 ([],[]))).1,decide (((((two s q ak 0).foldl h1 ((one s q ak 0).foldl h1 ([],[]))).1).length:Int)<=200)):=
   fa (q.length+1) λm hm=>atF H (λi ag=>(fU i ag).1) 0 (by omega) ([],[]) m (by simp;omega) (by omega)
  have ca:IZ s.cq s.b_ s.b2 s.cw s.ct q=some ((two s q ak 0).foldl iB ((one s q ak 0).foldl hI []),decide ((((two s q ak 0).foldl iB ((one s q ak 0).foldl hI [])).length:Int)<=200)):=
   fa (q.length+1) λm hm=>atG H (λi ag=>(fU i ag).2) 0 (by omega) m (by omega)
  have mY:∀x∈one s q ak 0++two s q ak 0,iQ q.length x:=λx an=>(mem_append.1 an).elim (H.gone x) (H.aaX x);have aN:((two s q ak 0).foldl h1 ((one s q ak 0).foldl h1 ([],[]))).1=(two s q ak 0).foldl hI ((one s q ak 0).foldl hI []):=by
   rw[<-foldl_append,<-foldl_append];exact R2 (G:=iQ q.length) asU _ [] [] mY (λx an=>by cases an) (λx _=>by simp[jL])
  rw[aN]at Da;have x4:∀x∈(two s q ak 0).foldl hI ((one s q ak 0).foldl hI []),iQ q.length x:=K6 _ _ (K6 _ _ (λx an=>by cases an) H.gone) H.aaX;obtain⟨cz,c2⟩:=aaB (two s q ak 0) ((one s q ak 0).foldl hI []);generalize (two s q ak 0).foldl hI ((one s q ak 0).foldl hI [])=ln at Da cz c2 x4;by_cases aC:ln.length<=200
  .rw[cz aC]at ca;exact⟨ln,ln,_,Da,ca,λ_=>⟨rfl,aC,x4⟩⟩
  .have:=c2 (by omega);generalize (two s q ak 0).foldl iB ((one s q ak 0).foldl hI [])=jP at ca this;refine⟨ln,jP,false,?_,?_,λh=>by cases h⟩
   .rw[Da,show decide ((ln.length:Int)<=200)=false from decide_eq_false (by omega)]
   .rw[ca,show decide ((jP.length:Int)<=200)=false from decide_eq_false (by omega)]
 .let G6:=ak++replicate (q.length-i0) ([]:axz)
  have hlen:G6.length=q.length:=by simp[G6,hs];omega
  have qV:∀i,i<i0->G6.getD i []=ak.getD i []:=λi ag=>by
   simp only[G6,List.getD];rw[getElem?_append_left (by omega)]
  have H:tf s q G6:=⟨aE,⟨h.2.2.1.1,h.2.2.2.1.1,h.2.2.2.2.1⟩,aI,hg,hlen,λx an=>by
   rcases mem_append.1 an with an|an
   .exact fT x an
   .rw[(mem_replicate.1 an).2];exact⟨by simp,λy hy=>by cases hy⟩⟩
  refine⟨[],[],false,?_,?_,λh=>by cases h⟩
  .exact fa (q.length+1) λm hm=>atI H G5 (λi ag eB=>by rw[qV i eB];exact(fU i ag eB).1) bU 0 (by omega) ([],[]) m (by simp;omega) (by omega)
  .exact fa (q.length+1) λm hm=>atH aI G5 hs (λi ag eB=>(fU i ag eB).2) cP 0 (by omega) m (by omega)
theorem atM (s:cJ) (h:uP s) (q:axx) (cx:q.length<=1048576) (aE:∀p∈q,p.bV.length<=1048576):
  ∃b,IE s q=some (cond b 0 1)/\Jm s q=some b/\(b=true->(my s==0)=true/\wy s q=true):=by
 unfold IE Jm;rw[atb _ h,atc _ h];simp only[bind_some];cases bF:(my s==0)
 .exact⟨false,rfl,rfl,λh=>by cases h⟩
 .have al:=R8 bF;rw[atd s h.1 al q cx aE,ate s h.1 al q cx aE];refine⟨wy s q,?_,?_,λh=>⟨rfl,h⟩⟩
  .simp only[Bool.not_true,cond_false,bind_some];cases wy s q<;>rfl
  .unfold wy;simp only[bind_some,cond_true,Bool.not_not];cases((q.length:Int)==(s.b_.length:Int))<;>rfl
theorem atN (s:cJ) (h:uP s) (q:axx) (cx:q.length<=1048576) (aE:∀p∈q,p.bV.length<=1048576):∃b,I0 s q=some b/\JC s q=some b:=by
 obtain⟨b,hs,fT,fU⟩:=atM s h q cx aE;unfold I0 JC PB;rw[hs,fT];cases b
 .exact⟨false,rfl,rfl⟩
 .obtain⟨cz,c2⟩:=fU rfl;obtain⟨ln,S,b,m1,m2,m3⟩:=atK h cz aE c2;rw[m1,m2];simp only[bind_some,Bool.not_true,cond_false];cases b
  .exact⟨false,rfl,rfl⟩
  .obtain⟨rfl,_,_⟩:=m3 rfl;exact⟨_,rfl,rfl⟩
theorem atO (b:Bool):(!(b==b))=false:=by cases b<;>rfl
theorem apS (a:oy) (q:axr) (bl:Ez a) (cx:q.length<=9223372036854775807/\∀y∈q,A9 y):PL a q=some true:=by
 unfold PL;obtain⟨r,ad,ae⟩:=ata a bl;rw[ad];simp only[bind_some];cases aQ:decide (r<0)
 .obtain⟨aI,bc,bY,dt,dv⟩:=ae aQ;rw[arc q r cx dv (by omega)];simp only[cond_false,bind_some];by_cases aa:((fR qC q:Nat):Int)<=r
  .rw[GJ aa];have eB:decide (r-((fR qC q:Nat):Int)<0)=false:=decide_eq_false (by omega);have tG:fR qC q<=1048576:=by omega
   have Ib:fR rJ (q.map wh)<=1048576:=by
    rw[zP];simp only[ary];exact tG
   have aC:(q.map wh).length<=1048576:=Nat.le_trans (l7 rJ _) Ib;have aE:∀p∈q.map wh,p.bV.length<=1048576:=λp ax=>by
    have hN:rJ p<=fR rJ (q.map wh):=mV ax;have j3:rJ p<=1048576:=by omega
    clear hN;unfold rJ at j3;omega
   rw[eB,aI,arA q tG];obtain⟨b,hs,fT⟩:=atN _ bY _ aC aE;simp only[cond_false,bind_some,hs,fT,atO,bc,Bool.not_true,arO _ Ib]
  .rw[GK (by omega)];rfl
 .rfl
end Go.lZ
