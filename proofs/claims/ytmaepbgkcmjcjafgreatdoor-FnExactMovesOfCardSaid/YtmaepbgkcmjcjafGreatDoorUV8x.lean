/- Part of a proof that a law returns true for every input. No condition. -/
import Derived.Test.YtmaepbgkcmjcjafGreatDoorUV7x
import Derived.Test.YtmaepbgkcmjcjafGreatDoorUV0x
namespace Go.kX
open List Option Go.IntKind Nat
open Go Go.eg
theorem av0 {s:cE} {q:ayz} (cy:q.length<=3) {ak:ayn} {i0:Nat} (a_:i0<q.length) (hl:ak.length=i0) (ab:∀i (h:i<q.length),i<i0->uh s.c8 q[i]=some (ak.getD i [],true)) (bD:∃S,uh s.c8 q[i0]=some (S,false)):
  ∀i,i<=i0->∀m,i0-i<m->vO s q m (ak.take i) (i:Int)=some ([],false):=by
 refine down i0 ?_ ?_
 .intro m hm;obtain⟨m,rfl⟩:∃j,m=j+1:=⟨m-1,by omega⟩
  obtain⟨S,e⟩:=bD;simp only[vO,FO];rw[ey a_,cond_true,dV q i0 a_,bind_some,e];rfl
 .intro i aj ih m hm;obtain⟨m,rfl⟩:∃j,m=j+1:=⟨m-1,by omega⟩
  simp only[vO,FO];rw[ey (show i<q.length by omega),cond_true,dV q i (by omega),bind_some,ab i (by omega) aj,bind_some];have mO:i<ak.length:=by omega
  have e:ak.getD i []=ak[i]:=by simp[List.getD,mO]
  simp only[Bool.not_true,cond_false,e];rw[lR (by simp;omega) (by simp;omega),bind_some,<-take_succ_eq_append_getElem mO,eo i q.length (by omega) (by omega)];exact ih m (by omega)
theorem av1 {s:cE} {q:ayz} {ak:ayn} (H:tu s q ak) {i0:Nat} (a_:i0<q.length) (ab:∀i (h:i<q.length),i<i0->uC s.c8 q[i]=some (ak.getD i [],true)) (bD:∃S,uC s.c8 q[i0]=some (S,false)):
  ∀i,i<=i0->∀(p:ayA×Seen) m,p.1.length+200*(i0-i)<=1000->i0-i<m->p1 s q m s q p.1 p.2 (ak.take i) (i:Int)=some ([],false):=by
 have aG:=H.o2;refine down i0 ?_ ?_
 .intro p m ax hm;obtain⟨m,rfl⟩:∃j,m=j+1:=⟨m-1,by omega⟩
  obtain⟨S,e⟩:=bD;simp only[p1,Gj];rw[ey a_,cond_true,dV q i0 a_,bind_some,e];rfl
 .intro i aj ih p m ax hm;obtain⟨m,rfl⟩:∃j,m=j+1:=⟨m-1,by omega⟩
  have HJ:i<q.length:=by omega
  obtain⟨mO,iy,li,tw⟩:=H.at HJ;simp only[p1,Gj];rw[ey HJ,cond_true,dV q i HJ,bind_some,ab i HJ aj,bind_some,iy];simp only[Bool.not_true,cond_false];rw[lR (by simp;omega) (by simp;omega),bind_some,<-take_succ_eq_append_getElem mO];have iJ:bZ (λn=>xU (p1 s q m) s q (ak[i],true) n s q p.1 p.2 (ak.take (i+1)) (i:Int) (i:Int) 0)=
    p1 s q m s q ((lG s q i ak[i]).foldl ig p).1 ((lG s q i ak[i]).foldl ig p).2 (ak.take (i+1)) ((i+1:Nat):Int):=
   fb (ak[i].length+1) λm2 qS=>aci H _ _ HJ li tw 0 (by omega) p m2 (by omega) (by omega)
  have bS:=AF (lG s q i ak[i]) p;have dT:=LQ (s:=s) (q:=q) i ak[i];rw[iJ];exact ih _ m (by omega) (by omega)
theorem ack {s:cE} (h:u9 s) (aJ:(mF s==0)=true) {q:ayz} (cy:∀p∈q,p.bH.length<=1048576) (ab:wS s q=true):
  q.length<=3/\(∀p∈q,kA p)/\∀p∈q,sH s.c8 p=some true:=by
 have an:=Tl aJ;unfold wS at ab;rw[Bool.and_eq_true]at ab;have ar:s.cL.length<=3:=by
  have ar:u7 s=true:=by
   cases ar:u7 s
   .unfold mF at aJ;rw[ar]at aJ;revert aJ;cases lU s.c8<;>simp
   .rfl
  unfold u7 at ar;simp only[Bool.and_eq_true,decide_eq_true_eq]at ar;exact ar.1.2
 have hl:q.length=s.cL.length:=by have:=ab.1;rw[beq_iff_eq]at this;omega
 have ax:∀p∈q,sH s.c8 p=some true:=by
  intro p ax;obtain⟨k,au,rfl⟩:=mem_iff_getElem.1 ax;have ad:=oX.1 ab.2 k au;have e:tt q k=q[k]:=by simp[tt,List.getD,au]
  rw[e]at ad;rw[(Tm _ h.1 an _ (cy _ ax)).1,ad]
 refine⟨by omega,λp HK=>?_,ax⟩;obtain⟨i,aj,j,aP,aY,bF,mK,iJ⟩:=abL h.1 an (cy p HK) (ax p HK);have auZ:s.c8[i].Body.length<=20:=(Ap ((Dy h.1 an).2.2 i aj).2.1).2.2;have bf:s.c8.length<=4:=(Dy h.1 an).2.1;have P:=(SR h.1 an aj bF).abm;exact⟨⟨i,by omega,aP⟩,⟨j,by omega,aY⟩,by omega,iJ⟩
theorem av2 {s:cE} (h:u9 s) (aJ:(mF s==0)=true) {q:ayz} (cy:∀p∈q,p.bH.length<=1048576) (ab:wS s q=true):
  ∃(lF S:ayA) (b:Bool),Kk s q=some (lF,b)/\JI s q=some (S,b)/\(b=true->S=lF/\lF.length<=200/\∀m∈lF,iM q.length m):=by
 obtain⟨aG,hg,ax⟩:=ack h aJ cy ab;have an:=Tl aJ;have av3:=λp (HK:p∈q)=>auY h.1 an (cy p HK) (ax p HK);have key:∀l:ayz,(∀p∈l,p∈q)->(∃ak:ayn,ak.length=l.length/\(∀x∈ak,x.length<=200/\∀y∈x,fG y)/\∀i (aj:i<l.length),uC s.c8 l[i]=some (ak.getD i [],true)/\uh s.c8 l[i]=some (ak.getD i [],true))\/
   ∃(i0:Nat) (HL:i0<l.length) (ak:ayn),ak.length=i0/\(∀x∈ak,x.length<=200/\∀y∈x,fG y)/\(∀i (aj:i<l.length),i<i0->uC s.c8 l[i]=some (ak.getD i [],true)/\uh s.c8 l[i]=some (ak.getD i [],true))/\
    (∃S,uC s.c8 l[i0]=some (S,false))/\∃S,uh s.c8 l[i0]=some (S,false):=by
  intro l;induction l with
  |nil=>intro _;exact .inl ⟨[],rfl,λx ao=>(by cases ao),λi aj=>absurd aj (not_lt_zero i)⟩
  |cons p l ih=>
   intro hl;obtain⟨lF,S,b,J,a2,a3⟩:=av3 p (hl p (by simp));cases b
   .exact .inr ⟨0,by simp,[],rfl,λx ao=>(by cases ao),λi _ aj=>absurd aj (not_lt_zero i),⟨lF,J⟩,⟨S,a2⟩⟩
   .obtain⟨rfl,a4,a5⟩:=a3 rfl;rcases ih λx ao=>hl x (mem_cons_of_mem _ ao)with⟨ak,hA,fV,gd⟩|⟨i0,HL,ak,hA,fV,gd,bM,cV⟩
    .refine .inl ⟨S::ak,by simp[hA],λx ao=>?_,λi aj=>?_⟩
     .rcases mem_cons.1 ao with rfl|ao
      .exact⟨a4,a5⟩
      .exact fV x ao
     .cases i with
      |zero=>exact⟨J,a2⟩
      |succ i=>simpa using gd i (by simpa using aj)
    .refine .inr ⟨i0+1,by simpa using HL,S::ak,by simp[hA],λx ao=>?_,λi aj eI=>?_,by simpa using bM,by simpa using cV⟩
     .rcases mem_cons.1 ao with rfl|ao
      .exact⟨a4,a5⟩
      .exact fV x ao
     .cases i with
      |zero=>exact⟨J,a2⟩
      |succ i=>simpa using gd i (by simpa using aj) (by omega)
 rcases key q λ_ h=>h with⟨ak,hA,fV,gd⟩|⟨i0,HL,ak,hA,fV,gd,bM,cV⟩
 .have H:tu s q ak:=⟨aJ,⟨h.2.2.1.1,h.2.2.2.1.1,h.2.2.2.2.1⟩,aG,hg,hA,fV⟩
  have DF:Kk s q=some (((two s q ak 0).foldl ig ((one s q ak 0).foldl ig ([],[]))).1,decide (((((two s q ak 0).foldl ig ((one s q ak 0).foldl ig ([],[]))).1).length:Int)<=200)):=
   fb (q.length+1) λm hm=>avY H (λi aj=>(gd i aj).1) 0 (by omega) ([],[]) m (by simp;omega) (by omega)
  have cj:JI s q=some ((two s q ak 0).foldl iS ((one s q ak 0).foldl hS []),decide ((((two s q ak 0).foldl iS ((one s q ak 0).foldl hS [])).length:Int)<=200)):=
   fb (q.length+1) λm hm=>avZ H (λi aj=>(gd i aj).2) 0 (by omega) m (by omega)
  have nd:∀x∈one s q ak 0++two s q ak 0,iM q.length x:=λx ao=>(mem_append.1 ao).elim (H.gone x) (H.acf x);have aP:((two s q ak 0).foldl ig ((one s q ak 0).foldl ig ([],[]))).1=(two s q ak 0).foldl hS ((one s q ak 0).foldl hS []):=by
   rw[<-foldl_append,<-foldl_append];exact Tf (G:=iM q.length) avc _ [] [] nd (λx ao=>by cases ao) (λx _=>by simp[j1])
  rw[aP]at DF;have yo:∀x∈(two s q ak 0).foldl hS ((one s q ak 0).foldl hS []),iM q.length x:=LO _ _ (LO _ _ (λx ao=>by cases ao) H.gone) H.acf;obtain⟨cr,c2⟩:=abT (two s q ak 0) ((one s q ak 0).foldl hS []);generalize (two s q ak 0).foldl hS ((one s q ak 0).foldl hS [])=lF at DF cr c2 yo;by_cases hl:lF.length<=200
  .rw[cr hl]at cj;exact⟨lF,lF,_,DF,cj,λ_=>⟨rfl,hl,yo⟩⟩
  .have:=c2 (by omega);generalize (two s q ak 0).foldl iS ((one s q ak 0).foldl hS [])=j4 at cj this;refine⟨lF,j4,false,?_,?_,λh=>by cases h⟩
   .rw[DF,show decide ((lF.length:Int)<=200)=false from decide_eq_false (by omega)]
   .rw[cj,show decide ((j4.length:Int)<=200)=false from decide_eq_false (by omega)]
 .let HM:=ak++replicate (q.length-i0) ([]:ayB)
  have hlen:HM.length=q.length:=by simp[HM,hA];omega
  have rb:∀i,i<i0->HM.getD i []=ak.getD i []:=λi aj=>by
   simp only[HM,List.getD];rw[getElem?_append_left (by omega)]
  have H:tu s q HM:=⟨aJ,⟨h.2.2.1.1,h.2.2.2.1.1,h.2.2.2.2.1⟩,aG,hg,hlen,λx ao=>by
   rcases mem_append.1 ao with ao|ao
   .exact fV x ao
   .rw[(mem_replicate.1 ao).2];exact⟨by simp,λy hy=>by cases hy⟩⟩
  refine⟨[],[],false,?_,?_,λh=>by cases h⟩
  .exact fb (q.length+1) λm hm=>av1 H HL (λi aj eI=>by rw[rb i eI];exact(gd i aj eI).1) bM 0 (by omega) ([],[]) m (by simp;omega) (by omega)
  .exact fb (q.length+1) λm hm=>av0 aG HL hA (λi aj eI=>(gd i aj eI).2) cV 0 (by omega) m (by omega)
theorem av4 (s:cE) (h:u9 s) (q:ayz) (cy:q.length<=1048576) (aJ:∀p∈q,p.bH.length<=1048576):
  ∃b,Jr s q=some (cond b 0 1)/\J6 s q=some b/\(b=true->(mF s==0)=true/\wS s q=true):=by
 unfold Jr J6;rw[avu _ h,avv _ h];simp only[bind_some];cases bD:(mF s==0)
 .exact⟨false,rfl,rfl,λh=>by cases h⟩
 .have an:=Tl bD;rw[avw s h.1 an q cy aJ,avx s h.1 an q cy aJ];refine⟨wS s q,?_,?_,λh=>⟨rfl,h⟩⟩
  .simp only[Bool.not_true,cond_false,bind_some];cases wS s q<;>rfl
  .unfold wS;simp only[bind_some,cond_true,Bool.not_not];cases((q.length:Int)==(s.cL.length:Int))<;>rfl
theorem av5 (s:cE) (h:u9 s) (q:ayz) (cy:q.length<=1048576) (aJ:∀p∈q,p.bH.length<=1048576):
  ∃r:ayA×Int,JJ s q=some r/\Gk s q=some r/\r.1.length<=200/\∀m∈r.1,iM q.length m/\q.length<=3:=by
 obtain⟨b,hA,fV,gd⟩:=av4 s h q cy aJ;unfold JJ Gk;rw[hA,fV];cases b
 .exact⟨([],1),rfl,rfl,by simp,λm hm=>by cases hm⟩
 .obtain⟨cr,c2⟩:=gd rfl;obtain⟨lF,S,b,m1,m2,m3⟩:=av2 h cr aJ c2;have aG:=(ack h cr aJ c2).1;simp only[bind_some,Bool.not_true,cond_false,cond_true,bne_self_eq_false];rw[m1,m2];simp only[bind_some];cases b
  .exact⟨([],5),rfl,rfl,by simp,λm hm=>by cases hm⟩
  .obtain⟨rfl,hl,hg⟩:=m3 rfl;exact⟨(S,0),rfl,rfl,hl,λm hm=>⟨hg m hm,aG⟩⟩
theorem move_size {n:Nat} {m:a1} (h:iM n m) (aV:n<=3):oZ m<=1000:=by
 have ad:=h.yl.1;have af:=h.st.1;have:=S_ (f:=lT) (B:=80) m.State λp ax=>by
  have:=(h.st.2 p ax).kg.1;unfold lT;omega
 unfold oZ dS;omega
theorem ar1 (a:oN) (q:ayt) (br:E7 a) (cy:q.length<=9223372036854775807/\∀y∈q,Bs y):QN a q=some true:=by
 unfold QN;obtain⟨r,ad,af⟩:=avt a br;rw[ad];simp only[bind_some];cases aQ:decide (r<0)
 .obtain⟨aG,bf,bU,dc,c1⟩:=af aQ;rw[atm q r cy c1 (by omega)];simp only[cond_false,bind_some];by_cases ab:((dS qQ q:Nat):Int)<=r
  .rw[Hq ab];have eI:decide (r-((dS qQ q:Nat):Int)<0)=false:=decide_eq_false (by omega);have tS:dS qQ q<=1048576:=by omega
   have EY:dS lT (q.map u3)<=1048576:=by
    rw[Ae];simp only[atD];exact tS
   have hl:(q.map u3).length<=1048576:=Nat.le_trans (ju lT _) EY;have aJ:∀p∈q.map u3,p.bH.length<=1048576:=λp ax=>by
    have g_:lT p<=dS lT (q.map u3):=mB ax;have iN:lT p<=1048576:=by omega
    clear g_;unfold lT at iN;omega
   have b8:tn (u2 a)<=1048576:=by rw[aa3];omega
   rw[eI,aG,atF q tS];simp only[cond_false,bind_some];generalize u2 a=e at bf bU b8⊢;generalize q.map u3=d at EY hl aJ⊢;obtain⟨z,qq,z2,z3,z4⟩:=av5 e bU d hl aJ;have hm:dS oZ z.1<=1048576:=by
    have:=S_ (f:=oZ) (B:=1000) z.1 λm hm=>move_size (z4 m hm).1 (z4 m hm).2;unfold dS;omega
   obtain⟨gg,ft,hr,mP,qM,c,cr,m1⟩:=at2 e 1 (by omega) (by omega);obtain⟨da,c2,c3,m2,_⟩:=aa9 d (1+(c:Int)) (by omega) (by omega);obtain⟨nZ,bJ,d1,m3,m4⟩:=at4 z.1 1 (by omega) (by omega);simp only[qq,z2,bind_some,atI z.1 hm,aa5 d EY,bf,m1,m2,m3,m4,Bool.not_true,bne_self_eq_false,Bool.or_self,cond_false,Lk (k:=1+(c:Int)+(c2:Int)) (by omega),Lk (k:=1+(bJ:Int)) (by omega)]
  .rw[Hr (by omega)];rfl
 .rfl
end Go.kX
