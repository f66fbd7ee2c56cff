/- Part of a proof that a law returns true for every input. No condition. -/
import Derived.Test.YtmaepbgkcmjcjahGreatDoorUV7x
import Derived.Test.YtmaepbgkcmjcjahGreatDoorUV0x
import Derived.Test.YtmaepbgkcmjcjahGreatDoorUV6x
import Derived.Test.YtmaepbgkcmjcjahGreatDoorUV3x
namespace Go.k6
open Option Go.IntKind Nat Or
open Go Go.ei
theorem awL {s:cL} {q:azz} (cE:q.length<=3) {al:azn} {i0:Nat} (bc:i0<q.length) (hl:al.length=i0) (aa:∀i (h:i<q.length),i<i0->uX s.cw q[i]=some (al.getD i [],true)) (bH:∃S,uX s.cw q[i0]=some (S,false)):
  ∀i,i<=i0->∀m,i0-i<m->wD q s.cw s.ch s.b_ s.cD s.cB m (al.take i) (i:Int)=some ([],false):=by
 refine down i0 ?_ ?_
 .intro m hm;obtain⟨m,rfl⟩:∃j,m=j+1:=⟨m-1,by omega⟩
  obtain⟨S,e⟩:=bH;simp only[wD,GD];rw[ev bc,cond_true,dX q i0 bc,bind_some,e];rfl
 .intro i ai ih m hm;obtain⟨m,rfl⟩:∃j,m=j+1:=⟨m-1,by omega⟩
  simp only[wD,GD];rw[ev (show i<q.length by omega),cond_true,dX q i (by omega),bind_some,aa i (by omega) ai,bind_some];have mY:i<al.length:=by omega
  have e:al.getD i []=al[i]:=by simp[List.getD,mY]
  simp only[Bool.not_true,cond_false,e];rw[lJ (by simp;omega) (by simp;omega),bind_some,<-List.take_succ_eq_append_getElem mY,et i q.length (by omega) (by omega)];exact ih m (by omega)
theorem awM {s:cL} {q:azz} {al:azn} (H:uc s q al) {i0:Nat} (bc:i0<q.length) (aa:∀i (h:i<q.length),i<i0->vc s.cw q[i]=some (al.getD i [],true)) (bH:∃S,vc s.cw q[i0]=some (S,false)):
  ∀i,i<=i0->∀(p:azA×Seen) m,p.1.length+200*(i0-i)<=1000->i0-i<m->qm s q m s q p.1 p.2 (al.take i) (i:Int)=some ([],false):=by
 have aD:=H.pj;refine down i0 ?_ ?_
 .intro p m ax hm;obtain⟨m,rfl⟩:∃j,m=j+1:=⟨m-1,by omega⟩
  obtain⟨S,e⟩:=bH;simp only[qm,Ha];rw[ev bc,cond_true,dX q i0 bc,bind_some,e];rfl
 .intro i ai ih p m ax hm;obtain⟨m,rfl⟩:∃j,m=j+1:=⟨m-1,by omega⟩
  have Iv:i<q.length:=by omega
  obtain⟨mY,iI,li,ue⟩:=H.at Iv;simp only[qm,Ha];rw[ev Iv,cond_true,dX q i Iv,bind_some,aa i Iv ai,bind_some,iI];simp only[Bool.not_true,cond_false];rw[lJ (by simp;omega) (by simp;omega),bind_some,<-List.take_succ_eq_append_getElem mY];have iH:b5 (λn=>ys (qm s q m) s q (al[i],true) n s q p.1 p.2 (al.take (i+1)) (i:Int) (i:Int) 0)=
    qm s q m s q ((lN s q i al[i]).foldl iw p).1 ((lN s q i al[i]).foldl iw p).2 (al.take (i+1)) ((i+1:Nat):Int):=
   e5 (al[i].length+1) λm2 rq=>acS H _ _ Iv li ue 0 (by omega) p m2 (by omega) (by omega)
  have bX:=Bu (lN s q i al[i]) p;have dS:=Mv (s:=s) (q:=q) i al[i];rw[iH];exact ih _ m (by omega) (by omega)
theorem awN {s:cL} {q:azz} {al:azn} {V:a8->Prop} (cE:∀p∈q,V p) (cq:∀l∈al,∀x∈l,V x.Next):∀m∈one s q al 0++two s q al 0,∀p∈m.State,V p:=by
 have ao:∀i,∀x∈al.getD i [],V x.Next:=λi x aq=>by
  rw[List.getD_eq_getElem?_getD]at aq;cases h:al[i]? with
  |none=>rw[h]at aq;cases aq
  |some l=>
   rw[h]at aq;obtain⟨ai,rfl⟩:=List.getElem?_eq_some_iff.1 h;exact cq _ (List.getElem_mem ai) x aq
 have set:∀(l:azz) (i:Nat) (x:a8),(∀p∈l,V p)->V x->∀p∈l.set i x,V p:=λl i x hl aq p ax=>by
  rcases List.mem_or_eq_of_mem_set ax with ad|rfl
  .exact hl p ad
  .exact aq
 intro m hm;rcases List.mem_append.1 hm with hm|hm
 .obtain⟨i,_,hm⟩:=List.mem_flatMap.1 hm;obtain⟨x,aq,hm⟩:=List.mem_flatMap.1 hm;unfold cx at hm;split at hm
  .rw[List.mem_singleton]at hm;subst hm;exact set _ _ _ cE (ao i x aq)
  .cases hm
 .obtain⟨i,_,hm⟩:=List.mem_flatMap.1 hm;obtain⟨k,_,hm⟩:=List.mem_flatMap.1 hm;obtain⟨x,aq,hm⟩:=List.mem_flatMap.1 hm;obtain⟨y,hy,hm⟩:=List.mem_flatMap.1 hm;unfold c2 at hm;split at hm
  .rw[List.mem_singleton]at hm;subst hm;exact set _ _ _ (set _ _ _ cE (ao i x aq)) (ao k y hy)
  .cases hm
theorem Uk:∀(l o:azA),∀x∈l.foldl hD o,x∈o\/x∈l
 |[],_,_,aq=>.inl aq
 |s::r,o,x,aq=>(Uk r _ x aq).elim (λh=>(Ir h).elim .inl λe=>.inr (by rw[e];simp)) λh=>.inr (List.mem_cons_of_mem _ h)
def Es (s:cL) (q:azz):Prop:=q.length=s.ch.length/\∀p∈q,xq s.cw p
theorem Ul {s:cL} (h:sK s) (aF:(l7 s==0)=true) {q:azz} (aa:Es s q):q.length<=3/\∀p∈q,jP p:=by
 have ao:=Mo aF;have au:s.ch.length<=3:=by
  have au:vJ s=true:=by
   cases au:vJ s
   .unfold l7 at aF;rw[au]at aF;revert aF;cases lL s.cw<;>simp
   .rfl
  unfold vJ at au;simp only[Bool.and_eq_true,decide_eq_true_eq]at au;exact au.1.2
 have hl:=aa.1;refine⟨by omega,λp Um=>?_⟩;obtain⟨i,ai,j,aR,aW,bG,kA,iH⟩:=aa.2 p Um;have avK:s.cw[i].Body.length<=20:=(xh ((Bf h.1 ao).2.2 i ai).2.1).2.2;have bh:s.cw.length<=4:=(Bf h.1 ao).2.1;have P:=(Ik h.1 ao ai bG).TH;exact⟨⟨i,by omega,aR⟩,⟨j,by omega,aW⟩,by omega,iH⟩
theorem awO {s:cL} (h:sK s) (aF:(l7 s==0)=true) {q:azz} (aa:Es s q):
  ∃(lM S:azA) (b:Bool),KZ s q=some (lM,b)/\Kn s.cw s.ch s.b_ s.cD s.cB q=some (S,b)/\(b=true->S=lM/\lM.length<=200/\∀m∈lM,jf q.length m/\Es s m.State):=by
 obtain⟨aD,hg⟩:=Ul h aF aa;have ax:=aa.2;have ao:=Mo aF;have awP:=λp (Um:p∈q)=>avI h.1 ao (ax p Um);have key:∀l:azz,(∀p∈l,p∈q)->(∃al:azn,al.length=l.length/\(∀x∈al,x.length<=200/\∀y∈x,fS y/\xq s.cw y.Next)/\∀i (ai:i<l.length),vc s.cw l[i]=some (al.getD i [],true)/\uX s.cw l[i]=some (al.getD i [],true))\/
   ∃(i0:Nat) (Iw:i0<l.length) (al:azn),al.length=i0/\(∀x∈al,x.length<=200/\∀y∈x,fS y/\xq s.cw y.Next)/\(∀i (ai:i<l.length),i<i0->vc s.cw l[i]=some (al.getD i [],true)/\uX s.cw l[i]=some (al.getD i [],true))/\
    (∃S,vc s.cw l[i0]=some (S,false))/\∃S,uX s.cw l[i0]=some (S,false):=by
  intro l;induction l with
  |nil=>intro _;exact .inl ⟨[],rfl,λx aq=>(by cases aq),λi ai=>absurd ai (not_lt_zero i)⟩
  |cons p l ih=>
   intro hl;obtain⟨lM,S,b,J,a2,a3⟩:=awP p (hl p (by simp));cases b
   .exact .inr ⟨0,by simp,[],rfl,λx aq=>(by cases aq),λi _ ai=>absurd ai (not_lt_zero i),⟨lM,J⟩,⟨S,a2⟩⟩
   .obtain⟨rfl,a4,a5⟩:=a3 rfl;rcases ih λx aq=>hl x (List.mem_cons_of_mem _ aq)with⟨al,hG,fP,gj⟩|⟨i0,Iw,al,hG,fP,gj,bT,da⟩
    .refine .inl ⟨S::al,by simp[hG],λx aq=>?_,λi ai=>?_⟩
     .rcases List.mem_cons.1 aq with rfl|aq
      .exact⟨a4,a5⟩
      .exact fP x aq
     .cases i with
      |zero=>exact⟨J,a2⟩
      |succ i=>simpa using gj i (by simpa using ai)
    .refine .inr ⟨i0+1,by simpa using Iw,S::al,by simp[hG],λx aq=>?_,λi ai eN=>?_,by simpa using bT,by simpa using da⟩
     .rcases List.mem_cons.1 aq with rfl|aq
      .exact⟨a4,a5⟩
      .exact fP x aq
     .cases i with
      |zero=>exact⟨J,a2⟩
      |succ i=>simpa using gj i (by simpa using ai) (by omega)
 rcases key q λ_ h=>h with⟨al,hG,fP,gj⟩|⟨i0,Iw,al,hG,fP,gj,bT,da⟩
 .have H:uc s q al:=⟨aF,⟨h.2.2.1.1,h.2.2.2.1.1,h.2.2.2.2.1⟩,aD,hg,hG,λl hl=>⟨(fP l hl).1,λx aq=>((fP l hl).2 x aq).1⟩⟩
  have En:KZ s q=some (((two s q al 0).foldl iw ((one s q al 0).foldl iw ([],[]))).1,decide (((((two s q al 0).foldl iw ((one s q al 0).foldl iw ([],[]))).1).length:Int)<=200)):=
   e5 (q.length+1) λm hm=>awJ H (λi ai=>(gj i ai).1) 0 (by omega) ([],[]) m (by simp;omega) (by omega)
  have cq:Kn s.cw s.ch s.b_ s.cD s.cB q=some ((two s q al 0).foldl iZ ((one s q al 0).foldl hD []),decide ((((two s q al 0).foldl iZ ((one s q al 0).foldl hD [])).length:Int)<=200)):=
   e5 (q.length+1) λm hm=>awK H (λi ai=>(gj i ai).2) 0 (by omega) m (by omega)
  have nv:∀x∈one s q al 0++two s q al 0,jf q.length x:=λx aq=>(List.mem_append.1 aq).elim (H.gone x) (H.acP x);have aR:((two s q al 0).foldl iw ((one s q al 0).foldl iw ([],[]))).1=(two s q al 0).foldl hD ((one s q al 0).foldl hD []):=by
   rw[<-List.foldl_append,<-List.foldl_append];exact T6 (G:=jf q.length) avY _ [] [] nv (λx aq=>by cases aq) (λx _=>by simp[kg])
  rw[aR]at En;have ua:∀x∈(two s q al 0).foldl hD ((one s q al 0).foldl hD []),jf q.length x:=Mt _ _ (Mt _ _ (λx aq=>by cases aq) H.gone) H.acP;have yU:=awN (s:=s) (V:=xq s.cw) ax (λl hl x aq=>((fP l hl).2 x aq).2);have ua:∀x∈(two s q al 0).foldl hD ((one s q al 0).foldl hD []),jf q.length x/\Es s x.State:=λx aq=>
   ⟨ua x aq,(ua x aq).st.1.trans aa.1,(yU x (List.mem_append.2 ((Uk _ _ x aq).elim (λh=>(Uk _ _ x h).elim (λh=>by cases h) .inl) .inr)))⟩
  obtain⟨cx,c2⟩:=acs (two s q al 0) ((one s q al 0).foldl hD []);generalize (two s q al 0).foldl hD ((one s q al 0).foldl hD [])=lM at En cx c2 ua;by_cases hl:lM.length<=200
  .rw[cx hl]at cq;exact⟨lM,lM,_,En,cq,λ_=>⟨rfl,hl,ua⟩⟩
  .have:=c2 (by omega);generalize (two s q al 0).foldl iZ ((one s q al 0).foldl hD [])=kk at cq this;refine⟨lM,kk,false,?_,?_,λh=>by cases h⟩
   .rw[En,show decide ((lM.length:Int)<=200)=false from decide_eq_false (by omega)]
   .rw[cq,show decide ((kk.length:Int)<=200)=false from decide_eq_false (by omega)]
 .let Ix:=al++List.replicate (q.length-i0) ([]:azB)
  have hlen:Ix.length=q.length:=by simp[Ix,hG];omega
  have rQ:∀i,i<i0->Ix.getD i []=al.getD i []:=λi ai=>by
   simp only[Ix,List.getD];rw[List.getElem?_append_left (by omega)]
  have H:uc s q Ix:=⟨aF,⟨h.2.2.1.1,h.2.2.2.1.1,h.2.2.2.2.1⟩,aD,hg,hlen,λx aq=>by
   rcases List.mem_append.1 aq with aq|aq
   .exact⟨(fP x aq).1,λy hy=>((fP x aq).2 y hy).1⟩
   .rw[(List.mem_replicate.1 aq).2];exact⟨by simp,λy hy=>by cases hy⟩⟩
  refine⟨[],[],false,?_,?_,λh=>by cases h⟩
  .exact e5 (q.length+1) λm hm=>awM H Iw (λi ai eN=>by rw[rQ i eN];exact(gj i ai eN).1) bT 0 (by omega) ([],[]) m (by simp;omega) (by omega)
  .exact e5 (q.length+1) λm hm=>awL aD Iw hG (λi ai eN=>(gj i ai eN).2) da 0 (by omega) m (by omega)
theorem awQ {e:azw} (h:pf e) (aF:lL e=true) {p:a8} (ax:p.bK.length<=1048576) (aa:yg e p=some true):
  xq e p:=by
 unfold yg k8 at aa;rw[eE ((e.length:Int)-1) (by have:=h.1;omega)]at aa;simp only[bind_some]at aa;cases aw:(decide (0<=p.cA)&&decide (p.cA<=(e.length:Int)-1))
 .rw[aw]at aa;cases aa
 rw[aw]at aa;simp only[Bool.and_eq_true,decide_eq_true_eq]at aw;obtain⟨i,Em⟩:∃i:Nat,p.cA=i:=⟨p.cA.toNat,by omega⟩
 have ai:i<e.length:=by omega
 have ab:=(h.2 _ (List.getElem_mem ai)).2.1;rw[Em,dX e i ai]at aa;simp only[Bool.not_true,cond_false,bind_some]at aa;rw[eE ((e[i].Body.length:Int)-1) (by omega)]at aa;cases cE:(decide (0<=p.Part)&&decide (p.Part<=(e[i].Body.length:Int)-1))
 .rw[cE]at aa;cases aa
 rw[cE]at aa;simp only[Bool.and_eq_true,decide_eq_true_eq]at cE;obtain⟨j,uM⟩:∃j:Nat,p.Part=j:=⟨p.Part.toNat,by omega⟩
 have bG:j<e[i].Body.length:=by omega
 obtain⟨gZ,_⟩:=abS h aF ai bG;rw[uM,dX e[i].Body j bG]at aa;simp only[Bool.not_true,cond_false,bind_some,gZ,TJ _ ax]at aa;cases acU:e[i].Body[j].Kind==5
 .rw[acU]at aa;simp only[cond_false]at aa;cases hl:((p.bK.length:Int)==(h8 e[i] j).scope)
  .rw[hl]at aa;cases aa
  .rw[hl]at aa;simp only[beq_iff_eq]at hl;have acV:yY p.bK=true:=some.inj aa;refine⟨i,ai,j,Em,uM,bG,hl.symm,λx aq=>?_⟩;simp only[yY,pd]at acV;obtain⟨k,aw,rfl⟩:=List.mem_iff_getElem.1 aq;have:=acV k aw;simp only[sx,Bool.and_eq_true,decide_eq_true_eq,List.getD_eq_getElem?_getD,List.getElem?_eq_getElem aw,getD_some]at this;exact this
 .rw[acU]at aa;cases aa
theorem awR {s:cL} (h:sK s) (aF:(l7 s==0)=true) {q:azz} (cE:∀p∈q,p.bK.length<=1048576) (aa:y4 s q=true):Es s q:=by
 have ao:=Mo aF;unfold y4 at aa;rw[Bool.and_eq_true]at aa;refine⟨by have:=aa.1;rw[beq_iff_eq]at this;omega,λp ax=>?_⟩;obtain⟨k,aw,rfl⟩:=List.mem_iff_getElem.1 ax;have ad:=pd.1 aa.2 k aw;have e:ub q k=q[k]:=by simp[ub,List.getD,aw]
 rw[e]at ad;exact awQ h.1 ao (cE _ ax) (by rw[(Ub _ h.1 ao _ (cE _ ax)).1,ad])
theorem awS (s:cL) (h:sK s) (q:azz) (cE:q.length<=1048576) (aF:∀p∈q,p.bK.length<=1048576):
  ∃b,J8 s q=some (cond b 0 1)/\KL s q=some b/\(b=true->(l7 s==0)=true/\y4 s q=true):=by
 unfold J8 KL;rw[awf _ h,awg _ h];simp only[bind_some];cases bH:(l7 s==0)
 .exact⟨false,rfl,rfl,λh=>by cases h⟩
 .have ao:=Mo bH;rw[awh s h.1 ao q cE aF,awi s h.1 ao q cE aF];refine⟨y4 s q,?_,?_,λh=>⟨rfl,h⟩⟩
  .simp only[Bool.not_true,cond_false,bind_some];cases y4 s q<;>rfl
  .unfold y4;simp only[bind_some,cond_true,Bool.not_not];cases((q.length:Int)==(s.ch.length:Int))<;>rfl
theorem awT (s:cL) (h:sK s) (aF:(l7 s==0)=true) (uj:azz) (cs:aze) (hl:cs.length<=1048576) (au:∀c∈cs,-9223372036854775808<=c/\c<=9223372036854775807):
  ∀i,i<=cs.length->∀q (v:azb),Es s q->v.length<=i->(∀x∈v,x.length<=400)->∃r:azz×azb×Int,(r.1.length<=3/\(∀p∈r.1,jP p)/\r.2.1.length<=cs.length/\∀x∈r.2.1,x.length<=400)/\∀m,cs.length-i<m->
   yo s uj cs m q v (i:Int)=some r/\yx s cs m q v (i:Int)=some r:=by
 have nil:([]:azz).length<=3/\(∀p∈([]:azz),jP p)/\([]:azb).length<=cs.length/\∀x∈([]:azb),x.length<=400:=⟨by simp,(λp ax=>by cases ax),by simp,λp ax=>by cases ax⟩
 refine down cs.length ?_ ?_
 .intro q v cE p4 Un;obtain⟨f1,f2⟩:=Ul h aF cE;refine⟨(q,v,0),⟨f1,f2,p4,Un⟩,λm hm=>?_⟩;obtain⟨m,rfl⟩:∃j,m=j+1:=⟨m-1,by omega⟩
  simp only[yo,GF,yx,Hb];rw[eh (Nat.le_refl _)];exact⟨rfl,rfl⟩
 .intro i ai ih q v cE p4 Un;obtain⟨lM,S,b,m1,m2,m3⟩:=awO h aF cE;have qM:∀m,cs.length-i<m->∃j,m=j+1:=λm hm=>⟨m-1,by omega⟩
  cases b
  .refine⟨([],[],5),nil,λm hm=>?_⟩;obtain⟨m,rfl⟩:=qM m hm;simp only[yo,GF,yx,Hb];rw[ev ai,m1,m2,dX _ i ai];exact⟨rfl,rfl⟩
  .obtain⟨rfl,ay1,hg⟩:=m3 rfl;obtain⟨aR,aW⟩:=au _ (List.getElem_mem ai);have aq:ts cs[i] (S.length:Int)=some (decide (0<=cs[i])&&decide (cs[i]<=(S.length:Int)-1)):=by
    unfold ts kX;rw[eE _ (by omega)];rfl
   have hy:k8 cs[i] 0 (i64.wrap ((S.length:Int)-1))=some (decide (0<=cs[i])&&decide (cs[i]<=(S.length:Int)-1)):=by
    unfold k8;rw[eE _ (by omega)]
   cases ab:(decide (0<=cs[i])&&decide (cs[i]<=(S.length:Int)-1))
   .refine⟨([],[],2),nil,λm hm=>?_⟩;obtain⟨m,rfl⟩:=qM m hm;simp only[yo,GF,yx,Hb];rw[ev ai,m1,m2,dX _ i ai];simp only[cond_true,bind_some,Bool.not_true,cond_false,aq,hy,ab,Bool.not_false];constructor<;>trivial
   .have acW:=ab;simp only[Bool.and_eq_true,decide_eq_true_eq]at acW;have acX:cs[i].toNat<S.length:=by omega
    have awU:bj S cs[i]=some S[cs[i].toNat]:=by
     have:=dX S cs[i].toNat acX
     rwa [Int.toNat_of_nonneg acW.1]at this
    obtain⟨g1,g2⟩:=hg _ (List.getElem_mem acX);obtain⟨r,aS,vX⟩:=ih S[cs[i].toNat].State (v++[S[cs[i].toNat].Label]) g2 (by simp only[List.length_append,List.length_cons,List.length_nil];omega) (λx aq=>by
     rcases List.mem_append.1 aq with aq|aq
     .exact Un x aq
     .rw[List.mem_singleton]at aq;rw[aq];exact g1.y0.1)
    refine⟨r,aS,λm hm=>?_⟩;obtain⟨m,rfl⟩:=qM m hm;simp only[yo,GF,yx,Hb];rw[ev ai,m1,m2,dX _ i ai,et i _ ai (by omega)];simp only[cond_true,bind_some,Bool.not_true,cond_false,aq,hy,ab,awU];rw[lJ (by omega) (by omega)];simp only[bind_some];exact vX m (by omega)
theorem awV (s:cL) (h:sK s) (q:azz) (cE:q.length<=1048576) (aF:∀p∈q,p.bK.length<=1048576) (cs:aze) (hl:cs.length<=1048576) (au:∀c∈cs,-9223372036854775808<=c/\c<=9223372036854775807):
  ∃r:azz×azb×Int,Ko s q cs=some r/\Hc s q cs=some r/\r.1.length<=3/\(∀p∈r.1,jP p)/\r.2.1.length<=cs.length/\∀x∈r.2.1,x.length<=400:=by
 obtain⟨b,hG,fP,gj⟩:=awS s h q cE aF;unfold Ko Hc;rw[hG,fP];cases b
 .exact⟨([],[],1),rfl,rfl,by simp,(λp ax=>by cases ax),by simp,λp ax=>by cases ax⟩
 .obtain⟨cx,c2⟩:=gj rfl;have aa:=awR h cx aF c2;obtain⟨f1,f2⟩:=Ul h cx aa;obtain⟨pC,mX⟩:=Bq (show q.length<=100 by omega) f2;simp only[bind_some,Bool.not_true,cond_false,cond_true,bne_self_eq_false];rw[pC,mX];simp only[bind_some];obtain⟨r,aS,vX⟩:=awT s h cx q cs hl au 0 (by omega) q [] aa (by simp) (λx aq=>by cases aq);exact⟨r,e5 (cs.length+1) λm hm=>(vX m (by omega)).1,e5 (cs.length+1) λm hm=>(vX m (by omega)).2,aS⟩
theorem awW (x:azb) (hl:x.length<=1048576):vt x x=some true:=by
 unfold vt;rw[vA,cond_false];exact S_ x (λ_ _=>rfl) w9 hl
theorem asL (a:o2) (q:azt) (cs:aze) (bo:FZ a) (cE:q.length<=9223372036854775807/\∀y∈q,Cd y) (ib:cs.length<=9223372036854775807/\∀y∈cs,(-9223372036854775808<=y/\y<=9223372036854775807)):Rp a q cs=some true:=by
 unfold Rp;by_cases hl:cs.length<=1048576
 .rw[show decide ((1048576:Int)<(cs.length:Int))=false from decide_eq_false (by omega),cond_false];obtain⟨r,ad,ag⟩:=awe a bo;rw[ad];simp only[bind_some];cases aS:decide (r<0)
  .obtain⟨aD,bh,b1,du,di⟩:=ag aS;rw[aua q r cE di (by omega)];simp only[cond_false,bind_some];by_cases aa:((eg rm q:Nat):Int)<=r
   .rw[H6 aa];have eN:decide (r-((eg rm q:Nat):Int)<0)=false:=decide_eq_false (by omega);have uE:eg rm q<=1048576:=by omega
    have cf:tV (vD a)<=1048576:=by rw[abN];omega
    have FP:eg l6 (q.map vE)<=1048576:=by
     rw[A4];simp only[aur];exact uE
    have acY:(q.map vE).length<=1048576:=Nat.le_trans (kd l6 _) FP;have aF:∀p∈q.map vE,p.bK.length<=1048576:=λp ax=>by
     have hi:l6 p<=eg l6 (q.map vE):=nn ax;have iV:l6 p<=1048576:=by omega
     clear hi;unfold l6 at iV;omega
    rw[eN,aD,aut q uE,Tt cs (by omega)];simp only[cond_false,bind_some];generalize vD a=s at bh b1 cf;generalize q.map vE=p at FP acY aF;obtain⟨v,v1,v2,v3,v4,v5,v6⟩:=awV s b1 p acY aF cs hl ib.2;have ax:eg l6 v.1<=1048576:=by
     have:=T0 (f:=l6) (B:=80) v.1 λp ax=>by
      have:=(v4 p ax).kv.1;unfold l6;omega
     unfold eg;omega
    have bb:eg List.length v.2.1<=500000000:=by
     have:=T0 (f:=List.length) (B:=400) v.2.1 v6;unfold eg;omega
    obtain⟨gm,fy,gk,na,tK,c,cx,m1⟩:=auO s 1 (by omega) (by omega);obtain⟨z,d,d1,m2,_⟩:=abQ p (1+(c:Int)) (by omega) (by omega);obtain⟨z2,d2,d3,m3,_⟩:=Tv cs (1+(c:Int)+(d:Int)) (by omega) (by omega);obtain⟨w,f,f1,m4,m5⟩:=abQ v.1 1 (by omega) (by omega);obtain⟨u,g,g1,m6,m7⟩:=Tw v.2.1 (1+(f:Int)) (by omega) (by omega);simp only[v1,v2,bind_some,bh,abO _ ax,abO _ FP,awW v.2.1 (by omega),Tu cs (by omega),m1,m2,m3,m4,m5,m6,m7,bne_self_eq_false,Bool.or_self,cond_false,Bool.not_true,L1 (k:=1+(c:Int)+(d:Int)+(d2:Int)) (by omega),L1 (k:=1+(f:Int)) (by omega),L1 (k:=1+(f:Int)+(g:Int)) (by omega)]
   .rw[H7 (by omega)];rfl
  .rfl
 .rw[show decide ((1048576:Int)<(cs.length:Int))=true from decide_eq_true (by omega),cond_true]
end Go.k6
