/- Part of a proof that a law returns true for every input. No condition. -/
import Derived.Test.YtmaepbgkcmjcjajGreatDoorUV7x
import Derived.Test.YtmaepbgkcmjcjajGreatDoorUV0x
import Derived.Test.YtmaepbgkcmjcjajGreatDoorUV6x
import Derived.Test.YtmaepbgkcmjcjajGreatDoorUV1x
import Derived.Test.YtmaepbgkcmjcjajGreatDoorUV3x
namespace Go.ld
open Option Go.IntKind Nat Or
open Go Go.ep
theorem awW {s:cY} {q:azO} (c6:q.length<=3) {al:azB} {i0:Nat} (a_:i0<q.length) (hl:al.length=i0) (aa:∀i (h:i<q.length),i<i0->uO s.cI q[i]=some (al.getD i [],true)) (bK:∃S,uO s.cI q[i0]=some (S,false)):
  ∀i,i<=i0->∀m,i0-i<m->wy q s.cI s.b0 s.cb s.cD s.cA m (al.take i) (i:Int)=some ([],false):=by
 refine down i0 ?_ ?_
 .intro m hm;obtain⟨m,rfl⟩:∃j,m=j+1:=⟨m-1,by omega⟩
  obtain⟨S,e⟩:=bK;simp only[wy,Gq];rw[el a_,cond_true,dX q i0 a_,bind_some,e];rfl
 .intro i ai ih m hm;obtain⟨m,rfl⟩:∃j,m=j+1:=⟨m-1,by omega⟩
  simp only[wy,Gq];rw[el (show i<q.length by omega),cond_true,dX q i (by omega),bind_some,aa i (by omega) ai,bind_some];have nf:i<al.length:=by omega
  have e:al.getD i []=al[i]:=by simp[List.getD,nf]
  simp only[Bool.not_true,cond_false,e];rw[kO (by simp;omega) (by simp;omega),bind_some,<-List.take_succ_eq_append_getElem nf,ek i q.length (by omega) (by omega)];exact ih m (by omega)
theorem awX {s:cY} {q:azO} {al:azB} (H:tY s q al) {i0:Nat} (a_:i0<q.length) (aa:∀i (h:i<q.length),i<i0->u7 s.cI q[i]=some (al.getD i [],true)) (bK:∃S,u7 s.cI q[i0]=some (S,false)):
  ∀i,i<=i0->∀(p:azP×Seen) m,p.1.length+200*(i0-i)<=1000->i0-i<m->qh s q m s q p.1 p.2 (al.take i) (i:Int)=some ([],false):=by
 have aG:=H.pd;refine down i0 ?_ ?_
 .intro p m ay hm;obtain⟨m,rfl⟩:∃j,m=j+1:=⟨m-1,by omega⟩
  obtain⟨S,e⟩:=bK;simp only[qh,GR];rw[el a_,cond_true,dX q i0 a_,bind_some,e];rfl
 .intro i ai ih p m ay hm;obtain⟨m,rfl⟩:∃j,m=j+1:=⟨m-1,by omega⟩
  have Ig:i<q.length:=by omega
  obtain⟨nf,iP,li,t_⟩:=H.at Ig;simp only[qh,GR];rw[el Ig,cond_true,dX q i Ig,bind_some,aa i Ig ai,bind_some,iP];simp only[Bool.not_true,cond_false];rw[kO (by simp;omega) (by simp;omega),bind_some,<-List.take_succ_eq_append_getElem nf];have iO:b3 (λn=>yr (qh s q m) s q (al[i],true) n s q p.1 p.2 (al.take (i+1)) (i:Int) (i:Int) 0)=
    qh s q m s q ((lS s q i al[i]).foldl iE p).1 ((lS s q i al[i]).foldl iE p).2 (al.take (i+1)) ((i+1:Nat):Int):=
   e5 (al[i].length+1) λm2 q5=>acJ H _ _ Ig li t_ 0 (by omega) p m2 (by omega) (by omega)
  have bZ:=Bl (lS s q i al[i]) p;have dY:=Mx (s:=s) (q:=q) i al[i];rw[iO];exact ih _ m (by omega) (by omega)
theorem awY {s:cY} {q:azO} {al:azB} {V:ba->Prop} (c6:∀p∈q,V p) (cn:∀l∈al,∀x∈l,V x.Next):∀m∈one s q al 0++two s q al 0,∀p∈m.State,V p:=by
 have aq:∀i,∀x∈al.getD i [],V x.Next:=λi x ao=>by
  rw[List.getD_eq_getElem?_getD]at ao;cases h:al[i]? with
  |none=>rw[h]at ao;cases ao
  |some l=>
   rw[h]at ao;obtain⟨ai,rfl⟩:=List.getElem?_eq_some_iff.1 h;exact cn _ (List.getElem_mem ai) x ao
 have set:∀(l:azO) (i:Nat) (x:ba),(∀p∈l,V p)->V x->∀p∈l.set i x,V p:=λl i x hl ao p ay=>by
  rcases List.mem_or_eq_of_mem_set ay with ad|rfl
  .exact hl p ad
  .exact ao
 intro m hm;rcases List.mem_append.1 hm with hm|hm
 .obtain⟨i,_,hm⟩:=List.mem_flatMap.1 hm;obtain⟨x,ao,hm⟩:=List.mem_flatMap.1 hm;unfold ct at hm;split at hm
  .rw[List.mem_singleton]at hm;subst hm;exact set _ _ _ c6 (aq i x ao)
  .cases hm
 .obtain⟨i,_,hm⟩:=List.mem_flatMap.1 hm;obtain⟨k,_,hm⟩:=List.mem_flatMap.1 hm;obtain⟨x,ao,hm⟩:=List.mem_flatMap.1 hm;obtain⟨y,hy,hm⟩:=List.mem_flatMap.1 hm;unfold c2 at hm;split at hm
  .rw[List.mem_singleton]at hm;subst hm;exact set _ _ _ (set _ _ _ c6 (aq i x ao)) (aq k y hy)
  .cases hm
theorem T7:∀(l o:azP),∀x∈l.foldl hO o,x∈o\/x∈l
 |[],_,_,ao=>.inl ao
 |s::r,o,x,ao=>(T7 r _ x ao).elim (λh=>(Ia h).elim .inl λe=>.inr (by rw[e];simp)) λh=>.inr (List.mem_cons_of_mem _ h)
def Ei (s:cY) (q:azO):Prop:=q.length=s.b0.length/\∀p∈q,yW s.cI p
theorem acL {s:cY} (h:tX s) (aJ:(l8 s==0)=true) {q:azO} (aa:Ei s q):q.length<=3/\∀p∈q,jx p:=by
 have aq:=TY aJ;have au:s.b0.length<=3:=by
  have au:q3 s=true:=by
   cases au:q3 s
   .unfold l8 at aJ;rw[au]at aJ;revert aJ;cases nM s.cI<;>simp
   .rfl
  unfold q3 at au;simp only[Bool.and_eq_true,decide_eq_true_eq]at au;exact au.1.2
 have hl:=aa.1;refine⟨by omega,λp T8=>?_⟩;obtain⟨i,ai,j,aP,aW,bQ,kx,iO⟩:=aa.2 p T8;have avX:s.cI[i].Body.length<=20:=(xi ((A7 h.1 aq).2.2 i ai).2.1).2.2;have bh:s.cI.length<=4:=(A7 h.1 aq).2.1;have P:=(H5 h.1 aq ai bQ).Tx;exact⟨⟨i,by omega,aP⟩,⟨j,by omega,aW⟩,by omega,iO⟩
theorem awZ {s:cY} (h:tX s) (aJ:(l8 s==0)=true) {q:azO} (aa:Ei s q):
  ∃(lR S:azP) (b:Bool),KZ s q=some (lR,b)/\Ke s.cI s.b0 s.cb s.cD s.cA q=some (S,b)/\(b=true->S=lR/\lR.length<=200/\∀m∈lR,jk q.length m/\Ei s m.State):=by
 obtain⟨aG,hg⟩:=acL h aJ aa;have ay:=aa.2;have aq:=TY aJ;have aw0:=λp (T8:p∈q)=>avU h.1 aq (ay p T8);have key:∀l:azO,(∀p∈l,p∈q)->(∃al:azB,al.length=l.length/\(∀x∈al,x.length<=200/\∀y∈x,fR y/\yW s.cI y.Next)/\∀i (ai:i<l.length),u7 s.cI l[i]=some (al.getD i [],true)/\uO s.cI l[i]=some (al.getD i [],true))\/
   ∃(i0:Nat) (Ih:i0<l.length) (al:azB),al.length=i0/\(∀x∈al,x.length<=200/\∀y∈x,fR y/\yW s.cI y.Next)/\(∀i (ai:i<l.length),i<i0->u7 s.cI l[i]=some (al.getD i [],true)/\uO s.cI l[i]=some (al.getD i [],true))/\
    (∃S,u7 s.cI l[i0]=some (S,false))/\∃S,uO s.cI l[i0]=some (S,false):=by
  intro l;induction l with
  |nil=>intro _;exact .inl ⟨[],rfl,λx ao=>(by cases ao),λi ai=>absurd ai (not_lt_zero i)⟩
  |cons p l ih=>
   intro hl;obtain⟨lR,S,b,J,a2,a3⟩:=aw0 p (hl p (by simp));cases b
   .exact .inr ⟨0,by simp,[],rfl,λx ao=>(by cases ao),λi _ ai=>absurd ai (not_lt_zero i),⟨lR,J⟩,⟨S,a2⟩⟩
   .obtain⟨rfl,a4,a5⟩:=a3 rfl;rcases ih λx ao=>hl x (List.mem_cons_of_mem _ ao)with⟨al,h3,fZ,f_⟩|⟨i0,Ih,al,h3,fZ,f_,bw,dR⟩
    .refine .inl ⟨S::al,by simp[h3],λx ao=>?_,λi ai=>?_⟩
     .rcases List.mem_cons.1 ao with rfl|ao
      .exact⟨a4,a5⟩
      .exact fZ x ao
     .cases i with
      |zero=>exact⟨J,a2⟩
      |succ i=>simpa using f_ i (by simpa using ai)
    .refine .inr ⟨i0+1,by simpa using Ih,S::al,by simp[h3],λx ao=>?_,λi ai eQ=>?_,by simpa using bw,by simpa using dR⟩
     .rcases List.mem_cons.1 ao with rfl|ao
      .exact⟨a4,a5⟩
      .exact fZ x ao
     .cases i with
      |zero=>exact⟨J,a2⟩
      |succ i=>simpa using f_ i (by simpa using ai) (by omega)
 rcases key q λ_ h=>h with⟨al,h3,fZ,f_⟩|⟨i0,Ih,al,h3,fZ,f_,bw,dR⟩
 .have H:tY s q al:=⟨aJ,⟨h.2.2.1.1,h.2.2.2.1.1,h.2.2.2.2.1⟩,aG,hg,h3,λl hl=>⟨(fZ l hl).1,λx ao=>((fZ l hl).2 x ao).1⟩⟩
  have Ed:KZ s q=some (((two s q al 0).foldl iE ((one s q al 0).foldl iE ([],[]))).1,decide (((((two s q al 0).foldl iE ((one s q al 0).foldl iE ([],[]))).1).length:Int)<=200)):=
   e5 (q.length+1) λm hm=>awU H (λi ai=>(f_ i ai).1) 0 (by omega) ([],[]) m (by simp;omega) (by omega)
  have cn:Ke s.cI s.b0 s.cb s.cD s.cA q=some ((two s q al 0).foldl jc ((one s q al 0).foldl hO []),decide ((((two s q al 0).foldl jc ((one s q al 0).foldl hO [])).length:Int)<=200)):=
   e5 (q.length+1) λm hm=>awV H (λi ai=>(f_ i ai).2) 0 (by omega) m (by omega)
  have mC:∀x∈one s q al 0++two s q al 0,jk q.length x:=λx ao=>(List.mem_append.1 ao).elim (H.gone x) (H.acG x);have aP:((two s q al 0).foldl iE ((one s q al 0).foldl iE ([],[]))).1=(two s q al 0).foldl hO ((one s q al 0).foldl hO []):=by
   rw[<-List.foldl_append,<-List.foldl_append];exact TS (G:=jk q.length) awa _ [] [] mC (λx ao=>by cases ao) (λx _=>by simp[kh])
  rw[aP]at Ed;have tW:∀x∈(two s q al 0).foldl hO ((one s q al 0).foldl hO []),jk q.length x:=Mv _ _ (Mv _ _ (λx ao=>by cases ao) H.gone) H.acG;have yP:=awY (s:=s) (V:=yW s.cI) ay (λl hl x ao=>((fZ l hl).2 x ao).2);have tW:∀x∈(two s q al 0).foldl hO ((one s q al 0).foldl hO []),jk q.length x/\Ei s x.State:=λx ao=>
   ⟨tW x ao,(tW x ao).st.1.trans aa.1,(yP x (List.mem_append.2 ((T7 _ _ x ao).elim (λh=>(T7 _ _ x h).elim (λh=>by cases h) .inl) .inr)))⟩
  obtain⟨ct,c2⟩:=acj (two s q al 0) ((one s q al 0).foldl hO []);generalize (two s q al 0).foldl hO ((one s q al 0).foldl hO [])=lR at Ed ct c2 tW;by_cases hl:lR.length<=200
  .rw[ct hl]at cn;exact⟨lR,lR,_,Ed,cn,λ_=>⟨rfl,hl,tW⟩⟩
  .have:=c2 (by omega);generalize (two s q al 0).foldl jc ((one s q al 0).foldl hO [])=kk at cn this;refine⟨lR,kk,false,?_,?_,λh=>by cases h⟩
   .rw[Ed,show decide ((lR.length:Int)<=200)=false from decide_eq_false (by omega)]
   .rw[cn,show decide ((kk.length:Int)<=200)=false from decide_eq_false (by omega)]
 .let Ii:=al++List.replicate (q.length-i0) ([]:azQ)
  have hlen:Ii.length=q.length:=by simp[Ii,h3];omega
  have ru:∀i,i<i0->Ii.getD i []=al.getD i []:=λi ai=>by
   simp only[Ii,List.getD];rw[List.getElem?_append_left (by omega)]
  have H:tY s q Ii:=⟨aJ,⟨h.2.2.1.1,h.2.2.2.1.1,h.2.2.2.2.1⟩,aG,hg,hlen,λx ao=>by
   rcases List.mem_append.1 ao with ao|ao
   .exact⟨(fZ x ao).1,λy hy=>((fZ x ao).2 y hy).1⟩
   .rw[(List.mem_replicate.1 ao).2];exact⟨by simp,λy hy=>by cases hy⟩⟩
  refine⟨[],[],false,?_,?_,λh=>by cases h⟩
  .exact e5 (q.length+1) λm hm=>awX H Ih (λi ai eQ=>by rw[ru i eQ];exact(f_ i ai eQ).1) bw 0 (by omega) ([],[]) m (by simp;omega) (by omega)
  .exact e5 (q.length+1) λm hm=>awW aG Ih h3 (λi ai eQ=>(f_ i ai eQ).2) dR 0 (by omega) m (by omega)
def sC (cs:azL):azO:=cs.map λc=>ba.mk c.cJ 0 c.b5
theorem aw1 (v:azs) (h:v.length<=1048576):wi v=some v:=by unfold wi;rw[kO (by omega) (by omega)];rfl
theorem aw2 (v:azs) (h:v.length<=1048576):wF v=some v:=by
 unfold wF;rw[kO (by omega) (by omega)];cases v with
 |nil=>exact acW _
 |cons x r=>rfl
section
variable {s:cY} (hl:s.b0.length<=1048576) (aJ:∀c∈s.b0,c.b5.length<=1048576)
include hl aJ
theorem aw3:J1 s=some (sC s.b0):=by
 unfold J1;have key:∀i,i<=s.b0.length->∀(v:azO) m,v.length<=i->s.b0.length-i<m->Cm s m v (i:Int)=some (v++sC (s.b0.drop i)):=by
  refine down s.b0.length ?_ ?_
  .intro v m nc hm;obtain⟨m,rfl⟩:∃j,m=j+1:=⟨m-1,by omega⟩
   simp only[Cm,PF];rw[ei (Nat.le_refl _),List.drop_of_length_le (Nat.le_refl _)];simp[sC]
  .intro i ai ih v m nc hm;obtain⟨m,rfl⟩:∃j,m=j+1:=⟨m-1,by omega⟩
   simp only[Cm,PF];rw[el ai,dX _ i ai,ek i _ ai (by omega)];simp only[cond_true,bind_some];rw[aw1 _ (aJ _ (List.getElem_mem ai)),kO (by omega) (by omega)];simp only[bind_some];rw[ih _ m (by simp only[List.length_append,List.length_cons,List.length_nil];omega) (by omega),drop_cons _ i ai];simp only[sC,List.map_cons,List.append_assoc,List.cons_append,List.nil_append]
 refine e5 (s.b0.length+1) λm hm=>?_;have:=key 0 (by omega) [] m (by simp) (by omega);simpa using this
theorem aw4:KP s=some (sC s.b0):=by
 unfold KP;have key:∀i,i<=s.b0.length->∀(v:azO) m,v.length<=i->s.b0.length-i<m->C0 s m v (i:Int)=some (v++sC (s.b0.drop i)):=by
  refine down s.b0.length ?_ ?_
  .intro v m nc hm;obtain⟨m,rfl⟩:∃j,m=j+1:=⟨m-1,by omega⟩
   simp only[C0,QE];rw[ei (Nat.le_refl _),List.drop_of_length_le (Nat.le_refl _)];simp[sC]
  .intro i ai ih v m nc hm;obtain⟨m,rfl⟩:∃j,m=j+1:=⟨m-1,by omega⟩
   simp only[C0,QE];rw[el ai,dX _ i ai,ek i _ ai (by omega)];simp only[cond_true,bind_some];rw[aw2 _ (aJ _ (List.getElem_mem ai)),kO (by omega) (by omega)];simp only[bind_some];rw[ih _ m (by simp only[List.length_append,List.length_cons,List.length_nil];omega) (by omega),drop_cons _ i ai];simp only[sC,List.map_cons,List.append_assoc,List.cons_append,List.nil_append]
 refine e5 (s.b0.length+1) λm hm=>?_;have:=key 0 (by omega) [] m (by simp) (by omega);simpa using this
end
theorem acM (ws:azp):o_ ws=(tJ ws&&(l6 ws).all pS):=by
 unfold o_ tJ l6;rw[List.all_map];induction ws with
 |nil=>rfl
 |cons w r ih=>simp only[List.all_cons,ih,Function.comp];cases(jv w).2<;>cases pS (jv w).1<;>simp
theorem aw5 (ws:azp) (h:o_ ws=true):(l6 ws).map jV=ws:=by
 unfold l6;rw[List.map_map];conv=>rhs;rw[<-List.map_id ws]
 refine List.map_congr_left λw hw=>?_;simp only[o_,List.all_eq_true,Bool.and_eq_true]at h;have:=h w hw;simp only[pS,Bool.and_eq_true,decide_eq_true_eq]at this;simp only[Function.comp,id,jV];exact(atn (Prod.ext rfl this.1) this.2.1 this.2.2).symm
theorem acN (p q fA:azq) (ay:40∉p) (aa:(p++40::q).length<=1048576) (a_:strings_TrimSuffix q [41]=some fA) (My:fA.length<=1048576):
  Af (p++40::q)=some (vv p&&(o_ (fV 44 fA)&&decide ((fV 44 fA).length<=2))&&(((p++[40])++fA)++[41]==p++40::q)):=by
 have hlen:=L6 44 fA;have Tj:fA.count 44<=fA.length:=List.count_le_length;have hl:=aa;simp only[List.length_append,List.length_cons]at hl;have ok:∀n,n<=4194304->il n=some ():=λn aX=>by unfold il;rw[if_pos (by omega)]
 unfold Af u4;rw[aaM p q ay aa];simp only[bind_some,cond_true];rw[a_,bind_some,aaQ 44 fA My,bind_some,aa6 _ (by omega),acM];by_cases aX:tJ (fV 44 fA)=true
 .rw[if_pos aX,aX];simp only[bind_some,Bool.not_true,cond_false,Bool.true_and];have nc:(l6 (fV 44 fA)).length=fA.count 44+1:=by unfold l6;rw[List.length_map,hlen]
  unfold Ae wE;by_cases a8:p=[116,97,117]
  .have fY:(((l6 (fV 44 fA)).length:Int)==0)=false:=by rw[nc];simp;omega
   subst a8;simp only[BEq.rfl,cond_true,fY,bind_some,Bool.not_false,Bool.true_or];rfl
  .have aW:(p==[116,97,117])=false:=by simpa using a8
   rw[aW,aa5 p (by omega)];simp only[cond_false,bind_some];by_cases bq:vv p=true
   .rw[bq];simp only[Bool.not_true,cond_false,Bool.true_and];by_cases af:(fV 44 fA).length<=2
    .have aS:decide ((2:Int)<((l6 (fV 44 fA)).length:Int))=false:=by rw[nc];simp;omega
     have cf:decide ((fV 44 fA).length<=2)=true:=by simpa using af
     rw[aS,cf,aa9 _ (by omega)];simp only[cond_false,bind_some,Bool.and_true];by_cases aJ:(l6 (fV 44 fA)).all pS=true
     .have cF:(((l6 (fV 44 fA)).length:Int)==0)=false:=by rw[nc];simp;omega
      have mC:o_ (fV 44 fA)=true:=by rw[acM,aX,aJ];rfl
      rw[aJ,cF];simp only[Bool.not_true,cond_false,Bool.true_and];rw[Tc _ (by omega) (λx ao=>by
       have:=List.all_eq_true.1 aJ x ao;simpa only[pS,Bool.and_eq_true,decide_eq_true_eq]using this),aw5 _ mC,aaG]
      rw[ok _ (by omega),bind_some,bind_some,ok _ (by simp;omega),bind_some,ok _ (by simp;omega),bind_some,bind_some];cases(((p++[40])++fA)++[41]==p++40::q)<;>rfl
     .have oh:(l6 (fV 44 fA)).all pS=false:=by simpa using aJ
      rw[oh];rfl
    .have aS:decide ((2:Int)<((l6 (fV 44 fA)).length:Int))=true:=by rw[nc];simp;omega
     have cf:decide ((fV 44 fA).length<=2)=false:=by simpa using af
     rw[aS,cf];simp
   .have vR:vv p=false:=by simpa using bq
    rw[vR];rfl
 .have uo:tJ (fV 44 fA)=false:=by simpa using aX
  rw[if_neg aX,uo];simp
theorem acO (p q:azq) (x:UInt8) (ay:40∉p) (r:azq) (e:p++40::q=r++[x]) (aa:(p++40::q).length<=1048576):
  bj (p++40::q) (i64.wrap (((p++40::q).length:Int)-1))=some x:=by
 rw[e,eC _ (by rw[<-e];omega),show(((r++[x]).length:Int)-1)=(r.length:Int) by simp];exact S5 r x []
theorem aw6 (p fA:azq) (ay:40∉p) (aa:(p++40::(fA++[41])).length<=1048576):
  uL (p++40::(fA++[41]))=some (vv p&&(o_ (fV 44 fA)&&decide ((fV 44 fA).length<=2))):=by
 have hl:=aa;simp only[List.length_append,List.length_cons,List.length_nil]at hl;have hlen:=L6 44 fA;have Tj:fA.count 44<=fA.length:=List.count_le_length;have hw:∀w∈fV 44 fA,w.length<=1048576:=by
  have key:∀s:azq,∀w∈fV 44 s,w.length<=s.length:=by
   intro s;induction s with
   |nil=>intro w hw;simp[fV]at hw;subst hw;exact Nat.le_refl _
   |cons x r ih=>
    intro w hw;simp only[fV]at hw;split at hw
    .rcases List.mem_cons.1 hw with rfl|hw
     .simp
     .exact Nat.le_trans (ih w hw) (by simp)
    .cases aR:fV 44 r with
     |nil=>exact(DY 44 r aR).elim
     |cons a t=>
      rw[aR]at hw ih;simp only[glue]at hw;rcases List.mem_cons.1 hw with rfl|hw
      .have:=ih a (by simp);simp;omega
      .exact Nat.le_trans (ih w (by simp[hw])) (by simp)
  intro w hw;have:=key fA w hw;omega
 unfold uL s_;rw[(yM _ aa).2 p _ rfl ay];have aP:(((p.length:Nat):Int)==((p++40::(fA++[41])).length:Int))=false:=by simp;omega
 simp only[bind_some,aP,cond_false];rw[tH _ _ (by simp),List.take_left' rfl,bind_some,aa4,bind_some];rw[acO p (fA++[41]) 41 ay (p++40::fA) (by simp) aa,bind_some];have aW:((((41:UInt8).toNat:Nat):Int) !=41)=false:=rfl;have aS:gG (p++40::(fA++[41])) (i64.wrap ((p.length:Int)+1)) (i64.wrap (((p++40::(fA++[41])).length:Int)-1))=some fA:=by
  rw[eC _ (by omega),eC _ (by omega)];have:=DX (p++[40]) fA [41] (i:=(p.length:Int)+1) (j:=(((p++40::(fA++[41])).length:Int)-1)) (by simp) (by simp;omega);simpa using this
 rw[aW,cond_false,aS,bind_some,aaR 44 fA (by omega),bind_some,aa7 _ (by omega) hw];cases vv p<;>rfl
theorem aw7 (p q:azq) (ay:40∉p) (aa:(p++40::q).length<=1048576) (h:∀r,q≠r++[41]):uL (p++40::q)=some false:=by
 have hl:=aa;simp only[List.length_append,List.length_cons]at hl;unfold uL s_;rw[(yM _ aa).2 p _ rfl ay];have aP:(((p.length:Nat):Int)==((p++40::q).length:Int))=false:=by simp;omega
 simp only[bind_some,aP,cond_false];rw[tH _ _ (by simp),List.take_left' rfl,bind_some,aa4,bind_some];obtain⟨r,x,e,ao⟩:∃r x,p++40::q=r++[x]/\x≠41:=by
  rcases List.eq_nil_or_concat q with rfl|⟨kR,x,rfl⟩
  .exact⟨p,40,rfl,by decide⟩
  .refine⟨p++40::kR,x,by simp,?_⟩;rintro rfl;exact h kR (by simp)
 rw[acO p q x ay r e aa,bind_some];have aW:((x.toNat:Int) !=41)=true:=by
  simp only[bne_iff_ne,ne_eq];intro bI;exact ao (UInt8.toNat_inj.1 (by rw[show(41:UInt8).toNat=41 from rfl];omega))
 rw[aW];cases vv p<;>rfl
noncomputable def Mz (s:azq):Bool:=(uL s).getD false
theorem aw8 (s:azq) (aa:s.length<=1048576):uL s=some (Mz s)/\Af s=some (Mz s):=by
 suffices h:∃b,uL s=some b/\Af s=some b by
  obtain⟨b,ad,af⟩:=h;unfold Mz;rw[ad,af];exact⟨rfl,rfl⟩
 by_cases hm:40∈s
 .obtain⟨p,q,rfl,ay⟩:=S2 hm;have hl:=aa;simp only[List.length_append,List.length_cons]at hl;by_cases c6:∃r,q=r++[41]
  .obtain⟨fA,rfl⟩:=c6;have My:fA.length<=1048576:=by simp at hl;omega
   refine⟨_,aw6 p fA ay aa,?_⟩;rw[acN p _ fA ay aa (aaN fA My) My];have:(((p++[40])++fA)++[41]==p++40::(fA++[41]))=true:=by simp
   rw[this,Bool.and_true]
  .have acP:∀r,q≠r++[41]:=λr e=>c6 ⟨r,e⟩;refine⟨false,aw7 p q ay aa acP,?_⟩;rw[acN p q q ay aa (atf q (by omega) acP) (by omega)];have:(((p++[40])++q)++[41]==p++40::q)=false:=by
    simp only[beq_eq_false_iff_ne,ne_eq];intro e;have:=congrArg List.length e;simp at this
   rw[this,Bool.and_false]
 .unfold uL s_ Af u4;rw[(yM s aa).1 hm,aaL hm,yL];have aP:((s.length:Int)==(s.length:Int))=true:=by simp
  simp only[bind_some,aP,cond_true,cond_false];refine⟨_,rfl,?_⟩;unfold Ae wE;by_cases a8:s=[116,97,117]
  .subst a8;rfl
  .have aW:(s==[116,97,117])=false:=by simpa using a8
   rw[aW,aa5 s aa];simp only[cond_false,bind_some];have aS:vv s=hk s:=by unfold vv;rw[aW];simp
   rw[aS];cases hk s
   .rfl
   .simp only[Bool.not_true,cond_false,List.length_nil];rw[aa9 [] (by simp)];simp
noncomputable def q6 (e:dC):Bool:=(decide (0<=e.Choice)&&decide (e.Choice<=199))&&((decide (0<=e.ef)&&decide (e.ef<=2))&&((decide (-1<=e.Second)&&decide (e.Second<=2))&&Mz e.Label))
theorem acQ (e:dC) (h:e.Label.length<=1048576):JZ e=some (q6 e)/\KN e=some (q6 e):=by
 obtain⟨ad,af⟩:=aw8 e.Label h;unfold JZ KN mr jG q6;rw[ad,af];simp only[bind_some];cases(decide (0<=e.Choice)&&decide (e.Choice<=199))<;>cases(decide (0<=e.ef)&&decide (e.ef<=2))<;>cases(decide (-1<=e.Second)&&decide (e.Second<=2))<;>exact⟨rfl,rfl⟩
theorem aw9 {e:dC} (h:q6 e=true):(0<=e.Choice/\e.Choice<=199)/\(0<=e.ef/\e.ef<=2)/\(-1<=e.Second/\e.Second<=2):=by
 simp only[q6,Bool.and_eq_true,decide_eq_true_eq]at h;omega
noncomputable def Ij (a:azN):Bool:=decide (a.length<=60)&&a.all q6
theorem aw_ (a:azN) (hl:a.length<=1048576) (h:∀e∈a,e.Label.length<=1048576):J0 a=some (Ij a)/\KO a=some (Ij a):=by
 unfold J0 KO Ij QD QC;rw[sc (n:=a.length) (l:=CZ a) (λi=> !q6 (a.getD i ⟨0,0,0,[]⟩)) (λm=>?_) (λi ai m=>?_)]
 .simp only[bind_some,vr,Bool.not_not];have aP:gq (λi=>q6 (a.getD i ⟨0,0,0,[]⟩)) a.length=a.all q6:=by
   rw[Bool.eq_iff_iff,n_,List.all_eq_true];constructor
   .intro q x ao;obtain⟨k,aw,rfl⟩:=List.mem_iff_getElem.1 ao;have:=q k aw;simpa [List.getD,aw]using this
   .intro q i ai;have:=q _ (List.getElem_mem ai);simpa [List.getD,ai]using this
  rw[aP];have aa:b3 (λn=>Cl a n 0)=some (a.all q6):=by
   rw[pQ (n:=a.length) (λi=>some ((a.drop i).all q6))]
   .simp
   .intro m;simp only[Cl,PE];rw[ei (Nat.le_refl _)];simp
   .intro i ai m ih;simp only[Cl,PE];rw[el ai,dX _ i ai,ek i _ ai (by omega),ih,drop_cons _ i ai];simp only[cond_true,bind_some,List.all_cons];rw[(acQ _ (h _ (List.getElem_mem ai))).1];simp only[bind_some];cases q6 a[i]<;>simp
  rw[aa];by_cases acR:a.length<=60
  .rw[show decide ((60:Int)<(a.length:Int))=false from decide_eq_false (by omega),show decide ((a.length:Int)<=60)=true from decide_eq_true (by omega),show decide (a.length<=60)=true from decide_eq_true acR];simp
  .rw[show decide ((60:Int)<(a.length:Int))=true from decide_eq_true (by omega),show decide ((a.length:Int)<=60)=false from decide_eq_false (by omega),show decide (a.length<=60)=false from decide_eq_false acR];exact⟨rfl,rfl⟩
 .simp only[CZ,QB];rw[ei (Nat.le_refl _)];rfl
 .simp only[CZ,QB,QA];rw[el ai,dX _ i ai,ek i _ ai (by omega)];simp only[cond_true,bind_some];rw[(acQ _ (h _ (List.getElem_mem ai))).2];have e:a.getD i ⟨0,0,0,[]⟩=a[i]:=by simp[List.getD,ai]
  rw[e];rfl
theorem axa {a:azs} (h:yT a=true):∀x∈a,fW x:=by
 intro x ao;simp only[yT,n_]at h;obtain⟨k,aw,rfl⟩:=List.mem_iff_getElem.1 ao;have:=h k aw;simp only[sg,Bool.and_eq_true,decide_eq_true_eq,List.getD_eq_getElem?_getD,List.getElem?_eq_getElem aw,getD_some]at this;exact this
theorem axb {s:cY} (h:tX s) (aJ:(l8 s==0)=true):Ei s (sC s.b0):=by
 have aq:=TY aJ;obtain⟨BA,aca,hg⟩:=A7 h.1 aq;have au:q3 s=true:=by
  cases au:q3 s
  .unfold l8 at aJ;rw[au]at aJ;revert aJ;cases nM s.cI<;>simp
  .rfl
 unfold q3 at au;simp only[Bool.and_eq_true,decide_eq_true_eq]at au;refine⟨by unfold sC;rw[List.length_map],λp ay=>?_⟩;unfold sC at ay;obtain⟨c,EK,rfl⟩:=List.mem_map.1 ay;obtain⟨k,aw,rfl⟩:=List.mem_iff_getElem.1 EK;have ad:=n_.1 au.2 k aw;have e:l7 s.b0 k=s.b0[k]:=by simp[l7,List.getD,aw]
 rw[e]at ad;unfold yY at ad;cases aR:(decide (0<=s.b0[k].cJ)&&decide (s.b0[k].cJ<=(s.cI.length:Int)-1))
 .rw[aR]at ad;cases ad
 rw[aR,cond_true,Bool.and_eq_true,beq_iff_eq]at ad;simp only[Bool.and_eq_true,decide_eq_true_eq]at aR;have ai:s.b0[k].cJ.toNat<s.cI.length:=by omega
 obtain⟨_,na,_⟩:=hg _ ai;obtain⟨t1,_,_⟩:=xi na;have ib:0<s.cI[s.b0[k].cJ.toNat].Body.length:=by
  have:=(sk t1).1;omega
 refine⟨s.b0[k].cJ.toNat,ai,0,(Int.toNat_of_nonneg aR.1).symm,rfl,ib,?_,axa ad.2⟩;rw[acb _ ib];simp only;rw[ad.1];simp[List.getD,ai]
theorem axc (s:cY) (h:tX s) (aJ:(l8 s==0)=true) (log:azN) (hl:log.length<=60) (he:∀e∈log,q6 e=true):
  ∃r:azO×Int,Kf s.cI s.b0 s.cb s.cD s.cA log=some r/\K0 s log=some r/\r.1.length<=3/\∀p∈r.1,jx p:=by
 have nil:([]:azO).length<=3/\∀p∈([]:azO),jx p:=⟨by simp,λp ay=>by cases ay⟩
 have key:∀i,i<=log.length->∀q,Ei s q->∃r:azO×Int,(r.1.length<=3/\∀p∈r.1,jx p)/\∀m,log.length-i<m->
   wz log s.cI s.b0 s.cb s.cD s.cA m q (i:Int)=some r/\wL s log m q (i:Int)=some r:=by
  refine down log.length ?_ ?_
  .intro q c6;refine⟨(q,0),acL h aJ c6,λm hm=>?_⟩;obtain⟨m,rfl⟩:∃j,m=j+1:=⟨m-1,by omega⟩
   simp only[wz,CN,wL,Dr];rw[ei (Nat.le_refl _)];exact⟨rfl,rfl⟩
  .intro i ai ih q c6;obtain⟨lR,S,b,m1,m2,m3⟩:=awZ h aJ c6;have p1:∀m,log.length-i<m->∃j,m=j+1:=λm hm=>⟨m-1,by omega⟩
   cases b
   .refine⟨([],5),nil,λm hm=>?_⟩;obtain⟨m,rfl⟩:=p1 m hm;simp only[wz,CN,wL,Dr];rw[el ai,m1,m2,dX _ i ai];exact⟨rfl,rfl⟩
   .obtain⟨rfl,azn,hg⟩:=m3 rfl;obtain⟨⟨aP,_⟩,_,_⟩:=aw9 (he _ (List.getElem_mem ai));have ao:wB log[i].Choice (S.length:Int)=some (decide (log[i].Choice<(S.length:Int))):=by
     unfold wB jG;rw[eC _ (by omega),decide_eq_true aP,Bool.true_and];simp only[bind_some,some.injEq,decide_eq_decide];omega
    by_cases au:log[i].Choice<(S.length:Int)
    .have acS:log[i].Choice.toNat<S.length:=by omega
     have acT:bj S log[i].Choice=some S[log[i].Choice.toNat]:=by
      have:=dX S log[i].Choice.toNat acS
      rwa [Int.toNat_of_nonneg aP]at this
     cases ab:((S[log[i].Choice.toNat].ef !=log[i].ef)||(S[log[i].Choice.toNat].Second !=log[i].Second))||(!(S[log[i].Choice.toNat].Label==log[i].Label))
     .obtain⟨r,aR,vT⟩:=ih S[log[i].Choice.toNat].State (hg _ (List.getElem_mem acS)).2;refine⟨r,aR,λm hm=>?_⟩;obtain⟨m,rfl⟩:=p1 m hm;simp only[wz,CN,wL,Dr];rw[el ai,m1,m2,dX _ i ai,ek i _ ai (by omega)];simp only[cond_true,bind_some,Bool.not_true,cond_false,ao,decide_eq_true au,decide_eq_false (show¬(S.length:Int)<=log[i].Choice by omega),acT,ab];exact vT m (by omega)
     .refine⟨([],9),nil,λm hm=>?_⟩;obtain⟨m,rfl⟩:=p1 m hm;simp only[wz,CN,wL,Dr];rw[el ai,m1,m2,dX _ i ai];simp only[cond_true,bind_some,Bool.not_true,cond_false,ao,decide_eq_true au,decide_eq_false (show¬(S.length:Int)<=log[i].Choice by omega),acT,ab];constructor<;>trivial
    .refine⟨([],9),nil,λm hm=>?_⟩;obtain⟨m,rfl⟩:=p1 m hm;simp only[wz,CN,wL,Dr];rw[el ai,m1,m2,dX _ i ai];simp only[cond_true,bind_some,Bool.not_true,cond_false,ao,decide_eq_false au,Bool.not_false,decide_eq_true (show(S.length:Int)<=log[i].Choice by omega)];constructor<;>trivial
 obtain⟨r,aR,vT⟩:=key 0 (by omega) (sC s.b0) (axb h aJ);unfold Kf K0;rw[aw4 h.2.1.1 h.2.1.2,show cY.mk s.cI s.b0 s.cb s.cD s.cA=s from rfl,aw3 h.2.1.1 h.2.1.2];refine⟨r,?_,?_,aR⟩
 .exact e5 (log.length+1) λm hm=>(vT m (by omega)).1
 .exact e5 (log.length+1) λm hm=>(vT m (by omega)).2
theorem axd (s:cY) (h:tX s) (log:azN) (hl:log.length<=1048576) (hw:∀e∈log,e.Label.length<=1048576):
  ∃r:azO×Int,Kg s log=some r/\GS s log=some r/\r.1.length<=3/\∀p∈r.1,jx p:=by
 have nil:([]:azO).length<=3/\∀p∈([]:azO),jx p:=⟨by simp,λp ay=>by cases ay⟩
 obtain⟨h2,l2⟩:=aw_ log hl hw;unfold Kg GS;rw[aws _ h,awt _ h,h2,l2];simp only[bind_some];cases bK:(l8 s==0)
 .exact⟨([],1),rfl,rfl,nil⟩
 .cases hg:Ij log
  .exact⟨([],7),rfl,rfl,nil⟩
  .simp only[Ij,Bool.and_eq_true,decide_eq_true_eq,List.all_eq_true]at hg;obtain⟨r,en,bd,c_⟩:=axc s h bK log hg.1 hg.2;rw[en,bd];exact⟨r,rfl,rfl,c_⟩
theorem asW (a:oZ) (b:azH) (bq:FN a) (ab:b.length<=9223372036854775807/\∀y∈b,B6 y):Ro a b=some true:=by
 unfold Ro;obtain⟨r,ad,af⟩:=awr a bq;rw[ad];simp only[bind_some];cases aR:decide (r<0)
 .obtain⟨aG,bh,b6,dt,dj⟩:=af aR;rw[cond_false,aui b r ab dj (by omega)];simp only[bind_some];by_cases a8:((eg q1 b:Nat):Int)<=r
  .rw[HS a8];have eQ:decide (r-((eg q1 b:Nat):Int)<0)=false:=decide_eq_false (by omega);have xR:eg q1 b<=1048576:=by omega
   have cd:tQ (vy a)<=1048576:=by rw[abC];omega
   have Bd:eg nu (b.map vz)<=1048576:=by
    rw[AY];simp only[auB];exact xR
   have zc:(b.map vz).length<=1048576:=Nat.le_trans (jL nu _) Bd;have hw:∀e∈b.map vz,e.Label.length<=1048576:=λe he=>by
    have ho:nu e<=eg nu (b.map vz):=mS he;have i6:nu e<=1048576:=by omega
    clear ho;unfold nu at i6;omega
   rw[eQ,aG,auD b xR];simp only[cond_false,bind_some];generalize vy a=s at bh b6 cd;generalize b.map vz=l at Bd zc hw;obtain⟨v,v1,v2,v3,v4⟩:=axd s b6 l zc hw;have c6:eg pU v.1<=1048576:=by
    have:=ace (f:=pU) (B:=80) v.1 λp ay=>by
     have:=(v4 p ay).kt.1;unfold pU;omega
    unfold eg;omega
   obtain⟨gm,fC,hG,lb,tG,c,ct,m1⟩:=au0 s 1 (by omega) (by omega);obtain⟨z,d,d1,m2⟩:=au2 l (1+(c:Int)) (by omega) (by omega);obtain⟨w,f,f1,m3,m4⟩:=au3 v.1 1 (by omega) (by omega);simp only[v1,v2,bind_some,bh,auF _ c6,auT _ Bd,m1,m2,m3,m4,bne_self_eq_false,Bool.or_self,cond_false,Bool.not_true,SY (k:=1+(c:Int)+(d:Int)) (by omega),SY (k:=1+(f:Int)) (by omega)]
  .rw[HT (by omega)];rfl
 .rfl
end Go.ld
