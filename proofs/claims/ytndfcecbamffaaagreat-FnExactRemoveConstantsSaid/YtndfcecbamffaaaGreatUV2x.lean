/- Part of a proof that a law returns true for every input. No condition. -/
import Derived.Test.YtndfcecbamffaaaGreatUV1x
namespace Go.nc
open Option Go.IntKind Nat Or
open Go Go.c3
theorem OB {v:Int}:∀(e:afm) (k:Nat),kL v e k=true->∀t∈e,mS t v=true
 |[],_,_,t,aP=>by cases aP
 |u::r,k,h,t,aP=>by
  simp only[kL,Bool.and_eq_true]at h;rcases List.mem_cons.1 aP with rfl|aP
  .exact h.2.1
  .exact OB r _ h.2.2 t aP
theorem acC {e:afm} {v most:Int} (h:hZ e v most=true):(e.length:Int)<=most/\∀t∈e,t.Kind=1->0<=t.Value/\t.Value<=v-1:=by
 simp only[hZ,Bool.and_eq_true,decide_eq_true_eq]at h;refine⟨h.1,λt aP aj=>?_⟩;have:=OB e 1 h.2 t aP;unfold mS at this;have fE:(t.Kind==0)=false:=by rw[aj];rfl
 have aT:(t.Kind==1)=true:=by rw[aj];rfl
 rw[fE,aT]at this;simp only[cond_false,cond_true,hh,Bool.and_eq_true,decide_eq_true_eq]at this;exact this
def wq (e:afm):Prop:=e.length<=60/\∀t∈e,t.Kind=1->0<=t.Value/\t.Value<=1000
structure Co (x:bc) (p:Int):Prop where
 s:x.br.length<=8
 g:wq x.Guard
 n:x.Name.length<=10
 a:x.bD.length<=2
 HF:∀e∈x.bD,wq e
 m:(x.Next.length:Int)=p
 HG:∀e∈x.Next,wq e
theorem acD {x:bc} {p:Int} (h:oB x p=true) (au:p<=21):Co x p:=by
 simp only[oB,Bool.and_eq_true,beq_iff_eq]at h;obtain⟨ae,af,aF,a1,bt,b_⟩:=h;simp only[pn,Bool.and_eq_true,decide_eq_true_eq]at ae;have ex:∀e,hZ e (p+x.br.length) 60=true->wq e:=λe he=>by
  obtain⟨a,b⟩:=acC he;refine⟨by omega,λt aP aj=>?_⟩;have:=b t aP aj;have:=ae.1;omega
 have jt:x.Name.length<=10/\x.bD.length<=2:=by
  split at a1
  .rename_i aP;rw[aP];simp only[decide_eq_true_eq]at a1;simp[sk,a1]
  .simp only[ub,t_,Bool.and_eq_true,decide_eq_true_eq]at a1;omega
 simp only[mT,List.all_eq_true]at bt b_;exact⟨ae.1,ex _ af,jt.1,jt.2,λe he=>ex e (bt e he),aF,λe he=>ex e (b_ e he)⟩
structure OC (l:bg):Prop where
 p:0<=l.bz/\l.bz<=21
 st:(l.Start.length:Int)=l.bz
 n:l.bu.length<=60
 s:∀x∈l.bu,Co x l.bz
theorem HH {l:bg} (h:nJ l=true):OC l:=by
 simp only[nJ,rl,hh,Bool.and_eq_true,beq_iff_eq,decide_eq_true_eq,List.all_eq_true]at h;exact⟨h.1,h.2.1.1,h.2.2.1,λx al=>acD (h.2.2.2 x al) h.1.2⟩
theorem HI {e:afm} (h:wq e):rn e:=⟨by have:=h.1;omega,λt aP aj=>(h.2 t aP aj).1⟩
theorem acE {x:bc} {p:Int} (h:Co x p) (au:p<=21):Ou x:=by
 have ae:=h.s;have af:=h.a;have aF:=h.m;exact⟨by omega,HI h.g,⟨by omega,λe he=>HI (h.HF e he)⟩,by omega,λe he=>HI (h.HG e he)⟩
theorem HJ {α:Type} {f:α->Nat} {c k:Nat} {l:List α} (hl:l.length<=k) (h:∀x∈l,f x<=c):g7 f l<=k*(c+1):=by
 have ae:∀(l:List α),(∀x∈l,f x<=c)->gZ f l<=l.length*c:=by
  intro l;induction l with
  |nil=>intro _;simp[gZ]
  |cons x r ih=>
   intro h;have ae:=h x (by simp);have af:=ih λy a5=>h y (by simp[a5]);simp only[gZ,List.length_cons,Nat.add_mul];omega
 have ae:=ae l h;have af:l.length*c<=k*c:=mul_le_mul_right c hl;simp only[g7,Nat.mul_add,Nat.mul_one];omega
theorem acF {x:bc} {p:Int} (h:Co x p) (K:afb) (hK:K.length<=21) (f:afm->afm) (a8:∀e,(f e).length=e.length):
  jx ⟨x.br,f x.Guard,x.Name,x.bD.map f,K.map λi=>f (x.Next.getD i.toNat [])⟩<=1600:=by
 have ae:=h.s;have af:=h.g.1;have aF:=h.n;have a1:=h.a;have ea:=HJ (f:=λx:List aD=>x.length+0) (c:=60) (k:=2) (l:=x.bD.map f) (by rw[List.length_map];exact a1) (λe he=>by
  obtain⟨u,hu,rfl⟩:=List.mem_map.1 he;have:=(h.HF u hu).1;rw[a8];omega)
 have gy:=HJ (f:=λx:List aD=>x.length+0) (c:=60) (k:=21) (l:=K.map λi=>f (x.Next.getD i.toNat [])) (by rw[List.length_map];exact hK) (λe he=>by
  obtain⟨i,aC,rfl⟩:=List.mem_map.1 he;rw[a8,List.getD_eq_getElem?_getD];cases bl:x.Next[i.toNat]? with
  |none=>simp
  |some u=>have:=(h.HG u (List.mem_of_getElem? bl)).1;simp;omega)
 unfold jx;simp only[a8];omega
theorem acG {l:bg} (h:OC l) (K:afb) (hK:K.length<=21) (f:afm->afm) (a8:∀e,(f e).length=e.length):
  me ⟨K.length,K.map λi=>l.Start.getD i.toNat 0,l.bu.map λx=>⟨x.br,f x.Guard,x.Name,x.bD.map f,K.map λi=>f (x.Next.getD i.toNat [])⟩⟩<=1048576:=by
 have:=HJ (f:=jx) (c:=1600) (k:=60) (l:=l.bu.map λx=>⟨x.br,f x.Guard,x.Name,x.bD.map f,K.map λi=>f (x.Next.getD i.toNat [])⟩) (by rw[List.length_map];exact h.n) (λe he=>by
  obtain⟨u,hu,rfl⟩:=List.mem_map.1 he;exact acF (h.s u hu) K hK f a8)
 unfold me;simp only[List.length_map];omega
mutual
def eX:bI->afm
 | .mk t a=>t::fP a
def fP:List bI->afm
 |[]=>[]
 |x::r=>eX x++fP r
end
mutual
def gP:bI->Nat
 | .mk _ a=>1+iN a
def iN:List bI->Nat
 |[]=>0
 |x::r=>gP x+iN r
end
mutual
def ko:bI->Prop
 | .mk t a=>a.length=g8 t/\mU a
def mU:List bI->Prop
 |[]=>True
 |x::r=>ko x/\mU r
end
theorem OD (x:bI):bI.mk x.term x.args=x:=by cases x;rfl
theorem pr (x:bI):eX x=x.term::fP x.args:=by cases x;simp[eX,bI.term,bI.args]
mutual
theorem rp:∀x,(eX x).length=gP x
 | .mk t a=>by simp only[eX,gP,List.length_cons,zc a];omega
theorem zc:∀a,(fP a).length=iN a
 |[]=>by simp only[fP,iN,List.length_nil]
 |x::r=>by simp only[fP,iN,List.length_append,rp x,zc r]
end
theorem Cp:∀a b,fP (a++b)=fP a++fP b
 |[],b=>by simp only[fP,List.nil_append]
 |x::r,b=>by simp only[List.cons_append,fP,Cp r b,List.append_assoc]
theorem HK:∀a b,mU (a++b)↔mU a/\mU b
 |[],b=>by simp[mU]
 |x::r,b=>by simp only[List.cons_append,mU,HK r b];exact⟨λ⟨a,b,c⟩=>⟨⟨a,b⟩,c⟩,λ⟨⟨a,b⟩,c⟩=>⟨a,b,c⟩⟩
theorem Cq:∀{a:List bI},mU a->∀x∈a,ko x
 |y::r,h,x,al=>by
  rcases List.mem_cons.1 al with rfl|al
  .exact h.1
  .exact Cq h.2 x al
theorem Cr:∀{a:List bI},∀x∈a,gP x<=iN a
 |y::r,x,al=>by
  simp only[iN];rcases List.mem_cons.1 al with rfl|al
  .omega
  .have:=Cr x al;omega
theorem rq (x:bI):1<=gP x:=by cases x;simp only[gP];omega
theorem Cs (x:bI):gP x=1+iN x.args:=by cases x;simp[gP,bI.args]
theorem uc (x:bI):ko x↔x.args.length=g8 x.term/\mU x.args:=by cases x;simp[ko,bI.args,bI.term]
theorem OE (v:Int):∀(e:afm) (k:Nat),kL v e k=true->∃xs:List bI,xs.length=k/\mU xs/\fP xs=e
 |[],k,h=>by
  simp only[kL,beq_iff_eq]at h;subst h;exact⟨[],rfl,trivial,by simp only[fP]⟩
 |t::r,k,h=>by
  simp only[kL,Bool.and_eq_true,Bool.not_eq_true',beq_eq_false_iff_ne]at h;obtain⟨aj,aP,aR⟩:=h;obtain⟨cf,ae,af,aF⟩:=OE v r _ aR;refine⟨.mk t (cf.take (g8 t))::cf.drop (g8 t),?_,?_,?_⟩
  .simp;omega
  .have aa:=List.take_append_drop (g8 t) cf;have hw:=(HK (cf.take (g8 t)) (cf.drop (g8 t))).1 (by rw[aa];exact af);exact⟨⟨by simp;omega,hw.1⟩,hw.2⟩
  .simp only[fP,eX,List.cons_append];rw[<-Cp,List.take_append_drop,aF]
theorem acH {v most:Int} {e:afm} (h:hZ e v most=true):∃x,ko x/\eX x=e:=by
 simp only[hZ,Bool.and_eq_true]at h;obtain⟨xs,ae,af,aF⟩:=OE v e 1 h.2;cases xs with
 |nil=>simp at ae
 |cons x r=>
  cases r with
  |nil=>exact⟨x,af.1,by simpa [fP]using aF⟩
  |cons y r=>simp at ae
theorem acI (rec:afm->Option (aD×List bI×afm)) (t:aD) (a:List bI) (rest:afm) (b8:a.length<=1000)
  (HL:∀x∈a,∀rest,rec (eX x++rest)=some (x.term,x.args,rest)):cA (λn=>tB rec t (a.length:Int) n [] (fP a++rest) 0)=some (t,a,rest):=by
 have key:∀i,i<=a.length->∀m,a.length-i<m->tB rec t (a.length:Int) m (a.take i) (fP (a.drop i)++rest) (i:Int)=some (t,a,rest):=by
  refine down a.length ?_ ?_
  .intro m hm;obtain⟨m,rfl⟩:∃j,m=j+1:=⟨m-1,by omega⟩
   simp only[tB,FO];rw[ey (Nat.le_refl _)];simp[fP]
  .intro i aC ih m hm;obtain⟨m,rfl⟩:∃j,m=j+1:=⟨m-1,by omega⟩
   simp only[tB,FO];rw[fj aC,eE i _ aC (by omega),drop_cons a i aC];simp only[cond_true,fP,List.append_assoc];rw[HL _ (List.getElem_mem aC)];simp only[bind_some];rw[iy (by simp;omega) (by simp;omega),OD];simp only[bind_some];have zd:=ih m (by omega);rw[List.take_succ_eq_append_getElem aC]at zd;exact zd
 refine gQ (a.length+1) λm hm=>?_;have:=key 0 (by omega) m (by omega);simpa using this
theorem acJ (n:Nat):∀x,ko x->gP x<=n->∀rest,vA n (eX x++rest)=some (x.term,x.args,rest):=by
 induction n with
 |zero=>intro x _ h;have:=rq x;omega
 |succ n ih=>
  intro x hw aa rest;obtain⟨ae,af⟩:=(uc x).1 hw;have cO:=Cs x;simp only[vA,FP,pr,List.cons_append,sb,bind_some,abD,Oh,<-ae];refine acI _ _ _ _ (by have:=y5 x.term;omega) λy a5 rest=>ih y (Cq af y a5) ?_ rest;have:=Cr y a5;omega
theorem acK (x:bI) (hw:ko x):Bm (eX x)=some (x.term,x.args):=by
 unfold Bm FQ;rw[gQ (x:=some (x.term,x.args,[])) (gP x) λn a4=>by
  have:=acJ n x hw a4 [];simpa using this]
 rfl
def ze (op a b:Int):Int:=
 cond (op==0) (Int.tmod (i64.wrap (a+b)) 64) (cond (op==1) (Int.tmod (i64.wrap ((i64.wrap (a-b))+64)) 64) (cond (op==2) (Int.tmod (i64.wrap (a*b)) 64) (cond (op==3) (sd (a==b)) (cond (op==4) (sd (a !=b)) (cond (op==5) (sd (decide (a<b))) (cond (op==6) (sd (decide (a<=b))) (cond (op==7) (sd ((a !=0)&&(b !=0))) (sd ((a !=0)||(b !=0))))))))))
theorem acL (op a b:Int):Bn op a b=some (ze op a b):=by
 unfold Bn ze ow;simp only[B_,bind_some];cases op==0<;>cases op==1<;>cases op==2<;>cases op==3<;>cases op==4<;>cases op==5<;>cases op==6<;>cases op==7<;>cases a !=0<;>cases b !=0<;>rfl
theorem acM (op a b:Int):AV op a b=some (ze op a b):=by
 unfold AV ze og;simp only[B_,bind_some];cases op==0<;>cases op==1<;>cases op==2<;>cases op==3<;>cases op==4<;>cases op==5<;>cases op==6<;>cases op==7<;>cases a !=0<;>cases b !=0<;>rfl
def ud (t:aD) (l:afb):Int:=cond (t.Kind==3) (sd (l.getD 0 0==0)) (ze t.Value (l.getD 0 0) (l.getD 1 0))
def isNum (x:bI):Bool:=x.term.Kind==0
mutual
def eT:bI->bI
 | .mk t a=>if a.length=0 then .mk t a else if(ql a).all isNum=true then .mk ⟨0,ud t ((ql a).map λx=>x.term.Value)⟩ []else .mk t (ql a)
def ql:List bI->List bI
 |[]=>[]
 |x::r=>eT x::ql r
end
theorem HM:∀a,ql a=a.map eT
 |[]=>by simp only[ql,List.map_nil]
 |x::r=>by simp only[ql,List.map_cons,HM r]
theorem Ct (x:bI):eT x=if x.args.length=0 then x else if(x.args.map eT).all isNum=true then .mk ⟨0,ud x.term ((x.args.map eT).map λx=>x.term.Value)⟩ []else .mk x.term (x.args.map eT):=by
 cases x;simp only[eT,bI.args,HM];rfl
theorem kinds {t:aD} (h:g8 t≠0):t.Kind=3/\g8 t=1\/t.Kind=2/\g8 t=2:=by
 unfold g8 at h⊢;by_cases af:t.Kind=2
 .right;simp[af]
 .by_cases aF:t.Kind=3
  .left;simp[aF]
  .rw[if_neg af,if_neg aF]at h;exact(h rfl).elim
theorem acN (t:aD) (b:List bI) (U:b.length=g8 t) (bo:b.length≠0) (a4:b.all isNum=true):Bp (.mk t b) []=some (ud t (b.map λx=>x.term.Value)):=by
 unfold Bp;have Am:∀y∈b,∀n,1<=n->tC n y []=some y.term.Value:=by
  intro y a5 n HN;obtain⟨n,rfl⟩:∃k,n=k+1:=⟨n-1,by omega⟩
  have aj:(y.term.Kind==0)=true:=List.all_eq_true.1 a4 y a5;simp only[tC,Bo,aj,cond_true]
 refine gQ 2 λn xe=>?_;obtain⟨n,rfl⟩:∃k,n=k+1:=⟨n-1,by omega⟩
 simp only[tC,Bo,bI.term,bI.args];rcases kinds (by omega:g8 t≠0)with⟨aj,b8⟩|⟨aj,b8⟩
 .obtain⟨y,rfl⟩:∃y,b=[y]:=by
   cases b with
   |nil=>simp at bo
   |cons y r=>cases r with
    |nil=>exact⟨y,rfl⟩
    |cons z r=>simp at U;omega
  have k0:(t.Kind==0)=false:=by rw[aj];rfl
  have bU:(t.Kind==1)=false:=by rw[aj];rfl
  have dd:(t.Kind==3)=true:=by rw[aj];rfl
  simp only[k0,bU,dd,cond_false,cond_true,sb,bind_some,Am y (by simp) n (by omega),ow,B_,ud,List.map_cons,List.map_nil];rfl
 .obtain⟨y,z,rfl⟩:∃y z,b=[y,z]:=by
   cases b with
   |nil=>simp at bo
   |cons y r=>cases r with
    |nil=>simp at U;omega
    |cons z r=>cases r with
     |nil=>exact⟨y,z,rfl⟩
     |cons u r=>simp at U;omega
  have k0:(t.Kind==0)=false:=by rw[aj];rfl
  have bU:(t.Kind==1)=false:=by rw[aj];rfl
  have dd:(t.Kind==3)=false:=by rw[aj];rfl
  have aV:bG [y,z] 1=some z:=rfl;simp only[k0,bU,dd,cond_false,sb,aV,bind_some,Am y (by simp) n (by omega),Am z (by simp) n (by omega),acL,ud,List.map_cons,List.map_nil];rfl
theorem acO {x:bI} (hw:ko x):x.args.length<=2:=by
 have ae:=((uc x).1 hw).1;have:=y5 x.term;omega
theorem acP (rec:bI->Option bI) (x:bI) (hw:ko x) (bo:x.args.length≠0) (HL:∀y∈x.args,rec y=some (eT y)):
  cA (λn=>tD rec x n [] true 0)=some (eT x):=by
 have hl:=acO hw;have key:∀i,i<=x.args.length->∀m,x.args.length-i<m->tD rec x m ((x.args.map eT).take i) (((x.args.map eT).take i).all isNum) (i:Int)=some (eT x):=by
  refine down x.args.length ?_ ?_
  .intro m hm;obtain⟨m,rfl⟩:∃j,m=j+1:=⟨m-1,by omega⟩
   simp only[tD,FT];rw[ey (Nat.le_refl _),List.take_of_length_le (by simp),Ct,if_neg bo];cases a4:(x.args.map eT).all isNum
   .simp
   .have:=acN x.term (x.args.map eT) (by rw[List.length_map];exact((uc x).1 hw).1) (by simpa using bo) a4;simp only[cond_true,cond_false,this,bind_some,FR,if_true]
  .intro i aC ih m hm;obtain⟨m,rfl⟩:∃j,m=j+1:=⟨m-1,by omega⟩
   simp only[tD,FT];rw[fj aC,fA _ i aC,eE i _ aC (by omega)];simp only[cond_true,bind_some,HL _ (List.getElem_mem aC)];rw[iy (by simp;omega) (by simp;omega)];simp only[bind_some];have zd:=ih m (by omega);rw[List.take_succ_eq_append_getElem (by simpa using aC),List.all_append]at zd;simpa [isNum]using zd
 refine gQ (x.args.length+1) λm hm=>?_;have:=key 0 (by omega) m (by omega);simpa using this
theorem acQ (n:Nat):∀x,ko x->gP x<=n->vC n x=some (eT x):=by
 induction n with
 |zero=>intro x _ h;have:=rq x;omega
 |succ n ih=>
  intro x hw aa;have cO:=Cs x;simp only[vC,FU];by_cases bo:x.args.length=0
  .rw[Ct,if_pos bo];simp[bo]
  .have U:((x.args.length:Int)==0)=false:=by simp;exact λh=>bo (by simp[h])
   rw[U,cond_false];refine acP _ x hw bo λy a5=>ih y (Cq ((uc x).1 hw).2 y a5) ?_;have:=Cr y a5;omega
theorem acR (x:bI) (hw:ko x):Bq x=some (eT x):=by
 unfold Bq;exact gQ (gP x) λn a4=>acQ n x hw a4
mutual
theorem OG:∀x,ko x->ko (eT x)
 | .mk t a,h=>by
   simp only[eT];split
   .exact h
   .split
    .exact⟨by simp[g8],trivial⟩
    .exact⟨by rw[HM,List.length_map];exact h.1,OH a h.2⟩
theorem OH:∀a,mU a->mU (ql a)
 |[],_=>by simp[ql,mU]
 |x::r,h=>by simp only[ql];exact⟨OG x h.1,OH r h.2⟩
end
theorem HO:∀a:List bI,a.length<=iN a
 |[]=>zero_le _
 |x::r=>by have:=HO r;have:=rq x;simp only[List.length_cons,iN];omega
theorem acS (e:afm) (he:e.length<=1048576) (rest:afm):∀(n:Nat) (xs:List bI) (i:Nat),mU xs->iN xs=n->n<=1000000->i<=e.length->e.drop i=fP xs++rest->∀m,n<m->
  va e m (i:Int) (xs.length:Int)=some ((i+n:Nat):Int):=by
 intro n;induction n with
 |zero=>
  intro xs i _ aa _ _ _ m hm;obtain⟨m,rfl⟩:∃j,m=j+1:=⟨m-1,by omega⟩
  have:xs=[]:=by
   cases xs with
   |nil=>rfl
   |cons x r=>simp only[iN]at aa;have:=rq x;omega
  subst this;simp only[va,Ff];have:decide ((0:Int)<(([]:List bI).length:Int))=false:=by decide
  rw[this];rfl
 |succ n ih=>
  intro xs i hw aa al aC ai m hm;obtain⟨m,rfl⟩:∃j,m=j+1:=⟨m-1,by omega⟩
  cases xs with
  |nil=>simp[iN]at aa
  |cons x r=>
   obtain⟨t,a⟩:=x;have OI:=hw.1;simp only[fP,eX,List.cons_append,List.append_assoc]at ai;have c5:i<e.length:=by
    rcases Nat.lt_or_ge i e.length with h|h
    .exact h
    .rw[List.drop_of_length_le h]at ai;cases ai
   rw[drop_cons e i c5]at ai;injection ai with ae af;simp only[va,Ff];have d1:decide ((0:Int)<((bI.mk t a::r).length:Int))=true:=by simp
   have b8:=y5 t;have ae4:a.length=g8 t:=OI.1;rw[d1,fA _ i c5,ae,eE i _ c5 (by omega)];simp only[cond_true,bind_some,Cd];rw[Hw (k:=(bI.mk t a::r).length) (by simp) (by have:=HO (bI.mk t a::r);omega) b8];have hlen:(bI.mk t a::r).length+g8 t-1=(a++r).length:=by simp;omega
   have ae5:=HO (bI.mk t a::r);rw[hlen,ih (a++r) (i+1) ((HK a r).2 ⟨OI.2,hw.2⟩) (by
    have:∀a b,iN (a++b)=iN a+iN b:=by
     intro a b;rw[<-zc,<-zc,<-zc,Cp,List.length_append]
    rw[this];simp only[iN,gP]at aa;omega) (by omega) (by omega) (by rw[Cp,List.append_assoc];exact af) m (by omega)]
   congr 1;omega
theorem acT (n:Nat):∀x,ko x->gP x<=n->gP x<=100000->vb n (eX x)=some (eX (eT x))/\gP (eT x)<=gP x:=by
 induction n with
 |zero=>intro x _ h;have:=rq x;omega
 |succ n ih=>
  intro x hw aa kF;obtain⟨ae,af⟩:=(uc x).1 hw;have cO:=Cs x;simp only[vb,Fg];rw[Ct];by_cases bo:x.args.length=0
  .have bF:g8 x.term=0:=by omega
   have U:((0:Int)==0)=true:=rfl;rw[if_pos bo];refine⟨?_,Nat.le_refl _⟩;conv=>lhs;rw[pr]
   simp only[sb,bind_some,Cd,bF];rw[show(((0:Nat):Int)==0)=true from rfl,cond_true];simp only[qX];rw[iy (by rw[<-pr,rp];omega) (by rw[<-pr,rp];omega),<-pr];rfl
  .rw[if_neg bo];have U:((g8 x.term:Int)==0)=false:=by simp;omega
   obtain⟨y,r,Cu⟩:∃y r,x.args=y::r:=by
    cases al:x.args with
    |nil=>simp[al]at bo
    |cons y r=>exact⟨y,r,rfl⟩
   rw[Cu]at ae af cO;simp only[iN]at cO;obtain⟨aT,a3⟩:=ih y af.1 (by omega) (by omega);have hO:eX x=x.term::(eX y++fP r):=by rw[pr,Cu];rfl
   have hlen:(eX x).length=gP x:=rp x;have acU:AU (eX x) 1=some ((1+gP y:Nat):Int):=by
    unfold AU;refine gQ (gP y+1) λm hm=>?_;have:=acS (eX x) (by omega) (fP r) (gP y) [y] 1 ⟨af.1,trivial⟩ (by simp[iN]) (by omega) (by have:=rq x;omega) (by rw[hO];simp[fP]) m (by omega);simpa using this
   have acV:gw (eX x) 1 ((1+gP y:Nat):Int)=some (eX y):=by
    rw[hO];exact N3 [x.term] (eX y) (fP r) rfl (by rw[rp];rfl)
   have acW:gw (eX x) ((1+gP y:Nat):Int) ((eX x).length:Int)=some (fP r):=by
    rw[hO];have:=N3 (x.term::eX y) (fP r) [] (i:=((1+gP y:Nat):Int)) (j:=(((x.term::(eX y++fP r)).length:Nat):Int)) (by rw[List.length_cons,rp];omega) (by simp;omega);simpa using this
   have EV:bG (eX x) 0=some x.term:=by rw[pr];rfl
   have wt:bG (eX (eT y)) 0=some (eT y).term:=by rw[pr];rfl
   have ae6:(eX (eT y)).length<=100000:=by rw[rp];omega
   rw[EV];simp only[bind_some,Cd,U,cond_false,acU,acV,aT];have ae7:=rq y;have c_:g8 x.term≠0:=by rw[<-ae];simp
   rcases kinds c_ with⟨aj,b8⟩|⟨aj,b8⟩
   .have aR:r=[]:=by
     cases r with
     |nil=>rfl
     |cons z r=>simp at ae;omega
    subst aR;have dd:(x.term.Kind==3)=true:=by rw[aj];rfl
    rw[dd,cond_true,wt,Cu];simp only[bind_some,List.map_cons,List.map_nil,List.all_cons,List.all_nil,Bool.and_true];cases a4:(eT y).term.Kind==0
    .have:isNum (eT y)=false:=a4;simp only[this,cond_false];rw[iy (by omega) (by omega)];simp only[bind_some,Bool.false_eq_true,if_false];refine⟨by simp[eX,fP],?_⟩;simp only[gP,iN];omega
    .have:isNum (eT y)=true:=a4;simp only[this,cond_true,if_true,og,B_,bind_some];refine⟨by simp[eX,fP,ud,dd],?_⟩;simp only[gP,iN];omega
   .obtain⟨z,rfl⟩:∃z,r=[z]:=by
     cases r with
     |nil=>simp at ae;omega
     |cons z r=>cases r with
      |nil=>exact⟨z,rfl⟩
      |cons u r=>simp at ae;omega
    simp only[iN]at cO;obtain⟨f1,f2⟩:=ih z af.2.1 (by omega) (by omega);have acX:bG (eX (eT z)) 0=some (eT z).term:=by rw[pr];rfl
    have abq:(eX (eT z)).length<=100000:=by rw[rp];omega
    have dd:(x.term.Kind==3)=false:=by rw[aj];rfl
    have ae8:=rq z;have acY:fP [z]=eX z:=by simp[fP]
    have key:(room 16 (1+(eX (eT y)).length)).bind (λ_=>(room 16 (([x.term]++eX (eT y)).length+(eX (eT z)).length)).bind λ_=>some (([x.term]++eX (eT y))++eX (eT z)))=some (eX (.mk x.term [eT y,eT z])):=by
     rw[iy (by omega) (by omega)];simp only[bind_some];rw[iy (by simp only[List.length_append,List.length_cons,List.length_nil];omega) (by simp only[List.length_append,List.length_cons,List.length_nil];omega)];simp[eX,fP]
    rw[dd,cond_false,acW,acY,Cu];simp only[bind_some,f1,wt,List.map_cons,List.map_nil,List.all_cons,List.all_nil,Bool.and_true];cases a4:(eT y).term.Kind==0
    .have:isNum (eT y)=false:=a4;simp only[this,cond_false,Bool.false_and,Bool.false_eq_true,if_false,key];refine⟨trivial,?_⟩;simp only[gP,iN];omega
    .have:isNum (eT y)=true:=a4;simp only[this,cond_true,Bool.true_and,acX,bind_some];cases hm:(eT z).term.Kind==0
     .have:isNum (eT z)=false:=hm;simp only[this,cond_false,Bool.false_eq_true,if_false,key];refine⟨trivial,?_⟩;simp only[gP,iN];omega
     .have:isNum (eT z)=true:=hm;simp only[this,cond_true,if_true,acM,bind_some];refine⟨by simp[eX,fP,ud,dd],?_⟩;simp only[gP,iN];omega
theorem acZ (x:bI) (hw:ko x) (aa:gP x<=100000):AW (eX x)=some (eX (eT x)):=by
 unfold AW;exact gQ (gP x) λn a4=>(acT n x hw a4 aa).1
def qm (S:Int->Bool) (st:afb) (t:aD):aD:=cond ((t.Kind==1)&&S t.Value) ⟨0,st.getD t.Value.toNat 0⟩ t
def k_ (S:Int->Bool) (st:afb) (e:afm):afm:=e.map (qm S st)
theorem ac0 (e:afm) (h:e.length<=1048576):qX e=some e:=by
 unfold qX;rw[iy (by omega) (by omega)];rfl
theorem HP {α:Type} (v:List α) (i:Nat) (x:α) (h:bG v (i:Int)=some x):v.set i x=v:=by
 have:=cB h;rw[Int.toNat_natCast]at this;obtain⟨ae,af⟩:=List.getElem?_eq_some_iff.1 this;rw[<-af];exact List.set_getElem_self ae
theorem HQ {α:Type} {v:List α} {t:Int} (d:α) (ae:0<=t) (af:t<(v.length:Nat)):bG v t=some (v.getD t.toNat d):=by
 obtain⟨i,aC⟩:∃i:Nat,t=(i:Int):=⟨t.toNat,by omega⟩
 rw[aC];exact sa v i d (by omega)
theorem OJ (S:afb) (v:Int) (h:S.length<=1048576):yg S v=some (decide (v∈S)):=by
 unfold yg vz;rw[Hx S (λx=>v==x) (λm=>by
  simp only[tA,yf];rw[ey (Nat.le_refl _)];rfl) (λi aC m=>by
  simp only[tA,yf];rw[fj aC,fA _ i aC,eE i _ aC (by omega)];simp only[cond_true,bind_some])]
 simp only[bind_some];rw[wj];congr 1;rw[Bool.eq_iff_iff];simp
section
variable {S:Int->Bool}
theorem ac1 (e:afm) (M:List Bool) (st:afb) (hl:st.length=M.length) (he:e.length<=1048576) (fH:M.length<=1000) (aH:∀t∈e,t.Kind=1->0<=t.Value) (bs:∀v,0<=v->S v=M.getD v.toNat false):
  p3 e M st=some (k_ S st e):=by
 unfold p3;rw[ac0 e he,bind_some];refine Cj (L:=p2 M st) e (qm S st) some (λm w hw=>?_) (λi aC m w hw bl=>?_)
 .simp only[p2,x8];rw[ey (by omega)];rfl
 .simp only[p2,x8,ts];rw[fj (by omega),bl,eE i e.length aC (by omega)];simp only[cond_true,bind_some,qm,Int.toNat_natCast];by_cases aj:e[i].Kind=1
  .have bo:=aH _ (List.getElem_mem aC) aj;have jk:(e[i].Kind==1)=true:=by simp[aj]
   rw[jk,cond_true,Bool.true_and,bs _ bo];by_cases c5:e[i].Value<(M.length:Int)
   .rw[decide_eq_true c5,cond_true,HQ false bo c5,bind_some];cases M.getD e[i].Value.toNat false
    .rw[cond_false,cond_false,HP w i _ bl]
    .rw[cond_true,cond_true,HQ 0 bo (by omega),bind_some]
   .rw[decide_eq_false c5,cond_false];have:M.getD e[i].Value.toNat false=false:=by
     rw[List.getD_eq_getElem?_getD,List.getElem?_eq_none (by omega)];rfl
    rw[this,cond_false,HP w i _ bl]
  .have jk:(e[i].Kind==1)=false:=by simpa using aj
   rw[jk,cond_false,Bool.false_and,cond_false,HP w i _ bl]
theorem OK (l:bg) (e:afm) (K:afb) (he:e.length<=1048576) (hK:K.length<=1048576) (iH:∀v∈K,0<=v/\v<(l.Start.length:Nat)) (bs:∀v,S v=decide (v∈K)):
  yh l e K=some (k_ S l.Start e):=by
 unfold yh FN;have:=po (L:=q1 e K l) e (qm S l.Start) 0 some (λm w hw=>?_) (λi aC m w hw=>?_) [] (by simp)
 .rw[this];rfl
 .simp only[q1,FM];rw[ey (Nat.le_refl _)];rfl
 .simp only[q1,FM,q0,FL];rw[fj aC,fA _ i aC,eE i _ aC (by omega)];simp only[cond_true,bind_some,qm];have dR:∀x:aD,room 16 (w.length+[x].length)=some ():=λx=>iy (by simp only[List.length_cons,List.length_nil];omega) (by simp only[List.length_cons,List.length_nil];omega);by_cases aj:e[i].Kind=1
  .have jk:(e[i].Kind==1)=true:=by simp[aj]
   rw[jk,cond_true,Bool.true_and,OJ K _ hK,bs];by_cases hm:e[i].Value∈K
   .obtain⟨ae,af⟩:=iH _ hm;rw[decide_eq_true hm,HQ 0 ae af];simp only[cond_true,bind_some,FK,Option.elim,List.isEmpty_cons,cond_false,dR]
   .rw[decide_eq_false hm];simp only[cond_false,bind_some,Option.elim,dR]
  .have jk:(e[i].Kind==1)=false:=by simpa using aj
   rw[jk];simp only[Bool.false_and,cond_false,dR,bind_some]
theorem ac2 (st:afb) (t:aD):g8 (qm S st t)=g8 t:=by
 unfold qm;by_cases h:t.Kind=1
 .cases S t.Value<;>simp[h,g8]
 .have:(t.Kind==1)=false:=by simpa using h
  rw[this];rfl
theorem ac3 {st:afb} {v:Int} {t:aD} (mG:∀n∈st,0<=n/\n<=63) (h:mS t v=true):mS (qm S st t) v=true:=by
 unfold qm;by_cases ae:t.Kind=1
 .have jk:(t.Kind==1)=true:=by simp[ae]
  rw[jk,Bool.true_and];cases S t.Value
  .exact h
  .have:0<=st.getD t.Value.toNat 0/\st.getD t.Value.toNat 0<=63:=by
    rw[List.getD_eq_getElem?_getD];cases al:st[t.Value.toNat]? with
    |none=>simp
    |some z=>exact mG z (List.mem_of_getElem? al)
   simp only[cond_true,mS,beq_self_eq_true,hh,Bool.and_eq_true,decide_eq_true_eq];exact this
 .have jk:(t.Kind==1)=false:=by simpa using ae
  rw[jk];exact h
theorem OL {st:afb} {v:Int} (mG:∀n∈st,0<=n/\n<=63):∀(e:afm) (k:Nat),kL v e k=true->kL v (k_ S st e) k=true
 |[],k,h=>h
 |t::r,k,h=>by
  simp only[kL,Bool.and_eq_true]at h;simp only[k_,List.map_cons,kL,Bool.and_eq_true,ac2];exact⟨h.1,ac3 mG h.2.1,OL mG r _ h.2.2⟩
theorem ac4 {st:afb} {v:Int} {e:afm} (mG:∀n∈st,0<=n/\n<=63) (h:hZ e v 60=true):hZ (k_ S st e) v 60=true:=by
 simp only[hZ,Bool.and_eq_true,decide_eq_true_eq]at h⊢;exact⟨by simp only[k_,List.length_map];exact h.1,OL mG e 1 h.2⟩
end
theorem OM {v:Int}:∀(e:afm) (k:Nat),kL v e k=true->∀t∈e,mS t v=true
 |[],_,_,t,aP=>by cases aP
 |u::r,k,h,t,aP=>by
  simp only[kL,Bool.and_eq_true]at h;rcases List.mem_cons.1 aP with rfl|aP
  .exact h.2.1
  .exact OM r _ h.2.2 t aP
theorem ON {e:afm} {v:Int} (h:hZ e v 60=true):e.length<=60/\∀t∈e,t.Kind=1->0<=t.Value:=by
 simp only[hZ,Bool.and_eq_true,decide_eq_true_eq]at h;refine⟨by omega,λt aP aj=>?_⟩;have:=OM e 1 h.2 t aP;unfold mS at this;have fE:(t.Kind==0)=false:=by rw[aj];rfl
 have aT:(t.Kind==1)=true:=by rw[aj];rfl
 rw[fE,aT]at this;simp only[cond_false,cond_true,hh,Bool.and_eq_true,decide_eq_true_eq]at this;exact this.1
open Classical in
noncomputable def rr (e:afm):bI:=if h:∃x,ko x/\eX x=e then h.choose else .mk ⟨0,0⟩ []
theorem ac5 {e:afm} {v most:Int} (h:hZ e v most=true):ko (rr e)/\eX (rr e)=e:=by
 have al:=acH h;unfold rr;rw[dif_pos al];exact al.choose_spec
theorem ac6 (n:Nat):∀x,gP x<=n->ko x->(eT x).term.Kind=0->∀t∈eX x,t.Kind≠1:=by
 induction n with
 |zero=>intro x h;have:=rq x;omega
 |succ n ih=>
  intro x a4 hw aj t aP;have OO:=(uc x).1 hw;rw[Ct]at aj;rw[pr]at aP;by_cases bo:x.args.length=0
  .rw[if_pos bo]at aj;have:x.args=[]:=List.length_eq_zero_iff.1 bo;rw[this]at aP;simp only[fP,List.mem_cons,List.not_mem_nil,or_false]at aP;subst aP;omega
  .rw[if_neg bo]at aj;have ac7:g8 x.term≠0:=by rw[<-OO.1];exact bo
   have OP:=kinds ac7;by_cases j7:(x.args.map eT).all isNum=true
   .rcases List.mem_cons.1 aP with rfl|aP
    .rcases OP with⟨h,_⟩|⟨h,_⟩<;>omega
    .have mem:∀a:List bI,t∈fP a->∃y∈a,t∈eX y:=by
      intro a;induction a with
      |nil=>intro h;simp[fP]at h
      |cons y r ac8=>
       intro h;simp only[fP,List.mem_append]at h;rcases h with h|h
       .exact⟨y,by simp,h⟩
       .obtain⟨z,bF,h⟩:=ac8 h;exact⟨z,by simp[bF],h⟩
     obtain⟨y,a5,ac9⟩:=mem _ aP;have ac_:isNum (eT y)=true:=List.all_eq_true.1 j7 _ (List.mem_map_of_mem a5);have cO:gP y<=n:=by
      have ae:=Cr y a5;have af:=Cs x;omega
     exact ih y cO (Cq OO.2 y a5) (by simpa [isNum]using ac_) t ac9
   .rw[if_neg j7]at aj;change x.term.Kind=0 at aj;rcases OP with⟨h,_⟩|⟨h,_⟩<;>omega
noncomputable def wu (l:bg) (S:Int->Bool) (p:Nat) (s:bc):Bool:=
 ((eT (rr (k_ S l.Start (s.Next.getD p [])))).term.Kind==0)&&((eT (rr (k_ S l.Start (s.Next.getD p [])))).term.Value==l.Start.getD p 0)
noncomputable def jQ (l:bg) (S:Int->Bool) (p:Nat):Bool:=l.bu.all (wu l S p)
structure i3 (l:bg) (P:Nat):Prop where
 par:l.bz=(P:Int)
 le:P<=21
 st:l.Start.length=P
 ada:∀n∈l.Start,0<=n/\n<=63
 len:l.bu.length<=60
 zf:∀s∈l.bu,s.Next.length=P
 aw:∀s∈l.bu,∀e∈s.Next,∃v,hZ e v 60=true
theorem adb {l:bg} (h:nJ l=true):∃P,i3 l P:=by
 simp only[nJ,rl,hh,Bool.and_eq_true,beq_iff_eq,decide_eq_true_eq,List.all_eq_true]at h;obtain⟨⟨ae,af⟩,⟨aF,a1⟩,bt,b_⟩:=h;refine⟨l.bz.toNat,by omega,by omega,by omega,a1,bt,λs aa=>?_,λs aa e he=>?_⟩
 .have:=b_ s aa;simp only[oB,Bool.and_eq_true,beq_iff_eq]at this;have:=this.2.2.1;omega
 .have:=b_ s aa;simp only[oB,Bool.and_eq_true,mT,List.all_eq_true]at this;exact⟨_,this.2.2.2.2.2 e he⟩
section
variable {l:bg} {P:Nat}
theorem i3.HR (h:i3 l P) {s:bc} (aa:s∈l.bu) {p:Nat} (au:p<P):∃v,hZ (s.Next.getD p []) v 60=true:=by
 have hl:=h.zf s aa;have:s.Next.getD p []=s.Next[p]'(by omega):=by rw[List.getD_eq_getElem?_getD,List.getElem?_eq_getElem (by omega)];rfl
 rw[this];exact h.aw s aa _ (List.getElem_mem _)
theorem i3.tree (h:i3 l P) {s:bc} (aa:s∈l.bu) {p:Nat} (au:p<P) (S:Int->Bool):
  ko (rr (k_ S l.Start (s.Next.getD p [])))/\eX (rr (k_ S l.Start (s.Next.getD p [])))=k_ S l.Start (s.Next.getD p []):=by
 obtain⟨v,aH⟩:=h.HR aa au;exact ac5 (ac4 h.ada aH)
theorem HS (h:i3 l P) {S aO:Int->Bool} (bs:∀v,S v=true->aO v=true) {p:Nat} (au:p<P) (aj:jQ l S p=true):jQ l aO p=true:=by
 simp only[jQ,List.all_eq_true]at aj⊢;intro s aa;have o6:=aj s aa;obtain⟨t1,t2⟩:=h.tree aa au S;have e:k_ aO l.Start (s.Next.getD p [])=k_ S l.Start (s.Next.getD p []):=by
  simp only[wu,Bool.and_eq_true,beq_iff_eq]at o6;have a4:=ac6 _ _ (Nat.le_refl _) t1 o6.1;rw[t2]at a4;simp only[k_]at a4⊢;apply List.map_congr_left;intro t aP;have:=a4 _ (List.mem_map_of_mem aP);unfold qm at this⊢;by_cases ae:t.Kind=1
  .have jk:(t.Kind==1)=true:=by simp[ae]
   rw[jk,Bool.true_and]at this⊢;rw[Bool.true_and];cases mG:S t.Value
   .rw[mG,cond_false]at this;exact absurd ae this
   .rw[bs _ mG]
  .have jk:(t.Kind==1)=false:=by simpa using ae
   rw[jk];rfl
 simp only[wu]at o6⊢;rw[e];exact o6
theorem ade (h:i3 l P) (M:List Bool) (fH:M.length=P) (S:Int->Bool) (bs:∀v,0<=v->S v=M.getD v.toNat false) (p:Nat) (au:p<P):AX l M (p:Int)=some (jQ l S p):=by
 unfold AX jQ;have hle:=h.le;have mG:=h.st;refine Cf l.bu (wu l S p) (λm=>?_) λi aC m=>?_
 .simp only[x_,Fh];rw[ey (Nat.le_refl _)];rfl
 .simp only[x_,Fh];have aa:=List.getElem_mem aC;have hl:=h.len;have a4:=h.zf _ aa;rw[fj aC,fA _ i aC,eE i _ aC (by omega)];simp only[cond_true,bind_some];obtain⟨v,aH⟩:=h.HR aa au;obtain⟨HN,xe⟩:=ON aH;rw[sa _ p [] (by omega),bind_some,ac1 _ M l.Start (by omega) (by omega) (by omega) xe bs,bind_some];obtain⟨t1,t2⟩:=h.tree aa au S;have cO:gP (rr (k_ S l.Start (l.bu[i].Next.getD p [])))<=60:=by
   rw[<-rp,t2];simp only[k_,List.length_map];exact HN
  have OQ:=acZ _ t1 (by omega);rw[t2]at OQ;rw[OQ,bind_some];have hw:=OG _ t1;simp only[wu];generalize eT (rr (k_ S l.Start (l.bu[i].Next.getD p [])))=y at hw;rw[pr];have a5:=(uc y).1 hw;by_cases aj:y.term.Kind=0
  .have b8:y.args=[]:=by
    have:g8 y.term=0:=by simp[g8,aj]
    rw[this]at a5;exact List.length_eq_zero_iff.1 a5.1
   have d1:(((y.term::fP y.args).length:Int) !=1)=false:=by rw[b8];simp[fP]
   have d2:(y.term.Kind !=0)=false:=by simp[aj]
   have d3:(y.term.Kind==0)=true:=by simp[aj]
   rw[d1,cond_false,sb,bind_some,d2,cond_false,sa _ p 0 (by omega),bind_some,d3,Bool.true_and];cases aH:y.term.Value==l.Start.getD p 0
   .have:(y.term.Value !=l.Start.getD p 0)=true:=by simpa [bne]using aH
    rw[this];rfl
   .have:(y.term.Value !=l.Start.getD p 0)=false:=by simpa [bne]using aH
    rw[this];rfl
  .have d3:(y.term.Kind==0)=false:=by simpa using aj
   rw[d3,Bool.false_and,cond_false];cases an:(((y.term::fP y.args).length:Int) !=1)
   .rw[cond_false,sb,bind_some];have d2:(y.term.Kind !=0)=true:=by simpa using aj
    rw[d2];rfl
   .rfl
theorem adf (h:i3 l P) (K:afb) (hK:K.length<=1048576) (iH:∀v∈K,0<=v/\v<P) (S:Int->Bool) (bs:∀v,S v=decide (v∈K)) (p:Nat) (au:p<P):tE (p:Int) l K=some (!jQ l S p):=by
 unfold tE FW FV;have mG:=h.st;have hle:=h.le;have hl:=h.len;rw[wk (f:=λs=>Br s l (p:Int) K) l.bu (λs=> !wu l S p s) (λm i=>by simp only[Bs,Mi]) (λs aa=>by
  unfold Br;have a4:=h.zf _ aa;obtain⟨v,aH⟩:=h.HR aa au;obtain⟨HN,xe⟩:=ON aH;obtain⟨t1,t2⟩:=h.tree aa au S;have Ab:=acK _ t1;rw[t2]at Ab;rw[sa _ p [] (by omega),bind_some,OK l _ K (by omega) hK (by rw[mG];exact iH) bs,bind_some,Ab,bind_some,OD,acR _ t1,bind_some,sa _ p 0 (by omega),bind_some];rfl) (by omega)]
 simp only[bind_some];rw[wj,Cg];rfl
def zg (l:bg) (P:Nat) (T:Int->Bool):Prop:=∀v,T v=true->0<=v/\v<P/\jQ l T v.toNat=true
open Classical in
noncomputable def gF (l:bg) (P:Nat) (v:Int):Bool:=decide (∃T,zg l P T/\T v=true)
theorem HT {v:Int}:gF l P v=true↔∃T,zg l P T/\T v=true:=by simp[gF]
theorem wv (h:i3 l P):zg l P (gF l P):=by
 intro v aH;obtain⟨T,gS,aH⟩:=HT.1 aH;obtain⟨ae,af,aF⟩:=gS v aH;exact⟨ae,af,HS h (λu hu=>HT.2 ⟨T,gS,hu⟩) (by omega) aF⟩
theorem OR (h:i3 l P) {T:Int->Bool} (gS:zg l P T) (bl:∀v,gF l P v=true->T v=true) (v:Int):T v=gF l P v:=by
 rw[Bool.eq_iff_iff];exact⟨λaH=>HT.2 ⟨T,gS,aH⟩,bl v⟩
end
def oC (M:List Bool) (v:Int):Bool:=decide (0<=v)&&M.getD v.toNat false
theorem OS (M:List Bool):∀v,0<=v->oC M v=M.getD v.toNat false:=λv h=>by simp[oC,h]
noncomputable def la (l:bg) (P:Nat):Nat->List Bool->List Bool
 |0,M=>M
 |r+1,M=>la l P r (if M.getD (P-(r+1)) false=true/\jQ l (oC M) (P-(r+1))=false then M.set (P-(r+1)) false else M)
noncomputable def pt (l:bg) (P:Nat):Nat->List Bool->List Bool
 |0,M=>M
 |k+1,M=>pt l P k (la l P P M)
def nM:List Bool->Nat
 |[]=>0
 |b::r=>(if b=true then 1 else 0)+nM r
theorem OT:∀M:List Bool,nM M<=M.length
 |[]=>Nat.le_refl _
 |b::r=>by have:=OT r;simp only[nM,List.length_cons];split<;>omega
theorem HU:∀(M:List Bool) (i:Nat),M.getD i false=true->nM (M.set i false)+1=nM M
 |[],i,h=>by simp at h
 |b::r,0,h=>by
  have:b=true:=by simpa using h
  subst this;simp only[List.set_cons_zero,nM];simp;omega
 |b::r,i+1,h=>by
  have:=HU r i (by simpa using h);simp only[List.set_cons_succ,nM];omega
theorem adg (M:List Bool) (i j:Nat):(M.set i false).getD j false=if i=j then false else M.getD j false:=by
 rw[List.getD_eq_getElem?_getD,List.getD_eq_getElem?_getD,List.getElem?_set];by_cases h:i=j
 .subst h;by_cases af:i<M.length
  .simp[af]
  .simp[af]
 .simp[h]
section
variable {l:bg} {P:Nat}
theorem HV:∀(r:Nat) (M:List Bool),(la l P r M).length=M.length
 |0,M=>rfl
 |r+1,M=>by
  simp only[la];rw[HV r];split<;>simp
def Inv (l:bg) (P:Nat) (M:List Bool):Prop:=∀v,gF l P v=true->oC M v=true
theorem OU (h:i3 l P):∀(r:Nat) (M:List Bool),r<=P->Inv l P M->Inv l P (la l P r M)
 |0,M,_,fH=>fH
 |r+1,M,aR,fH=>by
  simp only[la];refine OU h r _ (by omega) ?_;split
  .rename_i an;intro v aH;have ae:=fH v aH;have U:=wv h v aH;simp only[oC,Bool.and_eq_true,decide_eq_true_eq]at ae⊢;refine⟨ae.1,?_⟩;rw[adg];split
   .rename_i e;have aj:=HS h fH (show v.toNat<P by omega) U.2.2;rw[<-e,an.2]at aj;cases aj
   .exact ae.2
  .exact fH
theorem OV:∀(r:Nat) (M:List Bool),nM (la l P r M)<=nM M
 |0,M=>Nat.le_refl _
 |r+1,M=>by
  simp only[la];refine Nat.le_trans (OV r _) ?_;split
  .rename_i an;have:=HU M _ an.1;omega
  .exact Nat.le_refl _
def zh (l:bg) (P:Nat) (M:List Bool) (i:Nat):Prop:=∀j,i<=j->j<P->M.getD j false=true->jQ l (oC M) j=true
theorem OW:∀(r:Nat) (M:List Bool),r<=P->(la l P r M=M/\zh l P M (P-r))\/nM (la l P r M)<nM M
 |0,M,_=>.inl ⟨rfl,λj ae af=>by omega⟩
 |r+1,M,aR=>by
  simp only[la];split
  .rename_i an;right;have:=HU M _ an.1;have:=OV (l:=l) (P:=P) r (M.set (P-(r+1)) false);omega
  .rename_i an;rcases OW r M (by omega)with⟨ae,af⟩|ae
   .refine .inl ⟨ae,λj JW DR hm=>?_⟩;by_cases e:j=P-(r+1)
    .subst e;cases aj:jQ l (oC M) (P-(r+1))with
     |true=>rfl
     |false=>exact absurd ⟨hm,aj⟩ an
    .exact af j (by omega) DR hm
   .exact .inr ae
theorem OX:∀(r:Nat) (M:List Bool),r<=P->zh l P M 0->la l P r M=M
 |0,M,_,_=>rfl
 |r+1,M,aR,a8=>by
  simp only[la];rw[if_neg]
  .exact OX r M (by omega) a8
  .rintro⟨ae,af⟩;rw[a8 _ (zero_le _) (by omega) ae]at af;cases af
theorem OY:∀(k:Nat) (M:List Bool),zh l P M 0->pt l P k M=M
 |0,M,_=>rfl
 |k+1,M,a8=>by
  simp only[pt];rw[OX P M (Nat.le_refl _) a8,OY k M a8]
theorem OZ:∀(k:Nat) (M:List Bool),(pt l P k M).length=M.length
 |0,M=>rfl
 |k+1,M=>by simp only[pt];rw[OZ k,HV]
theorem O0 (h:i3 l P):∀(k:Nat) (M:List Bool),Inv l P M->Inv l P (pt l P k M)
 |0,M,fH=>fH
 |k+1,M,fH=>O0 h k _ (OU h P M (Nat.le_refl _) fH)
theorem O1:∀(k:Nat) (M:List Bool),zh l P (pt l P k M) 0\/nM (pt l P k M)+k<=nM M
 |0,M=>.inr (Nat.le_refl _)
 |k+1,M=>by
  simp only[pt];rcases OW (l:=l) (P:=P) P M (Nat.le_refl _)with⟨ae,af⟩|ae
  .rw[Nat.sub_self]at af;rw[ae,OY k M af];exact .inl af
  .rcases O1 k (la l P P M)with af|af
   .exact .inl af
   .exact .inr (by omega)
noncomputable def h0 (l:bg) (P:Nat):List Bool:=pt l P (P+1) (List.replicate P true)
theorem wx:(h0 l P).length=P:=by unfold h0;rw[OZ,List.length_replicate]
theorem adh (h:i3 l P) (v:Int):oC (h0 l P) v=gF l P v:=by
 have hinv:Inv l P (h0 l P):=O0 h _ _ λv aH=>by
  obtain⟨ae,af,_⟩:=wv h v aH;simp only[oC,Bool.and_eq_true,decide_eq_true_eq];refine⟨ae,?_⟩;rw[List.getD_eq_getElem?_getD,List.getElem?_replicate,if_pos (by omega)];rfl
 have a8:zh l P (h0 l P) 0:=by
  rcases O1 (l:=l) (P:=P) (P+1) (List.replicate P true)with ae|ae
  .exact ae
  .have:=OT (List.replicate P true);rw[List.length_replicate]at this;omega
 refine OR h (λv aH=>?_) hinv v;simp only[oC,Bool.and_eq_true,decide_eq_true_eq]at aH;have c5:v.toNat<P:=by
  have:=wx (l:=l) (P:=P);by_cases an:v.toNat<P
  .exact an
  .rw[List.getD_eq_getElem?_getD,List.getElem?_eq_none (by omega)]at aH;simp at aH
 exact⟨aH.1,by omega,a8 v.toNat (zero_le _) c5 aH.2⟩
theorem adi (h:i3 l P) (k2:List Bool->Int->Option (List Bool)) (Cv:Int) (M:List Bool) (fH:M.length=P):cA (λm=>r3 k2 l m M Cv 0)=k2 (la l P P M) (i64.wrap (Cv+1)):=by
 have hle:=h.le;have key:∀r,r<=P->∀(M:List Bool) m,M.length=P->r<m->r3 k2 l m M Cv ((P-r:Nat):Int)=k2 (la l P r M) (i64.wrap (Cv+1)):=by
  intro r;induction r with
  |zero=>
   intro _ M m fH hm;obtain⟨m,rfl⟩:∃j,m=j+1:=⟨m-1,by omega⟩
   simp only[r3,Fi];rw[h.par,Nat.sub_zero,ey (Nat.le_refl _)];rfl
  |succ r ih=>
   intro aR M m fH hm;obtain⟨m,rfl⟩:∃j,m=j+1:=⟨m-1,by omega⟩
   have aC:P-(r+1)<P:=by omega
   simp only[r3,Fi,ya];rw[h.par,fj aC,sa M (P-(r+1)) false (by omega),eE (P-(r+1)) P aC (by omega),show P-(r+1)+1=P-r by omega];simp only[cond_true,bind_some,la,Int.toNat_natCast];cases bl:M.getD (P-(r+1)) false
   .rw[cond_false,if_neg (by simp),ih (by omega) M m fH (by omega)]
   .rw[cond_true,ade h M fH (oC M) (OS M) _ aC,bind_some];cases aj:jQ l (oC M) (P-(r+1))
    .rw[if_pos ⟨rfl,rfl⟩];exact ih (by omega) _ m (by simpa using fH) (by omega)
    .rw[if_neg (by simp)];exact ih (by omega) M m fH (by omega)
 refine gQ (P+1) λm hm=>?_;have:=key P (Nat.le_refl _) M m fH (by omega);rw[Nat.sub_self]at this;exact this
theorem adj (h:i3 l P):AY l=some (h0 l P):=by
 have hle:=h.le;unfold AY;rw[h.par,y3 1 (n:=P) (by omega) (by decide),bind_some,Int.toNat_natCast];have k2:∀k,k<=P+1->∀(M:List Bool) m,M.length=P->k<m->qZ l m M ((P+1-k:Nat):Int)=some (pt l P k M):=by
  intro k;induction k with
  |zero=>
   intro _ M m fH hm;obtain⟨m,rfl⟩:∃j,m=j+1:=⟨m-1,by omega⟩
   simp only[qZ,Fj];rw[h.par,show decide (((P+1-0:Nat):Int)<=(P:Int))=false by simp only[decide_eq_false_iff_not];omega];rfl
  |succ k ih=>
   intro aj M m fH hm;obtain⟨m,rfl⟩:∃j,m=j+1:=⟨m-1,by omega⟩
   simp only[qZ,Fj];rw[h.par,show decide (((P+1-(k+1):Nat):Int)<=(P:Int))=true by simp only[decide_eq_true_eq];omega,cond_true,adi h _ _ M fH,eE (P+1-(k+1)) (P+1) (by omega) (by omega),show P+1-(k+1)+1=P+1-k by omega];exact ih (by omega) _ m (by rw[HV];exact fH) (by omega)
 have cL:∀r,r<=P->∀m,r<m->vf l m (List.replicate (P-r) true++List.replicate r false) ((P-r:Nat):Int)=some (h0 l P):=by
  intro r;induction r with
  |zero=>
   intro _ m hm;obtain⟨m,rfl⟩:∃j,m=j+1:=⟨m-1,by omega⟩
   simp only[vf,Fk];rw[h.par,Nat.sub_zero,ey (Nat.le_refl _),cond_false,List.replicate_zero,List.append_nil];refine gQ (P+2) λm hm=>?_;have:=k2 (P+1) (Nat.le_refl _) (List.replicate P true) m (by simp) (by omega);rw[Nat.sub_self]at this;exact this
  |succ r ih=>
   intro aR m hm;obtain⟨m,rfl⟩:∃j,m=j+1:=⟨m-1,by omega⟩
   have aC:P-(r+1)<P:=by omega
   simp only[vf,Fk];rw[h.par,fj aC,sa _ (P-(r+1)) false (by simp only[List.length_append,List.length_replicate];omega),eE (P-(r+1)) P aC (by omega)];simp only[cond_true,bind_some,Int.toNat_natCast];rw[List.set_append_right _ _ (by simp),List.length_replicate,Nat.sub_self,List.replicate_succ,List.set_cons_zero];have e:List.replicate (P-(r+1)) true++true::List.replicate r false=List.replicate (P-r) true++List.replicate r false:=by
    rw[show P-r=(P-(r+1))+1 by omega,List.replicate_succ',List.append_assoc];rfl
   rw[e,show P-(r+1)+1=P-r by omega];exact ih (by omega) m (by omega)
 refine gQ (P+1) λm hm=>?_;have:=cL P (Nat.le_refl _) m (by omega);rw[Nat.sub_self,List.replicate_zero,List.nil_append]at this;exact this
end
end Go.nc
