/- Part of a proof that a law returns true for every input. No condition. -/
import Derived.Test.YteloniioljdceaaGreatDoorUV0x
import Derived.Test.YteloniioljdceaaGreatDoorP4
import Derived.Test.YteloniioljdceaaGreatDoorUV1x
namespace Go.lh
open List Option Go.IntKind Nat Or
open Go Go.ca
theorem F6 {α:Type} (d:List α) (x:α) (r:List α):cj (d++x::r) (d.length:Int)=some x:=by
 rw[hS _ _ (by simp)];simp
theorem Qp {α:Type} (d:List α) (x y:α) (r:List α):List.set (d++x::r) (Int.toNat (d.length:Int)) y=d++y::r:=by
 simp
theorem F7 {α:Type} (d:List α) (x:α) (r:List α):decide ((d.length:Int)<((d++x::r).length:Int))=true:=by simp;omega
theorem F8 {α:Type} {d:List α} (h:d.length<=1099511627776):i64.wrap ((d.length:Int)+1)=((d.length+1:Nat):Int):=by rw[dL _ (by omega)];omega
theorem F9 {α:Type} (f:α->Nat):∀a:List α,gJ (λx=>64*(f x+1)) a=64*gX f a
 |[]=>rfl
 |x::r=>by
  have:=F9 f r;unfold gX at this⊢;simp only[gJ,length_cons];omega
theorem Qq {α:Type} {l:Nat->List α->Int->Int->Option (Int×List α)} {hl:List α->Nat->Int->Int->RI} (w:α->Nat) (bj:∀m (v:List α) k,l (m+1) v k (v.length:Int)=some (k,v))
  (g0:∀(a:List α) m k,hl a (m+1) k (a.length:Int)=some k)
  (R:∀x (k:Int),0<=k->k+w x<=1099511627776->∃ct c,c<=w x/\∀m (d r:List α),d.length<=1099511627776->l (m+1) (d++x::r) k (d.length:Int)=l m (d++ct::r) (k+(c:Nat)) ((d.length+1:Nat):Int)/\
   hl (d++ct::r) (m+1) k (d.length:Int)=hl (d++ct::r) m (k+(c:Nat)) ((d.length+1:Nat):Int))
  (a:List α) (k:Int) (ag:0<=k) (mc:a.length<=1099511627776) (J:k+gJ w a<=1099511627776):∃bI c,c<=gJ w a/\eg (λn=>l n a k 0)=some (k+(c:Nat),bI)/\eg (λn=>hl bI n k 0)=some (k+(c:Nat)):=by
 have key:∀(r:List α) (k:Int),0<=k->k+gJ w r<=1099511627776->∃eM c,c<=gJ w r/\eM.length=r.length/\∀(d:List α) (m:Nat),d.length+r.length<=1099511627776->r.length<m->l m (d++r) k (d.length:Int)=some (k+(c:Nat),d++eM)/\
   hl (d++eM) m k (d.length:Int)=some (k+(c:Nat)):=by
  intro r;induction r with
  |nil=>
   intro k _ _;refine⟨[],0,Nat.le_refl _,rfl,λd m _ hm=>?_⟩;obtain⟨m,rfl⟩:∃j,m=j+1:=⟨m-1,by omega⟩
   rw[append_nil,bj,g0];simp
  |cons x r ih=>
   intro k U ab;simp only[gJ]at ab;obtain⟨ct,c,bb,c2⟩:=R x k U (by omega);obtain⟨eM,rK,aD,aJ,aG⟩:=ih (k+c) (by omega) (by omega);refine⟨ct::eM,c+rK,by simp only[gJ];omega,by simp only[length_cons,aJ],λd m ad hm=>?_⟩;simp only[length_cons]at ad hm;obtain⟨m,rfl⟩:∃j,m=j+1:=⟨m-1,by omega⟩
   rw[(c2 m d r (by omega)).1,(c2 m d eM (by omega)).2];have:=aG (d++[ct]) m (by simp only[length_append,length_cons,length_nil];omega) (by omega);simp only[length_append,length_cons,length_nil,append_assoc,cons_append,nil_append,Nat.zero_add]at this;rw[this.1,this.2];simp only[some.injEq,Prod.mk.injEq,and_true];exact⟨by omega,by omega⟩
 obtain⟨bI,c,aD,aJ,aG⟩:=key a k ag J;refine⟨bI,c,aD,ht (a.length+1) λm hm=>?_,ht (a.length+1) λm hm=>?_⟩
 .have:=(aG [] m (by simpa using mc) (by omega)).1;simpa using this
 .have:=(aG [] m (by simpa using mc) (by omega)).2;simpa using this
set_option linter.unusedSimpArgs false
def gM (x:aX):Nat:=(x.Label.length+0)
theorem Qr (x:aX) (h:(gM x)<=1048576):sP x x=some true:=by
 unfold sP;unfold gM at h;simp only[PC,PD,PE,cond_false,bind_some,Bool.not_true]
theorem Qs (x:RM) (h:(gX gM x)<=1048576):sQ x x=some true:=by
 unfold sQ;have hl:x.length<=1048576:=Nat.le_trans (Ff _ _) h;rw[PF,cond_false];exact PB (f:=sP) x (λ_ _=>rfl) (λy hy=>Qr y (Nat.le_trans (PA (f:=gM) hy) h)) hl
theorem Qt (k:Int) (bj:0<=k) (J:k<=1099511627776):∃t,sR k=some t:=by
 have key:∀(n:Nat) (k:Int),0<=k->k<=n->n<=1099511627776->∀t:RD,t.length+n<=1099511627776->∃r,∀m,n<m->po m k t=some r:=by
  intro n;induction n with
  |zero=>
   intro k U ab ay t aI;refine⟨[109]++t,λm hm=>?_⟩;obtain⟨m,rfl⟩:∃j,m=j+1:=⟨m-1,by omega⟩
   simp only[po,ve];rw[show decide (0<k)=false by simp;omega,cond_false,show ev (1+t.length)=some () by unfold ev;rw[if_pos (by omega)]];rfl
  |succ n ih=>
   intro k U ab ay t aI;by_cases ag:0<k
   .have ad:Int.tdiv k 10=k/10:=Int.tdiv_eq_ediv_of_nonneg U;have hw:i64.wrap (Int.tdiv k 10)=k/10:=by rw[ad];exact dL _ (by omega)
    obtain⟨r,ax⟩:=ih (k/10) (by omega) (by omega) (by omega) ([(hT (i64.wrap (48+(Int.tmod k 10))))]++t) (by simp only[length_append,length_cons,length_nil];omega);refine⟨r,λm hm=>?_⟩;obtain⟨m,rfl⟩:∃j,m=j+1:=⟨m-1,by omega⟩
    simp only[po,ve];rw[show decide (0<k)=true by simp;omega,cond_true,show ev (1+t.length)=some () by unfold ev;rw[if_pos (by omega)]];simp only[bind_some,hw];exact ax m (by omega)
   .refine⟨[109]++t,λm hm=>?_⟩;obtain⟨m,rfl⟩:∃j,m=j+1:=⟨m-1,by omega⟩
    simp only[po,ve];rw[show decide (0<k)=false by simp;omega,cond_false,show ev (1+t.length)=some () by unfold ev;rw[if_pos (by omega)]];rfl
 unfold sR;by_cases ag:k<=0
 .exact⟨_,by rw[show decide (k<=0)=true by simpa using ag];rfl⟩
 .obtain⟨r,ax⟩:=key k.toNat k bj (by omega) (by omega) [] (by simp only[length_nil];omega);exact⟨r,by rw[show decide (k<=0)=false by simp;omega,cond_false];exact ht (k.toNat+1) λm hm=>ax m (by omega)⟩
theorem Qu (x:RM) (k:Int) (bj:0<=k) (J:k+64*(gX gM x)<=1099511627776):∃(ct:RM) (c:Nat),c<=64*(gX gM x)/\vf x k=some (k+(c:Int),ct)/\sS ct k=some (k+(c:Int)):=by
 unfold vf sS;have e:gJ (λx=>64*((gM x)+1)) x=64*gX gM x:=F9 gM x;have hl:x.length<=gX gM x:=Ff _ _;obtain⟨ct,c,U,ab,ay⟩:=Qq (l:=qS) (hl:=qT) (λx=>64*((gM x)+1)) (λm v k=>by simp only[qS,yI];rw[j5 (Nat.le_refl _)];rfl) (λa m k=>by simp only[qT,yJ];rw[j5 (Nat.le_refl _)];rfl) (λx k bj J=>by
  simp only[gM]at J⊢;have lX:i64.wrap (k+1)=k+1:=dL _ (by omega);have dD:i64.wrap ((k+1)+1)=(k+1)+1:=dL _ (by omega);have uF:i64.wrap (((k+1)+1)+1)=((k+1)+1)+1:=dL _ (by omega);obtain⟨hI,t4⟩:=Qt (((k+1)+1)+1) (by omega) (by omega);have j0:i64.wrap ((((k+1)+1)+1)+1)=(((k+1)+1)+1)+1:=dL _ (by omega);refine⟨(aX.mk k (k+1) ((k+1)+1) hI),1+1+1+1,by omega,λm d r ad=>⟨?_,?_⟩⟩
  .simp only[qS,yI];rw[F7];simp only[cond_true,F6,Qp,bind_some,lX,dD,uF,t4,j0];rw[F8 ad];rw[show(((((k+1)+1)+1)+1):Int)=k+((1+1+1+1:Nat):Int) by omega]
  .simp only[qT,yJ];rw[F7];simp only[cond_true,cond_false,F6,bind_some,bne_self_eq_false,beq_self_eq_true,Bool.not_true,lX,dD,uF,t4,j0];rw[F8 ad];rw[show(((((k+1)+1)+1)+1):Int)=k+((1+1+1+1:Nat):Int) by omega]) x k bj (by omega) (by omega)
 exact⟨ct,c,by omega,ab,ay⟩
theorem F_ {t:RD} (h:(10:UInt8)∉t):qG t 10=some (-1):=by
 show some (e5 t 10)=_;rw[zF _ _ h]
theorem cutAt (p q:RD) (h:(10:UInt8)∉p):qG (p++10::q) 10=some (p.length:Int):=by
 show some (e5 (p++10::q) 10)=_;rw[zG _ _ _ h]
theorem Ga {t:RD} (hl:t.length<=1048576) (h:(10:UInt8)∉t):strings_TrimSuffix t [10]=some t:=
 Fq t hl λr e=>h (by rw[e];simp)
theorem zX {a p:RD} {f:Nat} (h:a.drop f=p) (i:Nat) (aC:f+i<a.length):cj a ((f+i:Nat):Int)=some (p.getD i 0)/\i<p.length:=by
 have af:p.length=a.length-f:=by rw[<-h];simp
 have cq:i<p.length:=by omega
 rw[hS a (f+i) aC];refine⟨?_,cq⟩;rw[getD_eq_getElem?_getD,getElem?_eq_getElem cq];simp only[getD_some];congr 1;subst h;rw[getElem_drop]
theorem Gb (p q:RD):c8 (p++10::q) ((p.length+1:Nat):Int) ((p++10::q).length:Int)=some q:=by
 have:=q1 (p++[10]) q [] (i:=((p.length+1:Nat):Int)) (j:=(((p++10::q).length:Nat):Int)) (by simp) (by simp;omega);simpa using this
theorem Qv (a:RD) (a1:a.length<=1048576) (o:RM) (c:Int) (f:Nat) (od:o.length<60) (g:Int->Nat->Option (RM×Int)):
  ∀(p q:RD) (i:Nat),(10:UInt8)∉p->a.drop i=p++10::q->∀m,p.length<m->iH a m o c (f:Int) (i:Int)=iH a (m-p.length) o c (f:Int) ((i+p.length:Nat):Int):=by
 intro p;induction p with
 |nil=>intro q i _ _ m _;rfl
 |cons y p ih=>
  intro q i af ad m hm;obtain⟨m,rfl⟩:∃j,m=j+1:=⟨m-1,by omega⟩
  have hlen:(a.drop i).length=a.length-i:=length_drop;rw[ad]at hlen;simp only[length_append,length_cons]at hlen;have aC:i<a.length:=by omega
  have hy:y≠10:=λe=>af (by rw[e];exact mem_cons_self);obtain⟨hg,_⟩:=zX ad 0 (by omega);rw[Nat.add_zero]at hg;have zY:a.drop (i+1)=p++10::q:=by
   have:=congrArg (drop 1) ad;simpa [drop_drop]using this
  have:=ih q (i+1) (λh=>af (mem_cons_of_mem _ h)) zY m (by simp at hm;omega);simp only[iH,pe,qB];rw[show decide (((i:Nat):Int)<(a.length:Int))=true from decide_eq_true (by omega),show decide ((o.length:Int)<60)=true from decide_eq_true (by omega),hg];simp only[Bool.and_self,cond_true,bind_some,cons_append,getD_cons_zero];rw[show((y.toNat:Int) !=10)=true from by
   simp only[bne_iff_ne,ne_eq];intro e;exact hy (UInt8.toNat_inj.1 (by show y.toNat=10;omega)),cond_true,dL _ (by omega),show((i:Int)+1)=((i+1:Nat):Int) by omega,this]
  congr 1
  .simp
  .simp;omega
theorem Qw (a:RD) (a1:a.length<=1048576) (o:RM) (c:Int) (f:Nat) (od:o.length<60):
  ∀(p:RD) (i:Nat),(10:UInt8)∉p->a.drop i=p->i<=a.length->∀m,p.length<m->iH a m o c (f:Int) (i:Int)=some (o,(f:Int)):=by
 intro p;induction p with
 |nil=>
  intro i _ ad aC m hm;obtain⟨m,rfl⟩:∃j,m=j+1:=⟨m-1,by omega⟩
  have hlen:(a.drop i).length=a.length-i:=length_drop;rw[ad]at hlen;simp at hlen;simp only[iH,pe,pd];rw[show decide (((i:Nat):Int)<(a.length:Int))=false from decide_eq_false (by omega)];rfl
 |cons y p ih=>
  intro i af ad Er m hm;obtain⟨m,rfl⟩:∃j,m=j+1:=⟨m-1,by omega⟩
  have hlen:(a.drop i).length=a.length-i:=length_drop;rw[ad]at hlen;simp only[length_cons]at hlen;have aC:i<a.length:=by omega
  have hy:y≠10:=λe=>af (by rw[e];exact mem_cons_self);obtain⟨hg,_⟩:=zX ad 0 (by omega);rw[Nat.add_zero]at hg;have zY:a.drop (i+1)=p:=by
   have:=congrArg (drop 1) ad;simpa [drop_drop]using this
  have:=ih (i+1) (λh=>af (mem_cons_of_mem _ h)) zY (by omega) m (by simp at hm;omega);simp only[iH,pe,qB];rw[show decide (((i:Nat):Int)<(a.length:Int))=true from decide_eq_true (by omega),show decide ((o.length:Int)<60)=true from decide_eq_true (by omega),hg];simp only[Bool.and_self,cond_true,bind_some,getD_cons_zero];rw[show((y.toNat:Int) !=10)=true from by
   simp only[bne_iff_ne,ne_eq];intro e;exact hy (UInt8.toNat_inj.1 (by show y.toNat=10;omega)),cond_true,dL _ (by omega),show((i:Int)+1)=((i+1:Nat):Int) by omega,this]
theorem Gc {α:Type} (f:α->Nat):∀(l r:List α),gJ f (l++r)=gJ f l+gJ f r
 |[],r=>by simp[gJ]
 |x::l,r=>by simp only[cons_append,gJ,Gc f l r];omega
theorem Qx {o:RM} {e:aX} {p q:RD} {c:Int} {n:Nat} (h:np e c=p) (aT:n<=gX gM (o++[e])+q.length):n<=gX gM o+(p++10::q).length:=by
 have U:e.Label.length+1<=p.length:=by
  rw[<-h];simp only[np,f_,length_append,length_cons,length_nil];omega
 have ab:gX gM (o++[e])=gX gM o+(e.Label.length+1):=by
  simp[gX,Gc,gJ,gM];omega
 simp only[length_append,length_cons];omega
theorem Qy (a:RD) (a1:a.length<=1048576):∀(n:Nat) (t:RD) (f:Nat) (o:RM) (c:Int),t.length<=n->a.drop f=t->f<=a.length->o.length<=60->0<=c/\c<=65535->
  ∃r,gX gM r.1<=gX gM o+t.length/\(∀m,t.length<m->iH a m o c (f:Int) (f:Int)=some r)/\∀m,t.length<m->jz m t o (f:Int) c=some r:=by
 intro n;induction n with
 |zero=>
  intro t f o c aI ad bq ba ae;have:t=[]:=length_eq_zero_iff.1 (by omega);subst this;have hlen:(a.drop f).length=a.length-f:=length_drop;rw[ad]at hlen;simp at hlen;refine⟨(o,f),le_add_right _ _,λm hm=>?_,λm hm=>?_⟩
  .obtain⟨m,rfl⟩:∃j,m=j+1:=⟨m-1,by omega⟩
   simp only[iH,pe,pd];rw[show decide (((f:Nat):Int)<(a.length:Int))=false from decide_eq_false (by omega)];rfl
  .obtain⟨m,rfl⟩:∃j,m=j+1:=⟨m-1,by omega⟩
   rw[jz,if_pos rfl]
 |succ n ih=>
  intro t f o c aI ad bq ba ae;by_cases bj:t=[]
  .subst bj;exact ih [] f o c (by simp) ad bq ba ae
  have hlen:(a.drop f).length=a.length-f:=length_drop;rw[ad]at hlen;have mf:t.length<=1048576:=by omega
  by_cases od:o.length=60
  .refine⟨(o,f),le_add_right _ _,λm hm=>?_,λm hm=>?_⟩
   .obtain⟨m,rfl⟩:∃j,m=j+1:=⟨m-1,by omega⟩
    simp only[iH,pe,pd];rw[show decide ((o.length:Int)<60)=false from decide_eq_false (by omega),Bool.and_false];rfl
   .obtain⟨m,rfl⟩:∃j,m=j+1:=⟨m-1,by omega⟩
    rw[jz,if_neg bj];by_cases nq:(10:UInt8)∈t
    .obtain⟨p,q,rfl,af⟩:=ti nq;have dZ:p.length<=1048576:=by simp at mf;omega
     rw[cutAt p q af,bind_some,if_pos (by omega)];rw[show((p.length:Int)+1)=((p.length+1:Nat):Int) by omega,zK p 10 q,bind_some,Gb p q];simp only[bind_some];obtain⟨e,he,lV,_⟩:=vX p dZ;rw[zH p dZ,bind_some,lV,bind_some,vW he ae,bind_some,if_pos (.inr (.inr od))]
    .obtain⟨e,he,lV,_⟩:=vX t mf;rw[F_ nq,bind_some,if_neg (by omega),bind_some];simp only;rw[Ga mf nq,bind_some,lV,bind_some,vW he ae,bind_some,if_pos (.inr (.inr od))]
  have Gd:o.length<60:=by omega
  by_cases nq:(10:UInt8)∈t
  .obtain⟨p,q,rfl,af⟩:=ti nq;simp only[length_append,length_cons]at hlen mf aI;have dZ:p.length<=1048576:=by omega
   obtain⟨e,he,lV,heq⟩:=vX p dZ;obtain⟨aG,s2,Qz,QA⟩:=Qo p c dZ ae;have QB:a.drop (f+p.length+1)=q:=by
    have:=congrArg (drop (p.length+1)) ad;rw[drop_drop]at this;rw[Nat.add_assoc,this,show p.length+1=(p++[10]).length by simp,show p++10::q=(p++[10])++q by simp,drop_left]
   have cZ:c8 a (f:Int) ((f+p.length:Nat):Int)=some p:=by
    unfold c8;rw[if_pos (by omega)];have:(a.take (f+p.length)).drop f=(a.drop f).take p.length:=by rw[drop_take,Nat.add_sub_cancel_left]
    rw[Int.toNat_natCast,Int.toNat_natCast,this,ad,take_left]
   have lT:cj a ((f+p.length:Nat):Int)=some 10:=by
    have:=(zX ad p.length (by omega)).1;rw[this];simp
   have Ge:∀m,p.length<m->iH a m o c (f:Int) (f:Int)=(cond (!(gY (cc 32 p)&&(np (gw (cc 32 p)) c==p))) (some (o,(f:Int))) (iH a (m-p.length-1) (o++[aG]) s2 ((f+p.length+1:Nat):Int) ((f+p.length+1:Nat):Int))):=by
    intro m hm;rw[Qv a a1 o c f Gd (λ_ _=>none) p q f af ad m hm];obtain⟨k,ag⟩:∃k,m-p.length=k+1:=⟨m-p.length-1,by omega⟩
    rw[ag];simp only[iH,pe,qB,pd];rw[show decide (((f+p.length:Nat):Int)<(a.length:Int))=true from decide_eq_true (by omega),show decide ((o.length:Int)<60)=true from decide_eq_true (by omega),lT];simp only[Bool.and_self,cond_true,bind_some];rw[show(((10:UInt8).toNat:Int) !=10)=false from rfl,cond_false,cZ,bind_some,Qz,bind_some,nk (by omega) (by omega),bind_some,dL _ (by omega),show(((f+p.length:Nat):Int)+1)=((f+p.length+1:Nat):Int) by omega,Nat.add_sub_cancel]
   have Gf:∀m,jz (m+1) (p++10::q) o (f:Int) c=if gY (cc 32 p)=false\/np e c++[10]≠p++[10]\/o.length=60 then some (o,(f:Int))else jz m q (o++[e]) ((f+p.length+1:Nat):Int) (j6 (f_ e) c):=by
    intro m;rw[jz,if_neg (by simp),cutAt p q af,bind_some,if_pos (by omega)];rw[show((p.length:Int)+1)=((p.length+1:Nat):Int) by omega,zK p 10 q,bind_some,Gb p q];simp only[bind_some];rw[zH p dZ,bind_some,lV,bind_some,vW he ae,bind_some];simp only;rw[show i64.wrap ((f:Int)+((p++[10]:RD).length:Int))=((f+p.length+1:Nat):Int)from by
     rw[dL _ (by simp;omega)];simp;omega]
   by_cases dI:gY (cc 32 p)=true/\np (gw (cc 32 p)) c=p
   .obtain⟨vZ,zZ⟩:=dI;have aD:=heq vZ;obtain⟨aJ,bp⟩:=QA vZ;subst aD;subst aJ;have mw:=vV (f_ (gw (cc 32 p))) c ae;obtain⟨r,ax,U,ab⟩:=ih q (f+p.length+1) (o++[gw (cc 32 p)]) (j6 (f_ (gw (cc 32 p))) c) (by omega) QB (by omega) (by simp;omega) mw;refine⟨r,Qx zZ ax,λm hm=>?_,λm hm=>?_⟩
    .simp only[length_append,length_cons]at hm;rw[Ge m (by omega),vZ,zZ,bp];simp only[beq_self_eq_true,Bool.and_self,Bool.not_true,cond_false];exact U _ (by omega)
    .simp only[length_append,length_cons]at hm;obtain⟨m,rfl⟩:∃j,m=j+1:=⟨m-1,by omega⟩
     rw[Gf m,if_neg (by rw[vZ,zZ];simp[od])];exact ab _ (by omega)
   .refine⟨(o,f),le_add_right _ _,λm hm=>?_,λm hm=>?_⟩
    .simp only[length_append,length_cons]at hm;rw[Ge m (by omega)];have:(gY (cc 32 p)&&(np (gw (cc 32 p)) c==p))=false:=by
      cases h:gY (cc 32 p)with
      |false=>rfl
      |true=>
       rw[Bool.true_and];simpa using λab=>dI ⟨h,ab⟩
     rw[this];rfl
    .obtain⟨m,rfl⟩:∃j,m=j+1:=⟨m-1,by omega⟩
     rw[Gf m,if_pos];cases h:gY (cc 32 p)with
     |false=>exact .inl rfl
     |true=>
      refine .inr (.inl λab=>dI ⟨h,?_⟩);rw[<-heq h];exact append_cancel_right ab
  .refine⟨(o,f),le_add_right _ _,λm hm=>Qw a a1 o c f Gd t f nq ad bq m hm,λm hm=>?_⟩;obtain⟨m,rfl⟩:∃j,m=j+1:=⟨m-1,by omega⟩
   obtain⟨e,he,lV,_⟩:=vX t mf;rw[jz,if_neg bj,F_ nq,bind_some,if_neg (by omega),bind_some];simp only;rw[Ga mf nq,bind_some,lV,bind_some,vW he ae,bind_some,if_pos];refine .inr (.inl λh=>nq ?_);rw[<-h];simp
theorem QC (a:RD) (a1:a.length<=1048576):∃r,gX gM r.1<=a.length/\uY a=some r/\qR a=some r:=by
 obtain⟨r,bj,U,ab⟩:=Qy a a1 a.length a 0 [] 65535 (Nat.le_refl _) rfl (by omega) (by simp) (by omega);refine⟨r,by simpa [gX,gJ]using bj,?_,?_⟩
 .unfold uY;exact ht (a.length+1) λm hm=>by simpa using U m (by omega)
 .unfold qR;rw[if_pos a1];simpa using ab (a.length+1) (by omega)
theorem Pp (a:RD):yK a=some true:=by
 unfold yK;by_cases a1:a.length<=1048576
 .rw[show decide ((1048576:Int)<(a.length:Int))=false from decide_eq_false (by omega),cond_false];obtain⟨r,R,U,ab⟩:=QC a a1;have key:∃v,gX gM v.1<=1048576/\uZ a=some v/\sO a=some v:=by
   unfold uZ sO;rw[U,ab];simp only[bind_some];cases J:decide (4000<(a.length:Int))
   .exact⟨r,by omega,rfl,rfl⟩
   .exact⟨_,by simp[gX,gJ],rfl,rfl⟩
  obtain⟨v,az,bA,bN⟩:=key;obtain⟨x,c,ae,m1,m2⟩:=Qu v.1 1 (by omega) (by omega);rw[bA,bN];simp only[bind_some,Qs v.1 az,m1,m2,beq_self_eq_true,Bool.not_true,Bool.or_self,cond_false];rw[show decide ((1:Int)+(c:Int)<0)=false from decide_eq_false (by omega),show((1:Int)+(c:Int) !=1+(c:Int))=false from by simp];simp
 .rw[show decide ((1048576:Int)<(a.length:Int))=true from decide_eq_true (by omega)];rfl
end Go.lh
