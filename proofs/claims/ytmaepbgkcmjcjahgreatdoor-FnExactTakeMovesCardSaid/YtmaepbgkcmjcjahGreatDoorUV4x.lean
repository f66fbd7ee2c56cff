/- Part of a proof that a law returns true for every input. No condition. -/
import Derived.Test.YtmaepbgkcmjcjahGreatDoorUV3x
namespace Go.k6
open Option Go.IntKind Nat Or
open Go Go.ei
mutual
def jO:dG->azu
 | .mk t a=>t::ke a
def ke:List dG->azu
 |[]=>[]
 |x::r=>jO x++ke r
end
mutual
def lg:dG->Nat
 | .mk _ a=>1+mx a
def mx:List dG->Nat
 |[]=>0
 |x::r=>lg x+mx r
end
mutual
def tX:dG->Prop
 | .mk t a=>a.length=np t/\tY a
def tY:List dG->Prop
 |[]=>True
 |x::r=>tX x/\tY r
end
theorem abW (x:dG):dG.mk x.term x.args=x:=by cases x;rfl
theorem au3 (x:dG):jO x=x.term::ke x.args:=by cases x;simp[jO,dG.term,dG.args]
mutual
theorem TA:∀x,(jO x).length=lg x
 | .mk t a=>by simp only[jO,lg,List.length_cons,Ij a];omega
theorem Ij:∀a,(ke a).length=mx a
 |[]=>by simp only[ke,mx,List.length_nil]
 |x::r=>by simp only[ke,mx,List.length_append,TA x,Ij r]
end
theorem L_:∀a b,ke (a++b)=ke a++ke b
 |[],b=>by simp only[ke,List.nil_append]
 |x::r,b=>by simp only[List.cons_append,ke,L_ r b,List.append_assoc]
theorem TB:∀a b,tY (a++b)↔tY a/\tY b
 |[],b=>by simp[tY]
 |x::r,b=>by simp only[List.cons_append,tY,TB r b];exact⟨λ⟨a,b,c⟩=>⟨⟨a,b⟩,c⟩,λ⟨⟨a,b⟩,c⟩=>⟨a,b,c⟩⟩
theorem TC:∀{a:List dG},tY a->∀x∈a,tX x
 |y::r,h,x,aq=>by
  rcases List.mem_cons.1 aq with rfl|aq
  .exact h.1
  .exact TC h.2 x aq
theorem TD:∀{a:List dG},∀x∈a,lg x<=mx a
 |y::r,x,aq=>by
  simp only[mx];rcases List.mem_cons.1 aq with rfl|aq
  .omega
  .have:=TD x aq;omega
theorem Eh (x:dG):1<=lg x:=by cases x;simp only[lg];omega
theorem au4 (x:dG):lg x=1+mx x.args:=by cases x;simp[lg,dG.args]
theorem au5 (x:dG):tX x↔x.args.length=np x.term/\tY x.args:=by cases x;simp[tX,dG.args,dG.term]
theorem abX (v:Int):∀(e:azu) (k:Nat),sy v e k=true->∃xs:List dG,xs.length=k/\tY xs/\ke xs=e
 |[],k,h=>by
  simp only[sy,beq_iff_eq]at h;subst h;exact⟨[],rfl,trivial,by simp only[ke]⟩
 |t::r,k,h=>by
  simp only[sy,Bool.and_eq_true,Bool.not_eq_true',beq_eq_false_iff_ne]at h;obtain⟨aw,bb,aS⟩:=h;obtain⟨c1,ad,ag,aD⟩:=abX v r _ aS;refine⟨.mk t (c1.take (np t))::c1.drop (np t),?_,?_,?_⟩
  .simp;omega
  .have aa:=List.take_append_drop (np t) c1;have hw:=(TB (c1.take (np t)) (c1.drop (np t))).1 (by rw[aa];exact ag);exact⟨⟨by simp;omega,hw.1⟩,hw.2⟩
  .simp only[ke,jO,List.cons_append];rw[<-L_,List.take_append_drop,aD]
theorem au6 {v most:Int} {e:azu} (h:pY e v most=true):∃x,tX x/\jO x=e:=by
 simp only[pY,Bool.and_eq_true]at h;obtain⟨xs,ad,ag,aD⟩:=abX v e 1 h.2;cases xs with
 |nil=>simp at ad
 |cons x r=>
  cases r with
  |nil=>exact⟨x,ag.1,by simpa [ke]using aD⟩
  |cons y r=>simp at ad
theorem au7 (rec:azu->Option (bV×List dG×azu)) (t:bV) (a:List dG) (rest:azu) (bo:a.length<=1000)
  (L4:∀x∈a,∀rest,rec (jO x++rest)=some (x.term,x.args,rest)):b5 (λn=>Ae rec t (a.length:Int) n [] (ke a++rest) 0)=some (t,a,rest):=by
 have key:∀i,i<=a.length->∀m,a.length-i<m->Ae rec t (a.length:Int) m (a.take i) (ke (a.drop i)++rest) (i:Int)=some (t,a,rest):=by
  refine down a.length ?_ ?_
  .intro m hm;obtain⟨m,rfl⟩:∃j,m=j+1:=⟨m-1,by omega⟩
   simp only[Ae,Qx];rw[eh (Nat.le_refl _)];simp[ke]
  .intro i ai ih m hm;obtain⟨m,rfl⟩:∃j,m=j+1:=⟨m-1,by omega⟩
   simp only[Ae,Qx];rw[ev ai,et i _ ai (by omega),drop_cons a i ai];simp only[cond_true,ke,List.append_assoc];rw[L4 _ (List.getElem_mem ai)];simp only[bind_some];rw[lJ (by simp;omega) (by simp;omega),abW];simp only[bind_some];have abY:=ih m (by omega);rw[List.take_succ_eq_append_getElem ai]at abY;exact abY
 refine e5 (a.length+1) λm hm=>?_;have:=key 0 (by omega) m (by omega);simpa using this
theorem au8 (n:Nat):∀x,tX x->lg x<=n->∀rest,C4 n (jO x++rest)=some (x.term,x.args,rest):=by
 induction n with
 |zero=>intro x _ h;have:=Eh x;omega
 |succ n ih=>
  intro x hw aa rest;obtain⟨ad,ag⟩:=(au5 x).1 hw;have fa:=au4 x;simp only[C4,Qy,au3,List.cons_append,H5,bind_some,as1,abm,<-ad];refine au7 _ _ _ _ (by have:=L2 x.term;omega) λy hy rest=>ih y (TC ag y hy) ?_ rest;have:=TD y hy;omega
theorem au9 (x:dG) (hw:tX x):KM (jO x)=some (x.term,x.args):=by
 unfold KM Qz;rw[e5 (x:=some (x.term,x.args,[])) (lg x) λn aV=>by
  have:=au8 n x hw aV [];simpa using this]
 rfl
def Bg (op a b:Int):Int:=
 cond (op==0) (Int.tmod (i64.wrap (a+b)) 64) (cond (op==1) (Int.tmod (i64.wrap ((i64.wrap (a-b))+64)) 64) (cond (op==2) (Int.tmod (i64.wrap (a*b)) 64) (cond (op==3) (xa (a==b)) (cond (op==4) (xa (a !=b)) (cond (op==5) (xa (decide (a<b))) (cond (op==6) (xa (decide (a<=b))) (cond (op==7) (xa ((a !=0)&&(b !=0))) (xa ((a !=0)||(b !=0))))))))))
theorem au_ (op a b:Int):KN op a b=some (Bg op a b):=by
 unfold KN Bg r3;simp only[LZ,bind_some];cases op==0<;>cases op==1<;>cases op==2<;>cases op==3<;>cases op==4<;>cases op==5<;>cases op==6<;>cases op==7<;>cases a !=0<;>cases b !=0<;>rfl
theorem ava (op a b:Int):J_ op a b=some (Bg op a b):=by
 unfold J_ Bg rW;simp only[LZ,bind_some];cases op==0<;>cases op==1<;>cases op==2<;>cases op==3<;>cases op==4<;>cases op==5<;>cases op==6<;>cases op==7<;>cases a !=0<;>cases b !=0<;>rfl
def Bh (t:bV) (l:aze):Int:=cond (t.Kind==3) (xa (l.getD 0 0==0)) (Bg t.Value (l.getD 0 0) (l.getD 1 0))
theorem TE:∀a:List dG,a.length<=mx a
 |[]=>zero_le _
 |x::r=>by have:=TE r;have:=Eh x;simp only[List.length_cons,mx];omega
theorem avb (e:azu) (he:e.length<=1048576) (rest:azu):∀(n:Nat) (xs:List dG) (i:Nat),tY xs->mx xs=n->n<=1000000->i<=e.length->e.drop i=ke xs++rest->∀m,n<m->
  Cs e m (i:Int) (xs.length:Int)=some ((i+n:Nat):Int):=by
 intro n;induction n with
 |zero=>
  intro xs i _ aa _ _ _ m hm;obtain⟨m,rfl⟩:∃j,m=j+1:=⟨m-1,by omega⟩
  have:xs=[]:=by
   cases xs with
   |nil=>rfl
   |cons x r=>simp only[mx]at aa;have:=Eh x;omega
  subst this;simp only[Cs,PB];have:decide ((0:Int)<(([]:List dG).length:Int))=false:=by decide
  rw[this];rfl
 |succ n ih=>
  intro xs i hw aa aq ai ao m hm;obtain⟨m,rfl⟩:∃j,m=j+1:=⟨m-1,by omega⟩
  cases xs with
  |nil=>simp[mx]at aa
  |cons x r=>
   obtain⟨t,a⟩:=x;have abZ:=hw.1;simp only[ke,jO,List.cons_append,List.append_assoc]at ao;have eN:i<e.length:=by
    rcases Nat.lt_or_ge i e.length with h|h
    .exact h
    .rw[List.drop_of_length_le h]at ao;cases ao
   rw[drop_cons e i eN]at ao;injection ao with ad ag;simp only[Cs,PB];have d1:decide ((0:Int)<((dG.mk t a::r).length:Int))=true:=by simp
   have bo:=L2 t;have wh:a.length=np t:=abZ.1;rw[d1,dX _ i eN,ad,et i _ eN (by omega)];simp only[cond_true,bind_some,abl];rw[Tm (k:=(dG.mk t a::r).length) (by simp) (by have:=TE (dG.mk t a::r);omega) bo];have hlen:(dG.mk t a::r).length+np t-1=(a++r).length:=by simp;omega
   have ayT:=TE (dG.mk t a::r);rw[hlen,ih (a++r) (i+1) ((TB a r).2 ⟨abZ.2,hw.2⟩) (by
    have:∀a b,mx (a++b)=mx a+mx b:=by
     intro a b;rw[<-Ij,<-Ij,<-Ij,L_,List.length_append]
    rw[this];simp only[mx,lg]at aa;omega) (by omega) (by omega) (by rw[L_,List.append_assoc];exact ag) m (by omega)]
   congr 1;omega
mutual
def nP (a:aze):dG->Int
 | .mk t xs=>cond (t.Kind==0) t.Value (cond (t.Kind==1) (a.getD t.Value.toNat 0) (Bh t (tZ a xs)))
def tZ (a:aze):List dG->aze
 |[]=>[]
 |x::r=>nP a x::tZ a r
end
theorem ab0 (v:Int):∀(e:azu) (k:Nat),sy v e k=true->∀t∈e,pe t v=true
 |[],_,_,_,h=>by cases h
 |t::r,k,h,u,hu=>by
  simp only[sy,Bool.and_eq_true]at h;rcases List.mem_cons.1 hu with rfl|hu
  .exact h.2.1
  .exact ab0 v r _ h.2.2 u hu
theorem TF {t:bV} {v:Int} (h:pe t v=true):(t.Kind=0/\0<=t.Value/\t.Value<=63)\/(t.Kind=1/\0<=t.Value/\t.Value<=v-1)\/(t.Kind=2/\np t=2)\/(t.Kind=3/\np t=1):=by
 unfold pe sx at h;by_cases bc:t.Kind=0
 .simp only[bc,beq_self_eq_true,cond_true,Bool.and_eq_true,decide_eq_true_eq]at h;exact .inl ⟨bc,h⟩
 .have gi:(t.Kind==0)=false:=by simpa using bc
  rw[gi,cond_false]at h;by_cases ad:t.Kind=1
  .simp only[ad,beq_self_eq_true,cond_true,Bool.and_eq_true,decide_eq_true_eq]at h;exact .inr (.inl ⟨ad,h⟩)
  .have aR:(t.Kind==1)=false:=by simpa using ad
   rw[aR,cond_false]at h;by_cases ag:t.Kind=2
   .exact .inr (.inr (.inl ⟨ag,by simp[np,ag]⟩))
   .have aW:(t.Kind==2)=false:=by simpa using ag
    rw[aW,cond_false]at h;by_cases aD:t.Kind=3
    .exact .inr (.inr (.inr ⟨aD,by simp[np,aD]⟩))
    .have aU:(t.Kind==3)=false:=by simpa using aD
     rw[aU,cond_false]at h;cases h
theorem ab1 {α:Type} {l:List α} (h:l.length=1):∃x,l=[x]:=by
 match l,h with
 |[x],_=>exact⟨x,rfl⟩
theorem ab2 {α:Type} {l:List α} (h:l.length=2):∃x y,l=[x,y]:=by
 match l,h with
 |[x,y],_=>exact⟨x,y,rfl⟩
theorem avc (a:aze):∀(n:Nat) (x:dG),tX x->lg x<=n->(∀t∈jO x,pe t a.length=true)->Af n x a=some (nP a x):=by
 intro n;induction n with
 |zero=>intro x _ h;have:=Eh x;omega
 |succ n ih=>
  rintro⟨t,xs⟩ hw aa bb;obtain⟨ad,ag⟩:=hw;simp only[lg]at aa;simp only[jO,List.mem_cons]at bb;have iH:∀y∈xs,Af n y a=some (nP a y):=λy hy=>by
   refine ih y (TC ag y hy) (by have:=TD y hy;omega) λu hu=>bb u (.inr ?_);have f_:∀(l:List dG),y∈l->u∈ke l:=by
    intro l;induction l with
    |nil=>intro h;cases h
    |cons z r TG=>
     intro h;simp only[ke,List.mem_append];rcases List.mem_cons.1 h with rfl|h
     .exact .inl hu
     .exact .inr (TG h)
   exact f_ xs hy
  simp only[Af,QA,dG.term,dG.args];rcases TF (bb t (.inl rfl))with⟨k,bX,cu⟩|⟨k,bX,cu⟩|⟨k,bX⟩|⟨k,bX⟩
  .simp only[nP,k,beq_self_eq_true,cond_true]
  .obtain⟨j,bG⟩:∃j:Nat,t.Value=j:=⟨t.Value.toNat,by omega⟩
   have qN:j<a.length:=by omega
   simp only[nP,k,bG,dX a j qN,Int.toNat_natCast,List.getD_eq_getElem?_getD,List.getElem?_eq_getElem qN,getD_some,bind_some,beq_self_eq_true,cond_true,show((1:Int)==0)=false from rfl,cond_false]
  .obtain⟨y,z,rfl⟩:=ab2 (ad.trans bX);have aR:bj [y,z] 0=some y:=rfl;have aW:bj [y,z] 1=some z:=rfl;simp only[nP,tZ,Bh,k,aR,aW,iH y (by simp),iH z (by simp),au_,bind_some,show((2:Int)==0)=false from rfl,show((2:Int)==1)=false from rfl,show((2:Int)==3)=false from rfl,cond_false];rfl
  .obtain⟨y,rfl⟩:=ab1 (ad.trans bX);have aR:bj [y] 0=some y:=rfl;simp only[nP,tZ,Bh,k,aR,iH y (by simp),r3,LZ,bind_some,show((3:Int)==0)=false from rfl,show((3:Int)==1)=false from rfl,beq_self_eq_true,cond_true,cond_false];rfl
theorem avd (a:aze) (x:dG) (hw:tX x) (bb:∀t∈jO x,pe t a.length=true):C6 (jO x) a=some (nP a x):=by
 unfold C6;rw[au9 x hw];simp only[bind_some,abW];unfold QB;rw[e5 (x:=some (nP a x)) (lg x) λn aV=>avc a n x hw aV bb];rfl
theorem ave (a:aze) (e:azu) (he:e.length<=1000000):∀(n:Nat) (x:dG) (i:Nat) (rest:azu),tX x->lg x<=n->(∀t∈jO x,pe t a.length=true)->e.drop i=jO x++rest->
  zQ n e a (i:Int)=some (nP a x):=by
 intro n;induction n with
 |zero=>intro x _ _ _ h;have:=Eh x;omega
 |succ n ih=>
  rintro⟨t,xs⟩ i rest hw aa bb ao;obtain⟨ad,ag⟩:=hw;simp only[lg]at aa;simp only[jO,List.mem_cons,List.cons_append]at bb ao;have eN:i<e.length:=by
   rcases Nat.lt_or_ge i e.length with h|h
   .exact h
   .rw[List.drop_of_length_le h]at ao;cases ao
  have hE:e.drop (i+1)=ke xs++rest:=by
   rw[drop_cons e i eN]at ao;injection ao
  have hg:bj e (i:Int)=some t:=by
   rw[dX e i eN];rw[drop_cons e i eN]at ao;injection ao with h _;rw[h]
  simp only[zQ,PC,hg,bind_some];rw[et i _ eN (by omega)];rcases TF (bb t (.inl rfl))with⟨k,bX,cu⟩|⟨k,bX,cu⟩|⟨k,bX⟩|⟨k,bX⟩
  .simp only[nP,k,beq_self_eq_true,cond_true]
  .obtain⟨j,bG⟩:∃j:Nat,t.Value=j:=⟨t.Value.toNat,by omega⟩
   have qN:j<a.length:=by omega
   simp only[nP,k,bG,dX a j qN,Int.toNat_natCast,List.getD_eq_getElem?_getD,List.getElem?_eq_getElem qN,getD_some,bind_some,beq_self_eq_true,cond_true,show((1:Int)==0)=false from rfl,cond_false]
  .obtain⟨y,z,rfl⟩:=ab2 (ad.trans bX);simp only[ke,List.append_nil,List.append_assoc,List.mem_append]at bb hE;simp only[mx]at aa;have ek:=ih y (i+1) (jO z++rest) ag.1 (by omega) (λu hu=>bb u (.inr (.inl hu))) hE;have ayU:lg y<=e.length:=by
    have:=congrArg List.length hE;simp only[List.length_drop,List.length_append,TA]at this;omega
   have bf:J9 e ((i+1:Nat):Int)=some ((i+1+lg y:Nat):Int):=by
    unfold J9;refine e5 (lg y+1) λm hm=>?_;exact avb e (by omega) (jO z++rest) (lg y) [y] (i+1) ⟨ag.1,trivial⟩ (by simp[mx]) (by omega) (by omega) (by simpa [ke]using hE) m (by omega)
   have avf:e.drop (i+1+lg y)=jO z++rest:=by
    rw[<-List.drop_drop,hE,<-TA,List.drop_left]
   have dA:=ih z (i+1+lg y) rest ag.2.1 (by omega) (λu hu=>bb u (.inr (.inr hu))) avf;simp only[nP,tZ,Bh,k,ek,bf,dA,ava,bind_some,show((2:Int)==0)=false from rfl,show((2:Int)==1)=false from rfl,show((2:Int)==3)=false from rfl,cond_false];rfl
  .obtain⟨y,rfl⟩:=ab1 (ad.trans bX);simp only[ke,List.append_nil,List.mem_append]at bb hE;simp only[mx]at aa;have ek:=ih y (i+1) rest ag.1 (by omega) (λu hu=>bb u (.inr hu)) hE;simp only[nP,tZ,Bh,k,ek,rW,LZ,bind_some,show((3:Int)==0)=false from rfl,show((3:Int)==1)=false from rfl,beq_self_eq_true,cond_true,cond_false];rfl
theorem avg (a:aze) (x:dG) (hw:tX x) (hl:(jO x).length<=1000000) (bb:∀t∈jO x,pe t a.length=true):zR (jO x) a=some (nP a x):=by
 unfold zR PD;have gi:=e5 (f:=λn=>zQ n (jO x) a 0) (x:=some (nP a x)) (lg x) λn aV=>ave a (jO x) hl n x 0 [] hw aV bb (by simp);rw[gi];rfl
def fZ (x:Int):Prop:=0<=x/\x<=63
theorem Ei (b:Bool):fZ (xa b):=by cases b<;>exact⟨by decide,by decide⟩
theorem avh (op a b:Int) (bo:fZ a) (ab:fZ b):fZ (Bg op a b):=by
 unfold fZ at bo ab;unfold Bg;cases op==0
 .cases op==1
  .cases op==2
   .cases op==3<;>(try exact Ei _)
    cases op==4<;>(try exact Ei _)
    cases op==5<;>(try exact Ei _)
    cases op==6<;>(try exact Ei _)
    cases op==7<;>exact Ei _
   .have ad:0<=a*b:=Int.mul_nonneg bo.1 ab.1;have ag:a*b<=63*63:=Int.mul_le_mul bo.2 ab.2 ab.1 (by decide);show fZ (Int.tmod (i64.wrap (a*b)) 64);rw[eE _ (by omega)];unfold fZ;rw[Int.tmod_eq_emod_of_nonneg ad];omega
  .show fZ (Int.tmod (i64.wrap ((i64.wrap (a-b))+64)) 64);rw[eE (a-b) (by omega),eE _ (by omega)];unfold fZ;rw[Int.tmod_eq_emod_of_nonneg (by omega)];omega
 .show fZ (Int.tmod (i64.wrap (a+b)) 64);rw[eE _ (by omega)];unfold fZ;rw[Int.tmod_eq_emod_of_nonneg (by omega)];omega
theorem avi (a:aze) (bo:∀x∈a,fZ x):∀(n:Nat) (x:dG),lg x<=n->(∀t∈jO x,pe t a.length=true)->fZ (nP a x):=by
 intro n;induction n with
 |zero=>intro x h;have:=Eh x;omega
 |succ n ih=>
  rintro⟨t,xs⟩ aa bb;simp only[lg]at aa;simp only[jO,List.mem_cons]at bb;have iH:∀i,fZ ((tZ a xs).getD i 0):=by
   have key:∀l:List dG,mx l<=n->(∀t∈ke l,pe t a.length=true)->∀i,fZ ((tZ a l).getD i 0):=by
    intro l;induction l with
    |nil=>intro _ _ i;simp only[tZ,List.getD_nil];exact⟨by decide,by decide⟩
    |cons y r TG=>
     intro ad ag i;simp only[mx]at ad;simp only[ke,List.mem_append]at ag;cases i with
     |zero=>simp only[tZ,List.getD_cons_zero];exact ih y (by omega) λu hu=>ag u (.inl hu)
     |succ i=>simp only[tZ,List.getD_cons_succ];exact TG (by omega) (λu hu=>ag u (.inr hu)) i
   exact key xs (by omega) λu hu=>bb u (.inr hu)
  simp only[nP];rcases TF (bb t (.inl rfl))with⟨k,bX,cu⟩|⟨k,bX,cu⟩|⟨k,bX⟩|⟨k,bX⟩
  .simp only[k,beq_self_eq_true,cond_true];exact⟨bX,cu⟩
  .have qN:t.Value.toNat<a.length:=by omega
   simp only[k,show((1:Int)==0)=false from rfl,beq_self_eq_true,cond_true,cond_false,List.getD_eq_getElem?_getD,List.getElem?_eq_getElem qN,getD_some];exact bo _ (List.getElem_mem qN)
  .simp only[k,show((2:Int)==0)=false from rfl,show((2:Int)==1)=false from rfl,show((2:Int)==3)=false from rfl,cond_false,Bh];exact avh _ _ _ (iH 0) (iH 1)
  .simp only[k,show((3:Int)==0)=false from rfl,show((3:Int)==1)=false from rfl,beq_self_eq_true,cond_true,cond_false,Bh];exact Ei _
noncomputable def sD (a:aze) (e:azu):Int:=(zR e a).getD 0
theorem Ma {a:aze} {e:azu} {most:Int} (hm:most<=1000) (h:pY e a.length most=true):zR e a=some (sD a e)/\C6 e a=some (sD a e)/\((∀x∈a,fZ x)->fZ (sD a e)):=by
 obtain⟨x,hw,rfl⟩:=au6 h;simp only[pY,Bool.and_eq_true,decide_eq_true_eq]at h;have bb:=ab0 _ _ _ h.2;have he:(jO x).length<=1000000:=by omega
 have aR:=avg a x hw he bb;have aW:sD a (jO x)=nP a x:=by unfold sD;rw[aR];rfl
 rw[aW];exact⟨aR,avd a x hw bb,λbo=>avi a bo _ x (Nat.le_refl _) bb⟩
theorem xm {n:Int} {P:Prop} (h:some n=some (0:Int)) (aV:n≠0):P:=absurd (some.inj h) aV
theorem avj {d:a6} {a2:Int} {p:ca} {v:Bool} (h:th d a2 p v=some 0):
  ∃aI,wj d a2=some aI/\((p.Kind==4)&&decide (6<=aI))=false/\b5 (λn=>yf p n aI 0)=some 0:=by
 unfold th at h;rcases dH h with⟨_,h⟩|⟨_,h⟩
 .exact xm h (by decide)
 obtain⟨aI,aU,h⟩:=an h;rcases dH h with⟨_,h⟩|⟨bh,h⟩
 .exact xm h (by decide)
 exact⟨aI,aU,bh,h⟩
theorem Mb {d:a6} {a2:Int} {p:ca} (h:wk d a2 p=some 0):∃v,th d a2 p v=some 0:=by
 unfold wk at h;rcases dH h with⟨_,h⟩|⟨_,h⟩
 .rcases dH h with⟨_,h⟩|⟨_,h⟩
  .exact⟨_,h⟩
  .obtain⟨aZ,_,h⟩:=an h;exact⟨_,h⟩
 .exact⟨_,h⟩
theorem Mc {e:azw} {d:a6} {a2:Int} {p:ca} {v:Bool} (h:uQ e d a2 p v=some 0):
  v=false/\(p.Kind=1->p.cl.length<=2/\((p.Name==([116,97,117]:azc))=true->p.cl.length=0))/\(p.Kind=3->p.cl.length=1)/\
   (p.Kind=5->∃bq,bj e p.Number=some bq/\(p.cl.length:Int)=bq.dU)/\∃v,th d a2 p v=some 0:=by
 unfold uQ at h;rcases dH h with⟨_,h⟩|⟨aF,h⟩
 .exact xm h (by decide)
 refine⟨aF,?_⟩;rcases dH h with⟨k,h⟩|⟨k,h⟩
 .have k:=eq_of_beq k;rcases dH h with⟨_,h⟩|⟨g,h⟩
  .exact xm h (by decide)
  rw[Bool.or_eq_false_iff,Bool.and_eq_false_iff,decide_eq_false_iff_not,decide_eq_false_iff_not]at g;refine⟨λ_=>⟨by omega,λbb=>?_⟩,λaD=>by omega,λb1=>by omega,Mb h⟩;rcases g.2 with g|g
  .omega
  .rw[bb]at g;cases g
 have bX:p.Kind≠1:=by simpa using k
 rcases dH h with⟨k,h⟩|⟨k,h⟩
 .have k:=eq_of_beq k;rcases dH h with⟨_,h⟩|⟨g,h⟩
  .exact xm h (by decide)
  have g:(p.cl.length:Int)=1:=by simpa using g
  exact⟨λad=>(bX ad).elim,λ_=>by omega,λb1=>by omega,Mb h⟩
 have dS:p.Kind≠3:=by simpa using k
 rcases dH h with⟨k,h⟩|⟨k,h⟩
 .obtain⟨bq,cd,h⟩:=an h;rcases dH h with⟨_,h⟩|⟨g,h⟩
  .exact xm h (by decide)
  have g:(p.cl.length:Int)=bq.dU:=by simpa using g
  exact⟨λad=>(bX ad).elim,λaD=>(dS aD).elim,λ_=>⟨bq,cd,g⟩,Mb h⟩
 .have eB:p.Kind≠5:=by simpa using k
  exact⟨λad=>(bX ad).elim,λaD=>(dS aD).elim,λb1=>(eB b1).elim,Mb h⟩
theorem avk {e:azw} {d:a6} {a2:Int} (h:ti e d a2=some 0):
  ∃p,bj d.Body a2=some p/\(p.Kind=1->ye p.Name=some true/\p.cl.length<=2/\((p.Name==([116,97,117]:azc))=true->p.cl.length=0))/\(p.Kind=3->p.cl.length=1)/\
   (p.Kind=4->1<=p.Number/\p.Number<=7)/\(p.Kind=5->∃bq,bj e p.Number=some bq/\(p.cl.length:Int)=bq.dU)/\∃v,th d a2 p v=some 0:=by
 unfold ti at h;obtain⟨p,aR,h⟩:=an h;obtain⟨af,_,h⟩:=an h;rcases dH h with⟨_,h⟩|⟨_,h⟩
 .exact xm h (by decide)
 have key:∀v,Ck e d a2 p v=some 0->v=false/\(p.Kind=4->1<=p.Number/\p.Number<=7)/\uQ e d a2 p false=some 0:=by
  intro v h;unfold Ck at h;rcases dH h with⟨_,h⟩|⟨aF,h⟩
  .exact xm h (by decide)
  refine⟨aF,?_⟩;rcases dH h with⟨k,h⟩|⟨k,h⟩
  .have k:=eq_of_beq k;obtain⟨cY,fC,h⟩:=an h;rcases dH h with⟨_,h⟩|⟨g,iV⟩
   .exact absurd (Mc h).1 (by simp)
   have g:cY=true:=by simpa using g
   rw[g]at fC;unfold k8 at fC;have fC:=some.inj fC;rw[Bool.and_eq_true,decide_eq_true_eq,decide_eq_true_eq]at fC;refine⟨λ_=>fC,?_⟩;rcases dH iV with⟨eB,_⟩|⟨_,iV⟩
   .have:=eq_of_beq eB;omega
   .exact iV
  .have dW:p.Kind≠4:=by simpa using k
   refine⟨λbh=>(dW bh).elim,?_⟩;rcases dH h with⟨k,h⟩|⟨k,h⟩
   .obtain⟨cp,_,h⟩:=an h;have g:=(Mc h).1
    rwa [g]at h
   .exact h
 rcases dH h with⟨k,h⟩|⟨k,h⟩
 .obtain⟨fc,kD,h⟩:=an h;obtain⟨ad,ag,aD⟩:=key _ h;obtain⟨_,g1,g2,g3,g4⟩:=Mc aD;have ad:fc=true:=by simpa using ad
  subst ad;exact⟨p,aR,λaw=>⟨kD,g1 aw⟩,g2,ag,g3,g4⟩
 .obtain⟨ad,ag,aD⟩:=key _ h;obtain⟨_,g1,g2,g3,g4⟩:=Mc aD;have bX:p.Kind≠1:=by simpa using k
  exact⟨p,aR,λaw=>(bX aw).elim,g2,ag,g3,g4⟩
theorem avl {e:azw} {d:a6} {r:Int×Int} (hl:d.Body.length<=1000) (aS:∀j,j<d.Body.length->∃v,ti e d (j:Int)=some v/\0<=v) (h:wo e d=some r) (bc:r.2=0):
  ∀j,j<d.Body.length->ti e d (j:Int)=some 0:=by
 unfold wo at h;obtain⟨U,_,h⟩:=an h;rcases dH h with⟨_,h⟩|⟨_,h⟩
 .have:=some.inj h;subst this;exact absurd bc (by decide)
 obtain⟨n,h⟩:=lO h;have key:∀i,i<=d.Body.length->∀m,wm e d m (i:Int)=some r->∀j,i<=j->j<d.Body.length->ti e d (j:Int)=some 0:=by
  refine down d.Body.length ?_ ?_
  .intro m _ j ad ag;omega
  .intro i ai ih m hm j ad ag;cases m with
   |zero=>cases hm
   |succ m=>
    simp only[wm,Gs]at hm;obtain⟨v,aF,nV⟩:=aS i ai;rw[ev ai,cond_true,aF]at hm;simp only[bind_some]at hm;rcases dH hm with⟨g,hm⟩|⟨g,hm⟩
    .have:=some.inj hm;subst this;simp only[decide_eq_true_eq]at g;simp only at bc;omega
    .have g:v=0:=by simp at g;omega
     subst g;by_cases bG:j=i
     .subst bG;exact aF
     .rw[et i _ ai (by omega)]at hm;exact ih m hm j (by omega) ag
 exact λj bG=>key 0 (by omega) n h j (by omega) bG
structure avm (e:azw) (d:a6) (j:Nat) (p:ca) (ej:Int):Prop where
 small:Bd p
 TH:0<=ej/\ej<=29
 args:∀a∈p.cl,pY a ej 15=true
 act:p.Kind=1->hN p.Name=true/\p.cl.length<=2/\((p.Name==([116,97,117]:azc))=true->p.cl.length=0)
 avn:p.Kind=3->p.cl.length=1
 sum:p.Kind=4->1<=p.Number/\p.Number<=7/\ej<=5
 call:p.Kind=5->∃bq,bj e p.Number=some bq/\(p.cl.length:Int)=bq.dU
theorem Ik {e:azw} (h:pf e) (aF:lL e=true) {i:Nat} (ai:i<e.length) {j:Nat} (bG:j<e[i].Body.length):avm e e[i] j e[i].Body[j] (h8 e[i] j).scope:=by
 obtain⟨ad,bh,ao⟩:=Bf h aF;obtain⟨ax,aa,aV,r,ek,bf⟩:=ao i ai;obtain⟨s1,s2,oZ⟩:=xh aa;have Ty:=h.2 _ (List.getElem_mem ai);have aS:∀j,j<e[i].Body.length->∃v,ti e e[i] (j:Int)=some v/\0<=v:=λj bG=>by
  obtain⟨gZ,gx,iM,jH,rA⟩:=L8 e[i] aa ax j bG;obtain⟨v,v1,_,v3⟩:=abG e bh e[i] j bG oZ (Ty.2.2 _ (List.getElem_mem bG)) (h8 e[i] j) gZ ⟨gx,iM⟩ jH;exact⟨v,v1,v3⟩
 obtain⟨p,aR,f1,f2,f3,f4,v,f5⟩:=avk (avl (by omega) aS ek bf j bG);rw[dX _ j bG]at aR;have aR:=some.inj aR;subst aR;obtain⟨aI,g1,g2,g3⟩:=avj f5;obtain⟨gZ,gx,iM,jH,rA⟩:=L8 e[i] aa ax j bG;rw[gZ]at g1;have g1:=some.inj g1;subst g1;have FH:=Ty.2.2 _ (List.getElem_mem bG);rw[abF _ FH _ ⟨gx,iM⟩]at g3;refine⟨FH,⟨gx,iM⟩,?_,λk=>?_,f2,λk=>⟨(f3 k).1,(f3 k).2,?_⟩,f4⟩
 .cases bo:vC e[i].Body[j] (h8 e[i] j).scope
  .rw[bo]at g3;exact xm g3 (by decide)
  .intro a hm;obtain⟨k,aw,rfl⟩:=List.mem_iff_getElem.1 hm;have:=pd.1 bo k aw
   rwa [List.getD_eq_getElem?_getD,List.getElem?_eq_getElem aw]at this
 .obtain⟨J,a2,a3⟩:=f1 k;rw[D7]at J;exact⟨some.inj J,a2,a3⟩
 .rw[k]at g2;simp only[beq_self_eq_true,Bool.true_and,decide_eq_false_iff_not]at g2;omega
theorem ab3:∀(j:Nat) (l:azv) (st:azC) (k:Nat),fo l st.length=some k->j<k->
  ∃s Md,(hh l st).drop j=hh (l.drop j) (s::Md)/\fo (l.drop j) (Md.length+1)=some (k-j)
 |0,l,st,k,h,bG=>by
  cases st with
  |nil=>rw[List.length_nil,Bb]at h;have:=some.inj h;omega
  |cons s Md=>exact⟨s,Md,rfl,h⟩
 |j+1,[],st,k,h,bG=>by have:=(tO h).2;simp at this;omega
 |j+1,p::r,[],k,h,bG=>by rw[List.length_nil,Bb]at h;have:=some.inj h;omega
 |j+1,p::r,s::st,k,h,bG=>by
  obtain⟨dv,bF,rfl⟩:=sA.1 h;obtain⟨s2,avo,aR,aW⟩:=ab3 j r (List.replicate (en p) (below p s)++st) dv (by rw[List.length_append,List.length_replicate,Nat.add_comm];exact bF) (by omega);exact⟨s2,avo,by simp only[hh,List.drop_succ_cons];exact aR,by simp only[List.drop_succ_cons];rw[aW];congr 1;omega⟩
theorem Me {α:Type} (l:List α) (i:Nat) (d:α):l.getD i d=(l.drop i).headD d:=by
 rw[List.getD_eq_getElem?_getD];cases h:l.drop i with
 |nil=>rw[List.drop_eq_nil_iff]at h;rw[List.getElem?_eq_none h];rfl
 |cons x r=>
  have:l[i]? =some x:=by
   have:=congrArg (λz=>z[0]?) h;simpa using this
  rw[this];rfl
theorem TI {l:azv} (s:dR) (st:azC) (d:dR) (h:l≠[]):(hh l (s::st)).headD d=s:=by
 cases l with
 |nil=>exact(h rfl).elim
 |cons p r=>rfl
theorem ab4 (d:a6) (aa:fo d.Body 1=some d.Body.length) {j:Nat} (bG:j<d.Body.length):
  (1<=en d.Body[j]->j+1<d.Body.length/\(h8 d (j+1)).scope=(below d.Body[j] (h8 d j)).scope)/\
  (en d.Body[j]=2->∃n,fo (d.Body.drop (j+1)) 1=some n/\j+1+n<d.Body.length/\(h8 d (j+1+n)).scope=(below d.Body[j] (h8 d j)).scope):=by
 obtain⟨s,st,aR,aW⟩:=ab3 j d.Body [⟨d.dU,false⟩] d.Body.length aa bG;have ao:=drop_cons d.Body j bG;rw[ao]at aR aW;obtain⟨dv,bF,aw⟩:=sA.1 aW;have ax:h8 d j=s:=by
  unfold h8;rw[Me,aR];rfl
 have aU:(hh d.Body [⟨d.dU,false⟩]).drop (j+1)=hh (d.Body.drop (j+1)) (List.replicate (en d.Body[j]) (below d.Body[j] s)++st):=by
  rw[<-List.drop_drop,aR];rfl
 rw[ax];constructor
 .intro bH;have ad:=tO bF;have hlen:j+1<d.Body.length:=by omega
  refine⟨hlen,?_⟩;obtain⟨f,avp⟩:∃f,en d.Body[j]=f+1:=⟨en d.Body[j]-1,by omega⟩
  unfold h8;rw[Me,aU,avp,List.replicate_succ,List.cons_append,TI _ _ _ (by intro h;rw[List.drop_eq_nil_iff]at h;omega)]
 .intro bH;rw[bH]at bF aU;obtain⟨n,bD,g1,g2,g3⟩:=D_ (l:=d.Body.drop (j+1)) (a:=1) (b:=st.length+1) (k:=dv) (by rw[<-bF];congr 1;omega);have ag:=tO g2;have hlen:j+1+n<d.Body.length:=by omega
  refine⟨n,g1,hlen,?_⟩;unfold h8;rw[Me,<-List.drop_drop,aU,show List.replicate 2 (below d.Body[j] s)++st=[below d.Body[j] s]++(below d.Body[j] s::st)from rfl,Tp (s1:=[below d.Body[j] s]) g1];have hl:=Bc (l:=d.Body.drop (j+1)) (st:=[below d.Body[j] s]) g1;rw[<-hl,List.drop_left,hl,List.drop_drop,TI _ _ _ (by intro h;rw[List.drop_eq_nil_iff]at h;omega)]
noncomputable def nQ (l:azm) (a:aze):aze:=l.map (sD a)
def iT (n:azc) (a:aze):azc:=if a.length=0 then n else((n++[40])++iS a)++[41]
def eW (d:a6) (j:Nat):ca:=d.Body.getD j ⟨0,0,[],[]⟩
def Il (d:a6) (j:Nat):Nat:=j+(fo (d.Body.drop j) 1).getD 0
noncomputable def vF (d:a6) (i j:Nat) (a:aze):bm:=
 ⟨iT (eW d j).Name (nQ (eW d j).cl a),if(eW d (j+1)).Kind=5 then⟨(eW d (j+1)).Number,0,nQ (eW d (j+1)).cl a⟩else⟨(i:Int),((j+1:Nat):Int),a⟩⟩
noncomputable def iU (d:a6) (i:Nat):Nat->Nat->aze->azB
 |0,_,_=>[]
 |n+1,j,a=>
  if(eW d j).Kind=1 then [vF d i j a]
  else if(eW d j).Kind=2 then iU d i n (j+1) a++iU d i n (Il d (j+1)) a
  else if(eW d j).Kind=3 then(if sD a ((eW d j).cl.getD 0 [])≠0 then iU d i n (j+1) a else [])
  else if(eW d j).Kind=4 then(List.range' 0 ((eW d j).Number.toNat+1)).flatMap λ(v:Nat)=>iU d i n (j+1) (a++[((v:Nat):Int)])
  else []
def yY (a:aze):Bool:=gf (λi=>sx (a.getD i 0) 0 63) a.length
theorem TJ (a:aze) (h:a.length<=1048576):Gt a=some (yY a):=by
 unfold Gt;refine H8 (l:=λm i=>Cm a m i) _ (λm=>?_) (λi ai m=>?_)
 .simp only[Cm,Pu];rw[eh (Nat.le_refl _)];rfl
 .simp only[Cm,Pu,k8];rw[ev ai,mv _ i 0 ai,et i _ ai (by omega)];simp only[cond_true,bind_some];show cond (!sx (a.getD i 0) 0 63) _ _=_;cases sx (a.getD i 0) 0 63<;>rfl
theorem TK (a:aze) (h:a.length<=1048576):CZ a=some (yY a):=by
 unfold CZ Qk Qj;rw[tM (n:=a.length) (λi=> !sx (a.getD i 0) 0 63)]
 .simp only[bind_some,w_,Bool.not_not];rfl
 .intro m;simp only[GU,Qi];rw[eh (Nat.le_refl _)];rfl
 .intro i ai m;simp only[GU,Qi];rw[ev ai,mv _ i 0 ai,et i _ ai (by omega)];simp only[cond_true,bind_some,Qh,GM,kX];rfl
theorem ab5 {α:Type} {L:Nat->aze->Int->Option aze} (a:List α) (f:α->Int) (bc:∀m v,L (m+1) v (a.length:Int)=some v)
  (aa:∀i (h:i<a.length) m v,v.length=i->L (m+1) v (i:Int)=L m (v++[f a[i]]) ((i+1:Nat):Int)):b5 (λm=>L m [] 0)=some (a.map f):=by
 have key:∀i,i<=a.length->∀(v:aze) m,v.length=i->a.length-i<m->L m v (i:Int)=some (v++(a.drop i).map f):=by
  refine down a.length ?_ ?_
  .intro v m aF hm;obtain⟨m,rfl⟩:∃j,m=j+1:=⟨m-1,by omega⟩
   rw[bc,List.drop_of_length_le (Nat.le_refl _),List.map_nil,List.append_nil]
  .intro i ai ih v m aF hm;obtain⟨m,rfl⟩:∃j,m=j+1:=⟨m-1,by omega⟩
   rw[aa i ai m v aF,ih (v++[f a[i]]) m (by simp[aF]) (by omega),drop_cons a i ai,List.map_cons,List.append_assoc];rfl
 refine e5 (a.length+1) λm hm=>?_;have:=key 0 (by omega) [] m rfl (by omega)
 rwa [List.drop_zero,List.nil_append]at this
theorem Mf (l:azm) (hl:l.length<=1048576) (a:aze) (h:∀e∈l,pY e a.length 15=true):
  Gv l a=some (nQ l a)/\G2 l a=some (nQ l a):=by
 constructor
 .unfold Gv nQ;refine ab5 (L:=Cu l a) l (sD a) (λm v=>?_) λi ai m v aF=>?_
  .simp only[Cu,PE];rw[eh (Nat.le_refl _)];rfl
  .simp only[Cu,PE];rw[ev ai,dX _ i ai,et i _ ai (by omega)];simp only[cond_true,bind_some,(Ma (by omega) (h _ (List.getElem_mem ai))).1];rw[lJ (by omega) (by omega)];rfl
 .unfold G2 nQ;refine ab5 (L:=C7 l a) l (sD a) (λm v=>?_) λi ai m v aF=>?_
  .simp only[C7,QC];rw[eh (Nat.le_refl _)];rfl
  .simp only[C7,QC];rw[ev ai,dX _ i ai,et i _ ai (by omega)];simp only[cond_true,bind_some,(Ma (by omega) (h _ (List.getElem_mem ai))).2.1];rw[lJ (by omega) (by omega)];rfl
theorem Ej {l:azm} {a:aze} (bo:∀x∈a,fZ x) (h:∀e∈l,pY e a.length 15=true):∀x∈nQ l a,fZ x:=by
 intro x aq;unfold nQ at aq;obtain⟨e,he,rfl⟩:=List.mem_map.1 aq;exact(Ma (by omega) (h e he)).2.2 bo
theorem my {n:Nat} (h:n<=1099511627776):iJ n=some ():=by unfold iJ;rw[if_pos (by omega)]
theorem Mg (a:aze):((a.length:Int)==0)=decide (a.length=0):=by
 by_cases h:a.length=0
 .rw[h];rfl
 .rw[decide_eq_false h];simp;exact λag=>h (by rw[ag];rfl)
theorem ab6 (n:azc) (a:aze) (aV:n.length<=10) (hl:a.length<=64) (aF:∀x∈a,fZ x):Gx n a=some (iT n a):=by
 unfold Gx iT;rw[Mg];by_cases h:a.length=0
 .rw[decide_eq_true h,if_pos h];rfl
 .have ad:=xl a;rw[decide_eq_false h,if_neg h,cond_false,my (by omega),au2 a hl aF];simp only[bind_some];rw[my (by simp only[List.length_append,List.length_cons,List.length_nil];omega),my (by simp only[List.length_append,List.length_cons,List.length_nil];omega)];rfl
theorem avq (a:aze) (hl:a.length<=64) (aF:∀x∈a,fZ x) (h:a.length≠0):Ag a [44]=some (iS a):=by
 have:=Tz a hl aF;unfold G4 at this;rw[abV a hl aF,Mg,decide_eq_false h]at this;simp only[bind_some,Bool.not_true,cond_false]at this;cases bG:Ag a [44]with
 |none=>rw[bG]at this;cases this
 |some x=>rw[bG]at this;exact this
theorem Im (n:azc) (a:aze) (aV:hN n=true) (hl:a.length<=2) (bb:(n==([116,97,117]:azc))=true->a.length=0) (aF:∀x∈a,fZ x):
  Ah n a=some (iT n a,true):=by
 have yZ:n.length<=10:=by simp only[hN,Bool.and_eq_true,decide_eq_true_eq]at aV;exact aV.1
 unfold Ah;cases aw:n==([116,97,117]:azc)
 .have ao:yY a=true:=by
   simp only[yY,pd];intro k aw;have:=aF _ (List.getElem_mem aw);simp only[sx,Bool.and_eq_true,decide_eq_true_eq,List.getD_eq_getElem?_getD,List.getElem?_eq_getElem aw,getD_some];exact this
  rw[cond_false,Ts n (by omega),aV,aw];simp only[bind_some,Bool.not_false,Bool.and_self,Bool.not_true,cond_false];rw[show decide (2<(a.length:Int))=false from decide_eq_false (by omega),cond_false,TK a (by omega),ao];simp only[bind_some,Bool.not_true,cond_false];rw[Mg];unfold iT;by_cases h:a.length=0
  .rw[decide_eq_true h,if_pos h];rfl
  .have ad:=xl a;rw[decide_eq_false h,if_neg h,cond_false,my (by omega),avq a (by omega) aF h];simp only[bind_some];rw[my (by simp only[List.length_append,List.length_cons,List.length_nil];omega),my (by simp only[List.length_append,List.length_cons,List.length_nil];omega)];rfl
 .rw[cond_true];unfold iT;rw[if_pos (bb aw),eq_of_beq aw,Mg,decide_eq_true (bb aw)]
theorem avr (n:azc) (a:aze) (aV:hN n=true) (hl:a.length<=2) (bb:(n==([116,97,117]:azc))=true->a.length=0) (aF:∀x∈a,fZ x):
  ∃b,Ah n a=some (iT n a,b):=⟨_,Im n a aV hl bb aF⟩
theorem Mh (a:aze) (h:a.length<=1048576):C2 a=some a:=by
 unfold C2;rw[lJ (by omega) (by omega)];cases a with
 |nil=>simp[both]
 |cons x r=>rfl
theorem TL (a:aze) (h:a.length<=1048576):Cq a=some a:=by
 unfold Cq;rw[lJ (by omega) (by omega)];rfl
structure fS (s:bm):Prop where
 y0:s.Label.length<=400/\(32:UInt8)∉s.Label
 xn:∃i:Nat,i<100/\s.Next.cA=(i:Int)
 xo:∃j:Nat,j<100/\s.Next.Part=(j:Int)
 kv:s.Next.bK.length<=64/\∀x∈s.Next.bK,fZ x
 shape:∃n a,hN n=true/\a.length<=2/\((n==([116,97,117]:azc))=true->a.length=0)/\(∀x∈a,fZ x)/\s.Label=iT n a
theorem xp (n:Nat) (aV:n<100):∀c∈jn n,48<=c.toNat/\c.toNat<=57:=by
 intro c au;unfold jn at au;have key:∀d,d<10->48<=(UInt8.ofNat (48+d)).toNat/\(UInt8.ofNat (48+d)).toNat<=57:=by
  intro d ao;rw[UInt8.toNat_ofNat',mod_eq_of_lt (by omega)];omega
 split at au
 .rw[List.mem_singleton]at au;subst au;exact key n (by omega)
 .rw[List.mem_cons,List.mem_singleton]at au;rcases au with rfl|rfl
  .exact key _ (by omega)
  .exact key _ (by omega)
theorem ab7 (p:UInt8->Prop) (ab8:p 44):∀l:azb,(∀x∈l,∀c∈x,p c)->∀c∈jQ l [44],p c
 |[],_,c,au=>by simp[jQ,List.intercalate,List.intersperse]at au
 |[x],h,c,au=>by rw[join_one]at au;exact h x (by simp) c au
 |x::y::r,h,c,au=>by
  rw[join_cons,List.mem_append,List.mem_append,List.mem_singleton]at au;rcases au with au|rfl|au
  .exact h x (by simp) c au
  .exact ab8
  .exact ab7 p ab8 (y::r) (λz cf=>h z (List.mem_cons_of_mem _ cf)) c au
theorem ab9 (a:aze) (aF:∀x∈a,fZ x):∀c∈iS a,44<=c.toNat/\c.toNat<=57:=by
 intro c au;unfold iS at au;split at au
 .rw[List.mem_singleton]at au;subst au;decide
 .refine ab7 (λc=>44<=c.toNat/\c.toNat<=57) (by decide) _ (λx aq d ao=>?_) c au;obtain⟨y,hy,rfl⟩:=List.mem_map.1 aq;have ad:=aF y hy;unfold fZ at ad;have:=xp y.toNat (by omega) d ao;omega
theorem TM {n:azc} (h:hN n=true):∀c∈n,48<=c.toNat:=by
 intro c au;simp only[hN,Bool.and_eq_true]at h;have ag:=h.2;cases n with
 |nil=>cases ag
 |cons x r=>
  simp only[Bool.and_eq_true,List.all_eq_true,small,digit,Bool.or_eq_true,decide_eq_true_eq]at ag;rcases List.mem_cons.1 au with rfl|au
  .omega
  .have:=ag.2 c au;omega
theorem TN {n:azc} {a:aze} (aV:hN n=true) (hl:a.length<=64) (aF:∀x∈a,fZ x):(iT n a).length<=400/\(32:UInt8)∉iT n a:=by
 have yZ:n.length<=10:=by simp only[hN,Bool.and_eq_true,decide_eq_true_eq]at aV;exact aV.1
 have ad:=xl a;unfold iT;split
 .refine⟨by omega,λhm=>?_⟩;have:=TM aV _ hm;revert this;decide
 .refine⟨by simp only[List.length_append,List.length_cons,List.length_nil];omega,λhm=>?_⟩;rw[List.mem_append,List.mem_append,List.mem_append,List.mem_singleton,List.mem_singleton]at hm;rcases hm with((hm|hm)|hm)|hm
  .have:=TM aV _ hm;revert this;decide
  .revert hm;decide
  .have:=(ab9 a aF _ hm).1;revert this;decide
  .revert hm;decide
end Go.k6
