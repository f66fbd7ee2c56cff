/- Part of a proof that a law is true. No condition. -/
import Derived.Test.YtafceioodemeeaaGreatDoorP3
namespace Go.pO
open Option Go.IntKind Nat Or
open Go Go.en
theorem acZ {α:Type} {L:Nat->aAe->Int->Option aAe} (a:List α) (f:α->Int) (a7:∀m v,L (m+1) v (a.length:Int)=some v)
  (ae:∀i (h:i<a.length) m v,v.length=i->L (m+1) v (i:Int)=L m (v++[f a[i]]) ((i+1:Nat):Int)):lim (λm=>L m [] 0)=some (a.map f):=by
 have key:∀i,i<=a.length->∀(v:aAe) m,v.length=i->a.length-i<m->L m v (i:Int)=some (v++(a.drop i).map f):=by
  refine down a.length ?_ ?_
  .intro v m aB hm;obtain⟨m,rfl⟩:∃j,m=j+1:=⟨m-1,by omega⟩
   rw[a7,List.drop_of_length_le (Nat.le_refl _),List.map_nil,List.append_nil]
  .intro i aj ih v m aB hm;obtain⟨m,rfl⟩:∃j,m=j+1:=⟨m-1,by omega⟩
   rw[ae i aj m v aB,ih (v++[f a[i]]) m (by simp[aB]) (by omega),drop_cons a i aj,List.map_cons,List.append_assoc];rfl
 refine e0 (a.length+1) λm hm=>?_;have:=key 0 (by omega) [] m rfl (by omega)
 rwa [List.drop_zero,List.nil_append]at this
theorem Mo (l:aAm) (hl:l.length<=1048576) (a:aAe) (h:∀e∈l,p3 e a.length 15=true):
  Gs l a=some (oq l a)/\G0 l a=some (oq l a):=by
 constructor
 .unfold Gs oq;refine acZ (L:=Cu l a) l (sD a) (λm v=>?_) λi aj m v aB=>?_
  .simp only[Cu,PQ];rw[ee (Nat.le_refl _)];rfl
  .simp only[Cu,PQ];rw[ek aj,dO _ i aj,ed i _ aj (by omega)];simp only[cond_true,bind_some,(Mk (by omega) (h _ (List.getElem_mem aj))).1];rw[jN (by omega) (by omega)];rfl
 .unfold G0 oq;refine acZ (L:=C7 l a) l (sD a) (λm v=>?_) λi aj m v aB=>?_
  .simp only[C7,QQ];rw[ee (Nat.le_refl _)];rfl
  .simp only[C7,QQ];rw[ek aj,dO _ i aj,ed i _ aj (by omega)];simp only[cond_true,bind_some,(Mk (by omega) (h _ (List.getElem_mem aj))).2.1];rw[jN (by omega) (by omega)];rfl
theorem Ij {l:aAm} {a:aAe} (bs:∀x∈a,gj x) (h:∀e∈l,p3 e a.length 15=true):∀x∈oq l a,gj x:=by
 intro x aq;unfold oq at aq;obtain⟨e,he,rfl⟩:=List.mem_map.1 aq;exact(Mk (by omega) (h e he)).2.2 bs
theorem mw {n:Nat} (h:n<=1099511627776):iG n=some ():=by unfold iG;rw[if_pos (by omega)]
theorem Mp (a:aAe):((a.length:Int)==0)=decide (a.length=0):=by
 by_cases h:a.length=0
 .rw[h];rfl
 .rw[decide_eq_false h];simp;exact λaf=>h (by rw[af];rfl)
theorem ac0 (n:aAc) (a:aAe) (aV:n.length<=10) (hl:a.length<=64) (aB:∀x∈a,gj x):Gu n a=some (iW n a):=by
 unfold Gu iW;rw[Mp];by_cases h:a.length=0
 .rw[decide_eq_true h,if_pos h];rfl
 .have h1:=xr a;rw[decide_eq_false h,if_neg h,cond_false,mw (by omega),av5 a hl aB];simp only[bind_some];rw[mw (by simp only[List.length_append,List.length_cons,List.length_nil];omega),mw (by simp only[List.length_append,List.length_cons,List.length_nil];omega)];rfl
theorem awt (a:aAe) (hl:a.length<=64) (aB:∀x∈a,gj x) (h:a.length≠0):Ar a [44]=some (iV a):=by
 have:=TP a hl aB;unfold G2 at this;rw[acO a hl aB,Mp,decide_eq_false h]at this;simp only[bind_some,Bool.not_true,cond_false]at this;cases bE:Ar a [44]with
 |none=>rw[bE]at this;cases this
 |some x=>rw[bE]at this;exact this
theorem Ik (n:aAc) (a:aAe) (aV:hB n=true) (hl:a.length<=2) (a6:(n==([116,97,117]:aAc))=true->a.length=0) (aB:∀x∈a,gj x):
  As n a=some (iW n a,true):=by
 have y8:n.length<=10:=by simp only[hB,Bool.and_eq_true,decide_eq_true_eq]at aV;exact aV.1
 unfold As;cases hk:n==([116,97,117]:aAc)
 .have ao:y7 a=true:=by
   simp only[y7,pk];intro k hk;have:=aB _ (List.getElem_mem hk);simp only[sx,Bool.and_eq_true,decide_eq_true_eq,List.getD_eq_getElem?_getD,List.getElem?_eq_getElem hk,getD_some];exact this
  rw[cond_false,TK n (by omega),aV,hk];simp only[bind_some,Bool.not_false,Bool.and_self,Bool.not_true,cond_false];rw[show decide (2<(a.length:Int))=false from decide_eq_false (by omega),cond_false,T1 a (by omega),ao];simp only[bind_some,Bool.not_true,cond_false];rw[Mp];unfold iW;by_cases h:a.length=0
  .rw[decide_eq_true h,if_pos h];rfl
  .have h1:=xr a;rw[decide_eq_false h,if_neg h,cond_false,mw (by omega),awt a (by omega) aB h];simp only[bind_some];rw[mw (by simp only[List.length_append,List.length_cons,List.length_nil];omega),mw (by simp only[List.length_append,List.length_cons,List.length_nil];omega)];rfl
 .rw[cond_true];unfold iW;rw[if_pos (a6 hk),eq_of_beq hk,Mp,decide_eq_true (a6 hk)]
theorem awu (n:aAc) (a:aAe) (aV:hB n=true) (hl:a.length<=2) (a6:(n==([116,97,117]:aAc))=true->a.length=0) (aB:∀x∈a,gj x):
  ∃b,As n a=some (iW n a,b):=⟨_,Ik n a aV hl a6 aB⟩
theorem Mq (a:aAe) (h:a.length<=1048576):C_ a=some a:=by
 unfold C_;rw[jN (by omega) (by omega)];cases a with
 |nil=>simp[both]
 |cons x r=>rfl
theorem T2 (a:aAe) (h:a.length<=1048576):Cr a=some a:=by
 unfold Cr;rw[jN (by omega) (by omega)];rfl
structure fF (s:bl):Prop where
 y9:s.Label.length<=400/\(32:UInt8)∉s.Label
 xv:∃i:Nat,i<100/\s.Next.cy=(i:Int)
 xw:∃j:Nat,j<100/\s.Next.Part=(j:Int)
 kM:s.Next.bP.length<=64/\∀x∈s.Next.bP,gj x
 shape:∃n a,hB n=true/\a.length<=2/\((n==([116,97,117]:aAc))=true->a.length=0)/\(∀x∈a,gj x)/\s.Label=iW n a
theorem xx (n:Nat) (aV:n<100):∀c∈jn n,48<=c.toNat/\c.toNat<=57:=by
 intro c au;unfold jn at au;have key:∀d,d<10->48<=(UInt8.ofNat (48+d)).toNat/\(UInt8.ofNat (48+d)).toNat<=57:=by
  intro d ao;rw[UInt8.toNat_ofNat',mod_eq_of_lt (by omega)];omega
 split at au
 .rw[List.mem_singleton]at au;subst au;exact key n (by omega)
 .rw[List.mem_cons,List.mem_singleton]at au;rcases au with rfl|rfl
  .exact key _ (by omega)
  .exact key _ (by omega)
theorem ac1 (p:UInt8->Prop) (ac2:p 44):∀l:aAb,(∀x∈l,∀c∈x,p c)->∀c∈jQ l [44],p c
 |[],_,c,au=>by simp[jQ,List.intercalate,List.intersperse]at au
 |[x],h,c,au=>by rw[join_one]at au;exact h x (by simp) c au
 |x::y::r,h,c,au=>by
  rw[join_cons,List.mem_append,List.mem_append,List.mem_singleton]at au;rcases au with au|rfl|au
  .exact h x (by simp) c au
  .exact ac2
  .exact ac1 p ac2 (y::r) (λz b3=>h z (List.mem_cons_of_mem _ b3)) c au
theorem ac3 (a:aAe) (aB:∀x∈a,gj x):∀c∈iV a,44<=c.toNat/\c.toNat<=57:=by
 intro c au;unfold iV at au;split at au
 .rw[List.mem_singleton]at au;subst au;decide
 .refine ac1 (λc=>44<=c.toNat/\c.toNat<=57) (by decide) _ (λx aq d ao=>?_) c au;obtain⟨y,hy,rfl⟩:=List.mem_map.1 aq;have h1:=aB y hy;unfold gj at h1;have:=xx y.toNat (by omega) d ao;omega
theorem T3 {n:aAc} (h:hB n=true):∀c∈n,48<=c.toNat:=by
 intro c au;simp only[hB,Bool.and_eq_true]at h;have af:=h.2;cases n with
 |nil=>cases af
 |cons x r=>
  simp only[Bool.and_eq_true,List.all_eq_true,small,digit,Bool.or_eq_true,decide_eq_true_eq]at af;rcases List.mem_cons.1 au with rfl|au
  .omega
  .have:=af.2 c au;omega
theorem T4 {n:aAc} {a:aAe} (aV:hB n=true) (hl:a.length<=64) (aB:∀x∈a,gj x):(iW n a).length<=400/\(32:UInt8)∉iW n a:=by
 have y8:n.length<=10:=by simp only[hB,Bool.and_eq_true,decide_eq_true_eq]at aV;exact aV.1
 have h1:=xr a;unfold iW;split
 .refine⟨by omega,λhm=>?_⟩;have:=T3 aV _ hm;revert this;decide
 .refine⟨by simp only[List.length_append,List.length_cons,List.length_nil];omega,λhm=>?_⟩;rw[List.mem_append,List.mem_append,List.mem_append,List.mem_singleton,List.mem_singleton]at hm;rcases hm with((hm|hm)|hm)|hm
  .have:=T3 aV _ hm;revert this;decide
  .revert hm;decide
  .have:=(ac3 a aB _ hm).1;revert this;decide
  .revert hm;decide
def sE (x y:bl):Bool:=(x.Label==y.Label)&&((x.Next.cy==y.Next.cy)&&((x.Next.Part==y.Next.Part)&&(x.Next.bP==y.Next.bP)))
def lO (o:aAC) (s:bl):aAC:=if(o.any λx=>sE x s)=true then o else o++[s]
def mL (o:aAC) (s:bl):aAC:=if 200<o.length then o else lO o s
theorem T5 {x y:bl}:sE x y=true↔x=y:=by
 cases x with
 |mk az2 awv=>
  cases awv;cases y with
  |mk az3 aww=>
   cases aww;simp[sE]
theorem T6 (a b:aAe) (h:a.length<=1048576):Gv a b=some (a==b):=by
 unfold Gv;by_cases hl:a.length=b.length
 .have e:((a.length:Int) !=(b.length:Int))=false:=by simp[hl]
  rw[e,cond_false];have:=qA (n:=a.length) (l:=Cv a b) (λi=>some (a.drop i==b.drop i)) (λm=>?_) (λi aj m ih=>?_)
  .simpa using this
  .simp only[Cv,PU];rw[ee (Nat.le_refl _),List.drop_of_length_le (Nat.le_refl _),List.drop_of_length_le (by omega)];rfl
  .simp only[Cv,PU];rw[ek aj,dO _ i aj,dO _ i (by omega),ed i _ aj (by omega),drop_cons a i aj,drop_cons b i (by omega),List.cons_beq_cons];simp only[cond_true,bind_some,ih,bne];cases a[i]==b[i]
   .rfl
   .simp
 .have e:((a.length:Int) !=(b.length:Int))=true:=by simp;omega
  have aT:(a==b)=false:=by
   rw[beq_eq_false_iff_ne];intro h;exact hl (by rw[h])
  rw[e,cond_true,aT]
theorem awx (o:aAC) (s:bl) (h:o.length<=1048576) (hg:∀x∈o,fF x):Kg o s=some (lO o s):=by
 have ec:lO o s=cond (o.any λx=>sE x s) o (o++[s]):=by
  unfold lO;cases o.any λx=>sE x s<;>rfl
 unfold Kg;rw[ec,qA (n:=o.length) (l:=Cx o s) (λi=>some (cond ((o.drop i).any λx=>sE x s) o (o++[s]))) (λm=>?_) (λi aj m ih=>?_),List.drop_zero]
 .simp only[Cx,PV];rw[ee (Nat.le_refl _),jN (by omega) (by omega),List.drop_of_length_le (Nat.le_refl _)];rfl
 .simp only[Cx,PV];rw[ek aj,dO _ i aj,ed i _ aj (by omega),drop_cons o i aj];simp only[cond_true,bind_some,ih,List.any_cons];have aB:=(hg _ (List.getElem_mem aj)).kM.1;unfold Cw;rw[T6 _ _ (by omega)];have e:sE o[i] s=((o[i].Label==s.Label)&&((o[i].Next.cy==s.Next.cy)&&((o[i].Next.Part==s.Next.Part)&&(o[i].Next.bP==s.Next.bP)))):=rfl;rw[e];cases o[i].Label==s.Label
  .rfl
  .cases o[i].Next.cy==s.Next.cy
   .rfl
   .cases o[i].Next.Part==s.Next.Part
    .rfl
    .cases o[i].Next.bP==s.Next.bP
     .rfl
     .rfl
theorem ac4 (o:aAC) (s:bl):o.length<=(lO o s).length/\(lO o s).length<=o.length+1:=by
 unfold lO;split
 .omega
 .simp
theorem ac5 {o:aAC} {s:bl} (hg:∀x∈o,fF x) (ae:fF s):∀x∈lO o s,fF x:=by
 intro x aq;unfold lO at aq;split at aq
 .exact hg x aq
 .rcases List.mem_append.1 aq with aq|aq
  .exact hg x aq
  .rw[List.mem_singleton]at aq;rwa [aq]
theorem awy {o:aAC} {s:bl} (bG:o.length<=201) (hg:∀x∈o,fF x) (ae:fF s):(mL o s).length<=201/\∀x∈mL o s,fF x:=by
 unfold mL;split
 .exact⟨bG,hg⟩
 .have:=ac4 o s;exact⟨by omega,ac5 hg ae⟩
theorem T7:∀(l o:aAC),o.length<=201->(∀x∈o,fF x)->(∀x∈l,fF x)->(l.foldl mL o).length<=201/\∀x∈l.foldl mL o,fF x
 |[],o,bG,hg,_=>⟨bG,hg⟩
 |s::r,o,bG,hg,hl=>by
  obtain⟨h1,af⟩:=awy bG hg (hl s (by simp));exact T7 r (mL o s) h1 af λx aq=>hl x (List.mem_cons_of_mem _ aq)
theorem Ej:∀(l o:aAC),200<o.length->l.foldl mL o=o
 |[],o,_=>rfl
 |s::r,o,h=>by rw[List.foldl_cons,show mL o s=o by unfold mL;rw[if_pos h],Ej r o h]
theorem ac6:∀(l o:aAC),o.length<=(l.foldl lO o).length
 |[],o=>Nat.le_refl _
 |s::r,o=>Nat.le_trans (ac4 o s).1 (ac6 r _)
theorem ac7:∀(l o:aAC),((l.foldl lO o).length<=200->l.foldl mL o=l.foldl lO o)/\(200<(l.foldl lO o).length->200<(l.foldl mL o).length)
 |[],o=>⟨λ_=>rfl,λh=>h⟩
 |s::r,o=>by
  by_cases h:200<o.length
  .rw[Ej _ _ h];have:=ac6 (s::r) o;exact⟨λaf=>by omega,λ_=>h⟩
  .rw[List.foldl_cons,List.foldl_cons,show mL o s=lO o s by unfold mL;rw[if_neg h]];exact ac7 r (lO o s)
def sF (s:bl):aAc:=(s.Label++[32])++((jn s.Next.cy.toNat++[58])++((jn s.Next.Part.toNat++[58])++iV s.Next.bP))
def mx (p:aAC×aAa) (s:bl):aAC×aAa:=
 if kc (sF s) p.2=true then p else(p.1++[s],kx (sF s) true p.2)
theorem awz (e:aAx) (o:aAC) (m:aAa) (s:bl) (ae:fF s) (bG:o.length<=1099511627776):
  KU e o m s.Label s.Next.cy s.Next.Part s.Next.bP=some (e,(mx (o,m) s).1,(mx (o,m) s).2):=by
 obtain⟨i,aj,iF⟩:=ae.xv;obtain⟨j,bE,oX⟩:=ae.xw;have h1:=xk i;have af:=xk j;have ay:=xr s.Next.bP;have a_:=ae.kM.1;have b1:=ae.y9.1;have hk:Au ⟨s.Next.cy,s.Next.Part,s.Next.bP⟩=some ((jn i++[58])++((jn j++[58])++iV s.Next.bP)):=by
  unfold Au KT;simp only[iF,oX,Ba i aj,Ba j bE,bind_some,TP _ a_ ae.kM.2];rw[mw (by omega),mw (by omega)];simp only[bind_some];rw[mw (by simp only[List.length_append,List.length_cons,List.length_nil];omega)];simp only[bind_some];rw[mw (by simp only[List.length_append,List.length_cons,List.length_nil];omega)];rfl
 unfold KU;rw[mw (by omega),hk];simp only[bind_some];rw[mw (by simp only[List.length_append,List.length_cons,List.length_nil];omega)];simp only[bind_some];have tP:sF s=(s.Label++[32])++((jn i++[58])++((jn j++[58])++iV s.Next.bP)):=by unfold sF;rw[iF,oX];rfl
 rw[<-tP];unfold mx;cases hg:kc (sF s) m
 .simp only[Bool.not_false,cond_true,hg];rw[jN (by omega) (by omega)];rfl
 .simp only[Bool.not_true,cond_false,hg];rfl
theorem T8:∀(l:aAC) (p:aAC×aAa),(l.foldl mx p).1.length<=p.1.length+l.length
 |[],p=>Nat.le_refl _
 |s::r,p=>by
  have h1:=T8 r (mx p s);have af:(mx p s).1.length<=p.1.length+1:=by
   unfold mx;split
   .omega
   .simp
  rw[List.foldl_cons,List.length_cons];omega
theorem T9 (k dr:aAc) (b:Bool):∀m,kc k (kx dr b m)=if dr=k then b else kc k m
 |[]=>by simp[kx,kc]
 |e::m=>by
  simp only[kx];by_cases h:e.1=dr
  .rw[if_pos h];simp only[kc];by_cases af:dr=k
   .rw[if_pos af,if_pos af]
   .rw[if_neg af,if_neg af,if_neg (by rw[h];exact af)]
  .rw[if_neg h];simp only[kc];by_cases af:e.1=k
   .rw[if_pos af,if_pos af,if_neg (by intro ay;exact h (af.trans ay.symm))]
   .rw[if_neg af,if_neg af,T9 k dr b m]
theorem vF {c:UInt8}:∀{x y u v:aAc},c∉x->c∉y->x++c::u=y++c::v->x=y/\u=v
 |[],[],u,v,_,_,h=>⟨rfl,(List.cons.inj h).2⟩
 |[],y::cq,u,v,_,af,h=>(af (by rw[List.nil_append,List.cons_append]at h;rw[(List.cons.inj h).1];simp)).elim
 |x::xs,[],u,v,h1,_,h=>(h1 (by rw[List.nil_append,List.cons_append]at h;rw[<-(List.cons.inj h).1];simp)).elim
 |x::xs,y::cq,u,v,h1,af,h=>by
  rw[List.cons_append,List.cons_append]at h;obtain⟨aK,aT⟩:=List.cons.inj h;obtain⟨aU,b_⟩:=vF (λhm=>h1 (List.mem_cons_of_mem _ hm)) (λhm=>af (List.mem_cons_of_mem _ hm)) aT;exact⟨by rw[aK,aU],b_⟩
theorem Bl {m n:Nat} (hm:m<100) (aV:n<100) (h:jn m=jn n):m=n:=by
 have d:∀a b:Fin 10,UInt8.ofNat (48+a)=UInt8.ofNat (48+b)->a=b:=by decide
 have d2:∀a b:Nat,a<10->b<10->UInt8.ofNat (48+a)=UInt8.ofNat (48+b)->a=b:=λa b bs ab e=>congrArg Fin.val (d ⟨a,bs⟩ ⟨b,ab⟩ e);unfold jn at h;split at h<;>split at h
 .exact d2 _ _ (by omega) (by omega) (List.cons.inj h).1
 .cases(List.cons.inj h).2
 .cases(List.cons.inj h).2
 .have h1:=d2 _ _ (by omega) (by omega) (List.cons.inj h).1;have af:=d2 _ _ (by omega) (by omega) (List.cons.inj (List.cons.inj h).2).1;omega
theorem ac8:∀{a b:aAb},(∀x∈a,(44:UInt8)∉x)->(∀x∈b,(44:UInt8)∉x)->a≠[]->b≠[]->jQ a [44]=jQ b [44]->a=b
 |[],_,_,_,h,_,_=>(h rfl).elim
 |_::_,[],_,_,_,h,_=>(h rfl).elim
 |[x],[y],_,_,_,_,h=>by rw[join_one,join_one]at h;rw[h]
 |[x],y::z::r,bs,_,_,_,h=>by
  rw[join_one,join_cons]at h;exact(bs x (by simp) (by rw[h];simp)).elim
 |x::z::r,[y],_,ab,_,_,h=>by
  rw[join_one,join_cons]at h;exact(ab y (by simp) (by rw[<-h];simp)).elim
 |x::ah::r,y::hn::q,bs,ab,_,_,h=>by
  rw[join_cons,join_cons]at h;obtain⟨aK,aT⟩:=vF (bs x (by simp)) (ab y (by simp)) (by simpa using h);rw[aK,ac8 (a:=ah::r) (b:=hn::q) (λz b3=>bs z (List.mem_cons_of_mem _ b3)) (λz b3=>ab z (List.mem_cons_of_mem _ b3)) (by simp) (by simp) aT]
theorem val_inj {a b:aAe} (bs:∀x∈a,gj x) (ab:∀x∈b,gj x) (h:a.map kv=b.map kv):a=b:=by
 induction a generalizing b with
 |nil=>cases b with
  |nil=>rfl
  |cons y r=>cases h
 |cons x r ih=>cases b with
  |nil=>cases h
  |cons y q=>
   rw[List.map_cons,List.map_cons]at h;obtain⟨aK,aT⟩:=List.cons.inj h;have aq:=bs x (by simp);have hy:=ab y (by simp);unfold gj at aq hy;have:=Bl (m:=x.toNat) (n:=y.toNat) (by omega) (by omega) aK;rw[ih (λz b3=>bs z (List.mem_cons_of_mem _ b3)) (λz b3=>ab z (List.mem_cons_of_mem _ b3)) aT,show x=y by omega]
theorem T_ {a:aAe} (bs:∀x∈a,gj x):∀x∈a.map kv,(44:UInt8)∉x:=by
 intro x aq hm;obtain⟨y,hy,rfl⟩:=List.mem_map.1 aq;have h1:=bs y hy;unfold gj at h1;have:=(xx y.toNat (by omega) _ hm).1;revert this;decide
theorem ac9 {a:aAe} (bs:∀x∈a,gj x) (aV:a≠[]):jQ (a.map kv) [44]≠[45]:=by
 cases a with
 |nil=>exact(aV rfl).elim
 |cons x r=>
  intro h;have aq:=bs x (by simp);unfold gj at aq;have a7:kv x≠[]:=by unfold kv jn;split<;>simp
  have au:∀u,kv x++u=[45]->False:=by
   intro u hu;cases aB:kv x with
   |nil=>exact a7 aB
   |cons c w=>
    rw[aB,List.cons_append]at hu;have:=(xx x.toNat (by omega) c (by unfold kv at aB;rw[aB];simp)).1;rw[(List.cons.inj hu).1]at this;revert this;decide
  cases r with
  |nil=>rw[List.map_cons,List.map_nil,join_one]at h;exact au [] (by simpa using h)
  |cons y q=>rw[List.map_cons,List.map_cons,join_cons]at h;exact au _ h
theorem ac_ {a b:aAe} (bs:∀x∈a,gj x) (ab:∀x∈b,gj x) (h:iV a=iV b):a=b:=by
 unfold iV at h;by_cases h1:a=[]
 .by_cases af:b=[]
  .rw[h1,af]
  .rw[if_pos h1,if_neg af]at h;exact(ac9 ab af h.symm).elim
 .by_cases af:b=[]
  .rw[if_neg h1,if_pos af]at h;exact(ac9 bs h1 h).elim
  .rw[if_neg h1,if_neg af]at h;exact val_inj bs ab (ac8 (T_ bs) (T_ ab) (by simpa using h1) (by simpa using af) h)
theorem y_ {n:Nat} (h:n<100):(58:UInt8)∉jn n:=by
 intro hm;have:=(xx n h _ hm).2;revert this;decide
theorem key_inj {x y:bl} (aq:fF x) (hy:fF y) (h:sF x=sF y):x=y:=by
 obtain⟨i,aj,iF⟩:=aq.xv;obtain⟨j,bE,oX⟩:=aq.xw;obtain⟨i2,mX,ada⟩:=hy.xv;obtain⟨az4,qV,adb⟩:=hy.xw;unfold sF at h;rw[iF,oX,ada,adb]at h;simp only[Int.toNat_natCast,List.append_assoc,List.singleton_append]at h;obtain⟨aK,h⟩:=vF aq.y9.2 hy.y9.2 h;obtain⟨aT,h⟩:=vF (y_ aj) (y_ mX) h;obtain⟨aU,h⟩:=vF (y_ bE) (y_ qV) h;have b_:=ac_ aq.kM.2 hy.kM.2 h;have aT:=Bl aj mX aT;have aU:=Bl bE qV aU;refine T5.1 ?_;simp only[sE,aK,b_,iF,ada,aT,oX,adb,aU,beq_self_eq_true,Bool.and_self]
theorem Ua:∀(l o:aAC) (m:aAa),(∀x∈l,fF x)->(∀x∈o,fF x)->(∀s,fF s->kc (sF s) m=o.any λx=>sE x s)->(l.foldl mx (o,m)).1=l.foldl lO o
 |[],o,m,_,_,_=>rfl
 |s::r,o,m,hl,bG,hm=>by
  have ae:=hl s (by simp);have aR:∀x∈r,fF x:=λx aq=>hl x (List.mem_cons_of_mem _ aq);rw[List.foldl_cons,List.foldl_cons];by_cases h:(o.any λx=>sE x s)=true
  .rw[show mx (o,m) s=(o,m) by unfold mx;rw[if_pos ((hm s ae).trans h)],show lO o s=o by unfold lO;rw[if_pos h]];exact Ua r o m aR bG hm
  .rw[show mx (o,m) s=(o++[s],kx (sF s) true m) by unfold mx;rw[if_neg (by simp only[hm s ae];exact h)],show lO o s=o++[s] by unfold lO;rw[if_neg h]];refine Ua r _ _ aR (λx aq=>?_) λt a6=>?_
   .rcases List.mem_append.1 aq with aq|aq
    .exact bG x aq
    .rw[List.mem_singleton]at aq;rwa [aq]
   .rw[T9,List.any_append,List.any_cons,List.any_nil,Bool.or_false];by_cases hk:sF s=sF t
    .have:=key_inj ae a6 hk;rw[if_pos hk,T5.2 this,Bool.or_true]
    .rw[if_neg hk,hm t a6];have:sE s t=false:=by
      cases D9:sE s t
      .rfl
      .exact(hk (by rw[T5.1 D9])).elim
     rw[this,Bool.or_false]
theorem Mr {d:a1} {j:Nat} (bE:j<d.Body.length):fA d j=d.Body[j]:=by
 unfold fA;rw[List.getD_eq_getElem?_getD,List.getElem?_eq_getElem bE];rfl
theorem Ub {d:a1} {j:Nat} (bE:j<d.Body.length):bh d.Body (j:Int)=some (fA d j):=by
 rw[dO _ j bE,Mr bE]
theorem ade {α:Type} {xs:List α} {n:Int} {x:α} (h:bh xs n=some x):0<=n/\∃hl:n.toNat<xs.length,xs[n.toNat]=x:=by
 have h1:=b2 h;have a7:0<=n:=by
  unfold bh at h;split at h
  .omega
  .cases h
 exact⟨a7,List.getElem?_eq_some_iff.1 h1⟩
theorem fw {j:Nat} (h:j<=1048576):i64.wrap ((j:Int)+1)=((j+1:Nat):Int):=by rw[eF _ (by omega)];omega
structure vG (e:aAx) (d:a1) (i n j:Nat) (a:aAe):Prop where
 mu:∀s∈jl d i n j a,fF s
 len:(jl d i n j a).length<=2^n*8^(6-a.length)
 spec:∀m,n<=m->∀out:aAC,out.length<=201->(∀x∈out,fF x)->rW m e (i:Int) (j:Int) a out=some ((jl d i n j a).foldl mL out)
 impl:∀m,n<=m->∀p:aAC×aAa,p.1.length+(jl d i n j a).length<=549755813888->r6 m e p.1 p.2 (i:Int) (j:Int) a=some (e,((jl d i n j a).foldl mx p).1,((jl d i n j a).foldl mx p).2)
theorem vG.of {e:aAx} {d:a1} {i n j:Nat} {a:aAe} {l:aAC} (c:jl d i n j a=l) (mu:∀s∈l,fF s)
  (len:l.length<=2^n*8^(6-a.length))
  (spec:∀m,n<=m->∀out:aAC,out.length<=201->(∀x∈out,fF x)->rW m e (i:Int) (j:Int) a out=some (l.foldl mL out))
  (impl:∀m,n<=m->∀p:aAC×aAa,p.1.length+l.length<=549755813888->r6 m e p.1 p.2 (i:Int) (j:Int) a=some (e,(l.foldl mx p).1,(l.foldl mx p).2)):vG e d i n j a:=by
 subst c;exact⟨mu,len,spec,impl⟩
theorem awA (s:bl) (out:aAC) (h:¬200<out.length):[s].foldl mL out=lO out s:=by
 rw[List.foldl_cons,List.foldl_nil,mL,if_neg h]
theorem adf {f:Nat->aAC} {B:Nat}:∀(k s:Nat),(∀v,s<=v->v<s+k->(f v).length<=B)->((List.range' s k).flatMap f).length<=k*B
 |0,s,_=>by simp
 |k+1,s,h=>by
  rw[List.range'_succ,List.flatMap_cons,List.length_append];have h1:=h s (by omega) (by omega);have af:=adf k (s+1) λv h1 af=>h v (by omega) (by omega);rw[Nat.add_mul];omega
theorem adg {rec:aAx->Int->Int->aAe->aAC->Option aAC} {a:aAe} {out:aAC} {p:b8} {v w:Int} {x:aAe} (aw:Bf p) (a6:∀q∈p.cm,p3 q a.length 15=true)
  (aV:hB p.Name=true) (hl:p.cm.length<=2) (bs:∀y∈a,gj y) (bG:out.length<=1048576) (hg:∀y∈out,fF y):
  Gw rec a out p v w x=some (lO out ⟨iW p.Name (oq p.cm a),⟨v,w,x⟩⟩):=by
 have y8:p.Name.length<=10:=by simp only[hB,Bool.and_eq_true,decide_eq_true_eq]at aV;exact aV.1
 unfold Gw;rw[(Mo _ aw.2.1 a a6).1];simp only[bind_some];rw[ac0 _ _ y8 (by unfold oq;rw[List.length_map];omega) (Ij bs a6)];simp only[bind_some,awx _ _ bG hg]
theorem adh {e:aAx} {i j:Nat} {a:aAe} {p:b8} {N:Nat} {f:Nat->aAC} {rec:aAx->Int->Int->aAe->aAC->Option aAC} (A_:p.Number=(N:Int)-1) (Bm:N<=8) (bE:j<=1048576) (ym:a.length<=100)
  (bI:∀v,v<N->(∀s∈f v,fF s)/\∀out:aAC,out.length<=201->(∀x∈out,fF x)->rec e (i:Int) ((j+1:Nat):Int) (a++[(v:Int)]) out=some ((f v).foldl mL out)):
  ∀(k s:Nat) (out:aAC) (m:Nat),s+k=N->k<m->out.length<=201->(∀x∈out,fF x)->Cz rec e (i:Int) (j:Int) a p m out (s:Int)=some (((List.range' s k).flatMap f).foldl mL out)
 |0,s,out,m,ae,hm,bG,hg=>by
  obtain⟨m,rfl⟩:∃q,m=q+1:=⟨m-1,by omega⟩
  simp only[Cz,PW,z_];rw[show decide ((s:Int)<=p.Number)=false from decide_eq_false (by omega)];rfl
 |k+1,s,out,m,ae,hm,bG,hg=>by
  obtain⟨m,rfl⟩:∃q,m=q+1:=⟨m-1,by omega⟩
  obtain⟨h1,af⟩:=bI s (by omega);simp only[Cz,PW];rw[show decide ((s:Int)<=p.Number)=true from decide_eq_true (by omega),cond_true,T2 a (by omega)];simp only[bind_some];rw[jN (by omega) (by omega),fw bE,fw (by omega)];simp only[bind_some,af out bG hg];obtain⟨g1,g2⟩:=T7 (f s) out bG hg h1;rw[adh A_ Bm bE ym bI k (s+1) _ m (by omega) (by omega) g1 g2,List.range'_succ,List.flatMap_cons,List.foldl_append]
theorem adi {e:aAx} {i j:Nat} {a:aAe} {q:b8} {N:Nat} {f:Nat->aAC} {rec:aAx->aAC->aAa->Int->Int->aAe->Option (aAx×aAC×aAa)} (A_:q.Number=(N:Int)-1) (Bm:N<=8) (bE:j<=1048576) (ym:a.length<=100)
  (bI:∀v,v<N->∀p:aAC×aAa,p.1.length+(f v).length<=549755813888->rec e p.1 p.2 (i:Int) ((j+1:Nat):Int) (a++[(v:Int)])=some (e,((f v).foldl mx p).1,((f v).foldl mx p).2)):
  ∀(k s:Nat) (p:aAC×aAa) (m:Nat),s+k=N->k<m->p.1.length+((List.range' s k).flatMap f).length<=549755813888->
   De rec (i:Int) (j:Int) a q m e p.1 p.2 (s:Int)=some (e,(((List.range' s k).flatMap f).foldl mx p).1,(((List.range' s k).flatMap f).foldl mx p).2)
 |0,s,p,m,ae,hm,bG=>by
  obtain⟨m,rfl⟩:∃q,m=q+1:=⟨m-1,by omega⟩
  simp only[De,QW];rw[eF (q.Number+1) (by omega),show decide ((s:Int)<q.Number+1)=false from decide_eq_false (by omega)];rfl
 |k+1,s,p,m,ae,hm,bG=>by
  obtain⟨m,rfl⟩:∃q,m=q+1:=⟨m-1,by omega⟩
  rw[List.range'_succ,List.flatMap_cons,List.length_append]at bG;simp only[De,QW];rw[eF (q.Number+1) (by omega),show decide ((s:Int)<q.Number+1)=true from decide_eq_true (by omega),cond_true,Mq a (by omega)];simp only[bind_some];rw[jN (by omega) (by omega),fw bE,fw (by omega)];simp only[bind_some,bI s (by omega) p (by omega)];have hk:=T8 (f s) p;rw[adi A_ Bm bE ym bI k (s+1) _ m (by omega) (by omega) (by omega),List.range'_succ,List.flatMap_cons,List.foldl_append]
theorem Uc (n B:Nat):2^(n+1)*B=2^n*B+2^n*B:=by
 rw[Nat.pow_succ,Nat.mul_comm (2^n) 2,Nat.mul_assoc,Nat.two_mul]
theorem awB (n k:Nat):1<=2^n*8^k:=Nat.mul_pos (Nat.pow_pos (by omega)) (Nat.pow_pos (by omega))
theorem awC {n k:Nat} (h:k<=5):2^n*8^(6-k)=8*(2^n*8^(6-(k+1))):=by
 rw[show 6-k=(6-(k+1))+1 by omega,Nat.pow_succ,<-Nat.mul_assoc,Nat.mul_comm]
theorem awD {e:aAx} (h:p4 e) (aB:l9 e=true) {i:Nat} (aj:i<e.length):∀(n j:Nat) (a:aAe),j<e[i].Body.length->(jO e[i] j).scope=(a.length:Int)->(∀x∈a,gj x)->e[i].Body.length-j<=n->vG e e[i] i n j a:=by
 obtain⟨IQ,az5,ao⟩:=Eg h aB;obtain⟨az6,o2,_⟩:=ao i aj;obtain⟨s1,s2,pI⟩:=Bh o2;intro n;induction n with
 |zero=>intro j a bE _ _ aV;omega
 |succ n ih=>
  intro j a bE mQ bs aV;have P:=TX h aB aj bE;rw[mQ,<-Mr bE]at P;have ym:a.length<=29:=by have:=P.acW;omega
  obtain⟨Il,adj⟩:=awr e[i] s1 bE;rw[<-Mr bE]at Il adj;have sG:=dO e i aj;have sH:=Ub bE;have Ek:∀out:aAC,200<out.length->decide (200<(out.length:Int))=true:=λout bG=>decide_eq_true (by omega);have iv:∀out:aAC,¬200<out.length->decide (200<(out.length:Int))=false:=λout bG=>decide_eq_false (by omega);by_cases bV:(fA e[i] j).Kind=1
  .have kB:eK (fA e[i] j)=1:=by unfold eK;rw[if_pos (.inl bV)]
   obtain⟨rS,xy⟩:=Il (by omega);have xy:(jO e[i] (j+1)).scope=(a.length:Int):=by rw[xy];unfold below;rw[if_neg (by omega)];exact mQ
   have za:=TX h aB aj rS;rw[xy,<-Mr rS]at za;obtain⟨lV,bJ,fg⟩:=P.act bV;have Ms:=T4 (a:=oq (fA e[i] j).cm a) lV (by unfold oq;rw[List.length_map];omega) (Ij bs P.args);have zb:fF (xu e[i] i j a):=by
    refine⟨Ms,?_,?_,?_,_,_,lV,by unfold oq;rw[List.length_map];exact bJ,λh=>by unfold oq;rw[List.length_map];exact fg h,Ij bs P.args,rfl⟩
    .unfold xu;by_cases eC:(fA e[i] (j+1)).Kind=5
     .rw[if_pos eC];obtain⟨bw,cd,_⟩:=za.call eC;obtain⟨BC,adk,_⟩:=ade cd;exact⟨(fA e[i] (j+1)).Number.toNat,by omega,by simp only;omega⟩
     .rw[if_neg eC];exact⟨i,by omega,rfl⟩
    .unfold xu;by_cases eC:(fA e[i] (j+1)).Kind=5
     .rw[if_pos eC];exact⟨0,by omega,rfl⟩
     .rw[if_neg eC];exact⟨j+1,by omega,rfl⟩
    .unfold xu;by_cases eC:(fA e[i] (j+1)).Kind=5
     .rw[if_pos eC];obtain⟨bw,cd,fH⟩:=za.call eC;refine⟨?_,Ij bs za.args⟩;have aw:bw.dW<=3:=by
       obtain⟨BC,adk,awE⟩:=ade cd;have:=(ao _ adk).1;rw[awE]at this;exact this.2
      unfold oq;rw[List.length_map];omega
     .rw[if_neg eC];exact⟨by simp only;omega,bs⟩
   refine vG.of (l:=[xu e[i] i j a]) (by rw[jl,if_pos bV]) (λs ae=>by rw[List.mem_singleton]at ae;rw[ae];exact zb) (awB _ _) ?_ ?_
   .intro m hm out bG hg;obtain⟨m,rfl⟩:∃q,m=q+1:=⟨m-1,by omega⟩
    simp only[rW,ys];rw[sG];simp only[bind_some];rw[sH];simp only[bind_some];by_cases ae:200<out.length
    .rw[Ek out ae,Ej _ _ ae];rfl
    .rw[iv out ae,bV,awA _ _ ae,T2 a (by omega),fw (by omega)];simp only[cond_false,beq_self_eq_true,cond_true,bind_some];rw[Ub rS];simp only[bind_some];unfold xu;by_cases eC:(fA e[i] (j+1)).Kind=5
     .rw[if_pos eC,eC];simp only[beq_self_eq_true,cond_true];rw[(Mo _ za.small.2.1 a za.args).1];simp only[bind_some];exact adg P.small P.args lV bJ bs (by omega) hg
     .rw[if_neg eC,show((fA e[i] (j+1)).Kind==5)=false by simpa using eC,cond_false];exact adg P.small P.args lV bJ bs (by omega) hg
   .intro m hm p fL;obtain⟨m,rfl⟩:∃q,m=q+1:=⟨m-1,by omega⟩
    obtain⟨b,ab⟩:=awu (fA e[i] j).Name (oq (fA e[i] j).cm a) lV (by unfold oq;rw[List.length_map];omega) (λa6=>by unfold oq;rw[List.length_map];exact fg a6) (Ij bs P.args);have vY:=awz e p.1 p.2 (xu e[i] i j a) zb (by omega);simp only[r6,yA];rw[sG];simp only[bind_some];rw[sH];simp only[bind_some];rw[bV,(Mo _ P.small.2.1 a P.args).2];simp only[beq_self_eq_true,cond_true,bind_some,ab,Mq a (show a.length<=1048576 by omega)];rw[fw (by omega),Ub rS];simp only[bind_some,KV,List.foldl_cons,List.foldl_nil];unfold xu at vY⊢;by_cases eC:(fA e[i] (j+1)).Kind=5
    .rw[if_pos eC]at vY⊢;rw[eC];simp only[beq_self_eq_true,cond_true];rw[(Mo _ za.small.2.1 a za.args).2];simp only[bind_some];simp only at vY;rw[vY];rfl
    .rw[if_neg eC]at vY⊢;rw[show((fA e[i] (j+1)).Kind==5)=false by simpa using eC,cond_false];simp only at vY;rw[vY];rfl
  by_cases cn:(fA e[i] j).Kind=2
  .have kB:eK (fA e[i] j)=2:=by unfold eK;rw[if_neg (by omega),if_pos cn]
   have El:(below (fA e[i] j) (jO e[i] j)).scope=(a.length:Int):=by unfold below;rw[if_neg (by omega)];exact mQ
   obtain⟨rS,xy⟩:=Il (by omega);obtain⟨t,Ud,NZ,awF⟩:=adj kB;have dP:TZ e[i] (j+1)=j+1+t:=by unfold TZ;rw[Ud];rfl
   have pA:=ih (j+1) a rS (xy.trans El) bs (by omega);have BE:=ih (j+1+t) a NZ (awF.trans El) bs (by omega);have c7:((2:Int)==1)=false:=rfl;refine vG.of (l:=jl e[i] i n (j+1) a++jl e[i] i n (j+1+t) a) (by rw[jl,if_neg bV,if_pos cn,dP]) (λs ae=>(List.mem_append.1 ae).elim (pA.mu s) (BE.mu s)) ?_ ?_ ?_
   .have h1:=pA.len;have af:=BE.len;rw[List.length_append,Uc];omega
   .intro m hm out bG hg;obtain⟨m,rfl⟩:∃q,m=q+1:=⟨m-1,by omega⟩
    simp only[rW,ys];rw[sG];simp only[bind_some];rw[sH];simp only[bind_some];by_cases ae:200<out.length
    .rw[Ek out ae,Ej _ _ ae];rfl
    .obtain⟨g1,g2⟩:=T7 _ out bG hg pA.mu;rw[iv out ae,cn,fw (by omega),pA.spec m (by omega) out bG hg,List.foldl_append];simp only[cond_false,c7,beq_self_eq_true,cond_true,bind_some];rw[acm _ (by omega) (j+1) t Ud];simp only[bind_some];rw[BE.spec m (by omega) _ g1 g2];rfl
   .intro m hm p fL;obtain⟨m,rfl⟩:∃q,m=q+1:=⟨m-1,by omega⟩
    rw[List.length_append]at fL;have hk:=T8 (jl e[i] i n (j+1) a) p;simp only[r6,yA];rw[sG];simp only[bind_some];rw[sH];simp only[bind_some];rw[cn,fw (by omega),pA.impl m (by omega) p (by omega)];simp only[cond_false,c7,beq_self_eq_true,cond_true,bind_some];rw[ack _ (by omega) (j+1) (by omega),Ud];simp only[bind_some,tO];rw[BE.impl m (by omega) _ (by omega),List.foldl_append];rfl
  by_cases dV:(fA e[i] j).Kind=3
  .have kB:eK (fA e[i] j)=1:=by unfold eK;rw[if_pos (.inr (.inl dV))]
   obtain⟨rS,xy⟩:=Il (by omega);have El:(below (fA e[i] j) (jO e[i] j)).scope=(a.length:Int):=by unfold below;rw[if_neg (by omega)];exact mQ
   have pA:=ih (j+1) a rS (xy.trans El) bs (by omega);have az7:=P.awq dV;have cF:bh (fA e[i] j).cm 0=some ((fA e[i] j).cm.getD 0 []):=by
    have:=dO (fA e[i] j).cm 0 (by omega);rw[List.getD_eq_getElem?_getD,List.getElem?_eq_getElem (show 0<(fA e[i] j).cm.length by omega)];exact this
   have ED:=P.args ((fA e[i] j).cm.getD 0 []) (by
    rw[List.getD_eq_getElem?_getD,List.getElem?_eq_getElem (show 0<(fA e[i] j).cm.length by omega)];exact List.getElem_mem _)
   obtain⟨v1,v2,_⟩:=Mk (by omega) ED;have ha:((3:Int)==1)=false:=rfl;have fI:((3:Int)==2)=false:=rfl;by_cases b3:sD a ((fA e[i] j).cm.getD 0 [])=0
   .have zq:(sD a ((fA e[i] j).cm.getD 0 []) !=0)=false:=by rw[b3];rfl
    refine vG.of (l:=[]) (by rw[jl,if_neg bV,if_neg cn,if_pos dV,if_neg (λau=>au b3)]) (λs ae=>by cases ae) (zero_le _) ?_ ?_
    .intro m hm out bG hg;obtain⟨m,rfl⟩:∃q,m=q+1:=⟨m-1,by omega⟩
     simp only[rW,ys,z_];rw[sG];simp only[bind_some];rw[sH];simp only[bind_some];rw[dV];simp only[ha,fI,beq_self_eq_true,cond_true,cond_false,cF,bind_some,v1,zq,List.foldl_nil];cases decide (200<(out.length:Int))<;>rfl
    .intro m hm p fL;obtain⟨m,rfl⟩:∃q,m=q+1:=⟨m-1,by omega⟩
     simp only[r6,yA];rw[sG];simp only[bind_some];rw[sH];simp only[bind_some];rw[dV];simp only[ha,fI,beq_self_eq_true,cond_true,cond_false,cF,bind_some,v2,zq,List.foldl_nil]
   .have zq:(sD a ((fA e[i] j).cm.getD 0 []) !=0)=true:=by simpa using b3
    refine vG.of (l:=jl e[i] i n (j+1) a) (by rw[jl,if_neg bV,if_neg cn,if_pos dV,if_pos b3]) pA.mu ?_ ?_ ?_
    .have h1:=pA.len;rw[Uc];omega
    .intro m hm out bG hg;obtain⟨m,rfl⟩:∃q,m=q+1:=⟨m-1,by omega⟩
     simp only[rW,ys];rw[sG];simp only[bind_some];rw[sH];simp only[bind_some];by_cases ae:200<out.length
     .rw[Ek out ae,Ej _ _ ae];rfl
     .rw[iv out ae,dV,fw (by omega)];simp only[ha,fI,beq_self_eq_true,cond_true,cond_false,cF,bind_some,v1,zq];rw[pA.spec m (by omega) out bG hg];rfl
    .intro m hm p fL;obtain⟨m,rfl⟩:∃q,m=q+1:=⟨m-1,by omega⟩
     simp only[r6,yA];rw[sG];simp only[bind_some];rw[sH];simp only[bind_some];rw[dV,fw (by omega)];simp only[ha,fI,beq_self_eq_true,cond_true,cond_false,cF,bind_some,v2,zq];rw[pA.impl m (by omega) p fL];rfl
  by_cases ea:(fA e[i] j).Kind=4
  .have kB:eK (fA e[i] j)=1:=by unfold eK;rw[if_pos (.inr (.inr ea))]
   obtain⟨rS,xy⟩:=Il (by omega);obtain⟨m1,m7,m5⟩:=P.sum ea;have El:∀v:Nat,(jO e[i] (j+1)).scope=((a++[(v:Int)]).length:Int):=λv=>by
    rw[xy];unfold below;rw[if_pos ea,List.length_append];simp only[List.length_cons,List.length_nil];omega
   have iU:∀v:Nat,v<8->∀x∈a++[(v:Int)],gj x:=λv Mt x aq=>by
    rcases List.mem_append.1 aq with aq|aq
    .exact bs x aq
    .rw[List.mem_singleton]at aq;subst aq;exact⟨by omega,by omega⟩
   have A:∀v:Nat,v<8->vG e e[i] i n (j+1) (a++[(v:Int)]):=λv Mt=>ih (j+1) _ rS (El v) (iU v Mt) (by omega);have A_:(fA e[i] j).Number=(((fA e[i] j).Number.toNat+1:Nat):Int)-1:=by omega
   have Bm:(fA e[i] j).Number.toNat+1<=8:=by omega
   have ha:((4:Int)==1)=false:=rfl;have fI:((4:Int)==2)=false:=rfl;have fV:((4:Int)==3)=false:=rfl;refine vG.of (l:=(List.range' 0 ((fA e[i] j).Number.toNat+1)).flatMap λ(v:Nat)=>jl e[i] i n (j+1) (a++[((v:Nat):Int)])) (by rw[jl,if_neg bV,if_neg cn,if_neg dV,if_pos ea]) ?_ ?_ ?_ ?_
   .intro s ae;obtain⟨v,zV,Bi⟩:=List.mem_flatMap.1 ae;have:=List.mem_range'_1.1 zV;exact(A v (by omega)).mu s Bi
   .have h1:=adf (f:=λ(v:Nat)=>jl e[i] i n (j+1) (a++[((v:Nat):Int)])) (B:=2^n*8^(6-(a.length+1))) ((fA e[i] j).Number.toNat+1) 0 (λv _ Bi=>by
     have:=(A v (by omega)).len
     rwa [List.length_append]at this)
    have af:((fA e[i] j).Number.toNat+1)*(2^n*8^(6-(a.length+1)))<=8*(2^n*8^(6-(a.length+1))):=mul_le_mul_right _ Bm;have ay:=awC (n:=n) (k:=a.length) (by omega);rw[Uc];omega
   .intro m hm out bG hg;obtain⟨m,rfl⟩:∃q,m=q+1:=⟨m-1,by omega⟩
    simp only[rW,ys];rw[sG];simp only[bind_some];rw[sH];simp only[bind_some];by_cases ae:200<out.length
    .rw[Ek out ae,Ej _ _ ae];rfl
    .rw[iv out ae,ea];simp only[ha,fI,fV,beq_self_eq_true,cond_true,cond_false];refine e0 9 λq cF=>?_;exact adh A_ Bm (by omega) (by omega) (λv Mt=>⟨(A v (by omega)).mu,λout bG hg=>(A v (by omega)).spec m (by omega) out bG hg⟩) _ 0 out q (by omega) (by omega) bG hg
   .intro m hm p fL;obtain⟨m,rfl⟩:∃q,m=q+1:=⟨m-1,by omega⟩
    simp only[r6,yA];rw[sG];simp only[bind_some];rw[sH];simp only[bind_some];rw[ea];simp only[ha,fI,fV,beq_self_eq_true,cond_true,cond_false];refine e0 9 λq cF=>?_;exact adi A_ Bm (by omega) (by omega) (λv Mt p aw=>(A v (by omega)).impl m (by omega) p aw) _ 0 p q (by omega) (by omega) fL
  .refine vG.of (l:=[]) (by rw[jl,if_neg bV,if_neg cn,if_neg dV,if_neg ea]) (λs ae=>by cases ae) (zero_le _) ?_ ?_
   .have ha:((fA e[i] j).Kind==1)=false:=by simpa using bV
    have fI:((fA e[i] j).Kind==2)=false:=by simpa using cn
    have fV:((fA e[i] j).Kind==3)=false:=by simpa using dV
    have bZ:((fA e[i] j).Kind==4)=false:=by simpa using ea
    intro m hm out bG hg;obtain⟨m,rfl⟩:∃q,m=q+1:=⟨m-1,by omega⟩
    simp only[rW,ys,z_];rw[sG];simp only[bind_some];rw[sH];simp only[bind_some,ha,fI,fV,bZ,cond_false,List.foldl_nil];cases decide (200<(out.length:Int))<;>rfl
   .have ha:((fA e[i] j).Kind==1)=false:=by simpa using bV
    have fI:((fA e[i] j).Kind==2)=false:=by simpa using cn
    have fV:((fA e[i] j).Kind==3)=false:=by simpa using dV
    have bZ:((fA e[i] j).Kind==4)=false:=by simpa using ea
    intro m hm p fL;obtain⟨m,rfl⟩:∃q,m=q+1:=⟨m-1,by omega⟩
    simp only[r6,yA];rw[sG];simp only[bind_some];rw[sH];simp only[bind_some,ha,fI,fV,bZ,cond_false,List.foldl_nil]
theorem awG (e:aAx) (h:p4 e) (aB:l9 e=true) (p:ba) (aw:p.bP.length<=1048576):∃b,td e p=some b/\GY e p=some b:=by
 unfold td GY ml;rw[Mf _ e.length h.1,eF ((e.length:Int)-1) (by have:=h.1;omega)];simp only[bind_some];cases hk:(decide (0<=p.cy)&&decide (p.cy<=(e.length:Int)-1))
 .exact⟨false,rfl,rfl⟩
 .simp only[Bool.and_eq_true,decide_eq_true_eq]at hk;obtain⟨i,Em⟩:∃i:Nat,p.cy=i:=⟨p.cy.toNat,by omega⟩
  rw[Em]at hk⊢;have aj:i<e.length:=by omega
  have ab:=(h.2 _ (List.getElem_mem aj)).2.1;rw[dO e i aj];simp only[Bool.not_true,cond_false,bind_some];rw[Mf _ e[i].Body.length ab,eF ((e[i].Body.length:Int)-1) (by omega)];simp only[bind_some];cases cF:(decide (0<=p.Part)&&decide (p.Part<=(e[i].Body.length:Int)-1))
  .exact⟨false,rfl,rfl⟩
  .simp only[Bool.and_eq_true,decide_eq_true_eq]at cF;obtain⟨j,uI⟩:∃j:Nat,p.Part=j:=⟨p.Part.toNat,by omega⟩
   rw[uI]at cF⊢;have bE:j<e[i].Body.length:=by omega
   obtain⟨gP,ps,gA,je⟩:=acL h aB aj bE;rw[dO e[i].Body j bE];simp only[Bool.not_true,cond_false,bind_some,gP,gA,je,T0 _ aw,T1 _ aw];have dP:(e[i].Body[j].Kind !=5)= !(e[i].Body[j].Kind==5):=rfl;rw[dP];cases e[i].Body[j].Kind==5
   .simp only[Bool.not_false,cond_true,cond_false];cases((p.bP.length:Int)==(jO e[i] j).scope)
    .exact⟨_,rfl,rfl⟩
    .exact⟨_,rfl,rfl⟩
   .exact⟨_,rfl,rfl⟩
theorem adl {e:aAx} (h:p4 e) (aB:l9 e=true) {p:ba} (aw:p.bP.length<=1048576) (ae:td e p=some true):
  ∃(i:Nat) (aj:i<e.length) (j:Nat),p.cy=(i:Int)/\p.Part=(j:Int)/\j<e[i].Body.length/\(jO e[i] j).scope=(p.bP.length:Int)/\∀x∈p.bP,gj x:=by
 unfold td ml at ae;rw[eF ((e.length:Int)-1) (by have:=h.1;omega)]at ae;simp only[bind_some]at ae;cases hk:(decide (0<=p.cy)&&decide (p.cy<=(e.length:Int)-1))
 .rw[hk]at ae;cases ae
 rw[hk]at ae;simp only[Bool.and_eq_true,decide_eq_true_eq]at hk;obtain⟨i,Em⟩:∃i:Nat,p.cy=i:=⟨p.cy.toNat,by omega⟩
 have aj:i<e.length:=by omega
 have ab:=(h.2 _ (List.getElem_mem aj)).2.1;rw[Em,dO e i aj]at ae;simp only[Bool.not_true,cond_false,bind_some]at ae;rw[eF ((e[i].Body.length:Int)-1) (by omega)]at ae;cases cF:(decide (0<=p.Part)&&decide (p.Part<=(e[i].Body.length:Int)-1))
 .rw[cF]at ae;cases ae
 rw[cF]at ae;simp only[Bool.and_eq_true,decide_eq_true_eq]at cF;obtain⟨j,uI⟩:∃j:Nat,p.Part=j:=⟨p.Part.toNat,by omega⟩
 have bE:j<e[i].Body.length:=by omega
 obtain⟨gP,_⟩:=acL h aB aj bE;rw[uI,dO e[i].Body j bE]at ae;simp only[Bool.not_true,cond_false,bind_some,gP,T0 _ aw]at ae;cases adm:e[i].Body[j].Kind==5
 .rw[adm]at ae;simp only[cond_false]at ae;cases hl:((p.bP.length:Int)==(jO e[i] j).scope)
  .rw[hl]at ae;cases ae
  .rw[hl]at ae;simp only[beq_iff_eq]at hl;have adn:y7 p.bP=true:=some.inj ae;refine⟨i,aj,j,Em,uI,bE,hl.symm,λx aq=>?_⟩;simp only[y7,pk]at adn;obtain⟨k,hk,rfl⟩:=List.mem_iff_getElem.1 aq;have:=adn k hk;simp only[sx,Bool.and_eq_true,decide_eq_true_eq,List.getD_eq_getElem?_getD,List.getElem?_eq_getElem hk,getD_some]at this;exact this
 .rw[adm]at ae;cases ae
theorem ado:∀(l o:aAC),(∀x∈l,fF x)->(∀x∈o,fF x)->∀x∈l.foldl lO o,fF x
 |[],o,_,bG=>bG
 |s::r,o,hl,bG=>ado r _ (λx aq=>hl x (List.mem_cons_of_mem _ aq)) (ac5 bG (hl s (by simp)))
theorem awH {e:aAx} (h:p4 e) (aB:l9 e=true) {p:ba} (aw:p.bP.length<=1048576) (ae:td e p=some true):
  ∃(lP S:aAC) (b:Bool),va e p=some (lP,b)/\uS e p=some (S,b)/\(b=true->S=lP/\lP.length<=200/\∀x∈lP,fF x):=by
 obtain⟨i,aj,j,Em,uI,bE,mQ,iU⟩:=adl h aB aw ae;have awI:e[i].Body.length<=20:=(Bh ((Eg h aB).2.2 i aj).2.1).2.2;have A:=awD h aB aj 20 j p.bP bE mQ iU (by omega);have hlen:(jl e[i] i 20 j p.bP).length<=549755813888:=by
  have h1:=A.len;have af:2^20*8^(6-p.bP.length)<=2^20*8^6:=mul_le_mul_left _ (Nat.pow_le_pow_right (by omega) (by omega));have ay:2^20*8^6=274877906944:=by decide
  omega
 have cc:Kh e (i:Int) (j:Int) p.bP []=some ((jl e[i] i 20 j p.bP).foldl mL []):=by
  unfold Kh;exact e0 20 λm hm=>A.spec m hm [] (by simp) (λx aq=>by cases aq)
 have En:KW e [] [] (i:Int) (j:Int) p.bP=some (e,((jl e[i] i 20 j p.bP).foldl mx ([],[])).1,((jl e[i] i 20 j p.bP).foldl mx ([],[])).2):=by
  unfold KW;exact e0 20 λm hm=>A.impl m hm ([],[]) (by simpa using hlen)
 have Fk:=Ua (jl e[i] i 20 j p.bP) [] [] A.mu (λx aq=>by cases aq) (λs _=>rfl);obtain⟨c1,c2⟩:=ac7 (jl e[i] i 20 j p.bP) [];have zb:=ado (jl e[i] i 20 j p.bP) [] A.mu (λx aq=>by cases aq);unfold uS va;rw[Em,uI,cc,En,Fk];simp only[bind_some];generalize (jl e[i] i 20 j p.bP).foldl lO []=lP at c1 c2 zb⊢;by_cases hl:lP.length<=200
 .rw[c1 hl];exact⟨lP,lP,_,rfl,rfl,λ_=>⟨rfl,hl,zb⟩⟩
 .have:=c2 (by omega);generalize (jl e[i] i 20 j p.bP).foldl mL []=eL at this⊢;refine⟨lP,eL,false,?_,?_,λh=>by cases h⟩
  .rw[show decide ((lP.length:Int)<=200)=false from decide_eq_false (by omega)]
  .rw[show decide ((eL.length:Int)<=200)=false from decide_eq_false (by omega)]
theorem Ue {n:aAc} (h:hB n=true):(40:UInt8)∉n:=λhm=>by
 have:=T3 h _ hm;revert this;decide
theorem Mu (c:UInt8):∀l:aAb,l≠[]->(∀x∈l,c∉x)->l8 c (jQ l [c])=l
 |[],h,_=>absurd rfl h
 |[x],_,h=>by rw[join_one,Tv c x (h x (by simp))]
 |x::y::r,_,h=>by
  rw[join_cons,List.singleton_append,Tw c x _ (h x (by simp)),Mu c (y::r) (by simp) λz b3=>h z (List.mem_cons_of_mem _ b3)]
theorem Uf {x:Int} (h:gj x):kp (kv x)=(x,true):=by
 obtain⟨n,rfl⟩:∃n:Nat,x=n:=⟨x.toNat,by have:=h.1;omega⟩
 have aV:n<64:=by have:=h.2;omega
 have key:∀k:Fin 64,kp (jn k.val)=((k.val:Int),true):=by decide
 have:=key ⟨n,aV⟩;simpa [kv]using this
theorem adp {a:aAe} (h:∀x∈a,gj x):tN (a.map kv)=a/\Bb (a.map kv)=true/\xl (a.map kv)=true:=by
 refine⟨?_,?_,?_⟩
 .unfold tN;rw[List.map_map];conv=>rhs;rw[<-List.map_id a]
  exact List.map_congr_left λx aq=>by simp only[Function.comp,Uf (h x aq),id]
 .unfold Bb;rw[List.all_map,List.all_eq_true];intro x aq;simp only[Function.comp,Uf (h x aq)]
 .unfold xl;rw[List.all_map,List.all_eq_true];intro x aq;have:=h x aq;simp only[Function.comp,Uf (h x aq),Bc,Bool.true_and,Bool.and_eq_true,decide_eq_true_eq];exact this
theorem Mv {n:aAc} {a:aAe} (h:a.length≠0):iW n a=n++40::(iV a++[41]):=by
 unfold iW;rw[if_neg h];simp
theorem awJ {a:aAe} (h:a.length≠0):iV a=jQ (a.map kv) [44]:=by
 unfold iV;rw[if_neg (λe=>h (by rw[e];rfl))]
theorem adq {a:aAe} (h:a.length≠0) (aB:∀x∈a,gj x):l8 44 (iV a)=a.map kv:=by
 rw[awJ h];exact Mu 44 _ (λe=>h (by simpa using congrArg List.length e)) (T_ aB)
theorem awK {n:aAc} {a:aAe} (aV:hB n=true) (hl:a.length<=2) (a6:(n==([116,97,117]:aAc))=true->a.length=0) (aB:∀x∈a,gj x):
  Ax (iW n a)=some (n,a,true):=by
 have y8:n.length<=10:=by simp only[hB,Bool.and_eq_true,decide_eq_true_eq]at aV;exact aV.1
 have zc:=Ue aV;unfold Ax;by_cases h:a.length=0
 .have bs:a=[]:=List.length_eq_zero_iff.1 h;subst bs;have e:iW n []=n:=rfl;rw[e,at7 zc];simp only[bind_some,cond_false,G5];rw[Ik n [] aV (by simp) (λ_=>rfl) (λx aq=>by cases aq),e];simp
 .have h1:=xr a;have au:=adq h aB;rw[Mv h,aua n (iV a++[41]) zc (by simp;omega)];simp only[bind_some,cond_true];rw[aub _ (by omega),bind_some,aug 44 _ (by omega),bind_some,au,aur _ (by simp;omega)];obtain⟨aK,aT,_⟩:=adp aB;rw[aK,aT];simp only[if_true,bind_some,Bool.not_true,cond_false,G5];rw[Ik n a aV hl a6 aB,Mv h];simp
theorem adr {n:aAc} {a:aAe} (aV:hB n=true) (hl:a.length<=2):te (iW n a)=some n:=by
 have y8:n.length<=10:=by simp only[hB,Bool.and_eq_true,decide_eq_true_eq]at aV;exact aV.1
 have zc:=Ue aV;unfold te;by_cases h:a.length=0
 .have bs:a=[]:=List.length_eq_zero_iff.1 h;subst bs;have e:iW n []=n:=rfl;rw[e,(Ih n (by omega)).1 zc,bind_some,xc _ _ (Nat.le_refl _),List.take_length];rfl
 .have h1:=xr a;rw[Mv h,(Ih _ (by simp;omega)).2 n _ rfl zc,bind_some,xc _ _ (by simp),List.take_left];rfl
theorem ads {n:aAc} {a:aAe} (aV:hB n=true) (hl:a.length<=2) (a6:(n==([116,97,117]:aAc))=true->a.length=0) (aB:∀x∈a,gj x):
  Ah (iW n a)=some (a,true):=by
 have y8:n.length<=10:=by simp only[hB,Bool.and_eq_true,decide_eq_true_eq]at aV;exact aV.1
 have zc:=Ue aV;unfold Ah;by_cases h:a.length=0
 .have bs:a=[]:=List.length_eq_zero_iff.1 h;subst bs;have e:iW n []=n:=rfl;rw[e,(Ih n (by omega)).1 zc,bind_some,beq_self_eq_true,cond_true,D5,aV];rfl
 .have h1:=xr a;have n0:(n==([116,97,117]:aAc))=false:=by
   cases hk:n==([116,97,117]:aAc)
   .rfl
   .exact absurd (a6 hk) h
  have mW:(n++40::(iV a++[41])).length=n.length+(iV a).length+2:=by simp;omega
  have gb:((n.length:Int)==(((n++40::(iV a++[41])).length:Nat):Int))=false:=by rw[mW,beq_eq_false_iff_ne];omega
  rw[Mv h,(Ih _ (by omega)).2 n _ rfl zc,bind_some,gb,cond_false];rw[xc _ _ (by omega),List.take_left,bind_some];have sB:uP n=some true:=by unfold uP;rw[D5,aV];simp only[bind_some,n0];rfl
  rw[sB];simp only[bind_some,Bool.not_true,cond_false];have aK:i64.wrap (((n++40::(iV a++[41])).length:Int)-1)=((n.length+(iV a).length+1:Nat):Int):=by rw[mW,eF _ (by omega)];omega
  have aT:i64.wrap ((n.length:Int)+1)=((n.length+1:Nat):Int):=by rw[eF _ (by omega)];omega
  have aU:n++40::(iV a++[41])=(n++[40])++(iV a++[41]):=by simp
  rw[aK,aT,dO _ (n.length+(iV a).length+1) (by omega),bind_some];have b_:(n++40::(iV a++[41]))[n.length+(iV a).length+1]'(by omega)=41:=by
   rw[List.getElem_append_right (by omega)];simp[show n.length+(iV a).length+1-n.length=(iV a).length+1 by omega]
  rw[b_,show(((41:UInt8).toNat:Int) !=41)=false from rfl,cond_false,aU,L5 _ _ _ (by simp) (by simp;omega),bind_some,auh 44 _ (by omega),bind_some,adq h aB];have hw:∀w∈a.map kv,w.length<=1048576:=by
   intro w hw;obtain⟨x,_,rfl⟩:=List.mem_map.1 hw;have:=Ie x;omega
  rw[aus _ (by simp;omega) hw];obtain⟨f1,_,f3⟩:=adp aB;rw[f1,f3,List.length_map,decide_eq_true hl];rfl
section
open Classical
noncomputable def my {α:Type} (a b:α):Bool:=decide (a=b)
theorem qE {α:Type} {a b:α}:my a b=true↔a=b:=by unfold my;exact decide_eq_true_iff
noncomputable def hJ {α:Type} (o:List α) (m:α):List α:=if m∈o then o else o++[m]
end
theorem awL {α:Type} {o:List α} {m:α} (h:m∈o):hJ o m=o:=if_pos h
theorem awM {α:Type} {o:List α} {m:α} (h:m∉o):hJ o m=o++[m]:=if_neg h
theorem Ug {α:Type} (o:List α) (m:α):o.length<=(hJ o m).length/\(hJ o m).length<=o.length+1:=by
 unfold hJ;split
 .omega
 .simp
theorem Mw {α:Type} {o:List α} {m x:α} (h:x∈hJ o m):x∈o\/x=m:=by
 unfold hJ at h;split at h
 .exact .inl h
 .simpa using h
noncomputable def iM {α:Type} (o:List α) (m:α):List α:=if 200<o.length then o else hJ o m
theorem Mx {α:Type}:∀(l o:List α),o.length<=(l.foldl hJ o).length/\(l.foldl hJ o).length<=o.length+l.length
 |[],o=>by simp
 |s::r,o=>by
  have h1:=Ug o s;have af:=Mx r (hJ o s);rw[List.foldl_cons,List.length_cons];omega
theorem Uh {α:Type}:∀(l o:List α),200<o.length->l.foldl iM o=o
 |[],o,_=>rfl
 |s::r,o,h=>by rw[List.foldl_cons,show iM o s=o by unfold iM;rw[if_pos h],Uh r o h]
theorem adt {α:Type}:∀(l o:List α),((l.foldl hJ o).length<=200->l.foldl iM o=l.foldl hJ o)/\(200<(l.foldl hJ o).length->200<(l.foldl iM o).length)
 |[],o=>⟨λ_=>rfl,λh=>h⟩
 |s::r,o=>by
  by_cases h:200<o.length
  .rw[Uh _ _ h];have:=(Mx (s::r) o).1;exact⟨λaf=>by omega,λ_=>h⟩
  .rw[List.foldl_cons,List.foldl_cons,show iM o s=hJ o s by unfold iM;rw[if_neg h]];exact adt r (hJ o s)
def ot {α:Type} (K:α->aAc) (p:List α×aAa) (s:α):List α×aAa:=
 if kc (K s) p.2=true then p else(p.1++[s],kx (K s) true p.2)
theorem awN {α:Type} (K:α->aAc) (p:List α×aAa) (s:α):(ot K p s).1.length<=p.1.length+1:=by
 unfold ot;split
 .omega
 .simp
theorem adu {α:Type} (K:α->aAc):∀(l:List α) (p:List α×aAa),(l.foldl (ot K) p).1.length<=p.1.length+l.length
 |[],p=>Nat.le_refl _
 |s::r,p=>by
  have h1:=adu K r (ot K p s);have af:=awN K p s;rw[List.foldl_cons,List.length_cons];omega
theorem Ui {α:Type} {K:α->aAc} {G:α->Prop} (hK:∀x y,G x->G y->K x=K y->x=y):∀(l o:List α) (m:aAa),(∀x∈l,G x)->(∀x∈o,G x)->(∀s,G s->(kc (K s) m=true↔s∈o))->
  (l.foldl (ot K) (o,m)).1=l.foldl hJ o
 |[],o,m,_,_,_=>rfl
 |s::r,o,m,hl,bG,hm=>by
  have ae:=hl s (by simp);rw[List.foldl_cons,List.foldl_cons];by_cases h:s∈o
  .rw[awL h,show ot K (o,m) s=(o,m)from if_pos ((hm s ae).2 h)];exact Ui hK r o m (λx aq=>hl x (List.mem_cons_of_mem _ aq)) bG hm
  .rw[awM h,show ot K (o,m) s=(o++[s],kx (K s) true m)from if_neg λe=>h ((hm s ae).1 e)];refine Ui hK r _ _ (λx aq=>hl x (List.mem_cons_of_mem _ aq)) (λx aq=>?_) λx aq=>?_
   .rcases List.mem_append.1 aq with aq|aq
    .exact bG x aq
    .rw[List.mem_singleton]at aq;rwa [aq]
   .rw[T9,List.mem_append,List.mem_singleton,<-hm x aq];split
    .rename_i e;exact⟨λ_=>.inr (hK _ _ ae aq e).symm,λ_=>rfl⟩
    .rename_i e;exact⟨.inl,λq=>q.elim id λq=>absurd (by rw[q]) e⟩
structure kN (p:ba):Prop where
 xv:∃i:Nat,i<100/\p.cy=(i:Int)
 xw:∃j:Nat,j<100/\p.Part=(j:Int)
 kM:p.bP.length<=64/\∀x∈p.bP,gj x
theorem fF.next {s:bl} (h:fF s):kN s.Next:=⟨h.xv,h.xw,h.kM⟩
def po (p:ba):aAc:=(jn p.cy.toNat++[58])++((jn p.Part.toNat++[58])++iV p.bP)
def Bn (q:aAA):aAc:=jQ (q.map po) [32]
theorem awO {p:ba} (h:kN p):(po p).length<=300:=by
 have h1:=xk p.cy.toNat;have af:=xk p.Part.toNat;have ay:=xr p.bP;have a_:=h.kM.1;simp only[po,List.length_append,List.length_cons,List.length_nil];omega
theorem awP {p:ba} (h:kN p):Au p=some (po p):=by
 obtain⟨i,aj,iF⟩:=h.xv;obtain⟨j,bE,oX⟩:=h.xw;have h1:=xk i;have af:=xk j;have ay:=xr p.bP;have a_:=h.kM.1;unfold Au KT po;simp only[iF,oX,Ba i aj,Ba j bE,bind_some,TP _ a_ h.kM.2,Int.toNat_natCast];rw[mw (by omega),mw (by omega)];simp only[bind_some];rw[mw (by simp only[List.length_append,List.length_cons,List.length_nil];omega)];simp only[bind_some];rw[mw (by simp only[List.length_append,List.length_cons,List.length_nil];omega)];rfl
theorem adv {q:aAA} (h:∀p∈q,kN p):(Bn q).length<=q.length*301:=by
 have:=Ic 32 300 (q.map po) λx aq=>by
  obtain⟨y,hy,rfl⟩:=List.mem_map.1 aq;exact awO (h y hy)
 rwa [List.length_map]at this
theorem awQ {q:aAA} (cF:q.length<=100) (h:∀p∈q,kN p):K3 q=some (Bn q):=by
 have bE:strings_Join (q.map po) [32]=some (Bn q):=by
  have:=adv h;unfold strings_Join;rw[if_pos ⟨by rw[List.length_map];omega,by unfold Bn at this;omega⟩];rfl
 have key:∀i,i<=q.length->∀(v:aAb) m,v.length=i->q.length-i<m->Dk q m v (i:Int)=strings_Join (v++(q.drop i).map po) [32]:=by
  refine down q.length ?_ ?_
  .intro v m pF hm;obtain⟨m,rfl⟩:∃j,m=j+1:=⟨m-1,by omega⟩
   simp only[Dk,Q_];rw[ee (Nat.le_refl _),List.drop_of_length_le (Nat.le_refl _),List.map_nil,List.append_nil,cond_false];cases strings_Join v [32]<;>rfl
  .intro i aj ih v m pF hm;obtain⟨m,rfl⟩:∃j,m=j+1:=⟨m-1,by omega⟩
   simp only[Dk,Q_];rw[ek aj,dO _ i aj,ed i _ aj (by omega)];simp only[cond_true,bind_some,awP (h _ (List.getElem_mem aj))];rw[jN (by omega) (by omega),bind_some,ih (v++[_]) m (by simp[pF]) (by omega),drop_cons q i aj,List.map_cons,List.append_assoc];rfl
 unfold K3;refine e0 (q.length+1) λm hm=>?_;have:=key 0 (by omega) [] m rfl (by omega);rw[List.drop_zero,List.nil_append,bE]at this;exact this
theorem awR {p:ba} (h:kN p):∀c∈po p,44<=c.toNat:=by
 obtain⟨i,aj,iF⟩:=h.xv;obtain⟨j,bE,oX⟩:=h.xw;intro c au;unfold po at au;rw[iF,oX,Int.toNat_natCast,Int.toNat_natCast]at au;simp only[List.mem_append,List.mem_singleton]at au;rcases au with(au|rfl)|(au|rfl)|au
 .have:=(xx i aj c au).1;omega
 .decide
 .have:=(xx j bE c au).1;omega
 .decide
 .exact(ac3 _ h.kM.2 c au).1
theorem awS {x y:ba} (aq:kN x) (hy:kN y) (h:po x=po y):x=y:=by
 obtain⟨i,aj,iF⟩:=aq.xv;obtain⟨j,bE,oX⟩:=aq.xw;obtain⟨uf,uq,Uj⟩:=hy.xv;obtain⟨az8,FP,Uk⟩:=hy.xw;unfold po at h;rw[iF,oX,Uj,Uk]at h;simp only[Int.toNat_natCast,List.append_assoc,List.singleton_append]at h;obtain⟨J,a2⟩:=vF (y_ aj) (y_ uq) h;obtain⟨a3,a4⟩:=vF (y_ bE) (y_ FP) a2;have a5:=ac_ aq.kM.2 hy.kM.2 a4;have p8:=Bl aj uq J;have pC:=Bl bE FP a3;cases x;cases y;simp only at iF oX Uj Uk a5;rw[iF,oX,Uj,Uk,a5,p8,pC]
theorem awT {c:UInt8}:∀{a b:aAb},(∀x∈a,c∉x)->(∀x∈b,c∉x)->a≠[]->b≠[]->jQ a [c]=jQ b [c]->a=b:=by
 intro a b bs ab h1 af h;have:=congrArg (l8 c) h
 rwa [Mu c a h1 bs,Mu c b af ab]at this
theorem adw:∀{a b:aAA},(∀x∈a,kN x)->(∀x∈b,kN x)->a.map po=b.map po->a=b
 |[],[],_,_,_=>rfl
 |[],_::_,_,_,h=>by cases h
 |_::_,[],_,_,h=>by cases h
 |x::xs,y::cq,h1,af,h=>by
  rw[List.map_cons,List.map_cons]at h;obtain⟨aK,aT⟩:=List.cons.inj h;rw[awS (h1 x (by simp)) (af y (by simp)) aK,adw (λz b3=>h1 z (List.mem_cons_of_mem _ b3)) (λz b3=>af z (List.mem_cons_of_mem _ b3)) aT]
theorem awU {a b:aAA} (bs:∀x∈a,kN x) (ab:∀x∈b,kN x) (hl:a.length=b.length) (h:Bn a=Bn b):a=b:=by
 have adx:∀q:aAA,(∀x∈q,kN x)->∀x∈q.map po,(32:UInt8)∉x:=by
  intro q cF x aq hm;obtain⟨y,hy,rfl⟩:=List.mem_map.1 aq;have:=awR (cF y hy) _ hm;revert this;decide
 by_cases a7:a=[]
 .subst a7;exact(List.length_eq_zero_iff.1 hl.symm).symm
 .have h1:b≠[]:=λe=>a7 (by rw[e]at hl;exact List.length_eq_zero_iff.1 hl);exact adw bs ab (awT (adx a bs) (adx b ab) (by simpa using a7) (by simpa using h1) h)
structure jm (n:Nat) (m:bm):Prop where
 y9:m.Label.length<=400/\(32:UInt8)∉m.Label
 fst:∃i:Nat,i<100/\m.na=(i:Int)
 snd:m.Second= -1\/∃k:Nat,k<100/\m.Second=(k:Int)
 st:m.State.length=n/\∀p∈m.State,kN p
def sI (x:Int):aAc:=if x<0 then [45,49]else jn x.toNat
def pq (m:bm):aAc:=(((((m.Label++[32])++jn m.na.toNat)++[32])++sI m.Second)++[32])++Bn m.State
theorem Ul {x:Int} (h:x= -1\/∃k:Nat,k<100/\x=(k:Int)):r5 x=some (sI x)/\(sI x).length<=2/\(32:UInt8)∉sI x:=by
 rcases h with rfl|⟨k,hk,rfl⟩
 .refine⟨?_,by decide,by decide⟩;unfold r5 C8 G1;rw[show((-1:Int).natAbs)=1 from rfl,yz];rfl
 .have e:sI (k:Int)=jn k:=by unfold sI;rw[if_neg (by omega),Int.toNat_natCast]
  rw[e];refine⟨Ba k hk,xk k,λhm=>?_⟩;have:=xx k hk _ hm;revert this;decide
theorem awV {x y:Int} (aq:x= -1\/∃k:Nat,k<100/\x=(k:Int)) (hy:y= -1\/∃k:Nat,k<100/\y=(k:Int)) (h:sI x=sI y):x=y:=by
 have no:∀k:Nat,k<100->sI (k:Int)≠[45,49]:=by
  intro k hk e;have aK:sI (k:Int)=jn k:=by unfold sI;rw[if_neg (by omega),Int.toNat_natCast]
  rw[aK]at e;have:=xx k hk 45 (by rw[e];simp);revert this;decide
 rcases aq with rfl|⟨k,hk,rfl⟩<;>rcases hy with rfl|⟨l,hl,rfl⟩
 .rfl
 .exact absurd h.symm (no l hl)
 .exact absurd h (no k hk)
 .unfold sI at h;rw[if_neg (by omega),if_neg (by omega),Int.toNat_natCast,Int.toNat_natCast]at h;rw[Bl hk hl h]
theorem awW {n:Nat} (x y:bm) (aq:jm n x) (hy:jm n y) (h:pq x=pq y):x=y:=by
 obtain⟨i,aj,iF⟩:=aq.fst;obtain⟨j,bE,oX⟩:=hy.fst;unfold pq at h;rw[iF,oX]at h;simp only[Int.toNat_natCast,List.append_assoc,List.singleton_append]at h;obtain⟨J,a2⟩:=vF aq.y9.2 hy.y9.2 h;have n32:∀k:Nat,k<100->(32:UInt8)∉jn k:=λk hk hm=>by
  have:=xx k hk _ hm;revert this;decide
 obtain⟨a3,a4⟩:=vF (n32 i aj) (n32 j bE) a2;obtain⟨a5,p8⟩:=vF (Ul aq.snd).2.2 (Ul hy.snd).2.2 a4;have pC:=awV aq.snd hy.snd a5;have Np:=awU aq.st.2 hy.st.2 (by rw[aq.st.1,hy.st.1]) p8;have a9:=Bl aj bE a3;cases x;cases y;simp only at iF oX J pC Np;rw[iF,oX,J,pC,Np,a9]
set_option linter.unusedSimpArgs false
def kb (s:aAc):Bool:=hB s&& !(s==([116,97,117]:aAc))
theorem ady (s:aAc):uP s=some (kb s):=by unfold uP;rw[D5];rfl
theorem My (s:aAc) (ae:s.length<=1048576):u6 s=some (kb s):=TK s ae
theorem awX {β:Type} {l:Nat->Int->Option β} {n:Nat} (p:Nat->Bool) (mu bad:Option β) (a7:∀m,l (m+1) (n:Int)=mu)
  (ae:∀i,i<n->∀m,l (m+1) (i:Int)=cond (p i) (l m ((i+1:Nat):Int)) bad) (i0:Nat) (aj:i0<=n):lim (λm=>l m (i0:Int))=cond ((List.range' i0 (n-i0)).all p) mu bad:=by
 refine e0 (n+1) λm hm=>?_;refine up (λi=>cond ((List.range' i (n-i)).all p) mu bad) (λm=>?_) (λi aj m ih=>?_) i0 aj m (by omega)
 .rw[a7];simp
 .rw[ae i aj,ih,show n-i=(n-(i+1))+1 by omega,List.range'_succ];cases aw:p i<;>simp[aw]
def qF (a:aAb) (i:Nat):Bool:=decide (i=0)||Op.bytesLess (a.getD (i-1) []) (a.getD i [])
def vH (a:aAb):Bool:=decide (a.length<=12)&&(ga (λi=>kb (a.getD i [])) a.length&&ga (qF a) a.length)
theorem adz (a:aAb) (h:a.length<=1048576):Gr a=some (vH a):=by
 unfold Gr vH;by_cases hl:12<a.length
 .have d1:decide ((12:Int)<(a.length:Int))=true:=decide_eq_true (by omega);have d2:decide (a.length<=12)=false:=decide_eq_false (by omega);rw[d1,d2];rfl
 .have d1:decide ((12:Int)<(a.length:Int))=false:=decide_eq_false (by omega);have d2:decide (a.length<=12)=true:=decide_eq_true (by omega);have sB:J6 a=some (ga (λi=>kb (a.getD i [])) a.length):=by
   unfold J6;refine H8 (l:=λm i=>Cp a m i) _ (λm=>?_) (λi aj m=>?_)
   .simp only[Cp,PK];rw[ee (Nat.le_refl _)];rfl
   .simp only[Cp,PK];rw[ek aj,mr _ i [] aj,ed i _ aj (by omega)];simp only[cond_true,bind_some,ady];cases kb (a.getD i [])<;>rfl
  rw[d1,d2,sB];simp only[cond_false,bind_some,Bool.true_and];cases ga (λi=>kb (a.getD i [])) a.length
  .rfl
  .simp only[Bool.not_true,cond_false,Bool.true_and];by_cases a7:a.length=0
   .rw[e0 (x:=some true) 1 (λm hm=>by
     obtain⟨k,rfl⟩:∃k,m=k+1:=⟨m-1,by omega⟩
     simp only[rU,J7];rw[a7];rfl)]
    rw[a7];rfl
   .have key:=awX (l:=λm i=>rU a m i) (n:=a.length) (λi=>decide (i=0)||Op.bytesLess (a.getD (i-1) []) (a.getD i [])) (some true) (some false);have b3:rU a=rU a:=rfl;have:∀i,1<=i->i<=a.length->∀m,a.length-i<m->rU a m (i:Int)=cond ((List.range' i (a.length-i)).all (qF a)) (some true) (some false):=by
     intro i h1 af;refine down a.length (P:=λi=>1<=i->∀m,a.length-i<m->rU a m (i:Int)=cond ((List.range' i (a.length-i)).all (qF a)) (some true) (some false)) ?_ ?_ i af h1
     .intro _ m hm;obtain⟨k,rfl⟩:∃k,m=k+1:=⟨m-1,by omega⟩
      simp only[rU,J7];rw[ee (Nat.le_refl _)];simp
     .intro i aj ih h1 m hm;obtain⟨k,rfl⟩:∃k,m=k+1:=⟨m-1,by omega⟩
      simp only[rU,J7];rw[ek aj,D2 i (by omega) (by omega),mr _ (i-1) [] (by omega),mr _ i [] aj,ed i _ aj (by omega),ih (by omega) k (by omega),show a.length-i=(a.length-(i+1))+1 by omega,List.range'_succ];have aR:qF a i=Op.bytesLess (a.getD (i-1) []) (a.getD i []):=by
       unfold qF;have:decide (i=0)=false:=decide_eq_false (by omega);rw[this,Bool.false_or]
      simp only[cond_true,bind_some,List.all_cons,aR];cases Op.bytesLess (a.getD (i-1) []) (a.getD i [])<;>rfl
    have Um:=e0 (f:=λm=>rU a m 1) (a.length+1) (λm hm=>this 1 (by omega) (by omega) m (by omega));rw[Um];have e:ga (qF a) a.length=(List.range' 1 (a.length-1)).all (qF a):=by
     unfold ga;rw[List.range_eq_range',show a.length=(a.length-1)+1 by omega,List.range'_succ];simp[qF]
    rw[e];cases(List.range' 1 (a.length-1)).all (qF a)<;>rfl
theorem awY {p q:Nat->Bool} {n:Nat}:(ga p n&&ga q n)=ga (λi=>p i&&q i) n:=xq.symm
theorem adA (a:aAb) (h:a.length<=1048576) (ae:∀s∈a,s.length<=1048576):GX a=some (vH a):=by
 unfold GX vH;rw[awY];rw[Bg (l:=λm i=>C3 a m i) (n:=a.length) (λi=>kb (a.getD i [])&&qF a i) (some (decide ((a.length:Int)<=12))) (some false)]
 .have e:decide ((a.length:Int)<=12)=decide (a.length<=12):=decide_eq_decide.2 (by omega);rw[e];cases ga (λi=>kb (a.getD i [])&&qF a i) a.length<;>cases decide (a.length<=12)<;>rfl
 .intro m;simp only[C3,QH];rw[ee (Nat.le_refl _)];rfl
 .intro i aj m;simp only[C3,QH];have hm:(a.getD i []).length<=1048576:=by
   have:a.getD i []=a[i]:=by simp[List.getD,aj]
   rw[this];exact ae _ (List.getElem_mem aj)
  rw[ek aj,mr _ i [] aj,ed i _ aj (by omega)];simp only[cond_true,bind_some,My _ hm];by_cases a7:i=0
  .subst a7;rw[A9];simp only[cond_false,qF,decide_true,Bool.true_or,Bool.and_true];cases kb (a.getD 0 [])<;>rfl
  .rw[Tq a7,D2 i (by omega) (by omega),mr _ (i-1) [] (by omega)];have aR:qF a i=Op.bytesLess (a.getD (i-1) []) (a.getD i []):=by
    unfold qF;have:decide (i=0)=false:=decide_eq_false a7;rw[this,Bool.false_or]
   have a6:=Ma (a.getD (i-1) []) (a.getD i []);simp only[cond_true,bind_some,aR,<-a6];cases kb (a.getD i [])<;>cases Op.bytesLess (a.getD (i-1) []) (a.getD i [])<;>rfl
def mM (cs:aAy) (i:Nat):cM:=cs.getD i ⟨0,[]⟩
def Bo (e:aAx) (c:cM):Bool:=
 cond (decide (0<=c.cy)&&decide (c.cy<=(e.length:Int)-1)) (((c.bP.length:Int)==(e.getD c.cy.toNat ⟨[],0,[]⟩).dW)&&y7 c.bP) false
def vI (s:cT):Bool:=(decide (1<=s.cj.length)&&decide (s.cj.length<=3))&&ga (λi=>Bo s.cz (mM s.cj i)) s.cj.length
theorem adB {e:aAx} {n:Int} (h:(decide (0<=n)&&decide (n<=(e.length:Int)-1))=true):bh e n=some (e.getD n.toNat ⟨[],0,[]⟩):=by
 simp only[Bool.and_eq_true,decide_eq_true_eq]at h;obtain⟨i,rfl⟩:∃i:Nat,n=i:=⟨n.toNat,by omega⟩
 exact mr e i _ (by omega)
theorem awZ (s:cT) (ao:s.cz.length<=1048576) (au:s.cj.length<=1048576) (aB:∀c∈s.cj,c.bP.length<=1048576):J4 s=some (vI s):=by
 unfold J4 vI;by_cases hl:1<=s.cj.length/\s.cj.length<=3
 .have d1:(((s.cj.length:Int)==0)||decide ((3:Int)<(s.cj.length:Int)))=false:=by
   rw[Bool.or_eq_false_iff,beq_eq_false_iff_ne,decide_eq_false_iff_not];omega
  have d2:(decide (1<=s.cj.length)&&decide (s.cj.length<=3))=true:=by simp;omega
  rw[d1,d2,cond_false,Bool.true_and];refine H8 (l:=λm i=>Co s m i) _ (λm=>?_) (λi aj m=>?_)
  .simp only[Co,PH];rw[ee (Nat.le_refl _)];rfl
  .simp only[Co,PH,ml];have hm:(mM s.cj i).bP.length<=1048576:=by
    have:mM s.cj i=s.cj[i]:=by simp[mM,List.getD,aj]
    rw[this];exact aB _ (List.getElem_mem aj)
   rw[ek aj,mr _ i ⟨0,[]⟩ aj,ed i _ aj (by omega),eF ((s.cz.length:Int)-1) (by omega)];show cond true (Option.bind (some (mM s.cj i)) _) _=_;simp only[cond_true,bind_some];unfold Bo;cases hk:(decide (0<=(mM s.cj i).cy)&&decide ((mM s.cj i).cy<=(s.cz.length:Int)-1))
   .rfl
   .rw[adB hk];simp only[Bool.not_true,cond_false,cond_true,bind_some,T0 _ hm];have dP:(((mM s.cj i).bP.length:Int) !=(s.cz.getD (mM s.cj i).cy.toNat ⟨[],0,[]⟩).dW)= !(((mM s.cj i).bP.length:Int)==(s.cz.getD (mM s.cj i).cy.toNat ⟨[],0,[]⟩).dW):=rfl;rw[dP];cases(((mM s.cj i).bP.length:Int)==(s.cz.getD (mM s.cj i).cy.toNat ⟨[],0,[]⟩).dW)<;>cases y7 (mM s.cj i).bP<;>rfl
 .have d1:(((s.cj.length:Int)==0)||decide ((3:Int)<(s.cj.length:Int)))=true:=by
   by_cases a7:s.cj.length=0
   .simp[a7]
   .have:decide ((3:Int)<(s.cj.length:Int))=true:=decide_eq_true (by omega);rw[this,Bool.or_true]
  have d2:(decide (1<=s.cj.length)&&decide (s.cj.length<=3))=false:=by
   rw[Bool.and_eq_false_iff,decide_eq_false_iff_not,decide_eq_false_iff_not];omega
  rw[d1,d2];rfl
theorem aw0 (e:aAx) (he:e.length<=1048576) (c:cM) (au:c.bP.length<=1048576):KF e c=some (Bo e c):=by
 unfold KF Bo;rw[Mf _ e.length he];simp only[bind_some];cases hk:(decide (0<=c.cy)&&decide (c.cy<=(e.length:Int)-1))
 .rfl
 .rw[adB hk];simp only[cond_true,bind_some,T1 _ au];cases((c.bP.length:Int)==(e.getD c.cy.toNat ⟨[],0,[]⟩).dW)<;>rfl
theorem aw1 (s:cT) (ao:s.cz.length<=1048576) (au:s.cj.length<=1048576) (aB:∀c∈s.cj,c.bP.length<=1048576):
  KG s.cj s=some (!(ga (λi=>Bo s.cz (mM s.cj i)) s.cj.length)):=by
 unfold KG QC;rw[tL (n:=s.cj.length) (λi=> !(Bo s.cz (mM s.cj i)))]
 .simp only[bind_some,xg,Bool.not_not]
 .intro m;simp only[GU,QB];rw[ee (Nat.le_refl _)];rfl
 .intro i aj m;simp only[GU,QB];have hm:(mM s.cj i).bP.length<=1048576:=by
   have:mM s.cj i=s.cj[i]:=by simp[mM,List.getD,aj]
   rw[this];exact aB _ (List.getElem_mem aj)
  rw[ek aj,mr _ i ⟨0,[]⟩ aj,ed i _ aj (by omega)];show cond true (Option.bind (some (mM s.cj i)) _) _=_;simp only[cond_true,bind_some,QA,aw0 _ ao _ hm]
def eO (a:aAz) (i:Nat):bW:=a.getD i ⟨[],[],[]⟩
def Bp (p m:bW):Bool:=Op.bytesLess p.Left m.Left||(p.Left==m.Left&&Op.bytesLess p.cH m.cH)
def Bq (a:aAz) (m:bW):Bool:=ga (λj=> !((eO a j).Left==m.Result||(eO a j).cH==m.Result)) a.length
def Br (a:aAz) (i:Nat):Bool:=
 ((((kb (eO a i).Left&&kb (eO a i).cH)&&kb (eO a i).Result)&&(Op.bytesLess (eO a i).Left (eO a i).cH||(eO a i).Left==(eO a i).cH))&&(decide (i=0)||Bp (eO a (i-1)) (eO a i)))&&Bq a (eO a i)
def rq (a:aAz):Bool:=decide (a.length<=6)&&ga (Br a) a.length
def Mz (a:aAz):Prop:=a.length<=1048576/\∀m∈a,m.Left.length<=1048576/\m.cH.length<=1048576/\m.Result.length<=1048576
theorem aw2 (p m:bW):((!(Op.bytesLess p.Left m.Left||p.Left==m.Left))||((p.Left==m.Left)&&(!(Op.bytesLess p.cH m.cH))))= !(Bp p m):=by
 unfold Bp;cases he:p.Left==m.Left
 .cases Op.bytesLess p.Left m.Left<;>rfl
 .have:p.Left=m.Left:=by simpa using he
  rw[this,abD];cases Op.bytesLess p.cH m.cH<;>rfl
def xz (a b:aAc):Int:=cond (Op.bytesLess a b) (-1) (cond (!(Op.bytesLess a b||a==b)) 1 0)
theorem aw3 (a b:aAc):KH a b=some (xz a b):=by
 unfold KH cmp_isNaN_string xz;simp only[bind_some,cond_false];cases Op.bytesLess a b<;>cases a==b<;>rfl
theorem aw4 (p m:bW):∃v,KK p m=some v/\decide (0<=v)= !(Bp p m):=by
 have Um:KJ [p.Left,p.cH] [m.Left,m.cH]=some (cond (xz p.Left m.Left !=0) (xz p.Left m.Left) (cond (xz p.cH m.cH !=0) (xz p.cH m.cH) 0)):=by
  unfold KJ;refine e0 3 λn aV=>?_;obtain⟨n,rfl⟩:∃k,n=k+3:=⟨n-3,by omega⟩
  have gb:bh [p.Left,p.cH] 0=some p.Left:=rfl;have aK:bh [m.Left,m.cH] 0=some m.Left:=rfl;have aT:bh [p.Left,p.cH] 1=some p.cH:=rfl;have aU:bh [m.Left,m.cH] 1=some m.cH:=rfl;have fw:i64.wrap (0+1)=1:=by decide
  have hR:i64.wrap (1+1)=2:=by decide
  simp only[KI,YZ,List.length_cons,List.length_nil,gb,aK,aT,aU,fw,hR,bind_some,aw3];cases xz p.Left m.Left !=0
  .cases xz p.cH m.cH !=0<;>rfl
  .rfl
 unfold KK;rw[Um];refine⟨_,rfl,?_⟩;unfold Bp xz;cases hl:Op.bytesLess p.Left m.Left
 .cases he:p.Left==m.Left
  .rfl
  .cases aR:Op.bytesLess p.cH m.cH
   .cases p.cH==m.cH<;>rfl
   .rfl
 .rfl
theorem aw5 (a:aAz) (h:a.length<=1048576) (m:bW):GW a m=some (!(Bq a m)):=by
 unfold GW QF;rw[tL (n:=a.length) (λj=>((eO a j).Left==m.Result||(eO a j).cH==m.Result))]
 .simp only[bind_some,xg];rfl
 .intro k;simp only[GV,QE];rw[ee (Nat.le_refl _)];rfl
 .intro i aj k;simp only[GV,QE];rw[ek aj,mr _ i ⟨[],[],[]⟩ aj,ed i _ aj (by omega)];simp only[cond_true,bind_some,QD];rfl
theorem aw6 {a:aAz} (h:Mz a) {i:Nat} (aj:i<a.length):(eO a i).Left.length<=1048576/\(eO a i).cH.length<=1048576/\(eO a i).Result.length<=1048576:=by
 have:eO a i=a[i]:=by simp[eO,List.getD,aj]
 rw[this];exact h.2 _ (List.getElem_mem aj)
theorem Im {a:aAz} {i:Nat} (aj:i<a.length):bh a (i:Int)=some (eO a i):=mr a i _ aj
theorem aw7 (a:aAz) (h:Mz a):J5 a=some (rq a):=by
 unfold J5 rq;by_cases hl:6<a.length
 .have d1:decide ((6:Int)<(a.length:Int))=true:=decide_eq_true (by omega);have d2:decide (a.length<=6)=false:=decide_eq_false (by omega);rw[d1,d2];rfl
 .have d1:decide ((6:Int)<(a.length:Int))=false:=decide_eq_false (by omega);have d2:decide (a.length<=6)=true:=decide_eq_true (by omega);rw[d1,d2,cond_false,Bool.true_and];refine H8 (l:=λm i=>tc a m i) _ (λm=>?_) (λi aj m=>?_)
  .simp only[tc,PJ];rw[ee (Nat.le_refl _)];rfl
  .have iU:(lim λn=>wv (tc a m) a (eO a i) n (i:Int) 0)=cond (Bq a (eO a i)) (tc a m ((i+1:Nat):Int)) (some false):=by
    refine Bg (l:=λjT j=>wv (tc a m) a (eO a i) jT (i:Int) j) _ _ _ (λjT=>?_) (λj bE jT=>?_)
    .simp only[wv,PI];rw[ee (Nat.le_refl _),ed i _ aj (by omega)];rfl
    .simp only[wv,PI];rw[ek bE,Im bE,ed j _ bE (by omega)];simp only[cond_true,bind_some];cases((eO a j).Left==(eO a i).Result||(eO a j).cH==(eO a i).Result)<;>rfl
   simp only[tc,PJ];rw[ek aj,Im aj];simp only[cond_true,bind_some,ady,iU];unfold Br;by_cases a7:i=0
   .subst a7;rw[A9];simp only[cond_false,decide_true,Bool.true_or,Bool.and_true];cases kb (eO a 0).Left<;>cases kb (eO a 0).cH<;>cases kb (eO a 0).Result<;>cases(Op.bytesLess (eO a 0).Left (eO a 0).cH||(eO a 0).Left==(eO a 0).cH)<;>cases Bq a (eO a 0)<;>rfl
   .rw[Tq a7,D2 i (by omega) (by omega),Im (show i-1<a.length by omega)];have ao:decide (i=0)=false:=decide_eq_false a7;simp only[cond_true,bind_some,ao,Bool.false_or,aw2];cases kb (eO a i).Left<;>cases kb (eO a i).cH<;>cases kb (eO a i).Result<;>cases(Op.bytesLess (eO a i).Left (eO a i).cH||(eO a i).Left==(eO a i).cH)<;>cases Bp (eO a (i-1)) (eO a i)<;>cases Bq a (eO a i)<;>rfl
theorem aw8 (a:aAz) (h:Mz a):KL a=some (rq a):=by
 unfold KL rq;rw[Bg (l:=λm i=>C2 a m i) (n:=a.length) (Br a) (some (decide ((a.length:Int)<=6))) (some false)]
 .have e:decide ((a.length:Int)<=6)=decide (a.length<=6):=decide_eq_decide.2 (by omega);rw[e];cases ga (Br a) a.length<;>cases decide (a.length<=6)<;>rfl
 .intro m;simp only[C2,QG];rw[ee (Nat.le_refl _)];rfl
 .intro i aj m;have hl:=h.1;obtain⟨s1,s2,pI⟩:=aw6 h aj;simp only[C2,QG];rw[ek aj,Im aj,ed i _ aj (by omega)];simp only[cond_true,bind_some,My _ s1,My _ s2,My _ pI,aw5 a hl];unfold Br;by_cases a7:i=0
  .subst a7;rw[A9];simp only[cond_false,decide_true,Bool.true_or,Bool.and_true];cases kb (eO a 0).Left<;>cases kb (eO a 0).cH<;>cases kb (eO a 0).Result<;>cases(Op.bytesLess (eO a 0).Left (eO a 0).cH||(eO a 0).Left==(eO a 0).cH)<;>cases Bq a (eO a 0)<;>rfl
  .rw[Tq a7,D2 i (by omega) (by omega),Im (show i-1<a.length by omega)];obtain⟨v,v1,v2⟩:=aw4 (eO a (i-1)) (eO a i);have ao:decide (i=0)=false:=decide_eq_false a7;simp only[cond_true,bind_some,ao,Bool.false_or,v1,v2];cases kb (eO a i).Left<;>cases kb (eO a i).cH<;>cases kb (eO a i).Result<;>cases(Op.bytesLess (eO a i).Left (eO a i).cH||(eO a i).Left==(eO a i).cH)<;>cases Bp (eO a (i-1)) (eO a i)<;>cases Bq a (eO a i)<;>rfl
def vJ (s:cT):Prop:=p4 s.cz/\(s.cj.length<=1048576/\∀c∈s.cj,c.bP.length<=1048576)/\Mz s.b9/\
 (s.cC.length<=1048576/\∀x∈s.cC,x.length<=1048576)/\(s.cA.length<=1048576/\∀x∈s.cA,x.length<=1048576)
noncomputable def mN (s:cT):Int:=cond (!l9 s.cz) 1 (cond (!vI s) 2 (cond (!rq s.b9) 3 (cond (!vH s.cC) 4 (cond (!vH s.cA) 5 0))))
theorem aw9 (s:cT) (h:vJ s):J8 s=some (mN s):=by
 obtain⟨h1,af,ay,a_,b1⟩:=h;unfold J8 mN;rw[avU _ h1,awZ s h1.1 af.1 af.2,aw7 _ ay,adz _ a_.1,adz _ b1.1];simp only[bind_some];cases l9 s.cz<;>cases vI s<;>cases rq s.b9<;>cases vH s.cC<;>cases vH s.cA<;>rfl
theorem aw_ (s:cT) (h:vJ s):KM s=some (mN s):=by
 obtain⟨h1,af,ay,a_,b1⟩:=h;unfold KM la mN vI;have nA:decide ((1:Int)<=(s.cj.length:Int))=decide (1<=s.cj.length):=decide_eq_decide.2 (by omega);have lq:decide ((s.cj.length:Int)<=3)=decide (s.cj.length<=3):=decide_eq_decide.2 (by omega);rw[avW _ h1,aw1 s h1.1 af.1 af.2,aw8 _ ay,adA _ a_.1 a_.2,adA _ b1.1 b1.2];simp only[bind_some];rw[nA,lq];cases l9 s.cz<;>cases(decide (1<=s.cj.length)&&decide (s.cj.length<=3))<;>cases ga (λi=>Bo s.cz (mM s.cj i)) s.cj.length<;>
  cases rq s.b9<;>cases vH s.cC<;>cases vH s.cA<;>rfl
theorem axa {s:cT} (h:tU s<=1048576):vJ s:=by
 unfold tU at h;refine⟨avT (by omega),⟨Nat.le_trans (jM np _) (by omega),λc au=>?_⟩,⟨Nat.le_trans (jM nr _) (by omega),λm hm=>?_⟩,⟨Nat.le_trans (jM List.length _) (by omega),λx aq=>?_⟩,⟨Nat.le_trans (jM List.length _) (by omega),λx aq=>?_⟩⟩
 .have h1:np c<=dm np s.cj:=nk au;have af:np c<=1048576:=by omega
  clear h1;unfold np at af;omega
 .have h1:nr m<=dm nr s.b9:=nk hm;have af:nr m<=1048576:=by omega
  clear h1;unfold nr at af;omega
 .have h1:x.length<=dm List.length s.cC:=nk aq;omega
 .have h1:x.length<=dm List.length s.cA:=nk aq;omega
theorem axb (a:o9) (bs:FV a):
  ∃r,F4 a 1048576=some r/\(decide (r<0)=false->yn a=some (vD a)/\Hi (vD a) (vD a)=some true/\
   vJ (vD a)/\r=1048576-(y6 a:Nat)/\0<=r):=by
 refine⟨_,ava a 1048576 bs (by omega) (by omega),λh=>?_⟩;by_cases ae:y6 a<=1048576
 .have uB:tU (vD a)<=1048576:=by rw[acI];exact ae
  exact⟨avs a ae,avH _ uB,axa uB,H6 (by omega),by rw[H6 (by omega)];omega⟩
 .rw[H7 (by omega)]at h;simp at h
theorem axc (s:cT) (h:vJ s):J9 s=some (mN s==0):=by unfold J9;rw[aw9 s h];rfl
theorem axd (s:cT) (h:vJ s):KN s=some (mN s==0):=by unfold KN;rw[aw_ s h];rfl
theorem Un {s:cT} (h:(mN s==0)=true):l9 s.cz=true:=by
 cases ao:l9 s.cz
 .unfold mN at h;rw[ao]at h;simp at h
 .rfl
noncomputable def zd (e:aAx) (p:ba):Bool:=(td e p).getD false
theorem Uo (e:aAx) (h:p4 e) (aB:l9 e=true) (p:ba) (aw:p.bP.length<=1048576):td e p=some (zd e p)/\GY e p=some (zd e p):=by
 obtain⟨b,h1,af⟩:=awG e h aB p aw;have:zd e p=b:=by unfold zd;rw[h1];rfl
 rw[this];exact⟨h1,af⟩
def tZ (q:aAA) (i:Nat):ba:=q.getD i ⟨0,0,[]⟩
noncomputable def xA (s:cT) (q:aAA):Bool:=((q.length:Int)==(s.cj.length:Int))&&ga (λi=>zd s.cz (tZ q i)) q.length
theorem adC {q:aAA} (aB:∀p∈q,p.bP.length<=1048576) {i:Nat} (aj:i<q.length):(tZ q i).bP.length<=1048576:=by
 have:tZ q i=q[i]:=by simp[tZ,List.getD,aj]
 rw[this];exact aB _ (List.getElem_mem aj)
theorem axe (s:cT) (h:p4 s.cz) (ao:l9 s.cz=true) (q:aAA) (cF:q.length<=1048576) (aB:∀p∈q,p.bP.length<=1048576):J_ s q=some (xA s q):=by
 unfold J_ xA;have e:((q.length:Int) !=(s.cj.length:Int))= !((q.length:Int)==(s.cj.length:Int)):=rfl;rw[e];cases((q.length:Int)==(s.cj.length:Int))
 .rfl
 .rw[Bool.true_and,Bool.not_true,cond_false];refine H8 (l:=λm i=>Cq s q m i) _ (λm=>?_) (λi aj m=>?_)
  .simp only[Cq,PL];rw[ee (Nat.le_refl _)];rfl
  .simp only[Cq,PL];rw[ek aj,mr _ i ⟨0,0,[]⟩ aj,ed i _ aj (by omega)];show cond true (Option.bind (some (tZ q i)) _) _=_;simp only[cond_true,bind_some,(Uo _ h ao _ (adC aB aj)).1];cases zd s.cz (tZ q i)<;>rfl
theorem axf (s:cT) (h:p4 s.cz) (ao:l9 s.cz=true) (q:aAA) (cF:q.length<=1048576) (aB:∀p∈q,p.bP.length<=1048576):
  KO q s=some (!(ga (λi=>zd s.cz (tZ q i)) q.length)):=by
 unfold KO QK;rw[tL (n:=q.length) (λi=> !(zd s.cz (tZ q i)))]
 .simp only[bind_some,xg,Bool.not_not]
 .intro m;simp only[GZ,QJ];rw[ee (Nat.le_refl _)];rfl
 .intro i aj m;simp only[GZ,QJ];rw[ek aj,mr _ i ⟨0,0,[]⟩ aj,ed i _ aj (by omega)];show cond true (Option.bind (some (tZ q i)) _) _=_;simp only[cond_true,bind_some,QI,(Uo _ h ao _ (adC aB aj)).2]
def sJ (a:aAz) (x y:aAc) (i:Nat):Bool:=((eO a i).Left==x)&&((eO a i).cH==y)
def sK (a:aAz) (z:Int):aAc:=cond (decide (z<0)) [] (eO a z.toNat).Result
theorem Up (p:Nat->Bool):∀(k i:Nat),kt p i k<((i+k:Nat):Int)
 |0,i=>by simp only[kt];omega
 |k+1,i=>by
  simp only[kt];split
  .omega
  .have:=Up p k (i+1);omega
theorem adD (a:aAz) (bs:a.length<=1048576) (x y:aAc) (Ts:(Op.bytesLess x y||x==y)=true) (adE:aAz->aAc->aAc->Option aAc):
  Ai adE a x y=some (sK a (kt (sJ a x y) 0 a.length)):=by
 unfold Ai;rw[Ts];simp only[Bool.not_true,cond_false];rw[qA (l:=λm i=>CI adE a x y m i) (n:=a.length) (λi=>some (sK a (kt (sJ a x y) i (a.length-i))))]
 .rfl
 .intro m;simp only[CI,P4];rw[ee (Nat.le_refl _),Nat.sub_self];rfl
 .intro i aj m ih;simp only[CI,P4];rw[ek aj,mr _ i ⟨[],[],[]⟩ aj,ed i _ aj (by omega)];show cond true (Option.bind (some (eO a i)) _) _=_;simp only[cond_true,bind_some];rw[ih,show a.length-i=(a.length-(i+1))+1 by omega];show cond (sJ a x y i) _ _=_;cases aw:sJ a x y i
  .simp only[kt,aw,cond_false];rfl
  .simp only[kt,aw,cond_true,if_true,sK];have:decide ((i:Int)<0)=false:=decide_eq_false (by omega);rw[this];rfl
theorem axg (a:aAz) (bs:a.length<=1048576) (x y:aAc):
  Gz a x y=some (sK a (kt (sJ a (hU false x y) (hU true x y)) 0 a.length)):=by
 unfold Gz;refine e0 2 λn aV=>?_;obtain⟨n,rfl⟩:∃k,n=k+2:=⟨n-2,by omega⟩
 show Ai (CJ (n+1)) a x y=_;cases h:(Op.bytesLess x y||x==y)
 .have h1:(Op.bytesLess y x||y==x)=true:=by
   rw[<-Ma x y];cases hl:Op.bytesLess x y
   .rfl
   .rw[hl]at h;cases h
  have af:Op.bytesLess x y=false:=by cases hl:Op.bytesLess x y;·rfl
                                     .rw[hl]at h;cases h
  have aK:hU false x y=y:=by simp only[hU,h,Bool.false_eq_true,if_false]
  have aT:hU true x y=x:=by simp only[hU,af,Bool.not_false,if_true]
  unfold Ai;rw[h];simp only[Bool.not_false,cond_true];show(Ai (CJ n) a y x).bind _=_;rw[adD a bs y x h1,aK,aT];rfl
 .have aK:hU false x y=x:=by simp only[hU,h,Bool.false_eq_true,if_false,if_true]
  have aT:hU true x y=y:=by
   cases hl:Op.bytesLess x y
   .rw[hl,Bool.false_or]at h;have:x=y:=by simpa using h
    subst this;simp[hU]
   .simp[hU,hl]
  rw[adD a bs x y h,aK,aT]
theorem axh (s:cT) (bs:s.b9.length<=1048576) (x y:aAc) (z:Int) (b3:z=kt (sJ s.b9 (hU false x y) (hU true x y)) 0 s.b9.length):
  AA s x y=some (sK s.b9 z,!(decide (z<0))):=by
 unfold AA Rb;rw[tL (l:=λm i=>Dn s.b9 x y m i) (n:=s.b9.length) (sJ s.b9 (hU false x y) (hU true x y)),<-b3]
 .simp only[bind_some];have hl:=Up (sJ s.b9 (hU false x y) (hU true x y)) s.b9.length 0;rw[<-b3]at hl;cases h:decide (z<0)
  .have a7:¬z<0:=of_decide_eq_false h;have e:bh s.b9 z=some (eO s.b9 z.toNat):=by
    obtain⟨i,rfl⟩:∃i:Nat,z=i:=⟨z.toNat,by omega⟩
    exact mr s.b9 i (⟨[],[],[]⟩:bW) (by omega)
   rw[e];simp only[sK,h];rfl
  .simp only[sK,h];rfl
 .intro m;simp only[Dn,Ra];rw[ee (Nat.le_refl _)];rfl
 .intro i aj m;simp only[Dn,Ra];rw[ek aj,mr _ i ⟨[],[],[]⟩ aj,ed i _ aj (by omega)];rfl
theorem axi (s:cT) (aB:(mN s==0)=true) (i:Nat) (aj:i<s.b9.length):((eO s.b9 i).Result==([]:aAc))=false:=by
 have hm:rq s.b9=true:=by
  cases h:rq s.b9
  .unfold mN at aB;rw[h]at aB;revert aB;cases l9 s.cz<;>cases vI s<;>simp
  .rfl
 unfold rq at hm;rw[Bool.and_eq_true]at hm;have h1:=pk.1 hm.2 i aj;unfold Br at h1;simp only[Bool.and_eq_true]at h1;have af:=h1.1.1.1.2;cases aR:(eO s.b9 i).Result
 .rw[aR]at af;cases af
 .rfl
theorem axj (x y:ba) (h:x.bP.length<=1048576):Cw x y=some (my x y):=by
 have e:my x y=((x.cy==y.cy)&&((x.Part==y.Part)&&(x.bP==y.bP))):=by
  rw[Bool.eq_iff_iff,qE];cases x;cases y;simp
 unfold Cw;rw[T6 _ _ h,e];cases x.cy==y.cy<;>cases x.Part==y.Part<;>rfl
theorem axk (a b:aAA) (h:a.length<=1048576) (aB:∀p∈a,p.bP.length<=1048576):Ki a b=some (my a b):=by
 unfold Ki;by_cases hl:a.length=b.length
 .have e:((a.length:Int) !=(b.length:Int))=false:=by simp[hl]
  rw[e,cond_false];have:=qA (n:=a.length) (l:=CC a b) (λi=>some (my (a.drop i) (b.drop i))) (λm=>?_) (λi aj m ih=>?_)
  .simpa using this
  .simp only[CC,PZ];rw[ee (Nat.le_refl _),List.drop_of_length_le (Nat.le_refl _),List.drop_of_length_le (by omega),cond_false];rw[show my ([]:aAA) []=true from qE.2 rfl]
  .simp only[CC,PZ];rw[ek aj,dO _ i aj,dO _ i (by omega),ed i _ aj (by omega),drop_cons a i aj,drop_cons b i (by omega)];simp only[cond_true,bind_some,ih,axj _ _ (aB _ (List.getElem_mem aj))];have aT:my (a[i]::a.drop (i+1)) (b[i]::b.drop (i+1))=(my a[i] b[i]&&my (a.drop (i+1)) (b.drop (i+1))):=by
    rw[Bool.eq_iff_iff,Bool.and_eq_true,qE,qE,qE,List.cons.injEq]
   rw[aT];cases my a[i] b[i]<;>rfl
 .have e:((a.length:Int) !=(b.length:Int))=true:=by simp;omega
  have aT:my a b=false:=by
   rw[<-Bool.not_eq_true,qE];intro h;exact hl (by rw[h])
  rw[e,cond_true,aT]
theorem MA {p:ba} (h:kN p):p.bP.length<=1048576:=by have:=h.kM.1;omega
theorem adF {n:Nat} (o:aAB) (m:bm) (h:o.length<=1048576) (aV:n<=100) (hg:∀x∈o,jm n x):Ae o m=some (hJ o m):=by
 unfold Ae;rw[qA (n:=o.length) (l:=CD o m) (λi=>some (cond (my (m∈o.drop i) True) o (o++[m]))) (λk=>?_) (λi aj k ih=>?_)]
 .rw[List.drop_zero];unfold hJ;split
  .rename_i hm;rw[show my (m∈o) True=true from qE.2 (by simp[hm])];rfl
  .rename_i hm;rw[show my (m∈o) True=false from by rw[<-Bool.not_eq_true,qE];simp[hm]];rfl
 .simp only[CD,P0];rw[ee (Nat.le_refl _),jN (by omega) (by omega),List.drop_of_length_le (Nat.le_refl _),show my (m∈([]:aAB)) True=false from by rw[<-Bool.not_eq_true,qE];simp];rfl
 .have g:=hg _ (List.getElem_mem aj);simp only[CD,P0];rw[ek aj,dO _ i aj,ed i _ aj (by omega),drop_cons o i aj];simp only[cond_true,bind_some,ih,axk o[i].State m.State (by have:=g.st.1;omega) (λp aw=>MA (g.st.2 p aw))];have e:my (m∈o[i]::o.drop (i+1)) True=(my o[i] m||my (m∈o.drop (i+1)) True):=by
   rw[Bool.eq_iff_iff,Bool.or_eq_true,qE,qE,qE];simp only[List.mem_cons,eq_iff_iff,iff_true];rw[eq_comm (a:=m)]
  have aT:my o[i] m=((o[i].Label==m.Label)&&((o[i].na==m.na)&&((o[i].Second==m.Second)&&my o[i].State m.State))):=by
   rw[Bool.eq_iff_iff,qE];cases o[i];cases m;simp[qE]
  rw[e,aT];cases o[i].Label==m.Label
  .rfl
  .cases o[i].na==m.na
   .rfl
   .cases o[i].Second==m.Second
    .rfl
    .cases my o[i].State m.State<;>rfl
theorem Eo {q:aAA} (cF:q.length<=100) (h:∀p∈q,kN p):wB q=some q/\K2 q=some q:=by
 constructor
 .unfold wB;have key:∀i,i<=q.length->∀(v:aAA) m,v.length=i->q.length-i<m->CA q m v (i:Int)=some (v++q.drop i):=by
   refine down q.length ?_ ?_
   .intro v m aB hm;obtain⟨m,rfl⟩:∃j,m=j+1:=⟨m-1,by omega⟩
    simp only[CA,PY];rw[ee (Nat.le_refl _),List.drop_of_length_le (Nat.le_refl _),List.append_nil];rfl
   .intro i aj ih v m aB hm;obtain⟨m,rfl⟩:∃j,m=j+1:=⟨m-1,by omega⟩
    simp only[CA,PY];rw[ek aj,dO _ i aj,ed i _ aj (by omega)];simp only[cond_true,bind_some,T2 _ (MA (h _ (List.getElem_mem aj)))];rw[jN (by omega) (by omega),bind_some,ih (v++[_]) m (by simp[aB]) (by omega),drop_cons q i aj,List.append_assoc];rfl
  refine e0 (q.length+1) λm hm=>?_;have:=key 0 (by omega) [] m rfl (by omega);simpa using this
 .unfold K2;have key:∀i,i<=q.length->∀(v:aAA) m,v.length=i->q.length-i<m->Dj q m v (i:Int)=some (v++q.drop i):=by
   refine down q.length ?_ ?_
   .intro v m aB hm;obtain⟨m,rfl⟩:∃j,m=j+1:=⟨m-1,by omega⟩
    simp only[Dj,Q9];rw[ee (Nat.le_refl _),List.drop_of_length_le (Nat.le_refl _),List.append_nil];rfl
   .intro i aj ih v m aB hm;obtain⟨m,rfl⟩:∃j,m=j+1:=⟨m-1,by omega⟩
    simp only[Dj,Q9,Az];rw[ek aj,dO _ i aj,ed i _ aj (by omega)];simp only[cond_true,bind_some,Mq _ (MA (h _ (List.getElem_mem aj)))];rw[jN (by omega) (by omega),bind_some,ih (v++[_]) m (by simp[aB]) (by omega),drop_cons q i aj,List.append_assoc];rfl
  refine e0 (q.length+1) λm hm=>?_;have:=key 0 (by omega) [] m rfl (by omega);simpa using this
theorem Uq {p:ba} (h:kN p):Az p=some p:=by
 unfold Az;rw[Mq _ (MA h)];rfl
theorem Io (a:aAb) (x:aAc) (h:a.length<=1048576):(∃z,uT a x=some z/\decide (z<0)= !decide (x∈a)/\decide (0<=z)=decide (x∈a))/\Di a x=some (decide (x∈a)):=by
 have key:(kt (λi=>a.getD i []==x) 0 a.length<0↔x∉a):=by
  have:=xg (λi=>a.getD i []==x) a.length;constructor
  .intro a7 aq;rw[show decide (0<=kt (λi=>a.getD i []==x) 0 a.length)=false from decide_eq_false (by omega)]at this;have af:=(Bool.not_eq_false' .. ▸this.symm:ga (λi=> !(a.getD i []==x)) a.length=true)
   obtain⟨k,hk,rfl⟩:=List.mem_iff_getElem.1 aq;have:=pk.1 af k hk;simp[List.getD,hk]at this
  .intro aq;have af:ga (λi=> !(a.getD i []==x)) a.length=true:=pk.2 λi aj=>by
    simp only[List.getD,List.getElem?_eq_getElem aj,getD_some,Bool.not_eq_true',beq_eq_false_iff_ne];intro e;exact aq (e▸List.getElem_mem aj)
   rw[af,Bool.not_true]at this;have:=of_decide_eq_false this;omega
 constructor
 .refine⟨kt (λi=>a.getD i []==x) 0 a.length,?_,?_,?_⟩
  .unfold uT;exact tL (l:=yu a x) (n:=a.length) (λi=>a.getD i []==x) (λm=>by
    simp only[yu,Gx];rw[ee (Nat.le_refl _)];rfl) (λi aj m=>by
    simp only[yu,Gx];rw[ek aj,mr _ i [] aj,ed i _ aj (by omega)];rfl)
  .rw[<-decide_not,decide_eq_decide];exact key
  .rw[decide_eq_decide];constructor
   .intro a7;by_cases aq:x∈a
    .exact aq
    .have:=key.2 aq;omega
   .intro aq;by_cases a7:kt (λi=>a.getD i []==x) 0 a.length<0
    .exact absurd aq (key.1 a7)
    .omega
 .unfold Di Q8;have e:lim (λn=>Ay a x n 0)=some (kt (λi=>a.getD i []==x) 0 a.length):=
   tL (l:=Ay a x) (n:=a.length) (λi=>a.getD i []==x) (λm=>by
    simp only[Ay,Q7];rw[ee (Nat.le_refl _)];rfl) (λi aj m=>by
    simp only[Ay,Q7];rw[ek aj,mr _ i [] aj,ed i _ aj (by omega),Bool.beq_comm];rfl)
  rw[e,bind_some,some.injEq,decide_eq_decide];constructor
  .intro a7;by_cases aq:x∈a
   .exact aq
   .have:=key.2 aq;omega
  .intro aq;by_cases a7:kt (λi=>a.getD i []==x) 0 a.length<0
   .exact absurd aq (key.1 a7)
   .omega
noncomputable def e5 (L:aAc):aAc:=(te L).getD []
noncomputable def gz (L:aAc):aAe:=((Ah L).getD ([],false)).1
structure xB (n:aAc) (a:aAe):Prop where
 ky:hB n=true
 len:a.length<=2
 Ep:(n==([116,97,117]:aAc))=true->a.length=0
 kM:∀x∈a,gj x
structure sL (L:aAc):Prop where
 mO:xB (e5 L) (gz L)
 eq:L=iW (e5 L) (gz L)
theorem MB {n:aAc} {a:aAe} (h:xB n a):e5 (iW n a)=n/\gz (iW n a)=a:=by
 unfold e5 gz;rw[adr h.ky h.len,ads h.ky h.len h.Ep h.kM];exact⟨rfl,rfl⟩
theorem adG {n:aAc} {a:aAe} (h:xB n a):sL (iW n a):=by
 obtain⟨aK,aT⟩:=MB h;exact⟨by rw[aK,aT];exact h,by rw[aK,aT]⟩
theorem xC {s:bl} (h:fF s):sL s.Label:=by
 obtain⟨n,a,h1,af,ay,a_,b1⟩:=h.shape;rw[b1];exact adG ⟨h1,af,ay,a_⟩
theorem sL.name {L:aAc} (h:sL L):te L=some (e5 L):=by
 have:=adr h.mO.ky h.mO.len
 rwa [<-h.eq]at this
theorem sL.values {L:aAc} (h:sL L):Ah L=some (gz L,true):=by
 have:=ads h.mO.ky h.mO.len h.mO.Ep h.mO.kM
 rwa [<-h.eq]at this
theorem sL.read {L:aAc} (h:sL L):Ax L=some (e5 L,gz L,true):=by
 have:=awK h.mO.ky h.mO.len h.mO.Ep h.mO.kM
 rwa [<-h.eq]at this
theorem adH:xB [116,97,117] []:=⟨by decide,by simp,λ_=>rfl,λx aq=>by cases aq⟩
def xD (H:aAb) (n:aAc) (a:aAe):aAc×aAe:=if n∈H then([116,97,117],[])else(n,a)
def qG (H:aAb) (n:aAc) (a:aAe):aAc:=iW (xD H n a).1 (xD H n a).2
theorem Ur {H:aAb} {n:aAc} {a:aAe} (h:xB n a):xB (xD H n a).1 (xD H n a).2:=by
 unfold xD;split
 .exact adH
 .exact h
theorem adI (s:cT) (hH:s.cA.length<=1048576) {L:aAc} (h:sL L):CB s L=some (qG s.cA (e5 L) (gz L)):=by
 obtain⟨⟨z,q0,_,z2⟩,_⟩:=Io s.cA (e5 L) hH;unfold CB;rw[h.name,bind_some,q0,bind_some,z2];unfold qG xD;by_cases hm:e5 L∈s.cA
 .rw[decide_eq_true hm,if_pos hm];rfl
 .rw[decide_eq_false hm,if_neg hm,cond_false];exact congrArg some h.eq
def xE (A:aAb) (n:aAc):Bool:=(n==[116,97,117])||decide (n∈A)
noncomputable def c1 (A H:aAb) (q:aAA) (i:Nat) (x:bl):aAB:=
 if xE A (e5 x.Label)=true then [⟨qG H (e5 x.Label) (gz x.Label),(i:Int),-1,q.set i x.Next⟩]else []
noncomputable def ou (M:aAz) (x y:aAc):aAc:=sK M (kt (sJ M (hU false x y) (hU true x y)) 0 M.length)
noncomputable def c2 (M:aAz) (A H:aAb) (q:aAA) (i k:Nat) (x y:bl):aAB:=
 if gz x.Label=gz y.Label/\ou M (e5 x.Label) (e5 y.Label)≠[]/\ou M (e5 x.Label) (e5 y.Label)∈A then
  [⟨qG H (ou M (e5 x.Label) (e5 y.Label)) (gz x.Label),(i:Int),(k:Int),(q.set i x.Next).set k y.Next⟩]else []
theorem vK {q:aAA} (h:∀p∈q,kN p) {x:ba} (aq:kN x) (i:Nat):∀p∈q.set i x,kN p:=by
 intro p aw;rcases List.mem_or_eq_of_mem_set aw with h1|rfl
 .exact h p h1
 .exact aq
theorem Us {H:aAb} {n:aAc} {a:aAe} (h:xB n a):(qG H n a).length<=400/\(32:UInt8)∉qG H n a:=by
 have g:=Ur (H:=H) h;exact T4 g.ky (by have:=g.len;omega) g.kM
theorem axl {A H:aAb} {q:aAA} (h:∀p∈q,kN p) {i:Nat} (aj:i<100) {x:bl} (aq:fF x):∀m∈c1 A H q i x,jm q.length m:=by
 intro m hm;unfold c1 at hm;split at hm
 .rw[List.mem_singleton]at hm;subst hm;exact⟨Us (xC aq).mO,⟨i,aj,rfl⟩,.inl rfl,by simp,vK h aq.next i⟩
 .cases hm
theorem adJ (A H:aAb) (q:aAA) (i:Nat) (x:bl):(c1 A H q i x).length<=1:=by unfold c1;split<;>simp
theorem Ut (M:aAz) (A H:aAb) (q:aAA) (i k:Nat) (x y:bl):(c2 M A H q i k x y).length<=1:=by unfold c2;split<;>simp
theorem Ip {s:cT} (aB:(mN s==0)=true) (x y:aAc):
  (decide (kt (sJ s.b9 (hU false x y) (hU true x y)) 0 s.b9.length<0)=decide (ou s.b9 x y=[]))/\(ou s.b9 x y≠[]->kb (ou s.b9 x y)=true):=by
 have hl:=Up (sJ s.b9 (hU false x y) (hU true x y)) s.b9.length 0;unfold ou;generalize kt (sJ s.b9 (hU false x y) (hU true x y)) 0 s.b9.length=z at hl⊢;by_cases h:z<0
 .rw[decide_eq_true h];have e:sK s.b9 z=[]:=by unfold sK;rw[decide_eq_true h];rfl
  rw[e];exact⟨by simp,λh=>absurd rfl h⟩
 .have b3:z.toNat<s.b9.length:=by omega
  have e:sK s.b9 z=(eO s.b9 z.toNat).Result:=by unfold sK;rw[decide_eq_false h];rfl
  have aR:=axi s aB z.toNat b3;rw[beq_eq_false_iff_ne]at aR;rw[e,decide_eq_false h,decide_eq_false aR];refine⟨rfl,λ_=>?_⟩;have hm:rq s.b9=true:=by
   cases h:rq s.b9
   .unfold mN at aB;rw[h]at aB;revert aB;cases l9 s.cz<;>cases vI s<;>simp
   .rfl
  unfold rq at hm;rw[Bool.and_eq_true]at hm;have h1:=pk.1 hm.2 z.toNat b3;unfold Br at h1;simp only[Bool.and_eq_true]at h1;exact h1.1.1.1.2
theorem MC {n:aAc} {a:aAe} (h:kb n=true) (hl:a.length<=2) (aB:∀x∈a,gj x):xB n a:=by
 unfold kb at h;rw[Bool.and_eq_true]at h;exact⟨h.1,hl,λe=>(by rw[e]at h;cases h.2),aB⟩
theorem axm {s:cT} (aB:(mN s==0)=true) (hm:s.b9.length<=1048576) (x y:aAc):AA s x y=some (ou s.b9 x y,!decide (ou s.b9 x y=[])):=by
 rw[axh s hm x y _ rfl,(Ip aB x y).1];rfl
theorem Uu {s:cT} (aB:(mN s==0)=true) {q:aAA} (h:∀p∈q,kN p) {i k:Nat} (aj:i<100) (hk:k<100) {x y:bl} (aq:fF x) (hy:fF y):
  ∀m∈c2 s.b9 s.cC s.cA q i k x y,jm q.length m:=by
 intro m hm;unfold c2 at hm;split at hm
 .rename_i au;rw[List.mem_singleton]at hm;subst hm;have g:=(xC aq).mO;exact⟨Us (MC ((Ip aB _ _).2 au.2.1) g.len g.kM),⟨i,aj,rfl⟩,.inr ⟨k,hk,rfl⟩,by simp,vK (vK h aq.next i) hy.next k⟩
 .cases hm
theorem axn {s:cT} (aB:(mN s==0)=true) (hm:s.b9.length<=1048576) (jh:s.cC.length<=1048576) {x y:aAc} (aq:sL x) (hy:sL y):
  Km s x y=some (if gz x=gz y/\ou s.b9 (e5 x) (e5 y)≠[]/\ou s.b9 (e5 x) (e5 y)∈s.cC then iW (ou s.b9 (e5 x) (e5 y)) (gz x)else []):=by
 have g:=aq.mO;unfold Km;rw[aq.values,hy.values];simp only[bind_some];rw[T6 _ _ (by have:=g.len;omega),bind_some];by_cases h1:gz x=gz y
 .rw[show(gz x==gz y)=true from by rw[h1];simp];simp only[Bool.not_true,cond_false];rw[aq.name,hy.name];simp only[bind_some];rw[show Gz s.b9 (e5 x) (e5 y)=some (ou s.b9 (e5 x) (e5 y))from axg _ hm _ _,bind_some];have sB:=(Ip aB (e5 x) (e5 y)).2;generalize ou s.b9 (e5 x) (e5 y)=r at sB⊢;by_cases af:r=[]
  .rw[if_neg (λc=>c.2.1 af),af];rfl
  .rw[show(r==([]:aAc))=false from by simpa using af,cond_false];obtain⟨⟨z,q0,z2,_⟩,_⟩:=Io s.cC r jh;rw[q0,bind_some,z2];by_cases ay:r∈s.cC
   .rw[decide_eq_true ay,if_pos ⟨h1,af,ay⟩];have Bs:=MC (sB af) g.len g.kM;have y8:r.length<=10:=by have:=Bs.ky;simp only[hB,Bool.and_eq_true,decide_eq_true_eq]at this;exact this.1
    rw[Bool.not_true,cond_false,ac0 r (gz x) y8 (by have:=g.len;omega) g.kM];rfl
   .rw[decide_eq_false ay,if_neg (λc=>ay c.2.2)];rfl
 .rw[show(gz x==gz y)=false from by simpa using h1,if_neg (λc=>h1 c.1)];rfl
theorem adK {n:Nat} {D:aAx} {C:aAy} {M:aAz} {A H:aAb} {q:aAA} {o:aAB} {sn:aAa} (m:bm) (hm:jm n m) (aV:n<=100) (bG:o.length<=1000000000):
  Dl m.na m.Second D C M A H q o sn m.Label m.State=some (D,C,M,A,H,q,(ot pq (o,sn) m).1,(ot pq (o,sn) m).2):=by
 obtain⟨i,aj,iF⟩:=hm.fst;obtain⟨s1,s2,_⟩:=Ul hm.snd;have h1:=xk i;have af:=hm.y9.1;have ay:=adv hm.st.2;have a_:=hm.st.1;have ao:r5 m.na=some (jn m.na.toNat):=by rw[iF,Int.toNat_natCast];exact Ba i aj
 have hr:(jn m.na.toNat).length<=2:=by rw[iF,Int.toNat_natCast];exact h1
 unfold Dl;rw[ao,s1,awQ (by omega) hm.st.2,mw (by omega)];simp only[bind_some];rw[mw (by simp only[List.length_append,List.length_cons,List.length_nil];omega),bind_some,mw (by simp only[List.length_append,List.length_cons,List.length_nil];omega),bind_some,mw (by simp only[List.length_append,List.length_cons,List.length_nil];omega),bind_some,
  mw (by simp only[List.length_append,List.length_cons,List.length_nil];omega),bind_some,mw (by simp only[List.length_append,List.length_cons,List.length_nil];omega),bind_some]
 show cond (!(kc (pq m) sn)) _ _=_;unfold ot;cases hg:kc (pq m) sn
 .rw[jN (by omega) (by omega)];simp only[hg];rfl
 .simp only[hg];rfl
theorem adL {D:aAx} {C:aAy} {M:aAz} {A H:aAb} {q:aAA} {o:aAB} {sn:aAa} {n:aAc} {a:aAe} (aV:xB n a) (cF:q.length<=100) (h:∀p∈q,kN p)
  (bG:o.length<=1000000000) {i:Nat} (aj:i<q.length) {p:ba} (aw:kN p):
  (q7 (i:Int) (-1) [p] D C M A H q o sn n a=some (D,C,M,A,H,q,(ot pq (o,sn) ⟨iW n a,i,-1,q.set i p⟩).1,(ot pq (o,sn) ⟨iW n a,i,-1,q.set i p⟩).2))/\
  ∀(k:Nat) (r:ba),k<q.length->kN r->
   q7 (i:Int) (k:Int) [p,r] D C M A H q o sn n a=some (D,C,M,A,H,q,(ot pq (o,sn) ⟨iW n a,i,k,(q.set i p).set k r⟩).1,(ot pq (o,sn) ⟨iW n a,i,k,(q.set i p).set k r⟩).2):=by
 have Ms:=T4 aV.ky (by have:=aV.len;omega) aV.kM;constructor
 .unfold q7;rw[Ik n a aV.ky aV.len aV.Ep aV.kM,(Eo cF h).2];simp only[bind_some];rw[show bh [p] 0=some p from rfl,bind_some,Uq aw,dO _ i aj];simp only[bind_some,Int.toNat_natCast];rw[show decide ((0:Int)<=-1)=false from rfl,cond_false];exact adK (n:=q.length) ⟨iW n a,i,-1,q.set i p⟩ ⟨Ms,⟨i,by omega,rfl⟩,.inl rfl,by simp,vK h aw i⟩ cF bG
 .intro k r hk aR;unfold q7;rw[Ik n a aV.ky aV.len aV.Ep aV.kM,(Eo cF h).2];simp only[bind_some];rw[show bh [p,r] 0=some p from rfl,bind_some,Uq aw,dO _ i aj];simp only[bind_some,Int.toNat_natCast];rw[show decide ((0:Int)<=(k:Int))=true from decide_eq_true (by omega),cond_true,show bh [p,r] 1=some r from rfl,bind_some,Uq aR,dO _ k (by simpa using hk)];simp only[bind_some];exact adK (n:=q.length) ⟨iW n a,i,k,(q.set i p).set k r⟩ ⟨Ms,⟨i,by omega,rfl⟩,.inr ⟨k,by omega,rfl⟩,by simp,vK (vK h aw i) aR k⟩ cF bG
theorem adM {D:aAx} {C:aAy} {M:aAz} {A H:aAb} {q:aAA} {o:aAB} {sn:aAa} {n:aAc} {a:aAe} (jh:A.length<=1048576) (hH:H.length<=1048576) (k:Int) (ps:aAA) (i:Nat)
  (r:aAB×aAa) (hk:q7 (i:Int) k ps D C M A H q o sn (xD H n a).1 (xD H n a).2=some (D,C,M,A,H,q,r.1,r.2)):
  Dm D C M A H q o sn n a (i:Int) k ps=some (D,C,M,A,H,q,(if xE A n=true then r else(o,sn)).1,(if xE A n=true then r else(o,sn)).2):=by
 have aK:=(Io A n jh).2;have aT:=(Io H n hH).2;have au:∀x,cond (decide (n∈H)) (q7 (i:Int) k ps D C M A H q o sn ([116,97,117]:aAc) []) (q7 (i:Int) k ps D C M A H q o sn n a)=x↔some (D,C,M,A,H,q,r.1,r.2)=x:=by
  intro x;rw[<-hk];unfold xD;by_cases h:n∈H
  .rw[decide_eq_true h,if_pos h];exact Iff.rfl
  .rw[decide_eq_false h,if_neg h];exact Iff.rfl
 unfold Dm xE;rw[aK,aT];simp only[bind_some];cases a6:n==([116,97,117]:aAc)
 .simp only[Bool.not_false,cond_true,Bool.false_or];by_cases h:n∈A
  .rw[decide_eq_true h];simp only[Bool.not_true,cond_false,if_true];exact(au _).2 rfl
  .rw[decide_eq_false h];simp
 .simp only[Bool.not_true,cond_false,Bool.true_or,if_true];exact(au _).2 rfl
end Go.pO
namespace Go.pO
open Option Go.IntKind Nat Or
open Go Go.en
theorem axo {L:aAc} (h:sL L):(L==([116,97,117]:aAc))=(e5 L==[116,97,117]):=by
 rw[Bool.eq_iff_iff,beq_iff_eq,beq_iff_eq];constructor
 .intro e;have:L=iW [116,97,117] []:=e;rw[this];exact(MB adH).1
 .intro e;have af:=h.mO.Ep (by rw[e];rfl);have ay:gz L=[]:=List.length_eq_zero_iff.1 af;rw[h.eq,e,ay];rfl
theorem adN {n:Nat} {o:aAB} {m:bm} (bG:o.length<=1000) (hg:∀x∈o,jm n x) (hm:jm n m):(iM o m).length<=1000/\∀x∈iM o m,jm n x:=by
 unfold iM;split
 .exact⟨bG,hg⟩
 .have:=Ug o m;exact⟨by omega,λx aq=>(Mw aq).elim (hg x) λe=>e▸hm⟩
theorem Iq {n:Nat}:∀(l o:aAB),o.length<=1000->(∀x∈o,jm n x)->(∀x∈l,jm n x)->(l.foldl iM o).length<=1000/\∀x∈l.foldl iM o,jm n x
 |[],o,bG,hg,_=>⟨bG,hg⟩
 |s::r,o,bG,hg,hl=>by
  obtain⟨h1,af⟩:=adN bG hg (hl s (by simp));exact Iq r _ h1 af λx aq=>hl x (List.mem_cons_of_mem _ aq)
theorem Ir {n:Nat}:∀(l o:aAB),(∀x∈o,jm n x)->(∀x∈l,jm n x)->∀x∈l.foldl hJ o,jm n x
 |[],o,hg,_=>hg
 |s::r,o,hg,hl=>Ir r _ (λx aq=>(Mw aq).elim (hg x) λe=>e▸hl s (by simp)) λx aq=>hl x (List.mem_cons_of_mem _ aq)
structure sM (s:cT) (q:aAA) (an:aAo):Prop where
 Bt:(mN s==0)=true
 sm:s.b9.length<=1048576/\s.cC.length<=1048576/\s.cA.length<=1048576
 nq:q.length<=3
 t_:∀p∈q,kN p
 mi:an.length=q.length
 gs:∀l∈an,l.length<=200/\∀x∈l,fF x
noncomputable def lk (s:cT) (q:aAA) (i:Nat) (l:aAC):aAB:=l.flatMap (c1 s.cC s.cA q i)
noncomputable def mP (s:cT) (q:aAA) (i k:Nat) (l r:aAC):aAB:=l.flatMap λx=>r.flatMap (c2 s.b9 s.cC s.cA q i k x)
noncomputable def l_ (s:cT) (q:aAA) (an:aAo) (i k:Nat):aAB:=(List.range' k (q.length-k)).flatMap λk=>mP s q i k (an.getD i []) (an.getD k [])
noncomputable def one (s:cT) (q:aAA) (an:aAo) (i:Nat):aAB:=(List.range' i (q.length-i)).flatMap λi=>lk s q i (an.getD i [])
noncomputable def two (s:cT) (q:aAA) (an:aAo) (i:Nat):aAB:=(List.range' i (q.length-i)).flatMap λi=>l_ s q an i (i+1)
section
variable {s:cT} {q:aAA} {an:aAo} (H:sM s q an)
include H
theorem sM.at {i:Nat} (aj:i<q.length):∃h:i<an.length,an.getD i []=an[i]/\an[i].length<=200/\∀x∈an[i],fF x:=by
 have h:i<an.length:=by rw[H.mi];exact aj
 exact⟨h,by simp[List.getD,h],H.gs _ (List.getElem_mem h)⟩
theorem sM.g1 {i:Nat} (aj:i<q.length) {l:aAC} (hl:∀x∈l,fF x):∀m∈lk s q i l,jm q.length m:=by
 intro m hm;unfold lk at hm;obtain⟨x,aq,hm⟩:=List.mem_flatMap.1 hm;exact axl H.t_ (by have:=H.nq;omega) (hl x aq) m hm
theorem sM.g2 {i k:Nat} (aj:i<q.length) (hk:k<q.length) {l r:aAC} (hl:∀x∈l,fF x) (aR:∀x∈r,fF x):∀m∈mP s q i k l r,jm q.length m:=by
 intro m hm;unfold mP at hm;obtain⟨x,aq,hm⟩:=List.mem_flatMap.1 hm;obtain⟨y,hy,hm⟩:=List.mem_flatMap.1 hm;exact Uu H.Bt H.t_ (by have:=H.nq;omega) (by have:=H.nq;omega) (hl x aq) (aR y hy) m hm
theorem sM.g3 {i k:Nat} (aj:i<q.length):∀m∈l_ s q an i k,jm q.length m:=by
 intro m hm;unfold l_ at hm;obtain⟨j,bE,hm⟩:=List.mem_flatMap.1 hm;rw[List.mem_range'_1]at bE;obtain⟨_,aK,_,f1⟩:=H.at aj;obtain⟨_,aT,_,f2⟩:=H.at (i:=j) (by omega);rw[aK,aT]at hm;exact H.g2 aj (by omega) f1 f2 m hm
theorem sM.gone {i:Nat}:∀m∈one s q an i,jm q.length m:=by
 intro m hm;unfold one at hm;obtain⟨j,bE,hm⟩:=List.mem_flatMap.1 hm;rw[List.mem_range'_1]at bE;obtain⟨_,aK,_,f1⟩:=H.at (i:=j) (by omega);rw[aK]at hm;exact H.g1 (by omega) f1 m hm
theorem sM.Uv {i:Nat}:∀m∈two s q an i,jm q.length m:=by
 intro m hm;unfold two at hm;obtain⟨j,bE,hm⟩:=List.mem_flatMap.1 hm;rw[List.mem_range'_1]at bE;exact H.g3 (by omega) m hm
theorem axp (q5:aAB->aAo->Int->Option (aAB×Bool)) {i:Nat} (aj:i<q.length) {l:aAC} (hl:bh an (i:Int)=some l) (vA:l.length<=200) (hg:∀x∈l,fF x):
  ∀a,a<=l.length->∀(o:aAB) m,o.length+(l.length-a)<=1000000->(∀x∈o,jm q.length x)->l.length-a<m->
   yv q5 q s.cz s.cj s.b9 s.cC s.cA m o an (i:Int) (a:Int)=q5 ((lk s q i (l.drop a)).foldl hJ o) an ((i+1:Nat):Int):=by
 have ay:=H.nq;refine down l.length ?_ ?_
 .intro o m bG iv hm;obtain⟨m,rfl⟩:∃j,m=j+1:=⟨m-1,by omega⟩
  simp only[yv,P5];rw[hl,bind_some,ee (Nat.le_refl _),List.drop_of_length_le (Nat.le_refl _),cond_false,ed i _ aj (by omega)];rfl
 .intro a bs ih o m bG iv hm;obtain⟨m,rfl⟩:∃j,m=j+1:=⟨m-1,by omega⟩
  have nz:=hg _ (List.getElem_mem bs);have fU:=xC nz;simp only[yv,P5,GA];rw[hl,bind_some,ek bs,cond_true,dO l a bs,bind_some,axo fU,fU.name,bind_some,(Eo (by omega) H.t_).1,ed a _ bs (by omega)];obtain⟨⟨z,q0,z2,_⟩,_⟩:=Io s.cC (e5 l[a].Label) H.sm.2.1;rw[q0];simp only[bind_some,Int.toNat_natCast];rw[z2,dO q i aj,adI (cT.mk s.cz s.cj s.b9 s.cC s.cA) H.sm.2.2 fU];simp only[bind_some];rw[(Eo (by simp;omega) (vK H.t_ nz.next i)).1,bind_some];have ln:Ae o ⟨qG s.cA (e5 l[a].Label) (gz l[a].Label),(i:Int),-1,q.set i l[a].Next⟩=some (hJ o ⟨qG s.cA (e5 l[a].Label) (gz l[a].Label),(i:Int),-1,q.set i l[a].Next⟩):=adF o _ (by omega) (by omega) iv;have ec:lk s q i (l.drop a)=c1 s.cC s.cA q i l[a]++lk s q i (l.drop (a+1)):=by unfold lk;rw[drop_cons l a bs,List.flatMap_cons]
  rw[ln,ec,List.foldl_append];have nA:c1 s.cC s.cA q i l[a]=if xE s.cC (e5 l[a].Label)=true then [⟨qG s.cA (e5 l[a].Label) (gz l[a].Label),(i:Int),-1,q.set i l[a].Next⟩]else []:=rfl;have Er:jm q.length ⟨qG s.cA (e5 l[a].Label) (gz l[a].Label),(i:Int),-1,q.set i l[a].Next⟩:=⟨Us fU.mO,⟨i,by omega,rfl⟩,.inl rfl,by simp,vK H.t_ nz.next i⟩
  have hle:=Ug o ⟨qG s.cA (e5 l[a].Label) (gz l[a].Label),(i:Int),-1,q.set i l[a].Next⟩;rw[nA];unfold xE;cases e5 l[a].Label==[116,97,117]
  .by_cases jh:e5 l[a].Label∈s.cC
   .simp only[decide_eq_true jh,Bool.not_false,Bool.not_true,Bool.false_or,if_true,cond_true,cond_false,bind_some,List.foldl_cons,List.foldl_nil];exact ih _ m (by omega) (λx aq=>(Mw aq).elim (iv x) λe=>by rw[e];exact Er) (by omega)
   .simp only[decide_eq_false jh,Bool.not_false,Bool.false_or,cond_true,List.foldl_nil,Bool.false_eq_true,if_false];exact ih _ m (by omega) iv (by omega)
  .simp only[Bool.not_true,cond_false,Bool.true_or,if_true,bind_some,List.foldl_cons,List.foldl_nil];exact ih _ m (by omega) (λx aq=>(Mw aq).elim (iv x) λe=>by rw[e];exact Er) (by omega)
theorem axq (iz:aAB->aAo->Int->Option (aAB×Bool)) (kY:aAB->aAo->Int->Int->Option (aAB×Bool)) (qh:aAB->aAo->Int->Int->Int->Option (aAB×Bool))
  {i k:Nat} (aj:i<q.length) (hk:k<q.length) {l r:aAC} (hl:bh an (i:Int)=some l) (aR:bh an (k:Int)=some r) (vA:l.length<=200) (x7:r.length<=200) (xF:∀x∈l,fF x) (ze:∀x∈r,fF x) {a:Nat} (bs:a<l.length):
  ∀b,b<=r.length->∀(o:aAB) m,o.length<=1000->(∀x∈o,jm q.length x)->r.length-b<m->
   uW iz kY qh q s.cz s.cj s.b9 s.cC s.cA m o an (i:Int) (k:Int) (a:Int) (b:Int)=
    qh (((r.drop b).flatMap (c2 s.b9 s.cC s.cA q i k l[a])).foldl iM o) an (i:Int) (k:Int) ((a+1:Nat):Int):=by
 have ay:=H.nq;have Ek:∀b (o:aAB) m,b<=r.length->200<o.length->uW iz kY qh q s.cz s.cj s.b9 s.cC s.cA (m+1) o an (i:Int) (k:Int) (a:Int) (b:Int)=
    qh (((r.drop b).flatMap (c2 s.b9 s.cC s.cA q i k l[a])).foldl iM o) an (i:Int) (k:Int) ((a+1:Nat):Int):=by
  intro b o m ab bG;simp only[uW,Kp];rw[aR,bind_some,show decide ((o.length:Int)<=200)=false from decide_eq_false (by omega),Bool.and_false,cond_false,Uh _ _ bG,ed a _ bs (by omega)]
 refine down r.length ?_ ?_
 .intro o m bG iv hm;obtain⟨m,rfl⟩:∃j,m=j+1:=⟨m-1,by omega⟩
  simp only[uW,Kp];rw[aR,bind_some,ee (Nat.le_refl _),List.drop_of_length_le (Nat.le_refl _),Bool.false_and,cond_false,ed a _ bs (by omega)];rfl
 .intro b ab ih o m bG iv hm;obtain⟨m,rfl⟩:∃j,m=j+1:=⟨m-1,by omega⟩
  by_cases adO:200<o.length
  .exact Ek b o m (by omega) adO
  have nz:=xF _ (List.getElem_mem bs);have ui:=ze _ (List.getElem_mem ab);have Bu:=xC nz;have axr:=xC ui;simp only[uW,Kp,Kn];rw[aR,bind_some,ek ab,show decide ((o.length:Int)<=200)=true from decide_eq_true (by omega),Bool.and_self,cond_true,hl,bind_some,dO l a bs,bind_some,dO r b ab,bind_some,
   axn (s:=cT.mk s.cz s.cj s.b9 s.cC s.cA) H.Bt H.sm.1 H.sm.2.1 Bu axr,bind_some,(Eo (by omega) H.t_).1,bind_some,ed b _ ab (by omega),dO q i aj,bind_some,drop_cons r b ab,List.flatMap_cons,List.foldl_append]
  have Er:=Uu H.Bt H.t_ (i:=i) (k:=k) (by omega) (by omega) nz ui;simp only[Int.toNat_natCast];unfold c2 at Er⊢;by_cases au:gz l[a].Label=gz r[b].Label/\ou s.b9 (e5 l[a].Label) (e5 r[b].Label)≠[]/\ou s.b9 (e5 l[a].Label) (e5 r[b].Label)∈s.cC
  .rw[if_pos au]at Er⊢;rw[if_pos au];have Bs:=MC ((Ip H.Bt (e5 l[a].Label) (e5 r[b].Label)).2 au.2.1) Bu.mO.len Bu.mO.kM;have dP:(iW (ou s.b9 (e5 l[a].Label) (e5 r[b].Label)) (gz l[a].Label)==([]:aAc))=false:=by
    rw[beq_eq_false_iff_ne];intro e;have aT:=(MB Bs).1;rw[e]at aT;have aU:e5 ([]:aAc)=[]:=by
     have:te []=some []:=by unfold te;rw[(Ih [] (by simp)).1 (by simp)];rfl
     unfold e5;rw[this];rfl
    exact au.2.1 (aT.symm.trans aU)
   obtain⟨aK,aT⟩:=MB Bs;rw[dP,cond_false,dO _ k (by simpa using hk),bind_some,adI (cT.mk s.cz s.cj s.b9 s.cC s.cA) H.sm.2.2 (adG Bs),bind_some,aK,aT,
    (Eo (by simp;omega) (vK (vK H.t_ nz.next i) ui.next k)).1,bind_some,adF (n:=q.length) o _ (by omega) (by omega) iv,bind_some,List.foldl_cons,List.foldl_nil]
   have adP:∀x:bm,iM o x=hJ o x:=λx=>by unfold iM;rw[if_neg adO]
   rw[adP];have uF:=adN bG iv (Er _ (List.mem_singleton.2 rfl));rw[adP]at uF;exact ih _ m uF.1 uF.2 (by omega)
  .rw[if_neg au,if_neg au,beq_self_eq_true,cond_true];exact ih _ m bG iv (by omega)
theorem axs (iz:aAB->aAo->Int->Option (aAB×Bool)) (kY:aAB->aAo->Int->Int->Option (aAB×Bool))
  {i k:Nat} (aj:i<q.length) (hk:k<q.length) {l r:aAC} (hl:bh an (i:Int)=some l) (aR:bh an (k:Int)=some r) (vA:l.length<=200) (x7:r.length<=200) (xF:∀x∈l,fF x) (ze:∀x∈r,fF x):
  ∀a,a<=l.length->∀(o:aAB) m,o.length<=1000->(∀x∈o,jm q.length x)->l.length-a<m->
   rZ iz kY q s.cz s.cj s.b9 s.cC s.cA m o an (i:Int) (k:Int) (a:Int)=kY ((mP s q i k (l.drop a) r).foldl iM o) an (i:Int) ((k+1:Nat):Int):=by
 have ay:=H.nq;refine down l.length ?_ ?_
 .intro o m bG iv hm;obtain⟨m,rfl⟩:∃j,m=j+1:=⟨m-1,by omega⟩
  simp only[rZ,P7];rw[hl,bind_some,ee (Nat.le_refl _),List.drop_of_length_le (Nat.le_refl _),cond_false,ed k _ hk (by omega)];rfl
 .intro a bs ih o m bG iv hm;obtain⟨m,rfl⟩:∃j,m=j+1:=⟨m-1,by omega⟩
  simp only[rZ,P7];rw[hl,bind_some,ek bs,cond_true];have iU:lim (λn=>uW iz kY (rZ iz kY q s.cz s.cj s.b9 s.cC s.cA m) q s.cz s.cj s.b9 s.cC s.cA n o an (i:Int) (k:Int) (a:Int) 0)=
    rZ iz kY q s.cz s.cj s.b9 s.cC s.cA m ((r.flatMap (c2 s.b9 s.cC s.cA q i k l[a])).foldl iM o) an (i:Int) (k:Int) ((a+1:Nat):Int):=
   e0 (r.length+1) λm2 rr=>axq H iz kY _ aj hk hl aR vA x7 xF ze bs 0 (by omega) o m2 bG iv (by omega)
  have axt:∀x∈r.flatMap (c2 s.b9 s.cC s.cA q i k l[a]),jm q.length x:=λx aq=>by
   obtain⟨y,hy,aq⟩:=List.mem_flatMap.1 aq;exact Uu H.Bt H.t_ (by omega) (by omega) (xF _ (List.getElem_mem bs)) (ze y hy) x aq
  obtain⟨bV,cn⟩:=Iq _ o bG iv axt;have ec:mP s q i k (l.drop a) r=r.flatMap (c2 s.b9 s.cC s.cA q i k l[a])++mP s q i k (l.drop (a+1)) r:=by unfold mP;rw[drop_cons l a bs,List.flatMap_cons]
  rw[iU,ih _ m bV cn (by omega),ec,List.foldl_append]
theorem axu (iz:aAB->aAo->Int->Option (aAB×Bool)) {i:Nat} (aj:i<q.length):
  ∀k,k<=q.length->∀(o:aAB) m,o.length<=1000->(∀x∈o,jm q.length x)->q.length-k<m->
   pa iz q s.cz s.cj s.b9 s.cC s.cA m o an (i:Int) (k:Int)=iz ((l_ s q an i k).foldl iM o) an ((i+1:Nat):Int):=by
 have ay:=H.nq;obtain⟨mX,iF,li,ua⟩:=H.at aj;refine down q.length ?_ ?_
 .intro o m bG iv hm;obtain⟨m,rfl⟩:∃j,m=j+1:=⟨m-1,by omega⟩
  simp only[pa,P8];rw[ee (Nat.le_refl _),cond_false,ed i _ aj (by omega)];unfold l_;rw[Nat.sub_self];rfl
 .intro k hk ih o m bG iv hm;obtain⟨m,rfl⟩:∃j,m=j+1:=⟨m-1,by omega⟩
  obtain⟨py,tP,Es,gk⟩:=H.at hk;simp only[pa,P8];rw[ek hk,cond_true];have iU:lim (λn=>rZ iz (pa iz q s.cz s.cj s.b9 s.cC s.cA m) q s.cz s.cj s.b9 s.cC s.cA n o an (i:Int) (k:Int) 0)=
    pa iz q s.cz s.cj s.b9 s.cC s.cA m ((mP s q i k an[i] an[k]).foldl iM o) an (i:Int) ((k+1:Nat):Int):=
   e0 (an[i].length+1) λm2 rr=>axs H iz _ aj hk (dO an i mX) (dO an k py) li Es ua gk 0 (by omega) o m2 bG iv (by omega)
  obtain⟨bV,cn⟩:=Iq _ o bG iv (H.g2 aj hk ua gk);have ec:l_ s q an i k=mP s q i k an[i] an[k]++l_ s q an i (k+1):=by
   unfold l_;rw[show q.length-k=(q.length-(k+1))+1 by omega,List.range'_succ,List.flatMap_cons,iF,tP]
  rw[iU,ih _ m bV cn (by omega),ec,List.foldl_append]
theorem axv:∀i,i<=q.length->∀(o:aAB) m,o.length<=1000->(∀x∈o,jm q.length x)->q.length-i<m->
   l5 q s.cz s.cj s.b9 s.cC s.cA m o an (i:Int)=some ((two s q an i).foldl iM o,decide ((((two s q an i).foldl iM o).length:Int)<=200)):=by
 have ay:=H.nq;refine down q.length ?_ ?_
 .intro o m bG iv hm;obtain⟨m,rfl⟩:∃j,m=j+1:=⟨m-1,by omega⟩
  simp only[l5,P9];rw[ee (Nat.le_refl _),cond_false];unfold two;rw[Nat.sub_self];rfl
 .intro i aj ih o m bG iv hm;obtain⟨m,rfl⟩:∃j,m=j+1:=⟨m-1,by omega⟩
  simp only[l5,P9];rw[ek aj,cond_true,ed i _ aj (by omega)];have iU:lim (λn=>pa (l5 q s.cz s.cj s.b9 s.cC s.cA m) q s.cz s.cj s.b9 s.cC s.cA n o an (i:Int) ((i+1:Nat):Int))=
    l5 q s.cz s.cj s.b9 s.cC s.cA m ((l_ s q an i (i+1)).foldl iM o) an ((i+1:Nat):Int):=
   e0 (q.length+1) λm2 rr=>axu H _ aj (i+1) (by omega) o m2 bG iv (by omega)
  obtain⟨bV,cn⟩:=Iq _ o bG iv (H.g3 (k:=i+1) aj);have ec:two s q an i=l_ s q an i (i+1)++two s q an (i+1):=by
   unfold two;rw[show q.length-i=(q.length-(i+1))+1 by omega,List.range'_succ,List.flatMap_cons]
  rw[iU,ih _ m bV cn (by omega),ec,List.foldl_append]
omit H in
theorem Is (i:Nat):∀l:aAC,(lk s q i l).length<=l.length
 |[]=>Nat.le_refl _
 |x::r=>by
  have h1:=adJ s.cC s.cA q i x;have af:=Is i r;unfold lk at af⊢;rw[List.flatMap_cons,List.length_append,List.length_cons];omega
theorem axw:∀i,i<=q.length->∀(o:aAB) m,o.length+200*(q.length-i)<=1000->(∀x∈o,jm q.length x)->q.length-i<m->
   tk q s.cz s.cj s.b9 s.cC s.cA m o an (i:Int)=
    some ((two s q an 0).foldl iM ((one s q an i).foldl hJ o),decide ((((two s q an 0).foldl iM ((one s q an i).foldl hJ o)).length:Int)<=200)):=by
 have ay:=H.nq;refine down q.length ?_ ?_
 .intro o m bG iv hm;obtain⟨m,rfl⟩:∃j,m=j+1:=⟨m-1,by omega⟩
  simp only[tk,P_];rw[ee (Nat.le_refl _),cond_false];have e:one s q an q.length=[]:=by unfold one;rw[Nat.sub_self];rfl
  rw[e];exact e0 (q.length+1) λm2 rr=>axv H 0 (by omega) o m2 (by omega) iv (by omega)
 .intro i aj ih o m bG iv hm;obtain⟨m,rfl⟩:∃j,m=j+1:=⟨m-1,by omega⟩
  obtain⟨mX,iF,li,ua⟩:=H.at aj;simp only[tk,P_];rw[ek aj,cond_true];have iU:lim (λn=>yv (tk q s.cz s.cj s.b9 s.cC s.cA m) q s.cz s.cj s.b9 s.cC s.cA n o an (i:Int) 0)=
    tk q s.cz s.cj s.b9 s.cC s.cA m ((lk s q i an[i]).foldl hJ o) an ((i+1:Nat):Int):=
   e0 (an[i].length+1) λm2 rr=>axp H _ aj (dO an i mX) li ua 0 (by omega) o m2 (by omega) iv (by omega)
  have bV:=(Mx (lk s q i an[i]) o).2;have dV:=Is (s:=s) (q:=q) i an[i];have ec:one s q an i=lk s q i an[i]++one s q an (i+1):=by
   unfold one;rw[show q.length-i=(q.length-(i+1))+1 by omega,List.range'_succ,List.flatMap_cons,iF]
  rw[iU,ih _ m (by omega) (Ir _ o iv (H.g1 aj ua)) (by omega),ec,List.foldl_append]
end
theorem axx (a b:aAe) (h:a.length<=1048576):G6 a b=some (a==b):=by
 unfold G6;by_cases hl:a.length=b.length
 .have e:((a.length:Int) !=(b.length:Int))=false:=by simp[hl]
  rw[e,cond_false];have:=qA (n:=a.length) (l:=Dp a b) (λi=>some (a.drop i==b.drop i)) (λm=>?_) (λi aj m ih=>?_)
  .simpa using this
  .simp only[Dp,Rc];rw[ee (Nat.le_refl _),List.drop_of_length_le (Nat.le_refl _),List.drop_of_length_le (by omega)];rfl
  .simp only[Dp,Rc];rw[ek aj,dO _ i aj,dO _ i (by omega),ed i _ aj (by omega),drop_cons a i aj,drop_cons b i (by omega),List.cons_beq_cons];simp only[cond_true,bind_some,ih,bne];cases a[i]==b[i]
   .rfl
   .simp
 .have e:((a.length:Int) !=(b.length:Int))=true:=by simp;omega
  have aT:(a==b)=false:=by
   rw[beq_eq_false_iff_ne];intro h;exact hl (by rw[h])
  rw[e,cond_true,aT]
abbrev Seen:=aAa
noncomputable abbrev il:aAB×Seen->bm->aAB×Seen:=ot pq
theorem Bv (l:aAB) (p:aAB×Seen):(l.foldl il p).1.length<=p.1.length+l.length:=adu pq l p
section
variable {s:cT} {q:aAA} {an:aAo} (H:sM s q an)
include H
theorem axy {i k:Nat} (aj:i<q.length) (hk:k<q.length) {x y:bl} (nz:fF x) (ui:fF y) (p:aAB×Seen) (aw:p.1.length<=1000000000) {β:Type}
  (K:aAx->aAy->aAz->aAb->aAb->aAA->aAB->Seen->Option β):
  ((AA (cT.mk s.cz s.cj s.b9 s.cC s.cA) (e5 x.Label) (e5 y.Label)).bind λaX=>cond aX.2 ((G6 (gz x.Label) (gz y.Label)).bind λbz=>cond bz
    ((Dm s.cz s.cj s.b9 s.cC s.cA q p.1 p.2 aX.1 (gz x.Label) (i:Int) (k:Int) [x.Next,y.Next]).bind λbw=>K bw.1 bw.2.1 bw.2.2.1 bw.2.2.2.1 bw.2.2.2.2.1 bw.2.2.2.2.2.1 bw.2.2.2.2.2.2.1 bw.2.2.2.2.2.2.2)
    (K s.cz s.cj s.b9 s.cC s.cA q p.1 p.2)) (K s.cz s.cj s.b9 s.cC s.cA q p.1 p.2))=
  K s.cz s.cj s.b9 s.cC s.cA q ((c2 s.b9 s.cC s.cA q i k x y).foldl il p).1 ((c2 s.b9 s.cC s.cA q i k x y).foldl il p).2:=by
 have ay:=H.nq;have Bu:=xC nz;rw[show AA (cT.mk s.cz s.cj s.b9 s.cC s.cA) (e5 x.Label) (e5 y.Label)=_ from axm H.Bt H.sm.1 _ _,bind_some];have sB:=(Ip H.Bt (e5 x.Label) (e5 y.Label)).2;unfold c2;simp only;generalize ou s.b9 (e5 x.Label) (e5 y.Label)=eL at sB⊢;by_cases af:eL=[]
 .rw[decide_eq_true af,if_neg (λc=>c.2.1 af)];rfl
 .rw[decide_eq_false af,Bool.not_false,cond_true,axx _ _ (by have:=Bu.mO.len;omega),bind_some];by_cases h1:gz x.Label=gz y.Label
  .rw[show(gz x.Label==gz y.Label)=true from by rw[h1];simp,cond_true];have Bs:=MC (sB af) Bu.mO.len Bu.mO.kM;have Uw:=(adL (D:=s.cz) (C:=s.cj) (M:=s.b9) (A:=s.cC) (H:=s.cA) (o:=p.1) (sn:=p.2) (Ur (H:=s.cA) Bs) (by omega) H.t_ aw aj nz.next).2 k y.Next hk ui.next;have hm:=adM (n:=eL) (a:=gz x.Label) H.sm.2.1 H.sm.2.2 (k:Int) [x.Next,y.Next] i (ot pq p ⟨qG s.cA eL (gz x.Label),i,k,(q.set i x.Next).set k y.Next⟩) Uw;rw[hm,bind_some];have n0:(eL==([116,97,117]:aAc))=false:=by
    have:=sB af;unfold kb at this;rw[Bool.and_eq_true]at this;simpa using this.2
   have bG:xE s.cC eL=decide (eL∈s.cC):=by unfold xE;rw[n0,Bool.false_or]
   rw[bG];by_cases a_:eL∈s.cC
   .rw[if_pos (decide_eq_true a_),if_pos ⟨h1,af,a_⟩];rfl
   .rw[if_neg (by simpa using a_),if_neg (λc=>a_ c.2.2)];rfl
  .rw[show(gz x.Label==gz y.Label)=false from by simpa using h1,cond_false,if_neg (λc=>h1 c.1)];rfl
theorem axz (dV:aAx->aAy->aAz->aAb->aAb->aAA->aAB->Seen->Int->Option (aAx×aAy×aAz×aAb×aAb×aAA×aAB×Seen))
  {i k:Nat} (aj:i<q.length) (hk:k<q.length) {l r:aAC} (vA:l.length<=200) (x7:r.length<=200) (xF:∀x∈l,fF x) (ze:∀x∈r,fF x) {a:Nat} (bs:a<l.length):
  ∀b,b<=r.length->∀(p:aAB×Seen) m,p.1.length+(r.length-b)<=1000000000->r.length-b<m->
   wP dV (i:Int) (k:Int) l r l[a] (e5 l[a].Label,gz l[a].Label,true) m s.cz s.cj s.b9 s.cC s.cA q p.1 p.2 (a:Int) (b:Int)=
    dV s.cz s.cj s.b9 s.cC s.cA q (((r.drop b).flatMap (c2 s.b9 s.cC s.cA q i k l[a])).foldl il p).1 (((r.drop b).flatMap (c2 s.b9 s.cC s.cA q i k l[a])).foldl il p).2 ((a+1:Nat):Int):=by
 refine down r.length ?_ ?_
 .intro p m aw hm;obtain⟨m,rfl⟩:∃j,m=j+1:=⟨m-1,by omega⟩
  simp only[wP,Re];rw[ee (Nat.le_refl _),List.drop_of_length_le (Nat.le_refl _),cond_false,ed a _ bs (by omega)];rfl
 .intro b ab ih p m aw hm;obtain⟨m,rfl⟩:∃j,m=j+1:=⟨m-1,by omega⟩
  have nz:=xF _ (List.getElem_mem bs);have ui:=ze _ (List.getElem_mem ab);simp only[wP,Re,G7];rw[ek ab,cond_true,dO r b ab,bind_some,(xC ui).read,bind_some,ed b _ ab (by omega),drop_cons r b ab,List.flatMap_cons,List.foldl_append];have key:=axy H aj hk nz ui p (by omega) (λD C M A axA q o sn=>wP dV (i:Int) (k:Int) l r l[a] (e5 l[a].Label,gz l[a].Label,true) m D C M A axA q o sn (a:Int) ((b+1:Nat):Int));have IL:=Bv (c2 s.b9 s.cC s.cA q i k l[a] r[b]) p;have az9:=Ut s.b9 s.cC s.cA q i k l[a] r[b];rw[<-ih ((c2 s.b9 s.cC s.cA q i k l[a] r[b]).foldl il p) m (by omega) (by omega)];exact key
theorem axB {i k:Nat} (aj:i<q.length) (hk:k<q.length) {l r:aAC} (vA:l.length<=200) (x7:r.length<=200) (xF:∀x∈l,fF x) (ze:∀x∈r,fF x):
  ∀a,a<=l.length->∀(p:aAB×Seen) m,p.1.length+200*(l.length-a)<=100000000->l.length-a<m->
   tt (i:Int) (k:Int) l r m s.cz s.cj s.b9 s.cC s.cA q p.1 p.2 (a:Int)=
    some (s.cz,s.cj,s.b9,s.cC,s.cA,q,((mP s q i k (l.drop a) r).foldl il p).1,((mP s q i k (l.drop a) r).foldl il p).2):=by
 refine down l.length ?_ ?_
 .intro p m aw hm;obtain⟨m,rfl⟩:∃j,m=j+1:=⟨m-1,by omega⟩
  simp only[tt,Rf];rw[ee (Nat.le_refl _),List.drop_of_length_le (Nat.le_refl _),cond_false];rfl
 .intro a bs ih p m aw hm;obtain⟨m,rfl⟩:∃j,m=j+1:=⟨m-1,by omega⟩
  have nz:=xF _ (List.getElem_mem bs);simp only[tt,Rf];rw[ek bs,cond_true,dO l a bs,bind_some,(xC nz).read,bind_some];have iU:lim (λn=>wP (tt (i:Int) (k:Int) l r m) (i:Int) (k:Int) l r l[a] (e5 l[a].Label,gz l[a].Label,true) n s.cz s.cj s.b9 s.cC s.cA q p.1 p.2 (a:Int) 0)=
    tt (i:Int) (k:Int) l r m s.cz s.cj s.b9 s.cC s.cA q ((r.flatMap (c2 s.b9 s.cC s.cA q i k l[a])).foldl il p).1 ((r.flatMap (c2 s.b9 s.cC s.cA q i k l[a])).foldl il p).2 ((a+1:Nat):Int):=
   e0 (r.length+1) λm2 rr=>axz H _ aj hk vA x7 xF ze bs 0 (by omega) p m2 (by omega) (by omega)
  have kB:∀r:aAC,(r.flatMap (c2 s.b9 s.cC s.cA q i k l[a])).length<=r.length:=by
   intro r;induction r with
   |nil=>simp
   |cons y r BB=>
    have:=Ut s.b9 s.cC s.cA q i k l[a] y;rw[List.flatMap_cons,List.length_append,List.length_cons];omega
  have b1:=kB r;have dn:=Bv (r.flatMap (c2 s.b9 s.cC s.cA q i k l[a])) p;have ec:mP s q i k (l.drop a) r=r.flatMap (c2 s.b9 s.cC s.cA q i k l[a])++mP s q i k (l.drop (a+1)) r:=by unfold mP;rw[drop_cons l a bs,List.flatMap_cons]
  rw[iU,ih _ m (by omega) (by omega),ec,List.foldl_append]
omit H in
theorem Ux (i k:Nat) (r:aAC):∀l:aAC,(mP s q i k l r).length<=r.length*l.length
 |[]=>by simp[mP]
 |x::l=>by
  have h1:∀r:aAC,(r.flatMap (c2 s.b9 s.cC s.cA q i k x)).length<=r.length:=by
   intro r;induction r with
   |nil=>simp
   |cons y r BB=>
    have:=Ut s.b9 s.cC s.cA q i k x y;rw[List.flatMap_cons,List.length_append,List.length_cons];omega
  have af:=Ux i k r l;have ay:=h1 r;unfold mP at af⊢;rw[List.flatMap_cons,List.length_append,List.length_cons,mul_succ];omega
theorem adQ (kE:cT->aAA->aAB->Seen->aAo->Int->Option (aAB×Bool)) (adR:aAo) {i:Nat} (aj:i<q.length) {l:aAC} (vA:l.length<=200) (hg:∀x∈l,fF x):
  ∀a,a<=l.length->∀(p:aAB×Seen) m,p.1.length+(l.length-a)<=1000000000->l.length-a<m->
   yB kE s q (l,true) m s q p.1 p.2 adR (i:Int) (i:Int) (a:Int)=kE s q ((lk s q i (l.drop a)).foldl il p).1 ((lk s q i (l.drop a)).foldl il p).2 adR ((i+1:Nat):Int):=by
 have ay:=H.nq;refine down l.length ?_ ?_
 .intro p m aw hm;obtain⟨m,rfl⟩:∃j,m=j+1:=⟨m-1,by omega⟩
  simp only[yB,Rh];rw[ee (Nat.le_refl _),List.drop_of_length_le (Nat.le_refl _),cond_false,ed i _ aj (by omega)];rfl
 .intro a bs ih p m aw hm;obtain⟨m,rfl⟩:∃j,m=j+1:=⟨m-1,by omega⟩
  have nz:=hg _ (List.getElem_mem bs);have fU:=xC nz;simp only[yB,Rh];rw[ek bs,cond_true,dO l a bs,bind_some,fU.read,bind_some,ed a _ bs (by omega)];have Uw:=(adL (D:=s.cz) (C:=s.cj) (M:=s.b9) (A:=s.cC) (H:=s.cA) (o:=p.1) (sn:=p.2) (Ur (H:=s.cA) fU.mO) (by omega) H.t_ (by omega) aj nz.next).1;have rr:=adM (n:=e5 l[a].Label) (a:=gz l[a].Label) H.sm.2.1 H.sm.2.2 (-1) [l[a].Next] i (ot pq p ⟨qG s.cA (e5 l[a].Label) (gz l[a].Label),i,-1,q.set i l[a].Next⟩) Uw;rw[rr,bind_some];have ec:lk s q i (l.drop a)=c1 s.cC s.cA q i l[a]++lk s q i (l.drop (a+1)):=by unfold lk;rw[drop_cons l a bs,List.flatMap_cons]
  have aK:(c1 s.cC s.cA q i l[a]).foldl il p=if xE s.cC (e5 l[a].Label)=true then ot pq p ⟨qG s.cA (e5 l[a].Label) (gz l[a].Label),i,-1,q.set i l[a].Next⟩else p:=by
   unfold c1;split<;>rfl
  have b1:=Bv (c1 s.cC s.cA q i l[a]) p;have dn:=adJ s.cC s.cA q i l[a];rw[ec,List.foldl_append,<-ih ((c1 s.cC s.cA q i l[a]).foldl il p) m (by omega) (by omega),aK]
theorem axC (q4:cT->aAA->aAB->Seen->aAo->Int->Option (aAB×Bool)) {i:Nat} (aj:i<q.length):
  ∀k,k<=q.length->∀(p:aAB×Seen) m,p.1.length+40000*(q.length-k)<=50000000->q.length-k<m->
   AB q4 q m s q p.1 p.2 an (i:Int) (k:Int) (i:Int)=q4 s q ((l_ s q an i k).foldl il p).1 ((l_ s q an i k).foldl il p).2 an ((i+1:Nat):Int):=by
 have ay:=H.nq;obtain⟨mX,iF,li,ua⟩:=H.at aj;refine down q.length ?_ ?_
 .intro p m aw hm;obtain⟨m,rfl⟩:∃j,m=j+1:=⟨m-1,by omega⟩
  simp only[AB,Ri];rw[ee (Nat.le_refl _),cond_false,ed i _ aj (by omega)];unfold l_;rw[Nat.sub_self];rfl
 .intro k hk ih p m aw hm;obtain⟨m,rfl⟩:∃j,m=j+1:=⟨m-1,by omega⟩
  obtain⟨py,tP,Es,gk⟩:=H.at hk;simp only[AB,Ri];rw[ek hk,cond_true,dO an i mX,dO an k py];simp only[bind_some];have a6:Rg s.cz s.cj s.b9 s.cC s.cA q p.1 p.2 (i:Int) (k:Int) an[i] an[k]=
    some (s.cz,s.cj,s.b9,s.cC,s.cA,q,((mP s q i k an[i] an[k]).foldl il p).1,((mP s q i k an[i] an[k]).foldl il p).2):=
   e0 (an[i].length+1) λm2 rr=>axB H aj hk li Es ua gk 0 (by omega) p m2 (by omega) (by omega)
  have b1:=Ux (s:=s) (q:=q) i k an[k] an[i];have dn:=Bv (mP s q i k an[i] an[k]) p;have dc:an[k].length*an[i].length<=200*200:=Nat.mul_le_mul Es li;have ec:l_ s q an i k=mP s q i k an[i] an[k]++l_ s q an i (k+1):=by
   unfold l_;rw[show q.length-k=(q.length-(k+1))+1 by omega,List.range'_succ,List.flatMap_cons,iF,tP]
  rw[a6,bind_some,ed k _ hk (by omega),ec,List.foldl_append,<-ih _ m (by omega) (by omega)]
theorem axD {i:Nat} (aj:i<q.length):∀d k,k+d=q.length->(l_ s q an i k).length<=40000*d:=by
 intro d;induction d with
 |zero=>intro k hk;unfold l_;rw[show q.length-k=0 by omega];simp
 |succ d ih=>
  intro k hk;obtain⟨_,iF,li,_⟩:=H.at aj;obtain⟨_,tP,Es,_⟩:=H.at (i:=k) (by omega);have h:=ih (k+1) (by omega);have b1:=Ux (s:=s) (q:=q) i k (an.getD k []) (an.getD i []);have dc:(an.getD k []).length*(an.getD i []).length<=200*200:=Nat.mul_le_mul (by rw[tP];exact Es) (by rw[iF];exact li);unfold l_ at h⊢;rw[show q.length-k=(q.length-(k+1))+1 by omega,List.range'_succ,List.flatMap_cons,List.length_append];omega
theorem axE:∀i,i<=q.length->∀(p:aAB×Seen) m,p.1.length+120000*(q.length-i)<=10000000->q.length-i<m->
   wQ q m s q p.1 p.2 an (i:Int)=some (((two s q an i).foldl il p).1,decide (((((two s q an i).foldl il p).1).length:Int)<=200)):=by
 have ay:=H.nq;refine down q.length ?_ ?_
 .intro p m aw hm;obtain⟨m,rfl⟩:∃j,m=j+1:=⟨m-1,by omega⟩
  simp only[wQ,Rj];rw[ee (Nat.le_refl _),cond_false];unfold two;rw[Nat.sub_self];rfl
 .intro i aj ih p m aw hm;obtain⟨m,rfl⟩:∃j,m=j+1:=⟨m-1,by omega⟩
  simp only[wQ,Rj];rw[ek aj,cond_true,ed i _ aj (by omega)];have iU:lim (λn=>AB (wQ q m) q n s q p.1 p.2 an (i:Int) ((i+1:Nat):Int) (i:Int))=
    wQ q m s q ((l_ s q an i (i+1)).foldl il p).1 ((l_ s q an i (i+1)).foldl il p).2 an ((i+1:Nat):Int):=
   e0 (q.length+1) λm2 rr=>axC H _ aj (i+1) (by omega) p m2 (by omega) (by omega)
  have b1:=axD H aj (q.length-(i+1)) (i+1) (by omega);have dn:=Bv (l_ s q an i (i+1)) p;have ec:two s q an i=l_ s q an i (i+1)++two s q an (i+1):=by
   unfold two;rw[show q.length-i=(q.length-(i+1))+1 by omega,List.range'_succ,List.flatMap_cons]
  rw[iU,ih _ m (by omega) (by omega),ec,List.foldl_append]
theorem axF (ae:∀i (h:i<q.length),va s.cz q[i]=some (an.getD i [],true)):∀i,i<=q.length->∀(p:aAB×Seen) m,p.1.length+200*(q.length-i)<=1000->q.length-i<m->
   qs s q m s q p.1 p.2 (an.take i) (i:Int)=
    some (((two s q an 0).foldl il ((one s q an i).foldl il p)).1,decide (((((two s q an 0).foldl il ((one s q an i).foldl il p)).1).length:Int)<=200)):=by
 have ay:=H.nq;refine down q.length ?_ ?_
 .intro p m aw hm;obtain⟨m,rfl⟩:∃j,m=j+1:=⟨m-1,by omega⟩
  simp only[qs,G9];rw[ee (Nat.le_refl _),cond_false];have e:one s q an q.length=[]:=by unfold one;rw[Nat.sub_self];rfl
  have aT:an.take q.length=an:=by rw[<-H.mi];exact List.take_length
  rw[e,aT];exact e0 (q.length+1) λm2 rr=>axE H 0 (by omega) p m2 (by omega) (by omega)
 .intro i aj ih p m aw hm;obtain⟨m,rfl⟩:∃j,m=j+1:=⟨m-1,by omega⟩
  obtain⟨mX,iF,li,ua⟩:=H.at aj;simp only[qs,G9];rw[ek aj,cond_true,dO q i aj,bind_some,ae i aj,bind_some,iF];simp only[Bool.not_true,cond_false];rw[jN (by simp;omega) (by simp;omega),bind_some,<-List.take_succ_eq_append_getElem mX];have iU:lim (λn=>yB (qs s q m) s q (an[i],true) n s q p.1 p.2 (an.take (i+1)) (i:Int) (i:Int) 0)=
    qs s q m s q ((lk s q i an[i]).foldl il p).1 ((lk s q i an[i]).foldl il p).2 (an.take (i+1)) ((i+1:Nat):Int):=
   e0 (an[i].length+1) λm2 rr=>adQ H _ _ aj li ua 0 (by omega) p m2 (by omega) (by omega)
  have bV:=Bv (lk s q i an[i]) p;have dV:=Is (s:=s) (q:=q) i an[i];have ec:one s q an i=lk s q i an[i]++one s q an (i+1):=by
   unfold one;rw[show q.length-i=(q.length-(i+1))+1 by omega,List.range'_succ,List.flatMap_cons,iF]
  rw[iU,ih _ m (by omega) (by omega),ec,List.foldl_append]
theorem axG (ae:∀i (h:i<q.length),uS s.cz q[i]=some (an.getD i [],true)):∀i,i<=q.length->∀m,q.length-i<m->
   wH q s.cz s.cj s.b9 s.cC s.cA m (an.take i) (i:Int)=
    some ((two s q an 0).foldl iM ((one s q an 0).foldl hJ []),decide ((((two s q an 0).foldl iM ((one s q an 0).foldl hJ [])).length:Int)<=200)):=by
 have ay:=H.nq;refine down q.length ?_ ?_
 .intro m hm;obtain⟨m,rfl⟩:∃j,m=j+1:=⟨m-1,by omega⟩
  simp only[wH,GB];have aT:an.take q.length=an:=by rw[<-H.mi];exact List.take_length
  rw[ee (Nat.le_refl _),cond_false,aT];exact e0 (q.length+1) λm2 rr=>axw H 0 (by omega) [] m2 (by simp;omega) (λx aq=>by cases aq) (by omega)
 .intro i aj ih m hm;obtain⟨m,rfl⟩:∃j,m=j+1:=⟨m-1,by omega⟩
  obtain⟨mX,iF,_,_⟩:=H.at aj;simp only[wH,GB];rw[ek aj,cond_true,dO q i aj,bind_some,ae i aj,bind_some,iF];simp only[Bool.not_true,cond_false];rw[jN (by simp;omega) (by simp;omega),bind_some,<-List.take_succ_eq_append_getElem mX,ed i _ aj (by omega)];exact ih m (by omega)
end
theorem axH {s:cT} {q:aAA} (cF:q.length<=3) {an:aAo} {i0:Nat} (a7:i0<q.length) (hl:an.length=i0) (ae:∀i (h:i<q.length),i<i0->uS s.cz q[i]=some (an.getD i [],true)) (bI:∃S,uS s.cz q[i0]=some (S,false)):
  ∀i,i<=i0->∀m,i0-i<m->wH q s.cz s.cj s.b9 s.cC s.cA m (an.take i) (i:Int)=some ([],false):=by
 refine down i0 ?_ ?_
 .intro m hm;obtain⟨m,rfl⟩:∃j,m=j+1:=⟨m-1,by omega⟩
  obtain⟨S,e⟩:=bI;simp only[wH,GB];rw[ek a7,cond_true,dO q i0 a7,bind_some,e];rfl
 .intro i aj ih m hm;obtain⟨m,rfl⟩:∃j,m=j+1:=⟨m-1,by omega⟩
  simp only[wH,GB];rw[ek (show i<q.length by omega),cond_true,dO q i (by omega),bind_some,ae i (by omega) aj,bind_some];have mX:i<an.length:=by omega
  have e:an.getD i []=an[i]:=by simp[List.getD,mX]
  simp only[Bool.not_true,cond_false,e];rw[jN (by simp;omega) (by simp;omega),bind_some,<-List.take_succ_eq_append_getElem mX,ed i q.length (by omega) (by omega)];exact ih m (by omega)
theorem axI {s:cT} {q:aAA} {an:aAo} (H:sM s q an) {i0:Nat} (a7:i0<q.length) (ae:∀i (h:i<q.length),i<i0->va s.cz q[i]=some (an.getD i [],true)) (bI:∃S,va s.cz q[i0]=some (S,false)):
  ∀i,i<=i0->∀(p:aAB×Seen) m,p.1.length+200*(i0-i)<=1000->i0-i<m->qs s q m s q p.1 p.2 (an.take i) (i:Int)=some ([],false):=by
 have ay:=H.nq;refine down i0 ?_ ?_
 .intro p m aw hm;obtain⟨m,rfl⟩:∃j,m=j+1:=⟨m-1,by omega⟩
  obtain⟨S,e⟩:=bI;simp only[qs,G9];rw[ek a7,cond_true,dO q i0 a7,bind_some,e];rfl
 .intro i aj ih p m aw hm;obtain⟨m,rfl⟩:∃j,m=j+1:=⟨m-1,by omega⟩
  have It:i<q.length:=by omega
  obtain⟨mX,iF,li,ua⟩:=H.at It;simp only[qs,G9];rw[ek It,cond_true,dO q i It,bind_some,ae i It aj,bind_some,iF];simp only[Bool.not_true,cond_false];rw[jN (by simp;omega) (by simp;omega),bind_some,<-List.take_succ_eq_append_getElem mX];have iU:lim (λn=>yB (qs s q m) s q (an[i],true) n s q p.1 p.2 (an.take (i+1)) (i:Int) (i:Int) 0)=
    qs s q m s q ((lk s q i an[i]).foldl il p).1 ((lk s q i an[i]).foldl il p).2 (an.take (i+1)) ((i+1:Nat):Int):=
   e0 (an[i].length+1) λm2 rr=>adQ H _ _ It li ua 0 (by omega) p m2 (by omega) (by omega)
  have bV:=Bv (lk s q i an[i]) p;have dV:=Is (s:=s) (q:=q) i an[i];rw[iU];exact ih _ m (by omega) (by omega)
theorem axJ {s:cT} (h:vJ s) (aB:(mN s==0)=true) {q:aAA} (cF:∀p∈q,p.bP.length<=1048576) (ae:xA s q=true):
  q.length<=3/\(∀p∈q,kN p)/\∀p∈q,td s.cz p=some true:=by
 have ao:=Un aB;unfold xA at ae;rw[Bool.and_eq_true]at ae;have au:s.cj.length<=3:=by
  have au:vI s=true:=by
   cases au:vI s
   .unfold mN at aB;rw[au]at aB;revert aB;cases l9 s.cz<;>simp
   .rfl
  unfold vI at au;simp only[Bool.and_eq_true,decide_eq_true_eq]at au;exact au.1.2
 have hl:q.length=s.cj.length:=by have:=ae.1;rw[beq_iff_eq]at this;omega
 have aw:∀p∈q,td s.cz p=some true:=by
  intro p aw;obtain⟨k,hk,rfl⟩:=List.mem_iff_getElem.1 aw;have h1:=pk.1 ae.2 k hk;have e:tZ q k=q[k]:=by simp[tZ,List.getD,hk]
  rw[e]at h1;rw[(Uo _ h.1 ao _ (cF _ aw)).1,h1]
 refine⟨by omega,λp Iu=>?_,aw⟩;obtain⟨i,aj,j,aK,aT,bE,mQ,iU⟩:=adl h.1 ao (cF p Iu) (aw p Iu);have awI:s.cz[i].Body.length<=20:=(Bh ((Eg h.1 ao).2.2 i aj).2.1).2.2;have a_:s.cz.length<=4:=(Eg h.1 ao).2.1;have P:=(TX h.1 ao aj bE).acW;exact⟨⟨i,by omega,aK⟩,⟨j,by omega,aT⟩,by omega,iU⟩
theorem adS {β:Type} (f:Nat->List β) (B:Nat):∀l:aAf,(∀i∈l,(f i).length<=B)->(l.flatMap f).length<=l.length*B
 |[],_=>by simp
 |i::l,h=>by
  have h1:=adS f B l λj bE=>h j (by simp[bE]);have af:=h i (by simp);rw[List.flatMap_cons,List.length_append,List.length_cons,succ_mul];omega
theorem axK {s:cT} {q:aAA} {an:aAo} (H:sM s q an):(one s q an 0).length<=600:=by
 have ay:=H.nq;have:=adS (λi=>lk s q i (an.getD i [])) 200 (List.range' 0 (q.length-0)) λi aj=>by
  have aj:i<q.length:=by
   have:=List.mem_range'.1 aj;obtain⟨k,hk,e⟩:=this;omega
  obtain⟨_,e,l,_⟩:=H.at aj;have:=Is (s:=s) (q:=q) i (an.getD i []);rw[e]at this⊢;omega
 rw[List.length_range']at this;unfold one;omega
theorem axL {s:cT} (h:vJ s) (aB:(mN s==0)=true) {q:aAA} (cF:∀p∈q,p.bP.length<=1048576) (ae:xA s q=true):
  ∃(lP S:aAB) (b:Bool),K4 s q=some (lP,b)/\GC s.cz s.cj s.b9 s.cC s.cA q=some (S,b)/\(b=true->S=lP/\lP.length<=200/\∀m∈lP,jm q.length m)/\S.length<=1000:=by
 obtain⟨ay,hg,aw⟩:=axJ h aB cF ae;have ao:=Un aB;have axM:=λp (Iu:p∈q)=>awH h.1 ao (cF p Iu) (aw p Iu);have key:∀l:aAA,(∀p∈l,p∈q)->(∃an:aAo,an.length=l.length/\(∀x∈an,x.length<=200/\∀y∈x,fF y)/\∀i (aj:i<l.length),va s.cz l[i]=some (an.getD i [],true)/\uS s.cz l[i]=some (an.getD i [],true))\/
   ∃(i0:Nat) (Iv:i0<l.length) (an:aAo),an.length=i0/\(∀x∈an,x.length<=200/\∀y∈x,fF y)/\(∀i (aj:i<l.length),i<i0->va s.cz l[i]=some (an.getD i [],true)/\uS s.cz l[i]=some (an.getD i [],true))/\
    (∃S,va s.cz l[i0]=some (S,false))/\∃S,uS s.cz l[i0]=some (S,false):=by
  intro l;induction l with
  |nil=>intro _;exact .inl ⟨[],rfl,λx aq=>(by cases aq),λi aj=>absurd aj (not_lt_zero i)⟩
  |cons p l ih=>
   intro hl;obtain⟨lP,S,b,J,a2,a3⟩:=axM p (hl p (by simp));cases b
   .exact .inr ⟨0,by simp,[],rfl,λx aq=>(by cases aq),λi _ aj=>absurd aj (not_lt_zero i),⟨lP,J⟩,⟨S,a2⟩⟩
   .obtain⟨rfl,a4,a5⟩:=a3 rfl;rcases ih λx aq=>hl x (List.mem_cons_of_mem _ aq)with⟨an,ha,fI,fV⟩|⟨i0,Iv,an,ha,fI,fV,bZ,c7⟩
    .refine .inl ⟨S::an,by simp[ha],λx aq=>?_,λi aj=>?_⟩
     .rcases List.mem_cons.1 aq with rfl|aq
      .exact⟨a4,a5⟩
      .exact fI x aq
     .cases i with
      |zero=>exact⟨J,a2⟩
      |succ i=>simpa using fV i (by simpa using aj)
    .refine .inr ⟨i0+1,by simpa using Iv,S::an,by simp[ha],λx aq=>?_,λi aj eA=>?_,by simpa using bZ,by simpa using c7⟩
     .rcases List.mem_cons.1 aq with rfl|aq
      .exact⟨a4,a5⟩
      .exact fI x aq
     .cases i with
      |zero=>exact⟨J,a2⟩
      |succ i=>simpa using fV i (by simpa using aj) (by omega)
 rcases key q λ_ h=>h with⟨an,ha,fI,fV⟩|⟨i0,Iv,an,ha,fI,fV,bZ,c7⟩
 .have H:sM s q an:=⟨aB,⟨h.2.2.1.1,h.2.2.2.1.1,h.2.2.2.2.1⟩,ay,hg,ha,fI⟩
  have En:K4 s q=some (((two s q an 0).foldl il ((one s q an 0).foldl il ([],[]))).1,decide (((((two s q an 0).foldl il ((one s q an 0).foldl il ([],[]))).1).length:Int)<=200)):=
   e0 (q.length+1) λm hm=>axF H (λi aj=>(fV i aj).1) 0 (by omega) ([],[]) m (by simp;omega) (by omega)
  have cc:GC s.cz s.cj s.b9 s.cC s.cA q=some ((two s q an 0).foldl iM ((one s q an 0).foldl hJ []),decide ((((two s q an 0).foldl iM ((one s q an 0).foldl hJ [])).length:Int)<=200)):=
   e0 (q.length+1) λm hm=>axG H (λi aj=>(fV i aj).2) 0 (by omega) m (by omega)
  have nu:∀x∈one s q an 0++two s q an 0,jm q.length x:=λx aq=>(List.mem_append.1 aq).elim (H.gone x) (H.Uv x);have aK:((two s q an 0).foldl il ((one s q an 0).foldl il ([],[]))).1=(two s q an 0).foldl hJ ((one s q an 0).foldl hJ []):=by
   rw[<-List.foldl_append,<-List.foldl_append];exact Ui (G:=jm q.length) awW _ [] [] nu (λx aq=>by cases aq) (λx _=>by simp[kc])
  rw[aK]at En;have zb:∀x∈(two s q an 0).foldl hJ ((one s q an 0).foldl hJ []),jm q.length x:=Ir _ _ (Ir _ _ (λx aq=>by cases aq) H.gone) H.Uv;obtain⟨c1,c2⟩:=adt (two s q an 0) ((one s q an 0).foldl hJ []);generalize (two s q an 0).foldl hJ ((one s q an 0).foldl hJ [])=lP at En c1 c2 zb;by_cases hl:lP.length<=200
  .rw[c1 hl]at cc;exact⟨lP,lP,_,En,cc,λ_=>⟨rfl,hl,zb⟩,by omega⟩
  .have:=c2 (by omega);have fq:((two s q an 0).foldl iM ((one s q an 0).foldl hJ [])).length<=1000:=by
    have nB:=axK H;have k7:=(Mx (one s q an 0) []).2;rw[List.length_nil]at k7;exact(Iq _ _ (by omega) (Ir _ _ (λx aq=>by cases aq) H.gone) H.Uv).1
   generalize (two s q an 0).foldl iM ((one s q an 0).foldl hJ [])=eL at cc this fq;refine⟨lP,eL,false,?_,?_,(λh=>by cases h),fq⟩
   .rw[En,show decide ((lP.length:Int)<=200)=false from decide_eq_false (by omega)]
   .rw[cc,show decide ((eL.length:Int)<=200)=false from decide_eq_false (by omega)]
 .let Iw:=an++List.replicate (q.length-i0) ([]:aAC)
  have hlen:Iw.length=q.length:=by simp[Iw,ha];omega
  have rQ:∀i,i<i0->Iw.getD i []=an.getD i []:=λi aj=>by
   simp only[Iw,List.getD];rw[List.getElem?_append_left (by omega)]
  have H:sM s q Iw:=⟨aB,⟨h.2.2.1.1,h.2.2.2.1.1,h.2.2.2.2.1⟩,ay,hg,hlen,λx aq=>by
   rcases List.mem_append.1 aq with aq|aq
   .exact fI x aq
   .rw[(List.mem_replicate.1 aq).2];exact⟨by simp,λy hy=>by cases hy⟩⟩
  refine⟨[],[],false,?_,?_,(λh=>by cases h),by simp⟩
  .exact e0 (q.length+1) λm hm=>axI H Iv (λi aj eA=>by rw[rQ i eA];exact(fV i aj eA).1) bZ 0 (by omega) ([],[]) m (by simp;omega) (by omega)
  .exact e0 (q.length+1) λm hm=>axH ay Iv ha (λi aj eA=>(fV i aj eA).2) c7 0 (by omega) m (by omega)
theorem axN (s:cT) (h:vJ s) (q:aAA) (cF:q.length<=1048576) (aB:∀p∈q,p.bP.length<=1048576):
  ∃b,Ka s q=some (cond b 0 1)/\KP s q=some b/\(b=true->(mN s==0)=true/\xA s q=true):=by
 unfold Ka KP;rw[axc _ h,axd _ h];simp only[bind_some];cases bI:(mN s==0)
 .exact⟨false,rfl,rfl,λh=>by cases h⟩
 .have ao:=Un bI;rw[axe s h.1 ao q cF aB,axf s h.1 ao q cF aB];refine⟨xA s q,?_,?_,λh=>⟨rfl,h⟩⟩
  .simp only[Bool.not_true,cond_false,bind_some];cases xA s q<;>rfl
  .unfold xA;simp only[bind_some,cond_true,Bool.not_not];cases((q.length:Int)==(s.cj.length:Int))<;>rfl
def xG (l:aAb):aAb:=if ku∈l then ku::qC l else qC l
theorem MD (l:aAb) (x:aAc):x∈qC l↔x∈l/\x≠ku:=by
 unfold qC;rw[L_,List.mem_filter];simp[tM]
theorem adT (l:aAb):nN AJ (qC l):=by
 have h1:nN ik (qC l):=L9 rn _ _ List.Pairwise.nil;unfold nN at h1⊢;refine List.Pairwise.imp_of_mem (λ{a b} bs ab h=>?_) h1;have af:=((MD l b).1 ab).2;refine(y2 a b).2 ⟨λe=>?_,.inr ⟨af,h⟩⟩;subst e;rw[rn.tz]at h;cases h
theorem axO (l:aAb):nS none (l.mergeSort λx y=> !(decide (ob y x<0)))=xG l:=by
 rw[atU yK (le:=λx y=> !(decide (ob y x<0))) (λa b=>rfl) l];refine L6 yK (L9 yK _ _ List.Pairwise.nil) ?_ λx=>?_
 .unfold xG;split
  .refine List.pairwise_cons.2 ⟨λb ab=>?_,adT l⟩;exact(y2 _ _).2 ⟨Ne.symm ((MD l b).1 ab).2,.inl rfl⟩
  .exact adT l
 .rw[L_];unfold xG;split
  .rename_i a6;rw[List.mem_cons,MD];constructor
   .rintro(h|h)
    .cases h
    .by_cases e:x=ku
     .exact .inl e
     .exact .inr ⟨h,e⟩
   .rintro(rfl|⟨h,_⟩)
    .exact .inr a6
    .exact .inr h
  .rename_i a6;rw[MD];constructor
   .rintro(h|h)
    .cases h
    .exact⟨h,λe=>a6 (e▸h)⟩
   .rintro⟨h,_⟩;exact .inr h
theorem adU (s:cT) (S:aAB) (b:Bool) (hl:S.length<=1048576) (q:aAA) (hm:GC s.cz s.cj s.b9 s.cC s.cA q=some (S,b)):
  Kr s.cz s.cj s.b9 s.cC s.cA q=some (S.map (·.Label),S.map (·.State),b):=by
 unfold Kr;rw[hm,bind_some];have key:∀i,i<=S.length->∀m,S.length-i<m->∀(v:aAb) (u:aAn),v.length=i->u.length=i->
   CU s.cz s.cj s.b9 s.cC s.cA (S,b) m v u (i:Int)=some (v++(S.drop i).map (·.Label),u++(S.drop i).map (·.State),b):=by
  refine down S.length ?_ ?_
  .intro m hm v u aB hu;obtain⟨m,rfl⟩:∃j,m=j+1:=⟨m-1,by omega⟩
   simp only[CU,Qa];rw[ee (Nat.le_refl _),List.drop_length];simp
  .intro i aj ih m hm v u aB hu;obtain⟨m,rfl⟩:∃j,m=j+1:=⟨m-1,by omega⟩
   simp only[CU,Qa];rw[ek aj,cond_true,dO S i aj,bind_some,jN (by omega) (by omega),bind_some,jN (by omega) (by omega),bind_some,ed i _ aj (by omega),ih m (by omega) _ _ (by simp[aB]) (by simp[hu]),drop_cons S i aj];simp only[List.map_cons,List.append_assoc,List.singleton_append]
 exact e0 (S.length+1) λm hm=>key 0 (by omega) m (by omega) [] [] rfl rfl
theorem axP (aa:aAB×Int) (hl:aa.1.length<=1048576):lim (λn=>AD aa n (List.map (λx=>(false,x)) aa.1) [] 0)=some (xG (aa.1.map (·.Label)),0):=by
 have key:∀i,i<=aa.1.length->∀m,aa.1.length-i<m->∀(w:List (Bool×bm)) (v:aAb),w.length=aa.1.length->w.drop i=(aa.1.drop i).map (λx=>(false,x))->v.length=i->
   AD aa m w v (i:Int)=some (xG (v++(aa.1.drop i).map (·.Label)),0):=by
  refine down aa.1.length ?_ ?_
  .intro m hm w v hw ao aB;obtain⟨m,rfl⟩:∃j,m=j+1:=⟨m-1,by omega⟩
   simp only[AD,Rl];rw[ee (Nat.le_refl _),List.drop_length];simp only[cond_false,List.map_nil,List.append_nil,G_,K5];rw[if_pos (by omega),bind_some,bind_some,axO]
  .intro i aj ih m hm w v hw ao aB;obtain⟨m,rfl⟩:∃j,m=j+1:=⟨m-1,by omega⟩
   have Uy:i<w.length:=by omega
   have axQ:w[i]=(false,aa.1[i]):=by
    rw[drop_cons w i Uy,drop_cons aa.1 i aj,List.map_cons]at ao;exact(List.cons.inj ao).1
   have axR:(List.set w i (true,aa.1[i])).drop (i+1)=(aa.1.drop (i+1)).map (λx=>(false,x)):=by
    rw[List.drop_set_of_lt (by omega)];rw[drop_cons w i Uy,drop_cons aa.1 i aj,List.map_cons]at ao;exact(List.cons.inj ao).2
   simp only[AD,Rl];rw[ek aj,cond_true,dO w i Uy,bind_some,axQ,show ME (!(false,aa.1[i]).1)=some ()from rfl,bind_some,jN (by omega) (by omega),bind_some,ed i _ aj (by omega),Int.toNat_natCast];rw[ih m (by omega) _ _ (by simp[hw]) axR (by simp[aB]),drop_cons aa.1 i aj];simp only[List.map_cons,List.append_assoc,List.singleton_append]
 exact e0 (aa.1.length+1) λm hm=>key 0 (by omega) m (by omega) _ [] (by simp) (by simp) rfl
theorem axS (l:aAb):(ku∈l->¬sw (λy=>y==[116,97,117]) 0 l<0)/\(ku∉l->sw (λy=>y==[116,97,117]) 0 l<0):=by
 have h:=Tt (λy:List UInt8=>y==[116,97,117]) l 0;constructor
 .intro hm;have:l.any (λy=>y==[116,97,117])=true:=List.any_eq_true.2 ⟨ku,hm,by rfl⟩;rw[this,decide_eq_true_eq]at h;omega
 .intro hm;have:l.any (λy=>y==[116,97,117])=false:=by
   rw[Bool.eq_false_iff];intro e;obtain⟨y,hy,e⟩:=List.any_eq_true.1 e;have e:y=ku:=eq_of_beq (show(y==ku)=true from e);exact hm (e▸hy)
  rw[this,decide_eq_false_iff_not]at h;omega
theorem adV {α:Type} {f:α->Nat} {B:Nat}:∀l:List α,(∀x∈l,f x<=B)->gn f l<=l.length*B
 |[],_=>by simp[gn]
 |x::l,h=>by
  have h1:=adV l λy hy=>h y (by simp[hy]);have af:=h x (by simp);simp only[gn,List.length_cons,succ_mul];omega
theorem axT (s:cT) (h:vJ s) (q:aAA) (cF:q.length<=1048576) (aB:∀p∈q,p.bP.length<=1048576):
  ∃r:aAb×Int,Kt s q=some r/\Ha s q=some r/\dm List.length r.1<=1048576:=by
 have z:dm List.length ([]:aAb)<=1048576:=by simp[dm,gn]
 obtain⟨b,ha,fI,fV⟩:=axN s h q cF aB;unfold Kt Ha Rk;rw[ha,fI];cases b
 .exact⟨([],1),rfl,rfl,z⟩
 .obtain⟨c1,c2⟩:=fV rfl;obtain⟨lP,S,b,m1,m2,m3,m4⟩:=axL h c1 aB c2;simp only[bind_some,Bool.not_true,cond_false,cond_true,bne_self_eq_false];cases b
  .rw[m1,adU s S false (by omega) q m2];exact⟨([],5),rfl,rfl,z⟩
  .obtain⟨rfl,hl,hg⟩:=m3 rfl;rw[m1,adU s S true (by omega) q m2];simp only[bind_some,Bool.not_true,cond_false,bne_self_eq_false];have aT:=axP (S,0) (show S.length<=1048576 by omega);simp only at aT;rw[aT];have mW:(S.map (·.Label)).length<=200:=by rw[List.length_map];exact hl
   rw[atY _ (by omega),bind_some,abH _ _ (by omega),bind_some];have eX:dm List.length (S.map (·.Label))<=500000:=by
    have:=adV (f:=List.length) (B:=1000) (S.map (·.Label)) λx aq=>by
     obtain⟨m,hm,rfl⟩:=List.mem_map.1 aq;have:=(hg m hm).y9.1;omega
    unfold dm;omega
   have NW:=at1 (S.map (·.Label));refine⟨(xG (S.map (·.Label)),0),?_,rfl,?_⟩
   .have axU:qB ik [] ((S.map (·.Label)).filter tM)=qC (S.map (·.Label)):=rfl;rw[axU];have adW:=axS (S.map (·.Label));unfold xG;have vV:(qC (S.map (·.Label))).length<=1000000:=by
     have:=jM List.length (qC (S.map (·.Label)));omega
    by_cases a6:ku∈S.map (·.Label)
    .rw[if_pos a6];rw[show decide (sw (λy=>y==[116,97,117]) 0 (S.map (·.Label))<0)=false from by rw[decide_eq_false_iff_not];exact adW.1 a6];rw[cond_false];unfold GF;rw[jN (by simp only[List.length_cons];omega) (by simp only[List.length_cons];omega)];rfl
    .rw[if_neg a6];rw[show decide (sw (λy=>y==[116,97,117]) 0 (S.map (·.Label))<0)=true from by rw[decide_eq_true_eq];exact adW.2 a6];rw[cond_true,at2,bind_some];unfold GF;rw[jN (by omega) (by omega)];rfl
   .show dm List.length (xG (S.map (·.Label)))<=_;unfold xG;split
    .unfold dm at NW eX⊢;simp only[gn,List.length_cons];have:ku.length=3:=rfl;omega
    .omega
theorem atC (a:o9) (q:aAu) (bs:FV a) (cF:q.length<=9223372036854775807/\∀y∈q,Ce y):RF a q=some true:=by
 unfold RF;obtain⟨r,h1,af⟩:=axb a bs;rw[h1];simp only[bind_some];cases aR:decide (r<0)
 .obtain⟨ay,a_,b1,dn,dc⟩:=af aR;rw[avc q r cF dc (by omega)];simp only[cond_false,bind_some];by_cases ae:((dm rp q:Nat):Int)<=r
  .rw[H6 ae];have eA:decide (r-((dm rp q:Nat):Int)<0)=false:=decide_eq_false (by omega);have uB:dm rp q<=1048576:=by omega
   have FL:dm ns (q.map vE)<=1048576:=by
    rw[A6];simp only[avt];exact uB
   have hl:(q.map vE).length<=1048576:=Nat.le_trans (jM ns _) FL;have aB:∀p∈q.map vE,p.bP.length<=1048576:=λp aw=>by
    have gH:ns p<=dm ns (q.map vE):=nk aw;have iq:ns p<=1048576:=by omega
    clear gH;unfold ns at iq;omega
   have b3:tU (vD a)<=1048576:=by rw[acI];omega
   rw[eA,ay,avv q uB];simp only[cond_false,bind_some];generalize vD a=e at a_ b1 b3⊢;generalize q.map vE=d at FL hl aB⊢;obtain⟨z,q0,z2,z3⟩:=axT e b1 d hl aB;obtain⟨gf,fs,hn,mZ,tJ,c,c1,m1⟩:=avQ e 1 (by omega) (by omega);obtain⟨di,c2,c3,m2⟩:=avS d (1+(c:Int)) (by omega) (by omega);obtain⟨ox,bN,d1,m3,m4⟩:=TM z.1 1 (by omega) (by omega);simp only[q0,z2,bind_some,TL z.1 z3,avJ d FL,a_,m1,m2,m3,m4,Bool.not_true,bne_self_eq_false,Bool.or_self,cond_false,abz (k:=1+(c:Int)+(c2:Int)) (by omega),abz (k:=1+(bN:Int)) (by omega)]
  .rw[H7 (by omega)];rfl
 .rfl
end Go.pO
