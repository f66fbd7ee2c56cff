/- Part of a proof that a law returns true for every input. No condition. -/
import Derived.Test.YtcmimclaknmnbaaGreatDoorUV3x
import Derived.Test.YtcmimclaknmnbaaGreatDoorUV2x
namespace Go.lT
open Go.IntKind Nat Or
open Go Go.cC
def sl (n:anR) (a:anT):anR:=if a.length=0 then n else((n++[40])++tw a)++[41]
theorem Vl {α:Type} {L:Nat->anT->Int->Option anT} (a:List α) (f:α->Int) (ba:∀m v,L (m+1) v (a.length:Int)=some v)
  (U:∀i (h:i<a.length) m v,v.length=i->L (m+1) v (i:Int)=L m (v++[f a[i]]) ((i+1:Nat):Int)):lim (λm=>L m [] 0)=some (a.map f):=by
 have key:∀i,i<=a.length->∀(v:anT) m,v.length=i->a.length-i<m->L m v (i:Int)=some (v++(a.drop i).map f):=by
  refine down a.length ?_ ?_
  .intro v m aD hm;obtain⟨m,rfl⟩:∃j,m=j+1:=⟨m-1,by omega⟩
   rw[ba,List.drop_of_length_le (Nat.le_refl _),List.map_nil,List.append_nil]
  .intro i ak ih v m aD hm;obtain⟨m,rfl⟩:∃j,m=j+1:=⟨m-1,by omega⟩
   rw[U i ak m v aD,ih (v++[f a[i]]) m (by simp[aD]) (by omega),drop_cons a i ak,List.map_cons,List.append_assoc];rfl
 refine eU (a.length+1) λm hm=>?_;have:=key 0 (by omega) [] m rfl (by omega)
 rwa [List.drop_zero,List.nil_append]at this
theorem u4 {n:Nat} (h:n<=1099511627776):iO n=some ():=by unfold iO;rw[if_pos (by omega)]
theorem Ms (a:anT):((a.length:Int)==0)=decide (a.length=0):=by
 by_cases h:a.length=0
 .rw[h];rfl
 .rw[decide_eq_false h];simp;exact λab=>h (by rw[ab];rfl)
theorem ak8 (n:anR) (a:anT) (aN:n.length<=10) (hl:a.length<=64) (aD:∀x∈a,gQ x):BA n a=some (sl n a):=by
 unfold BA sl;rw[Ms];by_cases h:a.length=0
 .rw[decide_eq_true h,if_pos h];rfl
 .have h1:=Mh a;rw[decide_eq_false h,if_neg h,cond_false,u4 (by omega),akR a hl aD];simp only[Option.bind_some];rw[u4 (by simp only[List.length_append,List.length_cons,List.length_nil];omega),u4 (by simp only[List.length_append,List.length_cons,List.length_nil];omega)];rfl
theorem ak9 (s:anT) (h:s.length<=1048576):uw s=some (s.all λn=>ho n 0 63):=by
 unfold uw BI BH;rw[Gb (f:=BF) s (λn=> !ho n 0 63) (λm i=>by simp only[uv,BG]) (λn _=>rfl) (by omega)];simp only[Option.bind_some,CJ,Gc,Bool.not_not]
theorem ak_ (n:anR) (a:anT) (aN:me n=true) (hl:a.length<=2) (aL:n=q6->a.length=0) (aD:∀x∈a,gQ x):
  ∃b,wH n a=some (sl n a,b):=by
 have Mt:n.length<=10:=by simp only[me,Bool.and_eq_true,decide_eq_true_eq]at aN;exact aN.1
 unfold wH;cases hk:n==([116,97,117]:anR)
 .have ae:(a.all λn=>ho n 0 63)=true:=by
   rw[List.all_eq_true];intro x ag;have:=aD x ag;simp only[ho,Bool.and_eq_true,decide_eq_true_eq];exact this
  have bg:tv n=true:=by
   simp only[tv,aN,Bool.true_and,q6,hk,Bool.not_false]
  refine⟨true,?_⟩;rw[cond_false,UZ n (by omega),bg];simp only[Option.bind_some,Bool.not_true,cond_false];rw[show decide (2<(a.length:Int))=false from decide_eq_false (by omega),cond_false,ak9 a (by omega),ae];simp only[Option.bind_some,Bool.not_true,cond_false];rw[Ms];unfold sl;by_cases h:a.length=0
  .rw[decide_eq_true h,if_pos h];rfl
  .have h1:=Mh a;have ala:yP a [44]=some (tw a):=by
    unfold tw;rw[if_neg (λe=>h (by rw[e];rfl)),L7 a (by omega) aD]
   rw[decide_eq_false h,if_neg h,cond_false,u4 (by omega),ala];simp only[Option.bind_some];rw[u4 (by simp only[List.length_append,List.length_cons,List.length_nil];omega),u4 (by simp only[List.length_append,List.length_cons,List.length_nil];omega)];rfl
 .have ba:=aL (eq_of_beq hk);refine⟨true,?_⟩;rw[cond_true];unfold sl;rw[if_pos ba,eq_of_beq hk,Ms,decide_eq_true ba]
theorem Vm (a:anT) (h:a.length<=1048576):Bx a=some a:=by
 unfold Bx;rw[lC (by omega) (by omega)];rfl
theorem Vn (n:Nat) (aN:n<100):∀c∈mM n,48<=c.toNat/\c.toNat<=57:=by
 intro c ai;unfold mM at ai;have key:∀d,d<10->48<=(UInt8.ofNat (48+d)).toNat/\(UInt8.ofNat (48+d)).toNat<=57:=by
  intro d ae;rw[UInt8.toNat_ofNat',mod_eq_of_lt (by omega)];omega
 split at ai
 .rw[List.mem_singleton]at ai;subst ai;exact key n (by omega)
 .rw[List.mem_cons,List.mem_singleton]at ai;rcases ai with rfl|rfl
  .exact key _ (by omega)
  .exact key _ (by omega)
theorem Vo (p:UInt8->Prop) (Vp:p 44):∀l:anQ,(∀x∈l,∀c∈x,p c)->∀c∈gV l [44],p c
 |[],_,c,ai=>by simp[gV,List.intercalate,List.intersperse]at ai
 |[x],h,c,ai=>by rw[join_one]at ai;exact h x (by simp) c ai
 |x::y::r,h,c,ai=>by
  rw[join_cons,List.mem_append,List.mem_append,List.mem_singleton]at ai;rcases ai with ai|rfl|ai
  .exact h x (by simp) c ai
  .exact Vp
  .exact Vo p Vp (y::r) (λz bC=>h z (List.mem_cons_of_mem _ bC)) c ai
theorem alb (a:anT) (aD:∀x∈a,gQ x):∀c∈tw a,44<=c.toNat/\c.toNat<=57:=by
 intro c ai;unfold tw at ai;split at ai
 .rw[List.mem_singleton]at ai;subst ai;decide
 .refine Vo (λc=>44<=c.toNat/\c.toNat<=57) (by decide) _ (λx ag d ae=>?_) c ai;obtain⟨y,hy,rfl⟩:=List.mem_map.1 ag;have h1:=aD y hy;unfold gQ at h1;have:=Vn y.toNat (by omega) d ae;omega
theorem Vq {n:anR} (h:me n=true):∀c∈n,48<=c.toNat:=by
 intro c ai;simp only[me,Bool.and_eq_true]at h;have ab:=h.2;cases n with
 |nil=>cases ab
 |cons x r=>
  simp only[Bool.and_eq_true,List.all_eq_true,small,digit,Bool.or_eq_true,decide_eq_true_eq]at ab;rcases List.mem_cons.1 ai with rfl|ai
  .omega
  .have:=ab.2 c ai;omega
theorem alc {n:anR} {a:anT} (aN:me n=true) (hl:a.length<=64) (aD:∀x∈a,gQ x):(sl n a).length<=400/\(32:UInt8)∉sl n a:=by
 have Mt:n.length<=10:=by simp only[me,Bool.and_eq_true,decide_eq_true_eq]at aN;exact aN.1
 have h1:=Mh a;unfold sl;split
 .refine⟨by omega,λhm=>?_⟩;have:=Vq aN _ hm;revert this;decide
 .refine⟨by simp only[List.length_append,List.length_cons,List.length_nil];omega,λhm=>?_⟩;rw[List.mem_append,List.mem_append,List.mem_append,List.mem_singleton,List.mem_singleton]at hm;rcases hm with((hm|hm)|hm)|hm
  .have:=Vq aN _ hm;revert this;decide
  .revert hm;decide
  .have:=(alb a aD _ hm).1;revert this;decide
  .revert hm;decide
theorem Mu (a b:anT) (h:a.length<=1048576):BB a b=some (a==b):=by
 unfold BB;by_cases hl:a.length=b.length
 .have e:((a.length:Int) !=(b.length:Int))=false:=by simp[hl]
  rw[e,cond_false];have:=uT (n:=a.length) (l:=yz a b) (λi=>some (a.drop i==b.drop i)) (λm=>?_) (λi ak m ih=>?_)
  .simpa using this
  .simp only[yz,Jt];rw[eT (Nat.le_refl _),List.drop_of_length_le (Nat.le_refl _),List.drop_of_length_le (by omega)];rfl
  .simp only[yz,Jt];rw[fq ak,eu _ i ak,eu _ i (by omega),fV i _ ak (by omega),drop_cons a i ak,drop_cons b i (by omega),List.cons_beq_cons];simp only[cond_true,Option.bind_some,ih,bne];cases a[i]==b[i]
   .rfl
   .simp
 .have e:((a.length:Int) !=(b.length:Int))=true:=by simp;omega
  have aM:(a==b)=false:=by
   rw[beq_eq_false_iff_ne];intro h;exact hl (by rw[h])
  rw[e,cond_true,aM]
theorem Vr (k da:anR) (b:Bool):∀m,kE k (kF da b m)=if da=k then b else kE k m
 |[]=>by simp[kF,kE]
 |e::m=>by
  simp only[kF];by_cases h:e.1=da
  .rw[if_pos h];simp only[kE];by_cases ab:da=k
   .rw[if_pos ab,if_pos ab]
   .rw[if_neg ab,if_neg ab,if_neg (by rw[h];exact ab)]
  .rw[if_neg h];simp only[kE];by_cases ab:e.1=k
   .rw[if_pos ab,if_pos ab,if_neg (by intro ay;exact h (ab.trans ay.symm))]
   .rw[if_neg ab,if_neg ab,Vr k da b m]
theorem Mv {c:UInt8}:∀{x y u v:anR},c∉x->c∉y->x++c::u=y++c::v->x=y/\u=v
 |[],[],u,v,_,_,h=>⟨rfl,(List.cons.inj h).2⟩
 |[],y::ys,u,v,_,ab,h=>(ab (by rw[List.nil_append,List.cons_append]at h;rw[(List.cons.inj h).1];simp)).elim
 |x::xs,[],u,v,h1,_,h=>(h1 (by rw[List.nil_append,List.cons_append]at h;rw[<-(List.cons.inj h).1];simp)).elim
 |x::xs,y::ys,u,v,h1,ab,h=>by
  rw[List.cons_append,List.cons_append]at h;obtain⟨aI,aM⟩:=List.cons.inj h;obtain⟨aP,bK⟩:=Mv (λhm=>h1 (List.mem_cons_of_mem _ hm)) (λhm=>ab (List.mem_cons_of_mem _ hm)) aM;exact⟨by rw[aI,aP],bK⟩
theorem ald {m n:Nat} (hm:m<100) (aN:n<100) (h:mM m=mM n):m=n:=by
 have d:∀a b:Fin 10,UInt8.ofNat (48+a)=UInt8.ofNat (48+b)->a=b:=by decide
 have d2:∀a b:Nat,a<10->b<10->UInt8.ofNat (48+a)=UInt8.ofNat (48+b)->a=b:=λa b bg R e=>congrArg Fin.val (d ⟨a,bg⟩ ⟨b,R⟩ e);unfold mM at h;split at h<;>split at h
 .exact d2 _ _ (by omega) (by omega) (List.cons.inj h).1
 .cases(List.cons.inj h).2
 .cases(List.cons.inj h).2
 .have h1:=d2 _ _ (by omega) (by omega) (List.cons.inj h).1;have ab:=d2 _ _ (by omega) (by omega) (List.cons.inj (List.cons.inj h).2).1;omega
theorem Vs:∀{a b:anQ},(∀x∈a,(44:UInt8)∉x)->(∀x∈b,(44:UInt8)∉x)->a≠[]->b≠[]->gV a [44]=gV b [44]->a=b
 |[],_,_,_,h,_,_=>(h rfl).elim
 |_::_,[],_,_,_,h,_=>(h rfl).elim
 |[x],[y],_,_,_,_,h=>by rw[join_one,join_one]at h;rw[h]
 |[x],y::z::r,bg,_,_,_,h=>by
  rw[join_one,join_cons]at h;exact(bg x (by simp) (by rw[h];simp)).elim
 |x::z::r,[y],_,R,_,_,h=>by
  rw[join_one,join_cons]at h;exact(R y (by simp) (by rw[<-h];simp)).elim
 |x::aw::r,y::iW::q,bg,R,_,_,h=>by
  rw[join_cons,join_cons]at h;obtain⟨aI,aM⟩:=Mv (bg x (by simp)) (R y (by simp)) (by simpa using h);rw[aI,Vs (a:=aw::r) (b:=iW::q) (λz bC=>bg z (List.mem_cons_of_mem _ bC)) (λz bC=>R z (List.mem_cons_of_mem _ bC)) (by simp) (by simp) aM]
theorem val_inj {a b:anT} (bg:∀x∈a,gQ x) (R:∀x∈b,gQ x) (h:a.map lD=b.map lD):a=b:=by
 induction a generalizing b with
 |nil=>cases b with
  |nil=>rfl
  |cons y r=>cases h
 |cons x r ih=>cases b with
  |nil=>cases h
  |cons y q=>
   rw[List.map_cons,List.map_cons]at h;obtain⟨aI,aM⟩:=List.cons.inj h;have ag:=bg x (by simp);have hy:=R y (by simp);unfold gQ at ag hy;have:=ald (m:=x.toNat) (n:=y.toNat) (by omega) (by omega) aI;rw[ih (λz bC=>bg z (List.mem_cons_of_mem _ bC)) (λz bC=>R z (List.mem_cons_of_mem _ bC)) aM,show x=y by omega]
theorem Vt {a:anT} (bg:∀x∈a,gQ x):∀x∈a.map lD,(44:UInt8)∉x:=by
 intro x ag hm;obtain⟨y,hy,rfl⟩:=List.mem_map.1 ag;have h1:=bg y hy;unfold gQ at h1;have:=(Vn y.toNat (by omega) _ hm).1;revert this;decide
theorem ale (n:Int) (ba:0<=n) (h:n<=1099511627776):E7 n=some []:=by
 unfold E7 J4 E6;have fA:i64.wrap 0=0:=dQ 0 (by omega);have aI:i64.wrap (n-0)=n:=by rw[dQ (n-0) (by omega)];omega
 have d:decide (n<0)=false:=by simp only[decide_eq_false_iff_not];omega
 rw[d,fA,aI,show kg 8 n=some () by unfold kg;rw[if_pos ⟨by omega,by omega,by omega⟩]];cases decide (0<n)<;>rfl
theorem alf (ls:List anT) (h:ls.length<=1048576) (U:np ls<=1099511627776):BO ls=some ls.flatten:=by
 have wA:lim (λn=>wK ls n [] 0)=some ls.flatten:=by
  have key:∀i,i<=ls.length->∀(v:anT) m,v.length+np (ls.drop i)<=1099511627776->ls.length-i<m->wK ls m v (i:Int)=some (v++(ls.drop i).flatten):=by
   refine down ls.length ?_ ?_
   .intro v m _ hm;obtain⟨m,rfl⟩:∃j,m=j+1:=⟨m-1,by omega⟩
    simp only[wK,J6];rw[eT (Nat.le_refl _),List.drop_of_length_le (Nat.le_refl _)];simp
   .intro i ak ih v m aD hm;obtain⟨m,rfl⟩:∃j,m=j+1:=⟨m-1,by omega⟩
    rw[drop_cons ls i ak]at aD⊢;simp only[np,fN]at aD;simp only[wK,J6];rw[fq ak,eu _ i ak,fV i _ ak (by omega)];simp only[cond_true,Option.bind_some];rw[lC (by omega) (by omega)];simp only[Option.bind_some];rw[ih _ m (by simp only[List.length_append,np];omega) (by omega)];simp only[List.flatten_cons,List.append_assoc]
  refine eU (ls.length+1) λm hm=>?_;have:=key 0 (by omega) [] m (by simpa using U) (by omega);simpa using this
 unfold BO;have key:∀i,i<=ls.length->∀(v:Int) m,0<=v->v+np (ls.drop i)<=1099511627776->ls.length-i<m->wL ls m v (i:Int)=some ls.flatten:=by
  refine down ls.length ?_ ?_
  .intro v m ba aD hm;obtain⟨m,rfl⟩:∃j,m=j+1:=⟨m-1,by omega⟩
   simp only[wL,J7];rw[eT (Nat.le_refl _),ale v ba (by omega)];simp only[cond_false,Option.bind_some];exact wA
  .intro i ak ih v m ba aD hm;obtain⟨m,rfl⟩:∃j,m=j+1:=⟨m-1,by omega⟩
   rw[drop_cons ls i ak]at aD;simp only[np,fN]at aD;simp only[wL,J7,J5];rw[fq ak,eu _ i ak,fV i _ ak (by omega)];simp only[cond_true,Option.bind_some];have e:i64.wrap (v+(ls[i].length:Int))=v+(ls[i].length:Int):=dQ (v+(ls[i].length:Int)) ⟨by omega,by omega⟩;have d:decide (v+(ls[i].length:Int)<0)=false:=by simp only[decide_eq_false_iff_not];omega
   rw[e,d,cond_false];exact ih _ m (by omega) (by simp only[np];omega) (by omega)
 refine eU (ls.length+1) λm hm=>?_;exact key 0 (by omega) 0 m (by omega) (by rw[List.drop_zero];omega) (by omega)
theorem alg (a b:anT) (bg:a.length<=1048576) (R:b.length<=1048576):BO [a,b]=some (a++b):=by
 rw[alf [a,b] (by simp) (by simp only[np,fN];omega)];simp
theorem Vu:∀(s:anT) (p:Int),(∀n∈s,1<=n/\n<=7)->1<=p->p*8^s.length<=1099511627776->py p s=p*(fW s:Nat)
 |[],p,_,_,_=>by simp[py,fW]
 |n::s,p,bg,h,R=>by
  obtain⟨h1,ab⟩:=bg n (by simp);have aI:i64.wrap (n+1)=n+1:=dQ _ (by omega);have Me:(1:Int)<=8^s.length:=by
   have:(0:Int)<8^s.length:=Int.pow_pos (by decide);omega
  have Mf:p*8*8^s.length<=1099511627776:=by
   have:p*8*8^s.length=p*8^(n::s).length:=by rw[List.length_cons,Int.pow_succ,Int.mul_assoc,Int.mul_comm 8]
   rw[this];exact R
  have hle:p*(n+1)<=p*8:=Int.mul_le_mul_of_nonneg_left (by omega) (by omega);have aku:p*8*1<=p*8*8^s.length:=Int.mul_le_mul_of_nonneg_left Me (by omega);have vn:p*1<=p*(n+1):=Int.mul_le_mul_of_nonneg_left (by omega) (by omega);have aM:i64.wrap (p*(n+1))=p*(n+1):=dQ _ (by omega);rw[Md,aI,aM,Vu s _ (λm hm=>bg m (by simp[hm])) (by omega) (Int.le_trans (Int.mul_le_mul_of_nonneg_right hle (by omega)) Mf)];simp only[fW];rw[Int.natCast_mul,Int.mul_assoc];congr 2;omega
theorem alh {s:anT} (h:qe s=true):s.length<=8/\(∀n∈s,1<=n/\n<=7)/\fW s<=4096:=by
 simp only[qe,Bool.and_eq_true,decide_eq_true_eq,List.all_eq_true,ho]at h;obtain⟨dy,bg,aT⟩:=h;have hw:=Vu s 1 bg (by omega) (by
  have:∀k:Nat,k<=8->(8:Int)^k<=16777216:=by decide
  have:=this s.length dy;omega)
 rw[Int.one_mul]at hw;exact⟨dy,bg,by rw[hw]at aT;simp only[u1,decide_eq_true_eq]at aT;omega⟩
theorem Gj (l:aob) (hl:l.length<=1048576) (a:anT) (h:∀e∈l,i7 e a.length 60=true):
  wq l a=some (l.map (jN a))/\BQ l a=some (l.map (jN a)):=by
 constructor
 .unfold wq;refine Vl (L:=yx l a) l (jN a) (λm v=>?_) λi ak m v aD=>?_
  .simp only[yx,Jo];rw[eT (Nat.le_refl _)];rfl
  .simp only[yx,Jo];rw[fq ak,eu _ i ak,fV i _ ak (by omega)];simp only[cond_true,Option.bind_some,(CN (by omega) (h _ (List.getElem_mem ak))).1];rw[lC (by omega) (by omega)];rfl
 .unfold BQ;refine Vl (L:=yV l a) l (jN a) (λm v=>?_) λi ak m v aD=>?_
  .simp only[yV,J9];rw[eT (Nat.le_refl _)];rfl
  .simp only[yV,J9];rw[fq ak,eu _ i ak,fV i _ ak (by omega)];simp only[cond_true,Option.bind_some,(CN (by omega) (h _ (List.getElem_mem ak))).2.1];rw[lC (by omega) (by omega)];rfl
theorem CP {l:aob} {a:anT} (bg:∀x∈a,gQ x) (h:∀e∈l,i7 e a.length 60=true):∀x∈l.map (jN a),gQ x:=by
 intro x ag;obtain⟨e,he,rfl⟩:=List.mem_map.1 ag;exact(CN (by omega) (h e he)).2.2 bg
noncomputable def oO (x:bS) (a:anT):bB:=⟨sl x.Name (x.bU.map (jN a)),x.Next.map (jN a)⟩
def qf (x y:bB):Bool:=(x.Label==y.Label)&&(x.Next==y.Next)
def j3 (o:aog) (s:bB):aog:=if(o.any λx=>qf x s)=true then o else o++[s]
theorem Mw {x y:bB}:qf x y=true↔x=y:=by
 cases x;cases y;simp[qf]
structure jO (P:Nat) (s:bB):Prop where
 Mx:s.Label.length<=400/\(32:UInt8)∉s.Label
 len:s.Next.length=P
 oc:∀x∈s.Next,gQ x
def q9 (s:bB):anR:=(s.Label++[32])++gV (s.Next.map lD) [44]
theorem ali {P:Nat} {x y:bB} (ag:jO P x) (hy:jO P y) (h:q9 x=q9 y):x=y:=by
 unfold q9 at h;simp only[List.append_assoc,List.singleton_append]at h;obtain⟨aI,h⟩:=Mv ag.Mx.2 hy.Mx.2 h;have aM:x.Next=y.Next:=by
  by_cases ba:x.Next=[]
  .have:y.Next.length=0:=by rw[hy.len,<-ag.len,ba];rfl
   rw[ba,List.length_eq_zero_iff.1 this]
  .have h1:y.Next≠[]:=λe=>ba (List.length_eq_zero_iff.1 (by rw[ag.len,<-hy.len,e];rfl));exact val_inj ag.oc hy.oc (Vs (Vt ag.oc) (Vt hy.oc) (by simpa using ba) (by simpa using h1) h)
 exact Mw.1 (by simp only[qf,aI,aM,beq_self_eq_true,Bool.and_self])
def k4 (p:aog×anP) (s:bB):aog×anP:=
 if kE (q9 s) p.2=true then p else(p.1++[s],kF (q9 s) true p.2)
theorem Vv (p:aog×anP) (s:bB):(k4 p s).1.length<=p.1.length+1:=by
 unfold k4;split
 .omega
 .simp
theorem Vw:∀(l:aog) (p:aog×anP),(l.foldl k4 p).1.length<=p.1.length+l.length
 |[],p=>Nat.le_refl _
 |s::r,p=>by
  have h1:=Vw r (k4 p s);have ab:=Vv p s;rw[List.foldl_cons,List.length_cons];omega
theorem Vx (o:aog) (s:bB):(j3 o s).length<=o.length+1:=by
 unfold j3;split
 .omega
 .simp
theorem My:∀(l o:aog),(l.foldl j3 o).length<=o.length+l.length
 |[],o=>Nat.le_refl _
 |s::r,o=>by
  have h1:=My r (j3 o s);have ab:=Vx o s;rw[List.foldl_cons,List.length_cons];omega
theorem Vy {P:Nat} {o:aog} {s:bB} (hg:∀x∈o,jO P x) (U:jO P s):∀x∈j3 o s,jO P x:=by
 unfold j3;split
 .exact hg
 .intro x ag;rcases List.mem_append.1 ag with ag|ag
  .exact hg x ag
  .rw[List.mem_singleton]at ag;rwa [ag]
theorem Mz {P:Nat}:∀(l o:aog),(∀x∈o,jO P x)->(∀x∈l,jO P x)->∀x∈l.foldl j3 o,jO P x
 |[],o,a1,_=>a1
 |s::r,o,a1,hl=>by
  rw[List.foldl_cons];exact Mz r _ (Vy a1 (hl s (by simp))) λx ag=>hl x (List.mem_cons_of_mem _ ag)
theorem MA {P:Nat}:∀(l o:aog) (m:anP),(∀x∈l,jO P x)->(∀x∈o,jO P x)->(∀s,jO P s->kE (q9 s) m=o.any λx=>qf x s)->(l.foldl k4 (o,m)).1=l.foldl j3 o
 |[],o,m,_,_,_=>rfl
 |s::r,o,m,hl,a1,hm=>by
  have U:=hl s (by simp);have ax:∀x∈r,jO P x:=λx ag=>hl x (List.mem_cons_of_mem _ ag);rw[List.foldl_cons,List.foldl_cons];by_cases h:(o.any λx=>qf x s)=true
  .rw[show k4 (o,m) s=(o,m) by unfold k4;rw[if_pos ((hm s U).trans h)],show j3 o s=o by unfold j3;rw[if_pos h]];exact MA r o m ax a1 hm
  .rw[show k4 (o,m) s=(o++[s],kF (q9 s) true m) by unfold k4;rw[if_neg (by simp only[hm s U];exact h)],show j3 o s=o++[s] by unfold j3;rw[if_neg h]];refine MA r _ _ ax (λx ag=>?_) λt aL=>?_
   .rcases List.mem_append.1 ag with ag|ag
    .exact a1 x ag
    .rw[List.mem_singleton]at ag;rwa [ag]
   .rw[Vr,List.any_append,List.any_cons,List.any_nil,Bool.or_false];by_cases hk:q9 s=q9 t
    .have:=ali U aL hk;rw[if_pos hk,Mw.2 this,Bool.or_true]
    .rw[if_neg hk,hm t aL];have:qf s t=false:=by
      cases nj:qf s t
      .rfl
      .exact(hk (by rw[Mw.1 nj])).elim
     rw[this,Bool.or_false]
structure Vz (x:bS) (P:Nat) (a:anT):Prop where
 len:a.length=P+x.a7.length
 oc:∀y∈a,gQ y
structure od (x:bS) (P:Nat):Prop where
 oP:x.a7.length<=8/\(∀n∈x.a7,1<=n/\n<=7)/\fW x.a7<=4096
 guard:i7 x.Guard ((P:Int)+x.a7.length) 60=true
 name:me x.Name=true
 args:x.bU.length<=2/\∀e∈x.bU,i7 e ((P:Int)+x.a7.length) 60=true
 alj:x.Name=q6->x.bU.length=0
 next:x.Next.length=P/\∀e∈x.Next,i7 e ((P:Int)+x.a7.length) 60=true
theorem alk {x:bS} {p:Int} (h:sk x p=true) (ba:0<=p):od x p.toNat:=by
 simp only[sk,Bool.and_eq_true,beq_iff_eq]at h;obtain⟨h1,ab,ay,aT,bp,bX⟩:=h;have e:((p.toNat:Nat):Int)=p:=by omega
 have aN:me x.Name=true/\x.bU.length<=2/\(x.Name=q6->x.bU.length=0):=by
  split at aT
  .rename_i aL;simp only[decide_eq_true_eq]at aT;exact⟨by rw[aL];decide,by omega,λ_=>aT⟩
  .rename_i aL;simp only[tv,Bool.and_eq_true,decide_eq_true_eq]at aT;exact⟨aT.1.1,aT.2,λe=>(aL e).elim⟩
 simp only[pz,List.all_eq_true]at bp bX;refine⟨alh h1,by rw[e];exact ab,aN.1,⟨aN.2.1,by rw[e];exact bp⟩,aN.2.2,by omega,by rw[e];exact bX⟩
section
variable {x:bS} {P:Nat} {a:anT} (ag:od x P) (bg:Vz x P a) (a_:P<=21)
include bg
theorem q_ {e:aoe} (h:i7 e ((P:Int)+x.a7.length) 60=true):i7 e a.length 60=true:=by
 rw[bg.len,Int.natCast_add];exact h
include ag
theorem MB:jO P (oO x a):=by
 have v1:=CP bg.oc λe he=>q_ bg (ag.args.2 e he);have v2:=CP bg.oc λe he=>q_ bg (ag.next.2 e he);have ab:=ag.args.1;exact⟨alc ag.name (by rw[List.length_map];omega) v1,by simp only[oO,List.length_map];exact ag.next.1,v2⟩
include a_
theorem alm (S:anT) (g:aoe) (o:aog) (m:anP) (a1:o.length<=1000000):
  E9 a S g x.Name x.bU x.Next m o=some ((k4 (o,m) (oO x a)).2,(k4 (o,m) (oO x a)).1):=by
 have v1:=CP bg.oc λe he=>q_ bg (ag.args.2 e he);have v2:=CP bg.oc λe he=>q_ bg (ag.next.2 e he);have ab:=ag.args.1;have ay:=ag.next.1;have hg:=MB ag bg;obtain⟨b,R⟩:=ak_ x.Name (x.bU.map (jN a)) ag.name (by rw[List.length_map];exact ab) (λe=>by rw[List.length_map];exact ag.alj e) v1;have bo:=CF 44 2 ((x.Next.map (jN a)).map lD) λy hy=>by
  obtain⟨z,_,rfl⟩:=List.mem_map.1 hy;exact CG z
 simp only[List.length_map]at bo;have aln:=hg.Mx.1;simp only[oO]at aln;unfold E9;rw[(Gj _ (by omega) a λe he=>q_ bg (ag.args.2 e he)).2,(Gj _ (by omega) a λe he=>q_ bg (ag.next.2 e he)).2];simp only[Option.bind_some,R];rw[u4 (by omega),L7 _ (by rw[List.length_map];omega) v2];simp only[Option.bind_some];rw[u4 (by simp only[List.length_append,List.length_cons,List.length_nil];omega)];simp only[Option.bind_some];have alo:q9 (oO x a)=(sl x.Name (x.bU.map (jN a))++[32])++gV ((x.Next.map (jN a)).map lD) [44]:=rfl;rw[<-alo];unfold k4;cases ca:kE (q9 (oO x a)) m
 .simp only[Bool.not_false,cond_true,ca];rw[lC (by omega) (by omega)];rfl
 .simp only[Bool.not_true,cond_false,ca];rfl
theorem alp:(wq x.bU a=some (x.bU.map (jN a)))/\BA x.Name (x.bU.map (jN a))=some (oO x a).Label/\wq x.Next a=some (oO x a).Next:=by
 have v1:=CP bg.oc λe he=>q_ bg (ag.args.2 e he);have ab:=ag.args.1;have ay:=ag.next.1;have Mt:x.Name.length<=10:=by have:=ag.name;simp only[me,Bool.and_eq_true,decide_eq_true_eq]at this;exact this.1
 exact⟨(Gj _ (by omega) a λe he=>q_ bg (ag.args.2 e he)).1,ak8 _ _ Mt (by rw[List.length_map];omega) v1,(Gj _ (by omega) a λe he=>q_ bg (ag.next.2 e he)).1⟩
end
noncomputable def mf (x:bS) (st:anT) (vs:List anT):aog:=(vs.filter λv=>jN (st++v.reverse) x.Guard !=0).map λv=>oO x (st++v.reverse)
theorem VA (x:bS) (st v:anT) (vs:List anT):mf x st (v::vs)=cond (jN (st++v.reverse) x.Guard !=0) (oO x (st++v.reverse)::mf x st vs) (mf x st vs):=by
 unfold mf;cases h:jN (st++v.reverse) x.Guard !=0
 .rw[List.filter_cons_of_neg (by simpa using h),cond_false]
 .rw[List.filter_cons_of_pos (by simpa using h),List.map_cons,cond_true]
theorem alq (x:bS) (st:anT) (vs:List anT):(mf x st vs).length<=vs.length:=by
 unfold mf;rw[List.length_map];exact List.length_filter_le _ _
theorem VB:∀{r bs:anT},kC r bs->(∀b∈bs,b<=7)->∀y∈r,gQ y
 |[],_,_,_,y,hy=>by cases hy
 |v::vs,[],h,_,_,_=>h.elim
 |v::vs,b::bs,h,R,y,hy=>by
  obtain⟨⟨h1,ab⟩,ay⟩:=h;have bM:=R b (by simp);rcases List.mem_cons.1 hy with rfl|hy
  .exact⟨h1,by omega⟩
  .exact VB ay (λc ai=>R c (by simp[ai])) y hy
theorem Gk (bs:anT) (n:Nat) (r:anT):mL bs (n+1) r=r::(match j2 r bs with
  |some w=>mL bs n w
  |none=>[]):=rfl
theorem MC:∀(bs:anT),1<=fW bs
 |[]=>Nat.le_refl _
 |b::bs=>by have:=MC bs;simp only[fW];exact Nat.le_trans this (Nat.le_mul_of_pos_left _ (by omega))
abbrev alr:=anT×Int×Int×(List b7)×anT×aoe×anR×aob×aob×anP×aog
theorem VC {r bs:anT} (h:kC r bs) (R:∀b∈bs,b<=7) (hl:bs.length<=1000)
  (dm:anT->aoe->anR->aob->aob->anP->aog->anT->Option alr)
  (st:anT) (t:aO) (as:List b7) (c1:anT) (c2:aoe) (c3:anR) (c4 c5:aob) (eM:anP) (rI:aog):
  lim (λm=>wN dm bs.reverse st t as m c1 c2 c3 c4 c5 eM rI r.reverse (i64.wrap ((r.reverse.length:Int)-1)))=(match j2 r bs with
   |some w=>dm c1 c2 c3 c4 c5 eM rI w.reverse
   |none=>some (st,t.Kind,t.Value,as,c1,c2,c3,c4,c5,eM,rI)):=by
 have ax:=zE h;have key:∀k,k<=bs.length->∀m,k<m->wN dm bs.reverse st t as m c1 c2 c3 c4 c5 eM rI (nr r bs.length k) ((k:Int)-1)=(match j2 (r.drop (bs.length-k)) (bs.drop (bs.length-k))with
   |some w=>dm c1 c2 c3 c4 c5 eM rI (w.reverse++List.replicate (bs.length-k) 0)
   |none=>some (st,t.Kind,t.Value,as,c1,c2,c3,c4,c5,eM,rI)):=by
  intro k;induction k with
  |zero=>
   intro _ m hm;obtain⟨m,rfl⟩:∃j,m=j+1:=⟨m-1,by omega⟩
   simp only[wN,Ka];rw[show decide ((0:Int)<=((0:Nat):Int)-1)=false by decide,cond_false,show decide (((0:Nat):Int)-1<0)=true by decide,cond_true,Nat.sub_zero,List.drop_of_length_le (by omega)];simp[j2]
  |succ k ih=>
   intro hk m hm;obtain⟨m,rfl⟩:∃j,m=j+1:=⟨m-1,by omega⟩
   have oo:k<bs.length:=by omega
   have e:((k+1:Nat):Int)-1=(k:Int):=by omega
   simp only[wN,Ka];rw[e,show decide ((0:Int)<=(k:Int))=true by simp,cond_true,Vh ax oo,Vj rfl oo];simp only[Option.bind_some,Int.toNat_natCast];rw[CO ax oo,CO rfl oo];have mZ:=Mr (bs.length-(k+1)) h (by omega) (by omega);have bM:=R _ (List.getElem_mem (show bs.length-(k+1)<bs.length by omega));simp only[j2];by_cases cp:r[bs.length-(k+1)]'(by omega)<bs[bs.length-(k+1)]'(by omega)
   .have cI:(r[bs.length-(k+1)]'(by omega)==bs[bs.length-(k+1)]'(by omega))=false:=by rw[beq_eq_false_iff_ne];omega
    rw[cI,cond_false,show decide ((k:Int)<0)=false by simp,cond_false,if_pos cp,dQ _ (by omega),Mq ax oo];simp
   .have heq:(r[bs.length-(k+1)]'(by omega)==bs[bs.length-(k+1)]'(by omega))=true:=by rw[beq_iff_eq];omega
    rw[heq,cond_true,if_neg cp,Vi ax oo,Gi k (by omega),ih (by omega) m (by omega)];cases j2 (r.drop (bs.length-k)) (bs.drop (bs.length-k))with
    |none=>rfl
    |some w=>
     simp only[Option.map_some,List.reverse_cons,List.append_assoc];rw[show bs.length-k=(bs.length-(k+1))+1 by omega,List.replicate_succ];rfl
 refine eU (bs.length+1) λm hm=>?_;have:=key bs.length (Nat.le_refl _) m (by omega);rw[Nat.sub_self]at this;simp only[List.drop_zero,List.replicate_zero,List.append_nil]at this;rw[List.length_reverse,ax,Gi _ (by omega)];have bC:nr r bs.length bs.length=r.reverse:=by simp[nr]
 rw[bC]at this;exact this
section
variable {x:bS} {P:Nat} {st:anT} (ag:od x P) (U:st.length=P) (aD:∀y∈st,gQ y) (a_:P<=21)
include ag U aD
theorem MD {r:anT} (h:kC r x.a7.reverse):Vz x P (st++r.reverse):=by
 have hl:=zE h;rw[List.length_reverse]at hl;refine⟨by rw[List.length_append,List.length_reverse,U,hl],λy hy=>?_⟩;rcases List.mem_append.1 hy with hy|hy
 .exact aD y hy
 .exact VB h (λb R=>(ag.oP.2.1 b (by simpa using R)).2) y (by simpa using hy)
theorem VD {n:Nat} {r:anT} (h:kC r x.a7.reverse):∀s∈mf x st (mL x.a7.reverse n r),jO P s:=by
 intro s hm;unfold mf at hm;obtain⟨v,uf,rfl⟩:=List.mem_map.1 hm;exact MB ag (MD ag U aD (Vg _ _ _ h v (List.mem_filter.1 uf).1))
include a_
theorem VE {y:b7} (hw:pA y) (hy:hF y=x.Guard) {r:anT} (h:kC r x.a7.reverse) (o:aog) (m:anP) (a1:o.length<=1000000) (vs:List anT):
  ∃p:aog×anP,p.1.length<=o.length+1/\(mf x st (r::vs)).foldl k4 (o,m)=(mf x st vs).foldl k4 p/\
  E_ r.reverse st y.term.Kind y.term.Value y.args x.a7 x.Guard x.Name x.bU x.Next m o=some (true,x.a7,x.Guard,x.Name,x.bU,x.Next,p.2,p.1):=by
 have zF:=MD ag U aD h;have dy:=ag.oP.1;have hl:=zE h;rw[List.length_reverse]at hl;have hg:=q_ zF ag.guard;have pR:BP (b7.mk (aO.mk y.term.Kind y.term.Value) y.args) (st++r.reverse)=some (jN (st++r.reverse) x.Guard):=by
  have ab:=(CN (by omega) hg).2.1;rw[<-hy]at ab⊢;unfold yU at ab;have ay:∀o:anW,(o.bind λx=>some x)=o:=λo=>by cases o<;>rfl
  rw[Mm y hw,Option.bind_some,ay]at ab;exact ab
 rw[VA];unfold E_;rw[alg _ _ (by omega) (by rw[List.length_reverse];omega)];simp only[Option.bind_some,pR];cases jN (st++r.reverse) x.Guard !=0
 .exact⟨(o,m),le_succ _,rfl,rfl⟩
 .refine⟨k4 (o,m) (oO x (st++r.reverse)),Vv _ _,rfl,?_⟩;rw[cond_true,alm ag zF a_ x.a7 x.Guard o m a1];rfl
theorem als {y:b7} (hw:pA y) (hy:hF y=x.Guard) (o:aog) (m:anP) (a1:o.length+fW x.a7<=1000000):
  ∃p,p=(mf x st (mL x.a7.reverse (fW x.a7) (List.replicate x.a7.length 0))).foldl k4 (o,m)/\
  Fa x.a7 st y.term y.args x.a7 x.Guard x.Name x.bU x.Next m o=some (st,y.term.Kind,y.term.Value,y.args,x.a7,x.Guard,x.Name,x.bU,x.Next,p.2,p.1):=by
 refine⟨_,rfl,?_⟩;have dy:=ag.oP.1;unfold Fa;rw[uV 8 (n:=x.a7.length) (by omega) (by decide),Option.bind_some,Int.toNat_natCast];have CQ:∀b∈x.a7.reverse,b<=7:=λb iA=>(ag.oP.2.1 b (by simpa using iA)).2;have gR:∀b∈x.a7.reverse,0<=b:=λb iA=>by have:=(ag.oP.2.1 b (by simpa using iA)).1;omega
 obtain⟨h1,ab⟩:=Gh x.a7.reverse gR;rw[List.length_reverse]at h1 ab;have key:∀n r (o:aog) (m:anP),kC r x.a7.reverse->n+1+lG r x.a7.reverse=fW x.a7->o.length+(n+1)<=1000000->∀f,n<f->
   ta x.a7 st y.term y.args f x.a7 x.Guard x.Name x.bU x.Next m o r.reverse=some (st,y.term.Kind,y.term.Value,y.args,x.a7,x.Guard,x.Name,x.bU,x.Next,((mf x st (mL x.a7.reverse (n+1) r)).foldl k4 (o,m)).2,((mf x st (mL x.a7.reverse (n+1) r)).foldl k4 (o,m)).1):=by
  intro n;induction n with
  |zero=>
   intro r o m ax aN a1 f bc;obtain⟨f,rfl⟩:∃j,f=j+1:=⟨f-1,by omega⟩
   have ak:=xi ax;rw[u3]at ak;rw[Gk];cases pB:j2 r x.a7.reverse with
   |none=>
    obtain⟨p,_,al,ca⟩:=VE ag U aD a_ hw hy ax o m (by omega) [];simp only[ta,Kb];rw[ca];simp only[Option.bind_some,cond_true];have zB:=VC ax CQ (by simp;omega) (ta x.a7 st y.term y.args f) st y.term y.args x.a7 x.Guard x.Name x.bU x.Next p.2 p.1;rw[List.reverse_reverse]at zB;rw[zB,pB,al];rfl
   |some w=>
    rw[pB]at ak;simp only at ak;have:=Vd ak.1;rw[u3]at this;omega
  |succ n ih=>
   intro r o m ax aN a1 f bc;obtain⟨f,rfl⟩:∃j,f=j+1:=⟨f-1,by omega⟩
   have ak:=xi ax;rw[u3]at ak;rw[Gk];cases pB:j2 r x.a7.reverse with
   |none=>
    rw[pB]at ak;simp only at ak;omega
   |some w=>
    rw[pB]at ak;simp only at ak;obtain⟨p,eA,al,ca⟩:=VE ag U aD a_ hw hy ax o m (by omega) (mL x.a7.reverse (n+1) w);simp only[ta,Kb];rw[ca];simp only[Option.bind_some,cond_true];have zB:=VC ax CQ (by simp;omega) (ta x.a7 st y.term y.args f) st y.term y.args x.a7 x.Guard x.Name x.bU x.Next p.2 p.1;rw[List.reverse_reverse]at zB;rw[zB,pB,al];exact ih w p.1 p.2 ak.1 (by omega) (by omega) f (by omega)
 have aL:=MC x.a7;refine eU (fW x.a7+1) λf bc=>?_;have:=key (fW x.a7-1) (List.replicate x.a7.length 0) o m h1 (by rw[ab];omega) (by omega) f (by omega);rw[List.reverse_replicate,show fW x.a7-1+1=fW x.a7 by omega]at this;exact this
end
section
variable {x:bS} {P:Nat} {st:anT} (ag:od x P) (U:st.length=P) (aD:∀y∈st,gQ y) (a_:P<=21)
theorem alu (cM:aog->Int->Option aog) (jJ:aog->Int->anT->Option aog) (l:dw) (st:anT) (x:bS)
  (o:aog) (j:Int) (v:anT) (s:bB) (a1:o.length<=1000000) (hg:∀y∈o,jO P y) (a_:P<=21):
  lim (λn=>wu cM jJ l st x n o j v s.Label s.Next false 0)=s0 cM jJ l st x (j3 o s) j v:=by
 have key:∀i,i<=o.length->∀(b:Bool) m,o.length-i<m->wu cM jJ l st x m o j v s.Label s.Next b (i:Int)=s0 cM jJ l st x (cond (b||(o.drop i).any λy=>qf y s) o (o++[s])) j v:=by
  refine down o.length ?_ ?_
  .intro b m hm;obtain⟨m,rfl⟩:∃j,m=j+1:=⟨m-1,by omega⟩
   simp only[wu,Ju];rw[eT (Nat.le_refl _),List.drop_of_length_le (Nat.le_refl _),lC (by omega) (by omega)];cases b<;>rfl
  .intro i ak ih b m hm;obtain⟨m,rfl⟩:∃j,m=j+1:=⟨m-1,by omega⟩
   simp only[wu,Ju];have aN:=(hg _ (List.getElem_mem ak)).len;rw[fq ak,eu _ i ak,fV i _ ak (by omega),drop_cons o i ak,List.any_cons];simp only[cond_true,Option.bind_some];cases b
   .rw[cond_false,Mu _ _ (by omega),Option.bind_some,ih _ m (by omega),ih _ m (by omega),Bool.false_or,Bool.false_or];have e:qf o[i] s=((o[i].Label==s.Label)&&(o[i].Next==s.Next)):=rfl;rw[e];cases o[i].Label==s.Label
    .rfl
    .rfl
   .rw[cond_true,ih _ m (by omega),Bool.true_or,Bool.true_or]
 refine eU (o.length+1) λm hm=>?_;have:=key 0 (by omega) false m (by omega);rw[List.drop_zero,Bool.false_or]at this;have ec:j3 o s=cond (o.any λy=>qf y s) o (o++[s]):=by
  unfold j3;cases o.any λy=>qf y s<;>rfl
 rw[ec];exact this
include ag U aD a_
theorem VF (cM:aog->Int->Option aog) (jJ:aog->Int->anT->Option aog) (l:dw) (j:Int)
  {r:anT} (h:kC r x.a7.reverse) (o:aog) (a1:o.length<=1000000) (hg:∀y∈o,jO P y) (vs:List anT):
  ∃kj,kj.length<=o.length+1/\(∀y∈kj,jO P y)/\(mf x st (r::vs)).foldl j3 o=(mf x st vs).foldl j3 kj/\
  Jw cM jJ l st x o j r.reverse=s0 cM jJ l st x kj j r.reverse:=by
 have zF:=MD ag U aD h;have dy:=ag.oP.1;have hl:=zE h;rw[List.length_reverse]at hl;have alv:=q_ zF ag.guard;rw[VA];unfold Jw;rw[Vm _ (by omega),Option.bind_some,lC (by rw[List.length_reverse];omega) (by rw[List.length_reverse];omega),Option.bind_some,(CN (by omega) alv).1,Option.bind_some];cases jN (st++r.reverse) x.Guard !=0
 .exact⟨o,le_succ _,hg,rfl,rfl⟩
 .refine⟨j3 o (oO x (st++r.reverse)),Vx _ _,Vy hg (MB ag zF),rfl,?_⟩;obtain⟨aI,aM,aP⟩:=alp ag zF a_;rw[cond_true,aI,Option.bind_some,aM,Option.bind_some,aP,Option.bind_some];exact alu cM jJ l st x o j r.reverse (oO x (st++r.reverse)) a1 hg a_
theorem alw (cM:aog->Int->Option aog) (l:dw) (i:Nat) (ak:i<=1000000) (o:aog) (a1:o.length+fW x.a7<=1000000) (hg:∀y∈o,jO P y):
  lim (λm=>qK cM l st x m o (i:Int) (List.replicate x.a7.length 0))=cM ((mf x st (mL x.a7.reverse (fW x.a7) (List.replicate x.a7.length 0))).foldl j3 o) ((i+1:Nat):Int):=by
 have dy:=ag.oP.1;have CQ:∀b∈x.a7.reverse,b<=7:=λb iA=>(ag.oP.2.1 b (by simpa using iA)).2;have gR:∀b∈x.a7.reverse,0<=b:=λb iA=>by have:=(ag.oP.2.1 b (by simpa using iA)).1;omega
 obtain⟨h1,ab⟩:=Gh x.a7.reverse gR;rw[List.length_reverse]at h1 ab;have hw:i64.wrap ((i:Int)+1)=((i+1:Nat):Int):=by rw[dQ _ (by omega)];omega
 have key:∀n r (o:aog),kC r x.a7.reverse->n+1+lG r x.a7.reverse=fW x.a7->o.length+(n+1)<=1000000->(∀y∈o,jO P y)->∀m,n<m->
   qK cM l st x m o (i:Int) r.reverse=cM ((mf x st (mL x.a7.reverse (n+1) r)).foldl j3 o) ((i+1:Nat):Int):=by
  intro n;induction n with
  |zero=>
   intro r o ax aN a1 hg m hm;obtain⟨m,rfl⟩:∃j,m=j+1:=⟨m-1,by omega⟩
   have ak:=xi ax;rw[u3]at ak;rw[Gk];have CR:=Vk ax CQ (by simp;omega);rw[List.reverse_reverse]at CR;cases pB:j2 r x.a7.reverse with
   |none=>
    obtain⟨kj,_,_,al,ca⟩:=VF ag U aD a_ cM (qK cM l st x m) l (i:Int) ax o (by omega) hg [];simp only[qK];rw[ca];unfold s0;rw[CR,pB,al];simp only[Option.bind_some,Bool.not_false,cond_true,hw];rfl
   |some w=>
    rw[pB]at ak;simp only at ak;have:=Vd ak.1;rw[u3]at this;omega
  |succ n ih=>
   intro r o ax aN a1 hg m hm;obtain⟨m,rfl⟩:∃j,m=j+1:=⟨m-1,by omega⟩
   have ak:=xi ax;rw[u3]at ak;rw[Gk];have CR:=Vk ax CQ (by simp;omega);rw[List.reverse_reverse]at CR;cases pB:j2 r x.a7.reverse with
   |none=>
    rw[pB]at ak;simp only at ak;omega
   |some w=>
    rw[pB]at ak;simp only at ak;obtain⟨kj,iU,pP,al,ca⟩:=VF ag U aD a_ cM (qK cM l st x m) l (i:Int) ax o (by omega) hg (mL x.a7.reverse (n+1) w);simp only[qK];rw[ca];unfold s0;rw[CR,pB,al];simp only[Option.bind_some,Bool.not_true,cond_false];exact ih w kj ak.1 (by omega) (by omega) pP m (by omega)
 have aL:=MC x.a7;refine eU (fW x.a7+1) λm hm=>?_;have:=key (fW x.a7-1) (List.replicate x.a7.length 0) o h1 (by rw[ab];omega) (by omega) hg m (by omega);rw[List.reverse_replicate,show fW x.a7-1+1=fW x.a7 by omega]at this;exact this
end
noncomputable def ra (st:anT) (x:bS):aog:=mf x st (mL x.a7.reverse (fW x.a7) (List.replicate x.a7.length 0))
section
variable {st:anT} {P:Nat} (U:st.length=P) (aD:∀y∈st,gQ y) (a_:P<=21)
theorem ME {x:bS} (ag:od x P):kC (List.replicate x.a7.length 0) x.a7.reverse/\lG (List.replicate x.a7.length 0) x.a7.reverse=0:=by
 have:=Gh x.a7.reverse λb iA=>by have:=(ag.oP.2.1 b (by simpa using iA)).1;omega
 rwa [List.length_reverse]at this
theorem MF {x:bS} (ag:od x P):(ra st x).length<=fW x.a7:=by
 obtain⟨h1,ab⟩:=ME ag;have:=alq x st (mL x.a7.reverse (fW x.a7) (List.replicate x.a7.length 0));rw[Vf _ _ _ h1 (by rw[ab,u3,Nat.add_zero])]at this;exact this
include U aD in
theorem alx:∀(l:aof),(∀x∈l,od x P)->∀s∈l.flatMap (ra st),jO P s:=by
 intro l hl s hm;obtain⟨x,ag,hm⟩:=List.mem_flatMap.1 hm;exact VD (hl x ag) U aD (ME (hl x ag)).1 s hm
theorem VG:∀(l:aof),(∀x∈l,od x P)->(l.flatMap (ra st)).length<=l.length*4096
 |[],_=>by simp
 |x::r,h=>by
  have h1:=MF (st:=st) (h x (by simp));have ab:=(h x (by simp)).oP.2.2;have ay:=VG r λy hy=>h y (by simp[hy]);rw[List.flatMap_cons,List.length_append,List.length_cons];omega
include U aD a_
theorem aly (l:dw) (hl:l.cG.length<=60) (a1:∀x∈l.cG,od x P):yX l st=some ((l.cG.flatMap (ra st)).foldl k4 ([],[])).1:=by
 unfold yX;have key:∀i,i<=l.cG.length->∀(o:aog) (m:anP) f,o.length<=i*4096->l.cG.length-i<f->
   yW l st f o m (i:Int)=some (((l.cG.drop i).flatMap (ra st)).foldl k4 (o,m)).1:=by
  refine down l.cG.length ?_ ?_
  .intro o m f iU bc;obtain⟨f,rfl⟩:∃j,f=j+1:=⟨f-1,by omega⟩
   simp only[yW,Kd];rw[eT (Nat.le_refl _),List.drop_of_length_le (Nat.le_refl _)];rfl
  .intro i ak ih o m f iU bc;obtain⟨f,rfl⟩:∃j,f=j+1:=⟨f-1,by omega⟩
   have ag:=a1 _ (List.getElem_mem ak);have aT:=ag.oP.2.2;obtain⟨y,hw,hy⟩:=U8 ag.guard;obtain⟨p,al,ca⟩:=als ag U aD a_ hw hy o m (by omega);have eA:p.1.length<=o.length+4096:=by
    have h1:=Vw (ra st l.cG[i]) (o,m);have ab:=MF (st:=st) ag;rw[al];exact Nat.le_trans h1 (by show o.length+_<=_;omega)
   simp only[yW,Kd];rw[fq ak,eu _ i ak,fV i _ ak (by omega),drop_cons _ i ak,List.flatMap_cons,List.foldl_append];simp only[cond_true,Option.bind_some];unfold Kc;rw[show yS l.cG[i].Guard=some (y.term,y.args) by rw[<-hy];exact Mm y hw];simp only[Option.bind_some,ca];rw[ih p.1 p.2 f (by rw[Nat.add_mul];omega) (by omega),al];rfl
 refine eU (l.cG.length+1) λf bc=>?_;have:=key 0 (by omega) [] [] f (by simp) (by omega);rw[List.drop_zero]at this;exact this
theorem alz (l:dw) (hl:l.cG.length<=60) (a1:∀x∈l.cG,od x P):wv l st=some ((l.cG.flatMap (ra st)).foldl j3 []):=by
 unfold wv;have key:∀i,i<=l.cG.length->∀(o:aog) f,o.length<=i*4096->(∀y∈o,jO P y)->l.cG.length-i<f->
   qL l st f o (i:Int)=some (((l.cG.drop i).flatMap (ra st)).foldl j3 o):=by
  refine down l.cG.length ?_ ?_
  .intro o f iU pP bc;obtain⟨f,rfl⟩:∃j,f=j+1:=⟨f-1,by omega⟩
   simp only[qL,Jx];rw[eT (Nat.le_refl _),List.drop_of_length_le (Nat.le_refl _)];rfl
  .intro i ak ih o f iU pP bc;obtain⟨f,rfl⟩:∃j,f=j+1:=⟨f-1,by omega⟩
   have ag:=a1 _ (List.getElem_mem ak);have aT:=ag.oP.2.2;have dy:=ag.oP.1;have eA:((ra st l.cG[i]).foldl j3 o).length<=o.length+4096:=by
    have h1:=My (ra st l.cG[i]) o;have ab:=MF (st:=st) ag;omega
   simp only[qL,Jx];rw[fq ak,eu _ i ak,drop_cons _ i ak,List.flatMap_cons,List.foldl_append];simp only[cond_true,Option.bind_some];rw[uV 8 (n:=l.cG[i].a7.length) (by omega) (by decide),Option.bind_some,Int.toNat_natCast,alw ag U aD a_ _ l i (by omega) o (by omega) pP];exact ih _ f (by rw[Nat.add_mul];exact Nat.le_trans eA (by omega)) (Mz _ _ pP λs hm=>VD ag U aD (ME ag).1 s hm) (by omega)
 refine eU (l.cG.length+1) λf bc=>?_;have:=key 0 (by omega) [] f (by simp) (by simp) (by omega);rw[List.drop_zero]at this;exact this
theorem alA (l:dw) (hl:l.cG.length<=60) (a1:∀x∈l.cG,od x P):∃o,yX l st=some o/\wv l st=some o/\o.length<=245760/\∀y∈o,jO P y:=by
 have hg:=alx U aD l.cG a1;have h1:=My (l.cG.flatMap (ra st)) [];have ab:=VG (st:=st) l.cG a1;refine⟨_,?_,alz U aD a_ l hl a1,by simp only[List.length_nil]at h1;omega,Mz _ _ (by simp) hg⟩;rw[aly U aD a_ l hl a1,MA (P:=P) _ _ _ hg (by simp) λs _=>rfl]
end
end Go.lT
