/- Part of a proof that a law returns true for every input. No condition. -/
import Derived.Test.YteloniioljdceaaGreatDoorFwA
import Derived.IntWalk
import Derived.Test.YteloniioljdceaaGreatDoorP4
import Derived.Lib.ParseIntB
import Derived.Lib.ItoaNum
namespace Go.lh
open Option Go.IntKind Nat Or
open Go Go.ca
theorem dL (n:Int) (h: -9223372036854775808<=n/\n<=9223372036854775807):i64.wrap n=n:=IntWalk.i64_in n h
theorem hS {α:Type} (a:List α) (i:Nat) (h:i<a.length):cj a (i:Int)=some a[i]:=by
 rw[z8 (by omega) (by simpa using h)];rfl
theorem q0 {α:Type} (a:List α) (n:Nat) (h:n<=a.length):c8 a 0 (n:Int)=some (a.take n):=by
 unfold c8;rw[if_pos (by omega)];simp
theorem kQ (i n:Nat) (h:i<n) (aT:n<=4611686018427387904):i64.wrap ((i:Int)+1)=((i+1:Nat):Int):=by
 rw[dL _ (by omega)];omega
theorem lA {i n:Nat} (h:i<n):decide ((i:Int)<(n:Int))=true:=by simp;omega
theorem j5 {i n:Nat} (h:n<=i):decide ((i:Int)<(n:Int))=false:=by simp;omega
theorem vN {α:Type} (c:α) (r:List α):cj (c::r) 0=some c:=rfl
theorem vK {n:Nat} (h:0<n):decide ((0:Int)<(n:Int))=true:=by simp;omega
theorem Pz:i64.wrap (0+1)=1:=by decide
theorem down (n:Nat) {P:Nat->Prop} (bj:P n) (R:∀i,i<n->P (i+1)->P i):∀i,i<=n->P i:=by
 have key:∀d,d<=n->P (n-d):=by
  intro d;induction d with
  |zero=>intro _;exact bj
  |succ d ih=>
   intro ad;have:=ih (by omega);refine R _ (by omega) ?_;rw[show n-(d+1)+1=n-d by omega];exact this
 intro i aC;have:=key (n-i) (by omega)
 rwa [show n-(n-i)=i by omega]at this
theorem up {β:Type} {l:Nat->Int->Option β} {n:Nat} (F:Nat->Option β) (bj:∀m,l (m+1) (n:Int)=F n)
  (R:∀i,i<n->∀m,(l m ((i+1:Nat):Int)=F (i+1))->l (m+1) (i:Int)=F i):∀i,i<=n->∀m,n-i<m->l m (i:Int)=F i:=by
 refine down n ?_ ?_
 .intro m hm;obtain⟨k,rfl⟩:∃k,m=k+1:=⟨m-1,by omega⟩
  exact bj k
 .intro i aC ih m hm;obtain⟨k,rfl⟩:∃k,m=k+1:=⟨m-1,by omega⟩
  exact R i aC k (ih k (by omega))
theorem vO {β:Type} {l:Nat->Int->Option β} {n:Nat} (F:Nat->Option β) (bj:∀m,l (m+1) (n:Int)=F n)
  (R:∀i,i<n->∀m,(l m ((i+1:Nat):Int)=F (i+1))->l (m+1) (i:Int)=F i):eg (λm=>l m 0)=F 0:=
 ht (n+1) λm hm=>up F bj R 0 (by omega) m (by omega)
theorem drop_cons {α:Type} (a:List α) (i:Nat) (h:i<a.length):a.drop i=a[i]::a.drop (i+1):=List.drop_eq_getElem_cons h
def gJ {α:Type} (f:α->Nat):List α->Nat
 |[]=>0
 |x::r=>f x+gJ f r
theorem Fe {α:Type} {f:α->Nat}:∀{l:List α} {x:α},x∈l->f x<=gJ f l
 |y::r,x,h=>by
  simp only[gJ];rcases List.mem_cons.1 h with rfl|h
  .omega
  .have:=Fe (f:=f) h;omega
def gX {α:Type} (f:α->Nat) (l:List α):Nat:=l.length+gJ f l
theorem Ff {α:Type} (f:α->Nat) (l:List α):l.length<=gX f l:=le_add_right _ _
theorem PA {α:Type} {f:α->Nat} {l:List α} {x:α} (h:x∈l):f x<=gX f l:=Nat.le_trans (Fe h) (le_add_left _ _)
theorem Fg (b:Nat) {n:Nat} (h:n<=1048576) (J:b<=4096):nr b (n:Int)=some ():=by
 have U:b*n<=4096*1048576:=Nat.mul_le_mul J h;have ab:((b:Int)*(n:Int))=((b*n:Nat):Int):=by simp
 unfold nr;rw[if_pos ⟨by omega,by rw[ab];omega,by omega⟩]
theorem PB {α:Type} {l:Nat->Int->RH} {f:α->α->RH} (a:List α)
  (Fh:∀m i,l (m+1) i=cond (decide (i<(a.length:Int))) ((cj a i).bind λx=>(cj a i).bind λy=>(f x y).bind λz=>cond (!z) (some false) (l m (i64.wrap (i+1)))) (some true))
  (bq:∀x∈a,f x x=some true) (a1:a.length<=1048576):eg (λm=>l m 0)=some true:=by
 rw[vO (n:=a.length) (λ_=>some true)]
 .intro m;rw[Fh,j5 (Nat.le_refl _)];rfl
 .intro i aC m ih;rw[Fh,lA aC,hS _ i aC,kQ i _ aC (by omega),ih];simp only[cond_true,bind_some,bq _ (List.getElem_mem aC),Bool.not_true,cond_false]
theorem PC (x:Int):(x !=x)=false:=by simp
theorem PD (x:RD):(!(x==x))=false:=by simp
theorem PE (x:Bool):(!(x==x))=false:=by simp
theorem PF (n:Nat):((n:Int) !=(n:Int))=false:=by simp
def tg (p:Nat->Bool) (n:Nat):Bool:=(List.range n).all p
theorem zD {p:Nat->Bool} {n:Nat}:tg p n=true↔∀i,i<n->p i=true:=by simp[tg]
def mm (p:Nat->Bool):Nat->Nat->Int
 |_,0=> -1
 |i,k+1=>if p i=true then(i:Int)else mm p (i+1) k
theorem Fi {p:Nat->Bool}:∀(k i:Nat),(∀j,i<=j->j<i+k->p j=false)->mm p i k= -1
 |0,_,_=>rfl
 |k+1,i,h=>by
  simp only[mm,h i (Nat.le_refl _) (by omega)];exact Fi k (i+1) λj U ab=>h j (by omega) (by omega)
theorem Fj {p:Nat->Bool}:∀(k i j:Nat),i<=j->j<i+k->p j=true->0<=mm p i k
 |0,i,j,U,ab,_=>by omega
 |k+1,i,j,U,ab,ay=>by
  simp only[mm];split
  .omega
  .rename_i h;refine Fj k (i+1) j ?_ (by omega) ay;rcases Nat.lt_or_ge i j with h|h
   .exact h
   .have:i=j:=by omega
    subst this;exact absurd ay (by assumption)
theorem PG (p:Nat->Bool) (n:Nat):decide (0<=mm p 0 n)= !(tg (λi=> !p i) n):=by
 by_cases h:∃j,j<n/\p j=true
 .obtain⟨j,U,ab⟩:=h;have ay:=Fj n 0 j (zero_le _) (by omega) ab;have aQ:tg (λi=> !p i) n=false:=by
   rw[Bool.eq_false_iff];intro gm;have:=zD.1 gm j U;simp[ab]at this
  rw[aQ];simpa using ay
 .have ay:∀j,j<n->p j=false:=λj bE=>by
   cases af:p j
   .rfl
   .exact absurd ⟨j,bE,af⟩ h
  rw[Fi n 0 λj _ ab=>ay j (by omega)];have aQ:tg (λi=> !p i) n=true:=zD.2 λi aC=>by simp[ay i aC]
  rw[aQ];rfl
theorem PH {l:Nat->Int->RI} {n:Nat} (p:Nat->Bool) (bj:∀m,l (m+1) (n:Int)=some (-1))
  (R:∀i,i<n->∀m,l (m+1) (i:Int)=cond (p i) (some (i:Int)) (l m ((i+1:Nat):Int))):eg (λm=>l m 0)=some (mm p 0 n):=by
 rw[vO (n:=n) (λi=>some (mm p i (n-i)))]
 .simp
 .intro m;rw[bj];simp[mm]
 .intro i aC m ih;rw[R i aC,ih,show n-i=(n-(i+1))+1 by omega];cases af:p i<;>simp[af,mm]
theorem q1 {α:Type} (a b c:List α) {i j:Int} (aC:i=(a.length:Int)) (bE:j=((a.length+b.length:Nat):Int)):c8 (a++(b++c)) i j=some b:=by
 unfold c8;have aD:i.toNat=a.length:=by omega
 have aG:j.toNat=a.length+b.length:=by omega
 rw[if_pos (by simp only[List.length_append];omega),aD,aG,<-List.append_assoc,List.take_left' (by simp),List.drop_left' rfl]
theorem nk {b n:Nat} (h:n*b<=140737488355328) (ab:n<=9223372036854775807):room b n=some ():=by unfold room;rw[if_pos ⟨h,ab⟩]
def glue (p:RD):RC->RC
 |[]=>[p]
 |h::t=>(p++h)::t
def cc (c:UInt8):RD->RC
 |[]=>[[]]
 |x::r=>if x=c then []::cc c r else glue [x] (cc c r)
theorem Fk:∀{l:RC},l≠[]->glue [] l=l
 |[],h=>(h rfl).elim
 |_::_,_=>rfl
theorem PI (p q:RD):∀l:RC,glue p (glue q l)=glue (p++q) l
 |[]=>rfl
 |h::t=>by simp only[glue,List.append_assoc]
theorem q2 (c:UInt8):∀s,cc c s≠[]
 |[]=>by simp[cc]
 |x::r=>by
  simp only[cc];split
  .simp
  .cases h:cc c r<;>simp[glue]
theorem th (c:UInt8):∀s,(cc c s).length=s.count c+1
 |[]=>rfl
 |x::r=>by
  simp only[cc];split
  .rename_i h;subst h;simp only[List.length_cons,th x r,List.count_cons_self]
  .rename_i h;have gm:(x==c)=false:=by simpa using h
   rw[List.count_cons,gm];cases e:cc c r with
   |nil=>exact(q2 c r e).elim
   |cons a t=>have:=th c r;rw[e]at this;simpa [glue]using this
theorem Fl (c:UInt8):∀s,c∉s->cc c s=[s]
 |[],_=>rfl
 |x::r,h=>by
  simp only[List.mem_cons,not_or]at h;simp only[cc];rw[if_neg (λe=>h.1 e.symm),Fl c r h.2];rfl
theorem Fm (c:UInt8):∀p q,c∉p->cc c (p++c::q)=p::cc c q
 |[],q,_=>by simp[cc]
 |x::r,q,h=>by
  simp only[List.mem_cons,not_or]at h;simp only[List.cons_append,cc];rw[if_neg (λe=>h.1 e.symm),Fm c r q h.2];rfl
theorem PJ (s x:RD):∀l:RC,l≠[]->fQ (glue x l) s=x++fQ l s
 |[],h=>(h rfl).elim
 |[y],_=>by simp[glue,fQ,List.intercalate,List.intersperse]
 |y::z::r,_=>by simp[glue,fQ,List.intercalate,List.intersperse]
theorem zE (c:UInt8):∀s,fQ (cc c s) [c]=s
 |[]=>by simp[cc,fQ,List.intercalate,List.intersperse]
 |x::r=>by
  simp only[cc];have ih:=zE c r;split
  .rename_i h;subst h;cases e:cc x r with
   |nil=>exact(q2 x r e).elim
   |cons a t=>
    rw[e]at ih;have:fQ ([]::a::t) [x]=x::fQ (a::t) [x]:=by simp[fQ,List.intercalate,List.intersperse]
    rw[this,ih]
  .rw[PJ _ _ _ (q2 c r),ih];rfl
theorem zF (c:UInt8):∀s,c∉s->e5 s c= -1
 |[],_=>rfl
 |x::r,h=>by
  simp only[List.mem_cons,not_or]at h;have gm:(x==c)=false:=by simpa using λe=>h.1 e.symm
  simp only[e5,gm,zF c r h.2];rfl
theorem zG (c:UInt8):∀p q,c∉p->e5 (p++c::q) c=(p.length:Int)
 |[],q,_=>by simp[e5]
 |x::r,q,h=>by
  simp only[List.mem_cons,not_or]at h;have gm:(x==c)=false:=by simpa using λe=>h.1 e.symm
  have ih:=zG c r q h.2;simp only[List.cons_append,e5,gm,ih];have:((r.length:Int)== -1)=false:=by simp
  rw[this];simp
theorem ti {c:UInt8}:∀{s:RD},c∈s->∃p q,s=p++c::q/\c∉p
 |x::r,h=>by
  by_cases e:x=c
  .subst e;exact⟨[],r,rfl,by simp⟩
  .have aN:c∈r:=by
    rcases List.mem_cons.1 h with h|h
    .exact(e h.symm).elim
    .exact h
   obtain⟨p,q,rfl,af⟩:=ti aN;exact⟨x::p,q,rfl,by simp only[List.mem_cons,not_or];exact⟨λh=>e h.symm,af⟩⟩
theorem Fo (s:RD) (c:UInt8) (R:1<=s.length\/True):mT s [c]=some (if s=[c]then 0 else e5 s c):=by
 unfold mT u0 yu;by_cases h:s=[c]
 .subst h;simp
 .have e:([c]==s)=false:=by simpa using λaN=>h aN.symm
  rw[if_neg h,e];rfl
theorem PK {s:RD} {c:UInt8} (h:c∉s):mT s [c]=some (-1):=by
 rw[Fo s c (.inr trivial),if_neg (by rintro rfl;simp at h),zF c s h]
theorem Fp (p q:RD) {c:UInt8} (h:c∉p):mT (p++c::q) [c]=some (p.length:Int):=by
 rw[Fo _ c (.inr trivial),zG c p q h];split
 .rename_i e;cases p with
  |nil=>rfl
  |cons x r=>have:=congrArg List.length e;simp at this
 .rfl
theorem PL (s t:RD):sH s t=mT s t:=by
 unfold sH;cases mT s t<;>rfl
theorem PM {s:RD} {c:UInt8} (h:c∉s):qJ s [c]=some (s,[],false):=by
 unfold qJ u5;rw[PK h];rfl
theorem PN (p q:RD) {c:UInt8} (h:c∉p) (hl:(p++c::q).length<=1048576):qJ (p++c::q) [c]=some (p,q,true):=by
 unfold qJ u5;rw[Fp p q h];simp only[List.length_append,List.length_cons]at hl;have e:decide ((0:Int)<=(p.length:Int))=true:=by simp
 simp only[bind_some,e,cond_true];rw[q0 _ _ (by simp),dL ((p.length:Int)+([c].length:Int)) (by simp;omega)];have aG:c8 (p++c::q) ((p.length:Int)+([c].length:Int)) ((p++c::q).length:Int)=some q:=by
  have:=q1 (p++[c]) q [] (i:=((p.length:Int)+([c].length:Int))) (j:=(((p++c::q).length:Nat):Int)) (by simp) (by simp;omega);simpa using this
 rw[aG];simp
theorem zH (q:RD) {c:UInt8} (hl:q.length<=1048576):strings_TrimSuffix (q++[c]) [c]=some q:=by
 unfold strings_TrimSuffix u2 u1;have e:decide (([c].length:Int)<=((q++[c]).length:Int))=true:=by simp;omega
 have zI:i64.wrap (((q++[c]).length:Int)-([c].length:Int))=(q.length:Int):=by
  rw[dL _ (by simp;omega)];simp
 rw[e,zI];have aG:=q1 q [c] [] (i:=(q.length:Int)) (j:=(((q++[c]).length:Nat):Int)) rfl (by simp);simp only[List.append_nil]at aG;rw[aG,q0 _ _ (by simp)];simp
theorem Fq (q:RD) {c:UInt8} (hl:q.length<=1048576) (h:∀r,q≠r++[c]):strings_TrimSuffix q [c]=some q:=by
 unfold strings_TrimSuffix u2 u1;rcases List.eq_nil_or_concat q with rfl|⟨r,x,rfl⟩
 .rfl
 .simp only[List.concat_eq_append]at*;have ak:x≠c:=by rintro rfl;exact h r rfl
  have e:decide (([c].length:Int)<=((r++[x]).length:Int))=true:=by simp;omega
  have Ry:r.length+1<=1048576:=by simpa using hl
  have zI:i64.wrap (((r++[x]).length:Int)-([c].length:Int))=(r.length:Int):=by
   rw[dL _ (by simp;omega)];simp
  rw[e,zI];have aG:=q1 r [x] [] (i:=(r.length:Int)) (j:=(((r++[x]).length:Nat):Int)) rfl (by simp);simp only[List.append_nil]at aG;rw[aG];have aJ:([x]==[c])=false:=by simpa using ak
  simp only[cond_true,bind_some,aJ,cond_false]
theorem Fs {α:Type} (a:List α) (x y:α) (b:List α):(a++x::b).set a.length y=a++y::b:=by
 rw[List.set_append_right _ _ (Nat.le_refl _),Nat.sub_self,List.set_cons_zero]
theorem zJ {α:Type} (a:List α) (x:α) (b:List α):cj (a++x::b) (a.length:Int)=some x:=by
 rw[hS _ _ (by simp)];simp
theorem zK {α:Type} (a:List α) (x:α) (b:List α):c8 (a++x::b) 0 ((a.length+1:Nat):Int)=some (a++[x]):=by
 rw[q0 _ _ (by simp)];congr 1;rw[show a++x::b=(a++[x])++b by simp,List.take_left' (by simp)]
theorem PO (c:UInt8) (s:RD) (R:s.length<=1048576) (N:Nat) (Rz:N=s.count c+1):
  ∀(k:Nat) (r:RD) (d:RC),r.count c=k->d.length+k+1=N->r.length<=s.length->∀m,k<m->
   pg s [c] 0 (N:Int) m r (d++List.replicate (k+1) []) (d.length:Int)=some (d++cc c r):=by
 have ae:s.count c<=s.length:=List.count_le_length;have Ft:fC false (N:Int) (i64.wrap ((s.length:Int)+1))=(N:Int):=by
  rw[dL _ (by omega)];unfold fC;simp;omega
 have pE:∀(r:RD) (d:RC),d.length<N->c∉r->sI s [c] 0 (N:Int) r (d++List.replicate 1 []) (d.length:Int)=some (d++cc c r):=by
  intro r d ad ax;unfold sI;simp only[List.replicate_succ,List.replicate_zero];rw[zJ,bind_some,Int.toNat_natCast,Fs,dL _ (by omega),show((d.length:Int)+1)=((d.length+1:Nat):Int) by omega,zK,Fl c r ax];rfl
 intro k;induction k with
 |zero=>
  intro r d ax ad hl m hm;obtain⟨m,rfl⟩:∃j,m=j+1:=⟨m-1,by omega⟩
  simp only[pg,yy];have e:decide ((d.length:Int)<i64.wrap (fC false (N:Int) (i64.wrap ((s.length:Int)+1))-1))=false:=by
   rw[Ft,dL _ (by omega)];simp;omega
  rw[e,cond_false];exact pE r d (by omega) (List.count_eq_zero.1 ax)
 |succ k ih=>
  intro r d ax ad hl m hm;obtain⟨m,rfl⟩:∃j,m=j+1:=⟨m-1,by omega⟩
  obtain⟨p,q,rfl,af⟩:=ti (c:=c) (s:=r) (List.count_pos_iff.1 (by omega));simp only[pg,yy];have e:decide ((d.length:Int)<i64.wrap (fC false (N:Int) (i64.wrap ((s.length:Int)+1))-1))=true:=by
   rw[Ft,dL _ (by omega)];simp;omega
  simp only[List.length_append,List.length_cons]at hl;rw[e,cond_true,PL,Fp p q af,bind_some];have aG:decide ((p.length:Int)<0)=false:=by simp
  rw[aG,cond_false,dL ((p.length:Int)+0) (by omega),Int.add_zero,q0 _ _ (by simp)];have aJ:c8 (p++c::q) (i64.wrap ((p.length:Int)+([c].length:Int))) ((p++c::q).length:Int)=some q:=by
   rw[dL _ (by simp;omega)];have:=q1 (p++[c]) q [] (i:=((p.length:Int)+([c].length:Int))) (j:=(((p++c::q).length:Nat):Int)) (by simp) (by simp;omega);simpa using this
  rw[bind_some,List.take_left' rfl,show List.replicate (k+1+1) ([]:RD)=[]::List.replicate (k+1) []from rfl,zJ,bind_some,aJ,bind_some,Int.toNat_natCast,Fs,dL ((d.length:Int)+1) (by omega)];have PQ:q.count c=k:=by
   rw[List.count_append,List.count_cons_self,List.count_eq_zero.2 af]at ax;omega
  have:=ih q (d++[p]) PQ (by simp;omega) (by omega) m (by omega);simp only[List.append_assoc,List.singleton_append,List.length_append,List.length_cons,List.length_nil]at this;rw[Fm c p q af,<-this];congr 1
theorem Fu (c:UInt8) (s:RD) (R:s.length<=1048576):sJ s [c]=some (cc c s):=by
 have ae:s.count c<=s.length:=List.count_le_length;unfold sJ yz yx yv u3;have aD:((-1:Int)==0)=false:=by decide
 have aG:([c]==([]:RD))=false:=rfl;have aJ:decide ((-1:Int)<0)=true:=by decide
 have bp:(([c].length:Int)==0)=false:=rfl;have bJ:(([c].length:Int)==1)=true:=rfl;rw[aD,aG,aJ,bp,bJ];simp only[cond_false,cond_true,vN,bind_some];rw[dL ((s.count c:Int)+1) (by omega),dL ((s.length:Int)+1) (by omega)];have hm:fC false ((s.count c:Int)+1) ((s.length:Int)+1)=((s.count c+1:Nat):Int):=by
  unfold fC;simp;omega
 have ag:nr 16 ((s.count c+1:Nat):Int)=some ():=by
  unfold nr;rw[if_pos ⟨by omega,by omega,by omega⟩]
 have hl:eg (λn=>pg s [c] 0 ((s.count c:Int)+1) n s (List.replicate (s.count c+1) []) 0)=some (cc c s):=by
  refine ht (s.count c+1) λm hm=>?_;have:=PO c s R (s.count c+1) rfl (s.count c) s [] rfl (by simp) (Nat.le_refl _) m (by omega);simpa using this
 rw[hm,ag];simp only[bind_some,Int.toNat_natCast];rw[hl];rfl
theorem Fv (c:UInt8) (s:RD) (R:s.length<=1048576):ss s c=some (cc c s):=by
 have key:∀i,i<=s.length->∀m,s.length-i<m->∀(v:RC) (f:Nat),f<=i->v.length<=i->
   o9 s c m v (f:Int) (i:Int)=some (v++glue ((s.take i).drop f) (cc c (s.drop i))):=by
  refine down s.length ?_ ?_
  .intro m hm v f bq az;obtain⟨m,rfl⟩:∃j,m=j+1:=⟨m-1,by omega⟩
   simp only[o9,yo];rw[j5 (Nat.le_refl _),cond_false];have e:c8 s (f:Int) (s.length:Int)=some (s.drop f):=by
    unfold c8;rw[if_pos ⟨by omega,by omega,by omega⟩];simp
   rw[e,bind_some,nk (by omega) (by omega),bind_some,List.take_length,List.drop_length];simp[cc,glue]
  .intro i aC ih m hm v f bq az;obtain⟨m,rfl⟩:∃j,m=j+1:=⟨m-1,by omega⟩
   simp only[o9,yo,uQ];rw[lA aC,cond_true,hS s i aC,bind_some,drop_cons s i aC];simp only[cc];by_cases ae:s[i]=c
   .have e:((s[i].toNat:Int)==(c.toNat:Int))=true:=by rw[ae];simp
    have aG:c8 s (f:Int) (i:Int)=some ((s.take i).drop f):=by
     unfold c8;rw[if_pos ⟨by omega,by omega,by omega⟩];simp
    rw[e,cond_true,aG,bind_some,nk (by omega) (by omega),bind_some,if_pos ae,kQ i s.length aC (by omega),ih m (by omega) _ (i+1) (Nat.le_refl _) (by simp;omega)];rw[List.drop_of_length_le (l:=List.take (i+1) s) (by rw[List.length_take];omega),Fk (q2 _ _)];simp[glue]
   .have e:((s[i].toNat:Int)==(c.toNat:Int))=false:=by
     simp only[beq_eq_false_iff_ne,ne_eq];intro h;exact ae (UInt8.toNat_inj.1 (by omega))
    rw[e,cond_false,if_neg ae,kQ i s.length aC (by omega),ih m (by omega) _ f (by omega) (by omega),PI];congr 3;rw[List.take_succ_eq_append_getElem aC,List.drop_append_of_le_length (by simp;omega)]
 unfold ss;refine ht (s.length+1) λm hm=>?_;have:=key 0 (by omega) m (by omega) [] 0 (Nat.le_refl _) (zero_le _);simpa [Fk (q2 c s)]using this
theorem PR:∀d:Fin 10,i64.wrap (u8.wrap (((48+d.val:Nat):Int)-48))=((d.val:Nat):Int):=by decide
theorem u8_in:∀c:UInt8,de c=true->i64.wrap (u8.wrap ((c.toNat:Int)-48))=((c.toNat-48:Nat):Int):=by
 intro c h;simp only[de,Bool.and_eq_true,decide_eq_true_eq]at h;have:=PR ⟨c.toNat-48,by omega⟩;simp only at this
 rwa [show 48+(c.toNat-48)=c.toNat by omega]at this
theorem PS (c:UInt8):qq c=some (de c):=by
 unfold qq de;congr 2
 .rw[decide_eq_decide];omega
 .rw[decide_eq_decide];omega
def fZ (n:Nat) (d:RD):Nat:=d.foldl (λn c=>10*n+(c.toNat-48)) n
theorem zL:∀(d:RD) (n k:Nat),d.all de=true->n<10^k->fZ n d<10^(k+d.length)
 |[],n,k,_,h=>by simpa [fZ]using h
 |c::r,n,k,ad,h=>by
  simp only[List.all_cons,Bool.and_eq_true]at ad;have ae:=ad.1;simp only[de,Bool.and_eq_true,decide_eq_true_eq]at ae;have:=zL r (10*n+(c.toNat-48)) (k+1) ad.2 (by rw[Nat.pow_succ];omega);rw[List.length_cons,show k+(r.length+1)=k+1+r.length by omega];exact this
theorem Fw (s:RD) (a:Int) (R:s.length<=1048576):∀(d:RD) (i n k:Nat),s.drop i=d->i<=s.length->n<10^k->k+d.length<=18->∀m,d.length<m->
  mQ s a m (n:Int) (i:Int)=some (if d.all de=true then(if a=1 then-(fZ n d:Int)else fZ n d,true)else(0,false))
 |[],i,n,k,ad,aC,aT,ag,m,hm=>by
  obtain⟨m,rfl⟩:∃j,m=j+1:=⟨m-1,by simp at hm;omega⟩
  have PT:i=s.length:=by
   have:=congrArg List.length ad;rw[List.length_drop]at this;simp at this;omega
  subst PT;have ix:n<10^18:=Nat.lt_of_lt_of_le aT (Nat.pow_le_pow_right (by omega) (by simpa using ag));simp only[mQ,yp,su];rw[j5 (Nat.le_refl _),cond_false];by_cases a1:a=1
  .subst a1;simp only[BEq.rfl,cond_true];rw[dL _ (by omega)];simp[fZ]
  .have:(a==1)=false:=by simpa using a1
   rw[this,cond_false];simp[fZ,a1]
 |c::r,i,n,k,ad,aC,aT,ag,m,hm=>by
  obtain⟨m,rfl⟩:∃j,m=j+1:=⟨m-1,by simp at hm;omega⟩
  have tj:i<s.length:=by
   have:=congrArg List.length ad;rw[List.length_drop]at this;simp at this;omega
  rw[drop_cons s i tj]at ad;injection ad with U ab;simp only[List.length_cons]at ag hm;have ix:n<10^17:=Nat.lt_of_lt_of_le aT (Nat.pow_le_pow_right (by omega) (by omega));simp only[mQ,yp];rw[lA tj,cond_true,hS s i tj,bind_some,U,PS,bind_some,List.all_cons];cases ae:de c
  .simp
  .have pF:=ae;simp only[de,Bool.and_eq_true,decide_eq_true_eq]at pF;simp only[Bool.not_true,cond_false,Bool.true_and];rw[u8_in c ae,dL (10*(n:Int)) (by omega),dL _ (by omega),kQ i s.length tj (by omega),show(10*(n:Int)+((c.toNat-48:Nat):Int))=((10*n+(c.toNat-48):Nat):Int) by omega];exact Fw s a R r (i+1) (10*n+(c.toNat-48)) (k+1) ab tj (by rw[Nat.pow_succ];omega) (by omega) m (by omega)
theorem zM (s:RD) (k:Nat) (R:s.length<=1048576) (ag:k<=1) (hl:k<=s.length):qs s (k:Int)=some (hM k (s.drop k)):=by
 unfold qs hM;by_cases bj:s.length=k
 .have e:((s.length:Int)==(k:Int))=true:=by simp;omega
  rw[e,cond_true,List.drop_of_length_le (by omega)];simp
 have e:((s.length:Int)==(k:Int))=false:=by simp;omega
 rw[e,cond_false,dL _ (by omega)];have Fx:(s.drop k).length=s.length-k:=List.length_drop;have bT:s.drop k≠[]:=by
  intro h;rw[h]at Fx;simp at Fx;omega
 by_cases U:18<s.length-k
 .have e:decide (18<(s.length:Int)-(k:Int))=true:=by simp;omega
  rw[e,cond_true,if_neg (by intro h;omega)]
 have e:decide (18<(s.length:Int)-(k:Int))=false:=by simp;omega
 have si:k<s.length:=by omega
 rw[e,cond_false,hS s k si,bind_some];have gm:(s.drop k).head? =some s[k]:=by rw[drop_cons s k si];rfl
 have Fy:eg (λn=>mQ s (k:Int) n 0 (k:Int))=some (if(s.drop k).all de=true then(if(k:Int)=1 then-(fZ 0 (s.drop k):Int)else fZ 0 (s.drop k),true)else(0,false)):=by
  refine ht (s.length+1) λm hm=>?_;exact Fw s (k:Int) R (s.drop k) k 0 0 rfl hl (by omega) (by omega) m (by omega)
 have az:fh (s.drop k)=fZ 0 (s.drop k):=rfl;have uD:((k:Int)=1)=(k=1):=by apply propext;omega
 simp only[uD]at Fy;rw[Fy,gm,az];by_cases gK:s[k]=48
 .have e:((s[k].toNat:Int)==48)=true:=by rw[gK];rfl
  rw[e,cond_true];by_cases ab:1<s.length
  .have e:decide ((1:Int)<(s.length:Int))=true:=by simp;omega
   rw[e,cond_true,if_neg (by intro h;exact h.2.2.2 ⟨by rw[gK],by omega⟩)]
  .have e:decide ((1:Int)<(s.length:Int))=false:=by simp;omega
   rw[e,cond_false];by_cases a1:(s.drop k).all de=true
   .rw[if_pos a1,if_pos (show s.drop k≠[]/\(s.drop k).length<=18/\(s.drop k).all de=true/\¬(some s[k]=some 48/\1<(s.drop k).length+k)from⟨bT,by omega,a1,by rintro⟨_,h⟩;omega⟩)]
   .rw[if_neg a1,if_neg (λh=>a1 h.2.2.1)]
 .have e:((s[k].toNat:Int)==48)=false:=by
   simp only[beq_eq_false_iff_ne,ne_eq];intro h;exact gK (UInt8.toNat_inj.1 (by rw[show(48:UInt8).toNat=48 from rfl];omega))
  rw[e,cond_false];by_cases a1:(s.drop k).all de=true
  .rw[if_pos a1,if_pos (show s.drop k≠[]/\(s.drop k).length<=18/\(s.drop k).all de=true/\¬(some s[k]=some 48/\1<(s.drop k).length+k)from⟨bT,by omega,a1,by rintro⟨h,_⟩;exact gK (some.inj h)⟩)]
  .rw[if_neg a1,if_neg (λh=>a1 h.2.2.1)]
theorem vP (s:RD) (R:s.length<=1048576):o_ s=some (dA s):=by
 unfold o_ dA;cases s with
 |nil=>exact zM [] 0 (by simp) (by omega) (by simp)
 |cons c r=>
  rw[show decide ((0:Int)<(((c::r).length:Nat):Int))=true from vK (by simp),cond_true,vN,bind_some];by_cases h:c=45
  .subst h;have e:(((45:UInt8).toNat:Int)==45)=true:=rfl;rw[e,cond_true,if_pos (show(45::r).head? =some 45 from rfl)];exact zM (45::r) 1 R (by omega) (by simp)
  .have e:((c.toNat:Int)==45)=false:=by
    simp only[beq_eq_false_iff_ne,ne_eq];intro aN;exact h (UInt8.toNat_inj.1 (by rw[show(45:UInt8).toNat=45 from rfl];omega))
   rw[e,cond_false,if_neg (by intro aN;exact h (some.inj aN))];exact zM (c::r) 0 R (by omega) (by simp)
theorem tk:∀c:UInt8,de c=true->UInt8.ofNat (48+(c.toNat-48))=c:=by
 intro c h;simp only[de,Bool.and_eq_true,decide_eq_true_eq]at h;rw[show 48+(c.toNat-48)=c.toNat by omega];exact UInt8.ofNat_toNat
theorem PU {w:RD} {v:Int} (h:dA w=(v,true)) (bj:0<=v) (U:v<=63):w=nt v.toNat:=by
 unfold dA at h;split at h
 .rename_i gm;unfold hM at h;split at h
  .rename_i ae;obtain⟨bb,c2,c3,c4⟩:=ae;exfalso;simp only[if_pos,Prod.mk.injEq,and_true]at h;cases hw:w.tail with
   |nil=>exact bb hw
   |cons c r=>
    rw[hw]at c3 c4 h;simp only[List.all_cons,Bool.and_eq_true]at c3;have ae:=c3.1;simp only[de,Bool.and_eq_true,decide_eq_true_eq]at ae;have gK:c≠48:=λe=>c4 ⟨by rw[e];rfl,by simp⟩;have Fz:1<=c.toNat-48:=by
     rcases Nat.lt_or_ge 48 c.toNat with h|h
     .omega
     .exact(gK (UInt8.toNat_inj.1 (by rw[show(48:UInt8).toNat=48 from rfl];omega))).elim
    have mono:∀(d:RD) (n:Nat),1<=n->1<=fZ n d:=by
     intro d;induction d with
     |nil=>intro n h;exact h
     |cons x d ih=>intro n h;exact ih (10*n+(x.toNat-48)) (by omega)
    have:1<=fh (c::r):=mono r (10*0+(c.toNat-48)) (by omega);omega
  .cases h
 .unfold hM at h;split at h
  .rename_i ae;obtain⟨bb,c2,c3,c4⟩:=ae;simp only[show(0:Nat)≠1 from by decide,if_false,Prod.mk.injEq,and_true]at h;subst h;have mono:∀(d:RD) (n:Nat),n<=fZ n d:=by
    intro d;induction d with
    |nil=>intro n;exact Nat.le_refl _
    |cons x d ih=>intro n;exact Nat.le_trans (by omega) (ih (10*n+(x.toNat-48)))
   match w,bb,c3,c4 with
   |[a],_,c3,_=>
    simp only[List.all_cons,List.all_nil,Bool.and_true]at c3;have e:fh [a]=a.toNat-48:=by simp[fh]
    have ad:=tk a c3;simp only[de,Bool.and_eq_true,decide_eq_true_eq]at c3;rw[e,Int.toNat_natCast,nt,if_pos (by omega),ad]
   |a::b::r,_,c3,c4=>
    simp only[List.all_cons,Bool.and_eq_true]at c3;have a1:=c3.1;have J:=c3.2.1;have PV:=tk a a1;have PW:=tk b J;simp only[de,Bool.and_eq_true,decide_eq_true_eq]at a1 J;have gK:a≠48:=λe=>c4 ⟨by rw[e];rfl,by simp⟩;have Fz:1<=a.toNat-48:=by
     rcases Nat.lt_or_ge 48 a.toNat with h|h
     .omega
     .exact(gK (UInt8.toNat_inj.1 (by rw[show(48:UInt8).toNat=48 from rfl];omega))).elim
    have e:fh (a::b::r)=fZ (10*(10*0+(a.toNat-48))+(b.toNat-48)) r:=rfl;cases r with
    |nil=>
     have aG:fh [a,b]=10*(a.toNat-48)+(b.toNat-48):=by simp[fh]
     rw[aG,Int.toNat_natCast,nt,if_neg (by omega)];rw[show(10*(a.toNat-48)+(b.toNat-48))/10=a.toNat-48 by omega,show(10*(a.toNat-48)+(b.toNat-48))%10=b.toNat-48 by omega,PV,PW]
    |cons x r=>
     exfalso;have:=mono r (10*(10*(10*0+(a.toNat-48))+(b.toNat-48))+(x.toNat-48));have aJ:fh (a::b::x::r)=fZ (10*(10*(10*0+(a.toNat-48))+(b.toNat-48))+(x.toNat-48)) r:=rfl;omega
  .cases h
def tl:Lib.NumEnd Nat:=Lib.parseUintB 64 []
theorem FA:∀(d:RD) (n k:Nat),n<10^k->k+d.length<=18->Lib.parseUintM 18446744073709551615 n d=if d.all de=true then .ok (fZ n d)else tl
 |[],n,k,_,_=>by simp[Lib.parseUintM,fZ]
 |c::r,n,k,aT,ag=>by
  simp only[List.length_cons]at ag;have ix:n<10^17:=Nat.lt_of_lt_of_le aT (Nat.pow_le_pow_right (by omega) (by omega));simp only[Lib.parseUintM];have fk:(c::r).all de=(de c&&r.all de):=rfl;by_cases ae:de c=true
  .have pF:=ae;simp only[de,Bool.and_eq_true,decide_eq_true_eq]at pF;have zN:(c::r).all de=r.all de:=by rw[fk,ae];rfl
   rw[if_pos pF,if_neg (by omega),if_neg (by omega),zN,show n*10+(c.toNat-48)=10*n+(c.toNat-48) by omega,FA r _ (k+1) (by rw[Nat.pow_succ];omega) (by omega)];rfl
  .have pF:¬(48<=c.toNat/\c.toNat<=57):=λh=>ae (by simp only[de,Bool.and_eq_true,decide_eq_true_eq];exact h);have sT:de c=false:=by simpa using ae
   have zN:(c::r).all de=false:=by rw[fk,sT];rfl
   rw[if_neg pF,zN];simp;rfl
theorem PX (n x:Nat) (aT:1<=n) (ak:x<=9):Lib.decDigits (10*n+x)=Lib.decDigits n++[UInt8.ofNat (48+x)]:=by
 rw[Lib.decDigits,dif_neg (by omega),show(10*n+x)/10=n by omega,show(10*n+x)%10=x by omega]
theorem FB:∀(d:RD) (n:Nat),1<=n->d.all de=true->Lib.decDigits (fZ n d)=Lib.decDigits n++d
 |[],n,_,_=>by simp[fZ]
 |c::r,n,aT,ad=>by
  simp only[List.all_cons,Bool.and_eq_true]at ad;have ae:=ad.1;have e:=tk c ad.1;simp only[de,Bool.and_eq_true,decide_eq_true_eq]at ae;show Lib.decDigits (fZ (10*n+(c.toNat-48)) r)=_;rw[FB r _ (by omega) ad.2,PX n (c.toNat-48) aT (by omega),e];simp
theorem zO (u:Nat):∃c t,Lib.decDigits u=c::t/\de c=true/\(1<=u->c≠48):=by
 induction u using Nat.strongRecOn with
 |_ u ih=>
  rw[Lib.decDigits];by_cases h:u<10
  .rw[dif_pos h];refine⟨_,_,rfl,?_,?_⟩
   .have:∀i:Fin 10,de (UInt8.ofNat (48+i.val))=true:=by decide
    exact this ⟨u,h⟩
   .have:∀i:Fin 10,1<=i.val->UInt8.ofNat (48+i.val)≠48:=by decide
    exact this ⟨u,h⟩
  .rw[dif_neg h];obtain⟨c,t,U,ab,ay⟩:=ih (u/10) (by omega);exact⟨c,t++_,by rw[U];rfl,ab,λ_=>ay (by omega)⟩
theorem FC (c:UInt8) (r:RD) (ad:(c::r).all de=true):Lib.decDigits (fh (c::r))=c::r↔(c≠48\/r=[]):=by
 simp only[List.all_cons,Bool.and_eq_true]at ad;have ae:=ad.1;have e:=tk c ad.1;simp only[de,Bool.and_eq_true,decide_eq_true_eq]at ae;have az:fh (c::r)=fZ (c.toNat-48) r:=by
  show fZ (10*0+(c.toNat-48)) r=_;rw[Nat.mul_zero,Nat.zero_add]
 rw[az];by_cases gK:c=48
 .subst gK;constructor
  .intro h;cases r with
   |nil=>exact .inr rfl
   |cons x t=>
    exfalso;obtain⟨rK,yj,U,ab,ay⟩:=zO (fZ ((48:UInt8).toNat-48) (x::t));rw[U]at h;injection h with aQ bc;by_cases bW:1<=fZ ((48:UInt8).toNat-48) (x::t)
    .exact ay bW aQ
    .have bj:fZ ((48:UInt8).toNat-48) (x::t)=0:=by omega
     rw[bj,Lib.decDigits,dif_pos (by omega)]at U;injection U with _ b4;rw[<-b4]at bc;cases bc
  .rintro(h|rfl)
   .exact(h rfl).elim
   .show Lib.decDigits 0=_;rw[Lib.decDigits,dif_pos (by omega)];rfl
 .have U:1<=c.toNat-48:=by
   rcases Nat.lt_or_ge 48 c.toNat with h|h
   .omega
   .exact(gK (UInt8.toNat_inj.1 (by rw[show(48:UInt8).toNat=48 from rfl];omega))).elim
  refine⟨λ_=>.inl gK,λ_=>?_⟩;rw[FB r _ U ad.2,Lib.decDigits,dif_pos (by omega),e];rfl
theorem zP (d:RD) (h:d.all de=true) (hl:d.length<=18):fh d<10^18:=by
 have:=zL d 0 0 h (by omega);have ab:(10:Nat)^(0+d.length)<=10^18:=Nat.pow_le_pow_right (by omega) (by omega);exact Nat.lt_of_lt_of_le this ab
theorem zQ (d:RD) (hl:d.length<=18):Lib.parseUintB 64 d=if d≠[]/\d.all de=true then .ok (fh d)else tl:=by
 unfold Lib.parseUintB;by_cases h:d=[]
 .rw[if_pos h,if_neg (λaN=>aN.1 h)];rfl
 .rw[if_neg h,show(2^64-1:Nat)=18446744073709551615 from rfl,FA d 0 0 (by omega) (by omega)];by_cases ad:d.all de=true
  .rw[if_pos ad,if_pos ⟨h,ad⟩];rfl
  .rw[if_neg ad,if_neg (λaN=>ad aN.2)]
def mb (s:RD):Int×Bool:=match Lib.parseIntB 64 s with
 | .ok v=>if Lib.itoa v=s then(v,true)else(0,false)
 |_=>(0,false)
theorem zR {k:Nat} {d:RD} (h:¬(d≠[]/\d.all de=true)):hM k d=(0,false):=by
 unfold hM;rw[if_neg (λaN=>h ⟨aN.1,aN.2.2.1⟩)]
theorem FD {k:Nat} {d:RD} (U:d.head? =some 48) (ab:1<d.length+k):hM k d=(0,false):=by
 unfold hM;rw[if_neg (λaN=>aN.2.2.2 ⟨U,ab⟩)]
theorem FE {k:Nat} {d:RD} (h:d≠[]/\d.length<=18/\d.all de=true/\¬(d.head? =some 48/\1<d.length+k)):hM k d=(if k=1 then-(fh d:Int)else fh d,true):=by
 unfold hM;rw[if_pos h]
theorem MJ (s:RD) (h:(if s.head? =some 45 then s.tail else s).length<=18):Lib.parseIntB 64 s≠.range/\mb s=dA s:=by
 unfold mb dA;cases s with
 |nil=>exact⟨by simp[Lib.parseIntB],by simp[Lib.parseIntB,hM]⟩
 |cons c r=>
  by_cases zS:c=45
  .subst zS;rw[if_pos (show(45::r).head? =some 45 from rfl)]at h⊢;simp only[List.tail_cons]at h⊢;have PY:(45:UInt8).toNat=45:=rfl;simp only[Lib.parseIntB,PY,or_true,if_true];rw[zQ r h];by_cases ax:r≠[]/\r.all de=true
   .rw[if_pos ax];have cq:=zP r ax.2 h;have oM:(2:Nat)^(64-1)=9223372036854775808:=by decide
    simp only[not_true,false_and,if_false,oM,true_and];rw[if_neg (by omega)];refine⟨by simp,?_⟩;simp only;obtain⟨x,t,rfl⟩:∃x t,r=x::t:=by
     cases r with
     |nil=>exact(ax.1 rfl).elim
     |cons x t=>exact⟨x,t,rfl⟩
    have tm:=FC x t ax.2;by_cases gK:x=48
    .rw[FD (by rw[gK];rfl) (by simp)];rw[if_neg];intro aC;by_cases bj:fh (x::t)=0
     .rw[bj]at aC;have fD:Lib.decDigits 0=[48]:=by rw[Lib.decDigits,dif_pos (by omega)];rfl
      simp[Lib.itoa,fD]at aC
     .unfold Lib.itoa at aC;rw[if_pos (by omega)]at aC;injection aC with _ aC;rw[show(-(fh (x::t):Int)).natAbs=fh (x::t) by omega]at aC;obtain⟨rK,yj,ek,dx,fU⟩:=zO (fh (x::t));rw[ek]at aC;injection aC with rY _;exact fU (by omega) (rY.trans gK)
    .have Fz:1<=fh (x::t):=by
      have:=(tm.2 (.inl gK))
      rcases eq_zero_or_pos (fh (x::t))with bj|bj
      .rw[bj,Lib.decDigits,dif_pos (by omega)]at this;injection this with this _;exact(gK this.symm).elim
      .exact bj
     rw[FE ⟨by simp,h,ax.2,λaN=>gK (some.inj aN.1)⟩];rw[if_pos]
     .simp
     .unfold Lib.itoa;rw[if_pos (by omega),show(-(fh (x::t):Int)).natAbs=fh (x::t) by omega,tm.2 (.inl gK)]
   .rw[if_neg ax,zR ax];exact⟨by simp[tl,Lib.parseUintB],rfl⟩
  .have gm:¬((c::r).head? =some 45):=λe=>zS (some.inj e);rw[if_neg gm]at h⊢;have s4:c.toNat≠45:=λe=>zS (UInt8.toNat_inj.1 (by rw[show(45:UInt8).toNat=45 from rfl];exact e));have oM:(2:Nat)^(64-1)=9223372036854775808:=by decide
   by_cases FF:c.toNat=43
   .simp only[Lib.parseIntB,FF,true_or,if_true];have FG:r.length<=18:=by simp at h;omega
    rw[zQ r FG];have hx:hM 0 (c::r)=(0,false):=zR λaN=>by
     have:=aN.2;simp only[List.all_cons,Bool.and_eq_true]at this;have:=this.1;simp only[de,Bool.and_eq_true,decide_eq_true_eq]at this;omega
    rw[hx];by_cases ax:r≠[]/\r.all de=true
    .rw[if_pos ax];have cq:=zP r ax.2 FG;simp only[show¬((43:Nat)=45)from by decide,not_false_eq_true,true_and,false_and,if_false,oM];rw[if_neg (by omega)];refine⟨by simp,?_⟩;simp only;rw[if_neg];intro aC;unfold Lib.itoa at aC;rw[if_neg (by omega),Int.toNat_natCast]at aC;obtain⟨rK,yj,ek,dx,_⟩:=zO (fh r);rw[ek]at aC;injection aC with aC _;rw[aC]at dx;simp only[de,Bool.and_eq_true,decide_eq_true_eq]at dx;omega
    .rw[if_neg ax];exact⟨by simp[tl,Lib.parseUintB],rfl⟩
   .simp only[Lib.parseIntB,FF,s4,_root_.or_self,if_false];rw[zQ (c::r) h];by_cases ax:(c::r)≠[]/\(c::r).all de=true
    .rw[if_pos ax];have cq:=zP (c::r) ax.2 h;simp only[not_false_eq_true,true_and,false_and,if_false,oM];rw[if_neg (by omega)];refine⟨by simp,?_⟩;simp only;have tm:=FC c r ax.2;have yl:Lib.itoa (fh (c::r):Int)=Lib.decDigits (fh (c::r)):=by
      unfold Lib.itoa;rw[if_neg (by omega),Int.toNat_natCast]
     rw[yl];by_cases tn:c≠48\/r=[]
     .rw[if_pos (tm.2 tn),FE ⟨by simp,h,ax.2,λaN=>by
       rcases tn with U|U
       .exact U (some.inj aN.1)
       .subst U;simp at aN⟩]
      simp
     .have gK:c=48:=by
       by_cases q:c=48
       .exact q
       .exact(tn (.inl q)).elim
      have bT:r≠[]:=λq=>tn (.inr q);rw[if_neg (λaN=>tn (tm.1 aN)),FD (by rw[gK];rfl) (by
       cases r with
       |nil=>exact(bT rfl).elim
       |cons x t=>simp)]
    .rw[if_neg ax,zR ax];exact⟨by simp[tl,Lib.parseUintB],rfl⟩
end Go.lh
