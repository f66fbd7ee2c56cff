/- Part of a proof that a law returns true for every input. No condition. -/
import Derived.Test.YtmaepbgkcmjcjaiGreatDoorUV3x
import Derived.Test.YtmaepbgkcmjcjaiGreatDoorUV2x
import Derived.Test.YtmaepbgkcmjcjaiGreatDoorUV1x
import Derived.Test.YtmaepbgkcmjcjaiGreatDoorUV0x
namespace Go.l_
open Option Go.IntKind Nat
open Go Go.eg
def r_ (x y:bb):Bool:=(x.Label==y.Label)&&((x.Next.cE==y.Next.cE)&&((x.Next.Part==y.Next.Part)&&(x.Next.bV==y.Next.bV)))
def lB (o:azD) (s:bb):azD:=if(o.any λx=>r_ x s)=true then o else o++[s]
def mC (o:azD) (s:bb):azD:=if 200<o.length then o else lB o s
theorem Ta {x y:bb}:r_ x y=true↔x=y:=by
 cases x with
 |mk ayY avg=>
  cases avg;cases y with
  |mk ayZ avh=>
   cases avh;simp[r_]
theorem Tb (a b:aze) (h:a.length<=1048576):F2 a b=some (a==b):=by
 unfold F2;by_cases aC:a.length=b.length
 .have e:((a.length:Int) !=(b.length:Int))=false:=by simp[aC]
  rw[e,cond_false];have:=oV (n:=a.length) (l:=Cc a b) (λi=>some (a.drop i==b.drop i)) (λm=>?_) (λi ai m ih=>?_)
  .simpa using this
  .simp only[Cc,Pg];rw[ev (Nat.le_refl _),List.drop_of_length_le (Nat.le_refl _),List.drop_of_length_le (by omega)];rfl
  .simp only[Cc,Pg];rw[d_ ai,dJ _ i ai,dJ _ i (by omega),dQ i _ ai (by omega),drop_cons a i ai,drop_cons b i (by omega),List.cons_beq_cons];simp only[cond_true,bind_some,ih,bne];cases a[i]==b[i]
   .rfl
   .simp
 .have e:((a.length:Int) !=(b.length:Int))=true:=by simp;omega
  have aU:(a==b)=false:=by
   rw[beq_eq_false_iff_ne];intro h;exact aC (by rw[h])
  rw[e,cond_true,aU]
theorem avi (o:azD) (s:bb) (h:o.length<=1048576) (hg:∀x∈o,fG x):JF o s=some (lB o s):=by
 have ec:lB o s=cond (o.any λx=>r_ x s) o (o++[s]):=by
  unfold lB;cases o.any λx=>r_ x s<;>rfl
 unfold JF;rw[ec,oV (n:=o.length) (l:=Ce o s) (λi=>some (cond ((o.drop i).any λx=>r_ x s) o (o++[s]))) (λm=>?_) (λi ai m ih=>?_),List.drop_zero]
 .simp only[Ce,Ph];rw[ev (Nat.le_refl _),ky (by omega) (by omega),List.drop_of_length_le (Nat.le_refl _)];rfl
 .simp only[Ce,Ph];rw[d_ ai,dJ _ i ai,dQ i _ ai (by omega),drop_cons o i ai];simp only[cond_true,bind_some,ih,List.any_cons];have aF:=(hg _ (List.getElem_mem ai)).kz.1;unfold Cd;rw[Tb _ _ (by omega)];have e:r_ o[i] s=((o[i].Label==s.Label)&&((o[i].Next.cE==s.Next.cE)&&((o[i].Next.Part==s.Next.Part)&&(o[i].Next.bV==s.Next.bV)))):=rfl;rw[e];cases o[i].Label==s.Label
  .rfl
  .cases o[i].Next.cE==s.Next.cE
   .rfl
   .cases o[i].Next.Part==s.Next.Part
    .rfl
    .cases o[i].Next.bV==s.Next.bV
     .rfl
     .rfl
theorem abw (o:azD) (s:bb):o.length<=(lB o s).length/\(lB o s).length<=o.length+1:=by
 unfold lB;split
 .omega
 .simp
theorem abx {o:azD} {s:bb} (hg:∀x∈o,fG x) (aa:fG s):∀x∈lB o s,fG x:=by
 intro x an;unfold lB at an;split at an
 .exact hg x an
 .rcases List.mem_append.1 an with an|an
  .exact hg x an
  .rw[List.mem_singleton]at an;rwa [an]
theorem avj {o:azD} {s:bb} (bL:o.length<=201) (hg:∀x∈o,fG x) (aa:fG s):(mC o s).length<=201/\∀x∈mC o s,fG x:=by
 unfold mC;split
 .exact⟨bL,hg⟩
 .have:=abw o s;exact⟨by omega,abx hg aa⟩
theorem Tc:∀(l o:azD),o.length<=201->(∀x∈o,fG x)->(∀x∈l,fG x)->(l.foldl mC o).length<=201/\∀x∈l.foldl mC o,fG x
 |[],o,bL,hg,_=>⟨bL,hg⟩
 |s::r,o,bL,hg,aC=>by
  obtain⟨ad,ae⟩:=avj bL hg (aC s (by simp));exact Tc r (mC o s) ad ae λx an=>aC x (List.mem_cons_of_mem _ an)
theorem DS:∀(l o:azD),200<o.length->l.foldl mC o=o
 |[],o,_=>rfl
 |s::r,o,h=>by rw[List.foldl_cons,show mC o s=o by unfold mC;rw[if_pos h],DS r o h]
theorem aby:∀(l o:azD),o.length<=(l.foldl lB o).length
 |[],o=>Nat.le_refl _
 |s::r,o=>Nat.le_trans (abw o s).1 (aby r _)
theorem abz:∀(l o:azD),((l.foldl lB o).length<=200->l.foldl mC o=l.foldl lB o)/\(200<(l.foldl lB o).length->200<(l.foldl mC o).length)
 |[],o=>⟨λ_=>rfl,λh=>h⟩
 |s::r,o=>by
  by_cases h:200<o.length
  .rw[DS _ _ h];have:=aby (s::r) o;exact⟨λae=>by omega,λ_=>h⟩
  .rw[List.foldl_cons,List.foldl_cons,show mC o s=lB o s by unfold mC;rw[if_neg h]];exact abz r (lB o s)
def sa (s:bb):azc:=(s.Label++[32])++((iw s.Next.cE.toNat++[58])++((iw s.Next.Part.toNat++[58])++iC s.Next.bV))
def mf (p:azD×aza) (s:bb):azD×aza:=
 if j0 (sa s) p.2=true then p else(p.1++[s],kb (sa s) true p.2)
theorem avk (e:azx) (o:azD) (m:aza) (s:bb) (aa:fG s) (bL:o.length<=1099511627776):
  Kv e o m s.Label s.Next.cE s.Next.Part s.Next.bV=some (e,(mf (o,m) s).1,(mf (o,m) s).2):=by
 obtain⟨i,ai,iv⟩:=aa.w9;obtain⟨j,bJ,ox⟩:=aa.w_;have ad:=wX i;have ae:=wX j;have aJ:=w6 s.Next.bV;have bh:=aa.kz.1;have b2:=aa.AN.1;have ax:zY ⟨s.Next.cE,s.Next.Part,s.Next.bV⟩=some ((iw i++[58])++((iw j++[58])++iC s.Next.bV)):=by
  unfold zY Ku;simp only[iv,ox,AB i ai,AB j bJ,bind_some,SV _ bh aa.kz.2];rw[lA (by omega),lA (by omega)];simp only[bind_some];rw[lA (by simp only[List.length_append,List.length_cons,List.length_nil];omega)];simp only[bind_some];rw[lA (by simp only[List.length_append,List.length_cons,List.length_nil];omega)];rfl
 unfold Kv;rw[lA (by omega),ax];simp only[bind_some];rw[lA (by simp only[List.length_append,List.length_cons,List.length_nil];omega)];simp only[bind_some];have tv:sa s=(s.Label++[32])++((iw i++[58])++((iw j++[58])++iC s.Next.bV)):=by unfold sa;rw[iv,ox];rfl
 rw[<-tv];unfold mf;cases hg:j0 (sa s) m
 .simp only[Bool.not_false,cond_true,hg];rw[ky (by omega) (by omega)];rfl
 .simp only[Bool.not_true,cond_false,hg];rfl
theorem Td:∀(l:azD) (p:azD×aza),(l.foldl mf p).1.length<=p.1.length+l.length
 |[],p=>Nat.le_refl _
 |s::r,p=>by
  have ad:=Td r (mf p s);have ae:(mf p s).1.length<=p.1.length+1:=by
   unfold mf;split
   .omega
   .simp
  rw[List.foldl_cons,List.length_cons];omega
theorem Te (k da:azc) (b:Bool):∀m,j0 k (kb da b m)=if da=k then b else j0 k m
 |[]=>by simp[kb,j0]
 |e::m=>by
  simp only[kb];by_cases h:e.1=da
  .rw[if_pos h];simp only[j0];by_cases ae:da=k
   .rw[if_pos ae,if_pos ae]
   .rw[if_neg ae,if_neg ae,if_neg (by rw[h];exact ae)]
  .rw[if_neg h];simp only[j0];by_cases ae:e.1=k
   .rw[if_pos ae,if_pos ae,if_neg (by intro aJ;exact h (ae.trans aJ.symm))]
   .rw[if_neg ae,if_neg ae,Te k da b m]
theorem vm {c:UInt8}:∀{x y u v:azc},c∉x->c∉y->x++c::u=y++c::v->x=y/\u=v
 |[],[],u,v,_,_,h=>⟨rfl,(List.cons.inj h).2⟩
 |[],y::cH,u,v,_,ae,h=>(ae (by rw[List.nil_append,List.cons_append]at h;rw[(List.cons.inj h).1];simp)).elim
 |x::xs,[],u,v,ad,_,h=>(ad (by rw[List.nil_append,List.cons_append]at h;rw[<-(List.cons.inj h).1];simp)).elim
 |x::xs,y::cH,u,v,ad,ae,h=>by
  rw[List.cons_append,List.cons_append]at h;obtain⟨aO,aU⟩:=List.cons.inj h;obtain⟨aM,bT⟩:=vm (λhm=>ad (List.mem_cons_of_mem _ hm)) (λhm=>ae (List.mem_cons_of_mem _ hm)) aU;exact⟨by rw[aO,aM],bT⟩
theorem AO {m n:Nat} (hm:m<100) (aR:n<100) (h:iw m=iw n):m=n:=by
 have d:∀a b:Fin 10,UInt8.ofNat (48+a)=UInt8.ofNat (48+b)->a=b:=by decide
 have d2:∀a b:Nat,a<10->b<10->UInt8.ofNat (48+a)=UInt8.ofNat (48+b)->a=b:=λa b bl ab e=>congrArg Fin.val (d ⟨a,bl⟩ ⟨b,ab⟩ e);unfold iw at h;split at h<;>split at h
 .exact d2 _ _ (by omega) (by omega) (List.cons.inj h).1
 .cases(List.cons.inj h).2
 .cases(List.cons.inj h).2
 .have ad:=d2 _ _ (by omega) (by omega) (List.cons.inj h).1;have ae:=d2 _ _ (by omega) (by omega) (List.cons.inj (List.cons.inj h).2).1;omega
theorem abA:∀{a b:azb},(∀x∈a,(44:UInt8)∉x)->(∀x∈b,(44:UInt8)∉x)->a≠[]->b≠[]->hG a [44]=hG b [44]->a=b
 |[],_,_,_,h,_,_=>(h rfl).elim
 |_::_,[],_,_,_,h,_=>(h rfl).elim
 |[x],[y],_,_,_,_,h=>by rw[join_one,join_one]at h;rw[h]
 |[x],y::z::r,bl,_,_,_,h=>by
  rw[join_one,join_cons]at h;exact(bl x (by simp) (by rw[h];simp)).elim
 |x::z::r,[y],_,ab,_,_,h=>by
  rw[join_one,join_cons]at h;exact(ab y (by simp) (by rw[<-h];simp)).elim
 |x::ah::r,y::gn::q,bl,ab,_,_,h=>by
  rw[join_cons,join_cons]at h;obtain⟨aO,aU⟩:=vm (bl x (by simp)) (ab y (by simp)) (by simpa using h);rw[aO,abA (a:=ah::r) (b:=gn::q) (λz cf=>bl z (List.mem_cons_of_mem _ cf)) (λz cf=>ab z (List.mem_cons_of_mem _ cf)) (by simp) (by simp) aU]
theorem val_inj {a b:aze} (bl:∀x∈a,gh x) (ab:∀x∈b,gh x) (h:a.map jB=b.map jB):a=b:=by
 induction a generalizing b with
 |nil=>cases b with
  |nil=>rfl
  |cons y r=>cases h
 |cons x r ih=>cases b with
  |nil=>cases h
  |cons y q=>
   rw[List.map_cons,List.map_cons]at h;obtain⟨aO,aU⟩:=List.cons.inj h;have an:=bl x (by simp);have hy:=ab y (by simp);unfold gh at an hy;have:=AO (m:=x.toNat) (n:=y.toNat) (by omega) (by omega) aO;rw[ih (λz cf=>bl z (List.mem_cons_of_mem _ cf)) (λz cf=>ab z (List.mem_cons_of_mem _ cf)) aU,show x=y by omega]
theorem Tf {a:aze} (bl:∀x∈a,gh x):∀x∈a.map jB,(44:UInt8)∉x:=by
 intro x an hm;obtain⟨y,hy,rfl⟩:=List.mem_map.1 an;have ad:=bl y hy;unfold gh at ad;have:=(xa y.toNat (by omega) _ hm).1;revert this;decide
theorem abB {a:aze} (bl:∀x∈a,gh x) (aR:a≠[]):hG (a.map jB) [44]≠[45]:=by
 cases a with
 |nil=>exact(aR rfl).elim
 |cons x r=>
  intro h;have an:=bl x (by simp);unfold gh at an;have a7:jB x≠[]:=by unfold jB iw;split<;>simp
  have ar:∀u,jB x++u=[45]->False:=by
   intro u hu;cases aF:jB x with
   |nil=>exact a7 aF
   |cons c w=>
    rw[aF,List.cons_append]at hu;have:=(xa x.toNat (by omega) c (by unfold jB at aF;rw[aF];simp)).1;rw[(List.cons.inj hu).1]at this;revert this;decide
  cases r with
  |nil=>rw[List.map_cons,List.map_nil,join_one]at h;exact ar [] (by simpa using h)
  |cons y q=>rw[List.map_cons,List.map_cons,join_cons]at h;exact ar _ h
theorem abC {a b:aze} (bl:∀x∈a,gh x) (ab:∀x∈b,gh x) (h:iC a=iC b):a=b:=by
 unfold iC at h;by_cases ad:a=[]
 .by_cases ae:b=[]
  .rw[ad,ae]
  .rw[if_pos ad,if_neg ae]at h;exact(abB ab ae h.symm).elim
 .by_cases ae:b=[]
  .rw[if_neg ad,if_pos ae]at h;exact(abB bl ad h).elim
  .rw[if_neg ad,if_neg ae]at h;exact val_inj bl ab (abA (Tf bl) (Tf ab) (by simpa using ad) (by simpa using ae) h)
theorem yD {n:Nat} (h:n<100):(58:UInt8)∉iw n:=by
 intro hm;have:=(xa n h _ hm).2;revert this;decide
theorem key_inj {x y:bb} (an:fG x) (hy:fG y) (h:sa x=sa y):x=y:=by
 obtain⟨i,ai,iv⟩:=an.w9;obtain⟨j,bJ,ox⟩:=an.w_;obtain⟨i2,mO,abD⟩:=hy.w9;obtain⟨ay0,qn,abE⟩:=hy.w_;unfold sa at h;rw[iv,ox,abD,abE]at h;simp only[Int.toNat_natCast,List.append_assoc,List.singleton_append]at h;obtain⟨aO,h⟩:=vm an.AN.2 hy.AN.2 h;obtain⟨aU,h⟩:=vm (yD ai) (yD mO) h;obtain⟨aM,h⟩:=vm (yD bJ) (yD qn) h;have bT:=abC an.kz.2 hy.kz.2 h;have aU:=AO ai mO aU;have aM:=AO bJ qn aM;refine Ta.1 ?_;simp only[r_,aO,bT,iv,abD,aU,ox,abE,aM,beq_self_eq_true,Bool.and_self]
theorem Tg:∀(l o:azD) (m:aza),(∀x∈l,fG x)->(∀x∈o,fG x)->(∀s,fG s->j0 (sa s) m=o.any λx=>r_ x s)->(l.foldl mf (o,m)).1=l.foldl lB o
 |[],o,m,_,_,_=>rfl
 |s::r,o,m,aC,bL,hm=>by
  have aa:=aC s (by simp);have aT:∀x∈r,fG x:=λx an=>aC x (List.mem_cons_of_mem _ an);rw[List.foldl_cons,List.foldl_cons];by_cases h:(o.any λx=>r_ x s)=true
  .rw[show mf (o,m) s=(o,m) by unfold mf;rw[if_pos ((hm s aa).trans h)],show lB o s=o by unfold lB;rw[if_pos h]];exact Tg r o m aT bL hm
  .rw[show mf (o,m) s=(o++[s],kb (sa s) true m) by unfold mf;rw[if_neg (by simp only[hm s aa];exact h)],show lB o s=o++[s] by unfold lB;rw[if_neg h]];refine Tg r _ _ aT (λx an=>?_) λt aY=>?_
   .rcases List.mem_append.1 an with an|an
    .exact bL x an
    .rw[List.mem_singleton]at an;rwa [an]
   .rw[Te,List.any_append,List.any_cons,List.any_nil,Bool.or_false];by_cases ax:sa s=sa t
    .have:=key_inj aa aY ax;rw[if_pos ax,Ta.2 this,Bool.or_true]
    .rw[if_neg ax,hm t aY];have:r_ s t=false:=by
      cases DI:r_ s t
      .rfl
      .exact(ax (by rw[Ta.1 DI])).elim
     rw[this,Bool.or_false]
theorem LO {d:a6} {j:Nat} (bJ:j<d.Body.length):fm d j=d.Body[j]:=by
 unfold fm;rw[List.getD_eq_getElem?_getD,List.getElem?_eq_getElem bJ];rfl
theorem Th {d:a6} {j:Nat} (bJ:j<d.Body.length):bk d.Body (j:Int)=some (fm d j):=by
 rw[dJ _ j bJ,LO bJ]
theorem abF {α:Type} {xs:List α} {n:Int} {x:α} (h:bk xs n=some x):0<=n/\∃aC:n.toNat<xs.length,xs[n.toNat]=x:=by
 have ad:=dy h;have a7:0<=n:=by
  unfold bk at h;split at h
  .omega
  .cases h
 exact⟨a7,List.getElem?_eq_some_iff.1 ad⟩
theorem gR {j:Nat} (h:j<=1048576):i64.wrap ((j:Int)+1)=((j+1:Nat):Int):=by rw[eD _ (by omega)];omega
structure vn (e:azx) (d:a6) (i n j:Nat) (a:aze):Prop where
 mc:∀s∈i1 d i n j a,fG s
 len:(i1 d i n j a).length<=2^n*8^(6-a.length)
 spec:∀m,n<=m->∀out:azD,out.length<=201->(∀x∈out,fG x)->rk m e (i:Int) (j:Int) a out=some ((i1 d i n j a).foldl mC out)
 impl:∀m,n<=m->∀p:azD×aza,p.1.length+(i1 d i n j a).length<=549755813888->rB m e p.1 p.2 (i:Int) (j:Int) a=some (e,((i1 d i n j a).foldl mf p).1,((i1 d i n j a).foldl mf p).2)
theorem vn.of {e:azx} {d:a6} {i n j:Nat} {a:aze} {l:azD} (c:i1 d i n j a=l) (mc:∀s∈l,fG s)
  (len:l.length<=2^n*8^(6-a.length))
  (spec:∀m,n<=m->∀out:azD,out.length<=201->(∀x∈out,fG x)->rk m e (i:Int) (j:Int) a out=some (l.foldl mC out))
  (impl:∀m,n<=m->∀p:azD×aza,p.1.length+l.length<=549755813888->rB m e p.1 p.2 (i:Int) (j:Int) a=some (e,(l.foldl mf p).1,(l.foldl mf p).2)):vn e d i n j a:=by
 subst c;exact⟨mc,len,spec,impl⟩
theorem avl (s:bb) (out:azD) (h:¬200<out.length):[s].foldl mC out=lB out s:=by
 rw[List.foldl_cons,List.foldl_nil,mC,if_neg h]
theorem abG {f:Nat->azD} {B:Nat}:∀(k s:Nat),(∀v,s<=v->v<s+k->(f v).length<=B)->((List.range' s k).flatMap f).length<=k*B
 |0,s,_=>by simp
 |k+1,s,h=>by
  rw[List.range'_succ,List.flatMap_cons,List.length_append];have ad:=h s (by omega) (by omega);have ae:=abG k (s+1) λv ad ae=>h v (by omega) (by omega);rw[Nat.add_mul];omega
theorem abH {rec:azx->Int->Int->aze->azD->Option azD} {a:aze} {out:azD} {p:cQ} {v w:Int} {x:aze} (ay:AF p) (aY:∀q∈p.cL,pD q a.length 15=true)
  (aR:ha p.Name=true) (aC:p.cL.length<=2) (bl:∀y∈a,gh y) (bL:out.length<=1048576) (hg:∀y∈out,fG y):
  F3 rec a out p v w x=some (lB out ⟨iD p.Name (nP p.cL a),⟨v,w,x⟩⟩):=by
 have yC:p.Name.length<=10:=by simp only[ha,Bool.and_eq_true,decide_eq_true_eq]at aR;exact aR.1
 unfold F3;rw[(LL _ ay.2.1 a aY).1];simp only[bind_some];rw[abr _ _ yC (by unfold nP;rw[List.length_map];omega) (HE bl aY)];simp only[bind_some,avi _ _ bL hg]
theorem abI {e:azx} {i j:Nat} {a:aze} {p:cQ} {N:Nat} {f:Nat->azD} {rec:azx->Int->Int->aze->azD->Option azD} (AA:p.Number=(N:Int)-1) (AP:N<=8) (bJ:j<=1048576) (xX:a.length<=100)
  (bH:∀v,v<N->(∀s∈f v,fG s)/\∀out:azD,out.length<=201->(∀x∈out,fG x)->rec e (i:Int) ((j+1:Nat):Int) (a++[(v:Int)]) out=some ((f v).foldl mC out)):
  ∀(k s:Nat) (out:azD) (m:Nat),s+k=N->k<m->out.length<=201->(∀x∈out,fG x)->Cg rec e (i:Int) (j:Int) a p m out (s:Int)=some (((List.range' s k).flatMap f).foldl mC out)
 |0,s,out,m,aa,hm,bL,hg=>by
  obtain⟨m,rfl⟩:∃q,m=q+1:=⟨m-1,by omega⟩
  simp only[Cg,Pj,zF];rw[show decide ((s:Int)<=p.Number)=false from decide_eq_false (by omega)];rfl
 |k+1,s,out,m,aa,hm,bL,hg=>by
  obtain⟨m,rfl⟩:∃q,m=q+1:=⟨m-1,by omega⟩
  obtain⟨ad,ae⟩:=bH s (by omega);simp only[Cg,Pj];rw[show decide ((s:Int)<=p.Number)=true from decide_eq_true (by omega),cond_true,S8 a (by omega)];simp only[bind_some];rw[ky (by omega) (by omega),gR bJ,gR (by omega)];simp only[bind_some,ae out bL hg];obtain⟨g1,g2⟩:=Tc (f s) out bL hg ad;rw[abI AA AP bJ xX bH k (s+1) _ m (by omega) (by omega) g1 g2,List.range'_succ,List.flatMap_cons,List.foldl_append]
theorem abJ {e:azx} {i j:Nat} {a:aze} {q:cQ} {N:Nat} {f:Nat->azD} {rec:azx->azD->aza->Int->Int->aze->Option (azx×azD×aza)} (AA:q.Number=(N:Int)-1) (AP:N<=8) (bJ:j<=1048576) (xX:a.length<=100)
  (bH:∀v,v<N->∀p:azD×aza,p.1.length+(f v).length<=549755813888->rec e p.1 p.2 (i:Int) ((j+1:Nat):Int) (a++[(v:Int)])=some (e,((f v).foldl mf p).1,((f v).foldl mf p).2)):
  ∀(k s:Nat) (p:azD×aza) (m:Nat),s+k=N->k<m->p.1.length+((List.range' s k).flatMap f).length<=549755813888->
   CY rec (i:Int) (j:Int) a q m e p.1 p.2 (s:Int)=some (e,(((List.range' s k).flatMap f).foldl mf p).1,(((List.range' s k).flatMap f).foldl mf p).2)
 |0,s,p,m,aa,hm,bL=>by
  obtain⟨m,rfl⟩:∃q,m=q+1:=⟨m-1,by omega⟩
  simp only[CY,Ql];rw[eD (q.Number+1) (by omega),show decide ((s:Int)<q.Number+1)=false from decide_eq_false (by omega)];rfl
 |k+1,s,p,m,aa,hm,bL=>by
  obtain⟨m,rfl⟩:∃q,m=q+1:=⟨m-1,by omega⟩
  rw[List.range'_succ,List.flatMap_cons,List.length_append]at bL;simp only[CY,Ql];rw[eD (q.Number+1) (by omega),show decide ((s:Int)<q.Number+1)=true from decide_eq_true (by omega),cond_true,LN a (by omega)];simp only[bind_some];rw[ky (by omega) (by omega),gR bJ,gR (by omega)];simp only[bind_some,bH s (by omega) p (by omega)];have ax:=Td (f s) p;rw[abJ AA AP bJ xX bH k (s+1) _ m (by omega) (by omega) (by omega),List.range'_succ,List.flatMap_cons,List.foldl_append]
theorem Ti (n B:Nat):2^(n+1)*B=2^n*B+2^n*B:=by
 rw[Nat.pow_succ,Nat.mul_comm (2^n) 2,Nat.mul_assoc,Nat.two_mul]
theorem avm (n k:Nat):1<=2^n*8^k:=Nat.mul_pos (Nat.pow_pos (by omega)) (Nat.pow_pos (by omega))
theorem avn {n k:Nat} (h:k<=5):2^n*8^(6-k)=8*(2^n*8^(6-(k+1))):=by
 rw[show 6-k=(6-(k+1))+1 by omega,Nat.pow_succ,<-Nat.mul_assoc,Nat.mul_comm]
theorem avo {e:azx} (h:pE e) (aF:lZ e=true) {i:Nat} (ai:i<e.length):∀(n j:Nat) (a:aze),j<e[i].Body.length->(jC e[i] j).scope=(a.length:Int)->(∀x∈a,gh x)->e[i].Body.length-j<=n->vn e e[i] i n j a:=by
 obtain⟨H6,ay1,ao⟩:=DP h aF;obtain⟨ay2,oD,_⟩:=ao i ai;obtain⟨s1,s2,sy⟩:=AH oD;intro n;induction n with
 |zero=>intro j a bJ _ _ aR;omega
 |succ n ih=>
  intro j a bJ mK bl aR;have P:=S3 h aF ai bJ;rw[mK,<-LO bJ]at P;have xX:a.length<=29:=by have:=P.abn;omega
  obtain⟨HG,abK⟩:=avc e[i] s1 bJ;rw[<-LO bJ]at HG abK;have sb:=dJ e i ai;have sc:=Th bJ;have DT:∀out:azD,200<out.length->decide (200<(out.length:Int))=true:=λout bL=>decide_eq_true (by omega);have h6:∀out:azD,¬200<out.length->decide (200<(out.length:Int))=false:=λout bL=>decide_eq_false (by omega);by_cases b1:(fm e[i] j).Kind=1
  .have ke:ez (fm e[i] j)=1:=by unfold ez;rw[if_pos (.inl b1)]
   obtain⟨q9,xb⟩:=HG (by omega);have xb:(jC e[i] (j+1)).scope=(a.length:Int):=by rw[xb];unfold below;rw[if_neg (by omega)];exact mK
   have yE:=S3 h aF ai q9;rw[xb,<-LO q9]at yE;obtain⟨mu,bI,eM⟩:=P.act b1;have LP:=S_ (a:=nP (fm e[i] j).cL a) mu (by unfold nP;rw[List.length_map];omega) (HE bl P.args);have yF:fG (w8 e[i] i j a):=by
    refine⟨LP,?_,?_,?_,_,_,mu,by unfold nP;rw[List.length_map];exact bI,λh=>by unfold nP;rw[List.length_map];exact eM h,HE bl P.args,rfl⟩
    .unfold w8;by_cases eF:(fm e[i] (j+1)).Kind=5
     .rw[if_pos eF];obtain⟨br,bY,_⟩:=yE.call eF;obtain⟨fp,abL,_⟩:=abF bY;exact⟨(fm e[i] (j+1)).Number.toNat,by omega,by simp only;omega⟩
     .rw[if_neg eF];exact⟨i,by omega,rfl⟩
    .unfold w8;by_cases eF:(fm e[i] (j+1)).Kind=5
     .rw[if_pos eF];exact⟨0,by omega,rfl⟩
     .rw[if_neg eF];exact⟨j+1,by omega,rfl⟩
    .unfold w8;by_cases eF:(fm e[i] (j+1)).Kind=5
     .rw[if_pos eF];obtain⟨br,bY,fh⟩:=yE.call eF;refine⟨?_,HE bl yE.args⟩;have ay:br.ek<=3:=by
       obtain⟨fp,abL,avp⟩:=abF bY;have:=(ao _ abL).1;rw[avp]at this;exact this.2
      unfold nP;rw[List.length_map];omega
     .rw[if_neg eF];exact⟨by simp only;omega,bl⟩
   refine vn.of (l:=[w8 e[i] i j a]) (by rw[i1,if_pos b1]) (λs aa=>by rw[List.mem_singleton]at aa;rw[aa];exact yF) (avm _ _) ?_ ?_
   .intro m hm out bL hg;obtain⟨m,rfl⟩:∃q,m=q+1:=⟨m-1,by omega⟩
    simp only[rk,x2];rw[sb];simp only[bind_some];rw[sc];simp only[bind_some];by_cases aa:200<out.length
    .rw[DT out aa,DS _ _ aa];rfl
    .rw[h6 out aa,b1,avl _ _ aa,S8 a (by omega),gR (by omega)];simp only[cond_false,beq_self_eq_true,cond_true,bind_some];rw[Th q9];simp only[bind_some];unfold w8;by_cases eF:(fm e[i] (j+1)).Kind=5
     .rw[if_pos eF,eF];simp only[beq_self_eq_true,cond_true];rw[(LL _ yE.small.2.1 a yE.args).1];simp only[bind_some];exact abH P.small P.args mu bI bl (by omega) hg
     .rw[if_neg eF,show((fm e[i] (j+1)).Kind==5)=false by simpa using eF,cond_false];exact abH P.small P.args mu bI bl (by omega) hg
   .intro m hm p fI;obtain⟨m,rfl⟩:∃q,m=q+1:=⟨m-1,by omega⟩
    obtain⟨b,ab⟩:=avf (fm e[i] j).Name (nP (fm e[i] j).cL a) mu (by unfold nP;rw[List.length_map];omega) (λaY=>by unfold nP;rw[List.length_map];exact eM aY) (HE bl P.args);have vH:=avk e p.1 p.2 (w8 e[i] i j a) yF (by omega);simp only[rB,x9];rw[sb];simp only[bind_some];rw[sc];simp only[bind_some];rw[b1,(LL _ P.small.2.1 a P.args).2];simp only[beq_self_eq_true,cond_true,bind_some,ab,LN a (show a.length<=1048576 by omega)];rw[gR (by omega),Th q9];simp only[bind_some,Kw,List.foldl_cons,List.foldl_nil];unfold w8 at vH⊢;by_cases eF:(fm e[i] (j+1)).Kind=5
    .rw[if_pos eF]at vH⊢;rw[eF];simp only[beq_self_eq_true,cond_true];rw[(LL _ yE.small.2.1 a yE.args).2];simp only[bind_some];simp only at vH;rw[vH];rfl
    .rw[if_neg eF]at vH⊢;rw[show((fm e[i] (j+1)).Kind==5)=false by simpa using eF,cond_false];simp only at vH;rw[vH];rfl
  by_cases cK:(fm e[i] j).Kind=2
  .have ke:ez (fm e[i] j)=2:=by unfold ez;rw[if_neg (by omega),if_pos cK]
   have DU:(below (fm e[i] j) (jC e[i] j)).scope=(a.length:Int):=by unfold below;rw[if_neg (by omega)];exact mK
   obtain⟨q9,xb⟩:=HG (by omega);obtain⟨t,Tj,Bm,LQ⟩:=abK ke;have dV:S5 e[i] (j+1)=j+1+t:=by unfold S5;rw[Tj];rfl
   have o6:=ih (j+1) a q9 (xb.trans DU) bl (by omega);have A9:=ih (j+1+t) a Bm (LQ.trans DU) bl (by omega);have cI:((2:Int)==1)=false:=rfl;refine vn.of (l:=i1 e[i] i n (j+1) a++i1 e[i] i n (j+1+t) a) (by rw[i1,if_neg b1,if_pos cK,dV]) (λs aa=>(List.mem_append.1 aa).elim (o6.mc s) (A9.mc s)) ?_ ?_ ?_
   .have ad:=o6.len;have ae:=A9.len;rw[List.length_append,Ti];omega
   .intro m hm out bL hg;obtain⟨m,rfl⟩:∃q,m=q+1:=⟨m-1,by omega⟩
    simp only[rk,x2];rw[sb];simp only[bind_some];rw[sc];simp only[bind_some];by_cases aa:200<out.length
    .rw[DT out aa,DS _ _ aa];rfl
    .obtain⟨g1,g2⟩:=Tc _ out bL hg o6.mc;rw[h6 out aa,cK,gR (by omega),o6.spec m (by omega) out bL hg,List.foldl_append];simp only[cond_false,cI,beq_self_eq_true,cond_true,bind_some];rw[aaQ _ (by omega) (j+1) t Tj];simp only[bind_some];rw[A9.spec m (by omega) _ g1 g2];rfl
   .intro m hm p fI;obtain⟨m,rfl⟩:∃q,m=q+1:=⟨m-1,by omega⟩
    rw[List.length_append]at fI;have ax:=Td (i1 e[i] i n (j+1) a) p;simp only[rB,x9];rw[sb];simp only[bind_some];rw[sc];simp only[bind_some];rw[cK,gR (by omega),o6.impl m (by omega) p (by omega)];simp only[cond_false,cI,beq_self_eq_true,cond_true,bind_some];rw[aaP _ (by omega) (j+1) (by omega),Tj];simp only[bind_some,tu];rw[A9.impl m (by omega) _ (by omega),List.foldl_append];rfl
  by_cases dM:(fm e[i] j).Kind=3
  .have ke:ez (fm e[i] j)=1:=by unfold ez;rw[if_pos (.inr (.inl dM))]
   obtain⟨q9,xb⟩:=HG (by omega);have DU:(below (fm e[i] j) (jC e[i] j)).scope=(a.length:Int):=by unfold below;rw[if_neg (by omega)];exact mK
   have o6:=ih (j+1) a q9 (xb.trans DU) bl (by omega);have ay3:=P.ava dM;have cz:bk (fm e[i] j).cL 0=some ((fm e[i] j).cL.getD 0 []):=by
    have:=dJ (fm e[i] j).cL 0 (by omega);rw[List.getD_eq_getElem?_getD,List.getElem?_eq_getElem (show 0<(fm e[i] j).cL.length by omega)];exact this
   have Eb:=P.args ((fm e[i] j).cL.getD 0 []) (by
    rw[List.getD_eq_getElem?_getD,List.getElem?_eq_getElem (show 0<(fm e[i] j).cL.length by omega)];exact List.getElem_mem _)
   obtain⟨v1,v2,_⟩:=LH (by omega) Eb;have hC:((3:Int)==1)=false:=rfl;have gd:((3:Int)==2)=false:=rfl;by_cases cf:r9 a ((fm e[i] j).cL.getD 0 [])=0
   .have yV:(r9 a ((fm e[i] j).cL.getD 0 []) !=0)=false:=by rw[cf];rfl
    refine vn.of (l:=[]) (by rw[i1,if_neg b1,if_neg cK,if_pos dM,if_neg (λar=>ar cf)]) (λs aa=>by cases aa) (zero_le _) ?_ ?_
    .intro m hm out bL hg;obtain⟨m,rfl⟩:∃q,m=q+1:=⟨m-1,by omega⟩
     simp only[rk,x2,zF];rw[sb];simp only[bind_some];rw[sc];simp only[bind_some];rw[dM];simp only[hC,gd,beq_self_eq_true,cond_true,cond_false,cz,bind_some,v1,yV,List.foldl_nil];cases decide (200<(out.length:Int))<;>rfl
    .intro m hm p fI;obtain⟨m,rfl⟩:∃q,m=q+1:=⟨m-1,by omega⟩
     simp only[rB,x9];rw[sb];simp only[bind_some];rw[sc];simp only[bind_some];rw[dM];simp only[hC,gd,beq_self_eq_true,cond_true,cond_false,cz,bind_some,v2,yV,List.foldl_nil]
   .have yV:(r9 a ((fm e[i] j).cL.getD 0 []) !=0)=true:=by simpa using cf
    refine vn.of (l:=i1 e[i] i n (j+1) a) (by rw[i1,if_neg b1,if_neg cK,if_pos dM,if_pos cf]) o6.mc ?_ ?_ ?_
    .have ad:=o6.len;rw[Ti];omega
    .intro m hm out bL hg;obtain⟨m,rfl⟩:∃q,m=q+1:=⟨m-1,by omega⟩
     simp only[rk,x2];rw[sb];simp only[bind_some];rw[sc];simp only[bind_some];by_cases aa:200<out.length
     .rw[DT out aa,DS _ _ aa];rfl
     .rw[h6 out aa,dM,gR (by omega)];simp only[hC,gd,beq_self_eq_true,cond_true,cond_false,cz,bind_some,v1,yV];rw[o6.spec m (by omega) out bL hg];rfl
    .intro m hm p fI;obtain⟨m,rfl⟩:∃q,m=q+1:=⟨m-1,by omega⟩
     simp only[rB,x9];rw[sb];simp only[bind_some];rw[sc];simp only[bind_some];rw[dM,gR (by omega)];simp only[hC,gd,beq_self_eq_true,cond_true,cond_false,cz,bind_some,v2,yV];rw[o6.impl m (by omega) p fI];rfl
  by_cases dX:(fm e[i] j).Kind=4
  .have ke:ez (fm e[i] j)=1:=by unfold ez;rw[if_pos (.inr (.inr dX))]
   obtain⟨q9,xb⟩:=HG (by omega);obtain⟨m1,m7,m5⟩:=P.sum dX;have DU:∀v:Nat,(jC e[i] (j+1)).scope=((a++[(v:Int)]).length:Int):=λv=>by
    rw[xb];unfold below;rw[if_pos dX,List.length_append];simp only[List.length_cons,List.length_nil];omega
   have iB:∀v:Nat,v<8->∀x∈a++[(v:Int)],gh x:=λv LR x an=>by
    rcases List.mem_append.1 an with an|an
    .exact bl x an
    .rw[List.mem_singleton]at an;subst an;exact⟨by omega,by omega⟩
   have A:∀v:Nat,v<8->vn e e[i] i n (j+1) (a++[(v:Int)]):=λv LR=>ih (j+1) _ q9 (DU v) (iB v LR) (by omega);have AA:(fm e[i] j).Number=(((fm e[i] j).Number.toNat+1:Nat):Int)-1:=by omega
   have AP:(fm e[i] j).Number.toNat+1<=8:=by omega
   have hC:((4:Int)==1)=false:=rfl;have gd:((4:Int)==2)=false:=rfl;have fY:((4:Int)==3)=false:=rfl;refine vn.of (l:=(List.range' 0 ((fm e[i] j).Number.toNat+1)).flatMap λ(v:Nat)=>i1 e[i] i n (j+1) (a++[((v:Nat):Int)])) (by rw[i1,if_neg b1,if_neg cK,if_neg dM,if_pos dX]) ?_ ?_ ?_ ?_
   .intro s aa;obtain⟨v,Ff,AJ⟩:=List.mem_flatMap.1 aa;have:=List.mem_range'_1.1 Ff;exact(A v (by omega)).mc s AJ
   .have ad:=abG (f:=λ(v:Nat)=>i1 e[i] i n (j+1) (a++[((v:Nat):Int)])) (B:=2^n*8^(6-(a.length+1))) ((fm e[i] j).Number.toNat+1) 0 (λv _ AJ=>by
     have:=(A v (by omega)).len
     rwa [List.length_append]at this)
    have ae:((fm e[i] j).Number.toNat+1)*(2^n*8^(6-(a.length+1)))<=8*(2^n*8^(6-(a.length+1))):=mul_le_mul_right _ AP;have aJ:=avn (n:=n) (k:=a.length) (by omega);rw[Ti];omega
   .intro m hm out bL hg;obtain⟨m,rfl⟩:∃q,m=q+1:=⟨m-1,by omega⟩
    simp only[rk,x2];rw[sb];simp only[bind_some];rw[sc];simp only[bind_some];by_cases aa:200<out.length
    .rw[DT out aa,DS _ _ aa];rfl
    .rw[h6 out aa,dX];simp only[hC,gd,fY,beq_self_eq_true,cond_true,cond_false];refine eY 9 λq cz=>?_;exact abI AA AP (by omega) (by omega) (λv LR=>⟨(A v (by omega)).mc,λout bL hg=>(A v (by omega)).spec m (by omega) out bL hg⟩) _ 0 out q (by omega) (by omega) bL hg
   .intro m hm p fI;obtain⟨m,rfl⟩:∃q,m=q+1:=⟨m-1,by omega⟩
    simp only[rB,x9];rw[sb];simp only[bind_some];rw[sc];simp only[bind_some];rw[dX];simp only[hC,gd,fY,beq_self_eq_true,cond_true,cond_false];refine eY 9 λq cz=>?_;exact abJ AA AP (by omega) (by omega) (λv LR p ay=>(A v (by omega)).impl m (by omega) p ay) _ 0 p q (by omega) (by omega) fI
  .refine vn.of (l:=[]) (by rw[i1,if_neg b1,if_neg cK,if_neg dM,if_neg dX]) (λs aa=>by cases aa) (zero_le _) ?_ ?_
   .have hC:((fm e[i] j).Kind==1)=false:=by simpa using b1
    have gd:((fm e[i] j).Kind==2)=false:=by simpa using cK
    have fY:((fm e[i] j).Kind==3)=false:=by simpa using dM
    have bw:((fm e[i] j).Kind==4)=false:=by simpa using dX
    intro m hm out bL hg;obtain⟨m,rfl⟩:∃q,m=q+1:=⟨m-1,by omega⟩
    simp only[rk,x2,zF];rw[sb];simp only[bind_some];rw[sc];simp only[bind_some,hC,gd,fY,bw,cond_false,List.foldl_nil];cases decide (200<(out.length:Int))<;>rfl
   .have hC:((fm e[i] j).Kind==1)=false:=by simpa using b1
    have gd:((fm e[i] j).Kind==2)=false:=by simpa using cK
    have fY:((fm e[i] j).Kind==3)=false:=by simpa using dM
    have bw:((fm e[i] j).Kind==4)=false:=by simpa using dX
    intro m hm p fI;obtain⟨m,rfl⟩:∃q,m=q+1:=⟨m-1,by omega⟩
    simp only[rB,x9];rw[sb];simp only[bind_some];rw[sc];simp only[bind_some,hC,gd,fY,bw,cond_false,List.foldl_nil]
theorem avq (e:azx) (h:pE e) (aF:lZ e=true) (p:bp) (ay:p.bV.length<=1048576):∃b,sO e p=some b/\Gr e p=some b:=by
 unfold sO Gr jP;rw[LA _ e.length h.1,eD ((e.length:Int)-1) (by have:=h.1;omega)];simp only[bind_some];cases ax:(decide (0<=p.cE)&&decide (p.cE<=(e.length:Int)-1))
 .exact⟨false,rfl,rfl⟩
 .simp only[Bool.and_eq_true,decide_eq_true_eq]at ax;obtain⟨i,DV⟩:∃i:Nat,p.cE=i:=⟨p.cE.toNat,by omega⟩
  rw[DV]at ax⊢;have ai:i<e.length:=by omega
  have ab:=(h.2 _ (List.getElem_mem ai)).2.1;rw[dJ e i ai];simp only[Bool.not_true,cond_false,bind_some];rw[LA _ e[i].Body.length ab,eD ((e[i].Body.length:Int)-1) (by omega)];simp only[bind_some];cases cz:(decide (0<=p.Part)&&decide (p.Part<=(e[i].Body.length:Int)-1))
  .exact⟨false,rfl,rfl⟩
  .simp only[Bool.and_eq_true,decide_eq_true_eq]at cz;obtain⟨j,ui⟩:∃j:Nat,p.Part=j:=⟨p.Part.toNat,by omega⟩
   rw[ui]at cz⊢;have bJ:j<e[i].Body.length:=by omega
   obtain⟨hn,ps,gE,iI⟩:=abc h aF ai bJ;rw[dJ e[i].Body j bJ];simp only[Bool.not_true,cond_false,bind_some,hn,gE,iI,S6 _ ay,S7 _ ay];have dV:(e[i].Body[j].Kind !=5)= !(e[i].Body[j].Kind==5):=rfl;rw[dV];cases e[i].Body[j].Kind==5
   .simp only[Bool.not_false,cond_true,cond_false];cases((p.bV.length:Int)==(jC e[i] j).scope)
    .exact⟨_,rfl,rfl⟩
    .exact⟨_,rfl,rfl⟩
   .exact⟨_,rfl,rfl⟩
theorem abM {e:azx} (h:pE e) (aF:lZ e=true) {p:bp} (ay:p.bV.length<=1048576) (aa:sO e p=some true):
  ∃(i:Nat) (ai:i<e.length) (j:Nat),p.cE=(i:Int)/\p.Part=(j:Int)/\j<e[i].Body.length/\(jC e[i] j).scope=(p.bV.length:Int)/\∀x∈p.bV,gh x:=by
 unfold sO jP at aa;rw[eD ((e.length:Int)-1) (by have:=h.1;omega)]at aa;simp only[bind_some]at aa;cases ax:(decide (0<=p.cE)&&decide (p.cE<=(e.length:Int)-1))
 .rw[ax]at aa;cases aa
 rw[ax]at aa;simp only[Bool.and_eq_true,decide_eq_true_eq]at ax;obtain⟨i,DV⟩:∃i:Nat,p.cE=i:=⟨p.cE.toNat,by omega⟩
 have ai:i<e.length:=by omega
 have ab:=(h.2 _ (List.getElem_mem ai)).2.1;rw[DV,dJ e i ai]at aa;simp only[Bool.not_true,cond_false,bind_some]at aa;rw[eD ((e[i].Body.length:Int)-1) (by omega)]at aa;cases cz:(decide (0<=p.Part)&&decide (p.Part<=(e[i].Body.length:Int)-1))
 .rw[cz]at aa;cases aa
 rw[cz]at aa;simp only[Bool.and_eq_true,decide_eq_true_eq]at cz;obtain⟨j,ui⟩:∃j:Nat,p.Part=j:=⟨p.Part.toNat,by omega⟩
 have bJ:j<e[i].Body.length:=by omega
 obtain⟨hn,_⟩:=abc h aF ai bJ;rw[ui,dJ e[i].Body j bJ]at aa;simp only[Bool.not_true,cond_false,bind_some,hn,S6 _ ay]at aa;cases abN:e[i].Body[j].Kind==5
 .rw[abN]at aa;simp only[cond_false]at aa;cases aC:((p.bV.length:Int)==(jC e[i] j).scope)
  .rw[aC]at aa;cases aa
  .rw[aC]at aa;simp only[beq_iff_eq]at aC;have abO:yB p.bV=true:=some.inj aa;refine⟨i,ai,j,DV,ui,bJ,aC.symm,λx an=>?_⟩;simp only[yB,nO]at abO;obtain⟨k,ax,rfl⟩:=List.mem_iff_getElem.1 an;have:=abO k ax;simp only[rZ,Bool.and_eq_true,decide_eq_true_eq,List.getD_eq_getElem?_getD,List.getElem?_eq_getElem ax,getD_some]at this;exact this
 .rw[abN]at aa;cases aa
theorem abP:∀(l o:azD),(∀x∈l,fG x)->(∀x∈o,fG x)->∀x∈l.foldl lB o,fG x
 |[],o,_,bL=>bL
 |s::r,o,aC,bL=>abP r _ (λx an=>aC x (List.mem_cons_of_mem _ an)) (abx bL (aC s (by simp)))
theorem avr {e:azx} (h:pE e) (aF:lZ e=true) {p:bp} (ay:p.bV.length<=1048576) (aa:sO e p=some true):
  ∃(lC S:azD) (b:Bool),uU e p=some (lC,b)/\uA e p=some (S,b)/\(b=true->S=lC/\lC.length<=200/\∀x∈lC,fG x):=by
 obtain⟨i,ai,j,DV,ui,bJ,mK,iB⟩:=abM h aF ay aa;have avs:e[i].Body.length<=20:=(AH ((DP h aF).2.2 i ai).2.1).2.2;have A:=avo h aF ai 20 j p.bV bJ mK iB (by omega);have hlen:(i1 e[i] i 20 j p.bV).length<=549755813888:=by
  have ad:=A.len;have ae:2^20*8^(6-p.bV.length)<=2^20*8^6:=mul_le_mul_left _ (Nat.pow_le_pow_right (by omega) (by omega));have aJ:2^20*8^6=274877906944:=by decide
  omega
 have cj:JG e (i:Int) (j:Int) p.bV []=some ((i1 e[i] i 20 j p.bV).foldl mC []):=by
  unfold JG;exact eY 20 λm hm=>A.spec m hm [] (by simp) (λx an=>by cases an)
 have DW:Kx e [] [] (i:Int) (j:Int) p.bV=some (e,((i1 e[i] i 20 j p.bV).foldl mf ([],[])).1,((i1 e[i] i 20 j p.bV).foldl mf ([],[])).2):=by
  unfold Kx;exact eY 20 λm hm=>A.impl m hm ([],[]) (by simpa using hlen)
 have ER:=Tg (i1 e[i] i 20 j p.bV) [] [] A.mc (λx an=>by cases an) (λs _=>rfl);obtain⟨cA,c2⟩:=abz (i1 e[i] i 20 j p.bV) [];have yF:=abP (i1 e[i] i 20 j p.bV) [] A.mc (λx an=>by cases an);unfold uA uU;rw[DV,ui,cj,DW,ER];simp only[bind_some];generalize (i1 e[i] i 20 j p.bV).foldl lB []=lC at cA c2 yF⊢;by_cases aC:lC.length<=200
 .rw[cA aC];exact⟨lC,lC,_,rfl,rfl,λ_=>⟨rfl,aC,yF⟩⟩
 .have:=c2 (by omega);generalize (i1 e[i] i 20 j p.bV).foldl mC []=j5 at this⊢;refine⟨lC,j5,false,?_,?_,λh=>by cases h⟩
  .rw[show decide ((lC.length:Int)<=200)=false from decide_eq_false (by omega)]
  .rw[show decide ((j5.length:Int)<=200)=false from decide_eq_false (by omega)]
theorem Tk {n:azc} (h:ha n=true):(40:UInt8)∉n:=λhm=>by
 have:=S9 h _ hm;revert this;decide
theorem LS (c:UInt8):∀l:azb,l≠[]->(∀x∈l,c∉x)->fR c (hG l [c])=l
 |[],h,_=>absurd rfl h
 |[x],_,h=>by rw[join_one,Su c x (h x (by simp))]
 |x::y::r,_,h=>by
  rw[join_cons,List.singleton_append,Sv c x _ (h x (by simp)),LS c (y::r) (by simp) λz cf=>h z (List.mem_cons_of_mem _ cf)]
theorem Tl {x:Int} (h:gh x):iX (jB x)=(x,true):=by
 obtain⟨n,rfl⟩:∃n:Nat,x=n:=⟨x.toNat,by have:=h.1;omega⟩
 have aR:n<64:=by have:=h.2;omega
 have key:∀k:Fin 64,iX (iw k.val)=((k.val:Int),true):=by decide
 have:=key ⟨n,aR⟩;simpa [jB]using this
theorem abQ {a:aze} (h:∀x∈a,gh x):lY (a.map jB)=a/\tt (a.map jB)=true/\oW (a.map jB)=true:=by
 refine⟨?_,?_,?_⟩
 .unfold lY;rw[List.map_map];conv=>rhs;rw[<-List.map_id a]
  exact List.map_congr_left λx an=>by simp only[Function.comp,Tl (h x an),id]
 .unfold tt;rw[List.all_map,List.all_eq_true];intro x an;simp only[Function.comp,Tl (h x an)]
 .unfold oW;rw[List.all_map,List.all_eq_true];intro x an;have:=h x an;simp only[Function.comp,Tl (h x an),pC,Bool.true_and,Bool.and_eq_true,decide_eq_true_eq];exact this
theorem LU {n:azc} {a:aze} (h:a.length≠0):iD n a=n++40::(iC a++[41]):=by
 unfold iD;rw[if_neg h];simp
theorem avt {a:aze} (h:a.length≠0):iC a=hG (a.map jB) [44]:=by
 unfold iC;rw[if_neg (λe=>h (by rw[e];rfl))]
theorem abR {a:aze} (h:a.length≠0) (aF:∀x∈a,gh x):fR 44 (iC a)=a.map jB:=by
 rw[avt h];exact LS 44 _ (λe=>h (by simpa using congrArg List.length e)) (Tf aF)
theorem avu {n:azc} {a:aze} (aR:ha n=true) (aC:a.length<=2) (aY:(n==([116,97,117]:azc))=true->a.length=0) (aF:∀x∈a,gh x):
  uR (iD n a)=some (n,a,true):=by
 have yC:n.length<=10:=by simp only[ha,Bool.and_eq_true,decide_eq_true_eq]at aR;exact aR.1
 have yG:=Tk aR;unfold uR;by_cases h:a.length=0
 .have bl:a=[]:=List.length_eq_zero_iff.1 h;subst bl;have e:iD n []=n:=rfl;rw[e,aaj yG];simp only[bind_some,cond_false,zU];rw[HF n [] aR (by simp) (λ_=>rfl) (λx an=>by cases an),e];simp
 .have ad:=w6 a;have ar:=abR h aF;rw[LU h,aak n (iC a++[41]) yG (by simp;omega)];simp only[bind_some,cond_true];rw[aal _ (by omega),bind_some,aao 44 _ (by omega),bind_some,ar,aaE _ (by simp;omega)];obtain⟨aO,aU,_⟩:=abQ aF;rw[aO,aU];simp only[if_true,bind_some,Bool.not_true,cond_false,zU];rw[HF n a aR aC aY aF,LU h];simp
theorem abS {n:azc} {a:aze} (aR:ha n=true) (aC:a.length<=2):sR (iD n a)=some n:=by
 have yC:n.length<=10:=by simp only[ha,Bool.and_eq_true,decide_eq_true_eq]at aR;exact aR.1
 have yG:=Tk aR;unfold sR;by_cases h:a.length=0
 .have bl:a=[]:=List.length_eq_zero_iff.1 h;subst bl;have e:iD n []=n:=rfl;rw[e,(yv n (by omega)).1 yG,bind_some,tq _ _ (Nat.le_refl _),List.take_length];rfl
 .have ad:=w6 a;rw[LU h,(yv _ (by simp;omega)).2 n _ rfl yG,bind_some,tq _ _ (by simp),List.take_left];rfl
theorem abT {n:azc} {a:aze} (aR:ha n=true) (aC:a.length<=2) (aY:(n==([116,97,117]:azc))=true->a.length=0) (aF:∀x∈a,gh x):
  sQ (iD n a)=some (a,true):=by
 have yC:n.length<=10:=by simp only[ha,Bool.and_eq_true,decide_eq_true_eq]at aR;exact aR.1
 have yG:=Tk aR;unfold sQ;by_cases h:a.length=0
 .have bl:a=[]:=List.length_eq_zero_iff.1 h;subst bl;have e:iD n []=n:=rfl;rw[e,(yv n (by omega)).1 yG,bind_some,beq_self_eq_true,cond_true,yu,aR];rfl
 .have ad:=w6 a;have nC:(n==([116,97,117]:azc))=false:=by
   cases ax:n==([116,97,117]:azc)
   .rfl
   .exact absurd (aY ax) h
  have n3:(n++40::(iC a++[41])).length=n.length+(iC a).length+2:=by simp;omega
  have fT:((n.length:Int)==(((n++40::(iC a++[41])).length:Nat):Int))=false:=by rw[n3,beq_eq_false_iff_ne];omega
  rw[LU h,(yv _ (by omega)).2 n _ rfl yG,bind_some,fT,cond_false];rw[tq _ _ (by omega),List.take_left,bind_some];have r2:rf n=some true:=by unfold rf;rw[yu,aR];simp only[bind_some,nC];rfl
  rw[r2];simp only[bind_some,Bool.not_true,cond_false];have aO:i64.wrap (((n++40::(iC a++[41])).length:Int)-1)=((n.length+(iC a).length+1:Nat):Int):=by rw[n3,eD _ (by omega)];omega
  have aU:i64.wrap ((n.length:Int)+1)=((n.length+1:Nat):Int):=by rw[eD _ (by omega)];omega
  have aM:n++40::(iC a++[41])=(n++[40])++(iC a++[41]):=by simp
  rw[aO,aU,dJ _ (n.length+(iC a).length+1) (by omega),bind_some];have bT:(n++40::(iC a++[41]))[n.length+(iC a).length+1]'(by omega)=41:=by
   rw[List.getElem_append_right (by omega)];simp[show n.length+(iC a).length+1-n.length=(iC a).length+1 by omega]
  rw[bT,show(((41:UInt8).toNat:Int) !=41)=false from rfl,cond_false,aM,DC _ _ _ (by simp) (by simp;omega),bind_some,aap 44 _ (by omega),bind_some,abR h aF];have hw:∀w∈a.map jB,w.length<=1048576:=by
   intro w hw;obtain⟨x,_,rfl⟩:=List.mem_map.1 hw;have:=HB x;omega
  rw[aaF _ (by simp;omega) hw];obtain⟨f1,_,f3⟩:=abQ aF;rw[f1,f3,List.length_map,decide_eq_true aC];rfl
end Go.l_
