/- Part of a proof that a law returns true for every input. No condition. -/
import Derived.Test.YtmaepbgkcmjcjagGreatDoorUV3x
import Derived.Test.YtmaepbgkcmjcjagGreatDoorUV2x
import Derived.Test.YtmaepbgkcmjcjagGreatDoorUV1x
import Derived.Test.YtmaepbgkcmjcjagGreatDoorUV0x
namespace Go.lZ
open Option Go.IntKind Nat
open Go Go.ef
def rM (x y:a7):Bool:=(x.Label==y.Label)&&((x.Next.cD==y.Next.cD)&&((x.Next.Part==y.Next.Part)&&(x.Next.bV==y.Next.bV)))
def ll (o:axz) (s:a7):axz:=if(o.any λx=>rM x s)=true then o else o++[s]
def mw (o:axz) (s:a7):axz:=if 200<o.length then o else ll o s
theorem RN {x y:a7}:rM x y=true↔x=y:=by
 cases x with
 |mk awQ ast=>
  cases ast;cases y with
  |mk awR asu=>
   cases asu;simp[rM]
theorem RO (a b:axc) (h:a.length<=1048576):E9 a b=some (a==b):=by
 unfold E9;by_cases aC:a.length=b.length
 .have e:((a.length:Int) !=(b.length:Int))=false:=by simp[aC]
  rw[e,cond_false];have:=pW (n:=a.length) (l:=Bq a b) (λi=>some (a.drop i==b.drop i)) (λm=>?_) (λi ag m ih=>?_)
  .simpa using this
  .simp only[Bq,Oa];rw[eL (Nat.le_refl _),List.drop_of_length_le (Nat.le_refl _),List.drop_of_length_le (by omega)];rfl
  .simp only[Bq,Oa];rw[el ag,dM _ i ag,dM _ i (by omega),d_ i _ ag (by omega),drop_cons a i ag,drop_cons b i (by omega),List.cons_beq_cons];simp only[cond_true,bind_some,ih,bne];cases a[i]==b[i]
   .rfl
   .simp
 .have e:((a.length:Int) !=(b.length:Int))=true:=by simp;omega
  have aU:(a==b)=false:=by
   rw[beq_eq_false_iff_ne];intro h;exact aC (by rw[h])
  rw[e,cond_true,aU]
theorem asv (o:axz) (s:a7) (h:o.length<=1048576) (hg:∀x∈o,fy x):IK o s=some (ll o s):=by
 have ec:ll o s=cond (o.any λx=>rM x s) o (o++[s]):=by
  unfold ll;cases o.any λx=>rM x s<;>rfl
 unfold IK;rw[ec,pW (n:=o.length) (l:=Bs o s) (λi=>some (cond ((o.drop i).any λx=>rM x s) o (o++[s]))) (λm=>?_) (λi ag m ih=>?_),List.drop_zero]
 .simp only[Bs,Ob];rw[eL (Nat.le_refl _),lK (by omega) (by omega),List.drop_of_length_le (Nat.le_refl _)];rfl
 .simp only[Bs,Ob];rw[el ag,dM _ i ag,d_ i _ ag (by omega),drop_cons o i ag];simp only[cond_true,bind_some,ih,List.any_cons];have aE:=(hg _ (List.getElem_mem ag)).km.1;unfold Br;rw[RO _ _ (by omega)];have e:rM o[i] s=((o[i].Label==s.Label)&&((o[i].Next.cD==s.Next.cD)&&((o[i].Next.Part==s.Next.Part)&&(o[i].Next.bV==s.Next.bV)))):=rfl;rw[e];cases o[i].Label==s.Label
  .rfl
  .cases o[i].Next.cD==s.Next.cD
   .rfl
   .cases o[i].Next.Part==s.Next.Part
    .rfl
    .cases o[i].Next.bV==s.Next.bV
     .rfl
     .rfl
theorem aad (o:axz) (s:a7):o.length<=(ll o s).length/\(ll o s).length<=o.length+1:=by
 unfold ll;split
 .omega
 .simp
theorem aae {o:axz} {s:a7} (hg:∀x∈o,fy x) (aa:fy s):∀x∈ll o s,fy x:=by
 intro x an;unfold ll at an;split at an
 .exact hg x an
 .rcases List.mem_append.1 an with an|an
  .exact hg x an
  .rw[List.mem_singleton]at an;rwa [an]
theorem asw {o:axz} {s:a7} (bH:o.length<=201) (hg:∀x∈o,fy x) (aa:fy s):(mw o s).length<=201/\∀x∈mw o s,fy x:=by
 unfold mw;split
 .exact⟨bH,hg⟩
 .have:=aad o s;exact⟨by omega,aae hg aa⟩
theorem RP:∀(l o:axz),o.length<=201->(∀x∈o,fy x)->(∀x∈l,fy x)->(l.foldl mw o).length<=201/\∀x∈l.foldl mw o,fy x
 |[],o,bH,hg,_=>⟨bH,hg⟩
 |s::r,o,bH,hg,aC=>by
  obtain⟨ad,ae⟩:=asw bH hg (aC s (by simp));exact RP r (mw o s) ad ae λx an=>aC x (List.mem_cons_of_mem _ an)
theorem C7:∀(l o:axz),200<o.length->l.foldl mw o=o
 |[],o,_=>rfl
 |s::r,o,h=>by rw[List.foldl_cons,show mw o s=o by unfold mw;rw[if_pos h],C7 r o h]
theorem aaf:∀(l o:axz),o.length<=(l.foldl ll o).length
 |[],o=>Nat.le_refl _
 |s::r,o=>Nat.le_trans (aad o s).1 (aaf r _)
theorem aag:∀(l o:axz),((l.foldl ll o).length<=200->l.foldl mw o=l.foldl ll o)/\(200<(l.foldl ll o).length->200<(l.foldl mw o).length)
 |[],o=>⟨λ_=>rfl,λh=>h⟩
 |s::r,o=>by
  by_cases h:200<o.length
  .rw[C7 _ _ h];have:=aaf (s::r) o;exact⟨λae=>by omega,λ_=>h⟩
  .rw[List.foldl_cons,List.foldl_cons,show mw o s=ll o s by unfold mw;rw[if_neg h]];exact aag r (ll o s)
def rN (s:a7):axa:=(s.Label++[32])++((iR s.Next.cD.toNat++[58])++((iR s.Next.Part.toNat++[58])++iv s.Next.bV))
def ma (p:axz×awY) (s:a7):axz×awY:=
 if jL (rN s) p.2=true then p else(p.1++[s],j1 (rN s) true p.2)
theorem asx (e:axu) (o:axz) (m:awY) (s:a7) (aa:fy s) (bH:o.length<=1099511627776):
  Jr e o m s.Label s.Next.cD s.Next.Part s.Next.bV=some (e,(ma (o,m) s).1,(ma (o,m) s).2):=by
 obtain⟨i,ag,ia⟩:=aa.wq;obtain⟨j,bE,oh⟩:=aa.wt;have ad:=wa i;have ae:=wa j;have aI:=wk s.Next.bV;have bc:=aa.km.1;have bY:=aa.Ab.1;have au:zl ⟨s.Next.cD,s.Next.Part,s.Next.bV⟩=some ((iR i++[58])++((iR j++[58])++iv s.Next.bV)):=by
  unfold zl Jq;simp only[ia,oh,zU i ag,zU j bE,bind_some,Rx _ bc aa.km.2];rw[l_ (by omega),l_ (by omega)];simp only[bind_some];rw[l_ (by simp only[List.length_append,List.length_cons,List.length_nil];omega)];simp only[bind_some];rw[l_ (by simp only[List.length_append,List.length_cons,List.length_nil];omega)];rfl
 unfold Jr;rw[l_ (by omega),au];simp only[bind_some];rw[l_ (by simp only[List.length_append,List.length_cons,List.length_nil];omega)];simp only[bind_some];have s6:rN s=(s.Label++[32])++((iR i++[58])++((iR j++[58])++iv s.Next.bV)):=by unfold rN;rw[ia,oh];rfl
 rw[<-s6];unfold ma;cases hg:jL (rN s) m
 .simp only[Bool.not_false,cond_true,hg];rw[lK (by omega) (by omega)];rfl
 .simp only[Bool.not_true,cond_false,hg];rfl
theorem RQ:∀(l:axz) (p:axz×awY),(l.foldl ma p).1.length<=p.1.length+l.length
 |[],p=>Nat.le_refl _
 |s::r,p=>by
  have ad:=RQ r (ma p s);have ae:(ma p s).1.length<=p.1.length+1:=by
   unfold ma;split
   .omega
   .simp
  rw[List.foldl_cons,List.length_cons];omega
theorem RR (k c_:axa) (b:Bool):∀m,jL k (j1 c_ b m)=if c_=k then b else jL k m
 |[]=>by simp[j1,jL]
 |e::m=>by
  simp only[j1];by_cases h:e.1=c_
  .rw[if_pos h];simp only[jL];by_cases ae:c_=k
   .rw[if_pos ae,if_pos ae]
   .rw[if_neg ae,if_neg ae,if_neg (by rw[h];exact ae)]
  .rw[if_neg h];simp only[jL];by_cases ae:e.1=k
   .rw[if_pos ae,if_pos ae,if_neg (by intro aI;exact h (ae.trans aI.symm))]
   .rw[if_neg ae,if_neg ae,RR k c_ b m]
theorem uL {c:UInt8}:∀{x y u v:axa},c∉x->c∉y->x++c::u=y++c::v->x=y/\u=v
 |[],[],u,v,_,_,h=>⟨rfl,(List.cons.inj h).2⟩
 |[],y::cL,u,v,_,ae,h=>(ae (by rw[List.nil_append,List.cons_append]at h;rw[(List.cons.inj h).1];simp)).elim
 |x::xs,[],u,v,ad,_,h=>(ad (by rw[List.nil_append,List.cons_append]at h;rw[<-(List.cons.inj h).1];simp)).elim
 |x::xs,y::cL,u,v,ad,ae,h=>by
  rw[List.cons_append,List.cons_append]at h;obtain⟨aN,aU⟩:=List.cons.inj h;obtain⟨aR,bW⟩:=uL (λhm=>ad (List.mem_cons_of_mem _ hm)) (λhm=>ae (List.mem_cons_of_mem _ hm)) aU;exact⟨by rw[aN,aR],bW⟩
theorem Ac {m n:Nat} (hm:m<100) (aS:n<100) (h:iR m=iR n):m=n:=by
 have d:∀a b:Fin 10,UInt8.ofNat (48+a)=UInt8.ofNat (48+b)->a=b:=by decide
 have d2:∀a b:Nat,a<10->b<10->UInt8.ofNat (48+a)=UInt8.ofNat (48+b)->a=b:=λa b bl ab e=>congrArg Fin.val (d ⟨a,bl⟩ ⟨b,ab⟩ e);unfold iR at h;split at h<;>split at h
 .exact d2 _ _ (by omega) (by omega) (List.cons.inj h).1
 .cases(List.cons.inj h).2
 .cases(List.cons.inj h).2
 .have ad:=d2 _ _ (by omega) (by omega) (List.cons.inj h).1;have ae:=d2 _ _ (by omega) (by omega) (List.cons.inj (List.cons.inj h).2).1;omega
theorem aah:∀{a b:awZ},(∀x∈a,(44:UInt8)∉x)->(∀x∈b,(44:UInt8)∉x)->a≠[]->b≠[]->jq a [44]=jq b [44]->a=b
 |[],_,_,_,h,_,_=>(h rfl).elim
 |_::_,[],_,_,_,h,_=>(h rfl).elim
 |[x],[y],_,_,_,_,h=>by rw[join_one,join_one]at h;rw[h]
 |[x],y::z::r,bl,_,_,_,h=>by
  rw[join_one,join_cons]at h;exact(bl x (by simp) (by rw[h];simp)).elim
 |x::z::r,[y],_,ab,_,_,h=>by
  rw[join_one,join_cons]at h;exact(ab y (by simp) (by rw[<-h];simp)).elim
 |x::af::r,y::ie::q,bl,ab,_,_,h=>by
  rw[join_cons,join_cons]at h;obtain⟨aN,aU⟩:=uL (bl x (by simp)) (ab y (by simp)) (by simpa using h);rw[aN,aah (a:=af::r) (b:=ie::q) (λz b9=>bl z (List.mem_cons_of_mem _ b9)) (λz b9=>ab z (List.mem_cons_of_mem _ b9)) (by simp) (by simp) aU]
theorem val_inj {a b:axc} (bl:∀x∈a,gh x) (ab:∀x∈b,gh x) (h:a.map j0=b.map j0):a=b:=by
 induction a generalizing b with
 |nil=>cases b with
  |nil=>rfl
  |cons y r=>cases h
 |cons x r ih=>cases b with
  |nil=>cases h
  |cons y q=>
   rw[List.map_cons,List.map_cons]at h;obtain⟨aN,aU⟩:=List.cons.inj h;have an:=bl x (by simp);have hy:=ab y (by simp);unfold gh at an hy;have:=Ac (m:=x.toNat) (n:=y.toNat) (by omega) (by omega) aN;rw[ih (λz b9=>bl z (List.mem_cons_of_mem _ b9)) (λz b9=>ab z (List.mem_cons_of_mem _ b9)) aU,show x=y by omega]
theorem RS {a:axc} (bl:∀x∈a,gh x):∀x∈a.map j0,(44:UInt8)∉x:=by
 intro x an hm;obtain⟨y,hy,rfl⟩:=List.mem_map.1 an;have ad:=bl y hy;unfold gh at ad;have:=(wu y.toNat (by omega) _ hm).1;revert this;decide
theorem aai {a:axc} (bl:∀x∈a,gh x) (aS:a≠[]):jq (a.map j0) [44]≠[45]:=by
 cases a with
 |nil=>exact(aS rfl).elim
 |cons x r=>
  intro h;have an:=bl x (by simp);unfold gh at an;have bb:j0 x≠[]:=by unfold j0 iR;split<;>simp
  have ar:∀u,j0 x++u=[45]->False:=by
   intro u hu;cases aE:j0 x with
   |nil=>exact bb aE
   |cons c w=>
    rw[aE,List.cons_append]at hu;have:=(wu x.toNat (by omega) c (by unfold j0 at aE;rw[aE];simp)).1;rw[(List.cons.inj hu).1]at this;revert this;decide
  cases r with
  |nil=>rw[List.map_cons,List.map_nil,join_one]at h;exact ar [] (by simpa using h)
  |cons y q=>rw[List.map_cons,List.map_cons,join_cons]at h;exact ar _ h
theorem aaj {a b:axc} (bl:∀x∈a,gh x) (ab:∀x∈b,gh x) (h:iv a=iv b):a=b:=by
 unfold iv at h;by_cases ad:a=[]
 .by_cases ae:b=[]
  .rw[ad,ae]
  .rw[if_pos ad,if_neg ae]at h;exact(aai ab ae h.symm).elim
 .by_cases ae:b=[]
  .rw[if_neg ad,if_pos ae]at h;exact(aai bl ad h).elim
  .rw[if_neg ad,if_neg ae]at h;exact val_inj bl ab (aah (RS bl) (RS ab) (by simpa using ad) (by simpa using ae) h)
theorem x2 {n:Nat} (h:n<100):(58:UInt8)∉iR n:=by
 intro hm;have:=(wu n h _ hm).2;revert this;decide
theorem key_inj {x y:a7} (an:fy x) (hy:fy y) (h:rN x=rN y):x=y:=by
 obtain⟨i,ag,ia⟩:=an.wq;obtain⟨j,bE,oh⟩:=an.wt;obtain⟨i2,mH,aak⟩:=hy.wq;obtain⟨awS,qb,aal⟩:=hy.wt;unfold rN at h;rw[ia,oh,aak,aal]at h;simp only[Int.toNat_natCast,List.append_assoc,List.singleton_append]at h;obtain⟨aN,h⟩:=uL an.Ab.2 hy.Ab.2 h;obtain⟨aU,h⟩:=uL (x2 ag) (x2 mH) h;obtain⟨aR,h⟩:=uL (x2 bE) (x2 qb) h;have bW:=aaj an.km.2 hy.km.2 h;have aU:=Ac ag mH aU;have aR:=Ac bE qb aR;refine RN.1 ?_;simp only[rM,aN,bW,ia,aak,aU,oh,aal,aR,beq_self_eq_true,Bool.and_self]
theorem RT:∀(l o:axz) (m:awY),(∀x∈l,fy x)->(∀x∈o,fy x)->(∀s,fy s->jL (rN s) m=o.any λx=>rM x s)->(l.foldl ma (o,m)).1=l.foldl ll o
 |[],o,m,_,_,_=>rfl
 |s::r,o,m,aC,bH,hm=>by
  have aa:=aC s (by simp);have aQ:∀x∈r,fy x:=λx an=>aC x (List.mem_cons_of_mem _ an);rw[List.foldl_cons,List.foldl_cons];by_cases h:(o.any λx=>rM x s)=true
  .rw[show ma (o,m) s=(o,m) by unfold ma;rw[if_pos ((hm s aa).trans h)],show ll o s=o by unfold ll;rw[if_pos h]];exact RT r o m aQ bH hm
  .rw[show ma (o,m) s=(o++[s],j1 (rN s) true m) by unfold ma;rw[if_neg (by simp only[hm s aa];exact h)],show ll o s=o++[s] by unfold ll;rw[if_neg h]];refine RT r _ _ aQ (λx an=>?_) λt aZ=>?_
   .rcases List.mem_append.1 an with an|an
    .exact bH x an
    .rw[List.mem_singleton]at an;rwa [an]
   .rw[RR,List.any_append,List.any_cons,List.any_nil,Bool.or_false];by_cases au:rN s=rN t
    .have:=key_inj aa aZ au;rw[if_pos au,RN.2 this,Bool.or_true]
    .rw[if_neg au,hm t aZ];have:rM s t=false:=by
      cases CX:rM s t
      .rfl
      .exact(au (by rw[RN.1 CX])).elim
     rw[this,Bool.or_false]
theorem KU {d:a6} {j:Nat} (bE:j<d.Body.length):fl d j=d.Body[j]:=by
 unfold fl;rw[List.getD_eq_getElem?_getD,List.getElem?_eq_getElem bE];rfl
theorem RU {d:a6} {j:Nat} (bE:j<d.Body.length):bm d.Body (j:Int)=some (fl d j):=by
 rw[dM _ j bE,KU bE]
theorem aam {α:Type} {xs:List α} {n:Int} {x:α} (h:bm xs n=some x):0<=n/\∃aC:n.toNat<xs.length,xs[n.toNat]=x:=by
 have ad:=dy h;have bb:0<=n:=by
  unfold bm at h;split at h
  .omega
  .cases h
 exact⟨bb,List.getElem?_eq_some_iff.1 ad⟩
theorem hl {j:Nat} (h:j<=1048576):i64.wrap ((j:Int)+1)=((j+1:Nat):Int):=by rw[fk _ (by omega)];omega
structure uM (e:axu) (d:a6) (i n j:Nat) (a:axc):Prop where
 l8:∀s∈iP d i n j a,fy s
 len:(iP d i n j a).length<=2^n*8^(6-a.length)
 spec:∀m,n<=m->∀out:axz,out.length<=201->(∀x∈out,fy x)->q3 m e (i:Int) (j:Int) a out=some ((iP d i n j a).foldl mw out)
 impl:∀m,n<=m->∀p:axz×awY,p.1.length+(iP d i n j a).length<=549755813888->rb m e p.1 p.2 (i:Int) (j:Int) a=some (e,((iP d i n j a).foldl ma p).1,((iP d i n j a).foldl ma p).2)
theorem uM.of {e:axu} {d:a6} {i n j:Nat} {a:axc} {l:axz} (c:iP d i n j a=l) (l8:∀s∈l,fy s)
  (len:l.length<=2^n*8^(6-a.length))
  (spec:∀m,n<=m->∀out:axz,out.length<=201->(∀x∈out,fy x)->q3 m e (i:Int) (j:Int) a out=some (l.foldl mw out))
  (impl:∀m,n<=m->∀p:axz×awY,p.1.length+l.length<=549755813888->rb m e p.1 p.2 (i:Int) (j:Int) a=some (e,(l.foldl ma p).1,(l.foldl ma p).2)):uM e d i n j a:=by
 subst c;exact⟨l8,len,spec,impl⟩
theorem asy (s:a7) (out:axz) (h:¬200<out.length):[s].foldl mw out=ll out s:=by
 rw[List.foldl_cons,List.foldl_nil,mw,if_neg h]
theorem aan {f:Nat->axz} {B:Nat}:∀(k s:Nat),(∀v,s<=v->v<s+k->(f v).length<=B)->((List.range' s k).flatMap f).length<=k*B
 |0,s,_=>by simp
 |k+1,s,h=>by
  rw[List.range'_succ,List.flatMap_cons,List.length_append];have ad:=h s (by omega) (by omega);have ae:=aan k (s+1) λv ad ae=>h v (by omega) (by omega);rw[Nat.add_mul];omega
theorem aao {rec:axu->Int->Int->axc->axz->Option axz} {a:axc} {out:axz} {p:cG} {v w:Int} {x:axc} (ax:zZ p) (aZ:∀q∈p.cO,pk q a.length 15=true)
  (aS:hx p.Name=true) (aC:p.cO.length<=2) (bl:∀y∈a,gh y) (bH:out.length<=1048576) (hg:∀y∈out,fy y):
  E_ rec a out p v w x=some (ll out ⟨iw p.Name (nK p.cO a),⟨v,w,x⟩⟩):=by
 have x1:p.Name.length<=10:=by simp only[hx,Bool.and_eq_true,decide_eq_true_eq]at aS;exact aS.1
 unfold E_;rw[(KR _ ax.2.1 a aZ).1];simp only[bind_some];rw[Z_ _ _ x1 (by unfold nK;rw[List.length_map];omega) (GX bl aZ)];simp only[bind_some,asv _ _ bH hg]
theorem aap {e:axu} {i j:Nat} {a:axc} {p:cG} {N:Nat} {f:Nat->axz} {rec:axu->Int->Int->axc->axz->Option axz} (zT:p.Number=(N:Int)-1) (Ad:N<=8) (bE:j<=1048576) (xf:a.length<=100)
  (bF:∀v,v<N->(∀s∈f v,fy s)/\∀out:axz,out.length<=201->(∀x∈out,fy x)->rec e (i:Int) ((j+1:Nat):Int) (a++[(v:Int)]) out=some ((f v).foldl mw out)):
  ∀(k s:Nat) (out:axz) (m:Nat),s+k=N->k<m->out.length<=201->(∀x∈out,fy x)->Bu rec e (i:Int) (j:Int) a p m out (s:Int)=some (((List.range' s k).flatMap f).foldl mw out)
 |0,s,out,m,aa,hm,bH,hg=>by
  obtain⟨m,rfl⟩:∃q,m=q+1:=⟨m-1,by omega⟩
  simp only[Bu,Oc,y2];rw[show decide ((s:Int)<=p.Number)=false from decide_eq_false (by omega)];rfl
 |k+1,s,out,m,aa,hm,bH,hg=>by
  obtain⟨m,rfl⟩:∃q,m=q+1:=⟨m-1,by omega⟩
  obtain⟨ad,ae⟩:=bF s (by omega);simp only[Bu,Oc];rw[show decide ((s:Int)<=p.Number)=true from decide_eq_true (by omega),cond_true,RK a (by omega)];simp only[bind_some];rw[lK (by omega) (by omega),hl bE,hl (by omega)];simp only[bind_some,ae out bH hg];obtain⟨g1,g2⟩:=RP (f s) out bH hg ad;rw[aap zT Ad bE xf bF k (s+1) _ m (by omega) (by omega) g1 g2,List.range'_succ,List.flatMap_cons,List.foldl_append]
theorem aaq {e:axu} {i j:Nat} {a:axc} {q:cG} {N:Nat} {f:Nat->axz} {rec:axu->axz->awY->Int->Int->axc->Option (axu×axz×awY)} (zT:q.Number=(N:Int)-1) (Ad:N<=8) (bE:j<=1048576) (xf:a.length<=100)
  (bF:∀v,v<N->∀p:axz×awY,p.1.length+(f v).length<=549755813888->rec e p.1 p.2 (i:Int) ((j+1:Nat):Int) (a++[(v:Int)])=some (e,((f v).foldl ma p).1,((f v).foldl ma p).2)):
  ∀(k s:Nat) (p:axz×awY) (m:Nat),s+k=N->k<m->p.1.length+((List.range' s k).flatMap f).length<=549755813888->
   Ca rec (i:Int) (j:Int) a q m e p.1 p.2 (s:Int)=some (e,(((List.range' s k).flatMap f).foldl ma p).1,(((List.range' s k).flatMap f).foldl ma p).2)
 |0,s,p,m,aa,hm,bH=>by
  obtain⟨m,rfl⟩:∃q,m=q+1:=⟨m-1,by omega⟩
  simp only[Ca,Pc];rw[fk (q.Number+1) (by omega),show decide ((s:Int)<q.Number+1)=false from decide_eq_false (by omega)];rfl
 |k+1,s,p,m,aa,hm,bH=>by
  obtain⟨m,rfl⟩:∃q,m=q+1:=⟨m-1,by omega⟩
  rw[List.range'_succ,List.flatMap_cons,List.length_append]at bH;simp only[Ca,Pc];rw[fk (q.Number+1) (by omega),show decide ((s:Int)<q.Number+1)=true from decide_eq_true (by omega),cond_true,KT a (by omega)];simp only[bind_some];rw[lK (by omega) (by omega),hl bE,hl (by omega)];simp only[bind_some,bF s (by omega) p (by omega)];have au:=RQ (f s) p;rw[aaq zT Ad bE xf bF k (s+1) _ m (by omega) (by omega) (by omega),List.range'_succ,List.flatMap_cons,List.foldl_append]
theorem RV (n B:Nat):2^(n+1)*B=2^n*B+2^n*B:=by
 rw[Nat.pow_succ,Nat.mul_comm (2^n) 2,Nat.mul_assoc,Nat.two_mul]
theorem asz (n k:Nat):1<=2^n*8^k:=Nat.mul_pos (Nat.pow_pos (by omega)) (Nat.pow_pos (by omega))
theorem asA {n k:Nat} (h:k<=5):2^n*8^(6-k)=8*(2^n*8^(6-(k+1))):=by
 rw[show 6-k=(6-(k+1))+1 by omega,Nat.pow_succ,<-Nat.mul_assoc,Nat.mul_comm]
theorem asB {e:axu} (h:pn e) (aE:lM e=true) {i:Nat} (ag:i<e.length):∀(n j:Nat) (a:axc),j<e[i].Body.length->(jn e[i] j).scope=(a.length:Int)->(∀x∈a,gh x)->e[i].Body.length-j<=n->uM e e[i] i n j a:=by
 obtain⟨Hm,awT,al⟩:=C4 h aE;obtain⟨awU,ot,_⟩:=al i ag;obtain⟨s1,s2,r7⟩:=z6 ot;intro n;induction n with
 |zero=>intro j a bE _ _ aS;omega
 |succ n ih=>
  intro j a bE mD bl aS;have P:=RF h aE ag bE;rw[mD,<-KU bE]at P;have xf:a.length<=29:=by have:=P.Z6;omega
  obtain⟨GZ,aar⟩:=asp e[i] s1 bE;rw[<-KU bE]at GZ aar;have rO:=dM e i ag;have rP:=RU bE;have C8:∀out:axz,200<out.length->decide (200<(out.length:Int))=true:=λout bH=>decide_eq_true (by omega);have h5:∀out:axz,¬200<out.length->decide (200<(out.length:Int))=false:=λout bH=>decide_eq_false (by omega);by_cases bX:(fl e[i] j).Kind=1
  .have j5:ey (fl e[i] j)=1:=by unfold ey;rw[if_pos (.inl bX)]
   obtain⟨qX,wv⟩:=GZ (by omega);have wv:(jn e[i] (j+1)).scope=(a.length:Int):=by rw[wv];unfold below;rw[if_neg (by omega)];exact mD
   have x3:=RF h aE ag qX;rw[wv,<-KU qX]at x3;obtain⟨mm,bL,e7⟩:=P.act bX;have KV:=RM (a:=nK (fl e[i] j).cO a) mm (by unfold nK;rw[List.length_map];omega) (GX bl P.args);have x4:fy (wo e[i] i j a):=by
    refine⟨KV,?_,?_,?_,_,_,mm,by unfold nK;rw[List.length_map];exact bL,λh=>by unfold nK;rw[List.length_map];exact e7 h,GX bl P.args,rfl⟩
    .unfold wo;by_cases eG:(fl e[i] (j+1)).Kind=5
     .rw[if_pos eG];obtain⟨bj,b3,_⟩:=x3.call eG;obtain⟨At,aas,_⟩:=aam b3;exact⟨(fl e[i] (j+1)).Number.toNat,by omega,by simp only;omega⟩
     .rw[if_neg eG];exact⟨i,by omega,rfl⟩
    .unfold wo;by_cases eG:(fl e[i] (j+1)).Kind=5
     .rw[if_pos eG];exact⟨0,by omega,rfl⟩
     .rw[if_neg eG];exact⟨j+1,by omega,rfl⟩
    .unfold wo;by_cases eG:(fl e[i] (j+1)).Kind=5
     .rw[if_pos eG];obtain⟨bj,b3,fu⟩:=x3.call eG;refine⟨?_,GX bl x3.args⟩;have ax:bj.ej<=3:=by
       obtain⟨At,aas,asC⟩:=aam b3;have:=(al _ aas).1;rw[asC]at this;exact this.2
      unfold nK;rw[List.length_map];omega
     .rw[if_neg eG];exact⟨by simp only;omega,bl⟩
   refine uM.of (l:=[wo e[i] i j a]) (by rw[iP,if_pos bX]) (λs aa=>by rw[List.mem_singleton]at aa;rw[aa];exact x4) (asz _ _) ?_ ?_
   .intro m hm out bH hg;obtain⟨m,rfl⟩:∃q,m=q+1:=⟨m-1,by omega⟩
    simp only[q3,xk];rw[rO];simp only[bind_some];rw[rP];simp only[bind_some];by_cases aa:200<out.length
    .rw[C8 out aa,C7 _ _ aa];rfl
    .rw[h5 out aa,bX,asy _ _ aa,RK a (by omega),hl (by omega)];simp only[cond_false,beq_self_eq_true,cond_true,bind_some];rw[RU qX];simp only[bind_some];unfold wo;by_cases eG:(fl e[i] (j+1)).Kind=5
     .rw[if_pos eG,eG];simp only[beq_self_eq_true,cond_true];rw[(KR _ x3.small.2.1 a x3.args).1];simp only[bind_some];exact aao P.small P.args mm bL bl (by omega) hg
     .rw[if_neg eG,show((fl e[i] (j+1)).Kind==5)=false by simpa using eG,cond_false];exact aao P.small P.args mm bL bl (by omega) hg
   .intro m hm p fA;obtain⟨m,rfl⟩:∃q,m=q+1:=⟨m-1,by omega⟩
    obtain⟨b,ab⟩:=ass (fl e[i] j).Name (nK (fl e[i] j).cO a) mm (by unfold nK;rw[List.length_map];omega) (λaZ=>by unfold nK;rw[List.length_map];exact e7 aZ) (GX bl P.args);have u4:=asx e p.1 p.2 (wo e[i] i j a) x4 (by omega);simp only[rb,xr];rw[rO];simp only[bind_some];rw[rP];simp only[bind_some];rw[bX,(KR _ P.small.2.1 a P.args).2];simp only[beq_self_eq_true,cond_true,bind_some,ab,KT a (show a.length<=1048576 by omega)];rw[hl (by omega),RU qX];simp only[bind_some,Js,List.foldl_cons,List.foldl_nil];unfold wo at u4⊢;by_cases eG:(fl e[i] (j+1)).Kind=5
    .rw[if_pos eG]at u4⊢;rw[eG];simp only[beq_self_eq_true,cond_true];rw[(KR _ x3.small.2.1 a x3.args).2];simp only[bind_some];simp only at u4;rw[u4];rfl
    .rw[if_neg eG]at u4⊢;rw[show((fl e[i] (j+1)).Kind==5)=false by simpa using eG,cond_false];simp only at u4;rw[u4];rfl
  by_cases cN:(fl e[i] j).Kind=2
  .have j5:ey (fl e[i] j)=2:=by unfold ey;rw[if_neg (by omega),if_pos cN]
   have C9:(below (fl e[i] j) (jn e[i] j)).scope=(a.length:Int):=by unfold below;rw[if_neg (by omega)];exact mD
   obtain⟨qX,wv⟩:=GZ (by omega);obtain⟨t,RW,Mn,asD⟩:=aar j5;have dQ:RH e[i] (j+1)=j+1+t:=by unfold RH;rw[RW];rfl
   have oU:=ih (j+1) a qX (wv.trans C9) bl (by omega);have Av:=ih (j+1+t) a Mn (asD.trans C9) bl (by omega);have cP:((2:Int)==1)=false:=rfl;refine uM.of (l:=iP e[i] i n (j+1) a++iP e[i] i n (j+1+t) a) (by rw[iP,if_neg bX,if_pos cN,dQ]) (λs aa=>(List.mem_append.1 aa).elim (oU.l8 s) (Av.l8 s)) ?_ ?_ ?_
   .have ad:=oU.len;have ae:=Av.len;rw[List.length_append,RV];omega
   .intro m hm out bH hg;obtain⟨m,rfl⟩:∃q,m=q+1:=⟨m-1,by omega⟩
    simp only[q3,xk];rw[rO];simp only[bind_some];rw[rP];simp only[bind_some];by_cases aa:200<out.length
    .rw[C8 out aa,C7 _ _ aa];rfl
    .obtain⟨g1,g2⟩:=RP _ out bH hg oU.l8;rw[h5 out aa,cN,hl (by omega),oU.spec m (by omega) out bH hg,List.foldl_append];simp only[cond_false,cP,beq_self_eq_true,cond_true,bind_some];rw[Zx _ (by omega) (j+1) t RW];simp only[bind_some];rw[Av.spec m (by omega) _ g1 g2];rfl
   .intro m hm p fA;obtain⟨m,rfl⟩:∃q,m=q+1:=⟨m-1,by omega⟩
    rw[List.length_append]at fA;have au:=RQ (iP e[i] i n (j+1) a) p;simp only[rb,xr];rw[rO];simp only[bind_some];rw[rP];simp only[bind_some];rw[cN,hl (by omega),oU.impl m (by omega) p (by omega)];simp only[cond_false,cP,beq_self_eq_true,cond_true,bind_some];rw[Zw _ (by omega) (j+1) (by omega),RW];simp only[bind_some,s5];rw[Av.impl m (by omega) _ (by omega),List.foldl_append];rfl
  by_cases dH:(fl e[i] j).Kind=3
  .have j5:ey (fl e[i] j)=1:=by unfold ey;rw[if_pos (.inr (.inl dH))]
   obtain⟨qX,wv⟩:=GZ (by omega);have C9:(below (fl e[i] j) (jn e[i] j)).scope=(a.length:Int):=by unfold below;rw[if_neg (by omega)];exact mD
   have oU:=ih (j+1) a qX (wv.trans C9) bl (by omega);have awV:=P.asn dH;have cx:bm (fl e[i] j).cO 0=some ((fl e[i] j).cO.getD 0 []):=by
    have:=dM (fl e[i] j).cO 0 (by omega);rw[List.getD_eq_getElem?_getD,List.getElem?_eq_getElem (show 0<(fl e[i] j).cO.length by omega)];exact this
   have Dr:=P.args ((fl e[i] j).cO.getD 0 []) (by
    rw[List.getD_eq_getElem?_getD,List.getElem?_eq_getElem (show 0<(fl e[i] j).cO.length by omega)];exact List.getElem_mem _)
   obtain⟨v1,v2,_⟩:=KN (by omega) Dr;have hs:((3:Int)==1)=false:=rfl;have fT:((3:Int)==2)=false:=rfl;by_cases b9:rL a ((fl e[i] j).cO.getD 0 [])=0
   .have yj:(rL a ((fl e[i] j).cO.getD 0 []) !=0)=false:=by rw[b9];rfl
    refine uM.of (l:=[]) (by rw[iP,if_neg bX,if_neg cN,if_pos dH,if_neg (λar=>ar b9)]) (λs aa=>by cases aa) (zero_le _) ?_ ?_
    .intro m hm out bH hg;obtain⟨m,rfl⟩:∃q,m=q+1:=⟨m-1,by omega⟩
     simp only[q3,xk,y2];rw[rO];simp only[bind_some];rw[rP];simp only[bind_some];rw[dH];simp only[hs,fT,beq_self_eq_true,cond_true,cond_false,cx,bind_some,v1,yj,List.foldl_nil];cases decide (200<(out.length:Int))<;>rfl
    .intro m hm p fA;obtain⟨m,rfl⟩:∃q,m=q+1:=⟨m-1,by omega⟩
     simp only[rb,xr];rw[rO];simp only[bind_some];rw[rP];simp only[bind_some];rw[dH];simp only[hs,fT,beq_self_eq_true,cond_true,cond_false,cx,bind_some,v2,yj,List.foldl_nil]
   .have yj:(rL a ((fl e[i] j).cO.getD 0 []) !=0)=true:=by simpa using b9
    refine uM.of (l:=iP e[i] i n (j+1) a) (by rw[iP,if_neg bX,if_neg cN,if_pos dH,if_pos b9]) oU.l8 ?_ ?_ ?_
    .have ad:=oU.len;rw[RV];omega
    .intro m hm out bH hg;obtain⟨m,rfl⟩:∃q,m=q+1:=⟨m-1,by omega⟩
     simp only[q3,xk];rw[rO];simp only[bind_some];rw[rP];simp only[bind_some];by_cases aa:200<out.length
     .rw[C8 out aa,C7 _ _ aa];rfl
     .rw[h5 out aa,dH,hl (by omega)];simp only[hs,fT,beq_self_eq_true,cond_true,cond_false,cx,bind_some,v1,yj];rw[oU.spec m (by omega) out bH hg];rfl
    .intro m hm p fA;obtain⟨m,rfl⟩:∃q,m=q+1:=⟨m-1,by omega⟩
     simp only[rb,xr];rw[rO];simp only[bind_some];rw[rP];simp only[bind_some];rw[dH,hl (by omega)];simp only[hs,fT,beq_self_eq_true,cond_true,cond_false,cx,bind_some,v2,yj];rw[oU.impl m (by omega) p fA];rfl
  by_cases dT:(fl e[i] j).Kind=4
  .have j5:ey (fl e[i] j)=1:=by unfold ey;rw[if_pos (.inr (.inr dT))]
   obtain⟨qX,wv⟩:=GZ (by omega);obtain⟨m1,m7,m5⟩:=P.sum dT;have C9:∀v:Nat,(jn e[i] (j+1)).scope=((a++[(v:Int)]).length:Int):=λv=>by
    rw[wv];unfold below;rw[if_pos dT,List.length_append];simp only[List.length_cons,List.length_nil];omega
   have iu:∀v:Nat,v<8->∀x∈a++[(v:Int)],gh x:=λv KW x an=>by
    rcases List.mem_append.1 an with an|an
    .exact bl x an
    .rw[List.mem_singleton]at an;subst an;exact⟨by omega,by omega⟩
   have A:∀v:Nat,v<8->uM e e[i] i n (j+1) (a++[(v:Int)]):=λv KW=>ih (j+1) _ qX (C9 v) (iu v KW) (by omega);have zT:(fl e[i] j).Number=(((fl e[i] j).Number.toNat+1:Nat):Int)-1:=by omega
   have Ad:(fl e[i] j).Number.toNat+1<=8:=by omega
   have hs:((4:Int)==1)=false:=rfl;have fT:((4:Int)==2)=false:=rfl;have fU:((4:Int)==3)=false:=rfl;refine uM.of (l:=(List.range' 0 ((fl e[i] j).Number.toNat+1)).flatMap λ(v:Nat)=>iP e[i] i n (j+1) (a++[((v:Nat):Int)])) (by rw[iP,if_neg bX,if_neg cN,if_neg dH,if_pos dT]) ?_ ?_ ?_ ?_
   .intro s aa;obtain⟨v,Er,z7⟩:=List.mem_flatMap.1 aa;have:=List.mem_range'_1.1 Er;exact(A v (by omega)).l8 s z7
   .have ad:=aan (f:=λ(v:Nat)=>iP e[i] i n (j+1) (a++[((v:Nat):Int)])) (B:=2^n*8^(6-(a.length+1))) ((fl e[i] j).Number.toNat+1) 0 (λv _ z7=>by
     have:=(A v (by omega)).len
     rwa [List.length_append]at this)
    have ae:((fl e[i] j).Number.toNat+1)*(2^n*8^(6-(a.length+1)))<=8*(2^n*8^(6-(a.length+1))):=mul_le_mul_right _ Ad;have aI:=asA (n:=n) (k:=a.length) (by omega);rw[RV];omega
   .intro m hm out bH hg;obtain⟨m,rfl⟩:∃q,m=q+1:=⟨m-1,by omega⟩
    simp only[q3,xk];rw[rO];simp only[bind_some];rw[rP];simp only[bind_some];by_cases aa:200<out.length
    .rw[C8 out aa,C7 _ _ aa];rfl
    .rw[h5 out aa,dT];simp only[hs,fT,fU,beq_self_eq_true,cond_true,cond_false];refine fa 9 λq cx=>?_;exact aap zT Ad (by omega) (by omega) (λv KW=>⟨(A v (by omega)).l8,λout bH hg=>(A v (by omega)).spec m (by omega) out bH hg⟩) _ 0 out q (by omega) (by omega) bH hg
   .intro m hm p fA;obtain⟨m,rfl⟩:∃q,m=q+1:=⟨m-1,by omega⟩
    simp only[rb,xr];rw[rO];simp only[bind_some];rw[rP];simp only[bind_some];rw[dT];simp only[hs,fT,fU,beq_self_eq_true,cond_true,cond_false];refine fa 9 λq cx=>?_;exact aaq zT Ad (by omega) (by omega) (λv KW p ax=>(A v (by omega)).impl m (by omega) p ax) _ 0 p q (by omega) (by omega) fA
  .refine uM.of (l:=[]) (by rw[iP,if_neg bX,if_neg cN,if_neg dH,if_neg dT]) (λs aa=>by cases aa) (zero_le _) ?_ ?_
   .have hs:((fl e[i] j).Kind==1)=false:=by simpa using bX
    have fT:((fl e[i] j).Kind==2)=false:=by simpa using cN
    have fU:((fl e[i] j).Kind==3)=false:=by simpa using dH
    have bU:((fl e[i] j).Kind==4)=false:=by simpa using dT
    intro m hm out bH hg;obtain⟨m,rfl⟩:∃q,m=q+1:=⟨m-1,by omega⟩
    simp only[q3,xk,y2];rw[rO];simp only[bind_some];rw[rP];simp only[bind_some,hs,fT,fU,bU,cond_false,List.foldl_nil];cases decide (200<(out.length:Int))<;>rfl
   .have hs:((fl e[i] j).Kind==1)=false:=by simpa using bX
    have fT:((fl e[i] j).Kind==2)=false:=by simpa using cN
    have fU:((fl e[i] j).Kind==3)=false:=by simpa using dH
    have bU:((fl e[i] j).Kind==4)=false:=by simpa using dT
    intro m hm p fA;obtain⟨m,rfl⟩:∃q,m=q+1:=⟨m-1,by omega⟩
    simp only[rb,xr];rw[rO];simp only[bind_some];rw[rP];simp only[bind_some,hs,fT,fU,bU,cond_false,List.foldl_nil]
theorem asE (e:axu) (h:pn e) (aE:lM e=true) (p:bd) (ax:p.bV.length<=1048576):∃b,sq e p=some b/\FA e p=some b:=by
 unfold sq FA l0;rw[KI _ e.length h.1,fk ((e.length:Int)-1) (by have:=h.1;omega)];simp only[bind_some];cases au:(decide (0<=p.cD)&&decide (p.cD<=(e.length:Int)-1))
 .exact⟨false,rfl,rfl⟩
 .simp only[Bool.and_eq_true,decide_eq_true_eq]at au;obtain⟨i,C_⟩:∃i:Nat,p.cD=i:=⟨p.cD.toNat,by omega⟩
  rw[C_]at au⊢;have ag:i<e.length:=by omega
  have ab:=(h.2 _ (List.getElem_mem ag)).2.1;rw[dM e i ag];simp only[Bool.not_true,cond_false,bind_some];rw[KI _ e[i].Body.length ab,fk ((e[i].Body.length:Int)-1) (by omega)];simp only[bind_some];cases cx:(decide (0<=p.Part)&&decide (p.Part<=(e[i].Body.length:Int)-1))
  .exact⟨false,rfl,rfl⟩
  .simp only[Bool.and_eq_true,decide_eq_true_eq]at cx;obtain⟨j,tK⟩:∃j:Nat,p.Part=j:=⟨p.Part.toNat,by omega⟩
   rw[tK]at cx⊢;have bE:j<e[i].Body.length:=by omega
   obtain⟨hj,ps,gO,iJ⟩:=ZV h aE ag bE;rw[dM e[i].Body j bE];simp only[Bool.not_true,cond_false,bind_some,hj,gO,iJ,RI _ ax,RJ _ ax];have dQ:(e[i].Body[j].Kind !=5)= !(e[i].Body[j].Kind==5):=rfl;rw[dQ];cases e[i].Body[j].Kind==5
   .simp only[Bool.not_false,cond_true,cond_false];cases((p.bV.length:Int)==(jn e[i] j).scope)
    .exact⟨_,rfl,rfl⟩
    .exact⟨_,rfl,rfl⟩
   .exact⟨_,rfl,rfl⟩
theorem aat {e:axu} (h:pn e) (aE:lM e=true) {p:bd} (ax:p.bV.length<=1048576) (aa:sq e p=some true):
  ∃(i:Nat) (ag:i<e.length) (j:Nat),p.cD=(i:Int)/\p.Part=(j:Int)/\j<e[i].Body.length/\(jn e[i] j).scope=(p.bV.length:Int)/\∀x∈p.bV,gh x:=by
 unfold sq l0 at aa;rw[fk ((e.length:Int)-1) (by have:=h.1;omega)]at aa;simp only[bind_some]at aa;cases au:(decide (0<=p.cD)&&decide (p.cD<=(e.length:Int)-1))
 .rw[au]at aa;cases aa
 rw[au]at aa;simp only[Bool.and_eq_true,decide_eq_true_eq]at au;obtain⟨i,C_⟩:∃i:Nat,p.cD=i:=⟨p.cD.toNat,by omega⟩
 have ag:i<e.length:=by omega
 have ab:=(h.2 _ (List.getElem_mem ag)).2.1;rw[C_,dM e i ag]at aa;simp only[Bool.not_true,cond_false,bind_some]at aa;rw[fk ((e[i].Body.length:Int)-1) (by omega)]at aa;cases cx:(decide (0<=p.Part)&&decide (p.Part<=(e[i].Body.length:Int)-1))
 .rw[cx]at aa;cases aa
 rw[cx]at aa;simp only[Bool.and_eq_true,decide_eq_true_eq]at cx;obtain⟨j,tK⟩:∃j:Nat,p.Part=j:=⟨p.Part.toNat,by omega⟩
 have bE:j<e[i].Body.length:=by omega
 obtain⟨hj,_⟩:=ZV h aE ag bE;rw[tK,dM e[i].Body j bE]at aa;simp only[Bool.not_true,cond_false,bind_some,hj,RI _ ax]at aa;cases aau:e[i].Body[j].Kind==5
 .rw[aau]at aa;simp only[cond_false]at aa;cases aC:((p.bV.length:Int)==(jn e[i] j).scope)
  .rw[aC]at aa;cases aa
  .rw[aC]at aa;simp only[beq_iff_eq]at aC;have aav:x0 p.bV=true:=some.inj aa;refine⟨i,ag,j,C_,tK,bE,aC.symm,λx an=>?_⟩;simp only[x0,oI]at aav;obtain⟨k,au,rfl⟩:=List.mem_iff_getElem.1 an;have:=aav k au;simp only[rC,Bool.and_eq_true,decide_eq_true_eq,List.getD_eq_getElem?_getD,List.getElem?_eq_getElem au,getD_some]at this;exact this
 .rw[aau]at aa;cases aa
theorem aaw:∀(l o:axz),(∀x∈l,fy x)->(∀x∈o,fy x)->∀x∈l.foldl ll o,fy x
 |[],o,_,bH=>bH
 |s::r,o,aC,bH=>aaw r _ (λx an=>aC x (List.mem_cons_of_mem _ an)) (aae bH (aC s (by simp)))
theorem asF {e:axu} (h:pn e) (aE:lM e=true) {p:bd} (ax:p.bV.length<=1048576) (aa:sq e p=some true):
  ∃(ln S:axz) (b:Bool),uj e p=some (ln,b)/\tU e p=some (S,b)/\(b=true->S=ln/\ln.length<=200/\∀x∈ln,fy x):=by
 obtain⟨i,ag,j,C_,tK,bE,mD,iu⟩:=aat h aE ax aa;have asG:e[i].Body.length<=20:=(z6 ((C4 h aE).2.2 i ag).2.1).2.2;have A:=asB h aE ag 20 j p.bV bE mD iu (by omega);have hlen:(iP e[i] i 20 j p.bV).length<=549755813888:=by
  have ad:=A.len;have ae:2^20*8^(6-p.bV.length)<=2^20*8^6:=mul_le_mul_left _ (Nat.pow_le_pow_right (by omega) (by omega));have aI:2^20*8^6=274877906944:=by decide
  omega
 have ca:IL e (i:Int) (j:Int) p.bV []=some ((iP e[i] i 20 j p.bV).foldl mw []):=by
  unfold IL;exact fa 20 λm hm=>A.spec m hm [] (by simp) (λx an=>by cases an)
 have Da:Jt e [] [] (i:Int) (j:Int) p.bV=some (e,((iP e[i] i 20 j p.bV).foldl ma ([],[])).1,((iP e[i] i 20 j p.bV).foldl ma ([],[])).2):=by
  unfold Jt;exact fa 20 λm hm=>A.impl m hm ([],[]) (by simpa using hlen)
 have D5:=RT (iP e[i] i 20 j p.bV) [] [] A.l8 (λx an=>by cases an) (λs _=>rfl);obtain⟨cz,c2⟩:=aag (iP e[i] i 20 j p.bV) [];have x4:=aaw (iP e[i] i 20 j p.bV) [] A.l8 (λx an=>by cases an);unfold tU uj;rw[C_,tK,ca,Da,D5];simp only[bind_some];generalize (iP e[i] i 20 j p.bV).foldl ll []=ln at cz c2 x4⊢;by_cases aC:ln.length<=200
 .rw[cz aC];exact⟨ln,ln,_,rfl,rfl,λ_=>⟨rfl,aC,x4⟩⟩
 .have:=c2 (by omega);generalize (iP e[i] i 20 j p.bV).foldl mw []=jP at this⊢;refine⟨ln,jP,false,?_,?_,λh=>by cases h⟩
  .rw[show decide ((ln.length:Int)<=200)=false from decide_eq_false (by omega)]
  .rw[show decide ((jP.length:Int)<=200)=false from decide_eq_false (by omega)]
theorem RX {n:axa} (h:hx n=true):(40:UInt8)∉n:=λhm=>by
 have:=RL h _ hm;revert this;decide
theorem KX (c:UInt8):∀l:awZ,l≠[]->(∀x∈l,c∉x)->lL c (jq l [c])=l
 |[],h,_=>absurd rfl h
 |[x],_,h=>by rw[join_one,Rf c x (h x (by simp))]
 |x::y::r,_,h=>by
  rw[join_cons,List.singleton_append,Rg c x _ (h x (by simp)),KX c (y::r) (by simp) λz b9=>h z (List.mem_cons_of_mem _ b9)]
theorem RY {x:Int} (h:gh x):jV (j0 x)=(x,true):=by
 obtain⟨n,rfl⟩:∃n:Nat,x=n:=⟨x.toNat,by have:=h.1;omega⟩
 have aS:n<64:=by have:=h.2;omega
 have key:∀k:Fin 64,jV (iR k.val)=((k.val:Int),true):=by decide
 have:=key ⟨n,aS⟩;simpa [j0]using this
theorem aax {a:axc} (h:∀x∈a,gh x):s4 (a.map j0)=a/\zV (a.map j0)=true/\wb (a.map j0)=true:=by
 refine⟨?_,?_,?_⟩
 .unfold s4;rw[List.map_map];conv=>rhs;rw[<-List.map_id a]
  exact List.map_congr_left λx an=>by simp only[Function.comp,RY (h x an),id]
 .unfold zV;rw[List.all_map,List.all_eq_true];intro x an;simp only[Function.comp,RY (h x an)]
 .unfold wb;rw[List.all_map,List.all_eq_true];intro x an;have:=h x an;simp only[Function.comp,RY (h x an),zW,Bool.true_and,Bool.and_eq_true,decide_eq_true_eq];exact this
theorem KY {n:axa} {a:axc} (h:a.length≠0):iw n a=n++40::(iv a++[41]):=by
 unfold iw;rw[if_neg h];simp
theorem asH {a:axc} (h:a.length≠0):iv a=jq (a.map j0) [44]:=by
 unfold iv;rw[if_neg (λe=>h (by rw[e];rfl))]
theorem aay {a:axc} (h:a.length≠0) (aE:∀x∈a,gh x):lL 44 (iv a)=a.map j0:=by
 rw[asH h];exact KX 44 _ (λe=>h (by simpa using congrArg List.length e)) (RS aE)
theorem asI {n:axa} {a:axc} (aS:hx n=true) (aC:a.length<=2) (aZ:(n==([116,97,117]:axa))=true->a.length=0) (aE:∀x∈a,gh x):
  zo (iw n a)=some (n,a,true):=by
 have x1:n.length<=10:=by simp only[hx,Bool.and_eq_true,decide_eq_true_eq]at aS;exact aS.1
 have x5:=RX aS;unfold zo;by_cases h:a.length=0
 .have bl:a=[]:=List.length_eq_zero_iff.1 h;subst bl;have e:iw n []=n:=rfl;rw[e,aqa x5];simp only[bind_some,cond_false,FH];rw[GY n [] aS (by simp) (λ_=>rfl) (λx an=>by cases an),e];simp
 .have ad:=wk a;have ar:=aay h aE;rw[KY h,aqb n (iv a++[41]) x5 (by simp;omega)];simp only[bind_some,cond_true];rw[aqc _ (by omega),bind_some,aqh 44 _ (by omega),bind_some,ar,aqs _ (by simp;omega)];obtain⟨aN,aU,_⟩:=aax aE;rw[aN,aU];simp only[if_true,bind_some,Bool.not_true,cond_false,FH];rw[GY n a aS aC aZ aE,KY h];simp
theorem aaz {n:axa} {a:axc} (aS:hx n=true) (aC:a.length<=2):sr (iw n a)=some n:=by
 have x1:n.length<=10:=by simp only[hx,Bool.and_eq_true,decide_eq_true_eq]at aS;exact aS.1
 have x5:=RX aS;unfold sr;by_cases h:a.length=0
 .have bl:a=[]:=List.length_eq_zero_iff.1 h;subst bl;have e:iw n []=n:=rfl;rw[e,(GV n (by omega)).1 x5,bind_some,vW _ _ (Nat.le_refl _),List.take_length];rfl
 .have ad:=wk a;rw[KY h,(GV _ (by simp;omega)).2 n _ rfl x5,bind_some,vW _ _ (by simp),List.take_left];rfl
theorem aaA {n:axa} {a:axc} (aS:hx n=true) (aC:a.length<=2) (aZ:(n==([116,97,117]:axa))=true->a.length=0) (aE:∀x∈a,gh x):
  y_ (iw n a)=some (a,true):=by
 have x1:n.length<=10:=by simp only[hx,Bool.and_eq_true,decide_eq_true_eq]at aS;exact aS.1
 have x5:=RX aS;unfold y_;by_cases h:a.length=0
 .have bl:a=[]:=List.length_eq_zero_iff.1 h;subst bl;have e:iw n []=n:=rfl;rw[e,(GV n (by omega)).1 x5,bind_some,beq_self_eq_true,cond_true,CT,aS];rfl
 .have ad:=wk a;have ny:(n==([116,97,117]:axa))=false:=by
   cases au:n==([116,97,117]:axa)
   .rfl
   .exact absurd (aZ au) h
  have o1:(n++40::(iv a++[41])).length=n.length+(iv a).length+2:=by simp;omega
  have ga:((n.length:Int)==(((n++40::(iv a++[41])).length:Nat):Int))=false:=by rw[o1,beq_eq_false_iff_ne];omega
  rw[KY h,(GV _ (by omega)).2 n _ rfl x5,bind_some,ga,cond_false];rw[vW _ _ (by omega),List.take_left,bind_some];have rF:tR n=some true:=by unfold tR;rw[CT,aS];simp only[bind_some,ny];rfl
  rw[rF];simp only[bind_some,Bool.not_true,cond_false];have aN:i64.wrap (((n++40::(iv a++[41])).length:Int)-1)=((n.length+(iv a).length+1:Nat):Int):=by rw[o1,fk _ (by omega)];omega
  have aU:i64.wrap ((n.length:Int)+1)=((n.length+1:Nat):Int):=by rw[fk _ (by omega)];omega
  have aR:n++40::(iv a++[41])=(n++[40])++(iv a++[41]):=by simp
  rw[aN,aU,dM _ (n.length+(iv a).length+1) (by omega),bind_some];have bW:(n++40::(iv a++[41]))[n.length+(iv a).length+1]'(by omega)=41:=by
   rw[List.getElem_append_right (by omega)];simp[show n.length+(iv a).length+1-n.length=(iv a).length+1 by omega]
  rw[bW,show(((41:UInt8).toNat:Int) !=41)=false from rfl,cond_false,aR,KD _ _ _ (by simp) (by simp;omega),bind_some,aqi 44 _ (by omega),bind_some,aay h aE];have hw:∀w∈a.map j0,w.length<=1048576:=by
   intro w hw;obtain⟨x,_,rfl⟩:=List.mem_map.1 hw;have:=GS x;omega
  rw[aqt _ (by simp;omega) hw];obtain⟨f1,_,f3⟩:=aax aE;rw[f1,f3,List.length_map,decide_eq_true aC];rfl
end Go.lZ
