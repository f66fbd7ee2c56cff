/- Part of a proof that a law returns true for every input. No condition. -/
import Derived.Test.YtmaepbgkcmjcjajGreatDoorUV4x
import Derived.Test.YtmaepbgkcmjcjajGreatDoorUV1x
import Derived.Test.YtmaepbgkcmjcjajGreatDoorUV0x
namespace Go.ld
open Option Go.IntKind Nat Or
open Go Go.ep
def sr (x y:bl):Bool:=(x.Label==y.Label)&&((x.Next.cJ==y.Next.cJ)&&((x.Next.Part==y.Next.Part)&&(x.Next.b5==y.Next.b5)))
def k3 (o:azQ) (s:bl):azQ:=if(o.any λx=>sr x s)=true then o else o++[s]
def mV (o:azQ) (s:bl):azQ:=if 200<o.length then o else k3 o s
theorem TC {x y:bl}:sr x y=true↔x=y:=by
 cases x with
 |mk azh avH=>
  cases avH;cases y with
  |mk azi avI=>
   cases avI;simp[sr]
theorem TD (a b:azs) (h:a.length<=1048576):Gl a b=some (a==b):=by
 unfold Gl;by_cases hl:a.length=b.length
 .have e:((a.length:Int) !=(b.length:Int))=false:=by simp[hl]
  rw[e,cond_false];have:=pQ (n:=a.length) (l:=Cq a b) (λi=>some (a.drop i==b.drop i)) (λm=>?_) (λi ai m ih=>?_)
  .simpa using this
  .simp only[Cq,PN];rw[ei (Nat.le_refl _),List.drop_of_length_le (Nat.le_refl _),List.drop_of_length_le (by omega)];rfl
  .simp only[Cq,PN];rw[el ai,dX _ i ai,dX _ i (by omega),ek i _ ai (by omega),drop_cons a i ai,drop_cons b i (by omega),List.cons_beq_cons];simp only[cond_true,bind_some,ih,bne];cases a[i]==b[i]
   .rfl
   .simp
 .have e:((a.length:Int) !=(b.length:Int))=true:=by simp;omega
  have aW:(a==b)=false:=by
   rw[beq_eq_false_iff_ne];intro h;exact hl (by rw[h])
  rw[e,cond_true,aW]
theorem avJ (o:azQ) (s:bl) (h:o.length<=1048576) (hg:∀x∈o,fR x):J7 o s=some (k3 o s):=by
 have ec:k3 o s=cond (o.any λx=>sr x s) o (o++[s]):=by
  unfold k3;cases o.any λx=>sr x s<;>rfl
 unfold J7;rw[ec,pQ (n:=o.length) (l:=Cs o s) (λi=>some (cond ((o.drop i).any λx=>sr x s) o (o++[s]))) (λm=>?_) (λi ai m ih=>?_),List.drop_zero]
 .simp only[Cs,PO];rw[ei (Nat.le_refl _),kO (by omega) (by omega),List.drop_of_length_le (Nat.le_refl _)];rfl
 .simp only[Cs,PO];rw[el ai,dX _ i ai,ek i _ ai (by omega),drop_cons o i ai];simp only[cond_true,bind_some,ih,List.any_cons];have aJ:=(hg _ (List.getElem_mem ai)).kt.1;unfold Cr;rw[TD _ _ (by omega)];have e:sr o[i] s=((o[i].Label==s.Label)&&((o[i].Next.cJ==s.Next.cJ)&&((o[i].Next.Part==s.Next.Part)&&(o[i].Next.b5==s.Next.b5)))):=rfl;rw[e];cases o[i].Label==s.Label
  .rfl
  .cases o[i].Next.cJ==s.Next.cJ
   .rfl
   .cases o[i].Next.Part==s.Next.Part
    .rfl
    .cases o[i].Next.b5==s.Next.b5
     .rfl
     .rfl
theorem abZ (o:azQ) (s:bl):o.length<=(k3 o s).length/\(k3 o s).length<=o.length+1:=by
 unfold k3;split
 .omega
 .simp
theorem avK {o:azQ} {s:bl} (hg:∀x∈o,fR x) (aa:fR s):∀x∈k3 o s,fR x:=by
 intro x ao;unfold k3 at ao;split at ao
 .exact hg x ao
 .rcases List.mem_append.1 ao with ao|ao
  .exact hg x ao
  .rw[List.mem_singleton]at ao;rwa [ao]
theorem avL {o:azQ} {s:bl} (bS:o.length<=201) (hg:∀x∈o,fR x) (aa:fR s):(mV o s).length<=201/\∀x∈mV o s,fR x:=by
 unfold mV;split
 .exact⟨bS,hg⟩
 .have:=abZ o s;exact⟨by omega,avK hg aa⟩
theorem TE:∀(l o:azQ),o.length<=201->(∀x∈o,fR x)->(∀x∈l,fR x)->(l.foldl mV o).length<=201/\∀x∈l.foldl mV o,fR x
 |[],o,bS,hg,_=>⟨bS,hg⟩
 |s::r,o,bS,hg,hl=>by
  obtain⟨ad,af⟩:=avL bS hg (hl s (by simp));exact TE r (mV o s) ad af λx ao=>hl x (List.mem_cons_of_mem _ ao)
theorem Eb:∀(l o:azQ),200<o.length->l.foldl mV o=o
 |[],o,_=>rfl
 |s::r,o,h=>by rw[List.foldl_cons,show mV o s=o by unfold mV;rw[if_pos h],Eb r o h]
theorem ab0:∀(l o:azQ),o.length<=(l.foldl k3 o).length
 |[],o=>Nat.le_refl _
 |s::r,o=>Nat.le_trans (abZ o s).1 (ab0 r _)
theorem ab1:∀(l o:azQ),((l.foldl k3 o).length<=200->l.foldl mV o=l.foldl k3 o)/\(200<(l.foldl k3 o).length->200<(l.foldl mV o).length)
 |[],o=>⟨λ_=>rfl,λh=>h⟩
 |s::r,o=>by
  by_cases h:200<o.length
  .rw[Eb _ _ h];have:=ab0 (s::r) o;exact⟨λaf=>by omega,λ_=>h⟩
  .rw[List.foldl_cons,List.foldl_cons,show mV o s=k3 o s by unfold mV;rw[if_neg h]];exact ab1 r (k3 o s)
def ss (s:bl):azq:=(s.Label++[32])++((iQ s.Next.cJ.toNat++[58])++((iQ s.Next.Part.toNat++[58])++iY s.Next.b5))
def mz (p:azQ×azo) (s:bl):azQ×azo:=
 if kh (ss s) p.2=true then p else(p.1++[s],ku (ss s) true p.2)
theorem avM (e:azK) (o:azQ) (m:azo) (s:bl) (aa:fR s) (bS:o.length<=1099511627776):
  KU e o m s.Label s.Next.cJ s.Next.Part s.Next.b5=some (e,(mz (o,m) s).1,(mz (o,m) s).2):=by
 obtain⟨i,ai,iP⟩:=aa.xo;obtain⟨j,bQ,oO⟩:=aa.xp;have ad:=xf i;have af:=xf j;have aG:=xm s.Next.b5;have bh:=aa.kt.1;have b6:=aa.A_.1;have aw:Ai ⟨s.Next.cJ,s.Next.Part,s.Next.b5⟩=some ((iQ i++[58])++((iQ j++[58])++iY s.Next.b5)):=by
  unfold Ai KT;simp only[iP,oO,A1 i ai,A1 j bQ,bind_some,Tp _ bh aa.kt.2];rw[my (by omega),my (by omega)];simp only[bind_some];rw[my (by simp only[List.length_append,List.length_cons,List.length_nil];omega)];simp only[bind_some];rw[my (by simp only[List.length_append,List.length_cons,List.length_nil];omega)];rfl
 unfold KU;rw[my (by omega),aw];simp only[bind_some];rw[my (by simp only[List.length_append,List.length_cons,List.length_nil];omega)];simp only[bind_some];have tL:ss s=(s.Label++[32])++((iQ i++[58])++((iQ j++[58])++iY s.Next.b5)):=by unfold ss;rw[iP,oO];rfl
 rw[<-tL];unfold mz;cases hg:kh (ss s) m
 .simp only[Bool.not_false,cond_true,hg];rw[kO (by omega) (by omega)];rfl
 .simp only[Bool.not_true,cond_false,hg];rfl
theorem TF:∀(l:azQ) (p:azQ×azo),(l.foldl mz p).1.length<=p.1.length+l.length
 |[],p=>Nat.le_refl _
 |s::r,p=>by
  have ad:=TF r (mz p s);have af:(mz p s).1.length<=p.1.length+1:=by
   unfold mz;split
   .omega
   .simp
  rw[List.foldl_cons,List.length_cons];omega
theorem TG (k dv:azq) (b:Bool):∀m,kh k (ku dv b m)=if dv=k then b else kh k m
 |[]=>by simp[ku,kh]
 |e::m=>by
  simp only[ku];by_cases h:e.1=dv
  .rw[if_pos h];simp only[kh];by_cases af:dv=k
   .rw[if_pos af,if_pos af]
   .rw[if_neg af,if_neg af,if_neg (by rw[h];exact af)]
  .rw[if_neg h];simp only[kh];by_cases af:e.1=k
   .rw[if_pos af,if_pos af,if_neg (by intro aG;exact h (af.trans aG.symm))]
   .rw[if_neg af,if_neg af,TG k dv b m]
theorem vB {c:UInt8}:∀{x y u v:azq},c∉x->c∉y->x++c::u=y++c::v->x=y/\u=v
 |[],[],u,v,_,_,h=>⟨rfl,(List.cons.inj h).2⟩
 |[],y::c8,u,v,_,af,h=>(af (by rw[List.nil_append,List.cons_append]at h;rw[(List.cons.inj h).1];simp)).elim
 |x::xs,[],u,v,ad,_,h=>(ad (by rw[List.nil_append,List.cons_append]at h;rw[<-(List.cons.inj h).1];simp)).elim
 |x::xs,y::c8,u,v,ad,af,h=>by
  rw[List.cons_append,List.cons_append]at h;obtain⟨aP,aW⟩:=List.cons.inj h;obtain⟨aS,cf⟩:=vB (λhm=>ad (List.mem_cons_of_mem _ hm)) (λhm=>af (List.mem_cons_of_mem _ hm)) aW;exact⟨by rw[aP,aS],cf⟩
theorem Ba {m n:Nat} (hm:m<100) (aX:n<100) (h:iQ m=iQ n):m=n:=by
 have d:∀a b:Fin 10,UInt8.ofNat (48+a)=UInt8.ofNat (48+b)->a=b:=by decide
 have d2:∀a b:Nat,a<10->b<10->UInt8.ofNat (48+a)=UInt8.ofNat (48+b)->a=b:=λa b bq ab e=>congrArg Fin.val (d ⟨a,bq⟩ ⟨b,ab⟩ e);unfold iQ at h;split at h<;>split at h
 .exact d2 _ _ (by omega) (by omega) (List.cons.inj h).1
 .cases(List.cons.inj h).2
 .cases(List.cons.inj h).2
 .have ad:=d2 _ _ (by omega) (by omega) (List.cons.inj h).1;have af:=d2 _ _ (by omega) (by omega) (List.cons.inj (List.cons.inj h).2).1;omega
theorem ab2:∀{a b:azp},(∀x∈a,(44:UInt8)∉x)->(∀x∈b,(44:UInt8)∉x)->a≠[]->b≠[]->h1 a [44]=h1 b [44]->a=b
 |[],_,_,_,h,_,_=>(h rfl).elim
 |_::_,[],_,_,_,h,_=>(h rfl).elim
 |[x],[y],_,_,_,_,h=>by rw[join_one,join_one]at h;rw[h]
 |[x],y::z::r,bq,_,_,_,h=>by
  rw[join_one,join_cons]at h;exact(bq x (by simp) (by rw[h];simp)).elim
 |x::z::r,[y],_,ab,_,_,h=>by
  rw[join_one,join_cons]at h;exact(ab y (by simp) (by rw[<-h];simp)).elim
 |x::ae::r,y::hG::q,bq,ab,_,_,h=>by
  rw[join_cons,join_cons]at h;obtain⟨aP,aW⟩:=vB (bq x (by simp)) (ab y (by simp)) (by simpa using h);rw[aP,ab2 (a:=ae::r) (b:=hG::q) (λz cd=>bq z (List.mem_cons_of_mem _ cd)) (λz cd=>ab z (List.mem_cons_of_mem _ cd)) (by simp) (by simp) aW]
theorem val_inj {a b:azs} (bq:∀x∈a,fW x) (ab:∀x∈b,fW x) (h:a.map jV=b.map jV):a=b:=by
 induction a generalizing b with
 |nil=>cases b with
  |nil=>rfl
  |cons y r=>cases h
 |cons x r ih=>cases b with
  |nil=>cases h
  |cons y q=>
   rw[List.map_cons,List.map_cons]at h;obtain⟨aP,aW⟩:=List.cons.inj h;have ao:=bq x (by simp);have hy:=ab y (by simp);unfold fW at ao hy;have:=Ba (m:=x.toNat) (n:=y.toNat) (by omega) (by omega) aP;rw[ih (λz cd=>bq z (List.mem_cons_of_mem _ cd)) (λz cd=>ab z (List.mem_cons_of_mem _ cd)) aW,show x=y by omega]
theorem TH {a:azs} (bq:∀x∈a,fW x):∀x∈a.map jV,(44:UInt8)∉x:=by
 intro x ao hm;obtain⟨y,hy,rfl⟩:=List.mem_map.1 ao;have ad:=bq y hy;unfold fW at ad;have:=(xq y.toNat (by omega) _ hm).1;revert this;decide
theorem ab3 {a:azs} (bq:∀x∈a,fW x) (aX:a≠[]):h1 (a.map jV) [44]≠[45]:=by
 cases a with
 |nil=>exact(aX rfl).elim
 |cons x r=>
  intro h;have ao:=bq x (by simp);unfold fW at ao;have a_:jV x≠[]:=by unfold jV iQ;split<;>simp
  have au:∀u,jV x++u=[45]->False:=by
   intro u hu;cases aJ:jV x with
   |nil=>exact a_ aJ
   |cons c w=>
    rw[aJ,List.cons_append]at hu;have:=(xq x.toNat (by omega) c (by unfold jV at aJ;rw[aJ];simp)).1;rw[(List.cons.inj hu).1]at this;revert this;decide
  cases r with
  |nil=>rw[List.map_cons,List.map_nil,join_one]at h;exact au [] (by simpa using h)
  |cons y q=>rw[List.map_cons,List.map_cons,join_cons]at h;exact au _ h
theorem ab4 {a b:azs} (bq:∀x∈a,fW x) (ab:∀x∈b,fW x) (h:iY a=iY b):a=b:=by
 unfold iY at h;by_cases ad:a=[]
 .by_cases af:b=[]
  .rw[ad,af]
  .rw[if_pos ad,if_neg af]at h;exact(ab3 ab af h.symm).elim
 .by_cases af:b=[]
  .rw[if_neg ad,if_pos af]at h;exact(ab3 bq ad h).elim
  .rw[if_neg ad,if_neg af]at h;exact val_inj bq ab (ab2 (TH bq) (TH ab) (by simpa using ad) (by simpa using af) h)
theorem yV {n:Nat} (h:n<100):(58:UInt8)∉iQ n:=by
 intro hm;have:=(xq n h _ hm).2;revert this;decide
theorem key_inj {x y:bl} (ao:fR x) (hy:fR y) (h:ss x=ss y):x=y:=by
 obtain⟨i,ai,iP⟩:=ao.xo;obtain⟨j,bQ,oO⟩:=ao.xp;obtain⟨i2,nf,ab5⟩:=hy.xo;obtain⟨azj,qF,ab6⟩:=hy.xp;unfold ss at h;rw[iP,oO,ab5,ab6]at h;simp only[Int.toNat_natCast,List.append_assoc,List.singleton_append]at h;obtain⟨aP,h⟩:=vB ao.A_.2 hy.A_.2 h;obtain⟨aW,h⟩:=vB (yV ai) (yV nf) h;obtain⟨aS,h⟩:=vB (yV bQ) (yV qF) h;have cf:=ab4 ao.kt.2 hy.kt.2 h;have aW:=Ba ai nf aW;have aS:=Ba bQ qF aS;refine TC.1 ?_;simp only[sr,aP,cf,iP,ab5,aW,oO,ab6,aS,beq_self_eq_true,Bool.and_self]
theorem TI:∀(l o:azQ) (m:azo),(∀x∈l,fR x)->(∀x∈o,fR x)->(∀s,fR s->kh (ss s) m=o.any λx=>sr x s)->(l.foldl mz (o,m)).1=l.foldl k3 o
 |[],o,m,_,_,_=>rfl
 |s::r,o,m,hl,bS,hm=>by
  have aa:=hl s (by simp);have aR:∀x∈r,fR x:=λx ao=>hl x (List.mem_cons_of_mem _ ao);rw[List.foldl_cons,List.foldl_cons];by_cases h:(o.any λx=>sr x s)=true
  .rw[show mz (o,m) s=(o,m) by unfold mz;rw[if_pos ((hm s aa).trans h)],show k3 o s=o by unfold k3;rw[if_pos h]];exact TI r o m aR bS hm
  .rw[show mz (o,m) s=(o++[s],ku (ss s) true m) by unfold mz;rw[if_neg (by simp only[hm s aa];exact h)],show k3 o s=o++[s] by unfold k3;rw[if_neg h]];refine TI r _ _ aR (λx ao=>?_) λt a8=>?_
   .rcases List.mem_append.1 ao with ao|ao
    .exact bS x ao
    .rw[List.mem_singleton]at ao;rwa [ao]
   .rw[TG,List.any_append,List.any_cons,List.any_nil,Bool.or_false];by_cases aw:ss s=ss t
    .have:=key_inj aa a8 aw;rw[if_pos aw,TC.2 this,Bool.or_true]
    .rw[if_neg aw,hm t a8];have:sr s t=false:=by
      cases yP:sr s t
      .rfl
      .exact(aw (by rw[TC.1 yP])).elim
     rw[this,Bool.or_false]
theorem Bb {d:a1} {j:Nat} (bQ:j<d.Body.length):e0 d j=d.Body[j]:=by
 unfold e0;rw[List.getD_eq_getElem?_getD,List.getElem?_eq_getElem bQ];rfl
theorem TJ {d:a1} {j:Nat} (bQ:j<d.Body.length):bj d.Body (j:Int)=some (e0 d j):=by
 rw[dX _ j bQ,Bb bQ]
theorem TK {α:Type} {xs:List α} {n:Int} {x:α} (h:bj xs n=some x):0<=n/\∃hl:n.toNat<xs.length,xs[n.toNat]=x:=by
 have ad:=ca h;have a_:0<=n:=by
  unfold bj at h;split at h
  .omega
  .cases h
 exact⟨a_,List.getElem?_eq_some_iff.1 ad⟩
theorem ft {j:Nat} (h:j<=1048576):i64.wrap ((j:Int)+1)=((j+1:Nat):Int):=by rw[eC _ (by omega)];omega
structure vC (e:azK) (d:a1) (i n j:Nat) (a:azs):Prop where
 mw:∀s∈i1 d i n j a,fR s
 len:(i1 d i n j a).length<=2^n*8^(6-a.length)
 spec:∀m,n<=m->∀out:azQ,out.length<=201->(∀x∈out,fR x)->rE m e (i:Int) (j:Int) a out=some ((i1 d i n j a).foldl mV out)
 impl:∀m,n<=m->∀p:azQ×azo,p.1.length+(i1 d i n j a).length<=549755813888->rR m e p.1 p.2 (i:Int) (j:Int) a=some (e,((i1 d i n j a).foldl mz p).1,((i1 d i n j a).foldl mz p).2)
theorem vC.of {e:azK} {d:a1} {i n j:Nat} {a:azs} {l:azQ} (c:i1 d i n j a=l) (mw:∀s∈l,fR s)
  (len:l.length<=2^n*8^(6-a.length))
  (spec:∀m,n<=m->∀out:azQ,out.length<=201->(∀x∈out,fR x)->rE m e (i:Int) (j:Int) a out=some (l.foldl mV out))
  (impl:∀m,n<=m->∀p:azQ×azo,p.1.length+l.length<=549755813888->rR m e p.1 p.2 (i:Int) (j:Int) a=some (e,(l.foldl mz p).1,(l.foldl mz p).2)):vC e d i n j a:=by
 subst c;exact⟨mw,len,spec,impl⟩
theorem avN (s:bl) (out:azQ) (h:¬200<out.length):[s].foldl mV out=k3 out s:=by
 rw[List.foldl_cons,List.foldl_nil,mV,if_neg h]
theorem ab7 {f:Nat->azQ} {B:Nat}:∀(k s:Nat),(∀v,s<=v->v<s+k->(f v).length<=B)->((List.range' s k).flatMap f).length<=k*B
 |0,s,_=>by simp
 |k+1,s,h=>by
  rw[List.range'_succ,List.flatMap_cons,List.length_append];have ad:=h s (by omega) (by omega);have af:=ab7 k (s+1) λv ad af=>h v (by omega) (by omega);rw[Nat.add_mul];omega
theorem ab8 {rec:azK->Int->Int->azs->azQ->Option azQ} {a:azs} {out:azQ} {p:b_} {v w:Int} {x:azs} (ay:A4 p) (a8:∀q∈p.ck,pT q a.length 15=true)
  (aX:hk p.Name=true) (hl:p.ck.length<=2) (bq:∀y∈a,fW y) (bS:out.length<=1048576) (hg:∀y∈out,fR y):
  Gm rec a out p v w x=some (k3 out ⟨iZ p.Name (nO p.ck a),⟨v,w,x⟩⟩):=by
 have yU:p.Name.length<=10:=by simp only[hk,Bool.and_eq_true,decide_eq_true_eq]at aX;exact aX.1
 unfold Gm;rw[(Mi _ ay.2.1 a a8).1];simp only[bind_some];rw[abV _ _ yU (by unfold nO;rw[List.length_map];omega) (Ea bq a8)];simp only[bind_some,avJ _ _ bS hg]
theorem ab9 {e:azK} {i j:Nat} {a:azs} {p:b_} {N:Nat} {f:Nat->azQ} {rec:azK->Int->Int->azs->azQ->Option azQ} (A0:p.Number=(N:Int)-1) (Bc:N<=8) (bQ:j<=1048576) (v_:a.length<=100)
  (bK:∀v,v<N->(∀s∈f v,fR s)/\∀out:azQ,out.length<=201->(∀x∈out,fR x)->rec e (i:Int) ((j+1:Nat):Int) (a++[(v:Int)]) out=some ((f v).foldl mV out)):
  ∀(k s:Nat) (out:azQ) (m:Nat),s+k=N->k<m->out.length<=201->(∀x∈out,fR x)->Cu rec e (i:Int) (j:Int) a p m out (s:Int)=some (((List.range' s k).flatMap f).foldl mV out)
 |0,s,out,m,aa,hm,bS,hg=>by
  obtain⟨m,rfl⟩:∃q,m=q+1:=⟨m-1,by omega⟩
  simp only[Cu,PQ,zV];rw[show decide ((s:Int)<=p.Number)=false from decide_eq_false (by omega)];rfl
 |k+1,s,out,m,aa,hm,bS,hg=>by
  obtain⟨m,rfl⟩:∃q,m=q+1:=⟨m-1,by omega⟩
  obtain⟨ad,af⟩:=bK s (by omega);simp only[Cu,PQ];rw[show decide ((s:Int)<=p.Number)=true from decide_eq_true (by omega),cond_true,Tz a (by omega)];simp only[bind_some];rw[kO (by omega) (by omega),ft bQ,ft (by omega)];simp only[bind_some,af out bS hg];obtain⟨g1,g2⟩:=TE (f s) out bS hg ad;rw[ab9 A0 Bc bQ v_ bK k (s+1) _ m (by omega) (by omega) g1 g2,List.range'_succ,List.flatMap_cons,List.foldl_append]
theorem ab_ {e:azK} {i j:Nat} {a:azs} {q:b_} {N:Nat} {f:Nat->azQ} {rec:azK->azQ->azo->Int->Int->azs->Option (azK×azQ×azo)} (A0:q.Number=(N:Int)-1) (Bc:N<=8) (bQ:j<=1048576) (v_:a.length<=100)
  (bK:∀v,v<N->∀p:azQ×azo,p.1.length+(f v).length<=549755813888->rec e p.1 p.2 (i:Int) ((j+1:Nat):Int) (a++[(v:Int)])=some (e,((f v).foldl mz p).1,((f v).foldl mz p).2)):
  ∀(k s:Nat) (p:azQ×azo) (m:Nat),s+k=N->k<m->p.1.length+((List.range' s k).flatMap f).length<=549755813888->
   C9 rec (i:Int) (j:Int) a q m e p.1 p.2 (s:Int)=some (e,(((List.range' s k).flatMap f).foldl mz p).1,(((List.range' s k).flatMap f).foldl mz p).2)
 |0,s,p,m,aa,hm,bS=>by
  obtain⟨m,rfl⟩:∃q,m=q+1:=⟨m-1,by omega⟩
  simp only[C9,QP];rw[eC (q.Number+1) (by omega),show decide ((s:Int)<q.Number+1)=false from decide_eq_false (by omega)];rfl
 |k+1,s,p,m,aa,hm,bS=>by
  obtain⟨m,rfl⟩:∃q,m=q+1:=⟨m-1,by omega⟩
  rw[List.range'_succ,List.flatMap_cons,List.length_append]at bS;simp only[C9,QP];rw[eC (q.Number+1) (by omega),show decide ((s:Int)<q.Number+1)=true from decide_eq_true (by omega),cond_true,Mk a (by omega)];simp only[bind_some];rw[kO (by omega) (by omega),ft bQ,ft (by omega)];simp only[bind_some,bK s (by omega) p (by omega)];have aw:=TF (f s) p;rw[ab_ A0 Bc bQ v_ bK k (s+1) _ m (by omega) (by omega) (by omega),List.range'_succ,List.flatMap_cons,List.foldl_append]
theorem TL (n B:Nat):2^(n+1)*B=2^n*B+2^n*B:=by
 rw[Nat.pow_succ,Nat.mul_comm (2^n) 2,Nat.mul_assoc,Nat.two_mul]
theorem avO (n k:Nat):1<=2^n*8^k:=Nat.mul_pos (Nat.pow_pos (by omega)) (Nat.pow_pos (by omega))
theorem avP {n k:Nat} (h:k<=5):2^n*8^(6-k)=8*(2^n*8^(6-(k+1))):=by
 rw[show 6-k=(6-(k+1))+1 by omega,Nat.pow_succ,<-Nat.mul_assoc,Nat.mul_comm]
theorem avQ {e:azK} (h:vx e) (aJ:nM e=true) {i:Nat} (ai:i<e.length):∀(n j:Nat) (a:azs),j<e[i].Body.length->(jj e[i] j).scope=(a.length:Int)->(∀x∈a,fW x)->e[i].Body.length-j<=n->vC e e[i] i n j a:=by
 obtain⟨BA,aca,aq⟩:=A7 h aJ;obtain⟨avR,na,_⟩:=aq i ai;obtain⟨s1,s2,px⟩:=xi na;intro n;induction n with
 |zero=>intro j a bQ _ _ aX;omega
 |succ n ih=>
  intro j a bQ kx bq aX;have P:=H5 h aJ ai bQ;rw[kx,<-Bb bQ]at P;have v_:a.length<=29:=by have:=P.Tx;omega
  obtain⟨tV,H8⟩:=abS e[i] s1 bQ;rw[<-Bb bQ]at tV H8;have su:=dX e i ai;have sv:=TJ bQ;have Ec:∀out:azQ,200<out.length->decide (200<(out.length:Int))=true:=λout bS=>decide_eq_true (by omega);have iH:∀out:azQ,¬200<out.length->decide (200<(out.length:Int))=false:=λout bS=>decide_eq_false (by omega);by_cases bZ:(e0 e[i] j).Kind=1
  .have jl:ew (e0 e[i] j)=1:=by unfold ew;rw[if_pos (.inl bZ)]
   obtain⟨mm,nv⟩:=tV (by omega);have nv:(jj e[i] (j+1)).scope=(a.length:Int):=by rw[nv];unfold below;rw[if_neg (by omega)];exact kx
   have sw:=H5 h aJ ai mm;rw[nv,<-Bb mm]at sw;obtain⟨mn,bF,eZ⟩:=P.act bZ;have Ml:=TB (a:=nO (e0 e[i] j).ck a) mn (by unfold nO;rw[List.length_map];omega) (Ea bq P.args);have tW:fR (vA e[i] i j a):=by
    refine⟨Ml,?_,?_,?_,_,_,mn,by unfold nO;rw[List.length_map];exact bF,λh=>by unfold nO;rw[List.length_map];exact eZ h,Ea bq P.args,rfl⟩
    .unfold vA;by_cases eJ:(e0 e[i] (j+1)).Kind=5
     .rw[if_pos eJ];obtain⟨bu,cg,_⟩:=sw.call eJ;obtain⟨fA,H9,_⟩:=TK cg;exact⟨(e0 e[i] (j+1)).Number.toNat,by omega,by simp only;omega⟩
     .rw[if_neg eJ];exact⟨i,by omega,rfl⟩
    .unfold vA;by_cases eJ:(e0 e[i] (j+1)).Kind=5
     .rw[if_pos eJ];exact⟨0,by omega,rfl⟩
     .rw[if_neg eJ];exact⟨j+1,by omega,rfl⟩
    .unfold vA;by_cases eJ:(e0 e[i] (j+1)).Kind=5
     .rw[if_pos eJ];obtain⟨bu,cg,gk⟩:=sw.call eJ;refine⟨?_,Ea bq sw.args⟩;have ay:bu.dV<=3:=by
       obtain⟨fA,H9,TM⟩:=TK cg;have:=(aq _ H9).1;rw[TM]at this;exact this.2
      unfold nO;rw[List.length_map];omega
     .rw[if_neg eJ];exact⟨by simp only;omega,bq⟩
   refine vC.of (l:=[vA e[i] i j a]) (by rw[i1,if_pos bZ]) (λs aa=>by rw[List.mem_singleton]at aa;rw[aa];exact tW) (avO _ _) ?_ ?_
   .intro m hm out bS hg;obtain⟨m,rfl⟩:∃q,m=q+1:=⟨m-1,by omega⟩
    simp only[rE,yk];rw[su];simp only[bind_some];rw[sv];simp only[bind_some];by_cases aa:200<out.length
    .rw[Ec out aa,Eb _ _ aa];rfl
    .rw[iH out aa,bZ,avN _ _ aa,Tz a (by omega),ft (by omega)];simp only[cond_false,beq_self_eq_true,cond_true,bind_some];rw[TJ mm];simp only[bind_some];unfold vA;by_cases eJ:(e0 e[i] (j+1)).Kind=5
     .rw[if_pos eJ,eJ];simp only[beq_self_eq_true,cond_true];rw[(Mi _ sw.small.2.1 a sw.args).1];simp only[bind_some];exact ab8 P.small P.args mn bF bq (by omega) hg
     .rw[if_neg eJ,show((e0 e[i] (j+1)).Kind==5)=false by simpa using eJ,cond_false];exact ab8 P.small P.args mn bF bq (by omega) hg
   .intro m hm p fO;obtain⟨m,rfl⟩:∃q,m=q+1:=⟨m-1,by omega⟩
    obtain⟨b,ab⟩:=avG (e0 e[i] j).Name (nO (e0 e[i] j).ck a) mn (by unfold nO;rw[List.length_map];omega) (λa8=>by unfold nO;rw[List.length_map];exact eZ a8) (Ea bq P.args);have vQ:=avM e p.1 p.2 (vA e[i] i j a) tW (by omega);simp only[rR,yq];rw[su];simp only[bind_some];rw[sv];simp only[bind_some];rw[bZ,(Mi _ P.small.2.1 a P.args).2];simp only[beq_self_eq_true,cond_true,bind_some,ab,Mk a (show a.length<=1048576 by omega)];rw[ft (by omega),TJ mm];simp only[bind_some,KV,List.foldl_cons,List.foldl_nil];unfold vA at vQ⊢;by_cases eJ:(e0 e[i] (j+1)).Kind=5
    .rw[if_pos eJ]at vQ⊢;rw[eJ];simp only[beq_self_eq_true,cond_true];rw[(Mi _ sw.small.2.1 a sw.args).2];simp only[bind_some];simp only at vQ;rw[vQ];rfl
    .rw[if_neg eJ]at vQ⊢;rw[show((e0 e[i] (j+1)).Kind==5)=false by simpa using eJ,cond_false];simp only at vQ;rw[vQ];rfl
  by_cases cu:(e0 e[i] j).Kind=2
  .have jl:ew (e0 e[i] j)=2:=by unfold ew;rw[if_neg (by omega),if_pos cu]
   have q2:(below (e0 e[i] j) (jj e[i] j)).scope=(a.length:Int):=by unfold below;rw[if_neg (by omega)];exact kx
   obtain⟨mm,nv⟩:=tV (by omega);obtain⟨t,H_,xR,Bd⟩:=H8 jl;have eo:H6 e[i] (j+1)=j+1+t:=by unfold H6;rw[H_];rfl
   have pn:=ih (j+1) a mm (nv.trans q2) bq (by omega);have Bt:=ih (j+1+t) a xR (Bd.trans q2) bq (by omega);have dR:((2:Int)==1)=false:=rfl;refine vC.of (l:=i1 e[i] i n (j+1) a++i1 e[i] i n (j+1+t) a) (by rw[i1,if_neg bZ,if_pos cu,eo]) (λs aa=>(List.mem_append.1 aa).elim (pn.mw s) (Bt.mw s)) ?_ ?_ ?_
   .have ad:=pn.len;have af:=Bt.len;rw[List.length_append,TL];omega
   .intro m hm out bS hg;obtain⟨m,rfl⟩:∃q,m=q+1:=⟨m-1,by omega⟩
    simp only[rE,yk];rw[su];simp only[bind_some];rw[sv];simp only[bind_some];by_cases aa:200<out.length
    .rw[Ec out aa,Eb _ _ aa];rfl
    .obtain⟨g1,g2⟩:=TE _ out bS hg pn.mw;rw[iH out aa,cu,ft (by omega),pn.spec m (by omega) out bS hg,List.foldl_append];simp only[cond_false,dR,beq_self_eq_true,cond_true,bind_some];rw[abh _ (by omega) (j+1) t H_];simp only[bind_some];rw[Bt.spec m (by omega) _ g1 g2];rfl
   .intro m hm p fO;obtain⟨m,rfl⟩:∃q,m=q+1:=⟨m-1,by omega⟩
    rw[List.length_append]at fO;have aw:=TF (i1 e[i] i n (j+1) a) p;simp only[rR,yq];rw[su];simp only[bind_some];rw[sv];simp only[bind_some];rw[cu,ft (by omega),pn.impl m (by omega) p (by omega)];simp only[cond_false,dR,beq_self_eq_true,cond_true,bind_some];rw[abg _ (by omega) (j+1) (by omega),H_];simp only[bind_some,tK];rw[Bt.impl m (by omega) _ (by omega),List.foldl_append];rfl
  by_cases dY:(e0 e[i] j).Kind=3
  .have jl:ew (e0 e[i] j)=1:=by unfold ew;rw[if_pos (.inr (.inl dY))]
   obtain⟨mm,nv⟩:=tV (by omega);have q2:(below (e0 e[i] j) (jj e[i] j)).scope=(a.length:Int):=by unfold below;rw[if_neg (by omega)];exact kx
   have pn:=ih (j+1) a mm (nv.trans q2) bq (by omega);have azk:=P.avB dY;have c6:bj (e0 e[i] j).ck 0=some ((e0 e[i] j).ck.getD 0 []):=by
    have:=dX (e0 e[i] j).ck 0 (by omega);rw[List.getD_eq_getElem?_getD,List.getElem?_eq_getElem (show 0<(e0 e[i] j).ck.length by omega)];exact this
   have Eu:=P.args ((e0 e[i] j).ck.getD 0 []) (by
    rw[List.getD_eq_getElem?_getD,List.getElem?_eq_getElem (show 0<(e0 e[i] j).ck.length by omega)];exact List.getElem_mem _)
   obtain⟨v1,v2,_⟩:=Md (by omega) Eu;have h3:((3:Int)==1)=false:=rfl;have fZ:((3:Int)==2)=false:=rfl;by_cases cd:sq a ((e0 e[i] j).ck.getD 0 [])=0
   .have za:(sq a ((e0 e[i] j).ck.getD 0 []) !=0)=false:=by rw[cd];rfl
    refine vC.of (l:=[]) (by rw[i1,if_neg bZ,if_neg cu,if_pos dY,if_neg (λau=>au cd)]) (λs aa=>by cases aa) (zero_le _) ?_ ?_
    .intro m hm out bS hg;obtain⟨m,rfl⟩:∃q,m=q+1:=⟨m-1,by omega⟩
     simp only[rE,yk,zV];rw[su];simp only[bind_some];rw[sv];simp only[bind_some];rw[dY];simp only[h3,fZ,beq_self_eq_true,cond_true,cond_false,c6,bind_some,v1,za,List.foldl_nil];cases decide (200<(out.length:Int))<;>rfl
    .intro m hm p fO;obtain⟨m,rfl⟩:∃q,m=q+1:=⟨m-1,by omega⟩
     simp only[rR,yq];rw[su];simp only[bind_some];rw[sv];simp only[bind_some];rw[dY];simp only[h3,fZ,beq_self_eq_true,cond_true,cond_false,c6,bind_some,v2,za,List.foldl_nil]
   .have za:(sq a ((e0 e[i] j).ck.getD 0 []) !=0)=true:=by simpa using cd
    refine vC.of (l:=i1 e[i] i n (j+1) a) (by rw[i1,if_neg bZ,if_neg cu,if_pos dY,if_pos cd]) pn.mw ?_ ?_ ?_
    .have ad:=pn.len;rw[TL];omega
    .intro m hm out bS hg;obtain⟨m,rfl⟩:∃q,m=q+1:=⟨m-1,by omega⟩
     simp only[rE,yk];rw[su];simp only[bind_some];rw[sv];simp only[bind_some];by_cases aa:200<out.length
     .rw[Ec out aa,Eb _ _ aa];rfl
     .rw[iH out aa,dY,ft (by omega)];simp only[h3,fZ,beq_self_eq_true,cond_true,cond_false,c6,bind_some,v1,za];rw[pn.spec m (by omega) out bS hg];rfl
    .intro m hm p fO;obtain⟨m,rfl⟩:∃q,m=q+1:=⟨m-1,by omega⟩
     simp only[rR,yq];rw[su];simp only[bind_some];rw[sv];simp only[bind_some];rw[dY,ft (by omega)];simp only[h3,fZ,beq_self_eq_true,cond_true,cond_false,c6,bind_some,v2,za];rw[pn.impl m (by omega) p fO];rfl
  by_cases eb:(e0 e[i] j).Kind=4
  .have jl:ew (e0 e[i] j)=1:=by unfold ew;rw[if_pos (.inr (.inr eb))]
   obtain⟨mm,nv⟩:=tV (by omega);obtain⟨m1,m7,m5⟩:=P.sum eb;have q2:∀v:Nat,(jj e[i] (j+1)).scope=((a++[(v:Int)]).length:Int):=λv=>by
    rw[nv];unfold below;rw[if_pos eb,List.length_append];simp only[List.length_cons,List.length_nil];omega
   have iO:∀v:Nat,v<8->∀x∈a++[(v:Int)],fW x:=λv Mm x ao=>by
    rcases List.mem_append.1 ao with ao|ao
    .exact bq x ao
    .rw[List.mem_singleton]at ao;subst ao;exact⟨by omega,by omega⟩
   have A:∀v:Nat,v<8->vC e e[i] i n (j+1) (a++[(v:Int)]):=λv Mm=>ih (j+1) _ mm (q2 v) (iO v Mm) (by omega);have A0:(e0 e[i] j).Number=(((e0 e[i] j).Number.toNat+1:Nat):Int)-1:=by omega
   have Bc:(e0 e[i] j).Number.toNat+1<=8:=by omega
   have h3:((4:Int)==1)=false:=rfl;have fZ:((4:Int)==2)=false:=rfl;have f_:((4:Int)==3)=false:=rfl;refine vC.of (l:=(List.range' 0 ((e0 e[i] j).Number.toNat+1)).flatMap λ(v:Nat)=>i1 e[i] i n (j+1) (a++[((v:Nat):Int)])) (by rw[i1,if_neg bZ,if_neg cu,if_neg dY,if_pos eb]) ?_ ?_ ?_ ?_
   .intro s aa;obtain⟨v,zH,yR⟩:=List.mem_flatMap.1 aa;have:=List.mem_range'_1.1 zH;exact(A v (by omega)).mw s yR
   .have ad:=ab7 (f:=λ(v:Nat)=>i1 e[i] i n (j+1) (a++[((v:Nat):Int)])) (B:=2^n*8^(6-(a.length+1))) ((e0 e[i] j).Number.toNat+1) 0 (λv _ yR=>by
     have:=(A v (by omega)).len
     rwa [List.length_append]at this)
    have af:((e0 e[i] j).Number.toNat+1)*(2^n*8^(6-(a.length+1)))<=8*(2^n*8^(6-(a.length+1))):=mul_le_mul_right _ Bc;have aG:=avP (n:=n) (k:=a.length) (by omega);rw[TL];omega
   .intro m hm out bS hg;obtain⟨m,rfl⟩:∃q,m=q+1:=⟨m-1,by omega⟩
    simp only[rE,yk];rw[su];simp only[bind_some];rw[sv];simp only[bind_some];by_cases aa:200<out.length
    .rw[Ec out aa,Eb _ _ aa];rfl
    .rw[iH out aa,eb];simp only[h3,fZ,f_,beq_self_eq_true,cond_true,cond_false];refine e5 9 λq c6=>?_;exact ab9 A0 Bc (by omega) (by omega) (λv Mm=>⟨(A v (by omega)).mw,λout bS hg=>(A v (by omega)).spec m (by omega) out bS hg⟩) _ 0 out q (by omega) (by omega) bS hg
   .intro m hm p fO;obtain⟨m,rfl⟩:∃q,m=q+1:=⟨m-1,by omega⟩
    simp only[rR,yq];rw[su];simp only[bind_some];rw[sv];simp only[bind_some];rw[eb];simp only[h3,fZ,f_,beq_self_eq_true,cond_true,cond_false];refine e5 9 λq c6=>?_;exact ab_ A0 Bc (by omega) (by omega) (λv Mm p ay=>(A v (by omega)).impl m (by omega) p ay) _ 0 p q (by omega) (by omega) fO
  .refine vC.of (l:=[]) (by rw[i1,if_neg bZ,if_neg cu,if_neg dY,if_neg eb]) (λs aa=>by cases aa) (zero_le _) ?_ ?_
   .have h3:((e0 e[i] j).Kind==1)=false:=by simpa using bZ
    have fZ:((e0 e[i] j).Kind==2)=false:=by simpa using cu
    have f_:((e0 e[i] j).Kind==3)=false:=by simpa using dY
    have bw:((e0 e[i] j).Kind==4)=false:=by simpa using eb
    intro m hm out bS hg;obtain⟨m,rfl⟩:∃q,m=q+1:=⟨m-1,by omega⟩
    simp only[rE,yk,zV];rw[su];simp only[bind_some];rw[sv];simp only[bind_some,h3,fZ,f_,bw,cond_false,List.foldl_nil];cases decide (200<(out.length:Int))<;>rfl
   .have h3:((e0 e[i] j).Kind==1)=false:=by simpa using bZ
    have fZ:((e0 e[i] j).Kind==2)=false:=by simpa using cu
    have f_:((e0 e[i] j).Kind==3)=false:=by simpa using dY
    have bw:((e0 e[i] j).Kind==4)=false:=by simpa using eb
    intro m hm p fO;obtain⟨m,rfl⟩:∃q,m=q+1:=⟨m-1,by omega⟩
    simp only[rR,yq];rw[su];simp only[bind_some];rw[sv];simp only[bind_some,h3,fZ,f_,bw,cond_false,List.foldl_nil]
def yW (e:azK) (p:ba):Prop:=
 ∃(i:Nat) (ai:i<e.length) (j:Nat),p.cJ=(i:Int)/\p.Part=(j:Int)/\j<e[i].Body.length/\(jj e[i] j).scope=(p.b5.length:Int)/\∀x∈p.b5,fW x
theorem acb (d:a1) (h:0<d.Body.length):(jj d 0).scope=d.dV:=by
 unfold jj;rw[Mh,List.drop_zero,Ty _ _ _ (by intro au;rw[au]at h;simp at h)]
theorem avS {e:azK} (h:vx e) (aJ:nM e=true) {i:Nat} (ai:i<e.length):∀(n j:Nat) (a:azs),j<e[i].Body.length->(jj e[i] j).scope=(a.length:Int)->(∀x∈a,fW x)->∀s∈i1 e[i] i n j a,yW e s.Next:=by
 obtain⟨BA,aca,aq⟩:=A7 h aJ;obtain⟨avR,na,_⟩:=aq i ai;obtain⟨s1,s2,px⟩:=xi na;intro n;induction n with
 |zero=>intro j a _ _ _ s aa;cases aa
 |succ n ih=>
  intro j a bQ kx bq s aa;have P:=H5 h aJ ai bQ;rw[kx,<-Bb bQ]at P;have v_:a.length<=29:=by have:=P.Tx;omega
  obtain⟨tV,H8⟩:=abS e[i] s1 bQ;rw[<-Bb bQ]at tV H8;rw[i1]at aa;by_cases bZ:(e0 e[i] j).Kind=1
  .rw[if_pos bZ,List.mem_singleton]at aa;subst aa;have jl:ew (e0 e[i] j)=1:=by unfold ew;rw[if_pos (.inl bZ)]
   obtain⟨mm,nv⟩:=tV (by omega);have nv:(jj e[i] (j+1)).scope=(a.length:Int):=by rw[nv];unfold below;rw[if_neg (by omega)];exact kx
   have sw:=H5 h aJ ai mm;rw[nv,<-Bb mm]at sw;unfold vA;by_cases eJ:(e0 e[i] (j+1)).Kind=5
   .simp only[if_pos eJ];obtain⟨bu,cg,gk⟩:=sw.call eJ;obtain⟨fA,H9,TM⟩:=TK cg;obtain⟨_,avT,_⟩:=aq _ H9;obtain⟨t1,t2,t3⟩:=xi avT;have ib:0<e[(e0 e[i] (j+1)).Number.toNat].Body.length:=by
     have:=(sk t1).1;omega
    refine⟨_,H9,0,(Int.toNat_of_nonneg fA).symm,rfl,ib,?_,Ea bq sw.args⟩;simp only;rw[acb _ ib,TM,<-gk];unfold nO;rw[List.length_map]
   .simp only[if_neg eJ];exact⟨i,ai,j+1,rfl,rfl,mm,nv,bq⟩
  rw[if_neg bZ]at aa;by_cases cu:(e0 e[i] j).Kind=2
  .have jl:ew (e0 e[i] j)=2:=by unfold ew;rw[if_neg (by omega),if_pos cu]
   have q2:(below (e0 e[i] j) (jj e[i] j)).scope=(a.length:Int):=by unfold below;rw[if_neg (by omega)];exact kx
   obtain⟨mm,nv⟩:=tV (by omega);obtain⟨t,H_,xR,Bd⟩:=H8 jl;have eo:H6 e[i] (j+1)=j+1+t:=by unfold H6;rw[H_];rfl
   rw[if_pos cu,eo]at aa;rcases List.mem_append.1 aa with aa|aa
   .exact ih (j+1) a mm (nv.trans q2) bq s aa
   .exact ih (j+1+t) a xR (Bd.trans q2) bq s aa
  rw[if_neg cu]at aa;by_cases dY:(e0 e[i] j).Kind=3
  .have jl:ew (e0 e[i] j)=1:=by unfold ew;rw[if_pos (.inr (.inl dY))]
   have q2:(below (e0 e[i] j) (jj e[i] j)).scope=(a.length:Int):=by unfold below;rw[if_neg (by omega)];exact kx
   obtain⟨mm,nv⟩:=tV (by omega);rw[if_pos dY]at aa;split at aa
   .exact ih (j+1) a mm (nv.trans q2) bq s aa
   .cases aa
  rw[if_neg dY]at aa;by_cases eb:(e0 e[i] j).Kind=4
  .rw[if_pos eb]at aa;have jl:ew (e0 e[i] j)=1:=by unfold ew;rw[if_pos (.inr (.inr eb))]
   have q2:(below (e0 e[i] j) (jj e[i] j)).scope=(a.length:Int)+1:=by unfold below;rw[if_pos eb,<-kx]
   obtain⟨mm,nv⟩:=tV (by omega);obtain⟨mn,bF,eZ⟩:=P.sum eb;obtain⟨v,zH,aa⟩:=List.mem_flatMap.1 aa;have yR:v<=7:=by
    have:=List.mem_range'.1 zH;omega
   refine ih (j+1) (a++[((v:Nat):Int)]) mm ((nv.trans q2).trans (by rw[List.length_append];rfl)) (λx ao=>?_) s aa;rcases List.mem_append.1 ao with ao|ao
   .exact bq x ao
   .rw[List.mem_singleton]at ao;subst ao;unfold fW;omega
  rw[if_neg eb]at aa;cases aa
theorem acd:∀(l o:azQ),∀x∈l.foldl k3 o,x∈o\/x∈l
 |[],o,x,ao=>.inl ao
 |s::r,o,x,ao=>by
  rcases acd r _ x ao with h|h
  .unfold k3 at h;split at h
   .exact .inl h
   .rcases List.mem_append.1 h with h|h
    .exact .inl h
    .rw[List.mem_singleton]at h;exact .inr (by rw[h];simp)
  .exact .inr (List.mem_cons_of_mem _ h)
theorem ace {α:Type} {f:α->Nat} {B:Nat}:∀l:List α,(∀x∈l,f x<=B)->hU f l<=B*l.length
 |[],_=>zero_le _
 |x::r,h=>by
  have ad:=h x (by simp);have af:=ace r λy hy=>h y (List.mem_cons_of_mem _ hy);simp only[hU,List.length_cons,Nat.mul_add];omega
theorem avU {e:azK} (h:vx e) (aJ:nM e=true) {p:ba} (aa:yW e p):
  ∃(lR S:azQ) (b:Bool),u7 e p=some (lR,b)/\uO e p=some (S,b)/\(b=true->S=lR/\lR.length<=200/\∀x∈lR,fR x/\yW e x.Next):=by
 obtain⟨i,ai,j,avV,FH,bQ,kx,iO⟩:=aa;have avW:=avS h aJ ai 20 j p.b5 bQ kx iO;have avX:e[i].Body.length<=20:=(xi ((A7 h aJ).2.2 i ai).2.1).2.2;have A:=avQ h aJ ai 20 j p.b5 bQ kx iO (by omega);have hlen:(i1 e[i] i 20 j p.b5).length<=549755813888:=by
  have ad:=A.len;have af:2^20*8^(6-p.b5.length)<=2^20*8^6:=mul_le_mul_left _ (Nat.pow_le_pow_right (by omega) (by omega));have aG:2^20*8^6=274877906944:=by decide
  omega
 have cn:J8 e (i:Int) (j:Int) p.b5 []=some ((i1 e[i] i 20 j p.b5).foldl mV []):=by
  unfold J8;exact e5 20 λm hm=>A.spec m hm [] (by simp) (λx ao=>by cases ao)
 have Ed:KW e [] [] (i:Int) (j:Int) p.b5=some (e,((i1 e[i] i 20 j p.b5).foldl mz ([],[])).1,((i1 e[i] i 20 j p.b5).foldl mz ([],[])).2):=by
  unfold KW;exact e5 20 λm hm=>A.impl m hm ([],[]) (by simpa using hlen)
 have Fb:=TI (i1 e[i] i 20 j p.b5) [] [] A.mw (λx ao=>by cases ao) (λs _=>rfl);obtain⟨ct,c2⟩:=ab1 (i1 e[i] i 20 j p.b5) [];have tW:∀x∈(i1 e[i] i 20 j p.b5).foldl k3 [],fR x/\yW e x.Next:=λx ao=>(acd _ _ x ao).elim (λh=>by cases h) λh=>⟨A.mw x h,avW x h⟩
 unfold uO u7;rw[avV,FH,cn,Ed,Fb];simp only[bind_some];generalize (i1 e[i] i 20 j p.b5).foldl k3 []=lR at ct c2 tW⊢;by_cases hl:lR.length<=200
 .rw[ct hl];exact⟨lR,lR,_,rfl,rfl,λ_=>⟨rfl,hl,tW⟩⟩
 .have:=c2 (by omega);generalize (i1 e[i] i 20 j p.b5).foldl mV []=kk at this⊢;refine⟨lR,kk,false,?_,?_,λh=>by cases h⟩
  .rw[show decide ((lR.length:Int)<=200)=false from decide_eq_false (by omega)]
  .rw[show decide ((kk.length:Int)<=200)=false from decide_eq_false (by omega)]
theorem TN {n:azq} (h:hk n=true):(40:UInt8)∉n:=λhm=>by
 have:=TA h _ hm;revert this;decide
theorem Mn (c:UInt8):∀l:azp,l≠[]->(∀x∈l,c∉x)->fV c (h1 l [c])=l
 |[],h,_=>absurd rfl h
 |[x],_,h=>by rw[join_one,S0 c x (h x (by simp))]
 |x::y::r,_,h=>by
  rw[join_cons,List.singleton_append,S1 c x _ (h x (by simp)),Mn c (y::r) (by simp) λz cd=>h z (List.mem_cons_of_mem _ cd)]
theorem TO {x:Int} (h:fW x):jv (jV x)=(x,true):=by
 obtain⟨n,rfl⟩:∃n:Nat,x=n:=⟨x.toNat,by have:=h.1;omega⟩
 have aX:n<64:=by have:=h.2;omega
 have key:∀k:Fin 64,jv (iQ k.val)=((k.val:Int),true):=by decide
 have:=key ⟨n,aX⟩;simpa [jV]using this
theorem acf {a:azs} (h:∀x∈a,fW x):l6 (a.map jV)=a/\tJ (a.map jV)=true/\o_ (a.map jV)=true:=by
 refine⟨?_,?_,?_⟩
 .unfold l6;rw[List.map_map];conv=>rhs;rw[<-List.map_id a]
  exact List.map_congr_left λx ao=>by simp only[Function.comp,TO (h x ao),id]
 .unfold tJ;rw[List.all_map,List.all_eq_true];intro x ao;simp only[Function.comp,TO (h x ao)]
 .unfold o_;rw[List.all_map,List.all_eq_true];intro x ao;have:=h x ao;simp only[Function.comp,TO (h x ao),pS,Bool.true_and,Bool.and_eq_true,decide_eq_true_eq];exact this
theorem Mo {n:azq} {a:azs} (h:a.length≠0):iZ n a=n++40::(iY a++[41]):=by
 unfold iZ;rw[if_neg h];simp
theorem avY {a:azs} (h:a.length≠0):iY a=h1 (a.map jV) [44]:=by
 unfold iY;rw[if_neg (λe=>h (by rw[e];rfl))]
theorem acg {a:azs} (h:a.length≠0) (aJ:∀x∈a,fW x):fV 44 (iY a)=a.map jV:=by
 rw[avY h];exact Mn 44 _ (λe=>h (by simpa using congrArg List.length e)) (TH aJ)
theorem avZ {n:azq} {a:azs} (aX:hk n=true) (hl:a.length<=2) (a8:(n==([116,97,117]:azq))=true->a.length=0) (aJ:∀x∈a,fW x):
  u4 (iZ n a)=some (n,a,true):=by
 have yU:n.length<=10:=by simp only[hk,Bool.and_eq_true,decide_eq_true_eq]at aX;exact aX.1
 have yX:=TN aX;unfold u4;by_cases h:a.length=0
 .have bq:a=[]:=List.length_eq_zero_iff.1 h;subst bq;have e:iZ n []=n:=rfl;rw[e,aaL yX];simp only[bind_some,cond_false,Ae];rw[H7 n [] aX (by simp) (λ_=>rfl) (λx ao=>by cases ao),e];simp
 .have ad:=xm a;have au:=acg h aJ;rw[Mo h,aaM n (iY a++[41]) yX (by simp;omega)];simp only[bind_some,cond_true];rw[aaN _ (by omega),bind_some,aaQ 44 _ (by omega),bind_some,au,aa6 _ (by simp;omega)];obtain⟨aP,aW,_⟩:=acf aJ;rw[aP,aW];simp only[if_true,bind_some,Bool.not_true,cond_false,Ae];rw[H7 n a aX hl a8 aJ,Mo h];simp
theorem ach {n:azq} {a:azs} (aX:hk n=true) (hl:a.length<=2):ta (iZ n a)=some n:=by
 have yU:n.length<=10:=by simp only[hk,Bool.and_eq_true,decide_eq_true_eq]at aX;exact aX.1
 have yX:=TN aX;unfold ta;by_cases h:a.length=0
 .have bq:a=[]:=List.length_eq_zero_iff.1 h;subst bq;have e:iZ n []=n:=rfl;rw[e,(yM n (by omega)).1 yX,bind_some,tH _ _ (Nat.le_refl _),List.take_length];rfl
 .have ad:=xm a;rw[Mo h,(yM _ (by simp;omega)).2 n _ rfl yX,bind_some,tH _ _ (by simp),List.take_left];rfl
theorem aci {n:azq} {a:azs} (aX:hk n=true) (hl:a.length<=2) (a8:(n==([116,97,117]:azq))=true->a.length=0) (aJ:∀x∈a,fW x):
  s_ (iZ n a)=some (a,true):=by
 have yU:n.length<=10:=by simp only[hk,Bool.and_eq_true,decide_eq_true_eq]at aX;exact aX.1
 have yX:=TN aX;unfold s_;by_cases h:a.length=0
 .have bq:a=[]:=List.length_eq_zero_iff.1 h;subst bq;have e:iZ n []=n:=rfl;rw[e,(yM n (by omega)).1 yX,bind_some,beq_self_eq_true,cond_true,yL,aX];rfl
 .have ad:=xm a;have nW:(n==([116,97,117]:azq))=false:=by
   cases aw:n==([116,97,117]:azq)
   .rfl
   .exact absurd (a8 aw) h
  have nD:(n++40::(iY a++[41])).length=n.length+(iY a).length+2:=by simp;omega
  have fY:((n.length:Int)==(((n++40::(iY a++[41])).length:Nat):Int))=false:=by rw[nD,beq_eq_false_iff_ne];omega
  rw[Mo h,(yM _ (by omega)).2 n _ rfl yX,bind_some,fY,cond_false];rw[tH _ _ (by omega),List.take_left,bind_some];have sl:rA n=some true:=by unfold rA;rw[yL,aX];simp only[bind_some,nW];rfl
  rw[sl];simp only[bind_some,Bool.not_true,cond_false];have aP:i64.wrap (((n++40::(iY a++[41])).length:Int)-1)=((n.length+(iY a).length+1:Nat):Int):=by rw[nD,eC _ (by omega)];omega
  have aW:i64.wrap ((n.length:Int)+1)=((n.length+1:Nat):Int):=by rw[eC _ (by omega)];omega
  have aS:n++40::(iY a++[41])=(n++[40])++(iY a++[41]):=by simp
  rw[aP,aW,dX _ (n.length+(iY a).length+1) (by omega),bind_some];have cf:(n++40::(iY a++[41]))[n.length+(iY a).length+1]'(by omega)=41:=by
   rw[List.getElem_append_right (by omega)];simp[show n.length+(iY a).length+1-n.length=(iY a).length+1 by omega]
  rw[cf,show(((41:UInt8).toNat:Int) !=41)=false from rfl,cond_false,aS,DX _ _ _ (by simp) (by simp;omega),bind_some,aaR 44 _ (by omega),bind_some,acg h aJ];have hw:∀w∈a.map jV,w.length<=1048576:=by
   intro w hw;obtain⟨x,_,rfl⟩:=List.mem_map.1 hw;have:=H2 x;omega
  rw[aa7 _ (by simp;omega) hw];obtain⟨f1,_,f3⟩:=acf aJ;rw[f1,f3,List.length_map,decide_eq_true hl];rfl
end Go.ld
