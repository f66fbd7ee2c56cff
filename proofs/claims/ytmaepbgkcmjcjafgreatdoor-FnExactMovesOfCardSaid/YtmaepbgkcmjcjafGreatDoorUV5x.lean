/- Part of a proof that a law returns true for every input. No condition. -/
import Derived.Test.YtmaepbgkcmjcjafGreatDoorUV4x
import Derived.Test.YtmaepbgkcmjcjafGreatDoorUV3x
import Derived.Test.YtmaepbgkcmjcjafGreatDoorUV1x
import Derived.Test.YtmaepbgkcmjcjafGreatDoorUV0x
namespace Go.kX
open Option Go.IntKind Nat
open Go Go.eg
def r0 (x y:bk):Bool:=(x.Label==y.Label)&&((x.Next.cp==y.Next.cp)&&((x.Next.Part==y.Next.Part)&&(x.Next.bH==y.Next.bH)))
def lE (o:ayB) (s:bk):ayB:=if(o.any λx=>r0 x s)=true then o else o++[s]
def mD (o:ayB) (s:bk):ayB:=if 200<o.length then o else lE o s
theorem S0 {x y:bk}:r0 x y=true↔x=y:=by
 cases x with
 |mk ax3 auM=>
  cases auM;cases y with
  |mk ax4 auN=>
   cases auN;simp[r0]
theorem S1 (a b:aye) (h:a.length<=1048576):FJ a b=some (a==b):=by
 unfold FJ;by_cases hl:a.length=b.length
 .have e:((a.length:Int) !=(b.length:Int))=false:=by simp[hl]
  rw[e,cond_false];have:=p7 (n:=a.length) (l:=BK a b) (λi=>some (a.drop i==b.drop i)) (λm=>?_) (λi aj m ih=>?_)
  .simpa using this
  .simp only[BK,O2];rw[eb (Nat.le_refl _),List.drop_of_length_le (Nat.le_refl _),List.drop_of_length_le (by omega)];rfl
  .simp only[BK,O2];rw[ey aj,dV _ i aj,dV _ i (by omega),eo i _ aj (by omega),drop_cons a i aj,drop_cons b i (by omega),List.cons_beq_cons];simp only[cond_true,bind_some,ih,bne];cases a[i]==b[i]
   .rfl
   .simp
 .have e:((a.length:Int) !=(b.length:Int))=true:=by simp;omega
  have aY:(a==b)=false:=by
   rw[beq_eq_false_iff_ne];intro h;exact hl (by rw[h])
  rw[e,cond_true,aY]
theorem auO (o:ayB) (s:bk) (h:o.length<=1048576) (hg:∀x∈o,fG x):Jx o s=some (lE o s):=by
 have ec:lE o s=cond (o.any λx=>r0 x s) o (o++[s]):=by
  unfold lE;cases o.any λx=>r0 x s<;>rfl
 unfold Jx;rw[ec,p7 (n:=o.length) (l:=BM o s) (λi=>some (cond ((o.drop i).any λx=>r0 x s) o (o++[s]))) (λm=>?_) (λi aj m ih=>?_),List.drop_zero]
 .simp only[BM,O3];rw[eb (Nat.le_refl _),lR (by omega) (by omega),List.drop_of_length_le (Nat.le_refl _)];rfl
 .simp only[BM,O3];rw[ey aj,dV _ i aj,eo i _ aj (by omega),drop_cons o i aj];simp only[cond_true,bind_some,ih,List.any_cons];have aJ:=(hg _ (List.getElem_mem aj)).kg.1;unfold BL;rw[S1 _ _ (by omega)];have e:r0 o[i] s=((o[i].Label==s.Label)&&((o[i].Next.cp==s.Next.cp)&&((o[i].Next.Part==s.Next.Part)&&(o[i].Next.bH==s.Next.bH)))):=rfl;rw[e];cases o[i].Label==s.Label
  .rfl
  .cases o[i].Next.cp==s.Next.cp
   .rfl
   .cases o[i].Next.Part==s.Next.Part
    .rfl
    .cases o[i].Next.bH==s.Next.bH
     .rfl
     .rfl
theorem abv (o:ayB) (s:bk):o.length<=(lE o s).length/\(lE o s).length<=o.length+1:=by
 unfold lE;split
 .omega
 .simp
theorem abw {o:ayB} {s:bk} (hg:∀x∈o,fG x) (ab:fG s):∀x∈lE o s,fG x:=by
 intro x ao;unfold lE at ao;split at ao
 .exact hg x ao
 .rcases List.mem_append.1 ao with ao|ao
  .exact hg x ao
  .rw[List.mem_singleton]at ao;rwa [ao]
theorem auP {o:ayB} {s:bk} (bI:o.length<=201) (hg:∀x∈o,fG x) (ab:fG s):(mD o s).length<=201/\∀x∈mD o s,fG x:=by
 unfold mD;split
 .exact⟨bI,hg⟩
 .have:=abv o s;exact⟨by omega,abw hg ab⟩
theorem S2:∀(l o:ayB),o.length<=201->(∀x∈o,fG x)->(∀x∈l,fG x)->(l.foldl mD o).length<=201/\∀x∈l.foldl mD o,fG x
 |[],o,bI,hg,_=>⟨bI,hg⟩
 |s::r,o,bI,hg,hl=>by
  obtain⟨ad,af⟩:=auP bI hg (hl s (by simp));exact S2 r (mD o s) ad af λx ao=>hl x (List.mem_cons_of_mem _ ao)
theorem DB:∀(l o:ayB),200<o.length->l.foldl mD o=o
 |[],o,_=>rfl
 |s::r,o,h=>by rw[List.foldl_cons,show mD o s=o by unfold mD;rw[if_pos h],DB r o h]
theorem abx:∀(l o:ayB),o.length<=(l.foldl lE o).length
 |[],o=>Nat.le_refl _
 |s::r,o=>Nat.le_trans (abv o s).1 (abx r _)
theorem aby:∀(l o:ayB),((l.foldl lE o).length<=200->l.foldl mD o=l.foldl lE o)/\(200<(l.foldl lE o).length->200<(l.foldl mD o).length)
 |[],o=>⟨λ_=>rfl,λh=>h⟩
 |s::r,o=>by
  by_cases h:200<o.length
  .rw[DB _ _ h];have:=abx (s::r) o;exact⟨λaf=>by omega,λ_=>h⟩
  .rw[List.foldl_cons,List.foldl_cons,show mD o s=lE o s by unfold mD;rw[if_neg h]];exact aby r (lE o s)
def r1 (s:bk):ayc:=(s.Label++[32])++((jg s.Next.cp.toNat++[58])++((jg s.Next.Part.toNat++[58])++iK s.Next.bH))
def mi (p:ayB×aya) (s:bk):ayB×aya:=
 if j1 (r1 s) p.2=true then p else(p.1++[s],kh (r1 s) true p.2)
theorem auQ (e:ayw) (o:ayB) (m:aya) (s:bk) (ab:fG s) (bI:o.length<=1099511627776):
  Ka e o m s.Label s.Next.cp s.Next.Part s.Next.bH=some (e,(mi (o,m) s).1,(mi (o,m) s).2):=by
 obtain⟨i,aj,iy⟩:=ab.wN;obtain⟨j,bF,oy⟩:=ab.wO;have ad:=wD i;have af:=wD j;have aG:=wK s.Next.bH;have bf:=ab.kg.1;have bU:=ab.yl.1;have au:zz ⟨s.Next.cp,s.Next.Part,s.Next.bH⟩=some ((jg i++[58])++((jg j++[58])++iK s.Next.bH)):=by
  unfold zz J_;simp only[iy,oy,Ai i aj,Ai j bF,bind_some,SJ _ bf ab.kg.2];rw[mh (by omega),mh (by omega)];simp only[bind_some];rw[mh (by simp only[List.length_append,List.length_cons,List.length_nil];omega)];simp only[bind_some];rw[mh (by simp only[List.length_append,List.length_cons,List.length_nil];omega)];rfl
 unfold Ka;rw[mh (by omega),au];simp only[bind_some];rw[mh (by simp only[List.length_append,List.length_cons,List.length_nil];omega)];simp only[bind_some];have ti:r1 s=(s.Label++[32])++((jg i++[58])++((jg j++[58])++iK s.Next.bH)):=by unfold r1;rw[iy,oy];rfl
 rw[<-ti];unfold mi;cases hg:j1 (r1 s) m
 .simp only[Bool.not_false,cond_true,hg];rw[lR (by omega) (by omega)];rfl
 .simp only[Bool.not_true,cond_false,hg];rfl
theorem S3:∀(l:ayB) (p:ayB×aya),(l.foldl mi p).1.length<=p.1.length+l.length
 |[],p=>Nat.le_refl _
 |s::r,p=>by
  have ad:=S3 r (mi p s);have af:(mi p s).1.length<=p.1.length+1:=by
   unfold mi;split
   .omega
   .simp
  rw[List.foldl_cons,List.length_cons];omega
theorem S4 (k di:ayc) (b:Bool):∀m,j1 k (kh di b m)=if di=k then b else j1 k m
 |[]=>by simp[kh,j1]
 |e::m=>by
  simp only[kh];by_cases h:e.1=di
  .rw[if_pos h];simp only[j1];by_cases af:di=k
   .rw[if_pos af,if_pos af]
   .rw[if_neg af,if_neg af,if_neg (by rw[h];exact af)]
  .rw[if_neg h];simp only[j1];by_cases af:e.1=k
   .rw[if_pos af,if_pos af,if_neg (by intro aG;exact h (af.trans aG.symm))]
   .rw[if_neg af,if_neg af,S4 k di b m]
theorem u4 {c:UInt8}:∀{x y u v:ayc},c∉x->c∉y->x++c::u=y++c::v->x=y/\u=v
 |[],[],u,v,_,_,h=>⟨rfl,(List.cons.inj h).2⟩
 |[],y::cP,u,v,_,af,h=>(af (by rw[List.nil_append,List.cons_append]at h;rw[(List.cons.inj h).1];simp)).elim
 |x::xs,[],u,v,ad,_,h=>(ad (by rw[List.nil_append,List.cons_append]at h;rw[<-(List.cons.inj h).1];simp)).elim
 |x::xs,y::cP,u,v,ad,af,h=>by
  rw[List.cons_append,List.cons_append]at h;obtain⟨aP,aY⟩:=List.cons.inj h;obtain⟨aU,b4⟩:=u4 (λhm=>ad (List.mem_cons_of_mem _ hm)) (λhm=>af (List.mem_cons_of_mem _ hm)) aY;exact⟨by rw[aP,aU],b4⟩
theorem Au {m n:Nat} (hm:m<100) (aV:n<100) (h:jg m=jg n):m=n:=by
 have d:∀a b:Fin 10,UInt8.ofNat (48+a)=UInt8.ofNat (48+b)->a=b:=by decide
 have d2:∀a b:Nat,a<10->b<10->UInt8.ofNat (48+a)=UInt8.ofNat (48+b)->a=b:=λa b br aa e=>congrArg Fin.val (d ⟨a,br⟩ ⟨b,aa⟩ e);unfold jg at h;split at h<;>split at h
 .exact d2 _ _ (by omega) (by omega) (List.cons.inj h).1
 .cases(List.cons.inj h).2
 .cases(List.cons.inj h).2
 .have ad:=d2 _ _ (by omega) (by omega) (List.cons.inj h).1;have af:=d2 _ _ (by omega) (by omega) (List.cons.inj (List.cons.inj h).2).1;omega
theorem abz:∀{a b:ayb},(∀x∈a,(44:UInt8)∉x)->(∀x∈b,(44:UInt8)∉x)->a≠[]->b≠[]->jE a [44]=jE b [44]->a=b
 |[],_,_,_,h,_,_=>(h rfl).elim
 |_::_,[],_,_,_,h,_=>(h rfl).elim
 |[x],[y],_,_,_,_,h=>by rw[join_one,join_one]at h;rw[h]
 |[x],y::z::r,br,_,_,_,h=>by
  rw[join_one,join_cons]at h;exact(br x (by simp) (by rw[h];simp)).elim
 |x::z::r,[y],_,aa,_,_,h=>by
  rw[join_one,join_cons]at h;exact(aa y (by simp) (by rw[<-h];simp)).elim
 |x::ae::r,y::hr::q,br,aa,_,_,h=>by
  rw[join_cons,join_cons]at h;obtain⟨aP,aY⟩:=u4 (br x (by simp)) (aa y (by simp)) (by simpa using h);rw[aP,abz (a:=ae::r) (b:=hr::q) (λz b8=>br z (List.mem_cons_of_mem _ b8)) (λz b8=>aa z (List.mem_cons_of_mem _ b8)) (by simp) (by simp) aY]
theorem val_inj {a b:aye} (br:∀x∈a,gl x) (aa:∀x∈b,gl x) (h:a.map kf=b.map kf):a=b:=by
 induction a generalizing b with
 |nil=>cases b with
  |nil=>rfl
  |cons y r=>cases h
 |cons x r ih=>cases b with
  |nil=>cases h
  |cons y q=>
   rw[List.map_cons,List.map_cons]at h;obtain⟨aP,aY⟩:=List.cons.inj h;have ao:=br x (by simp);have hy:=aa y (by simp);unfold gl at ao hy;have:=Au (m:=x.toNat) (n:=y.toNat) (by omega) (by omega) aP;rw[ih (λz b8=>br z (List.mem_cons_of_mem _ b8)) (λz b8=>aa z (List.mem_cons_of_mem _ b8)) aY,show x=y by omega]
theorem S5 {a:aye} (br:∀x∈a,gl x):∀x∈a.map kf,(44:UInt8)∉x:=by
 intro x ao hm;obtain⟨y,hy,rfl⟩:=List.mem_map.1 ao;have ad:=br y hy;unfold gl at ad;have:=(wP y.toNat (by omega) _ hm).1;revert this;decide
theorem abA {a:aye} (br:∀x∈a,gl x) (aV:a≠[]):jE (a.map kf) [44]≠[45]:=by
 cases a with
 |nil=>exact(aV rfl).elim
 |cons x r=>
  intro h;have ao:=br x (by simp);unfold gl at ao;have a_:kf x≠[]:=by unfold kf jg;split<;>simp
  have ar:∀u,kf x++u=[45]->False:=by
   intro u hu;cases aJ:kf x with
   |nil=>exact a_ aJ
   |cons c w=>
    rw[aJ,List.cons_append]at hu;have:=(wP x.toNat (by omega) c (by unfold kf at aJ;rw[aJ];simp)).1;rw[(List.cons.inj hu).1]at this;revert this;decide
  cases r with
  |nil=>rw[List.map_cons,List.map_nil,join_one]at h;exact ar [] (by simpa using h)
  |cons y q=>rw[List.map_cons,List.map_cons,join_cons]at h;exact ar _ h
theorem abB {a b:aye} (br:∀x∈a,gl x) (aa:∀x∈b,gl x) (h:iK a=iK b):a=b:=by
 unfold iK at h;by_cases ad:a=[]
 .by_cases af:b=[]
  .rw[ad,af]
  .rw[if_pos ad,if_neg af]at h;exact(abA aa af h.symm).elim
 .by_cases af:b=[]
  .rw[if_neg ad,if_pos af]at h;exact(abA br ad h).elim
  .rw[if_neg ad,if_neg af]at h;exact val_inj br aa (abz (S5 br) (S5 aa) (by simpa using ad) (by simpa using af) h)
theorem ym {n:Nat} (h:n<100):(58:UInt8)∉jg n:=by
 intro hm;have:=(wP n h _ hm).2;revert this;decide
theorem key_inj {x y:bk} (ao:fG x) (hy:fG y) (h:r1 x=r1 y):x=y:=by
 obtain⟨i,aj,iy⟩:=ao.wN;obtain⟨j,bF,oy⟩:=ao.wO;obtain⟨i2,mO,abC⟩:=hy.wN;obtain⟨ax5,qm,abD⟩:=hy.wO;unfold r1 at h;rw[iy,oy,abC,abD]at h;simp only[Int.toNat_natCast,List.append_assoc,List.singleton_append]at h;obtain⟨aP,h⟩:=u4 ao.yl.2 hy.yl.2 h;obtain⟨aY,h⟩:=u4 (ym aj) (ym mO) h;obtain⟨aU,h⟩:=u4 (ym bF) (ym qm) h;have b4:=abB ao.kg.2 hy.kg.2 h;have aY:=Au aj mO aY;have aU:=Au bF qm aU;refine S0.1 ?_;simp only[r0,aP,b4,iy,abC,aY,oy,abD,aU,beq_self_eq_true,Bool.and_self]
theorem S6:∀(l o:ayB) (m:aya),(∀x∈l,fG x)->(∀x∈o,fG x)->(∀s,fG s->j1 (r1 s) m=o.any λx=>r0 x s)->(l.foldl mi (o,m)).1=l.foldl lE o
 |[],o,m,_,_,_=>rfl
 |s::r,o,m,hl,bI,hm=>by
  have ab:=hl s (by simp);have aQ:∀x∈r,fG x:=λx ao=>hl x (List.mem_cons_of_mem _ ao);rw[List.foldl_cons,List.foldl_cons];by_cases h:(o.any λx=>r0 x s)=true
  .rw[show mi (o,m) s=(o,m) by unfold mi;rw[if_pos ((hm s ab).trans h)],show lE o s=o by unfold lE;rw[if_pos h]];exact S6 r o m aQ bI hm
  .rw[show mi (o,m) s=(o++[s],kh (r1 s) true m) by unfold mi;rw[if_neg (by simp only[hm s ab];exact h)],show lE o s=o++[s] by unfold lE;rw[if_neg h]];refine S6 r _ _ aQ (λx ao=>?_) λt ba=>?_
   .rcases List.mem_append.1 ao with ao|ao
    .exact bI x ao
    .rw[List.mem_singleton]at ao;rwa [ao]
   .rw[S4,List.any_append,List.any_cons,List.any_nil,Bool.or_false];by_cases au:r1 s=r1 t
    .have:=key_inj ab ba au;rw[if_pos au,S0.2 this,Bool.or_true]
    .rw[if_neg au,hm t ba];have:r0 s t=false:=by
      cases Dr:r0 s t
      .rfl
      .exact(au (by rw[S0.1 Dr])).elim
     rw[this,Bool.or_false]
theorem LB {d:bb} {j:Nat} (bF:j<d.Body.length):fy d j=d.Body[j]:=by
 unfold fy;rw[List.getD_eq_getElem?_getD,List.getElem?_eq_getElem bF];rfl
theorem S7 {d:bb} {j:Nat} (bF:j<d.Body.length):bh d.Body (j:Int)=some (fy d j):=by
 rw[dV _ j bF,LB bF]
theorem abE {α:Type} {xs:List α} {n:Int} {x:α} (h:bh xs n=some x):0<=n/\∃hl:n.toNat<xs.length,xs[n.toNat]=x:=by
 have ad:=b2 h;have a_:0<=n:=by
  unfold bh at h;split at h
  .omega
  .cases h
 exact⟨a_,List.getElem?_eq_some_iff.1 ad⟩
theorem fe {j:Nat} (h:j<=1048576):i64.wrap ((j:Int)+1)=((j+1:Nat):Int):=by rw[ew _ (by omega)];omega
structure u5 (e:ayw) (d:bb) (i n j:Nat) (a:aye):Prop where
 mf:∀s∈jf d i n j a,fG s
 len:(jf d i n j a).length<=2^n*8^(6-a.length)
 spec:∀m,n<=m->∀out:ayB,out.length<=201->(∀x∈out,fG x)->rk m e (i:Int) (j:Int) a out=some ((jf d i n j a).foldl mD out)
 impl:∀m,n<=m->∀p:ayB×aya,p.1.length+(jf d i n j a).length<=549755813888->rz m e p.1 p.2 (i:Int) (j:Int) a=some (e,((jf d i n j a).foldl mi p).1,((jf d i n j a).foldl mi p).2)
theorem u5.of {e:ayw} {d:bb} {i n j:Nat} {a:aye} {l:ayB} (c:jf d i n j a=l) (mf:∀s∈l,fG s)
  (len:l.length<=2^n*8^(6-a.length))
  (spec:∀m,n<=m->∀out:ayB,out.length<=201->(∀x∈out,fG x)->rk m e (i:Int) (j:Int) a out=some (l.foldl mD out))
  (impl:∀m,n<=m->∀p:ayB×aya,p.1.length+l.length<=549755813888->rz m e p.1 p.2 (i:Int) (j:Int) a=some (e,(l.foldl mi p).1,(l.foldl mi p).2)):u5 e d i n j a:=by
 subst c;exact⟨mf,len,spec,impl⟩
theorem auR (s:bk) (out:ayB) (h:¬200<out.length):[s].foldl mD out=lE out s:=by
 rw[List.foldl_cons,List.foldl_nil,mD,if_neg h]
theorem abF {f:Nat->ayB} {B:Nat}:∀(k s:Nat),(∀v,s<=v->v<s+k->(f v).length<=B)->((List.range' s k).flatMap f).length<=k*B
 |0,s,_=>by simp
 |k+1,s,h=>by
  rw[List.range'_succ,List.flatMap_cons,List.length_append];have ad:=h s (by omega) (by omega);have af:=abF k (s+1) λv ad af=>h v (by omega) (by omega);rw[Nat.add_mul];omega
theorem abG {rec:ayw->Int->Int->aye->ayB->Option ayB} {a:aye} {out:ayB} {p:b1} {v w:Int} {x:aye} (ax:An p) (ba:∀q∈p.cd,pD q a.length 15=true)
  (aV:hE p.Name=true) (hl:p.cd.length<=2) (br:∀y∈a,gl y) (bI:out.length<=1048576) (hg:∀y∈out,fG y):
  FK rec a out p v w x=some (lE out ⟨iL p.Name (nV p.cd a),⟨v,w,x⟩⟩):=by
 have yk:p.Name.length<=10:=by simp only[hE,Bool.and_eq_true,decide_eq_true_eq]at aV;exact aV.1
 unfold FK;rw[(Ly _ ax.2.1 a ba).1];simp only[bind_some];rw[abq _ _ yk (by unfold nV;rw[List.length_map];omega) (HD br ba)];simp only[bind_some,auO _ _ bI hg]
theorem abH {e:ayw} {i j:Nat} {a:aye} {p:b1} {N:Nat} {f:Nat->ayB} {rec:ayw->Int->Int->aye->ayB->Option ayB} (Ah:p.Number=(N:Int)-1) (Av:N<=8) (bF:j<=1048576) (xG:a.length<=100)
  (bD:∀v,v<N->(∀s∈f v,fG s)/\∀out:ayB,out.length<=201->(∀x∈out,fG x)->rec e (i:Int) ((j+1:Nat):Int) (a++[(v:Int)]) out=some ((f v).foldl mD out)):
  ∀(k s:Nat) (out:ayB) (m:Nat),s+k=N->k<m->out.length<=201->(∀x∈out,fG x)->BO rec e (i:Int) (j:Int) a p m out (s:Int)=some (((List.range' s k).flatMap f).foldl mD out)
 |0,s,out,m,ab,hm,bI,hg=>by
  obtain⟨m,rfl⟩:∃q,m=q+1:=⟨m-1,by omega⟩
  simp only[BO,O4,zh];rw[show decide ((s:Int)<=p.Number)=false from decide_eq_false (by omega)];rfl
 |k+1,s,out,m,ab,hm,bI,hg=>by
  obtain⟨m,rfl⟩:∃q,m=q+1:=⟨m-1,by omega⟩
  obtain⟨ad,af⟩:=bD s (by omega);simp only[BO,O4];rw[show decide ((s:Int)<=p.Number)=true from decide_eq_true (by omega),cond_true,SX a (by omega)];simp only[bind_some];rw[lR (by omega) (by omega),fe bF,fe (by omega)];simp only[bind_some,af out bI hg];obtain⟨g1,g2⟩:=S2 (f s) out bI hg ad;rw[abH Ah Av bF xG bD k (s+1) _ m (by omega) (by omega) g1 g2,List.range'_succ,List.flatMap_cons,List.foldl_append]
theorem abI {e:ayw} {i j:Nat} {a:aye} {q:b1} {N:Nat} {f:Nat->ayB} {rec:ayw->ayB->aya->Int->Int->aye->Option (ayw×ayB×aya)} (Ah:q.Number=(N:Int)-1) (Av:N<=8) (bF:j<=1048576) (xG:a.length<=100)
  (bD:∀v,v<N->∀p:ayB×aya,p.1.length+(f v).length<=549755813888->rec e p.1 p.2 (i:Int) ((j+1:Nat):Int) (a++[(v:Int)])=some (e,((f v).foldl mi p).1,((f v).foldl mi p).2)):
  ∀(k s:Nat) (p:ayB×aya) (m:Nat),s+k=N->k<m->p.1.length+((List.range' s k).flatMap f).length<=549755813888->
   Ct rec (i:Int) (j:Int) a q m e p.1 p.2 (s:Int)=some (e,(((List.range' s k).flatMap f).foldl mi p).1,(((List.range' s k).flatMap f).foldl mi p).2)
 |0,s,p,m,ab,hm,bI=>by
  obtain⟨m,rfl⟩:∃q,m=q+1:=⟨m-1,by omega⟩
  simp only[Ct,P3];rw[ew (q.Number+1) (by omega),show decide ((s:Int)<q.Number+1)=false from decide_eq_false (by omega)];rfl
 |k+1,s,p,m,ab,hm,bI=>by
  obtain⟨m,rfl⟩:∃q,m=q+1:=⟨m-1,by omega⟩
  rw[List.range'_succ,List.flatMap_cons,List.length_append]at bI;simp only[Ct,P3];rw[ew (q.Number+1) (by omega),show decide ((s:Int)<q.Number+1)=true from decide_eq_true (by omega),cond_true,LA a (by omega)];simp only[bind_some];rw[lR (by omega) (by omega),fe bF,fe (by omega)];simp only[bind_some,bD s (by omega) p (by omega)];have au:=S3 (f s) p;rw[abI Ah Av bF xG bD k (s+1) _ m (by omega) (by omega) (by omega),List.range'_succ,List.flatMap_cons,List.foldl_append]
theorem S8 (n B:Nat):2^(n+1)*B=2^n*B+2^n*B:=by
 rw[Nat.pow_succ,Nat.mul_comm (2^n) 2,Nat.mul_assoc,Nat.two_mul]
theorem auS (n k:Nat):1<=2^n*8^k:=Nat.mul_pos (Nat.pow_pos (by omega)) (Nat.pow_pos (by omega))
theorem auT {n k:Nat} (h:k<=5):2^n*8^(6-k)=8*(2^n*8^(6-(k+1))):=by
 rw[show 6-k=(6-(k+1))+1 by omega,Nat.pow_succ,<-Nat.mul_assoc,Nat.mul_comm]
theorem auU {e:ayw} (h:pE e) (aJ:lU e=true) {i:Nat} (aj:i<e.length):∀(n j:Nat) (a:aye),j<e[i].Body.length->(jC e[i] j).scope=(a.length:Int)->(∀x∈a,gl x)->e[i].Body.length-j<=n->u5 e e[i] i n j a:=by
 obtain⟨H5,ax6,an⟩:=Dy h aJ;obtain⟨ax7,oE,_⟩:=an i aj;obtain⟨s1,s2,pg⟩:=Ap oE;intro n;induction n with
 |zero=>intro j a bF _ _ aV;omega
 |succ n ih=>
  intro j a bF mK br aV;have P:=SR h aJ aj bF;rw[mK,<-LB bF]at P;have xG:a.length<=29:=by have:=P.abm;omega
  obtain⟨HF,abJ⟩:=auI e[i] s1 bF;rw[<-LB bF]at HF abJ;have r2:=dV e i aj;have r3:=S7 bF;have DC:∀out:ayB,200<out.length->decide (200<(out.length:Int))=true:=λout bI=>decide_eq_true (by omega);have im:∀out:ayB,¬200<out.length->decide (200<(out.length:Int))=false:=λout bI=>decide_eq_false (by omega);by_cases bS:(fy e[i] j).Kind=1
  .have kl:eM (fy e[i] j)=1:=by unfold eM;rw[if_pos (.inl bS)]
   obtain⟨rf,wQ⟩:=HF (by omega);have wQ:(jC e[i] (j+1)).scope=(a.length:Int):=by rw[wQ];unfold below;rw[if_neg (by omega)];exact mK
   have yn:=SR h aJ aj rf;rw[wQ,<-LB rf]at yn;obtain⟨mv,bA,fg⟩:=P.act bS;have LC:=SZ (a:=nV (fy e[i] j).cd a) mv (by unfold nV;rw[List.length_map];omega) (HD br P.args);have yo:fG (wM e[i] i j a):=by
    refine⟨LC,?_,?_,?_,_,_,mv,by unfold nV;rw[List.length_map];exact bA,λh=>by unfold nV;rw[List.length_map];exact fg h,HD br P.args,rfl⟩
    .unfold wM;by_cases eQ:(fy e[i] (j+1)).Kind=5
     .rw[if_pos eQ];obtain⟨bs,b9,_⟩:=yn.call eQ;obtain⟨AN,abK,_⟩:=abE b9;exact⟨(fy e[i] (j+1)).Number.toNat,by omega,by simp only;omega⟩
     .rw[if_neg eQ];exact⟨i,by omega,rfl⟩
    .unfold wM;by_cases eQ:(fy e[i] (j+1)).Kind=5
     .rw[if_pos eQ];exact⟨0,by omega,rfl⟩
     .rw[if_neg eQ];exact⟨j+1,by omega,rfl⟩
    .unfold wM;by_cases eQ:(fy e[i] (j+1)).Kind=5
     .rw[if_pos eQ];obtain⟨bs,b9,fJ⟩:=yn.call eQ;refine⟨?_,HD br yn.args⟩;have ax:bs.dP<=3:=by
       obtain⟨AN,abK,auV⟩:=abE b9;have:=(an _ abK).1;rw[auV]at this;exact this.2
      unfold nV;rw[List.length_map];omega
     .rw[if_neg eQ];exact⟨by simp only;omega,br⟩
   refine u5.of (l:=[wM e[i] i j a]) (by rw[jf,if_pos bS]) (λs ab=>by rw[List.mem_singleton]at ab;rw[ab];exact yo) (auS _ _) ?_ ?_
   .intro m hm out bI hg;obtain⟨m,rfl⟩:∃q,m=q+1:=⟨m-1,by omega⟩
    simp only[rk,xM];rw[r2];simp only[bind_some];rw[r3];simp only[bind_some];by_cases ab:200<out.length
    .rw[DC out ab,DB _ _ ab];rfl
    .rw[im out ab,bS,auR _ _ ab,SX a (by omega),fe (by omega)];simp only[cond_false,beq_self_eq_true,cond_true,bind_some];rw[S7 rf];simp only[bind_some];unfold wM;by_cases eQ:(fy e[i] (j+1)).Kind=5
     .rw[if_pos eQ,eQ];simp only[beq_self_eq_true,cond_true];rw[(Ly _ yn.small.2.1 a yn.args).1];simp only[bind_some];exact abG P.small P.args mv bA br (by omega) hg
     .rw[if_neg eQ,show((fy e[i] (j+1)).Kind==5)=false by simpa using eQ,cond_false];exact abG P.small P.args mv bA br (by omega) hg
   .intro m hm p fI;obtain⟨m,rfl⟩:∃q,m=q+1:=⟨m-1,by omega⟩
    obtain⟨b,aa⟩:=auL (fy e[i] j).Name (nV (fy e[i] j).cd a) mv (by unfold nV;rw[List.length_map];omega) (λba=>by unfold nV;rw[List.length_map];exact fg ba) (HD br P.args);have vm:=auQ e p.1 p.2 (wM e[i] i j a) yo (by omega);simp only[rz,xT];rw[r2];simp only[bind_some];rw[r3];simp only[bind_some];rw[bS,(Ly _ P.small.2.1 a P.args).2];simp only[beq_self_eq_true,cond_true,bind_some,aa,LA a (show a.length<=1048576 by omega)];rw[fe (by omega),S7 rf];simp only[bind_some,Kb,List.foldl_cons,List.foldl_nil];unfold wM at vm⊢;by_cases eQ:(fy e[i] (j+1)).Kind=5
    .rw[if_pos eQ]at vm⊢;rw[eQ];simp only[beq_self_eq_true,cond_true];rw[(Ly _ yn.small.2.1 a yn.args).2];simp only[bind_some];simp only at vm;rw[vm];rfl
    .rw[if_neg eQ]at vm⊢;rw[show((fy e[i] (j+1)).Kind==5)=false by simpa using eQ,cond_false];simp only at vm;rw[vm];rfl
  by_cases ct:(fy e[i] j).Kind=2
  .have kl:eM (fy e[i] j)=2:=by unfold eM;rw[if_neg (by omega),if_pos ct]
   have DD:(below (fy e[i] j) (jC e[i] j)).scope=(a.length:Int):=by unfold below;rw[if_neg (by omega)];exact mK
   obtain⟨rf,wQ⟩:=HF (by omega);obtain⟨t,S9,M6,auW⟩:=abJ kl;have d_:SU e[i] (j+1)=j+1+t:=by unfold SU;rw[S9];rfl
   have o_:=ih (j+1) a rf (wQ.trans DD) br (by omega);have AP:=ih (j+1+t) a M6 (auW.trans DD) br (by omega);have cV:((2:Int)==1)=false:=rfl;refine u5.of (l:=jf e[i] i n (j+1) a++jf e[i] i n (j+1+t) a) (by rw[jf,if_neg bS,if_pos ct,d_]) (λs ab=>(List.mem_append.1 ab).elim (o_.mf s) (AP.mf s)) ?_ ?_ ?_
   .have ad:=o_.len;have af:=AP.len;rw[List.length_append,S8];omega
   .intro m hm out bI hg;obtain⟨m,rfl⟩:∃q,m=q+1:=⟨m-1,by omega⟩
    simp only[rk,xM];rw[r2];simp only[bind_some];rw[r3];simp only[bind_some];by_cases ab:200<out.length
    .rw[DC out ab,DB _ _ ab];rfl
    .obtain⟨g1,g2⟩:=S2 _ out bI hg o_.mf;rw[im out ab,ct,fe (by omega),o_.spec m (by omega) out bI hg,List.foldl_append];simp only[cond_false,cV,beq_self_eq_true,cond_true,bind_some];rw[aaI _ (by omega) (j+1) t S9];simp only[bind_some];rw[AP.spec m (by omega) _ g1 g2];rfl
   .intro m hm p fI;obtain⟨m,rfl⟩:∃q,m=q+1:=⟨m-1,by omega⟩
    rw[List.length_append]at fI;have au:=S3 (jf e[i] i n (j+1) a) p;simp only[rz,xT];rw[r2];simp only[bind_some];rw[r3];simp only[bind_some];rw[ct,fe (by omega),o_.impl m (by omega) p (by omega)];simp only[cond_false,cV,beq_self_eq_true,cond_true,bind_some];rw[aaH _ (by omega) (j+1) (by omega),S9];simp only[bind_some,th];rw[AP.impl m (by omega) _ (by omega),List.foldl_append];rfl
  by_cases dT:(fy e[i] j).Kind=3
  .have kl:eM (fy e[i] j)=1:=by unfold eM;rw[if_pos (.inr (.inl dT))]
   obtain⟨rf,wQ⟩:=HF (by omega);have DD:(below (fy e[i] j) (jC e[i] j)).scope=(a.length:Int):=by unfold below;rw[if_neg (by omega)];exact mK
   have o_:=ih (j+1) a rf (wQ.trans DD) br (by omega);have ax8:=P.auG dT;have cy:bh (fy e[i] j).cd 0=some ((fy e[i] j).cd.getD 0 []):=by
    have:=dV (fy e[i] j).cd 0 (by omega);rw[List.getD_eq_getElem?_getD,List.getElem?_eq_getElem (show 0<(fy e[i] j).cd.length by omega)];exact this
   have DU:=P.args ((fy e[i] j).cd.getD 0 []) (by
    rw[List.getD_eq_getElem?_getD,List.getElem?_eq_getElem (show 0<(fy e[i] j).cd.length by omega)];exact List.getElem_mem _)
   obtain⟨v1,v2,_⟩:=Lu (by omega) DU;have hA:((3:Int)==1)=false:=rfl;have fV:((3:Int)==2)=false:=rfl;by_cases b8:rZ a ((fy e[i] j).cd.getD 0 [])=0
   .have yD:(rZ a ((fy e[i] j).cd.getD 0 []) !=0)=false:=by rw[b8];rfl
    refine u5.of (l:=[]) (by rw[jf,if_neg bS,if_neg ct,if_pos dT,if_neg (λar=>ar b8)]) (λs ab=>by cases ab) (zero_le _) ?_ ?_
    .intro m hm out bI hg;obtain⟨m,rfl⟩:∃q,m=q+1:=⟨m-1,by omega⟩
     simp only[rk,xM,zh];rw[r2];simp only[bind_some];rw[r3];simp only[bind_some];rw[dT];simp only[hA,fV,beq_self_eq_true,cond_true,cond_false,cy,bind_some,v1,yD,List.foldl_nil];cases decide (200<(out.length:Int))<;>rfl
    .intro m hm p fI;obtain⟨m,rfl⟩:∃q,m=q+1:=⟨m-1,by omega⟩
     simp only[rz,xT];rw[r2];simp only[bind_some];rw[r3];simp only[bind_some];rw[dT];simp only[hA,fV,beq_self_eq_true,cond_true,cond_false,cy,bind_some,v2,yD,List.foldl_nil]
   .have yD:(rZ a ((fy e[i] j).cd.getD 0 []) !=0)=true:=by simpa using b8
    refine u5.of (l:=jf e[i] i n (j+1) a) (by rw[jf,if_neg bS,if_neg ct,if_pos dT,if_pos b8]) o_.mf ?_ ?_ ?_
    .have ad:=o_.len;rw[S8];omega
    .intro m hm out bI hg;obtain⟨m,rfl⟩:∃q,m=q+1:=⟨m-1,by omega⟩
     simp only[rk,xM];rw[r2];simp only[bind_some];rw[r3];simp only[bind_some];by_cases ab:200<out.length
     .rw[DC out ab,DB _ _ ab];rfl
     .rw[im out ab,dT,fe (by omega)];simp only[hA,fV,beq_self_eq_true,cond_true,cond_false,cy,bind_some,v1,yD];rw[o_.spec m (by omega) out bI hg];rfl
    .intro m hm p fI;obtain⟨m,rfl⟩:∃q,m=q+1:=⟨m-1,by omega⟩
     simp only[rz,xT];rw[r2];simp only[bind_some];rw[r3];simp only[bind_some];rw[dT,fe (by omega)];simp only[hA,fV,beq_self_eq_true,cond_true,cond_false,cy,bind_some,v2,yD];rw[o_.impl m (by omega) p fI];rfl
  by_cases ed:(fy e[i] j).Kind=4
  .have kl:eM (fy e[i] j)=1:=by unfold eM;rw[if_pos (.inr (.inr ed))]
   obtain⟨rf,wQ⟩:=HF (by omega);obtain⟨m1,m7,m5⟩:=P.sum ed;have DD:∀v:Nat,(jC e[i] (j+1)).scope=((a++[(v:Int)]).length:Int):=λv=>by
    rw[wQ];unfold below;rw[if_pos ed,List.length_append];simp only[List.length_cons,List.length_nil];omega
   have iJ:∀v:Nat,v<8->∀x∈a++[(v:Int)],gl x:=λv LD x ao=>by
    rcases List.mem_append.1 ao with ao|ao
    .exact br x ao
    .rw[List.mem_singleton]at ao;subst ao;exact⟨by omega,by omega⟩
   have A:∀v:Nat,v<8->u5 e e[i] i n (j+1) (a++[(v:Int)]):=λv LD=>ih (j+1) _ rf (DD v) (iJ v LD) (by omega);have Ah:(fy e[i] j).Number=(((fy e[i] j).Number.toNat+1:Nat):Int)-1:=by omega
   have Av:(fy e[i] j).Number.toNat+1<=8:=by omega
   have hA:((4:Int)==1)=false:=rfl;have fV:((4:Int)==2)=false:=rfl;have gd:((4:Int)==3)=false:=rfl;refine u5.of (l:=(List.range' 0 ((fy e[i] j).Number.toNat+1)).flatMap λ(v:Nat)=>jf e[i] i n (j+1) (a++[((v:Nat):Int)])) (by rw[jf,if_neg bS,if_neg ct,if_neg dT,if_pos ed]) ?_ ?_ ?_ ?_
   .intro s ab;obtain⟨v,EZ,Aq⟩:=List.mem_flatMap.1 ab;have:=List.mem_range'_1.1 EZ;exact(A v (by omega)).mf s Aq
   .have ad:=abF (f:=λ(v:Nat)=>jf e[i] i n (j+1) (a++[((v:Nat):Int)])) (B:=2^n*8^(6-(a.length+1))) ((fy e[i] j).Number.toNat+1) 0 (λv _ Aq=>by
     have:=(A v (by omega)).len
     rwa [List.length_append]at this)
    have af:((fy e[i] j).Number.toNat+1)*(2^n*8^(6-(a.length+1)))<=8*(2^n*8^(6-(a.length+1))):=mul_le_mul_right _ Av;have aG:=auT (n:=n) (k:=a.length) (by omega);rw[S8];omega
   .intro m hm out bI hg;obtain⟨m,rfl⟩:∃q,m=q+1:=⟨m-1,by omega⟩
    simp only[rk,xM];rw[r2];simp only[bind_some];rw[r3];simp only[bind_some];by_cases ab:200<out.length
    .rw[DC out ab,DB _ _ ab];rfl
    .rw[im out ab,ed];simp only[hA,fV,gd,beq_self_eq_true,cond_true,cond_false];refine fb 9 λq cy=>?_;exact abH Ah Av (by omega) (by omega) (λv LD=>⟨(A v (by omega)).mf,λout bI hg=>(A v (by omega)).spec m (by omega) out bI hg⟩) _ 0 out q (by omega) (by omega) bI hg
   .intro m hm p fI;obtain⟨m,rfl⟩:∃q,m=q+1:=⟨m-1,by omega⟩
    simp only[rz,xT];rw[r2];simp only[bind_some];rw[r3];simp only[bind_some];rw[ed];simp only[hA,fV,gd,beq_self_eq_true,cond_true,cond_false];refine fb 9 λq cy=>?_;exact abI Ah Av (by omega) (by omega) (λv LD p ax=>(A v (by omega)).impl m (by omega) p ax) _ 0 p q (by omega) (by omega) fI
  .refine u5.of (l:=[]) (by rw[jf,if_neg bS,if_neg ct,if_neg dT,if_neg ed]) (λs ab=>by cases ab) (zero_le _) ?_ ?_
   .have hA:((fy e[i] j).Kind==1)=false:=by simpa using bS
    have fV:((fy e[i] j).Kind==2)=false:=by simpa using ct
    have gd:((fy e[i] j).Kind==3)=false:=by simpa using dT
    have bM:((fy e[i] j).Kind==4)=false:=by simpa using ed
    intro m hm out bI hg;obtain⟨m,rfl⟩:∃q,m=q+1:=⟨m-1,by omega⟩
    simp only[rk,xM,zh];rw[r2];simp only[bind_some];rw[r3];simp only[bind_some,hA,fV,gd,bM,cond_false,List.foldl_nil];cases decide (200<(out.length:Int))<;>rfl
   .have hA:((fy e[i] j).Kind==1)=false:=by simpa using bS
    have fV:((fy e[i] j).Kind==2)=false:=by simpa using ct
    have gd:((fy e[i] j).Kind==3)=false:=by simpa using dT
    have bM:((fy e[i] j).Kind==4)=false:=by simpa using ed
    intro m hm p fI;obtain⟨m,rfl⟩:∃q,m=q+1:=⟨m-1,by omega⟩
    simp only[rz,xT];rw[r2];simp only[bind_some];rw[r3];simp only[bind_some,hA,fV,gd,bM,cond_false,List.foldl_nil]
theorem auX (e:ayw) (h:pE e) (aJ:lU e=true) (p:bd) (ax:p.bH.length<=1048576):∃b,sH e p=some b/\F9 e p=some b:=by
 unfold sH F9 l_;rw[Lp _ e.length h.1,ew ((e.length:Int)-1) (by have:=h.1;omega)];simp only[bind_some];cases au:(decide (0<=p.cp)&&decide (p.cp<=(e.length:Int)-1))
 .exact⟨false,rfl,rfl⟩
 .simp only[Bool.and_eq_true,decide_eq_true_eq]at au;obtain⟨i,DE⟩:∃i:Nat,p.cp=i:=⟨p.cp.toNat,by omega⟩
  rw[DE]at au⊢;have aj:i<e.length:=by omega
  have aa:=(h.2 _ (List.getElem_mem aj)).2.1;rw[dV e i aj];simp only[Bool.not_true,cond_false,bind_some];rw[Lp _ e[i].Body.length aa,ew ((e[i].Body.length:Int)-1) (by omega)];simp only[bind_some];cases cy:(decide (0<=p.Part)&&decide (p.Part<=(e[i].Body.length:Int)-1))
  .exact⟨false,rfl,rfl⟩
  .simp only[Bool.and_eq_true,decide_eq_true_eq]at cy;obtain⟨j,tY⟩:∃j:Nat,p.Part=j:=⟨p.Part.toNat,by omega⟩
   rw[tY]at cy⊢;have bF:j<e[i].Body.length:=by omega
   obtain⟨gU,ps,gy,iE⟩:=aba h aJ aj bF;rw[dV e[i].Body j bF];simp only[Bool.not_true,cond_false,bind_some,gU,gy,iE,SV _ ax,SW _ ax];have d_:(e[i].Body[j].Kind !=5)= !(e[i].Body[j].Kind==5):=rfl;rw[d_];cases e[i].Body[j].Kind==5
   .simp only[Bool.not_false,cond_true,cond_false];cases((p.bH.length:Int)==(jC e[i] j).scope)
    .exact⟨_,rfl,rfl⟩
    .exact⟨_,rfl,rfl⟩
   .exact⟨_,rfl,rfl⟩
theorem abL {e:ayw} (h:pE e) (aJ:lU e=true) {p:bd} (ax:p.bH.length<=1048576) (ab:sH e p=some true):
  ∃(i:Nat) (aj:i<e.length) (j:Nat),p.cp=(i:Int)/\p.Part=(j:Int)/\j<e[i].Body.length/\(jC e[i] j).scope=(p.bH.length:Int)/\∀x∈p.bH,gl x:=by
 unfold sH l_ at ab;rw[ew ((e.length:Int)-1) (by have:=h.1;omega)]at ab;simp only[bind_some]at ab;cases au:(decide (0<=p.cp)&&decide (p.cp<=(e.length:Int)-1))
 .rw[au]at ab;cases ab
 rw[au]at ab;simp only[Bool.and_eq_true,decide_eq_true_eq]at au;obtain⟨i,DE⟩:∃i:Nat,p.cp=i:=⟨p.cp.toNat,by omega⟩
 have aj:i<e.length:=by omega
 have aa:=(h.2 _ (List.getElem_mem aj)).2.1;rw[DE,dV e i aj]at ab;simp only[Bool.not_true,cond_false,bind_some]at ab;rw[ew ((e[i].Body.length:Int)-1) (by omega)]at ab;cases cy:(decide (0<=p.Part)&&decide (p.Part<=(e[i].Body.length:Int)-1))
 .rw[cy]at ab;cases ab
 rw[cy]at ab;simp only[Bool.and_eq_true,decide_eq_true_eq]at cy;obtain⟨j,tY⟩:∃j:Nat,p.Part=j:=⟨p.Part.toNat,by omega⟩
 have bF:j<e[i].Body.length:=by omega
 obtain⟨gU,_⟩:=aba h aJ aj bF;rw[tY,dV e[i].Body j bF]at ab;simp only[Bool.not_true,cond_false,bind_some,gU,SV _ ax]at ab;cases abM:e[i].Body[j].Kind==5
 .rw[abM]at ab;simp only[cond_false]at ab;cases hl:((p.bH.length:Int)==(jC e[i] j).scope)
  .rw[hl]at ab;cases ab
  .rw[hl]at ab;simp only[beq_iff_eq]at hl;have abN:yj p.bH=true:=some.inj ab;refine⟨i,aj,j,DE,tY,bF,hl.symm,λx ao=>?_⟩;simp only[yj,oX]at abN;obtain⟨k,au,rfl⟩:=List.mem_iff_getElem.1 ao;have:=abN k au;simp only[rU,Bool.and_eq_true,decide_eq_true_eq,List.getD_eq_getElem?_getD,List.getElem?_eq_getElem au,getD_some]at this;exact this
 .rw[abM]at ab;cases ab
theorem abO:∀(l o:ayB),(∀x∈l,fG x)->(∀x∈o,fG x)->∀x∈l.foldl lE o,fG x
 |[],o,_,bI=>bI
 |s::r,o,hl,bI=>abO r _ (λx ao=>hl x (List.mem_cons_of_mem _ ao)) (abw bI (hl s (by simp)))
theorem S_ {α:Type} {f:α->Nat} {B:Nat}:∀l:List α,(∀x∈l,f x<=B)->hD f l<=B*l.length
 |[],_=>zero_le _
 |x::r,h=>by
  have ad:=h x (by simp);have af:=S_ r λy hy=>h y (List.mem_cons_of_mem _ hy);simp only[hD,List.length_cons,Nat.mul_add];omega
theorem auY {e:ayw} (h:pE e) (aJ:lU e=true) {p:bd} (ax:p.bH.length<=1048576) (ab:sH e p=some true):
  ∃(lF S:ayB) (b:Bool),uC e p=some (lF,b)/\uh e p=some (S,b)/\(b=true->S=lF/\lF.length<=200/\∀x∈lF,fG x):=by
 obtain⟨i,aj,j,DE,tY,bF,mK,iJ⟩:=abL h aJ ax ab;have auZ:e[i].Body.length<=20:=(Ap ((Dy h aJ).2.2 i aj).2.1).2.2;have A:=auU h aJ aj 20 j p.bH bF mK iJ (by omega);have hlen:(jf e[i] i 20 j p.bH).length<=549755813888:=by
  have ad:=A.len;have af:2^20*8^(6-p.bH.length)<=2^20*8^6:=mul_le_mul_left _ (Nat.pow_le_pow_right (by omega) (by omega));have aG:2^20*8^6=274877906944:=by decide
  omega
 have cj:Jy e (i:Int) (j:Int) p.bH []=some ((jf e[i] i 20 j p.bH).foldl mD []):=by
  unfold Jy;exact fb 20 λm hm=>A.spec m hm [] (by simp) (λx ao=>by cases ao)
 have DF:Kc e [] [] (i:Int) (j:Int) p.bH=some (e,((jf e[i] i 20 j p.bH).foldl mi ([],[])).1,((jf e[i] i 20 j p.bH).foldl mi ([],[])).2):=by
  unfold Kc;exact fb 20 λm hm=>A.impl m hm ([],[]) (by simpa using hlen)
 have EA:=S6 (jf e[i] i 20 j p.bH) [] [] A.mf (λx ao=>by cases ao) (λs _=>rfl);obtain⟨cr,c2⟩:=aby (jf e[i] i 20 j p.bH) [];have yo:=abO (jf e[i] i 20 j p.bH) [] A.mf (λx ao=>by cases ao);unfold uh uC;rw[DE,tY,cj,DF,EA];simp only[bind_some];generalize (jf e[i] i 20 j p.bH).foldl lE []=lF at cr c2 yo⊢;by_cases hl:lF.length<=200
 .rw[cr hl];exact⟨lF,lF,_,rfl,rfl,λ_=>⟨rfl,hl,yo⟩⟩
 .have:=c2 (by omega);generalize (jf e[i] i 20 j p.bH).foldl mD []=j4 at this⊢;refine⟨lF,j4,false,?_,?_,λh=>by cases h⟩
  .rw[show decide ((lF.length:Int)<=200)=false from decide_eq_false (by omega)]
  .rw[show decide ((j4.length:Int)<=200)=false from decide_eq_false (by omega)]
theorem Ta {n:ayc} (h:hE n=true):(40:UInt8)∉n:=λhm=>by
 have:=SY h _ hm;revert this;decide
theorem LF (c:UInt8):∀l:ayb,l≠[]->(∀x∈l,c∉x)->lS c (jE l [c])=l
 |[],h,_=>absurd rfl h
 |[x],_,h=>by rw[join_one,Sq c x (h x (by simp))]
 |x::y::r,_,h=>by
  rw[join_cons,List.singleton_append,Sr c x _ (h x (by simp)),LF c (y::r) (by simp) λz b8=>h z (List.mem_cons_of_mem _ b8)]
theorem Tb {x:Int} (h:gl x):j9 (kf x)=(x,true):=by
 obtain⟨n,rfl⟩:∃n:Nat,x=n:=⟨x.toNat,by have:=h.1;omega⟩
 have aV:n<64:=by have:=h.2;omega
 have key:∀k:Fin 64,j9 (jg k.val)=((k.val:Int),true):=by decide
 have:=key ⟨n,aV⟩;simpa [kf]using this
theorem abP {a:aye} (h:∀x∈a,gl x):tg (a.map kf)=a/\Aj (a.map kf)=true/\wE (a.map kf)=true:=by
 refine⟨?_,?_,?_⟩
 .unfold tg;rw[List.map_map];conv=>rhs;rw[<-List.map_id a]
  exact List.map_congr_left λx ao=>by simp only[Function.comp,Tb (h x ao),id]
 .unfold Aj;rw[List.all_map,List.all_eq_true];intro x ao;simp only[Function.comp,Tb (h x ao)]
 .unfold wE;rw[List.all_map,List.all_eq_true];intro x ao;have:=h x ao;simp only[Function.comp,Tb (h x ao),Ak,Bool.true_and,Bool.and_eq_true,decide_eq_true_eq];exact this
theorem LG {n:ayc} {a:aye} (h:a.length≠0):iL n a=n++40::(iK a++[41]):=by
 unfold iL;rw[if_neg h];simp
theorem au0 {a:aye} (h:a.length≠0):iK a=jE (a.map kf) [44]:=by
 unfold iK;rw[if_neg (λe=>h (by rw[e];rfl))]
theorem abQ {a:aye} (h:a.length≠0) (aJ:∀x∈a,gl x):lS 44 (iK a)=a.map kf:=by
 rw[au0 h];exact LF 44 _ (λe=>h (by simpa using congrArg List.length e)) (S5 aJ)
theorem au1 {n:ayc} {a:aye} (aV:hE n=true) (hl:a.length<=2) (ba:(n==([116,97,117]:ayc))=true->a.length=0) (aJ:∀x∈a,gl x):
  zC (iL n a)=some (n,a,true):=by
 have yk:n.length<=10:=by simp only[hE,Bool.and_eq_true,decide_eq_true_eq]at aV;exact aV.1
 have yp:=Ta aV;unfold zC;by_cases h:a.length=0
 .have br:a=[]:=List.length_eq_zero_iff.1 h;subst br;have e:iL n []=n:=rfl;rw[e,asj yp];simp only[bind_some,cond_false,Gf];rw[HE n [] aV (by simp) (λ_=>rfl) (λx ao=>by cases ao),e];simp
 .have ad:=wK a;have ar:=abQ h aJ;rw[LG h,asl n (iK a++[41]) yp (by simp;omega)];simp only[bind_some,cond_true];rw[asm _ (by omega),bind_some,asr 44 _ (by omega),bind_some,ar,asC _ (by simp;omega)];obtain⟨aP,aY,_⟩:=abP aJ;rw[aP,aY];simp only[if_true,bind_some,Bool.not_true,cond_false,Gf];rw[HE n a aV hl ba aJ,LG h];simp
theorem abR {n:ayc} {a:aye} (aV:hE n=true) (hl:a.length<=2):sI (iL n a)=some n:=by
 have yk:n.length<=10:=by simp only[hE,Bool.and_eq_true,decide_eq_true_eq]at aV;exact aV.1
 have yp:=Ta aV;unfold sI;by_cases h:a.length=0
 .have br:a=[]:=List.length_eq_zero_iff.1 h;subst br;have e:iL n []=n:=rfl;rw[e,(HB n (by omega)).1 yp,bind_some,wt _ _ (Nat.le_refl _),List.take_length];rfl
 .have ad:=wK a;rw[LG h,(HB _ (by simp;omega)).2 n _ rfl yp,bind_some,wt _ _ (by simp),List.take_left];rfl
theorem abS {n:ayc} {a:aye} (aV:hE n=true) (hl:a.length<=2) (ba:(n==([116,97,117]:ayc))=true->a.length=0) (aJ:∀x∈a,gl x):
  zp (iL n a)=some (a,true):=by
 have yk:n.length<=10:=by simp only[hE,Bool.and_eq_true,decide_eq_true_eq]at aV;exact aV.1
 have yp:=Ta aV;unfold zp;by_cases h:a.length=0
 .have br:a=[]:=List.length_eq_zero_iff.1 h;subst br;have e:iL n []=n:=rfl;rw[e,(HB n (by omega)).1 yp,bind_some,beq_self_eq_true,cond_true,Dm,aV];rfl
 .have ad:=wK a;have nG:(n==([116,97,117]:ayc))=false:=by
   cases au:n==([116,97,117]:ayc)
   .rfl
   .exact absurd (ba au) h
  have nk:(n++40::(iK a++[41])).length=n.length+(iK a).length+2:=by simp;omega
  have gb:((n.length:Int)==(((n++40::(iK a++[41])).length:Nat):Int))=false:=by rw[nk,beq_eq_false_iff_ne];omega
  rw[LG h,(HB _ (by omega)).2 n _ rfl yp,bind_some,gb,cond_false];rw[wt _ _ (by omega),List.take_left,bind_some];have rX:ue n=some true:=by unfold ue;rw[Dm,aV];simp only[bind_some,nG];rfl
  rw[rX];simp only[bind_some,Bool.not_true,cond_false];have aP:i64.wrap (((n++40::(iK a++[41])).length:Int)-1)=((n.length+(iK a).length+1:Nat):Int):=by rw[nk,ew _ (by omega)];omega
  have aY:i64.wrap ((n.length:Int)+1)=((n.length+1:Nat):Int):=by rw[ew _ (by omega)];omega
  have aU:n++40::(iK a++[41])=(n++[40])++(iK a++[41]):=by simp
  rw[aP,aY,dV _ (n.length+(iK a).length+1) (by omega),bind_some];have b4:(n++40::(iK a++[41]))[n.length+(iK a).length+1]'(by omega)=41:=by
   rw[List.getElem_append_right (by omega)];simp[show n.length+(iK a).length+1-n.length=(iK a).length+1 by omega]
  rw[b4,show(((41:UInt8).toNat:Int) !=41)=false from rfl,cond_false,aU,Lj _ _ _ (by simp) (by simp;omega),bind_some,ass 44 _ (by omega),bind_some,abQ h aJ];have hw:∀w∈a.map kf,w.length<=1048576:=by
   intro w hw;obtain⟨x,_,rfl⟩:=List.mem_map.1 hw;have:=Hz x;omega
  rw[asD _ (by simp;omega) hw];obtain⟨f1,_,f3⟩:=abP aJ;rw[f1,f3,List.length_map,decide_eq_true hl];rfl
end Go.kX
