/- Part of a proof that a law returns true for every input. No condition. -/
import Derived.Test.YtmaepbgkcmjcjahGreatDoorUV4x
import Derived.Test.YtmaepbgkcmjcjahGreatDoorUV3x
import Derived.Test.YtmaepbgkcmjcjahGreatDoorUV1x
import Derived.Test.YtmaepbgkcmjcjahGreatDoorUV0x
namespace Go.k6
open Option Go.IntKind Nat Or
open Go Go.ei
def sE (x y:bm):Bool:=(x.Label==y.Label)&&((x.Next.cA==y.Next.cA)&&((x.Next.Part==y.Next.Part)&&(x.Next.bK==y.Next.bK)))
def kY (o:azB) (s:bm):azB:=if(o.any λx=>sE x s)=true then o else o++[s]
def mO (o:azB) (s:bm):azB:=if 200<o.length then o else kY o s
theorem TO {x y:bm}:sE x y=true↔x=y:=by
 cases x with
 |mk ayV avs=>
  cases avs;cases y with
  |mk ayW avt=>
   cases avt;simp[sE]
theorem TP (a b:aze) (h:a.length<=1048576):Gy a b=some (a==b):=by
 unfold Gy;by_cases hl:a.length=b.length
 .have e:((a.length:Int) !=(b.length:Int))=false:=by simp[hl]
  rw[e,cond_false];have:=qx (n:=a.length) (l:=Cv a b) (λi=>some (a.drop i==b.drop i)) (λm=>?_) (λi ai m ih=>?_)
  .simpa using this
  .simp only[Cv,PI];rw[eh (Nat.le_refl _),List.drop_of_length_le (Nat.le_refl _),List.drop_of_length_le (by omega)];rfl
  .simp only[Cv,PI];rw[ev ai,dX _ i ai,dX _ i (by omega),et i _ ai (by omega),drop_cons a i ai,drop_cons b i (by omega),List.cons_beq_cons];simp only[cond_true,bind_some,ih,bne];cases a[i]==b[i]
   .rfl
   .simp
 .have e:((a.length:Int) !=(b.length:Int))=true:=by simp;omega
  have aW:(a==b)=false:=by
   rw[beq_eq_false_iff_ne];intro h;exact hl (by rw[h])
  rw[e,cond_true,aW]
theorem avu (o:azB) (s:bm) (h:o.length<=1048576) (hg:∀x∈o,fS x):Kd o s=some (kY o s):=by
 have ec:kY o s=cond (o.any λx=>sE x s) o (o++[s]):=by
  unfold kY;cases o.any λx=>sE x s<;>rfl
 unfold Kd;rw[ec,qx (n:=o.length) (l:=Cx o s) (λi=>some (cond ((o.drop i).any λx=>sE x s) o (o++[s]))) (λm=>?_) (λi ai m ih=>?_),List.drop_zero]
 .simp only[Cx,PJ];rw[eh (Nat.le_refl _),lJ (by omega) (by omega),List.drop_of_length_le (Nat.le_refl _)];rfl
 .simp only[Cx,PJ];rw[ev ai,dX _ i ai,et i _ ai (by omega),drop_cons o i ai];simp only[cond_true,bind_some,ih,List.any_cons];have aF:=(hg _ (List.getElem_mem ai)).kv.1;unfold Cw;rw[TP _ _ (by omega)];have e:sE o[i] s=((o[i].Label==s.Label)&&((o[i].Next.cA==s.Next.cA)&&((o[i].Next.Part==s.Next.Part)&&(o[i].Next.bK==s.Next.bK)))):=rfl;rw[e];cases o[i].Label==s.Label
  .rfl
  .cases o[i].Next.cA==s.Next.cA
   .rfl
   .cases o[i].Next.Part==s.Next.Part
    .rfl
    .cases o[i].Next.bK==s.Next.bK
     .rfl
     .rfl
theorem ab_ (o:azB) (s:bm):o.length<=(kY o s).length/\(kY o s).length<=o.length+1:=by
 unfold kY;split
 .omega
 .simp
theorem avv {o:azB} {s:bm} (hg:∀x∈o,fS x) (aa:fS s):∀x∈kY o s,fS x:=by
 intro x aq;unfold kY at aq;split at aq
 .exact hg x aq
 .rcases List.mem_append.1 aq with aq|aq
  .exact hg x aq
  .rw[List.mem_singleton]at aq;rwa [aq]
theorem avw {o:azB} {s:bm} (bO:o.length<=201) (hg:∀x∈o,fS x) (aa:fS s):(mO o s).length<=201/\∀x∈mO o s,fS x:=by
 unfold mO;split
 .exact⟨bO,hg⟩
 .have:=ab_ o s;exact⟨by omega,avv hg aa⟩
theorem TQ:∀(l o:azB),o.length<=201->(∀x∈o,fS x)->(∀x∈l,fS x)->(l.foldl mO o).length<=201/\∀x∈l.foldl mO o,fS x
 |[],o,bO,hg,_=>⟨bO,hg⟩
 |s::r,o,bO,hg,hl=>by
  obtain⟨ad,ag⟩:=avw bO hg (hl s (by simp));exact TQ r (mO o s) ad ag λx aq=>hl x (List.mem_cons_of_mem _ aq)
theorem Ek:∀(l o:azB),200<o.length->l.foldl mO o=o
 |[],o,_=>rfl
 |s::r,o,h=>by rw[List.foldl_cons,show mO o s=o by unfold mO;rw[if_pos h],Ek r o h]
theorem aca:∀(l o:azB),o.length<=(l.foldl kY o).length
 |[],o=>Nat.le_refl _
 |s::r,o=>Nat.le_trans (ab_ o s).1 (aca r _)
theorem acb:∀(l o:azB),((l.foldl kY o).length<=200->l.foldl mO o=l.foldl kY o)/\(200<(l.foldl kY o).length->200<(l.foldl mO o).length)
 |[],o=>⟨λ_=>rfl,λh=>h⟩
 |s::r,o=>by
  by_cases h:200<o.length
  .rw[Ek _ _ h];have:=aca (s::r) o;exact⟨λag=>by omega,λ_=>h⟩
  .rw[List.foldl_cons,List.foldl_cons,show mO o s=kY o s by unfold mO;rw[if_neg h]];exact acb r (kY o s)
def sF (s:bm):azc:=(s.Label++[32])++((jn s.Next.cA.toNat++[58])++((jn s.Next.Part.toNat++[58])++iS s.Next.bK))
def mz (p:azB×aza) (s:bm):azB×aza:=
 if kg (sF s) p.2=true then p else(p.1++[s],kx (sF s) true p.2)
theorem avx (e:azw) (o:azB) (m:aza) (s:bm) (aa:fS s) (bO:o.length<=1099511627776):
  KQ e o m s.Label s.Next.cA s.Next.Part s.Next.bK=some (e,(mz (o,m) s).1,(mz (o,m) s).2):=by
 obtain⟨i,ai,iI⟩:=aa.xn;obtain⟨j,bG,oR⟩:=aa.xo;have ad:=xd i;have ag:=xd j;have aD:=xl s.Next.bK;have bh:=aa.kv.1;have b1:=aa.y0.1;have aw:Ai ⟨s.Next.cA,s.Next.Part,s.Next.bK⟩=some ((jn i++[58])++((jn j++[58])++iS s.Next.bK)):=by
  unfold Ai KP;simp only[iI,oR,A9 i ai,A9 j bG,bind_some,Tz _ bh aa.kv.2];rw[my (by omega),my (by omega)];simp only[bind_some];rw[my (by simp only[List.length_append,List.length_cons,List.length_nil];omega)];simp only[bind_some];rw[my (by simp only[List.length_append,List.length_cons,List.length_nil];omega)];rfl
 unfold KQ;rw[my (by omega),aw];simp only[bind_some];rw[my (by simp only[List.length_append,List.length_cons,List.length_nil];omega)];simp only[bind_some];have tQ:sF s=(s.Label++[32])++((jn i++[58])++((jn j++[58])++iS s.Next.bK)):=by unfold sF;rw[iI,oR];rfl
 rw[<-tQ];unfold mz;cases hg:kg (sF s) m
 .simp only[Bool.not_false,cond_true,hg];rw[lJ (by omega) (by omega)];rfl
 .simp only[Bool.not_true,cond_false,hg];rfl
theorem TR:∀(l:azB) (p:azB×aza),(l.foldl mz p).1.length<=p.1.length+l.length
 |[],p=>Nat.le_refl _
 |s::r,p=>by
  have ad:=TR r (mz p s);have ag:(mz p s).1.length<=p.1.length+1:=by
   unfold mz;split
   .omega
   .simp
  rw[List.foldl_cons,List.length_cons];omega
theorem TS (k dv:azc) (b:Bool):∀m,kg k (kx dv b m)=if dv=k then b else kg k m
 |[]=>by simp[kx,kg]
 |e::m=>by
  simp only[kx];by_cases h:e.1=dv
  .rw[if_pos h];simp only[kg];by_cases ag:dv=k
   .rw[if_pos ag,if_pos ag]
   .rw[if_neg ag,if_neg ag,if_neg (by rw[h];exact ag)]
  .rw[if_neg h];simp only[kg];by_cases ag:e.1=k
   .rw[if_pos ag,if_pos ag,if_neg (by intro aD;exact h (ag.trans aD.symm))]
   .rw[if_neg ag,if_neg ag,TS k dv b m]
theorem vG {c:UInt8}:∀{x y u v:azc},c∉x->c∉y->x++c::u=y++c::v->x=y/\u=v
 |[],[],u,v,_,_,h=>⟨rfl,(List.cons.inj h).2⟩
 |[],y::c1,u,v,_,ag,h=>(ag (by rw[List.nil_append,List.cons_append]at h;rw[(List.cons.inj h).1];simp)).elim
 |x::xs,[],u,v,ad,_,h=>(ad (by rw[List.nil_append,List.cons_append]at h;rw[<-(List.cons.inj h).1];simp)).elim
 |x::xs,y::c1,u,v,ad,ag,h=>by
  rw[List.cons_append,List.cons_append]at h;obtain⟨aR,aW⟩:=List.cons.inj h;obtain⟨aU,cc⟩:=vG (λhm=>ad (List.mem_cons_of_mem _ hm)) (λhm=>ag (List.mem_cons_of_mem _ hm)) aW;exact⟨by rw[aR,aU],cc⟩
theorem Bi {m n:Nat} (hm:m<100) (aV:n<100) (h:jn m=jn n):m=n:=by
 have d:∀a b:Fin 10,UInt8.ofNat (48+a)=UInt8.ofNat (48+b)->a=b:=by decide
 have d2:∀a b:Nat,a<10->b<10->UInt8.ofNat (48+a)=UInt8.ofNat (48+b)->a=b:=λa b bo ab e=>congrArg Fin.val (d ⟨a,bo⟩ ⟨b,ab⟩ e);unfold jn at h;split at h<;>split at h
 .exact d2 _ _ (by omega) (by omega) (List.cons.inj h).1
 .cases(List.cons.inj h).2
 .cases(List.cons.inj h).2
 .have ad:=d2 _ _ (by omega) (by omega) (List.cons.inj h).1;have ag:=d2 _ _ (by omega) (by omega) (List.cons.inj (List.cons.inj h).2).1;omega
theorem acd:∀{a b:azb},(∀x∈a,(44:UInt8)∉x)->(∀x∈b,(44:UInt8)∉x)->a≠[]->b≠[]->jQ a [44]=jQ b [44]->a=b
 |[],_,_,_,h,_,_=>(h rfl).elim
 |_::_,[],_,_,_,h,_=>(h rfl).elim
 |[x],[y],_,_,_,_,h=>by rw[join_one,join_one]at h;rw[h]
 |[x],y::z::r,bo,_,_,_,h=>by
  rw[join_one,join_cons]at h;exact(bo x (by simp) (by rw[h];simp)).elim
 |x::z::r,[y],_,ab,_,_,h=>by
  rw[join_one,join_cons]at h;exact(ab y (by simp) (by rw[<-h];simp)).elim
 |x::af::r,y::gk::q,bo,ab,_,_,h=>by
  rw[join_cons,join_cons]at h;obtain⟨aR,aW⟩:=vG (bo x (by simp)) (ab y (by simp)) (by simpa using h);rw[aR,acd (a:=af::r) (b:=gk::q) (λz cf=>bo z (List.mem_cons_of_mem _ cf)) (λz cf=>ab z (List.mem_cons_of_mem _ cf)) (by simp) (by simp) aW]
theorem val_inj {a b:aze} (bo:∀x∈a,fZ x) (ab:∀x∈b,fZ x) (h:a.map ku=b.map ku):a=b:=by
 induction a generalizing b with
 |nil=>cases b with
  |nil=>rfl
  |cons y r=>cases h
 |cons x r ih=>cases b with
  |nil=>cases h
  |cons y q=>
   rw[List.map_cons,List.map_cons]at h;obtain⟨aR,aW⟩:=List.cons.inj h;have aq:=bo x (by simp);have hy:=ab y (by simp);unfold fZ at aq hy;have:=Bi (m:=x.toNat) (n:=y.toNat) (by omega) (by omega) aR;rw[ih (λz cf=>bo z (List.mem_cons_of_mem _ cf)) (λz cf=>ab z (List.mem_cons_of_mem _ cf)) aW,show x=y by omega]
theorem TT {a:aze} (bo:∀x∈a,fZ x):∀x∈a.map ku,(44:UInt8)∉x:=by
 intro x aq hm;obtain⟨y,hy,rfl⟩:=List.mem_map.1 aq;have ad:=bo y hy;unfold fZ at ad;have:=(xp y.toNat (by omega) _ hm).1;revert this;decide
theorem ace {a:aze} (bo:∀x∈a,fZ x) (aV:a≠[]):jQ (a.map ku) [44]≠[45]:=by
 cases a with
 |nil=>exact(aV rfl).elim
 |cons x r=>
  intro h;have aq:=bo x (by simp);unfold fZ at aq;have bc:ku x≠[]:=by unfold ku jn;split<;>simp
  have au:∀u,ku x++u=[45]->False:=by
   intro u hu;cases aF:ku x with
   |nil=>exact bc aF
   |cons c w=>
    rw[aF,List.cons_append]at hu;have:=(xp x.toNat (by omega) c (by unfold ku at aF;rw[aF];simp)).1;rw[(List.cons.inj hu).1]at this;revert this;decide
  cases r with
  |nil=>rw[List.map_cons,List.map_nil,join_one]at h;exact au [] (by simpa using h)
  |cons y q=>rw[List.map_cons,List.map_cons,join_cons]at h;exact au _ h
theorem acf {a b:aze} (bo:∀x∈a,fZ x) (ab:∀x∈b,fZ x) (h:iS a=iS b):a=b:=by
 unfold iS at h;by_cases ad:a=[]
 .by_cases ag:b=[]
  .rw[ad,ag]
  .rw[if_pos ad,if_neg ag]at h;exact(ace ab ag h.symm).elim
 .by_cases ag:b=[]
  .rw[if_neg ad,if_pos ag]at h;exact(ace bo ad h).elim
  .rw[if_neg ad,if_neg ag]at h;exact val_inj bo ab (acd (TT bo) (TT ab) (by simpa using ad) (by simpa using ag) h)
theorem y1 {n:Nat} (h:n<100):(58:UInt8)∉jn n:=by
 intro hm;have:=(xp n h _ hm).2;revert this;decide
theorem key_inj {x y:bm} (aq:fS x) (hy:fS y) (h:sF x=sF y):x=y:=by
 obtain⟨i,ai,iI⟩:=aq.xn;obtain⟨j,bG,oR⟩:=aq.xo;obtain⟨i2,mY,acg⟩:=hy.xn;obtain⟨ayX,qN,ach⟩:=hy.xo;unfold sF at h;rw[iI,oR,acg,ach]at h;simp only[Int.toNat_natCast,List.append_assoc,List.singleton_append]at h;obtain⟨aR,h⟩:=vG aq.y0.2 hy.y0.2 h;obtain⟨aW,h⟩:=vG (y1 ai) (y1 mY) h;obtain⟨aU,h⟩:=vG (y1 bG) (y1 qN) h;have cc:=acf aq.kv.2 hy.kv.2 h;have aW:=Bi ai mY aW;have aU:=Bi bG qN aU;refine TO.1 ?_;simp only[sE,aR,cc,iI,acg,aW,oR,ach,aU,beq_self_eq_true,Bool.and_self]
theorem TU:∀(l o:azB) (m:aza),(∀x∈l,fS x)->(∀x∈o,fS x)->(∀s,fS s->kg (sF s) m=o.any λx=>sE x s)->(l.foldl mz (o,m)).1=l.foldl kY o
 |[],o,m,_,_,_=>rfl
 |s::r,o,m,hl,bO,hm=>by
  have aa:=hl s (by simp);have aS:∀x∈r,fS x:=λx aq=>hl x (List.mem_cons_of_mem _ aq);rw[List.foldl_cons,List.foldl_cons];by_cases h:(o.any λx=>sE x s)=true
  .rw[show mz (o,m) s=(o,m) by unfold mz;rw[if_pos ((hm s aa).trans h)],show kY o s=o by unfold kY;rw[if_pos h]];exact TU r o m aS bO hm
  .rw[show mz (o,m) s=(o++[s],kx (sF s) true m) by unfold mz;rw[if_neg (by simp only[hm s aa];exact h)],show kY o s=o++[s] by unfold kY;rw[if_neg h]];refine TU r _ _ aS (λx aq=>?_) λt bb=>?_
   .rcases List.mem_append.1 aq with aq|aq
    .exact bO x aq
    .rw[List.mem_singleton]at aq;rwa [aq]
   .rw[TS,List.any_append,List.any_cons,List.any_nil,Bool.or_false];by_cases aw:sF s=sF t
    .have:=key_inj aa bb aw;rw[if_pos aw,TO.2 this,Bool.or_true]
    .rw[if_neg aw,hm t bb];have:sE s t=false:=by
      cases yU:sE s t
      .rfl
      .exact(aw (by rw[TO.1 yU])).elim
     rw[this,Bool.or_false]
theorem Bj {d:a6} {j:Nat} (bG:j<d.Body.length):eW d j=d.Body[j]:=by
 unfold eW;rw[List.getD_eq_getElem?_getD,List.getElem?_eq_getElem bG];rfl
theorem TV {d:a6} {j:Nat} (bG:j<d.Body.length):bj d.Body (j:Int)=some (eW d j):=by
 rw[dX _ j bG,Bj bG]
theorem TW {α:Type} {xs:List α} {n:Int} {x:α} (h:bj xs n=some x):0<=n/\∃hl:n.toNat<xs.length,xs[n.toNat]=x:=by
 have ad:=cb h;have bc:0<=n:=by
  unfold bj at h;split at h
  .omega
  .cases h
 exact⟨bc,List.getElem?_eq_some_iff.1 ad⟩
theorem ft {j:Nat} (h:j<=1048576):i64.wrap ((j:Int)+1)=((j+1:Nat):Int):=by rw[eE _ (by omega)];omega
structure vH (e:azw) (d:a6) (i n j:Nat) (a:aze):Prop where
 mw:∀s∈iU d i n j a,fS s
 len:(iU d i n j a).length<=2^n*8^(6-a.length)
 spec:∀m,n<=m->∀out:azB,out.length<=201->(∀x∈out,fS x)->rX m e (i:Int) (j:Int) a out=some ((iU d i n j a).foldl mO out)
 impl:∀m,n<=m->∀p:azB×aza,p.1.length+(iU d i n j a).length<=549755813888->r6 m e p.1 p.2 (i:Int) (j:Int) a=some (e,((iU d i n j a).foldl mz p).1,((iU d i n j a).foldl mz p).2)
theorem vH.of {e:azw} {d:a6} {i n j:Nat} {a:aze} {l:azB} (c:iU d i n j a=l) (mw:∀s∈l,fS s)
  (len:l.length<=2^n*8^(6-a.length))
  (spec:∀m,n<=m->∀out:azB,out.length<=201->(∀x∈out,fS x)->rX m e (i:Int) (j:Int) a out=some (l.foldl mO out))
  (impl:∀m,n<=m->∀p:azB×aza,p.1.length+l.length<=549755813888->r6 m e p.1 p.2 (i:Int) (j:Int) a=some (e,(l.foldl mz p).1,(l.foldl mz p).2)):vH e d i n j a:=by
 subst c;exact⟨mw,len,spec,impl⟩
theorem avy (s:bm) (out:azB) (h:¬200<out.length):[s].foldl mO out=kY out s:=by
 rw[List.foldl_cons,List.foldl_nil,mO,if_neg h]
theorem aci {f:Nat->azB} {B:Nat}:∀(k s:Nat),(∀v,s<=v->v<s+k->(f v).length<=B)->((List.range' s k).flatMap f).length<=k*B
 |0,s,_=>by simp
 |k+1,s,h=>by
  rw[List.range'_succ,List.flatMap_cons,List.length_append];have ad:=h s (by omega) (by omega);have ag:=aci k (s+1) λv ad ag=>h v (by omega) (by omega);rw[Nat.add_mul];omega
theorem acj {rec:azw->Int->Int->aze->azB->Option azB} {a:aze} {out:azB} {p:ca} {v w:Int} {x:aze} (ax:Bd p) (bb:∀q∈p.cl,pY q a.length 15=true)
  (aV:hN p.Name=true) (hl:p.cl.length<=2) (bo:∀y∈a,fZ y) (bO:out.length<=1048576) (hg:∀y∈out,fS y):
  Gz rec a out p v w x=some (kY out ⟨iT p.Name (nQ p.cl a),⟨v,w,x⟩⟩):=by
 have yZ:p.Name.length<=10:=by simp only[hN,Bool.and_eq_true,decide_eq_true_eq]at aV;exact aV.1
 unfold Gz;rw[(Mf _ ax.2.1 a bb).1];simp only[bind_some];rw[ab6 _ _ yZ (by unfold nQ;rw[List.length_map];omega) (Ej bo bb)];simp only[bind_some,avu _ _ bO hg]
theorem ack {e:azw} {i j:Nat} {a:aze} {p:ca} {N:Nat} {f:Nat->azB} {rec:azw->Int->Int->aze->azB->Option azB} (A8:p.Number=(N:Int)-1) (Bk:N<=8) (bG:j<=1048576) (wh:a.length<=100)
  (bH:∀v,v<N->(∀s∈f v,fS s)/\∀out:azB,out.length<=201->(∀x∈out,fS x)->rec e (i:Int) ((j+1:Nat):Int) (a++[(v:Int)]) out=some ((f v).foldl mO out)):
  ∀(k s:Nat) (out:azB) (m:Nat),s+k=N->k<m->out.length<=201->(∀x∈out,fS x)->Cz rec e (i:Int) (j:Int) a p m out (s:Int)=some (((List.range' s k).flatMap f).foldl mO out)
 |0,s,out,m,aa,hm,bO,hg=>by
  obtain⟨m,rfl⟩:∃q,m=q+1:=⟨m-1,by omega⟩
  simp only[Cz,PK,zU];rw[show decide ((s:Int)<=p.Number)=false from decide_eq_false (by omega)];rfl
 |k+1,s,out,m,aa,hm,bO,hg=>by
  obtain⟨m,rfl⟩:∃q,m=q+1:=⟨m-1,by omega⟩
  obtain⟨ad,ag⟩:=bH s (by omega);simp only[Cz,PK];rw[show decide ((s:Int)<=p.Number)=true from decide_eq_true (by omega),cond_true,TL a (by omega)];simp only[bind_some];rw[lJ (by omega) (by omega),ft bG,ft (by omega)];simp only[bind_some,ag out bO hg];obtain⟨g1,g2⟩:=TQ (f s) out bO hg ad;rw[ack A8 Bk bG wh bH k (s+1) _ m (by omega) (by omega) g1 g2,List.range'_succ,List.flatMap_cons,List.foldl_append]
theorem acm {e:azw} {i j:Nat} {a:aze} {q:ca} {N:Nat} {f:Nat->azB} {rec:azw->azB->aza->Int->Int->aze->Option (azw×azB×aza)} (A8:q.Number=(N:Int)-1) (Bk:N<=8) (bG:j<=1048576) (wh:a.length<=100)
  (bH:∀v,v<N->∀p:azB×aza,p.1.length+(f v).length<=549755813888->rec e p.1 p.2 (i:Int) ((j+1:Nat):Int) (a++[(v:Int)])=some (e,((f v).foldl mz p).1,((f v).foldl mz p).2)):
  ∀(k s:Nat) (p:azB×aza) (m:Nat),s+k=N->k<m->p.1.length+((List.range' s k).flatMap f).length<=549755813888->
   Dd rec (i:Int) (j:Int) a q m e p.1 p.2 (s:Int)=some (e,(((List.range' s k).flatMap f).foldl mz p).1,(((List.range' s k).flatMap f).foldl mz p).2)
 |0,s,p,m,aa,hm,bO=>by
  obtain⟨m,rfl⟩:∃q,m=q+1:=⟨m-1,by omega⟩
  simp only[Dd,QI];rw[eE (q.Number+1) (by omega),show decide ((s:Int)<q.Number+1)=false from decide_eq_false (by omega)];rfl
 |k+1,s,p,m,aa,hm,bO=>by
  obtain⟨m,rfl⟩:∃q,m=q+1:=⟨m-1,by omega⟩
  rw[List.range'_succ,List.flatMap_cons,List.length_append]at bO;simp only[Dd,QI];rw[eE (q.Number+1) (by omega),show decide ((s:Int)<q.Number+1)=true from decide_eq_true (by omega),cond_true,Mh a (by omega)];simp only[bind_some];rw[lJ (by omega) (by omega),ft bG,ft (by omega)];simp only[bind_some,bH s (by omega) p (by omega)];have aw:=TR (f s) p;rw[acm A8 Bk bG wh bH k (s+1) _ m (by omega) (by omega) (by omega),List.range'_succ,List.flatMap_cons,List.foldl_append]
theorem TX (n B:Nat):2^(n+1)*B=2^n*B+2^n*B:=by
 rw[Nat.pow_succ,Nat.mul_comm (2^n) 2,Nat.mul_assoc,Nat.two_mul]
theorem avz (n k:Nat):1<=2^n*8^k:=Nat.mul_pos (Nat.pow_pos (by omega)) (Nat.pow_pos (by omega))
theorem avA {n k:Nat} (h:k<=5):2^n*8^(6-k)=8*(2^n*8^(6-(k+1))):=by
 rw[show 6-k=(6-(k+1))+1 by omega,Nat.pow_succ,<-Nat.mul_assoc,Nat.mul_comm]
theorem avB {e:azw} (h:pf e) (aF:lL e=true) {i:Nat} (ai:i<e.length):∀(n j:Nat) (a:aze),j<e[i].Body.length->(h8 e[i] j).scope=(a.length:Int)->(∀x∈a,fZ x)->e[i].Body.length-j<=n->vH e e[i] i n j a:=by
 obtain⟨EU,avC,ao⟩:=Bf h aF;obtain⟨avD,nT,_⟩:=ao i ai;obtain⟨s1,s2,oZ⟩:=xh nT;intro n;induction n with
 |zero=>intro j a bG _ _ aV;omega
 |succ n ih=>
  intro j a bG kA bo aV;have P:=Ik h aF ai bG;rw[kA,<-Bj bG]at P;have wh:a.length<=29:=by have:=P.TH;omega
  obtain⟨t_,Io⟩:=ab4 e[i] s1 bG;rw[<-Bj bG]at t_ Io;have sG:=dX e i ai;have sH:=TV bG;have El:∀out:azB,200<out.length->decide (200<(out.length:Int))=true:=λout bO=>decide_eq_true (by omega);have iB:∀out:azB,¬200<out.length->decide (200<(out.length:Int))=false:=λout bO=>decide_eq_false (by omega);by_cases bX:(eW e[i] j).Kind=1
  .have jg:en (eW e[i] j)=1:=by unfold en;rw[if_pos (.inl bX)]
   obtain⟨mh,nt⟩:=t_ (by omega);have nt:(h8 e[i] (j+1)).scope=(a.length:Int):=by rw[nt];unfold below;rw[if_neg (by omega)];exact kA
   have sI:=Ik h aF ai mh;rw[nt,<-Bj mh]at sI;obtain⟨mi,bD,fe⟩:=P.act bX;have Mi:=TN (a:=nQ (eW e[i] j).cl a) mi (by unfold nQ;rw[List.length_map];omega) (Ej bo P.args);have ua:fS (vF e[i] i j a):=by
    refine⟨Mi,?_,?_,?_,_,_,mi,by unfold nQ;rw[List.length_map];exact bD,λh=>by unfold nQ;rw[List.length_map];exact fe h,Ej bo P.args,rfl⟩
    .unfold vF;by_cases eB:(eW e[i] (j+1)).Kind=5
     .rw[if_pos eB];obtain⟨bq,cd,_⟩:=sI.call eB;obtain⟨uj,Ip,_⟩:=TW cd;exact⟨(eW e[i] (j+1)).Number.toNat,by omega,by simp only;omega⟩
     .rw[if_neg eB];exact⟨i,by omega,rfl⟩
    .unfold vF;by_cases eB:(eW e[i] (j+1)).Kind=5
     .rw[if_pos eB];exact⟨0,by omega,rfl⟩
     .rw[if_neg eB];exact⟨j+1,by omega,rfl⟩
    .unfold vF;by_cases eB:(eW e[i] (j+1)).Kind=5
     .rw[if_pos eB];obtain⟨bq,cd,fC⟩:=sI.call eB;refine⟨?_,Ej bo sI.args⟩;have ax:bq.dU<=3:=by
       obtain⟨uj,Ip,TY⟩:=TW cd;have:=(ao _ Ip).1;rw[TY]at this;exact this.2
      unfold nQ;rw[List.length_map];omega
     .rw[if_neg eB];exact⟨by simp only;omega,bo⟩
   refine vH.of (l:=[vF e[i] i j a]) (by rw[iU,if_pos bX]) (λs aa=>by rw[List.mem_singleton]at aa;rw[aa];exact ua) (avz _ _) ?_ ?_
   .intro m hm out bO hg;obtain⟨m,rfl⟩:∃q,m=q+1:=⟨m-1,by omega⟩
    simp only[rX,yj];rw[sG];simp only[bind_some];rw[sH];simp only[bind_some];by_cases aa:200<out.length
    .rw[El out aa,Ek _ _ aa];rfl
    .rw[iB out aa,bX,avy _ _ aa,TL a (by omega),ft (by omega)];simp only[cond_false,beq_self_eq_true,cond_true,bind_some];rw[TV mh];simp only[bind_some];unfold vF;by_cases eB:(eW e[i] (j+1)).Kind=5
     .rw[if_pos eB,eB];simp only[beq_self_eq_true,cond_true];rw[(Mf _ sI.small.2.1 a sI.args).1];simp only[bind_some];exact acj P.small P.args mi bD bo (by omega) hg
     .rw[if_neg eB,show((eW e[i] (j+1)).Kind==5)=false by simpa using eB,cond_false];exact acj P.small P.args mi bD bo (by omega) hg
   .intro m hm p fO;obtain⟨m,rfl⟩:∃q,m=q+1:=⟨m-1,by omega⟩
    obtain⟨b,ab⟩:=avr (eW e[i] j).Name (nQ (eW e[i] j).cl a) mi (by unfold nQ;rw[List.length_map];omega) (λbb=>by unfold nQ;rw[List.length_map];exact fe bb) (Ej bo P.args);have vV:=avx e p.1 p.2 (vF e[i] i j a) ua (by omega);simp only[r6,yr];rw[sG];simp only[bind_some];rw[sH];simp only[bind_some];rw[bX,(Mf _ P.small.2.1 a P.args).2];simp only[beq_self_eq_true,cond_true,bind_some,ab,Mh a (show a.length<=1048576 by omega)];rw[ft (by omega),TV mh];simp only[bind_some,KR,List.foldl_cons,List.foldl_nil];unfold vF at vV⊢;by_cases eB:(eW e[i] (j+1)).Kind=5
    .rw[if_pos eB]at vV⊢;rw[eB];simp only[beq_self_eq_true,cond_true];rw[(Mf _ sI.small.2.1 a sI.args).2];simp only[bind_some];simp only at vV;rw[vV];rfl
    .rw[if_neg eB]at vV⊢;rw[show((eW e[i] (j+1)).Kind==5)=false by simpa using eB,cond_false];simp only at vV;rw[vV];rfl
  by_cases cu:(eW e[i] j).Kind=2
  .have jg:en (eW e[i] j)=2:=by unfold en;rw[if_neg (by omega),if_pos cu]
   have rn:(below (eW e[i] j) (h8 e[i] j)).scope=(a.length:Int):=by unfold below;rw[if_neg (by omega)];exact kA
   obtain⟨mh,nt⟩:=t_ (by omega);obtain⟨t,Iq,Fg,TZ⟩:=Io jg;have eb:Il e[i] (j+1)=j+1+t:=by unfold Il;rw[Iq];rfl
   have pv:=ih (j+1) a mh (nt.trans rn) bo (by omega);have BD:=ih (j+1+t) a Fg (TZ.trans rn) bo (by omega);have da:((2:Int)==1)=false:=rfl;refine vH.of (l:=iU e[i] i n (j+1) a++iU e[i] i n (j+1+t) a) (by rw[iU,if_neg bX,if_pos cu,eb]) (λs aa=>(List.mem_append.1 aa).elim (pv.mw s) (BD.mw s)) ?_ ?_ ?_
   .have ad:=pv.len;have ag:=BD.len;rw[List.length_append,TX];omega
   .intro m hm out bO hg;obtain⟨m,rfl⟩:∃q,m=q+1:=⟨m-1,by omega⟩
    simp only[rX,yj];rw[sG];simp only[bind_some];rw[sH];simp only[bind_some];by_cases aa:200<out.length
    .rw[El out aa,Ek _ _ aa];rfl
    .obtain⟨g1,g2⟩:=TQ _ out bO hg pv.mw;rw[iB out aa,cu,ft (by omega),pv.spec m (by omega) out bO hg,List.foldl_append];simp only[cond_false,da,beq_self_eq_true,cond_true,bind_some];rw[abt _ (by omega) (j+1) t Iq];simp only[bind_some];rw[BD.spec m (by omega) _ g1 g2];rfl
   .intro m hm p fO;obtain⟨m,rfl⟩:∃q,m=q+1:=⟨m-1,by omega⟩
    rw[List.length_append]at fO;have aw:=TR (iU e[i] i n (j+1) a) p;simp only[r6,yr];rw[sG];simp only[bind_some];rw[sH];simp only[bind_some];rw[cu,ft (by omega),pv.impl m (by omega) p (by omega)];simp only[cond_false,da,beq_self_eq_true,cond_true,bind_some];rw[abr _ (by omega) (j+1) (by omega),Iq];simp only[bind_some,tP];rw[BD.impl m (by omega) _ (by omega),List.foldl_append];rfl
  by_cases dS:(eW e[i] j).Kind=3
  .have jg:en (eW e[i] j)=1:=by unfold en;rw[if_pos (.inr (.inl dS))]
   obtain⟨mh,nt⟩:=t_ (by omega);have rn:(below (eW e[i] j) (h8 e[i] j)).scope=(a.length:Int):=by unfold below;rw[if_neg (by omega)];exact kA
   have pv:=ih (j+1) a mh (nt.trans rn) bo (by omega);have ayY:=P.avn dS;have cE:bj (eW e[i] j).cl 0=some ((eW e[i] j).cl.getD 0 []):=by
    have:=dX (eW e[i] j).cl 0 (by omega);rw[List.getD_eq_getElem?_getD,List.getElem?_eq_getElem (show 0<(eW e[i] j).cl.length by omega)];exact this
   have ED:=P.args ((eW e[i] j).cl.getD 0 []) (by
    rw[List.getD_eq_getElem?_getD,List.getElem?_eq_getElem (show 0<(eW e[i] j).cl.length by omega)];exact List.getElem_mem _)
   obtain⟨v1,v2,_⟩:=Ma (by omega) ED;have hG:((3:Int)==1)=false:=rfl;have fP:((3:Int)==2)=false:=rfl;by_cases cf:sD a ((eW e[i] j).cl.getD 0 [])=0
   .have zg:(sD a ((eW e[i] j).cl.getD 0 []) !=0)=false:=by rw[cf];rfl
    refine vH.of (l:=[]) (by rw[iU,if_neg bX,if_neg cu,if_pos dS,if_neg (λau=>au cf)]) (λs aa=>by cases aa) (zero_le _) ?_ ?_
    .intro m hm out bO hg;obtain⟨m,rfl⟩:∃q,m=q+1:=⟨m-1,by omega⟩
     simp only[rX,yj,zU];rw[sG];simp only[bind_some];rw[sH];simp only[bind_some];rw[dS];simp only[hG,fP,beq_self_eq_true,cond_true,cond_false,cE,bind_some,v1,zg,List.foldl_nil];cases decide (200<(out.length:Int))<;>rfl
    .intro m hm p fO;obtain⟨m,rfl⟩:∃q,m=q+1:=⟨m-1,by omega⟩
     simp only[r6,yr];rw[sG];simp only[bind_some];rw[sH];simp only[bind_some];rw[dS];simp only[hG,fP,beq_self_eq_true,cond_true,cond_false,cE,bind_some,v2,zg,List.foldl_nil]
   .have zg:(sD a ((eW e[i] j).cl.getD 0 []) !=0)=true:=by simpa using cf
    refine vH.of (l:=iU e[i] i n (j+1) a) (by rw[iU,if_neg bX,if_neg cu,if_pos dS,if_pos cf]) pv.mw ?_ ?_ ?_
    .have ad:=pv.len;rw[TX];omega
    .intro m hm out bO hg;obtain⟨m,rfl⟩:∃q,m=q+1:=⟨m-1,by omega⟩
     simp only[rX,yj];rw[sG];simp only[bind_some];rw[sH];simp only[bind_some];by_cases aa:200<out.length
     .rw[El out aa,Ek _ _ aa];rfl
     .rw[iB out aa,dS,ft (by omega)];simp only[hG,fP,beq_self_eq_true,cond_true,cond_false,cE,bind_some,v1,zg];rw[pv.spec m (by omega) out bO hg];rfl
    .intro m hm p fO;obtain⟨m,rfl⟩:∃q,m=q+1:=⟨m-1,by omega⟩
     simp only[r6,yr];rw[sG];simp only[bind_some];rw[sH];simp only[bind_some];rw[dS,ft (by omega)];simp only[hG,fP,beq_self_eq_true,cond_true,cond_false,cE,bind_some,v2,zg];rw[pv.impl m (by omega) p fO];rfl
  by_cases dW:(eW e[i] j).Kind=4
  .have jg:en (eW e[i] j)=1:=by unfold en;rw[if_pos (.inr (.inr dW))]
   obtain⟨mh,nt⟩:=t_ (by omega);obtain⟨m1,m7,m5⟩:=P.sum dW;have rn:∀v:Nat,(h8 e[i] (j+1)).scope=((a++[(v:Int)]).length:Int):=λv=>by
    rw[nt];unfold below;rw[if_pos dW,List.length_append];simp only[List.length_cons,List.length_nil];omega
   have iH:∀v:Nat,v<8->∀x∈a++[(v:Int)],fZ x:=λv Mj x aq=>by
    rcases List.mem_append.1 aq with aq|aq
    .exact bo x aq
    .rw[List.mem_singleton]at aq;subst aq;exact⟨by omega,by omega⟩
   have A:∀v:Nat,v<8->vH e e[i] i n (j+1) (a++[(v:Int)]):=λv Mj=>ih (j+1) _ mh (rn v) (iH v Mj) (by omega);have A8:(eW e[i] j).Number=(((eW e[i] j).Number.toNat+1:Nat):Int)-1:=by omega
   have Bk:(eW e[i] j).Number.toNat+1<=8:=by omega
   have hG:((4:Int)==1)=false:=rfl;have fP:((4:Int)==2)=false:=rfl;have gj:((4:Int)==3)=false:=rfl;refine vH.of (l:=(List.range' 0 ((eW e[i] j).Number.toNat+1)).flatMap λ(v:Nat)=>iU e[i] i n (j+1) (a++[((v:Nat):Int)])) (by rw[iU,if_neg bX,if_neg cu,if_neg dS,if_pos dW]) ?_ ?_ ?_ ?_
   .intro s aa;obtain⟨v,zK,yW⟩:=List.mem_flatMap.1 aa;have:=List.mem_range'_1.1 zK;exact(A v (by omega)).mw s yW
   .have ad:=aci (f:=λ(v:Nat)=>iU e[i] i n (j+1) (a++[((v:Nat):Int)])) (B:=2^n*8^(6-(a.length+1))) ((eW e[i] j).Number.toNat+1) 0 (λv _ yW=>by
     have:=(A v (by omega)).len
     rwa [List.length_append]at this)
    have ag:((eW e[i] j).Number.toNat+1)*(2^n*8^(6-(a.length+1)))<=8*(2^n*8^(6-(a.length+1))):=mul_le_mul_right _ Bk;have aD:=avA (n:=n) (k:=a.length) (by omega);rw[TX];omega
   .intro m hm out bO hg;obtain⟨m,rfl⟩:∃q,m=q+1:=⟨m-1,by omega⟩
    simp only[rX,yj];rw[sG];simp only[bind_some];rw[sH];simp only[bind_some];by_cases aa:200<out.length
    .rw[El out aa,Ek _ _ aa];rfl
    .rw[iB out aa,dW];simp only[hG,fP,gj,beq_self_eq_true,cond_true,cond_false];refine e5 9 λq cE=>?_;exact ack A8 Bk (by omega) (by omega) (λv Mj=>⟨(A v (by omega)).mw,λout bO hg=>(A v (by omega)).spec m (by omega) out bO hg⟩) _ 0 out q (by omega) (by omega) bO hg
   .intro m hm p fO;obtain⟨m,rfl⟩:∃q,m=q+1:=⟨m-1,by omega⟩
    simp only[r6,yr];rw[sG];simp only[bind_some];rw[sH];simp only[bind_some];rw[dW];simp only[hG,fP,gj,beq_self_eq_true,cond_true,cond_false];refine e5 9 λq cE=>?_;exact acm A8 Bk (by omega) (by omega) (λv Mj p ax=>(A v (by omega)).impl m (by omega) p ax) _ 0 p q (by omega) (by omega) fO
  .refine vH.of (l:=[]) (by rw[iU,if_neg bX,if_neg cu,if_neg dS,if_neg dW]) (λs aa=>by cases aa) (zero_le _) ?_ ?_
   .have hG:((eW e[i] j).Kind==1)=false:=by simpa using bX
    have fP:((eW e[i] j).Kind==2)=false:=by simpa using cu
    have gj:((eW e[i] j).Kind==3)=false:=by simpa using dS
    have bT:((eW e[i] j).Kind==4)=false:=by simpa using dW
    intro m hm out bO hg;obtain⟨m,rfl⟩:∃q,m=q+1:=⟨m-1,by omega⟩
    simp only[rX,yj,zU];rw[sG];simp only[bind_some];rw[sH];simp only[bind_some,hG,fP,gj,bT,cond_false,List.foldl_nil];cases decide (200<(out.length:Int))<;>rfl
   .have hG:((eW e[i] j).Kind==1)=false:=by simpa using bX
    have fP:((eW e[i] j).Kind==2)=false:=by simpa using cu
    have gj:((eW e[i] j).Kind==3)=false:=by simpa using dS
    have bT:((eW e[i] j).Kind==4)=false:=by simpa using dW
    intro m hm p fO;obtain⟨m,rfl⟩:∃q,m=q+1:=⟨m-1,by omega⟩
    simp only[r6,yr];rw[sG];simp only[bind_some];rw[sH];simp only[bind_some,hG,fP,gj,bT,cond_false,List.foldl_nil]
theorem avE (e:azw) (h:pf e) (aF:lL e=true) (p:a8) (ax:p.bK.length<=1048576):∃b,yg e p=some b/\GZ e p=some b:=by
 unfold yg GZ k8;rw[L6 _ e.length h.1,eE ((e.length:Int)-1) (by have:=h.1;omega)];simp only[bind_some];cases aw:(decide (0<=p.cA)&&decide (p.cA<=(e.length:Int)-1))
 .exact⟨false,rfl,rfl⟩
 .simp only[Bool.and_eq_true,decide_eq_true_eq]at aw;obtain⟨i,Em⟩:∃i:Nat,p.cA=i:=⟨p.cA.toNat,by omega⟩
  rw[Em]at aw⊢;have ai:i<e.length:=by omega
  have ab:=(h.2 _ (List.getElem_mem ai)).2.1;rw[dX e i ai];simp only[Bool.not_true,cond_false,bind_some];rw[L6 _ e[i].Body.length ab,eE ((e[i].Body.length:Int)-1) (by omega)];simp only[bind_some];cases cE:(decide (0<=p.Part)&&decide (p.Part<=(e[i].Body.length:Int)-1))
  .exact⟨false,rfl,rfl⟩
  .simp only[Bool.and_eq_true,decide_eq_true_eq]at cE;obtain⟨j,uM⟩:∃j:Nat,p.Part=j:=⟨p.Part.toNat,by omega⟩
   rw[uM]at cE⊢;have bG:j<e[i].Body.length:=by omega
   obtain⟨gZ,ps,gx,iM⟩:=abS h aF ai bG;rw[dX e[i].Body j bG];simp only[Bool.not_true,cond_false,bind_some,gZ,gx,iM,TJ _ ax,TK _ ax];have eb:(e[i].Body[j].Kind !=5)= !(e[i].Body[j].Kind==5):=rfl;rw[eb];cases e[i].Body[j].Kind==5
   .simp only[Bool.not_false,cond_true,cond_false];cases((p.bK.length:Int)==(h8 e[i] j).scope)
    .exact⟨_,rfl,rfl⟩
    .exact⟨_,rfl,rfl⟩
   .exact⟨_,rfl,rfl⟩
def xq (e:azw) (p:a8):Prop:=
 ∃(i:Nat) (ai:i<e.length) (j:Nat),p.cA=(i:Int)/\p.Part=(j:Int)/\j<e[i].Body.length/\(h8 e[i] j).scope=(p.bK.length:Int)/\∀x∈p.bK,fZ x
theorem avF (d:a6) (h:0<d.Body.length):(h8 d 0).scope=d.dU:=by
 unfold h8;rw[Me,List.drop_zero,TI _ _ _ (by intro au;rw[au]at h;simp at h)]
theorem avG {e:azw} (h:pf e) (aF:lL e=true) {i:Nat} (ai:i<e.length):∀(n j:Nat) (a:aze),j<e[i].Body.length->(h8 e[i] j).scope=(a.length:Int)->(∀x∈a,fZ x)->∀s∈iU e[i] i n j a,xq e s.Next:=by
 obtain⟨EU,avC,ao⟩:=Bf h aF;obtain⟨avD,nT,_⟩:=ao i ai;obtain⟨s1,s2,oZ⟩:=xh nT;intro n;induction n with
 |zero=>intro j a _ _ _ s aa;cases aa
 |succ n ih=>
  intro j a bG kA bo s aa;have P:=Ik h aF ai bG;rw[kA,<-Bj bG]at P;have wh:a.length<=29:=by have:=P.TH;omega
  obtain⟨t_,Io⟩:=ab4 e[i] s1 bG;rw[<-Bj bG]at t_ Io;rw[iU]at aa;by_cases bX:(eW e[i] j).Kind=1
  .rw[if_pos bX,List.mem_singleton]at aa;subst aa;have jg:en (eW e[i] j)=1:=by unfold en;rw[if_pos (.inl bX)]
   obtain⟨mh,nt⟩:=t_ (by omega);have nt:(h8 e[i] (j+1)).scope=(a.length:Int):=by rw[nt];unfold below;rw[if_neg (by omega)];exact kA
   have sI:=Ik h aF ai mh;rw[nt,<-Bj mh]at sI;unfold vF;by_cases eB:(eW e[i] (j+1)).Kind=5
   .simp only[if_pos eB];obtain⟨bq,cd,fC⟩:=sI.call eB;obtain⟨uj,Ip,TY⟩:=TW cd;obtain⟨_,avH,_⟩:=ao _ Ip;obtain⟨t1,t2,t3⟩:=xh avH;have iN:0<e[(eW e[i] (j+1)).Number.toNat].Body.length:=by
     have:=(tO t1).1;omega
    refine⟨_,Ip,0,(Int.toNat_of_nonneg uj).symm,rfl,iN,?_,Ej bo sI.args⟩;simp only;rw[avF _ iN,TY,<-fC];unfold nQ;rw[List.length_map]
   .simp only[if_neg eB];exact⟨i,ai,j+1,rfl,rfl,mh,nt,bo⟩
  rw[if_neg bX]at aa;by_cases cu:(eW e[i] j).Kind=2
  .have jg:en (eW e[i] j)=2:=by unfold en;rw[if_neg (by omega),if_pos cu]
   have rn:(below (eW e[i] j) (h8 e[i] j)).scope=(a.length:Int):=by unfold below;rw[if_neg (by omega)];exact kA
   obtain⟨mh,nt⟩:=t_ (by omega);obtain⟨t,Iq,Fg,TZ⟩:=Io jg;have eb:Il e[i] (j+1)=j+1+t:=by unfold Il;rw[Iq];rfl
   rw[if_pos cu,eb]at aa;rcases List.mem_append.1 aa with aa|aa
   .exact ih (j+1) a mh (nt.trans rn) bo s aa
   .exact ih (j+1+t) a Fg (TZ.trans rn) bo s aa
  rw[if_neg cu]at aa;by_cases dS:(eW e[i] j).Kind=3
  .have jg:en (eW e[i] j)=1:=by unfold en;rw[if_pos (.inr (.inl dS))]
   have rn:(below (eW e[i] j) (h8 e[i] j)).scope=(a.length:Int):=by unfold below;rw[if_neg (by omega)];exact kA
   obtain⟨mh,nt⟩:=t_ (by omega);rw[if_pos dS]at aa;split at aa
   .exact ih (j+1) a mh (nt.trans rn) bo s aa
   .cases aa
  rw[if_neg dS]at aa;by_cases dW:(eW e[i] j).Kind=4
  .rw[if_pos dW]at aa;have jg:en (eW e[i] j)=1:=by unfold en;rw[if_pos (.inr (.inr dW))]
   have rn:(below (eW e[i] j) (h8 e[i] j)).scope=(a.length:Int)+1:=by unfold below;rw[if_pos dW,<-kA]
   obtain⟨mh,nt⟩:=t_ (by omega);obtain⟨mi,bD,fe⟩:=P.sum dW;obtain⟨v,zK,aa⟩:=List.mem_flatMap.1 aa;have yW:v<=7:=by
    have:=List.mem_range'.1 zK;omega
   refine ih (j+1) (a++[((v:Nat):Int)]) mh ((nt.trans rn).trans (by rw[List.length_append];rfl)) (λx aq=>?_) s aa;rcases List.mem_append.1 aq with aq|aq
   .exact bo x aq
   .rw[List.mem_singleton]at aq;subst aq;unfold fZ;omega
  rw[if_neg dW]at aa;cases aa
theorem acn:∀(l o:azB),∀x∈l.foldl kY o,x∈o\/x∈l
 |[],o,x,aq=>.inl aq
 |s::r,o,x,aq=>by
  rcases acn r _ x aq with h|h
  .unfold kY at h;split at h
   .exact .inl h
   .rcases List.mem_append.1 h with h|h
    .exact .inl h
    .rw[List.mem_singleton]at h;exact .inr (by rw[h];simp)
  .exact .inr (List.mem_cons_of_mem _ h)
theorem T0 {α:Type} {f:α->Nat} {B:Nat}:∀l:List α,(∀x∈l,f x<=B)->hV f l<=B*l.length
 |[],_=>zero_le _
 |x::r,h=>by
  have ad:=h x (by simp);have ag:=T0 r λy hy=>h y (List.mem_cons_of_mem _ hy);simp only[hV,List.length_cons,Nat.mul_add];omega
theorem avI {e:azw} (h:pf e) (aF:lL e=true) {p:a8} (aa:xq e p):
  ∃(lM S:azB) (b:Bool),vc e p=some (lM,b)/\uX e p=some (S,b)/\(b=true->S=lM/\lM.length<=200/\∀x∈lM,fS x/\xq e x.Next):=by
 obtain⟨i,ai,j,Em,uM,bG,kA,iH⟩:=aa;have avJ:=avG h aF ai 20 j p.bK bG kA iH;have avK:e[i].Body.length<=20:=(xh ((Bf h aF).2.2 i ai).2.1).2.2;have A:=avB h aF ai 20 j p.bK bG kA iH (by omega);have hlen:(iU e[i] i 20 j p.bK).length<=549755813888:=by
  have ad:=A.len;have ag:2^20*8^(6-p.bK.length)<=2^20*8^6:=mul_le_mul_left _ (Nat.pow_le_pow_right (by omega) (by omega));have aD:2^20*8^6=274877906944:=by decide
  omega
 have cq:Ke e (i:Int) (j:Int) p.bK []=some ((iU e[i] i 20 j p.bK).foldl mO []):=by
  unfold Ke;exact e5 20 λm hm=>A.spec m hm [] (by simp) (λx aq=>by cases aq)
 have En:KS e [] [] (i:Int) (j:Int) p.bK=some (e,((iU e[i] i 20 j p.bK).foldl mz ([],[])).1,((iU e[i] i 20 j p.bK).foldl mz ([],[])).2):=by
  unfold KS;exact e5 20 λm hm=>A.impl m hm ([],[]) (by simpa using hlen)
 have Fo:=TU (iU e[i] i 20 j p.bK) [] [] A.mw (λx aq=>by cases aq) (λs _=>rfl);obtain⟨cx,c2⟩:=acb (iU e[i] i 20 j p.bK) [];have ua:∀x∈(iU e[i] i 20 j p.bK).foldl kY [],fS x/\xq e x.Next:=λx aq=>(acn _ _ x aq).elim (λh=>by cases h) λh=>⟨A.mw x h,avJ x h⟩
 unfold uX vc;rw[Em,uM,cq,En,Fo];simp only[bind_some];generalize (iU e[i] i 20 j p.bK).foldl kY []=lM at cx c2 ua⊢;by_cases hl:lM.length<=200
 .rw[cx hl];exact⟨lM,lM,_,rfl,rfl,λ_=>⟨rfl,hl,ua⟩⟩
 .have:=c2 (by omega);generalize (iU e[i] i 20 j p.bK).foldl mO []=kk at this⊢;refine⟨lM,kk,false,?_,?_,λh=>by cases h⟩
  .rw[show decide ((lM.length:Int)<=200)=false from decide_eq_false (by omega)]
  .rw[show decide ((kk.length:Int)<=200)=false from decide_eq_false (by omega)]
theorem T1 {n:azc} (h:hN n=true):(40:UInt8)∉n:=λhm=>by
 have:=TM h _ hm;revert this;decide
theorem Mk (c:UInt8):∀l:azb,l≠[]->(∀x∈l,c∉x)->l5 c (jQ l [c])=l
 |[],h,_=>absurd rfl h
 |[x],_,h=>by rw[join_one,Td c x (h x (by simp))]
 |x::y::r,_,h=>by
  rw[join_cons,List.singleton_append,Te c x _ (h x (by simp)),Mk c (y::r) (by simp) λz cf=>h z (List.mem_cons_of_mem _ cf)]
theorem T2 {x:Int} (h:fZ x):kq (ku x)=(x,true):=by
 obtain⟨n,rfl⟩:∃n:Nat,x=n:=⟨x.toNat,by have:=h.1;omega⟩
 have aV:n<64:=by have:=h.2;omega
 have key:∀k:Fin 64,kq (jn k.val)=((k.val:Int),true):=by decide
 have:=key ⟨n,aV⟩;simpa [ku]using this
theorem aco {a:aze} (h:∀x∈a,fZ x):tN (a.map ku)=a/\A_ (a.map ku)=true/\xe (a.map ku)=true:=by
 refine⟨?_,?_,?_⟩
 .unfold tN;rw[List.map_map];conv=>rhs;rw[<-List.map_id a]
  exact List.map_congr_left λx aq=>by simp only[Function.comp,T2 (h x aq),id]
 .unfold A_;rw[List.all_map,List.all_eq_true];intro x aq;simp only[Function.comp,T2 (h x aq)]
 .unfold xe;rw[List.all_map,List.all_eq_true];intro x aq;have:=h x aq;simp only[Function.comp,T2 (h x aq),Ba,Bool.true_and,Bool.and_eq_true,decide_eq_true_eq];exact this
theorem Ml {n:azc} {a:aze} (h:a.length≠0):iT n a=n++40::(iS a++[41]):=by
 unfold iT;rw[if_neg h];simp
theorem avL {a:aze} (h:a.length≠0):iS a=jQ (a.map ku) [44]:=by
 unfold iS;rw[if_neg (λe=>h (by rw[e];rfl))]
theorem acp {a:aze} (h:a.length≠0) (aF:∀x∈a,fZ x):l5 44 (iS a)=a.map ku:=by
 rw[avL h];exact Mk 44 _ (λe=>h (by simpa using congrArg List.length e)) (TT aF)
theorem avM {n:azc} {a:aze} (aV:hN n=true) (hl:a.length<=2) (bb:(n==([116,97,117]:azc))=true->a.length=0) (aF:∀x∈a,fZ x):
  Al (iT n a)=some (n,a,true):=by
 have yZ:n.length<=10:=by simp only[hN,Bool.and_eq_true,decide_eq_true_eq]at aV;exact aV.1
 have y2:=T1 aV;unfold Al;by_cases h:a.length=0
 .have bo:a=[]:=List.length_eq_zero_iff.1 h;subst bo;have e:iT n []=n:=rfl;rw[e,as5 y2];simp only[bind_some,cond_false,G7];rw[Im n [] aV (by simp) (λ_=>rfl) (λx aq=>by cases aq),e];simp
 .have ad:=xl a;have au:=acp h aF;rw[Ml h,as6 n (iS a++[41]) y2 (by simp;omega)];simp only[bind_some,cond_true];rw[as7 _ (by omega),bind_some,atb 44 _ (by omega),bind_some,au,atm _ (by simp;omega)];obtain⟨aR,aW,_⟩:=aco aF;rw[aR,aW];simp only[if_true,bind_some,Bool.not_true,cond_false,G7];rw[Im n a aV hl bb aF,Ml h];simp
theorem acq {n:azc} {a:aze} (aV:hN n=true) (hl:a.length<=2):tk (iT n a)=some n:=by
 have yZ:n.length<=10:=by simp only[hN,Bool.and_eq_true,decide_eq_true_eq]at aV;exact aV.1
 have y2:=T1 aV;unfold tk;by_cases h:a.length=0
 .have bo:a=[]:=List.length_eq_zero_iff.1 h;subst bo;have e:iT n []=n:=rfl;rw[e,(Ii n (by omega)).1 y2,bind_some,w6 _ _ (Nat.le_refl _),List.take_length];rfl
 .have ad:=xl a;rw[Ml h,(Ii _ (by simp;omega)).2 n _ rfl y2,bind_some,w6 _ _ (by simp),List.take_left];rfl
theorem acr {n:azc} {a:aze} (aV:hN n=true) (hl:a.length<=2) (bb:(n==([116,97,117]:azc))=true->a.length=0) (aF:∀x∈a,fZ x):
  z7 (iT n a)=some (a,true):=by
 have yZ:n.length<=10:=by simp only[hN,Bool.and_eq_true,decide_eq_true_eq]at aV;exact aV.1
 have y2:=T1 aV;unfold z7;by_cases h:a.length=0
 .have bo:a=[]:=List.length_eq_zero_iff.1 h;subst bo;have e:iT n []=n:=rfl;rw[e,(Ii n (by omega)).1 y2,bind_some,beq_self_eq_true,cond_true,D7,aV];rfl
 .have ad:=xl a;have nZ:(n==([116,97,117]:azc))=false:=by
   cases aw:n==([116,97,117]:azc)
   .rfl
   .exact absurd (bb aw) h
  have nC:(n++40::(iS a++[41])).length=n.length+(iS a).length+2:=by simp;omega
  have gi:((n.length:Int)==(((n++40::(iS a++[41])).length:Nat):Int))=false:=by rw[nC,beq_eq_false_iff_ne];omega
  rw[Ml h,(Ii _ (by omega)).2 n _ rfl y2,bind_some,gi,cond_false];rw[w6 _ _ (by omega),List.take_left,bind_some];have sB:uT n=some true:=by unfold uT;rw[D7,aV];simp only[bind_some,nZ];rfl
  rw[sB];simp only[bind_some,Bool.not_true,cond_false];have aR:i64.wrap (((n++40::(iS a++[41])).length:Int)-1)=((n.length+(iS a).length+1:Nat):Int):=by rw[nC,eE _ (by omega)];omega
  have aW:i64.wrap ((n.length:Int)+1)=((n.length+1:Nat):Int):=by rw[eE _ (by omega)];omega
  have aU:n++40::(iS a++[41])=(n++[40])++(iS a++[41]):=by simp
  rw[aR,aW,dX _ (n.length+(iS a).length+1) (by omega),bind_some];have cc:(n++40::(iS a++[41]))[n.length+(iS a).length+1]'(by omega)=41:=by
   rw[List.getElem_append_right (by omega)];simp[show n.length+(iS a).length+1-n.length=(iS a).length+1 by omega]
  rw[cc,show(((41:UInt8).toNat:Int) !=41)=false from rfl,cond_false,aU,L0 _ _ _ (by simp) (by simp;omega),bind_some,atc 44 _ (by omega),bind_some,acp h aF];have hw:∀w∈a.map ku,w.length<=1048576:=by
   intro w hw;obtain⟨x,_,rfl⟩:=List.mem_map.1 hw;have:=Ig x;omega
  rw[atn _ (by simp;omega) hw];obtain⟨f1,_,f3⟩:=aco aF;rw[f1,f3,List.length_map,decide_eq_true hl];rfl
end Go.k6
