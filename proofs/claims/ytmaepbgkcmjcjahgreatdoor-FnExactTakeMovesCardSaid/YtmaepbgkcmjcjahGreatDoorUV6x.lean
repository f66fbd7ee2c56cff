/- Part of a proof that a law returns true for every input. No condition. -/
import Derived.Test.YtmaepbgkcmjcjahGreatDoorUV5x
import Derived.Test.YtmaepbgkcmjcjahGreatDoorUV0x
import GoSem.Op.String
import Derived.Test.YtmaepbgkcmjcjahGreatDoorUV4x
import Derived.Test.YtmaepbgkcmjcjahGreatDoorUV3x
namespace Go.k6
open Option Go.IntKind Nat Or
open Go Go.ei
section
open Classical
noncomputable def mA {α:Type} (a b:α):Bool:=decide (a=b)
theorem qz {α:Type} {a b:α}:mA a b=true↔a=b:=by unfold mA;exact decide_eq_true_iff
noncomputable def hD {α:Type} (o:List α) (m:α):List α:=if m∈o then o else o++[m]
end
theorem avN {α:Type} {o:List α} {m:α} (h:m∈o):hD o m=o:=if_pos h
theorem avO {α:Type} {o:List α} {m:α} (h:m∉o):hD o m=o++[m]:=if_neg h
theorem T3 {α:Type} (o:List α) (m:α):o.length<=(hD o m).length/\(hD o m).length<=o.length+1:=by
 unfold hD;split
 .omega
 .simp
theorem Ir {α:Type} {o:List α} {m x:α} (h:x∈hD o m):x∈o\/x=m:=by
 unfold hD at h;split at h
 .exact .inl h
 .simpa using h
noncomputable def iZ {α:Type} (o:List α) (m:α):List α:=if 200<o.length then o else hD o m
theorem T4 {α:Type}:∀(l o:List α),o.length<=(l.foldl hD o).length/\(l.foldl hD o).length<=o.length+l.length
 |[],o=>by simp
 |s::r,o=>by
  have ad:=T3 o s;have ag:=T4 r (hD o s);rw[List.foldl_cons,List.length_cons];omega
theorem T5 {α:Type}:∀(l o:List α),200<o.length->l.foldl iZ o=o
 |[],o,_=>rfl
 |s::r,o,h=>by rw[List.foldl_cons,show iZ o s=o by unfold iZ;rw[if_pos h],T5 r o h]
theorem acs {α:Type}:∀(l o:List α),((l.foldl hD o).length<=200->l.foldl iZ o=l.foldl hD o)/\(200<(l.foldl hD o).length->200<(l.foldl iZ o).length)
 |[],o=>⟨λ_=>rfl,λh=>h⟩
 |s::r,o=>by
  by_cases h:200<o.length
  .rw[T5 _ _ h];have:=(T4 (s::r) o).1;exact⟨λag=>by omega,λ_=>h⟩
  .rw[List.foldl_cons,List.foldl_cons,show iZ o s=hD o s by unfold iZ;rw[if_neg h]];exact acs r (hD o s)
def ob {α:Type} (K:α->azc) (p:List α×aza) (s:α):List α×aza:=
 if kg (K s) p.2=true then p else(p.1++[s],kx (K s) true p.2)
theorem avP {α:Type} (K:α->azc) (p:List α×aza) (s:α):(ob K p s).1.length<=p.1.length+1:=by
 unfold ob;split
 .omega
 .simp
theorem acu {α:Type} (K:α->azc):∀(l:List α) (p:List α×aza),(l.foldl (ob K) p).1.length<=p.1.length+l.length
 |[],p=>Nat.le_refl _
 |s::r,p=>by
  have ad:=acu K r (ob K p s);have ag:=avP K p s;rw[List.foldl_cons,List.length_cons];omega
theorem T6 {α:Type} {K:α->azc} {G:α->Prop} (hK:∀x y,G x->G y->K x=K y->x=y):∀(l o:List α) (m:aza),(∀x∈l,G x)->(∀x∈o,G x)->(∀s,G s->(kg (K s) m=true↔s∈o))->
  (l.foldl (ob K) (o,m)).1=l.foldl hD o
 |[],o,m,_,_,_=>rfl
 |s::r,o,m,hl,bO,hm=>by
  have aa:=hl s (by simp);rw[List.foldl_cons,List.foldl_cons];by_cases h:s∈o
  .rw[avN h,show ob K (o,m) s=(o,m)from if_pos ((hm s aa).2 h)];exact T6 hK r o m (λx aq=>hl x (List.mem_cons_of_mem _ aq)) bO hm
  .rw[avO h,show ob K (o,m) s=(o++[s],kx (K s) true m)from if_neg λe=>h ((hm s aa).1 e)];refine T6 hK r _ _ (λx aq=>hl x (List.mem_cons_of_mem _ aq)) (λx aq=>?_) λx aq=>?_
   .rcases List.mem_append.1 aq with aq|aq
    .exact bO x aq
    .rw[List.mem_singleton]at aq;rwa [aq]
   .rw[TS,List.mem_append,List.mem_singleton,<-hm x aq];split
    .rename_i e;exact⟨λ_=>.inr (hK _ _ aa aq e).symm,λ_=>rfl⟩
    .rename_i e;exact⟨.inl,λq=>q.elim id λq=>absurd (by rw[q]) e⟩
structure jP (p:a8):Prop where
 xn:∃i:Nat,i<100/\p.cA=(i:Int)
 xo:∃j:Nat,j<100/\p.Part=(j:Int)
 kv:p.bK.length<=64/\∀x∈p.bK,fZ x
theorem fS.next {s:bm} (h:fS s):jP s.Next:=⟨h.xn,h.xo,h.kv⟩
def pg (p:a8):azc:=(jn p.cA.toNat++[58])++((jn p.Part.toNat++[58])++iS p.bK)
def Bl (q:azz):azc:=jQ (q.map pg) [32]
theorem avQ {p:a8} (h:jP p):(pg p).length<=300:=by
 have ad:=xd p.cA.toNat;have ag:=xd p.Part.toNat;have aD:=xl p.bK;have bh:=h.kv.1;simp only[pg,List.length_append,List.length_cons,List.length_nil];omega
theorem avR {p:a8} (h:jP p):Ai p=some (pg p):=by
 obtain⟨i,ai,iI⟩:=h.xn;obtain⟨j,bG,oR⟩:=h.xo;have ad:=xd i;have ag:=xd j;have aD:=xl p.bK;have bh:=h.kv.1;unfold Ai KP pg;simp only[iI,oR,A9 i ai,A9 j bG,bind_some,Tz _ bh h.kv.2,Int.toNat_natCast];rw[my (by omega),my (by omega)];simp only[bind_some];rw[my (by simp only[List.length_append,List.length_cons,List.length_nil];omega)];simp only[bind_some];rw[my (by simp only[List.length_append,List.length_cons,List.length_nil];omega)];rfl
theorem acv {q:azz} (h:∀p∈q,jP p):(Bl q).length<=q.length*301:=by
 have:=Ie 32 300 (q.map pg) λx aq=>by
  obtain⟨y,hy,rfl⟩:=List.mem_map.1 aq;exact avQ (h y hy)
 rwa [List.length_map]at this
theorem avS {q:azz} (cE:q.length<=100) (h:∀p∈q,jP p):KY q=some (Bl q):=by
 have bG:strings_Join (q.map pg) [32]=some (Bl q):=by
  have:=acv h;unfold strings_Join;rw[if_pos ⟨by rw[List.length_map];omega,by unfold Bl at this;omega⟩];rfl
 have key:∀i,i<=q.length->∀(v:azb) m,v.length=i->q.length-i<m->Di q m v (i:Int)=strings_Join (v++(q.drop i).map pg) [32]:=by
  refine down q.length ?_ ?_
  .intro v m p4 hm;obtain⟨m,rfl⟩:∃j,m=j+1:=⟨m-1,by omega⟩
   simp only[Di,QV];rw[eh (Nat.le_refl _),List.drop_of_length_le (Nat.le_refl _),List.map_nil,List.append_nil,cond_false];cases strings_Join v [32]<;>rfl
  .intro i ai ih v m p4 hm;obtain⟨m,rfl⟩:∃j,m=j+1:=⟨m-1,by omega⟩
   simp only[Di,QV];rw[ev ai,dX _ i ai,et i _ ai (by omega)];simp only[cond_true,bind_some,avR (h _ (List.getElem_mem ai))];rw[lJ (by omega) (by omega),bind_some,ih (v++[_]) m (by simp[p4]) (by omega),drop_cons q i ai,List.map_cons,List.append_assoc];rfl
 unfold KY;refine e5 (q.length+1) λm hm=>?_;have:=key 0 (by omega) [] m rfl (by omega);rw[List.drop_zero,List.nil_append,bG]at this;exact this
theorem avT {p:a8} (h:jP p):∀c∈pg p,44<=c.toNat:=by
 obtain⟨i,ai,iI⟩:=h.xn;obtain⟨j,bG,oR⟩:=h.xo;intro c au;unfold pg at au;rw[iI,oR,Int.toNat_natCast,Int.toNat_natCast]at au;simp only[List.mem_append,List.mem_singleton]at au;rcases au with(au|rfl)|(au|rfl)|au
 .have:=(xp i ai c au).1;omega
 .decide
 .have:=(xp j bG c au).1;omega
 .decide
 .exact(ab9 _ h.kv.2 c au).1
theorem avU {x y:a8} (aq:jP x) (hy:jP y) (h:pg x=pg y):x=y:=by
 obtain⟨i,ai,iI⟩:=aq.xn;obtain⟨j,bG,oR⟩:=aq.xo;obtain⟨uk,E2,T7⟩:=hy.xn;obtain⟨ayZ,acw,T8⟩:=hy.xo;unfold pg at h;rw[iI,oR,T7,T8]at h;simp only[Int.toNat_natCast,List.append_assoc,List.singleton_append]at h;obtain⟨J,a2⟩:=vG (y1 ai) (y1 E2) h;obtain⟨a3,a4⟩:=vG (y1 bG) (y1 acw) a2;have a5:=acf aq.kv.2 hy.kv.2 a4;have p2:=Bi ai E2 J;have px:=Bi bG acw a3;cases x;cases y;simp only at iI oR T7 T8 a5;rw[iI,oR,T7,T8,a5,p2,px]
theorem avV {c:UInt8}:∀{a b:azb},(∀x∈a,c∉x)->(∀x∈b,c∉x)->a≠[]->b≠[]->jQ a [c]=jQ b [c]->a=b:=by
 intro a b bo ab ad ag h;have:=congrArg (l5 c) h
 rwa [Mk c a ad bo,Mk c b ag ab]at this
theorem acx:∀{a b:azz},(∀x∈a,jP x)->(∀x∈b,jP x)->a.map pg=b.map pg->a=b
 |[],[],_,_,_=>rfl
 |[],_::_,_,_,h=>by cases h
 |_::_,[],_,_,h=>by cases h
 |x::xs,y::c1,ad,ag,h=>by
  rw[List.map_cons,List.map_cons]at h;obtain⟨aR,aW⟩:=List.cons.inj h;rw[avU (ad x (by simp)) (ag y (by simp)) aR,acx (λz cf=>ad z (List.mem_cons_of_mem _ cf)) (λz cf=>ag z (List.mem_cons_of_mem _ cf)) aW]
theorem avW {a b:azz} (bo:∀x∈a,jP x) (ab:∀x∈b,jP x) (hl:a.length=b.length) (h:Bl a=Bl b):a=b:=by
 have acy:∀q:azz,(∀x∈q,jP x)->∀x∈q.map pg,(32:UInt8)∉x:=by
  intro q cE x aq hm;obtain⟨y,hy,rfl⟩:=List.mem_map.1 aq;have:=avT (cE y hy) _ hm;revert this;decide
 by_cases bc:a=[]
 .subst bc;exact(List.length_eq_zero_iff.1 hl.symm).symm
 .have ad:b≠[]:=λe=>bc (by rw[e]at hl;exact List.length_eq_zero_iff.1 hl);exact acx bo ab (avV (acy a bo) (acy b ab) (by simpa using bc) (by simpa using ad) h)
structure jf (n:Nat) (m:bp):Prop where
 y0:m.Label.length<=400/\(32:UInt8)∉m.Label
 fst:∃i:Nat,i<100/\m.n1=(i:Int)
 snd:m.Second= -1\/∃k:Nat,k<100/\m.Second=(k:Int)
 st:m.State.length=n/\∀p∈m.State,jP p
def sJ (x:Int):azc:=if x<0 then [45,49]else jn x.toNat
def ph (m:bp):azc:=(((((m.Label++[32])++jn m.n1.toNat)++[32])++sJ m.Second)++[32])++Bl m.State
theorem T9 {x:Int} (h:x= -1\/∃k:Nat,k<100/\x=(k:Int)):r5 x=some (sJ x)/\(sJ x).length<=2/\(32:UInt8)∉sJ x:=by
 rcases h with rfl|⟨k,aw,rfl⟩
 .refine⟨?_,by decide,by decide⟩;unfold r5 C8 G3;rw[show((-1:Int).natAbs)=1 from rfl,yq];rfl
 .have e:sJ (k:Int)=jn k:=by unfold sJ;rw[if_neg (by omega),Int.toNat_natCast]
  rw[e];refine⟨A9 k aw,xd k,λhm=>?_⟩;have:=xp k aw _ hm;revert this;decide
theorem avX {x y:Int} (aq:x= -1\/∃k:Nat,k<100/\x=(k:Int)) (hy:y= -1\/∃k:Nat,k<100/\y=(k:Int)) (h:sJ x=sJ y):x=y:=by
 have no:∀k:Nat,k<100->sJ (k:Int)≠[45,49]:=by
  intro k aw e;have aR:sJ (k:Int)=jn k:=by unfold sJ;rw[if_neg (by omega),Int.toNat_natCast]
  rw[aR]at e;have:=xp k aw 45 (by rw[e];simp);revert this;decide
 rcases aq with rfl|⟨k,aw,rfl⟩<;>rcases hy with rfl|⟨l,hl,rfl⟩
 .rfl
 .exact absurd h.symm (no l hl)
 .exact absurd h (no k aw)
 .unfold sJ at h;rw[if_neg (by omega),if_neg (by omega),Int.toNat_natCast,Int.toNat_natCast]at h;rw[Bi aw hl h]
theorem avY {n:Nat} (x y:bp) (aq:jf n x) (hy:jf n y) (h:ph x=ph y):x=y:=by
 obtain⟨i,ai,iI⟩:=aq.fst;obtain⟨j,bG,oR⟩:=hy.fst;unfold ph at h;rw[iI,oR]at h;simp only[Int.toNat_natCast,List.append_assoc,List.singleton_append]at h;obtain⟨J,a2⟩:=vG aq.y0.2 hy.y0.2 h;have AW:∀k:Nat,k<100->(32:UInt8)∉jn k:=λk aw hm=>by
  have:=xp k aw _ hm;revert this;decide
 obtain⟨a3,a4⟩:=vG (AW i ai) (AW j bG) a2;obtain⟨a5,p2⟩:=vG (T9 aq.snd).2.2 (T9 hy.snd).2.2 a4;have px:=avX aq.snd hy.snd a5;have Nc:=avW aq.st.2 hy.st.2 (by rw[aq.st.1,hy.st.1]) p2;have a9:=Bi ai bG a3;cases x;cases y;simp only at iI oR J px Nc;rw[iI,oR,J,px,Nc,a9]
set_option linter.unusedSimpArgs false
theorem T_ (a b:azc):(!(Op.bytesLess a b))=(Op.bytesLess b a||b==a):=by
 induction a generalizing b with
 |nil=>cases b<;>simp[Op.bytesLess]
 |cons x a ih=>
  cases b with
  |nil=>simp[Op.bytesLess]
  |cons y b=>
   simp only[Op.bytesLess];have:=ih b;by_cases ad:x<y
   .have ag:¬y<x:=λh=>by have:=UInt8.lt_asymm ad h;exact this
    have aD:y≠x:=λh=>by subst h;exact absurd ad (UInt8.lt_irrefl _)
    simp[ad,ag,aD]
   .by_cases ag:y<x
    .have aD:x≠y:=λh=>by subst h;exact absurd ag (UInt8.lt_irrefl _)
     simp[ad,ag,aD]
    .have aD:x=y:=by
      have aR:=UInt8.not_lt.1 ad;have aW:=UInt8.not_lt.1 ag;exact UInt8.le_antisymm aW aR
     subst aD;simp[ad,this]
theorem avZ (a:azc):Op.bytesLess a a=false:=by
 have:=T_ a a;cases h:Op.bytesLess a a with
 |false=>rfl
 |true=>rw[h]at this;simp at this
set_option linter.unusedSimpArgs false
def kf (s:azc):Bool:=hN s&& !(s==([116,97,117]:azc))
theorem acz (s:azc):uT s=some (kf s):=by unfold uT;rw[D7];rfl
theorem Mm (s:azc) (aa:s.length<=1048576):u9 s=some (kf s):=Ts s aa
theorem av0 {β:Type} {l:Nat->Int->Option β} {n:Nat} (p:Nat->Bool) (mw bad:Option β) (bc:∀m,l (m+1) (n:Int)=mw)
  (aa:∀i,i<n->∀m,l (m+1) (i:Int)=cond (p i) (l m ((i+1:Nat):Int)) bad) (i0:Nat) (ai:i0<=n):b5 (λm=>l m (i0:Int))=cond ((List.range' i0 (n-i0)).all p) mw bad:=by
 refine e5 (n+1) λm hm=>?_;refine up (λi=>cond ((List.range' i (n-i)).all p) mw bad) (λm=>?_) (λi ai m ih=>?_) i0 ai m (by omega)
 .rw[bc];simp
 .rw[aa i ai,ih,show n-i=(n-(i+1))+1 by omega,List.range'_succ];cases ax:p i<;>simp[ax]
def qA (a:azb) (i:Nat):Bool:=decide (i=0)||Op.bytesLess (a.getD (i-1) []) (a.getD i [])
def vI (a:azb):Bool:=decide (a.length<=12)&&(gf (λi=>kf (a.getD i [])) a.length&&gf (qA a) a.length)
theorem acA (a:azb) (h:a.length<=1048576):Gu a=some (vI a):=by
 unfold Gu vI;by_cases hl:12<a.length
 .have d1:decide ((12:Int)<(a.length:Int))=true:=decide_eq_true (by omega);have d2:decide (a.length<=12)=false:=decide_eq_false (by omega);rw[d1,d2];rfl
 .have d1:decide ((12:Int)<(a.length:Int))=false:=decide_eq_false (by omega);have d2:decide (a.length<=12)=true:=decide_eq_true (by omega);have sB:J3 a=some (gf (λi=>kf (a.getD i [])) a.length):=by
   unfold J3;refine H8 (l:=λm i=>Co a m i) _ (λm=>?_) (λi ai m=>?_)
   .simp only[Co,Py];rw[eh (Nat.le_refl _)];rfl
   .simp only[Co,Py];rw[ev ai,mv _ i [] ai,et i _ ai (by omega)];simp only[cond_true,bind_some,acz];cases kf (a.getD i [])<;>rfl
  rw[d1,d2,sB];simp only[cond_false,bind_some,Bool.true_and];cases gf (λi=>kf (a.getD i [])) a.length
  .rfl
  .simp only[Bool.not_true,cond_false,Bool.true_and];by_cases bc:a.length=0
   .rw[e5 (x:=some true) 1 (λm hm=>by
     obtain⟨k,rfl⟩:∃k,m=k+1:=⟨m-1,by omega⟩
     simp only[rV,J4];rw[bc];rfl)]
    rw[bc];rfl
   .have key:=av0 (l:=λm i=>rV a m i) (n:=a.length) (λi=>decide (i=0)||Op.bytesLess (a.getD (i-1) []) (a.getD i [])) (some true) (some false);have cf:rV a=rV a:=rfl;have:∀i,1<=i->i<=a.length->∀m,a.length-i<m->rV a m (i:Int)=cond ((List.range' i (a.length-i)).all (qA a)) (some true) (some false):=by
     intro i ad ag;refine down a.length (P:=λi=>1<=i->∀m,a.length-i<m->rV a m (i:Int)=cond ((List.range' i (a.length-i)).all (qA a)) (some true) (some false)) ?_ ?_ i ag ad
     .intro _ m hm;obtain⟨k,rfl⟩:∃k,m=k+1:=⟨m-1,by omega⟩
      simp only[rV,J4];rw[eh (Nat.le_refl _)];simp
     .intro i ai ih ad m hm;obtain⟨k,rfl⟩:∃k,m=k+1:=⟨m-1,by omega⟩
      simp only[rV,J4];rw[ev ai,H9 i (by omega) (by omega),mv _ (i-1) [] (by omega),mv _ i [] ai,et i _ ai (by omega),ih (by omega) k (by omega),show a.length-i=(a.length-(i+1))+1 by omega,List.range'_succ];have aS:qA a i=Op.bytesLess (a.getD (i-1) []) (a.getD i []):=by
       unfold qA;have:decide (i=0)=false:=decide_eq_false (by omega);rw[this,Bool.false_or]
      simp only[cond_true,bind_some,List.all_cons,aS];cases Op.bytesLess (a.getD (i-1) []) (a.getD i [])<;>rfl
    have Ua:=e5 (f:=λm=>rV a m 1) (a.length+1) (λm hm=>this 1 (by omega) (by omega) m (by omega));rw[Ua];have e:gf (qA a) a.length=(List.range' 1 (a.length-1)).all (qA a):=by
     unfold gf;rw[List.range_eq_range',show a.length=(a.length-1)+1 by omega,List.range'_succ];simp[qA]
    rw[e];cases(List.range' 1 (a.length-1)).all (qA a)<;>rfl
theorem av1 {p q:Nat->Bool} {n:Nat}:(gf p n&&gf q n)=gf (λi=>p i&&q i) n:=xk.symm
theorem acB (a:azb) (h:a.length<=1048576) (aa:∀s∈a,s.length<=1048576):GY a=some (vI a):=by
 unfold GY vI;rw[av1];rw[Be (l:=λm i=>C1 a m i) (n:=a.length) (λi=>kf (a.getD i [])&&qA a i) (some (decide ((a.length:Int)<=12))) (some false)]
 .have e:decide ((a.length:Int)<=12)=decide (a.length<=12):=decide_eq_decide.2 (by omega);rw[e];cases gf (λi=>kf (a.getD i [])&&qA a i) a.length<;>cases decide (a.length<=12)<;>rfl
 .intro m;simp only[C1,Qs];rw[eh (Nat.le_refl _)];rfl
 .intro i ai m;simp only[C1,Qs];have hm:(a.getD i []).length<=1048576:=by
   have:a.getD i []=a[i]:=by simp[List.getD,ai]
   rw[this];exact aa _ (List.getElem_mem ai)
  rw[ev ai,mv _ i [] ai,et i _ ai (by omega)];simp only[cond_true,bind_some,Mm _ hm];by_cases bc:i=0
  .subst bc;rw[A7];simp only[cond_false,qA,decide_true,Bool.true_or,Bool.and_true];cases kf (a.getD 0 [])<;>rfl
  .rw[Ta bc,H9 i (by omega) (by omega),mv _ (i-1) [] (by omega)];have aS:qA a i=Op.bytesLess (a.getD (i-1) []) (a.getD i []):=by
    unfold qA;have:decide (i=0)=false:=decide_eq_false bc;rw[this,Bool.false_or]
   have bb:=T_ (a.getD (i-1) []) (a.getD i []);simp only[cond_true,bind_some,aS,<-bb];cases kf (a.getD i [])<;>cases Op.bytesLess (a.getD (i-1) []) (a.getD i [])<;>rfl
def mP (cs:azx) (i:Nat):cV:=cs.getD i ⟨0,[]⟩
def Bm (e:azw) (c:cV):Bool:=
 cond (decide (0<=c.cA)&&decide (c.cA<=(e.length:Int)-1)) (((c.bK.length:Int)==(e.getD c.cA.toNat ⟨[],0,[]⟩).dU)&&yY c.bK) false
def vJ (s:cL):Bool:=(decide (1<=s.ch.length)&&decide (s.ch.length<=3))&&gf (λi=>Bm s.cw (mP s.ch i)) s.ch.length
theorem acC {e:azw} {n:Int} (h:(decide (0<=n)&&decide (n<=(e.length:Int)-1))=true):bj e n=some (e.getD n.toNat ⟨[],0,[]⟩):=by
 simp only[Bool.and_eq_true,decide_eq_true_eq]at h;obtain⟨i,rfl⟩:∃i:Nat,n=i:=⟨n.toNat,by omega⟩
 exact mv e i _ (by omega)
theorem av2 (s:cL) (ao:s.cw.length<=1048576) (au:s.ch.length<=1048576) (aF:∀c∈s.ch,c.bK.length<=1048576):J1 s=some (vJ s):=by
 unfold J1 vJ;by_cases hl:1<=s.ch.length/\s.ch.length<=3
 .have d1:(((s.ch.length:Int)==0)||decide ((3:Int)<(s.ch.length:Int)))=false:=by
   rw[Bool.or_eq_false_iff,beq_eq_false_iff_ne,decide_eq_false_iff_not];omega
  have d2:(decide (1<=s.ch.length)&&decide (s.ch.length<=3))=true:=by simp;omega
  rw[d1,d2,cond_false,Bool.true_and];refine H8 (l:=λm i=>Cn s m i) _ (λm=>?_) (λi ai m=>?_)
  .simp only[Cn,Pv];rw[eh (Nat.le_refl _)];rfl
  .simp only[Cn,Pv,k8];have hm:(mP s.ch i).bK.length<=1048576:=by
    have:mP s.ch i=s.ch[i]:=by simp[mP,List.getD,ai]
    rw[this];exact aF _ (List.getElem_mem ai)
   rw[ev ai,mv _ i ⟨0,[]⟩ ai,et i _ ai (by omega),eE ((s.cw.length:Int)-1) (by omega)];show cond true (Option.bind (some (mP s.ch i)) _) _=_;simp only[cond_true,bind_some];unfold Bm;cases aw:(decide (0<=(mP s.ch i).cA)&&decide ((mP s.ch i).cA<=(s.cw.length:Int)-1))
   .rfl
   .rw[acC aw];simp only[Bool.not_true,cond_false,cond_true,bind_some,TJ _ hm];have eb:(((mP s.ch i).bK.length:Int) !=(s.cw.getD (mP s.ch i).cA.toNat ⟨[],0,[]⟩).dU)= !(((mP s.ch i).bK.length:Int)==(s.cw.getD (mP s.ch i).cA.toNat ⟨[],0,[]⟩).dU):=rfl;rw[eb];cases(((mP s.ch i).bK.length:Int)==(s.cw.getD (mP s.ch i).cA.toNat ⟨[],0,[]⟩).dU)<;>cases yY (mP s.ch i).bK<;>rfl
 .have d1:(((s.ch.length:Int)==0)||decide ((3:Int)<(s.ch.length:Int)))=true:=by
   by_cases bc:s.ch.length=0
   .simp[bc]
   .have:decide ((3:Int)<(s.ch.length:Int))=true:=decide_eq_true (by omega);rw[this,Bool.or_true]
  have d2:(decide (1<=s.ch.length)&&decide (s.ch.length<=3))=false:=by
   rw[Bool.and_eq_false_iff,decide_eq_false_iff_not,decide_eq_false_iff_not];omega
  rw[d1,d2];rfl
theorem av3 (e:azw) (he:e.length<=1048576) (c:cV) (au:c.bK.length<=1048576):KA e c=some (Bm e c):=by
 unfold KA Bm;rw[L6 _ e.length he];simp only[bind_some];cases aw:(decide (0<=c.cA)&&decide (c.cA<=(e.length:Int)-1))
 .rfl
 .rw[acC aw];simp only[cond_true,bind_some,TK _ au];cases((c.bK.length:Int)==(e.getD c.cA.toNat ⟨[],0,[]⟩).dU)<;>rfl
theorem av4 (s:cL) (ao:s.cw.length<=1048576) (au:s.ch.length<=1048576) (aF:∀c∈s.ch,c.bK.length<=1048576):
  KB s.ch s=some (!(gf (λi=>Bm s.cw (mP s.ch i)) s.ch.length)):=by
 unfold KB Qn;rw[tM (n:=s.ch.length) (λi=> !(Bm s.cw (mP s.ch i)))]
 .simp only[bind_some,w_,Bool.not_not]
 .intro m;simp only[GV,Qm];rw[eh (Nat.le_refl _)];rfl
 .intro i ai m;simp only[GV,Qm];have hm:(mP s.ch i).bK.length<=1048576:=by
   have:mP s.ch i=s.ch[i]:=by simp[mP,List.getD,ai]
   rw[this];exact aF _ (List.getElem_mem ai)
  rw[ev ai,mv _ i ⟨0,[]⟩ ai,et i _ ai (by omega)];show cond true (Option.bind (some (mP s.ch i)) _) _=_;simp only[cond_true,bind_some,Ql,av3 _ ao _ hm]
def eU (a:azy) (i:Nat):bZ:=a.getD i ⟨[],[],[]⟩
def Bn (p m:bZ):Bool:=Op.bytesLess p.Left m.Left||(p.Left==m.Left&&Op.bytesLess p.cH m.cH)
def Bo (a:azy) (m:bZ):Bool:=gf (λj=> !((eU a j).Left==m.Result||(eU a j).cH==m.Result)) a.length
def Bp (a:azy) (i:Nat):Bool:=
 ((((kf (eU a i).Left&&kf (eU a i).cH)&&kf (eU a i).Result)&&(Op.bytesLess (eU a i).Left (eU a i).cH||(eU a i).Left==(eU a i).cH))&&(decide (i=0)||Bn (eU a (i-1)) (eU a i)))&&Bo a (eU a i)
def rp (a:azy):Bool:=decide (a.length<=6)&&gf (Bp a) a.length
def Mn (a:azy):Prop:=a.length<=1048576/\∀m∈a,m.Left.length<=1048576/\m.cH.length<=1048576/\m.Result.length<=1048576
theorem av5 (p m:bZ):((!(Op.bytesLess p.Left m.Left||p.Left==m.Left))||((p.Left==m.Left)&&(!(Op.bytesLess p.cH m.cH))))= !(Bn p m):=by
 unfold Bn;cases he:p.Left==m.Left
 .cases Op.bytesLess p.Left m.Left<;>rfl
 .have:p.Left=m.Left:=by simpa using he
  rw[this,avZ];cases Op.bytesLess p.cH m.cH<;>rfl
def xr (a b:azc):Int:=cond (Op.bytesLess a b) (-1) (cond (!(Op.bytesLess a b||a==b)) 1 0)
theorem av6 (a b:azc):KD a b=some (xr a b):=by
 unfold KD KC xr;simp only[bind_some,cond_false];cases Op.bytesLess a b<;>cases a==b<;>rfl
theorem av7 (p m:bZ):∃v,KG p m=some v/\decide (0<=v)= !(Bn p m):=by
 have Ua:KF [p.Left,p.cH] [m.Left,m.cH]=some (cond (xr p.Left m.Left !=0) (xr p.Left m.Left) (cond (xr p.cH m.cH !=0) (xr p.cH m.cH) 0)):=by
  unfold KF;refine e5 3 λn aV=>?_;obtain⟨n,rfl⟩:∃k,n=k+3:=⟨n-3,by omega⟩
  have gi:bj [p.Left,p.cH] 0=some p.Left:=rfl;have aR:bj [m.Left,m.cH] 0=some m.Left:=rfl;have aW:bj [p.Left,p.cH] 1=some p.cH:=rfl;have aU:bj [m.Left,m.cH] 1=some m.cH:=rfl;have ft:i64.wrap (0+1)=1:=by decide
  have hR:i64.wrap (1+1)=2:=by decide
  simp only[KE,Yw,List.length_cons,List.length_nil,gi,aR,aW,aU,ft,hR,bind_some,av6];cases xr p.Left m.Left !=0
  .cases xr p.cH m.cH !=0<;>rfl
  .rfl
 unfold KG;rw[Ua];refine⟨_,rfl,?_⟩;unfold Bn xr;cases hl:Op.bytesLess p.Left m.Left
 .cases he:p.Left==m.Left
  .rfl
  .cases aS:Op.bytesLess p.cH m.cH
   .cases p.cH==m.cH<;>rfl
   .rfl
 .rfl
theorem av8 (a:azy) (h:a.length<=1048576) (m:bZ):GX a m=some (!(Bo a m)):=by
 unfold GX Qq;rw[tM (n:=a.length) (λj=>((eU a j).Left==m.Result||(eU a j).cH==m.Result))]
 .simp only[bind_some,w_];rfl
 .intro k;simp only[GW,Qp];rw[eh (Nat.le_refl _)];rfl
 .intro i ai k;simp only[GW,Qp];rw[ev ai,mv _ i ⟨[],[],[]⟩ ai,et i _ ai (by omega)];simp only[cond_true,bind_some,Qo];rfl
theorem av9 {a:azy} (h:Mn a) {i:Nat} (ai:i<a.length):(eU a i).Left.length<=1048576/\(eU a i).cH.length<=1048576/\(eU a i).Result.length<=1048576:=by
 have:eU a i=a[i]:=by simp[eU,List.getD,ai]
 rw[this];exact h.2 _ (List.getElem_mem ai)
theorem Is {a:azy} {i:Nat} (ai:i<a.length):bj a (i:Int)=some (eU a i):=mv a i _ ai
theorem av_ (a:azy) (h:Mn a):J2 a=some (rp a):=by
 unfold J2 rp;by_cases hl:6<a.length
 .have d1:decide ((6:Int)<(a.length:Int))=true:=decide_eq_true (by omega);have d2:decide (a.length<=6)=false:=decide_eq_false (by omega);rw[d1,d2];rfl
 .have d1:decide ((6:Int)<(a.length:Int))=false:=decide_eq_false (by omega);have d2:decide (a.length<=6)=true:=decide_eq_true (by omega);rw[d1,d2,cond_false,Bool.true_and];refine H8 (l:=λm i=>tj a m i) _ (λm=>?_) (λi ai m=>?_)
  .simp only[tj,Px];rw[eh (Nat.le_refl _)];rfl
  .have iH:(b5 λn=>wt (tj a m) a (eU a i) n (i:Int) 0)=cond (Bo a (eU a i)) (tj a m ((i+1:Nat):Int)) (some false):=by
    refine Be (l:=λjS j=>wt (tj a m) a (eU a i) jS (i:Int) j) _ _ _ (λjS=>?_) (λj bG jS=>?_)
    .simp only[wt,Pw];rw[eh (Nat.le_refl _),et i _ ai (by omega)];rfl
    .simp only[wt,Pw];rw[ev bG,Is bG,et j _ bG (by omega)];simp only[cond_true,bind_some];cases((eU a j).Left==(eU a i).Result||(eU a j).cH==(eU a i).Result)<;>rfl
   simp only[tj,Px];rw[ev ai,Is ai];simp only[cond_true,bind_some,acz,iH];unfold Bp;by_cases bc:i=0
   .subst bc;rw[A7];simp only[cond_false,decide_true,Bool.true_or,Bool.and_true];cases kf (eU a 0).Left<;>cases kf (eU a 0).cH<;>cases kf (eU a 0).Result<;>cases(Op.bytesLess (eU a 0).Left (eU a 0).cH||(eU a 0).Left==(eU a 0).cH)<;>cases Bo a (eU a 0)<;>rfl
   .rw[Ta bc,H9 i (by omega) (by omega),Is (show i-1<a.length by omega)];have ao:decide (i=0)=false:=decide_eq_false bc;simp only[cond_true,bind_some,ao,Bool.false_or,av5];cases kf (eU a i).Left<;>cases kf (eU a i).cH<;>cases kf (eU a i).Result<;>cases(Op.bytesLess (eU a i).Left (eU a i).cH||(eU a i).Left==(eU a i).cH)<;>cases Bn (eU a (i-1)) (eU a i)<;>cases Bo a (eU a i)<;>rfl
theorem awa (a:azy) (h:Mn a):KH a=some (rp a):=by
 unfold KH rp;rw[Be (l:=λm i=>C0 a m i) (n:=a.length) (Bp a) (some (decide ((a.length:Int)<=6))) (some false)]
 .have e:decide ((a.length:Int)<=6)=decide (a.length<=6):=decide_eq_decide.2 (by omega);rw[e];cases gf (Bp a) a.length<;>cases decide (a.length<=6)<;>rfl
 .intro m;simp only[C0,Qr];rw[eh (Nat.le_refl _)];rfl
 .intro i ai m;have hl:=h.1;obtain⟨s1,s2,oZ⟩:=av9 h ai;simp only[C0,Qr];rw[ev ai,Is ai,et i _ ai (by omega)];simp only[cond_true,bind_some,Mm _ s1,Mm _ s2,Mm _ oZ,av8 a hl];unfold Bp;by_cases bc:i=0
  .subst bc;rw[A7];simp only[cond_false,decide_true,Bool.true_or,Bool.and_true];cases kf (eU a 0).Left<;>cases kf (eU a 0).cH<;>cases kf (eU a 0).Result<;>cases(Op.bytesLess (eU a 0).Left (eU a 0).cH||(eU a 0).Left==(eU a 0).cH)<;>cases Bo a (eU a 0)<;>rfl
  .rw[Ta bc,H9 i (by omega) (by omega),Is (show i-1<a.length by omega)];obtain⟨v,v1,v2⟩:=av7 (eU a (i-1)) (eU a i);have ao:decide (i=0)=false:=decide_eq_false bc;simp only[cond_true,bind_some,ao,Bool.false_or,v1,v2];cases kf (eU a i).Left<;>cases kf (eU a i).cH<;>cases kf (eU a i).Result<;>cases(Op.bytesLess (eU a i).Left (eU a i).cH||(eU a i).Left==(eU a i).cH)<;>cases Bn (eU a (i-1)) (eU a i)<;>cases Bo a (eU a i)<;>rfl
def sK (s:cL):Prop:=pf s.cw/\(s.ch.length<=1048576/\∀c∈s.ch,c.bK.length<=1048576)/\Mn s.b_/\
 (s.cD.length<=1048576/\∀x∈s.cD,x.length<=1048576)/\(s.cB.length<=1048576/\∀x∈s.cB,x.length<=1048576)
noncomputable def l7 (s:cL):Int:=cond (!lL s.cw) 1 (cond (!vJ s) 2 (cond (!rp s.b_) 3 (cond (!vI s.cD) 4 (cond (!vI s.cB) 5 0))))
theorem awb (s:cL) (h:sK s):J5 s=some (l7 s):=by
 obtain⟨ad,ag,aD,bh,b1⟩:=h;unfold J5 l7;rw[auR _ ad,av2 s ad.1 ag.1 ag.2,av_ _ aD,acA _ bh.1,acA _ b1.1];simp only[bind_some];cases lL s.cw<;>cases vJ s<;>cases rp s.b_<;>cases vI s.cD<;>cases vI s.cB<;>rfl
theorem awc (s:cL) (h:sK s):KI s=some (l7 s):=by
 obtain⟨ad,ag,aD,bh,b1⟩:=h;unfold KI kX l7 vJ;have nB:decide ((1:Int)<=(s.ch.length:Int))=decide (1<=s.ch.length):=decide_eq_decide.2 (by omega);have lo:decide ((s.ch.length:Int)<=3)=decide (s.ch.length<=3):=decide_eq_decide.2 (by omega);rw[auT _ ad,av4 s ad.1 ag.1 ag.2,awa _ aD,acB _ bh.1 bh.2,acB _ b1.1 b1.2];simp only[bind_some];rw[nB,lo];cases lL s.cw<;>cases(decide (1<=s.ch.length)&&decide (s.ch.length<=3))<;>cases gf (λi=>Bm s.cw (mP s.ch i)) s.ch.length<;>
  cases rp s.b_<;>cases vI s.cD<;>cases vI s.cB<;>rfl
theorem awd {s:cL} (h:tV s<=1048576):sK s:=by
 unfold tV at h;refine⟨auQ (by omega),⟨Nat.le_trans (kd nr _) (by omega),λc au=>?_⟩,⟨Nat.le_trans (kd ns _) (by omega),λm hm=>?_⟩,⟨Nat.le_trans (kd List.length _) (by omega),λx aq=>?_⟩,⟨Nat.le_trans (kd List.length _) (by omega),λx aq=>?_⟩⟩
 .have ad:nr c<=eg nr s.ch:=nn au;have ag:nr c<=1048576:=by omega
  clear ad;unfold nr at ag;omega
 .have ad:ns m<=eg ns s.b_:=nn hm;have ag:ns m<=1048576:=by omega
  clear ad;unfold ns at ag;omega
 .have ad:x.length<=eg List.length s.cD:=nn aq;omega
 .have ad:x.length<=eg List.length s.cB:=nn aq;omega
theorem awe (a:o2) (bo:FZ a):
  ∃r,F8 a 1048576=some r/\(decide (r<0)=false->yd a=some (vD a)/\Hk (vD a) (vD a)=some true/\
   sK (vD a)/\r=1048576-(yX a:Nat)/\0<=r):=by
 refine⟨_,at6 a 1048576 bo (by omega) (by omega),λh=>?_⟩;by_cases aa:yX a<=1048576
 .have uE:tV (vD a)<=1048576:=by rw[abN];exact aa
  exact⟨auq a aa,auH _ uE,awd uE,H6 (by omega),by rw[H6 (by omega)];omega⟩
 .rw[H7 (by omega)]at h;simp at h
theorem awf (s:cL) (h:sK s):J6 s=some (l7 s==0):=by unfold J6;rw[awb s h];rfl
theorem awg (s:cL) (h:sK s):KJ s=some (l7 s==0):=by unfold KJ;rw[awc s h];rfl
theorem Mo {s:cL} (h:(l7 s==0)=true):lL s.cw=true:=by
 cases ao:lL s.cw
 .unfold l7 at h;rw[ao]at h;simp at h
 .rfl
noncomputable def y3 (e:azw) (p:a8):Bool:=(yg e p).getD false
theorem Ub (e:azw) (h:pf e) (aF:lL e=true) (p:a8) (ax:p.bK.length<=1048576):yg e p=some (y3 e p)/\GZ e p=some (y3 e p):=by
 obtain⟨b,ad,ag⟩:=avE e h aF p ax;have:y3 e p=b:=by unfold y3;rw[ad];rfl
 rw[this];exact⟨ad,ag⟩
def ub (q:azz) (i:Nat):a8:=q.getD i ⟨0,0,[]⟩
noncomputable def y4 (s:cL) (q:azz):Bool:=((q.length:Int)==(s.ch.length:Int))&&gf (λi=>y3 s.cw (ub q i)) q.length
theorem acD {q:azz} (aF:∀p∈q,p.bK.length<=1048576) {i:Nat} (ai:i<q.length):(ub q i).bK.length<=1048576:=by
 have:ub q i=q[i]:=by simp[ub,List.getD,ai]
 rw[this];exact aF _ (List.getElem_mem ai)
theorem awh (s:cL) (h:pf s.cw) (ao:lL s.cw=true) (q:azz) (cE:q.length<=1048576) (aF:∀p∈q,p.bK.length<=1048576):J7 s q=some (y4 s q):=by
 unfold J7 y4;have e:((q.length:Int) !=(s.ch.length:Int))= !((q.length:Int)==(s.ch.length:Int)):=rfl;rw[e];cases((q.length:Int)==(s.ch.length:Int))
 .rfl
 .rw[Bool.true_and,Bool.not_true,cond_false];refine H8 (l:=λm i=>Cp s q m i) _ (λm=>?_) (λi ai m=>?_)
  .simp only[Cp,Pz];rw[eh (Nat.le_refl _)];rfl
  .simp only[Cp,Pz];rw[ev ai,mv _ i ⟨0,0,[]⟩ ai,et i _ ai (by omega)];show cond true (Option.bind (some (ub q i)) _) _=_;simp only[cond_true,bind_some,(Ub _ h ao _ (acD aF ai)).1];cases y3 s.cw (ub q i)<;>rfl
theorem awi (s:cL) (h:pf s.cw) (ao:lL s.cw=true) (q:azz) (cE:q.length<=1048576) (aF:∀p∈q,p.bK.length<=1048576):
  KK q s=some (!(gf (λi=>y3 s.cw (ub q i)) q.length)):=by
 unfold KK Qv;rw[tM (n:=q.length) (λi=> !(y3 s.cw (ub q i)))]
 .simp only[bind_some,w_,Bool.not_not]
 .intro m;simp only[G0,Qu];rw[eh (Nat.le_refl _)];rfl
 .intro i ai m;simp only[G0,Qu];rw[ev ai,mv _ i ⟨0,0,[]⟩ ai,et i _ ai (by omega)];show cond true (Option.bind (some (ub q i)) _) _=_;simp only[cond_true,bind_some,Qt,(Ub _ h ao _ (acD aF ai)).2]
def sL (a:azy) (x y:azc) (i:Nat):Bool:=((eU a i).Left==x)&&((eU a i).cH==y)
def sM (a:azy) (z:Int):azc:=cond (decide (z<0)) [] (eU a z.toNat).Result
theorem Uc (p:Nat->Bool):∀(k i:Nat),kt p i k<((i+k:Nat):Int)
 |0,i=>by simp only[kt];omega
 |k+1,i=>by
  simp only[kt];split
  .omega
  .have:=Uc p k (i+1);omega
theorem acE (a:azy) (bo:a.length<=1048576) (x y:azc) (awj:(Op.bytesLess x y||x==y)=true) (acF:azy->azc->azc->Option azc):
  z8 acF a x y=some (sM a (kt (sL a x y) 0 a.length)):=by
 unfold z8;rw[awj];simp only[Bool.not_true,cond_false];rw[qx (l:=λm i=>CJ acF a x y m i) (n:=a.length) (λi=>some (sM a (kt (sL a x y) i (a.length-i))))]
 .rfl
 .intro m;simp only[CJ,PT];rw[eh (Nat.le_refl _),Nat.sub_self];rfl
 .intro i ai m ih;simp only[CJ,PT];rw[ev ai,mv _ i ⟨[],[],[]⟩ ai,et i _ ai (by omega)];show cond true (Option.bind (some (eU a i)) _) _=_;simp only[cond_true,bind_some];rw[ih,show a.length-i=(a.length-(i+1))+1 by omega];show cond (sL a x y i) _ _=_;cases ax:sL a x y i
  .simp only[kt,ax,cond_false];rfl
  .simp only[kt,ax,cond_true,if_true,sM];have:decide ((i:Int)<0)=false:=decide_eq_false (by omega);rw[this];rfl
theorem awk (a:azy) (bo:a.length<=1048576) (x y:azc):
  GB a x y=some (sM a (kt (sL a (h1 false x y) (h1 true x y)) 0 a.length)):=by
 unfold GB;refine e5 2 λn aV=>?_;obtain⟨n,rfl⟩:∃k,n=k+2:=⟨n-2,by omega⟩
 show z8 (CK (n+1)) a x y=_;cases h:(Op.bytesLess x y||x==y)
 .have ad:(Op.bytesLess y x||y==x)=true:=by
   rw[<-T_ x y];cases hl:Op.bytesLess x y
   .rfl
   .rw[hl]at h;cases h
  have ag:Op.bytesLess x y=false:=by cases hl:Op.bytesLess x y;·rfl
                                     .rw[hl]at h;cases h
  have aR:h1 false x y=y:=by simp only[h1,h,Bool.false_eq_true,if_false]
  have aW:h1 true x y=x:=by simp only[h1,ag,Bool.not_false,if_true]
  unfold z8;rw[h];simp only[Bool.not_false,cond_true];show(z8 (CK n) a y x).bind _=_;rw[acE a bo y x ad,aR,aW];rfl
 .have aR:h1 false x y=x:=by simp only[h1,h,Bool.false_eq_true,if_false,if_true]
  have aW:h1 true x y=y:=by
   cases hl:Op.bytesLess x y
   .rw[hl,Bool.false_or]at h;have:x=y:=by simpa using h
    subst this;simp[h1]
   .simp[h1,hl]
  rw[acE a bo x y h,aR,aW]
theorem awl (s:cL) (bo:s.b_.length<=1048576) (x y:azc) (z:Int) (cf:z=kt (sL s.b_ (h1 false x y) (h1 true x y)) 0 s.b_.length):
  An s x y=some (sM s.b_ z,!(decide (z<0))):=by
 unfold An QX;rw[tM (l:=λm i=>Dl s.b_ x y m i) (n:=s.b_.length) (sL s.b_ (h1 false x y) (h1 true x y)),<-cf]
 .simp only[bind_some];have hl:=Uc (sL s.b_ (h1 false x y) (h1 true x y)) s.b_.length 0;rw[<-cf]at hl;cases h:decide (z<0)
  .have bc:¬z<0:=of_decide_eq_false h;have e:bj s.b_ z=some (eU s.b_ z.toNat):=by
    obtain⟨i,rfl⟩:∃i:Nat,z=i:=⟨z.toNat,by omega⟩
    exact mv s.b_ i (⟨[],[],[]⟩:bZ) (by omega)
   rw[e];simp only[sM,h];rfl
  .simp only[sM,h];rfl
 .intro m;simp only[Dl,QW];rw[eh (Nat.le_refl _)];rfl
 .intro i ai m;simp only[Dl,QW];rw[ev ai,mv _ i ⟨[],[],[]⟩ ai,et i _ ai (by omega)];rfl
theorem awm (s:cL) (aF:(l7 s==0)=true) (i:Nat) (ai:i<s.b_.length):((eU s.b_ i).Result==([]:azc))=false:=by
 have hm:rp s.b_=true:=by
  cases h:rp s.b_
  .unfold l7 at aF;rw[h]at aF;revert aF;cases lL s.cw<;>cases vJ s<;>simp
  .rfl
 unfold rp at hm;rw[Bool.and_eq_true]at hm;have ad:=pd.1 hm.2 i ai;unfold Bp at ad;simp only[Bool.and_eq_true]at ad;have ag:=ad.1.1.1.2;cases aS:(eU s.b_ i).Result
 .rw[aS]at ag;cases ag
 .rfl
theorem awn (x y:a8) (h:x.bK.length<=1048576):Cw x y=some (mA x y):=by
 have e:mA x y=((x.cA==y.cA)&&((x.Part==y.Part)&&(x.bK==y.bK))):=by
  rw[Bool.eq_iff_iff,qz];cases x;cases y;simp
 unfold Cw;rw[TP _ _ h,e];cases x.cA==y.cA<;>cases x.Part==y.Part<;>rfl
theorem awo (a b:azz) (h:a.length<=1048576) (aF:∀p∈a,p.bK.length<=1048576):Kf a b=some (mA a b):=by
 unfold Kf;by_cases hl:a.length=b.length
 .have e:((a.length:Int) !=(b.length:Int))=false:=by simp[hl]
  rw[e,cond_false];have:=qx (n:=a.length) (l:=CD a b) (λi=>some (mA (a.drop i) (b.drop i))) (λm=>?_) (λi ai m ih=>?_)
  .simpa using this
  .simp only[CD,PN];rw[eh (Nat.le_refl _),List.drop_of_length_le (Nat.le_refl _),List.drop_of_length_le (by omega),cond_false];rw[show mA ([]:azz) []=true from qz.2 rfl]
  .simp only[CD,PN];rw[ev ai,dX _ i ai,dX _ i (by omega),et i _ ai (by omega),drop_cons a i ai,drop_cons b i (by omega)];simp only[cond_true,bind_some,ih,awn _ _ (aF _ (List.getElem_mem ai))];have aW:mA (a[i]::a.drop (i+1)) (b[i]::b.drop (i+1))=(mA a[i] b[i]&&mA (a.drop (i+1)) (b.drop (i+1))):=by
    rw[Bool.eq_iff_iff,Bool.and_eq_true,qz,qz,qz,List.cons.injEq]
   rw[aW];cases mA a[i] b[i]<;>rfl
 .have e:((a.length:Int) !=(b.length:Int))=true:=by simp;omega
  have aW:mA a b=false:=by
   rw[<-Bool.not_eq_true,qz];intro h;exact hl (by rw[h])
  rw[e,cond_true,aW]
theorem Mp {p:a8} (h:jP p):p.bK.length<=1048576:=by have:=h.kv.1;omega
theorem acG {n:Nat} (o:azA) (m:bp) (h:o.length<=1048576) (aV:n<=100) (hg:∀x∈o,jf n x):zZ o m=some (hD o m):=by
 unfold zZ;rw[qx (n:=o.length) (l:=CE o m) (λi=>some (cond (mA (m∈o.drop i) True) o (o++[m]))) (λk=>?_) (λi ai k ih=>?_)]
 .rw[List.drop_zero];unfold hD;split
  .rename_i hm;rw[show mA (m∈o) True=true from qz.2 (by simp[hm])];rfl
  .rename_i hm;rw[show mA (m∈o) True=false from by rw[<-Bool.not_eq_true,qz];simp[hm]];rfl
 .simp only[CE,PO];rw[eh (Nat.le_refl _),lJ (by omega) (by omega),List.drop_of_length_le (Nat.le_refl _),show mA (m∈([]:azA)) True=false from by rw[<-Bool.not_eq_true,qz];simp];rfl
 .have g:=hg _ (List.getElem_mem ai);simp only[CE,PO];rw[ev ai,dX _ i ai,et i _ ai (by omega),drop_cons o i ai];simp only[cond_true,bind_some,ih,awo o[i].State m.State (by have:=g.st.1;omega) (λp ax=>Mp (g.st.2 p ax))];have e:mA (m∈o[i]::o.drop (i+1)) True=(mA o[i] m||mA (m∈o.drop (i+1)) True):=by
   rw[Bool.eq_iff_iff,Bool.or_eq_true,qz,qz,qz];simp only[List.mem_cons,eq_iff_iff,iff_true];rw[eq_comm (a:=m)]
  have aW:mA o[i] m=((o[i].Label==m.Label)&&((o[i].n1==m.n1)&&((o[i].Second==m.Second)&&mA o[i].State m.State))):=by
   rw[Bool.eq_iff_iff,qz];cases o[i];cases m;simp[qz]
  rw[e,aW];cases o[i].Label==m.Label
  .rfl
  .cases o[i].n1==m.n1
   .rfl
   .cases o[i].Second==m.Second
    .rfl
    .cases mA o[i].State m.State<;>rfl
theorem Bq {q:azz} (cE:q.length<=100) (h:∀p∈q,jP p):uU q=some q/\G1 q=some q:=by
 constructor
 .unfold uU;have key:∀i,i<=q.length->∀(v:azz) m,v.length=i->q.length-i<m->Cr q m v (i:Int)=some (v++q.drop i):=by
   refine down q.length ?_ ?_
   .intro v m aF hm;obtain⟨m,rfl⟩:∃j,m=j+1:=⟨m-1,by omega⟩
    simp only[Cr,PA];rw[eh (Nat.le_refl _),List.drop_of_length_le (Nat.le_refl _),List.append_nil];rfl
   .intro i ai ih v m aF hm;obtain⟨m,rfl⟩:∃j,m=j+1:=⟨m-1,by omega⟩
    simp only[Cr,PA];rw[ev ai,dX _ i ai,et i _ ai (by omega)];simp only[cond_true,bind_some,TL _ (Mp (h _ (List.getElem_mem ai)))];rw[lJ (by omega) (by omega),bind_some,ih (v++[_]) m (by simp[aF]) (by omega),drop_cons q i ai,List.append_assoc];rfl
  refine e5 (q.length+1) λm hm=>?_;have:=key 0 (by omega) [] m rfl (by omega);simpa using this
 .unfold G1;have key:∀i,i<=q.length->∀(v:azz) m,v.length=i->q.length-i<m->C3 q m v (i:Int)=some (v++q.drop i):=by
   refine down q.length ?_ ?_
   .intro v m aF hm;obtain⟨m,rfl⟩:∃j,m=j+1:=⟨m-1,by omega⟩
    simp only[C3,Qw];rw[eh (Nat.le_refl _),List.drop_of_length_le (Nat.le_refl _),List.append_nil];rfl
   .intro i ai ih v m aF hm;obtain⟨m,rfl⟩:∃j,m=j+1:=⟨m-1,by omega⟩
    simp only[C3,Qw,Ad];rw[ev ai,dX _ i ai,et i _ ai (by omega)];simp only[cond_true,bind_some,Mh _ (Mp (h _ (List.getElem_mem ai)))];rw[lJ (by omega) (by omega),bind_some,ih (v++[_]) m (by simp[aF]) (by omega),drop_cons q i ai,List.append_assoc];rfl
  refine e5 (q.length+1) λm hm=>?_;have:=key 0 (by omega) [] m rfl (by omega);simpa using this
theorem Ud {p:a8} (h:jP p):Ad p=some p:=by
 unfold Ad;rw[Mh _ (Mp h)];rfl
theorem It (a:azb) (x:azc) (h:a.length<=1048576):(∃z,CB a x=some z/\decide (z<0)= !decide (x∈a)/\decide (0<=z)=decide (x∈a))/\Dh a x=some (decide (x∈a)):=by
 have key:(kt (λi=>a.getD i []==x) 0 a.length<0↔x∉a):=by
  have:=w_ (λi=>a.getD i []==x) a.length;constructor
  .intro bc aq;rw[show decide (0<=kt (λi=>a.getD i []==x) 0 a.length)=false from decide_eq_false (by omega)]at this;have ag:=(Bool.not_eq_false' .. ▸this.symm:gf (λi=> !(a.getD i []==x)) a.length=true)
   obtain⟨k,aw,rfl⟩:=List.mem_iff_getElem.1 aq;have:=pd.1 ag k aw;simp[List.getD,aw]at this
  .intro aq;have ag:gf (λi=> !(a.getD i []==x)) a.length=true:=pd.2 λi ai=>by
    simp only[List.getD,List.getElem?_eq_getElem ai,getD_some,Bool.not_eq_true',beq_eq_false_iff_ne];intro e;exact aq (e▸List.getElem_mem ai)
   rw[ag,Bool.not_true]at this;have:=of_decide_eq_false this;omega
 constructor
 .refine⟨kt (λi=>a.getD i []==x) 0 a.length,?_,?_,?_⟩
  .unfold CB;exact tM (l:=CA a x) (n:=a.length) (λi=>a.getD i []==x) (λm=>by
    simp only[CA,PM];rw[eh (Nat.le_refl _)];rfl) (λi ai m=>by
    simp only[CA,PM];rw[ev ai,mv _ i [] ai,et i _ ai (by omega)];rfl)
  .rw[<-decide_not,decide_eq_decide];exact key
  .rw[decide_eq_decide];constructor
   .intro bc;by_cases aq:x∈a
    .exact aq
    .have:=key.2 aq;omega
   .intro aq;by_cases bc:kt (λi=>a.getD i []==x) 0 a.length<0
    .exact absurd aq (key.1 bc)
    .omega
 .unfold Dh QU;have e:b5 (λn=>Am a x n 0)=some (kt (λi=>a.getD i []==x) 0 a.length):=
   tM (l:=Am a x) (n:=a.length) (λi=>a.getD i []==x) (λm=>by
    simp only[Am,QT];rw[eh (Nat.le_refl _)];rfl) (λi ai m=>by
    simp only[Am,QT];rw[ev ai,mv _ i [] ai,et i _ ai (by omega),Bool.beq_comm];rfl)
  rw[e,bind_some,some.injEq,decide_eq_decide];constructor
  .intro bc;by_cases aq:x∈a
   .exact aq
   .have:=key.2 aq;omega
  .intro aq;by_cases bc:kt (λi=>a.getD i []==x) 0 a.length<0
   .exact absurd aq (key.1 bc)
   .omega
end Go.k6
