/- Part of a proof that a law returns true for every input. No condition. -/
import Derived.Test.YtmaepbgkcmjcjafGreatDoorUV5x
import Derived.Test.YtmaepbgkcmjcjafGreatDoorUV0x
import GoSem.Op.String
import Derived.Test.YtmaepbgkcmjcjafGreatDoorUV4x
import Derived.Test.YtmaepbgkcmjcjafGreatDoorUV3x
namespace Go.kX
open Option Go.IntKind Nat
open Go Go.eg
section
open Classical
noncomputable def mj {α:Type} (a b:α):Bool:=decide (a=b)
theorem p9 {α:Type} {a b:α}:mj a b=true↔a=b:=by unfold mj;exact decide_eq_true_iff
noncomputable def hS {α:Type} (o:List α) (m:α):List α:=if m∈o then o else o++[m]
end
theorem au2 {α:Type} {o:List α} {m:α} (h:m∈o):hS o m=o:=if_pos h
theorem au3 {α:Type} {o:List α} {m:α} (h:m∉o):hS o m=o++[m]:=if_neg h
theorem Tc {α:Type} (o:List α) (m:α):o.length<=(hS o m).length/\(hS o m).length<=o.length+1:=by
 unfold hS;split
 .omega
 .simp
theorem LH {α:Type} {o:List α} {m x:α} (h:x∈hS o m):x∈o\/x=m:=by
 unfold hS at h;split at h
 .exact .inl h
 .simpa using h
noncomputable def iS {α:Type} (o:List α) (m:α):List α:=if 200<o.length then o else hS o m
theorem Td {α:Type}:∀(l o:List α),o.length<=(l.foldl hS o).length/\(l.foldl hS o).length<=o.length+l.length
 |[],o=>by simp
 |s::r,o=>by
  have ad:=Tc o s;have af:=Td r (hS o s);rw[List.foldl_cons,List.length_cons];omega
theorem Te {α:Type}:∀(l o:List α),200<o.length->l.foldl iS o=o
 |[],o,_=>rfl
 |s::r,o,h=>by rw[List.foldl_cons,show iS o s=o by unfold iS;rw[if_pos h],Te r o h]
theorem abT {α:Type}:∀(l o:List α),((l.foldl hS o).length<=200->l.foldl iS o=l.foldl hS o)/\(200<(l.foldl hS o).length->200<(l.foldl iS o).length)
 |[],o=>⟨λ_=>rfl,λh=>h⟩
 |s::r,o=>by
  by_cases h:200<o.length
  .rw[Te _ _ h];have:=(Td (s::r) o).1;exact⟨λaf=>by omega,λ_=>h⟩
  .rw[List.foldl_cons,List.foldl_cons,show iS o s=hS o s by unfold iS;rw[if_neg h]];exact abT r (hS o s)
def nW {α:Type} (K:α->ayc) (p:List α×aya) (s:α):List α×aya:=
 if j1 (K s) p.2=true then p else(p.1++[s],kh (K s) true p.2)
theorem au4 {α:Type} (K:α->ayc) (p:List α×aya) (s:α):(nW K p s).1.length<=p.1.length+1:=by
 unfold nW;split
 .omega
 .simp
theorem abU {α:Type} (K:α->ayc):∀(l:List α) (p:List α×aya),(l.foldl (nW K) p).1.length<=p.1.length+l.length
 |[],p=>Nat.le_refl _
 |s::r,p=>by
  have ad:=abU K r (nW K p s);have af:=au4 K p s;rw[List.foldl_cons,List.length_cons];omega
theorem Tf {α:Type} {K:α->ayc} {G:α->Prop} (jJ:∀x y,G x->G y->K x=K y->x=y):∀(l o:List α) (m:aya),(∀x∈l,G x)->(∀x∈o,G x)->(∀s,G s->(j1 (K s) m=true↔s∈o))->
  (l.foldl (nW K) (o,m)).1=l.foldl hS o
 |[],o,m,_,_,_=>rfl
 |s::r,o,m,hl,bI,hm=>by
  have ab:=hl s (by simp);rw[List.foldl_cons,List.foldl_cons];by_cases h:s∈o
  .rw[au2 h,show nW K (o,m) s=(o,m)from if_pos ((hm s ab).2 h)];exact Tf jJ r o m (λx ao=>hl x (List.mem_cons_of_mem _ ao)) bI hm
  .rw[au3 h,show nW K (o,m) s=(o++[s],kh (K s) true m)from if_neg λe=>h ((hm s ab).1 e)];refine Tf jJ r _ _ (λx ao=>hl x (List.mem_cons_of_mem _ ao)) (λx ao=>?_) λx ao=>?_
   .rcases List.mem_append.1 ao with ao|ao
    .exact bI x ao
    .rw[List.mem_singleton]at ao;rwa [ao]
   .rw[S4,List.mem_append,List.mem_singleton,<-hm x ao];split
    .rename_i e;exact⟨λ_=>.inr (jJ _ _ ab ao e).symm,λ_=>rfl⟩
    .rename_i e;exact⟨.inl,λq=>q.elim id λq=>absurd (by rw[q]) e⟩
structure kA (p:bd):Prop where
 wN:∃i:Nat,i<100/\p.cp=(i:Int)
 wO:∃j:Nat,j<100/\p.Part=(j:Int)
 kg:p.bH.length<=64/\∀x∈p.bH,gl x
theorem fG.next {s:bk} (h:fG s):kA s.Next:=⟨h.wN,h.wO,h.kg⟩
def o0 (p:bd):ayc:=(jg p.cp.toNat++[58])++((jg p.Part.toNat++[58])++iK p.bH)
def Aw (q:ayz):ayc:=jE (q.map o0) [32]
theorem au5 {p:bd} (h:kA p):(o0 p).length<=300:=by
 have ad:=wD p.cp.toNat;have af:=wD p.Part.toNat;have aG:=wK p.bH;have bf:=h.kg.1;simp only[o0,List.length_append,List.length_cons,List.length_nil];omega
theorem au6 {p:bd} (h:kA p):zz p=some (o0 p):=by
 obtain⟨i,aj,iy⟩:=h.wN;obtain⟨j,bF,oy⟩:=h.wO;have ad:=wD i;have af:=wD j;have aG:=wK p.bH;have bf:=h.kg.1;unfold zz J_ o0;simp only[iy,oy,Ai i aj,Ai j bF,bind_some,SJ _ bf h.kg.2,Int.toNat_natCast];rw[mh (by omega),mh (by omega)];simp only[bind_some];rw[mh (by simp only[List.length_append,List.length_cons,List.length_nil];omega)];simp only[bind_some];rw[mh (by simp only[List.length_append,List.length_cons,List.length_nil];omega)];rfl
theorem abV {q:ayz} (h:∀p∈q,kA p):(Aw q).length<=q.length*301:=by
 have:=Hy 32 300 (q.map o0) λx ao=>by
  obtain⟨y,hy,rfl⟩:=List.mem_map.1 ao;exact au5 (h y hy)
 rwa [List.length_map]at this
theorem au7 {q:ayz} (cy:q.length<=100) (h:∀p∈q,kA p):Kj q=some (Aw q):=by
 have bF:strings_Join (q.map o0) [32]=some (Aw q):=by
  have:=abV h;unfold strings_Join;rw[if_pos ⟨by rw[List.length_map];omega,by unfold Aw at this;omega⟩];rfl
 have key:∀i,i<=q.length->∀(v:ayb) m,v.length=i->q.length-i<m->Cz q m v (i:Int)=strings_Join (v++(q.drop i).map o0) [32]:=by
  refine down q.length ?_ ?_
  .intro v m si hm;obtain⟨m,rfl⟩:∃j,m=j+1:=⟨m-1,by omega⟩
   simp only[Cz,Qg];rw[eb (Nat.le_refl _),List.drop_of_length_le (Nat.le_refl _),List.map_nil,List.append_nil,cond_false];cases strings_Join v [32]<;>rfl
  .intro i aj ih v m si hm;obtain⟨m,rfl⟩:∃j,m=j+1:=⟨m-1,by omega⟩
   simp only[Cz,Qg];rw[ey aj,dV _ i aj,eo i _ aj (by omega)];simp only[cond_true,bind_some,au6 (h _ (List.getElem_mem aj))];rw[lR (by omega) (by omega),bind_some,ih (v++[_]) m (by simp[si]) (by omega),drop_cons q i aj,List.map_cons,List.append_assoc];rfl
 unfold Kj;refine fb (q.length+1) λm hm=>?_;have:=key 0 (by omega) [] m rfl (by omega);rw[List.drop_zero,List.nil_append,bF]at this;exact this
theorem au8 {p:bd} (h:kA p):∀c∈o0 p,44<=c.toNat:=by
 obtain⟨i,aj,iy⟩:=h.wN;obtain⟨j,bF,oy⟩:=h.wO;intro c ar;unfold o0 at ar;rw[iy,oy,Int.toNat_natCast,Int.toNat_natCast]at ar;simp only[List.mem_append,List.mem_singleton]at ar;rcases ar with(ar|rfl)|(ar|rfl)|ar
 .have:=(wP i aj c ar).1;omega
 .decide
 .have:=(wP j bF c ar).1;omega
 .decide
 .exact(abu _ h.kg.2 c ar).1
theorem au9 {x y:bd} (ao:kA x) (hy:kA y) (h:o0 x=o0 y):x=y:=by
 obtain⟨i,aj,iy⟩:=ao.wN;obtain⟨j,bF,oy⟩:=ao.wO;obtain⟨tC,Eg,Tg⟩:=hy.wN;obtain⟨ax9,abW,Th⟩:=hy.wO;unfold o0 at h;rw[iy,oy,Tg,Th]at h;simp only[Int.toNat_natCast,List.append_assoc,List.singleton_append]at h;obtain⟨J,a2⟩:=u4 (ym aj) (ym Eg) h;obtain⟨a3,a4⟩:=u4 (ym bF) (ym abW) a2;have a5:=abB ao.kg.2 hy.kg.2 a4;have pI:=Au aj Eg J;have pb:=Au bF abW a3;cases x;cases y;simp only at iy oy Tg Th a5;rw[iy,oy,Tg,Th,a5,pI,pb]
theorem au_ {c:UInt8}:∀{a b:ayb},(∀x∈a,c∉x)->(∀x∈b,c∉x)->a≠[]->b≠[]->jE a [c]=jE b [c]->a=b:=by
 intro a b br aa ad af h;have:=congrArg (lS c) h
 rwa [LF c a ad br,LF c b af aa]at this
theorem abX:∀{a b:ayz},(∀x∈a,kA x)->(∀x∈b,kA x)->a.map o0=b.map o0->a=b
 |[],[],_,_,_=>rfl
 |[],_::_,_,_,h=>by cases h
 |_::_,[],_,_,h=>by cases h
 |x::xs,y::cP,ad,af,h=>by
  rw[List.map_cons,List.map_cons]at h;obtain⟨aP,aY⟩:=List.cons.inj h;rw[au9 (ad x (by simp)) (af y (by simp)) aP,abX (λz b8=>ad z (List.mem_cons_of_mem _ b8)) (λz b8=>af z (List.mem_cons_of_mem _ b8)) aY]
theorem ava {a b:ayz} (br:∀x∈a,kA x) (aa:∀x∈b,kA x) (hl:a.length=b.length) (h:Aw a=Aw b):a=b:=by
 have abY:∀q:ayz,(∀x∈q,kA x)->∀x∈q.map o0,(32:UInt8)∉x:=by
  intro q cy x ao hm;obtain⟨y,hy,rfl⟩:=List.mem_map.1 ao;have:=au8 (cy y hy) _ hm;revert this;decide
 by_cases a_:a=[]
 .subst a_;exact(List.length_eq_zero_iff.1 hl.symm).symm
 .have ad:b≠[]:=λe=>a_ (by rw[e]at hl;exact List.length_eq_zero_iff.1 hl);exact abX br aa (au_ (abY a br) (abY b aa) (by simpa using a_) (by simpa using ad) h)
structure iM (n:Nat) (m:a1):Prop where
 yl:m.Label.length<=400/\(32:UInt8)∉m.Label
 fst:∃i:Nat,i<100/\m.gH=(i:Int)
 snd:m.Second= -1\/∃k:Nat,k<100/\m.Second=(k:Int)
 st:m.State.length=n/\∀p∈m.State,kA p
def r4 (x:Int):ayc:=if x<0 then [45,49]else jg x.toNat
def o1 (m:a1):ayc:=(((((m.Label++[32])++jg m.gH.toNat)++[32])++r4 m.Second)++[32])++Aw m.State
theorem Ti {x:Int} (h:x= -1\/∃k:Nat,k<100/\x=(k:Int)):ry x=some (r4 x)/\(r4 x).length<=2/\(32:UInt8)∉r4 x:=by
 rcases h with rfl|⟨k,au,rfl⟩
 .refine⟨?_,by decide,by decide⟩;unfold ry Cm Gb;rw[show((-1:Int).natAbs)=1 from rfl,xS];rfl
 .have e:r4 (k:Int)=jg k:=by unfold r4;rw[if_neg (by omega),Int.toNat_natCast]
  rw[e];refine⟨Ai k au,wD k,λhm=>?_⟩;have:=wP k au _ hm;revert this;decide
theorem avb {x y:Int} (ao:x= -1\/∃k:Nat,k<100/\x=(k:Int)) (hy:y= -1\/∃k:Nat,k<100/\y=(k:Int)) (h:r4 x=r4 y):x=y:=by
 have no:∀k:Nat,k<100->r4 (k:Int)≠[45,49]:=by
  intro k au e;have aP:r4 (k:Int)=jg k:=by unfold r4;rw[if_neg (by omega),Int.toNat_natCast]
  rw[aP]at e;have:=wP k au 45 (by rw[e];simp);revert this;decide
 rcases ao with rfl|⟨k,au,rfl⟩<;>rcases hy with rfl|⟨l,hl,rfl⟩
 .rfl
 .exact absurd h.symm (no l hl)
 .exact absurd h (no k au)
 .unfold r4 at h;rw[if_neg (by omega),if_neg (by omega),Int.toNat_natCast,Int.toNat_natCast]at h;rw[Au au hl h]
theorem avc {n:Nat} (x y:a1) (ao:iM n x) (hy:iM n y) (h:o1 x=o1 y):x=y:=by
 obtain⟨i,aj,iy⟩:=ao.fst;obtain⟨j,bF,oy⟩:=hy.fst;unfold o1 at h;rw[iy,oy]at h;simp only[Int.toNat_natCast,List.append_assoc,List.singleton_append]at h;obtain⟨J,a2⟩:=u4 ao.yl.2 hy.yl.2 h;have Hi:∀k:Nat,k<100->(32:UInt8)∉jg k:=λk au hm=>by
  have:=wP k au _ hm;revert this;decide
 obtain⟨a3,a4⟩:=u4 (Hi i aj) (Hi j bF) a2;obtain⟨a5,pI⟩:=u4 (Ti ao.snd).2.2 (Ti hy.snd).2.2 a4;have pb:=avb ao.snd hy.snd a5;have Mw:=ava ao.st.2 hy.st.2 (by rw[ao.st.1,hy.st.1]) pI;have a9:=Au aj bF a3;cases x;cases y;simp only at iy oy J pb Mw;rw[iy,oy,J,pb,Mw,a9]
set_option linter.unusedSimpArgs false
theorem Tj (a b:ayc):(!(Op.bytesLess a b))=(Op.bytesLess b a||b==a):=by
 induction a generalizing b with
 |nil=>cases b<;>simp[Op.bytesLess]
 |cons x a ih=>
  cases b with
  |nil=>simp[Op.bytesLess]
  |cons y b=>
   simp only[Op.bytesLess];have:=ih b;by_cases ad:x<y
   .have af:¬y<x:=λh=>by have:=UInt8.lt_asymm ad h;exact this
    have aG:y≠x:=λh=>by subst h;exact absurd ad (UInt8.lt_irrefl _)
    simp[ad,af,aG]
   .by_cases af:y<x
    .have aG:x≠y:=λh=>by subst h;exact absurd af (UInt8.lt_irrefl _)
     simp[ad,af,aG]
    .have aG:x=y:=by
      have aP:=UInt8.not_lt.1 ad;have aY:=UInt8.not_lt.1 af;exact UInt8.le_antisymm aY aP
     subst aG;simp[ad,this]
theorem avd (a:ayc):Op.bytesLess a a=false:=by
 have:=Tj a a;cases h:Op.bytesLess a a with
 |false=>rfl
 |true=>rw[h]at this;simp at this
set_option linter.unusedSimpArgs false
def j0 (s:ayc):Bool:=hE s&& !(s==([116,97,117]:ayc))
theorem abZ (s:ayc):ue s=some (j0 s):=by unfold ue;rw[Dm];rfl
theorem LI (s:ayc) (ab:s.length<=1048576):uy s=some (j0 s):=SG s ab
theorem ave {β:Type} {l:Nat->Int->Option β} {n:Nat} (p:Nat->Bool) (mf bad:Option β) (a_:∀m,l (m+1) (n:Int)=mf)
  (ab:∀i,i<n->∀m,l (m+1) (i:Int)=cond (p i) (l m ((i+1:Nat):Int)) bad) (i0:Nat) (aj:i0<=n):bZ (λm=>l m (i0:Int))=cond ((List.range' i0 (n-i0)).all p) mf bad:=by
 refine fb (n+1) λm hm=>?_;refine up (λi=>cond ((List.range' i (n-i)).all p) mf bad) (λm=>?_) (λi aj m ih=>?_) i0 aj m (by omega)
 .rw[a_];simp
 .rw[ab i aj,ih,show n-i=(n-(i+1))+1 by omega,List.range'_succ];cases ax:p i<;>simp[ax]
def p_ (a:ayb) (i:Nat):Bool:=decide (i=0)||Op.bytesLess (a.getD (i-1) []) (a.getD i [])
def u6 (a:ayb):Bool:=decide (a.length<=12)&&(fZ (λi=>j0 (a.getD i [])) a.length&&fZ (p_ a) a.length)
theorem ab0 (a:ayb) (h:a.length<=1048576):FF a=some (u6 a):=by
 unfold FF u6;by_cases hl:12<a.length
 .have d1:decide ((12:Int)<(a.length:Int))=true:=decide_eq_true (by omega);have d2:decide (a.length<=12)=false:=decide_eq_false (by omega);rw[d1,d2];rfl
 .have d1:decide ((12:Int)<(a.length:Int))=false:=decide_eq_false (by omega);have d2:decide (a.length<=12)=true:=decide_eq_true (by omega);have rX:Jm a=some (fZ (λi=>j0 (a.getD i [])) a.length):=by
   unfold Jm;refine Hs (l:=λm i=>BE a m i) _ (λm=>?_) (λi aj m=>?_)
   .simp only[BE,OT];rw[eb (Nat.le_refl _)];rfl
   .simp only[BE,OT];rw[ey aj,me _ i [] aj,eo i _ aj (by omega)];simp only[cond_true,bind_some,abZ];cases j0 (a.getD i [])<;>rfl
  rw[d1,d2,rX];simp only[cond_false,bind_some,Bool.true_and];cases fZ (λi=>j0 (a.getD i [])) a.length
  .rfl
  .simp only[Bool.not_true,cond_false,Bool.true_and];by_cases a_:a.length=0
   .rw[fb (x:=some true) 1 (λm hm=>by
     obtain⟨k,rfl⟩:∃k,m=k+1:=⟨m-1,by omega⟩
     simp only[ri,Jn];rw[a_];rfl)]
    rw[a_];rfl
   .have key:=ave (l:=λm i=>ri a m i) (n:=a.length) (λi=>decide (i=0)||Op.bytesLess (a.getD (i-1) []) (a.getD i [])) (some true) (some false);have b8:ri a=ri a:=rfl;have:∀i,1<=i->i<=a.length->∀m,a.length-i<m->ri a m (i:Int)=cond ((List.range' i (a.length-i)).all (p_ a)) (some true) (some false):=by
     intro i ad af;refine down a.length (P:=λi=>1<=i->∀m,a.length-i<m->ri a m (i:Int)=cond ((List.range' i (a.length-i)).all (p_ a)) (some true) (some false)) ?_ ?_ i af ad
     .intro _ m hm;obtain⟨k,rfl⟩:∃k,m=k+1:=⟨m-1,by omega⟩
      simp only[ri,Jn];rw[eb (Nat.le_refl _)];simp
     .intro i aj ih ad m hm;obtain⟨k,rfl⟩:∃k,m=k+1:=⟨m-1,by omega⟩
      simp only[ri,Jn];rw[ey aj,Ht i (by omega) (by omega),me _ (i-1) [] (by omega),me _ i [] aj,eo i _ aj (by omega),ih (by omega) k (by omega),show a.length-i=(a.length-(i+1))+1 by omega,List.range'_succ];have aQ:p_ a i=Op.bytesLess (a.getD (i-1) []) (a.getD i []):=by
       unfold p_;have:decide (i=0)=false:=decide_eq_false (by omega);rw[this,Bool.false_or]
      simp only[cond_true,bind_some,List.all_cons,aQ];cases Op.bytesLess (a.getD (i-1) []) (a.getD i [])<;>rfl
    have Tk:=fb (f:=λm=>ri a m 1) (a.length+1) (λm hm=>this 1 (by omega) (by omega) m (by omega));rw[Tk];have e:fZ (p_ a) a.length=(List.range' 1 (a.length-1)).all (p_ a):=by
     unfold fZ;rw[List.range_eq_range',show a.length=(a.length-1)+1 by omega,List.range'_succ];simp[p_]
    rw[e];cases(List.range' 1 (a.length-1)).all (p_ a)<;>rfl
theorem avf {p q:Nat->Bool} {n:Nat}:(fZ p n&&fZ q n)=fZ (λi=>p i&&q i) n:=wJ.symm
theorem ab1 (a:ayb) (h:a.length<=1048576) (ab:∀s∈a,s.length<=1048576):F8 a=some (u6 a):=by
 unfold F8 u6;rw[avf];rw[Ao (l:=λm i=>Ch a m i) (n:=a.length) (λi=>j0 (a.getD i [])&&p_ a i) (some (decide ((a.length:Int)<=12))) (some false)]
 .have e:decide ((a.length:Int)<=12)=decide (a.length<=12):=decide_eq_decide.2 (by omega);rw[e];cases fZ (λi=>j0 (a.getD i [])&&p_ a i) a.length<;>cases decide (a.length<=12)<;>rfl
 .intro m;simp only[Ch,PN];rw[eb (Nat.le_refl _)];rfl
 .intro i aj m;simp only[Ch,PN];have hm:(a.getD i []).length<=1048576:=by
   have:a.getD i []=a[i]:=by simp[List.getD,aj]
   rw[this];exact ab _ (List.getElem_mem aj)
  rw[ey aj,me _ i [] aj,eo i _ aj (by omega)];simp only[cond_true,bind_some,LI _ hm];by_cases a_:i=0
  .subst a_;rw[Af];simp only[cond_false,p_,decide_true,Bool.true_or,Bool.and_true];cases j0 (a.getD 0 [])<;>rfl
  .rw[Sm a_,Ht i (by omega) (by omega),me _ (i-1) [] (by omega)];have aQ:p_ a i=Op.bytesLess (a.getD (i-1) []) (a.getD i []):=by
    unfold p_;have:decide (i=0)=false:=decide_eq_false a_;rw[this,Bool.false_or]
   have ba:=Tj (a.getD (i-1) []) (a.getD i []);simp only[cond_true,bind_some,aQ,<-ba];cases j0 (a.getD i [])<;>cases Op.bytesLess (a.getD (i-1) []) (a.getD i [])<;>rfl
def mE (cs:ayx) (i:Nat):df:=cs.getD i ⟨0,[]⟩
def Ax (e:ayw) (c:df):Bool:=
 cond (decide (0<=c.cp)&&decide (c.cp<=(e.length:Int)-1)) (((c.bH.length:Int)==(e.getD c.cp.toNat ⟨[],0,[]⟩).dP)&&yj c.bH) false
def u7 (s:cE):Bool:=(decide (1<=s.cL.length)&&decide (s.cL.length<=3))&&fZ (λi=>Ax s.c8 (mE s.cL i)) s.cL.length
theorem ab2 {e:ayw} {n:Int} (h:(decide (0<=n)&&decide (n<=(e.length:Int)-1))=true):bh e n=some (e.getD n.toNat ⟨[],0,[]⟩):=by
 simp only[Bool.and_eq_true,decide_eq_true_eq]at h;obtain⟨i,rfl⟩:∃i:Nat,n=i:=⟨n.toNat,by omega⟩
 exact me e i _ (by omega)
theorem avg (s:cE) (an:s.c8.length<=1048576) (ar:s.cL.length<=1048576) (aJ:∀c∈s.cL,c.bH.length<=1048576):Jk s=some (u7 s):=by
 unfold Jk u7;by_cases hl:1<=s.cL.length/\s.cL.length<=3
 .have d1:(((s.cL.length:Int)==0)||decide ((3:Int)<(s.cL.length:Int)))=false:=by
   rw[Bool.or_eq_false_iff,beq_eq_false_iff_ne,decide_eq_false_iff_not];omega
  have d2:(decide (1<=s.cL.length)&&decide (s.cL.length<=3))=true:=by simp;omega
  rw[d1,d2,cond_false,Bool.true_and];refine Hs (l:=λm i=>BD s m i) _ (λm=>?_) (λi aj m=>?_)
  .simp only[BD,OQ];rw[eb (Nat.le_refl _)];rfl
  .simp only[BD,OQ,l_];have hm:(mE s.cL i).bH.length<=1048576:=by
    have:mE s.cL i=s.cL[i]:=by simp[mE,List.getD,aj]
    rw[this];exact aJ _ (List.getElem_mem aj)
   rw[ey aj,me _ i ⟨0,[]⟩ aj,eo i _ aj (by omega),ew ((s.c8.length:Int)-1) (by omega)];show cond true (Option.bind (some (mE s.cL i)) _) _=_;simp only[cond_true,bind_some];unfold Ax;cases au:(decide (0<=(mE s.cL i).cp)&&decide ((mE s.cL i).cp<=(s.c8.length:Int)-1))
   .rfl
   .rw[ab2 au];simp only[Bool.not_true,cond_false,cond_true,bind_some,SV _ hm];have d_:(((mE s.cL i).bH.length:Int) !=(s.c8.getD (mE s.cL i).cp.toNat ⟨[],0,[]⟩).dP)= !(((mE s.cL i).bH.length:Int)==(s.c8.getD (mE s.cL i).cp.toNat ⟨[],0,[]⟩).dP):=rfl;rw[d_];cases(((mE s.cL i).bH.length:Int)==(s.c8.getD (mE s.cL i).cp.toNat ⟨[],0,[]⟩).dP)<;>cases yj (mE s.cL i).bH<;>rfl
 .have d1:(((s.cL.length:Int)==0)||decide ((3:Int)<(s.cL.length:Int)))=true:=by
   by_cases a_:s.cL.length=0
   .simp[a_]
   .have:decide ((3:Int)<(s.cL.length:Int))=true:=decide_eq_true (by omega);rw[this,Bool.or_true]
  have d2:(decide (1<=s.cL.length)&&decide (s.cL.length<=3))=false:=by
   rw[Bool.and_eq_false_iff,decide_eq_false_iff_not,decide_eq_false_iff_not];omega
  rw[d1,d2];rfl
theorem avh (e:ayw) (he:e.length<=1048576) (c:df) (ar:c.bH.length<=1048576):JV e c=some (Ax e c):=by
 unfold JV Ax;rw[Lp _ e.length he];simp only[bind_some];cases au:(decide (0<=c.cp)&&decide (c.cp<=(e.length:Int)-1))
 .rfl
 .rw[ab2 au];simp only[cond_true,bind_some,SW _ ar];cases((c.bH.length:Int)==(e.getD c.cp.toNat ⟨[],0,[]⟩).dP)<;>rfl
theorem avi (s:cE) (an:s.c8.length<=1048576) (ar:s.cL.length<=1048576) (aJ:∀c∈s.cL,c.bH.length<=1048576):
  JW s.cL s=some (!(fZ (λi=>Ax s.c8 (mE s.cL i)) s.cL.length)):=by
 unfold JW PI;rw[tf (n:=s.cL.length) (λi=> !(Ax s.c8 (mE s.cL i)))]
 .simp only[bind_some,wz,Bool.not_not]
 .intro m;simp only[F5,PH];rw[eb (Nat.le_refl _)];rfl
 .intro i aj m;simp only[F5,PH];have hm:(mE s.cL i).bH.length<=1048576:=by
   have:mE s.cL i=s.cL[i]:=by simp[mE,List.getD,aj]
   rw[this];exact aJ _ (List.getElem_mem aj)
  rw[ey aj,me _ i ⟨0,[]⟩ aj,eo i _ aj (by omega)];show cond true (Option.bind (some (mE s.cL i)) _) _=_;simp only[cond_true,bind_some,PG,avh _ an _ hm]
def eP (a:ayy) (i:Nat):b0:=a.getD i ⟨[],[],[]⟩
def Ay (p m:b0):Bool:=Op.bytesLess p.Left m.Left||(p.Left==m.Left&&Op.bytesLess p.cx m.cx)
def Az (a:ayy) (m:b0):Bool:=fZ (λj=> !((eP a j).Left==m.Result||(eP a j).cx==m.Result)) a.length
def AA (a:ayy) (i:Nat):Bool:=
 ((((j0 (eP a i).Left&&j0 (eP a i).cx)&&j0 (eP a i).Result)&&(Op.bytesLess (eP a i).Left (eP a i).cx||(eP a i).Left==(eP a i).cx))&&(decide (i=0)||Ay (eP a (i-1)) (eP a i)))&&Az a (eP a i)
def qR (a:ayy):Bool:=decide (a.length<=6)&&fZ (AA a) a.length
def LJ (a:ayy):Prop:=a.length<=1048576/\∀m∈a,m.Left.length<=1048576/\m.cx.length<=1048576/\m.Result.length<=1048576
theorem avj (p m:b0):((!(Op.bytesLess p.Left m.Left||p.Left==m.Left))||((p.Left==m.Left)&&(!(Op.bytesLess p.cx m.cx))))= !(Ay p m):=by
 unfold Ay;cases he:p.Left==m.Left
 .cases Op.bytesLess p.Left m.Left<;>rfl
 .have:p.Left=m.Left:=by simpa using he
  rw[this,avd];cases Op.bytesLess p.cx m.cx<;>rfl
def wR (a b:ayc):Int:=cond (Op.bytesLess a b) (-1) (cond (!(Op.bytesLess a b||a==b)) 1 0)
theorem avk (a b:ayc):JY a b=some (wR a b):=by
 unfold JY JX wR;simp only[bind_some,cond_false];cases Op.bytesLess a b<;>cases a==b<;>rfl
theorem avl (p m:b0):∃v,J1 p m=some v/\decide (0<=v)= !(Ay p m):=by
 have Tk:J0 [p.Left,p.cx] [m.Left,m.cx]=some (cond (wR p.Left m.Left !=0) (wR p.Left m.Left) (cond (wR p.cx m.cx !=0) (wR p.cx m.cx) 0)):=by
  unfold J0;refine fb 3 λn aV=>?_;obtain⟨n,rfl⟩:∃k,n=k+3:=⟨n-3,by omega⟩
  have gb:bh [p.Left,p.cx] 0=some p.Left:=rfl;have aP:bh [m.Left,m.cx] 0=some m.Left:=rfl;have aY:bh [p.Left,p.cx] 1=some p.cx:=rfl;have aU:bh [m.Left,m.cx] 1=some m.cx:=rfl;have fe:i64.wrap (0+1)=1:=by decide
  have hf:i64.wrap (1+1)=2:=by decide
  simp only[JZ,Xz,List.length_cons,List.length_nil,gb,aP,aY,aU,fe,hf,bind_some,avk];cases wR p.Left m.Left !=0
  .cases wR p.cx m.cx !=0<;>rfl
  .rfl
 unfold J1;rw[Tk];refine⟨_,rfl,?_⟩;unfold Ay wR;cases hl:Op.bytesLess p.Left m.Left
 .cases he:p.Left==m.Left
  .rfl
  .cases aQ:Op.bytesLess p.cx m.cx
   .cases p.cx==m.cx<;>rfl
   .rfl
 .rfl
theorem avm (a:ayy) (h:a.length<=1048576) (m:b0):F7 a m=some (!(Az a m)):=by
 unfold F7 PL;rw[tf (n:=a.length) (λj=>((eP a j).Left==m.Result||(eP a j).cx==m.Result))]
 .simp only[bind_some,wz];rfl
 .intro k;simp only[F6,PK];rw[eb (Nat.le_refl _)];rfl
 .intro i aj k;simp only[F6,PK];rw[ey aj,me _ i ⟨[],[],[]⟩ aj,eo i _ aj (by omega)];simp only[cond_true,bind_some,PJ];rfl
theorem avn {a:ayy} (h:LJ a) {i:Nat} (aj:i<a.length):(eP a i).Left.length<=1048576/\(eP a i).cx.length<=1048576/\(eP a i).Result.length<=1048576:=by
 have:eP a i=a[i]:=by simp[eP,List.getD,aj]
 rw[this];exact h.2 _ (List.getElem_mem aj)
theorem HG {a:ayy} {i:Nat} (aj:i<a.length):bh a (i:Int)=some (eP a i):=me a i _ aj
theorem avo (a:ayy) (h:LJ a):Jl a=some (qR a):=by
 unfold Jl qR;by_cases hl:6<a.length
 .have d1:decide ((6:Int)<(a.length:Int))=true:=decide_eq_true (by omega);have d2:decide (a.length<=6)=false:=decide_eq_false (by omega);rw[d1,d2];rfl
 .have d1:decide ((6:Int)<(a.length:Int))=false:=decide_eq_false (by omega);have d2:decide (a.length<=6)=true:=decide_eq_true (by omega);rw[d1,d2,cond_false,Bool.true_and];refine Hs (l:=λm i=>sG a m i) _ (λm=>?_) (λi aj m=>?_)
  .simp only[sG,OS];rw[eb (Nat.le_refl _)];rfl
  .have iJ:(bZ λn=>vD (sG a m) a (eP a i) n (i:Int) 0)=cond (Az a (eP a i)) (sG a m ((i+1:Nat):Int)) (some false):=by
    refine Ao (l:=λjG j=>vD (sG a m) a (eP a i) jG (i:Int) j) _ _ _ (λjG=>?_) (λj bF jG=>?_)
    .simp only[vD,OR];rw[eb (Nat.le_refl _),eo i _ aj (by omega)];rfl
    .simp only[vD,OR];rw[ey bF,HG bF,eo j _ bF (by omega)];simp only[cond_true,bind_some];cases((eP a j).Left==(eP a i).Result||(eP a j).cx==(eP a i).Result)<;>rfl
   simp only[sG,OS];rw[ey aj,HG aj];simp only[cond_true,bind_some,abZ,iJ];unfold AA;by_cases a_:i=0
   .subst a_;rw[Af];simp only[cond_false,decide_true,Bool.true_or,Bool.and_true];cases j0 (eP a 0).Left<;>cases j0 (eP a 0).cx<;>cases j0 (eP a 0).Result<;>cases(Op.bytesLess (eP a 0).Left (eP a 0).cx||(eP a 0).Left==(eP a 0).cx)<;>cases Az a (eP a 0)<;>rfl
   .rw[Sm a_,Ht i (by omega) (by omega),HG (show i-1<a.length by omega)];have an:decide (i=0)=false:=decide_eq_false a_;simp only[cond_true,bind_some,an,Bool.false_or,avj];cases j0 (eP a i).Left<;>cases j0 (eP a i).cx<;>cases j0 (eP a i).Result<;>cases(Op.bytesLess (eP a i).Left (eP a i).cx||(eP a i).Left==(eP a i).cx)<;>cases Ay (eP a (i-1)) (eP a i)<;>cases Az a (eP a i)<;>rfl
theorem avp (a:ayy) (h:LJ a):J2 a=some (qR a):=by
 unfold J2 qR;rw[Ao (l:=λm i=>Cg a m i) (n:=a.length) (AA a) (some (decide ((a.length:Int)<=6))) (some false)]
 .have e:decide ((a.length:Int)<=6)=decide (a.length<=6):=decide_eq_decide.2 (by omega);rw[e];cases fZ (AA a) a.length<;>cases decide (a.length<=6)<;>rfl
 .intro m;simp only[Cg,PM];rw[eb (Nat.le_refl _)];rfl
 .intro i aj m;have hl:=h.1;obtain⟨s1,s2,pg⟩:=avn h aj;simp only[Cg,PM];rw[ey aj,HG aj,eo i _ aj (by omega)];simp only[cond_true,bind_some,LI _ s1,LI _ s2,LI _ pg,avm a hl];unfold AA;by_cases a_:i=0
  .subst a_;rw[Af];simp only[cond_false,decide_true,Bool.true_or,Bool.and_true];cases j0 (eP a 0).Left<;>cases j0 (eP a 0).cx<;>cases j0 (eP a 0).Result<;>cases(Op.bytesLess (eP a 0).Left (eP a 0).cx||(eP a 0).Left==(eP a 0).cx)<;>cases Az a (eP a 0)<;>rfl
  .rw[Sm a_,Ht i (by omega) (by omega),HG (show i-1<a.length by omega)];obtain⟨v,v1,v2⟩:=avl (eP a (i-1)) (eP a i);have an:decide (i=0)=false:=decide_eq_false a_;simp only[cond_true,bind_some,an,Bool.false_or,v1,v2];cases j0 (eP a i).Left<;>cases j0 (eP a i).cx<;>cases j0 (eP a i).Result<;>cases(Op.bytesLess (eP a i).Left (eP a i).cx||(eP a i).Left==(eP a i).cx)<;>cases Ay (eP a (i-1)) (eP a i)<;>cases Az a (eP a i)<;>rfl
def u9 (s:cE):Prop:=pE s.c8/\(s.cL.length<=1048576/\∀c∈s.cL,c.bH.length<=1048576)/\LJ s.cz/\
 (s.dj.length<=1048576/\∀x∈s.dj,x.length<=1048576)/\(s.dk.length<=1048576/\∀x∈s.dk,x.length<=1048576)
noncomputable def mF (s:cE):Int:=cond (!lU s.c8) 1 (cond (!u7 s) 2 (cond (!qR s.cz) 3 (cond (!u6 s.dj) 4 (cond (!u6 s.dk) 5 0))))
theorem avq (s:cE) (h:u9 s):Jo s=some (mF s):=by
 obtain⟨ad,af,aG,bf,bU⟩:=h;unfold Jo mF;rw[at6 _ ad,avg s ad.1 af.1 af.2,avo _ aG,ab0 _ bf.1,ab0 _ bU.1];simp only[bind_some];cases lU s.c8<;>cases u7 s<;>cases qR s.cz<;>cases u6 s.dj<;>cases u6 s.dk<;>rfl
theorem avr (s:cE) (h:u9 s):J3 s=some (mF s):=by
 obtain⟨ad,af,aG,bf,bU⟩:=h;unfold J3 k2 mF u7;have nj:decide ((1:Int)<=(s.cL.length:Int))=decide (1<=s.cL.length):=decide_eq_decide.2 (by omega);have lf:decide ((s.cL.length:Int)<=3)=decide (s.cL.length<=3):=decide_eq_decide.2 (by omega);rw[aua _ ad,avi s ad.1 af.1 af.2,avp _ aG,ab1 _ bf.1 bf.2,ab1 _ bU.1 bU.2];simp only[bind_some];rw[nj,lf];cases lU s.c8<;>cases(decide (1<=s.cL.length)&&decide (s.cL.length<=3))<;>cases fZ (λi=>Ax s.c8 (mE s.cL i)) s.cL.length<;>
  cases qR s.cz<;>cases u6 s.dj<;>cases u6 s.dk<;>rfl
theorem avs {s:cE} (h:tn s<=1048576):u9 s:=by
 unfold tn at h;refine⟨at5 (by omega),⟨Nat.le_trans (ju na _) (by omega),λc ar=>?_⟩,⟨Nat.le_trans (ju nb _) (by omega),λm hm=>?_⟩,⟨Nat.le_trans (ju List.length _) (by omega),λx ao=>?_⟩,⟨Nat.le_trans (ju List.length _) (by omega),λx ao=>?_⟩⟩
 .have ad:na c<=dS na s.cL:=mB ar;have af:na c<=1048576:=by omega
  clear ad;unfold na at af;omega
 .have ad:nb m<=dS nb s.cz:=mB hm;have af:nb m<=1048576:=by omega
  clear ad;unfold nb at af;omega
 .have ad:x.length<=dS List.length s.dj:=mB ao;omega
 .have ad:x.length<=dS List.length s.dk:=mB ao;omega
theorem avt (a:oN) (br:E7 a):
  ∃r,Fg a 1048576=some r/\(decide (r<0)=false->xH a=some (u2 a)/\Gx (u2 a) (u2 a)=some true/\
   u9 (u2 a)/\r=1048576-(yi a:Nat)/\0<=r):=by
 refine⟨_,atk a 1048576 br (by omega) (by omega),λh=>?_⟩;by_cases ab:yi a<=1048576
 .have tS:tn (u2 a)<=1048576:=by rw[aa3];exact ab
  exact⟨atC a ab,atV _ tS,avs tS,Hq (by omega),by rw[Hq (by omega)];omega⟩
 .rw[Hr (by omega)]at h;simp at h
theorem avu (s:cE) (h:u9 s):Jp s=some (mF s==0):=by unfold Jp;rw[avq s h];rfl
theorem avv (s:cE) (h:u9 s):J4 s=some (mF s==0):=by unfold J4;rw[avr s h];rfl
theorem Tl {s:cE} (h:(mF s==0)=true):lU s.c8=true:=by
 cases an:lU s.c8
 .unfold mF at h;rw[an]at h;simp at h
 .rfl
noncomputable def yq (e:ayw) (p:bd):Bool:=(sH e p).getD false
theorem Tm (e:ayw) (h:pE e) (aJ:lU e=true) (p:bd) (ax:p.bH.length<=1048576):sH e p=some (yq e p)/\F9 e p=some (yq e p):=by
 obtain⟨b,ad,af⟩:=auX e h aJ p ax;have:yq e p=b:=by unfold yq;rw[ad];rfl
 rw[this];exact⟨ad,af⟩
def tt (q:ayz) (i:Nat):bd:=q.getD i ⟨0,0,[]⟩
noncomputable def wS (s:cE) (q:ayz):Bool:=((q.length:Int)==(s.cL.length:Int))&&fZ (λi=>yq s.c8 (tt q i)) q.length
theorem ab3 {q:ayz} (aJ:∀p∈q,p.bH.length<=1048576) {i:Nat} (aj:i<q.length):(tt q i).bH.length<=1048576:=by
 have:tt q i=q[i]:=by simp[tt,List.getD,aj]
 rw[this];exact aJ _ (List.getElem_mem aj)
theorem avw (s:cE) (h:pE s.c8) (an:lU s.c8=true) (q:ayz) (cy:q.length<=1048576) (aJ:∀p∈q,p.bH.length<=1048576):Jq s q=some (wS s q):=by
 unfold Jq wS;have e:((q.length:Int) !=(s.cL.length:Int))= !((q.length:Int)==(s.cL.length:Int)):=rfl;rw[e];cases((q.length:Int)==(s.cL.length:Int))
 .rfl
 .rw[Bool.true_and,Bool.not_true,cond_false];refine Hs (l:=λm i=>BF s q m i) _ (λm=>?_) (λi aj m=>?_)
  .simp only[BF,OU];rw[eb (Nat.le_refl _)];rfl
  .simp only[BF,OU];rw[ey aj,me _ i ⟨0,0,[]⟩ aj,eo i _ aj (by omega)];show cond true (Option.bind (some (tt q i)) _) _=_;simp only[cond_true,bind_some,(Tm _ h an _ (ab3 aJ aj)).1];cases yq s.c8 (tt q i)<;>rfl
theorem avx (s:cE) (h:pE s.c8) (an:lU s.c8=true) (q:ayz) (cy:q.length<=1048576) (aJ:∀p∈q,p.bH.length<=1048576):
  J5 q s=some (!(fZ (λi=>yq s.c8 (tt q i)) q.length)):=by
 unfold J5 PR;rw[tf (n:=q.length) (λi=> !(yq s.c8 (tt q i)))]
 .simp only[bind_some,wz,Bool.not_not]
 .intro m;simp only[F_,PQ];rw[eb (Nat.le_refl _)];rfl
 .intro i aj m;simp only[F_,PQ];rw[ey aj,me _ i ⟨0,0,[]⟩ aj,eo i _ aj (by omega)];show cond true (Option.bind (some (tt q i)) _) _=_;simp only[cond_true,bind_some,PO,(Tm _ h an _ (ab3 aJ aj)).2]
def r5 (a:ayy) (x y:ayc) (i:Nat):Bool:=((eP a i).Left==x)&&((eP a i).cx==y)
def r6 (a:ayy) (z:Int):ayc:=cond (decide (z<0)) [] (eP a z.toNat).Result
theorem Tn (p:Nat->Bool):∀(k i:Nat),ke p i k<((i+k:Nat):Int)
 |0,i=>by simp only[ke];omega
 |k+1,i=>by
  simp only[ke];split
  .omega
  .have:=Tn p k (i+1);omega
theorem ab4 (a:ayy) (br:a.length<=1048576) (x y:ayc) (avy:(Op.bytesLess x y||x==y)=true) (ab5:ayy->ayc->ayc->Option ayc):
  zq ab5 a x y=some (r6 a (ke (r5 a x y) 0 a.length)):=by
 unfold zq;rw[avy];simp only[Bool.not_true,cond_false];rw[p7 (l:=λm i=>B0 ab5 a x y m i) (n:=a.length) (λi=>some (r6 a (ke (r5 a x y) i (a.length-i))))]
 .rfl
 .intro m;simp only[B0,Pc];rw[eb (Nat.le_refl _),Nat.sub_self];rfl
 .intro i aj m ih;simp only[B0,Pc];rw[ey aj,me _ i ⟨[],[],[]⟩ aj,eo i _ aj (by omega)];show cond true (Option.bind (some (eP a i)) _) _=_;simp only[cond_true,bind_some];rw[ih,show a.length-i=(a.length-(i+1))+1 by omega];show cond (r5 a x y i) _ _=_;cases ax:r5 a x y i
  .simp only[ke,ax,cond_false];rfl
  .simp only[ke,ax,cond_true,if_true,r6];have:decide ((i:Int)<0)=false:=decide_eq_false (by omega);rw[this];rfl
theorem avz (a:ayy) (br:a.length<=1048576) (x y:ayc):
  FM a x y=some (r6 a (ke (r5 a (hT false x y) (hT true x y)) 0 a.length)):=by
 unfold FM;refine fb 2 λn aV=>?_;obtain⟨n,rfl⟩:∃k,n=k+2:=⟨n-2,by omega⟩
 show zq (B1 (n+1)) a x y=_;cases h:(Op.bytesLess x y||x==y)
 .have ad:(Op.bytesLess y x||y==x)=true:=by
   rw[<-Tj x y];cases hl:Op.bytesLess x y
   .rfl
   .rw[hl]at h;cases h
  have af:Op.bytesLess x y=false:=by cases hl:Op.bytesLess x y;·rfl
                                     .rw[hl]at h;cases h
  have aP:hT false x y=y:=by simp only[hT,h,Bool.false_eq_true,if_false]
  have aY:hT true x y=x:=by simp only[hT,af,Bool.not_false,if_true]
  unfold zq;rw[h];simp only[Bool.not_false,cond_true];show(zq (B1 n) a y x).bind _=_;rw[ab4 a br y x ad,aP,aY];rfl
 .have aP:hT false x y=x:=by simp only[hT,h,Bool.false_eq_true,if_false,if_true]
  have aY:hT true x y=y:=by
   cases hl:Op.bytesLess x y
   .rw[hl,Bool.false_or]at h;have:x=y:=by simpa using h
    subst this;simp[hT]
   .simp[hT,hl]
  rw[ab4 a br x y h,aP,aY]
theorem avA (s:cE) (br:s.cz.length<=1048576) (x y:ayc) (z:Int) (b8:z=ke (r5 s.cz (hT false x y) (hT true x y)) 0 s.cz.length):
  zF s x y=some (r6 s.cz z,!(decide (z<0))):=by
 unfold zF Qi;rw[tf (l:=λm i=>CC s.cz x y m i) (n:=s.cz.length) (r5 s.cz (hT false x y) (hT true x y)),<-b8]
 .simp only[bind_some];have hl:=Tn (r5 s.cz (hT false x y) (hT true x y)) s.cz.length 0;rw[<-b8]at hl;cases h:decide (z<0)
  .have a_:¬z<0:=of_decide_eq_false h;have e:bh s.cz z=some (eP s.cz z.toNat):=by
    obtain⟨i,rfl⟩:∃i:Nat,z=i:=⟨z.toNat,by omega⟩
    exact me s.cz i (⟨[],[],[]⟩:b0) (by omega)
   rw[e];simp only[r6,h];rfl
  .simp only[r6,h];rfl
 .intro m;simp only[CC,Qh];rw[eb (Nat.le_refl _)];rfl
 .intro i aj m;simp only[CC,Qh];rw[ey aj,me _ i ⟨[],[],[]⟩ aj,eo i _ aj (by omega)];rfl
theorem avB (s:cE) (aJ:(mF s==0)=true) (i:Nat) (aj:i<s.cz.length):((eP s.cz i).Result==([]:ayc))=false:=by
 have hm:qR s.cz=true:=by
  cases h:qR s.cz
  .unfold mF at aJ;rw[h]at aJ;revert aJ;cases lU s.c8<;>cases u7 s<;>simp
  .rfl
 unfold qR at hm;rw[Bool.and_eq_true]at hm;have ad:=oX.1 hm.2 i aj;unfold AA at ad;simp only[Bool.and_eq_true]at ad;have af:=ad.1.1.1.2;cases aQ:(eP s.cz i).Result
 .rw[aQ]at af;cases af
 .rfl
theorem avC (x y:bd) (h:x.bH.length<=1048576):BL x y=some (mj x y):=by
 have e:mj x y=((x.cp==y.cp)&&((x.Part==y.Part)&&(x.bH==y.bH))):=by
  rw[Bool.eq_iff_iff,p9];cases x;cases y;simp
 unfold BL;rw[S1 _ _ h,e];cases x.cp==y.cp<;>cases x.Part==y.Part<;>rfl
theorem avD (a b:ayz) (h:a.length<=1048576) (aJ:∀p∈a,p.bH.length<=1048576):Jz a b=some (mj a b):=by
 unfold Jz;by_cases hl:a.length=b.length
 .have e:((a.length:Int) !=(b.length:Int))=false:=by simp[hl]
  rw[e,cond_false];have:=p7 (n:=a.length) (l:=BT a b) (λi=>some (mj (a.drop i) (b.drop i))) (λm=>?_) (λi aj m ih=>?_)
  .simpa using this
  .simp only[BT,O8];rw[eb (Nat.le_refl _),List.drop_of_length_le (Nat.le_refl _),List.drop_of_length_le (by omega),cond_false];rw[show mj ([]:ayz) []=true from p9.2 rfl]
  .simp only[BT,O8];rw[ey aj,dV _ i aj,dV _ i (by omega),eo i _ aj (by omega),drop_cons a i aj,drop_cons b i (by omega)];simp only[cond_true,bind_some,ih,avC _ _ (aJ _ (List.getElem_mem aj))];have aY:mj (a[i]::a.drop (i+1)) (b[i]::b.drop (i+1))=(mj a[i] b[i]&&mj (a.drop (i+1)) (b.drop (i+1))):=by
    rw[Bool.eq_iff_iff,Bool.and_eq_true,p9,p9,p9,List.cons.injEq]
   rw[aY];cases mj a[i] b[i]<;>rfl
 .have e:((a.length:Int) !=(b.length:Int))=true:=by simp;omega
  have aY:mj a b=false:=by
   rw[<-Bool.not_eq_true,p9];intro h;exact hl (by rw[h])
  rw[e,cond_true,aY]
theorem LK {p:bd} (h:kA p):p.bH.length<=1048576:=by have:=h.kg.1;omega
theorem ab6 {n:Nat} (o:ayA) (m:a1) (h:o.length<=1048576) (aV:n<=100) (hg:∀x∈o,iM n x):zm o m=some (hS o m):=by
 unfold zm;rw[p7 (n:=o.length) (l:=BU o m) (λi=>some (cond (mj (m∈o.drop i) True) o (o++[m]))) (λk=>?_) (λi aj k ih=>?_)]
 .rw[List.drop_zero];unfold hS;split
  .rename_i hm;rw[show mj (m∈o) True=true from p9.2 (by simp[hm])];rfl
  .rename_i hm;rw[show mj (m∈o) True=false from by rw[<-Bool.not_eq_true,p9];simp[hm]];rfl
 .simp only[BU,O9];rw[eb (Nat.le_refl _),lR (by omega) (by omega),List.drop_of_length_le (Nat.le_refl _),show mj (m∈([]:ayA)) True=false from by rw[<-Bool.not_eq_true,p9];simp];rfl
 .have g:=hg _ (List.getElem_mem aj);simp only[BU,O9];rw[ey aj,dV _ i aj,eo i _ aj (by omega),drop_cons o i aj];simp only[cond_true,bind_some,ih,avD o[i].State m.State (by have:=g.st.1;omega) (λp ax=>LK (g.st.2 p ax))];have e:mj (m∈o[i]::o.drop (i+1)) True=(mj o[i] m||mj (m∈o.drop (i+1)) True):=by
   rw[Bool.eq_iff_iff,Bool.or_eq_true,p9,p9,p9];simp only[List.mem_cons,eq_iff_iff,iff_true];rw[eq_comm (a:=m)]
  have aY:mj o[i] m=((o[i].Label==m.Label)&&((o[i].gH==m.gH)&&((o[i].Second==m.Second)&&mj o[i].State m.State))):=by
   rw[Bool.eq_iff_iff,p9];cases o[i];cases m;simp[p9]
  rw[e,aY];cases o[i].Label==m.Label
  .rfl
  .cases o[i].gH==m.gH
   .rfl
   .cases o[i].Second==m.Second
    .rfl
    .cases mj o[i].State m.State<;>rfl
theorem DG {q:ayz} (cy:q.length<=100) (h:∀p∈q,kA p):vI q=some q/\Ki q=some q:=by
 constructor
 .unfold vI;have key:∀i,i<=q.length->∀(v:ayz) m,v.length=i->q.length-i<m->BR q m v (i:Int)=some (v++q.drop i):=by
   refine down q.length ?_ ?_
   .intro v m aJ hm;obtain⟨m,rfl⟩:∃j,m=j+1:=⟨m-1,by omega⟩
    simp only[BR,O7];rw[eb (Nat.le_refl _),List.drop_of_length_le (Nat.le_refl _),List.append_nil];rfl
   .intro i aj ih v m aJ hm;obtain⟨m,rfl⟩:∃j,m=j+1:=⟨m-1,by omega⟩
    simp only[BR,O7];rw[ey aj,dV _ i aj,eo i _ aj (by omega)];simp only[cond_true,bind_some,SX _ (LK (h _ (List.getElem_mem aj)))];rw[lR (by omega) (by omega),bind_some,ih (v++[_]) m (by simp[aJ]) (by omega),drop_cons q i aj,List.append_assoc];rfl
  refine fb (q.length+1) λm hm=>?_;have:=key 0 (by omega) [] m rfl (by omega);simpa using this
 .unfold Ki;have key:∀i,i<=q.length->∀(v:ayz) m,v.length=i->q.length-i<m->Cy q m v (i:Int)=some (v++q.drop i):=by
   refine down q.length ?_ ?_
   .intro v m aJ hm;obtain⟨m,rfl⟩:∃j,m=j+1:=⟨m-1,by omega⟩
    simp only[Cy,Qf];rw[eb (Nat.le_refl _),List.drop_of_length_le (Nat.le_refl _),List.append_nil];rfl
   .intro i aj ih v m aJ hm;obtain⟨m,rfl⟩:∃j,m=j+1:=⟨m-1,by omega⟩
    simp only[Cy,Qf,zE];rw[ey aj,dV _ i aj,eo i _ aj (by omega)];simp only[cond_true,bind_some,LA _ (LK (h _ (List.getElem_mem aj)))];rw[lR (by omega) (by omega),bind_some,ih (v++[_]) m (by simp[aJ]) (by omega),drop_cons q i aj,List.append_assoc];rfl
  refine fb (q.length+1) λm hm=>?_;have:=key 0 (by omega) [] m rfl (by omega);simpa using this
theorem To {p:bd} (h:kA p):zE p=some p:=by
 unfold zE;rw[LA _ (LK h)];rfl
theorem HH (a:ayb) (x:ayc) (h:a.length<=1048576):(∃z,BQ a x=some z/\decide (z<0)= !decide (x∈a)/\decide (0<=z)=decide (x∈a))/\Cx a x=some (decide (x∈a)):=by
 have key:(ke (λi=>a.getD i []==x) 0 a.length<0↔x∉a):=by
  have:=wz (λi=>a.getD i []==x) a.length;constructor
  .intro a_ ao;rw[show decide (0<=ke (λi=>a.getD i []==x) 0 a.length)=false from decide_eq_false (by omega)]at this;have af:=(Bool.not_eq_false' .. ▸this.symm:fZ (λi=> !(a.getD i []==x)) a.length=true)
   obtain⟨k,au,rfl⟩:=List.mem_iff_getElem.1 ao;have:=oX.1 af k au;simp[List.getD,au]at this
  .intro ao;have af:fZ (λi=> !(a.getD i []==x)) a.length=true:=oX.2 λi aj=>by
    simp only[List.getD,List.getElem?_eq_getElem aj,getD_some,Bool.not_eq_true',beq_eq_false_iff_ne];intro e;exact ao (e▸List.getElem_mem aj)
   rw[af,Bool.not_true]at this;have:=of_decide_eq_false this;omega
 constructor
 .refine⟨ke (λi=>a.getD i []==x) 0 a.length,?_,?_,?_⟩
  .unfold BQ;exact tf (l:=BP a x) (n:=a.length) (λi=>a.getD i []==x) (λm=>by
    simp only[BP,O6];rw[eb (Nat.le_refl _)];rfl) (λi aj m=>by
    simp only[BP,O6];rw[ey aj,me _ i [] aj,eo i _ aj (by omega)];rfl)
  .rw[<-decide_not,decide_eq_decide];exact key
  .rw[decide_eq_decide];constructor
   .intro a_;by_cases ao:x∈a
    .exact ao
    .have:=key.2 ao;omega
   .intro ao;by_cases a_:ke (λi=>a.getD i []==x) 0 a.length<0
    .exact absurd ao (key.1 a_)
    .omega
 .unfold Cx Qe;have e:bZ (λn=>zD a x n 0)=some (ke (λi=>a.getD i []==x) 0 a.length):=
   tf (l:=zD a x) (n:=a.length) (λi=>a.getD i []==x) (λm=>by
    simp only[zD,Qd];rw[eb (Nat.le_refl _)];rfl) (λi aj m=>by
    simp only[zD,Qd];rw[ey aj,me _ i [] aj,eo i _ aj (by omega),Bool.beq_comm];rfl)
  rw[e,bind_some,some.injEq,decide_eq_decide];constructor
  .intro a_;by_cases ao:x∈a
   .exact ao
   .have:=key.2 ao;omega
  .intro ao;by_cases a_:ke (λi=>a.getD i []==x) 0 a.length<0
   .exact absurd ao (key.1 a_)
   .omega
end Go.kX
