/- Part of a proof that a law returns true for every input. No condition. -/
import Derived.Test.YtmaepbgkcmjcjajGreatDoorUV5x
import Derived.Test.YtmaepbgkcmjcjajGreatDoorUV0x
import GoSem.Op.String
import Derived.Test.YtmaepbgkcmjcjajGreatDoorUV4x
import Derived.Test.YtmaepbgkcmjcjajGreatDoorUV3x
namespace Go.ld
open Option Go.IntKind Nat Or
open Go Go.ep
section
open Classical
noncomputable def mA {α:Type} (a b:α):Bool:=decide (a=b)
theorem qq {α:Type} {a b:α}:mA a b=true↔a=b:=by unfold mA;exact decide_eq_true_iff
noncomputable def hO {α:Type} (o:List α) (m:α):List α:=if m∈o then o else o++[m]
end
theorem av0 {α:Type} {o:List α} {m:α} (h:m∈o):hO o m=o:=if_pos h
theorem av1 {α:Type} {o:List α} {m:α} (h:m∉o):hO o m=o++[m]:=if_neg h
theorem TP {α:Type} (o:List α) (m:α):o.length<=(hO o m).length/\(hO o m).length<=o.length+1:=by
 unfold hO;split
 .omega
 .simp
theorem Ia {α:Type} {o:List α} {m x:α} (h:x∈hO o m):x∈o\/x=m:=by
 unfold hO at h;split at h
 .exact .inl h
 .simpa using h
noncomputable def jc {α:Type} (o:List α) (m:α):List α:=if 200<o.length then o else hO o m
theorem TQ {α:Type}:∀(l o:List α),o.length<=(l.foldl hO o).length/\(l.foldl hO o).length<=o.length+l.length
 |[],o=>by simp
 |s::r,o=>by
  have ad:=TP o s;have af:=TQ r (hO o s);rw[List.foldl_cons,List.length_cons];omega
theorem TR {α:Type}:∀(l o:List α),200<o.length->l.foldl jc o=o
 |[],o,_=>rfl
 |s::r,o,h=>by rw[List.foldl_cons,show jc o s=o by unfold jc;rw[if_pos h],TR r o h]
theorem acj {α:Type}:∀(l o:List α),((l.foldl hO o).length<=200->l.foldl jc o=l.foldl hO o)/\(200<(l.foldl hO o).length->200<(l.foldl jc o).length)
 |[],o=>⟨λ_=>rfl,λh=>h⟩
 |s::r,o=>by
  by_cases h:200<o.length
  .rw[TR _ _ h];have:=(TQ (s::r) o).1;exact⟨λaf=>by omega,λ_=>h⟩
  .rw[List.foldl_cons,List.foldl_cons,show jc o s=hO o s by unfold jc;rw[if_neg h]];exact acj r (hO o s)
def ob {α:Type} (K:α->azq) (p:List α×azo) (s:α):List α×azo:=
 if kh (K s) p.2=true then p else(p.1++[s],ku (K s) true p.2)
theorem av2 {α:Type} (K:α->azq) (p:List α×azo) (s:α):(ob K p s).1.length<=p.1.length+1:=by
 unfold ob;split
 .omega
 .simp
theorem ack {α:Type} (K:α->azq):∀(l:List α) (p:List α×azo),(l.foldl (ob K) p).1.length<=p.1.length+l.length
 |[],p=>Nat.le_refl _
 |s::r,p=>by
  have ad:=ack K r (ob K p s);have af:=av2 K p s;rw[List.foldl_cons,List.length_cons];omega
theorem TS {α:Type} {K:α->azq} {G:α->Prop} (hK:∀x y,G x->G y->K x=K y->x=y):∀(l o:List α) (m:azo),(∀x∈l,G x)->(∀x∈o,G x)->(∀s,G s->(kh (K s) m=true↔s∈o))->
  (l.foldl (ob K) (o,m)).1=l.foldl hO o
 |[],o,m,_,_,_=>rfl
 |s::r,o,m,hl,bS,hm=>by
  have aa:=hl s (by simp);rw[List.foldl_cons,List.foldl_cons];by_cases h:s∈o
  .rw[av0 h,show ob K (o,m) s=(o,m)from if_pos ((hm s aa).2 h)];exact TS hK r o m (λx ao=>hl x (List.mem_cons_of_mem _ ao)) bS hm
  .rw[av1 h,show ob K (o,m) s=(o++[s],ku (K s) true m)from if_neg λe=>h ((hm s aa).1 e)];refine TS hK r _ _ (λx ao=>hl x (List.mem_cons_of_mem _ ao)) (λx ao=>?_) λx ao=>?_
   .rcases List.mem_append.1 ao with ao|ao
    .exact bS x ao
    .rw[List.mem_singleton]at ao;rwa [ao]
   .rw[TG,List.mem_append,List.mem_singleton,<-hm x ao];split
    .rename_i e;exact⟨λ_=>.inr (hK _ _ aa ao e).symm,λ_=>rfl⟩
    .rename_i e;exact⟨.inl,λq=>q.elim id λq=>absurd (by rw[q]) e⟩
structure jx (p:ba):Prop where
 xo:∃i:Nat,i<100/\p.cJ=(i:Int)
 xp:∃j:Nat,j<100/\p.Part=(j:Int)
 kt:p.b5.length<=64/\∀x∈p.b5,fW x
theorem fR.next {s:bl} (h:fR s):jx s.Next:=⟨h.xo,h.xp,h.kt⟩
def pb (p:ba):azq:=(iQ p.cJ.toNat++[58])++((iQ p.Part.toNat++[58])++iY p.b5)
def Be (q:azO):azq:=h1 (q.map pb) [32]
theorem av3 {p:ba} (h:jx p):(pb p).length<=300:=by
 have ad:=xf p.cJ.toNat;have af:=xf p.Part.toNat;have aG:=xm p.b5;have bh:=h.kt.1;simp only[pb,List.length_append,List.length_cons,List.length_nil];omega
theorem av4 {p:ba} (h:jx p):Ai p=some (pb p):=by
 obtain⟨i,ai,iP⟩:=h.xo;obtain⟨j,bQ,oO⟩:=h.xp;have ad:=xf i;have af:=xf j;have aG:=xm p.b5;have bh:=h.kt.1;unfold Ai KT pb;simp only[iP,oO,A1 i ai,A1 j bQ,bind_some,Tp _ bh h.kt.2,Int.toNat_natCast];rw[my (by omega),my (by omega)];simp only[bind_some];rw[my (by simp only[List.length_append,List.length_cons,List.length_nil];omega)];simp only[bind_some];rw[my (by simp only[List.length_append,List.length_cons,List.length_nil];omega)];rfl
theorem acm {q:azO} (h:∀p∈q,jx p):(Be q).length<=q.length*301:=by
 have:=H0 32 300 (q.map pb) λx ao=>by
  obtain⟨y,hy,rfl⟩:=List.mem_map.1 ao;exact av3 (h y hy)
 rwa [List.length_map]at this
theorem av5 {q:azO} (c6:q.length<=100) (h:∀p∈q,jx p):KY q=some (Be q):=by
 have bQ:strings_Join (q.map pb) [32]=some (Be q):=by
  have:=acm h;unfold strings_Join;rw[if_pos ⟨by rw[List.length_map];omega,by unfold Be at this;omega⟩];rfl
 have key:∀i,i<=q.length->∀(v:azp) m,v.length=i->q.length-i<m->Db q m v (i:Int)=strings_Join (v++(q.drop i).map pb) [32]:=by
  refine down q.length ?_ ?_
  .intro v m nc hm;obtain⟨m,rfl⟩:∃j,m=j+1:=⟨m-1,by omega⟩
   simp only[Db,QT];rw[ei (Nat.le_refl _),List.drop_of_length_le (Nat.le_refl _),List.map_nil,List.append_nil,cond_false];cases strings_Join v [32]<;>rfl
  .intro i ai ih v m nc hm;obtain⟨m,rfl⟩:∃j,m=j+1:=⟨m-1,by omega⟩
   simp only[Db,QT];rw[el ai,dX _ i ai,ek i _ ai (by omega)];simp only[cond_true,bind_some,av4 (h _ (List.getElem_mem ai))];rw[kO (by omega) (by omega),bind_some,ih (v++[_]) m (by simp[nc]) (by omega),drop_cons q i ai,List.map_cons,List.append_assoc];rfl
 unfold KY;refine e5 (q.length+1) λm hm=>?_;have:=key 0 (by omega) [] m rfl (by omega);rw[List.drop_zero,List.nil_append,bQ]at this;exact this
theorem av6 {p:ba} (h:jx p):∀c∈pb p,44<=c.toNat:=by
 obtain⟨i,ai,iP⟩:=h.xo;obtain⟨j,bQ,oO⟩:=h.xp;intro c au;unfold pb at au;rw[iP,oO,Int.toNat_natCast,Int.toNat_natCast]at au;simp only[List.mem_append,List.mem_singleton]at au;rcases au with(au|rfl)|(au|rfl)|au
 .have:=(xq i ai c au).1;omega
 .decide
 .have:=(xq j bQ c au).1;omega
 .decide
 .exact(abY _ h.kt.2 c au).1
theorem av7 {x y:ba} (ao:jx x) (hy:jx y) (h:pb x=pb y):x=y:=by
 obtain⟨i,ai,iP⟩:=ao.xo;obtain⟨j,bQ,oO⟩:=ao.xp;obtain⟨ue,ET,TT⟩:=hy.xo;obtain⟨azl,acn,TU⟩:=hy.xp;unfold pb at h;rw[iP,oO,TT,TU]at h;simp only[Int.toNat_natCast,List.append_assoc,List.singleton_append]at h;obtain⟨J,a2⟩:=vB (yV ai) (yV ET) h;obtain⟨a3,a4⟩:=vB (yV bQ) (yV acn) a2;have a5:=ab4 ao.kt.2 hy.kt.2 a4;have pY:=Ba ai ET J;have pq:=Ba bQ acn a3;cases x;cases y;simp only at iP oO TT TU a5;rw[iP,oO,TT,TU,a5,pY,pq]
theorem av8 {c:UInt8}:∀{a b:azp},(∀x∈a,c∉x)->(∀x∈b,c∉x)->a≠[]->b≠[]->h1 a [c]=h1 b [c]->a=b:=by
 intro a b bq ab ad af h;have:=congrArg (fV c) h
 rwa [Mn c a ad bq,Mn c b af ab]at this
theorem aco:∀{a b:azO},(∀x∈a,jx x)->(∀x∈b,jx x)->a.map pb=b.map pb->a=b
 |[],[],_,_,_=>rfl
 |[],_::_,_,_,h=>by cases h
 |_::_,[],_,_,h=>by cases h
 |x::xs,y::c8,ad,af,h=>by
  rw[List.map_cons,List.map_cons]at h;obtain⟨aP,aW⟩:=List.cons.inj h;rw[av7 (ad x (by simp)) (af y (by simp)) aP,aco (λz cd=>ad z (List.mem_cons_of_mem _ cd)) (λz cd=>af z (List.mem_cons_of_mem _ cd)) aW]
theorem av9 {a b:azO} (bq:∀x∈a,jx x) (ab:∀x∈b,jx x) (hl:a.length=b.length) (h:Be a=Be b):a=b:=by
 have acp:∀q:azO,(∀x∈q,jx x)->∀x∈q.map pb,(32:UInt8)∉x:=by
  intro q c6 x ao hm;obtain⟨y,hy,rfl⟩:=List.mem_map.1 ao;have:=av6 (c6 y hy) _ hm;revert this;decide
 by_cases a_:a=[]
 .subst a_;exact(List.length_eq_zero_iff.1 hl.symm).symm
 .have ad:b≠[]:=λe=>a_ (by rw[e]at hl;exact List.length_eq_zero_iff.1 hl);exact aco bq ab (av8 (acp a bq) (acp b ab) (by simpa using a_) (by simpa using ad) h)
structure jk (n:Nat) (m:br):Prop where
 A_:m.Label.length<=400/\(32:UInt8)∉m.Label
 fst:∃i:Nat,i<100/\m.ef=(i:Int)
 snd:m.Second= -1\/∃k:Nat,k<100/\m.Second=(k:Int)
 st:m.State.length=n/\∀p∈m.State,jx p
def sx (x:Int):azq:=if x<0 then [45,49]else iQ x.toNat
def pc (m:br):azq:=(((((m.Label++[32])++iQ m.ef.toNat)++[32])++sx m.Second)++[32])++Be m.State
theorem TV {x:Int} (h:x= -1\/∃k:Nat,k<100/\x=(k:Int)):rN x=some (sx x)/\(sx x).length<=2/\(32:UInt8)∉sx x:=by
 rcases h with rfl|⟨k,aw,rfl⟩
 .refine⟨?_,by decide,by decide⟩;unfold rN CX GL;rw[show((-1:Int).natAbs)=1 from rfl,yp];rfl
 .have e:sx (k:Int)=iQ k:=by unfold sx;rw[if_neg (by omega),Int.toNat_natCast]
  rw[e];refine⟨A1 k aw,xf k,λhm=>?_⟩;have:=xq k aw _ hm;revert this;decide
theorem av_ {x y:Int} (ao:x= -1\/∃k:Nat,k<100/\x=(k:Int)) (hy:y= -1\/∃k:Nat,k<100/\y=(k:Int)) (h:sx x=sx y):x=y:=by
 have no:∀k:Nat,k<100->sx (k:Int)≠[45,49]:=by
  intro k aw e;have aP:sx (k:Int)=iQ k:=by unfold sx;rw[if_neg (by omega),Int.toNat_natCast]
  rw[aP]at e;have:=xq k aw 45 (by rw[e];simp);revert this;decide
 rcases ao with rfl|⟨k,aw,rfl⟩<;>rcases hy with rfl|⟨l,hl,rfl⟩
 .rfl
 .exact absurd h.symm (no l hl)
 .exact absurd h (no k aw)
 .unfold sx at h;rw[if_neg (by omega),if_neg (by omega),Int.toNat_natCast,Int.toNat_natCast]at h;rw[Ba aw hl h]
theorem awa {n:Nat} (x y:br) (ao:jk n x) (hy:jk n y) (h:pc x=pc y):x=y:=by
 obtain⟨i,ai,iP⟩:=ao.fst;obtain⟨j,bQ,oO⟩:=hy.fst;unfold pc at h;rw[iP,oO]at h;simp only[Int.toNat_natCast,List.append_assoc,List.singleton_append]at h;obtain⟨J,a2⟩:=vB ao.A_.2 hy.A_.2 h;have HG:∀k:Nat,k<100->(32:UInt8)∉iQ k:=λk aw hm=>by
  have:=xq k aw _ hm;revert this;decide
 obtain⟨a3,a4⟩:=vB (HG i ai) (HG j bQ) a2;obtain⟨a5,pY⟩:=vB (TV ao.snd).2.2 (TV hy.snd).2.2 a4;have pq:=av_ ao.snd hy.snd a5;have Nf:=av9 ao.st.2 hy.st.2 (by rw[ao.st.1,hy.st.1]) pY;have a9:=Ba ai bQ a3;cases x;cases y;simp only at iP oO J pq Nf;rw[iP,oO,J,pq,Nf,a9]
set_option linter.unusedSimpArgs false
theorem TW (a b:azq):(!(Op.bytesLess a b))=(Op.bytesLess b a||b==a):=by
 induction a generalizing b with
 |nil=>cases b<;>simp[Op.bytesLess]
 |cons x a ih=>
  cases b with
  |nil=>simp[Op.bytesLess]
  |cons y b=>
   simp only[Op.bytesLess];have:=ih b;by_cases ad:x<y
   .have af:¬y<x:=λh=>by have:=UInt8.lt_asymm ad h;exact this
    have aG:y≠x:=λh=>by subst h;exact absurd ad (UInt8.lt_irrefl _)
    simp[ad,af,aG]
   .by_cases af:y<x
    .have aG:x≠y:=λh=>by subst h;exact absurd af (UInt8.lt_irrefl _)
     simp[ad,af,aG]
    .have aG:x=y:=by
      have aP:=UInt8.not_lt.1 ad;have aW:=UInt8.not_lt.1 af;exact UInt8.le_antisymm aW aP
     subst aG;simp[ad,this]
theorem awb (a:azq):Op.bytesLess a a=false:=by
 have:=TW a a;cases h:Op.bytesLess a a with
 |false=>rfl
 |true=>rw[h]at this;simp at this
set_option linter.unusedSimpArgs false
def kg (s:azq):Bool:=hk s&& !(s==([116,97,117]:azq))
theorem acq (s:azq):rA s=some (kg s):=by unfold rA;rw[yL];rfl
theorem Mp (s:azq) (aa:s.length<=1048576):rJ s=some (kg s):=Tl s aa
theorem awc {β:Type} {l:Nat->Int->Option β} {n:Nat} (p:Nat->Bool) (mw bad:Option β) (a_:∀m,l (m+1) (n:Int)=mw)
  (aa:∀i,i<n->∀m,l (m+1) (i:Int)=cond (p i) (l m ((i+1:Nat):Int)) bad) (i0:Nat) (ai:i0<=n):b3 (λm=>l m (i0:Int))=cond ((List.range' i0 (n-i0)).all p) mw bad:=by
 refine e5 (n+1) λm hm=>?_;refine up (λi=>cond ((List.range' i (n-i)).all p) mw bad) (λm=>?_) (λi ai m ih=>?_) i0 ai m (by omega)
 .rw[a_];simp
 .rw[aa i ai,ih,show n-i=(n-(i+1))+1 by omega,List.range'_succ];cases ay:p i<;>simp[ay]
def qs (a:azp) (i:Nat):Bool:=decide (i=0)||Op.bytesLess (a.getD (i-1) []) (a.getD i [])
def vD (a:azp):Bool:=decide (a.length<=12)&&(gq (λi=>kg (a.getD i [])) a.length&&gq (qs a) a.length)
theorem acr (a:azp) (h:a.length<=1048576):Gg a=some (vD a):=by
 unfold Gg vD;by_cases hl:12<a.length
 .have d1:decide ((12:Int)<(a.length:Int))=true:=decide_eq_true (by omega);have d2:decide (a.length<=12)=false:=decide_eq_false (by omega);rw[d1,d2];rfl
 .have d1:decide ((12:Int)<(a.length:Int))=false:=decide_eq_false (by omega);have d2:decide (a.length<=12)=true:=decide_eq_true (by omega);have sl:JS a=some (gq (λi=>kg (a.getD i [])) a.length):=by
   unfold JS;refine L4 (l:=λm i=>Cg a m i) _ (λm=>?_) (λi ai m=>?_)
   .simp only[Cg,Pz];rw[ei (Nat.le_refl _)];rfl
   .simp only[Cg,Pz];rw[el ai,np _ i [] ai,ek i _ ai (by omega)];simp only[cond_true,bind_some,acq];cases kg (a.getD i [])<;>rfl
  rw[d1,d2,sl];simp only[cond_false,bind_some,Bool.true_and];cases gq (λi=>kg (a.getD i [])) a.length
  .rfl
  .simp only[Bool.not_true,cond_false,Bool.true_and];by_cases a_:a.length=0
   .rw[e5 (x:=some true) 1 (λm hm=>by
     obtain⟨k,rfl⟩:∃k,m=k+1:=⟨m-1,by omega⟩
     simp only[rB,JT];rw[a_];rfl)]
    rw[a_];rfl
   .have key:=awc (l:=λm i=>rB a m i) (n:=a.length) (λi=>decide (i=0)||Op.bytesLess (a.getD (i-1) []) (a.getD i [])) (some true) (some false);have cd:rB a=rB a:=rfl;have:∀i,1<=i->i<=a.length->∀m,a.length-i<m->rB a m (i:Int)=cond ((List.range' i (a.length-i)).all (qs a)) (some true) (some false):=by
     intro i ad af;refine down a.length (P:=λi=>1<=i->∀m,a.length-i<m->rB a m (i:Int)=cond ((List.range' i (a.length-i)).all (qs a)) (some true) (some false)) ?_ ?_ i af ad
     .intro _ m hm;obtain⟨k,rfl⟩:∃k,m=k+1:=⟨m-1,by omega⟩
      simp only[rB,JT];rw[ei (Nat.le_refl _)];simp
     .intro i ai ih ad m hm;obtain⟨k,rfl⟩:∃k,m=k+1:=⟨m-1,by omega⟩
      simp only[rB,JT];rw[el ai,HU i (by omega) (by omega),np _ (i-1) [] (by omega),np _ i [] ai,ek i _ ai (by omega),ih (by omega) k (by omega),show a.length-i=(a.length-(i+1))+1 by omega,List.range'_succ];have aR:qs a i=Op.bytesLess (a.getD (i-1) []) (a.getD i []):=by
       unfold qs;have:decide (i=0)=false:=decide_eq_false (by omega);rw[this,Bool.false_or]
      simp only[cond_true,bind_some,List.all_cons,aR];cases Op.bytesLess (a.getD (i-1) []) (a.getD i [])<;>rfl
    have TX:=e5 (f:=λm=>rB a m 1) (a.length+1) (λm hm=>this 1 (by omega) (by omega) m (by omega));rw[TX];have e:gq (qs a) a.length=(List.range' 1 (a.length-1)).all (qs a):=by
     unfold gq;rw[List.range_eq_range',show a.length=(a.length-1)+1 by omega,List.range'_succ];simp[qs]
    rw[e];cases(List.range' 1 (a.length-1)).all (qs a)<;>rfl
theorem awd {p q:Nat->Bool} {n:Nat}:(gq p n&&gq q n)=gq (λi=>p i&&q i) n:=xl.symm
theorem acs (a:azp) (h:a.length<=1048576) (aa:∀s∈a,s.length<=1048576):GI a=some (vD a):=by
 unfold GI vD;rw[awd];rw[A5 (l:=λm i=>CT a m i) (n:=a.length) (λi=>kg (a.getD i [])&&qs a i) (some (decide ((a.length:Int)<=12))) (some false)]
 .have e:decide ((a.length:Int)<=12)=decide (a.length<=12):=decide_eq_decide.2 (by omega);rw[e];cases gq (λi=>kg (a.getD i [])&&qs a i) a.length<;>cases decide (a.length<=12)<;>rfl
 .intro m;simp only[CT,Qq];rw[ei (Nat.le_refl _)];rfl
 .intro i ai m;simp only[CT,Qq];have hm:(a.getD i []).length<=1048576:=by
   have:a.getD i []=a[i]:=by simp[List.getD,ai]
   rw[this];exact aa _ (List.getElem_mem ai)
  rw[el ai,np _ i [] ai,ek i _ ai (by omega)];simp only[cond_true,bind_some,Mp _ hm];by_cases a_:i=0
  .subst a_;rw[AZ];simp only[cond_false,qs,decide_true,Bool.true_or,Bool.and_true];cases kg (a.getD 0 [])<;>rfl
  .rw[SX a_,HU i (by omega) (by omega),np _ (i-1) [] (by omega)];have aR:qs a i=Op.bytesLess (a.getD (i-1) []) (a.getD i []):=by
    unfold qs;have:decide (i=0)=false:=decide_eq_false a_;rw[this,Bool.false_or]
   have a8:=TW (a.getD (i-1) []) (a.getD i []);simp only[cond_true,bind_some,aR,<-a8];cases kg (a.getD i [])<;>cases Op.bytesLess (a.getD (i-1) []) (a.getD i [])<;>rfl
def l7 (cs:azL) (i:Nat):cQ:=cs.getD i ⟨0,[]⟩
def yY (e:azK) (c:cQ):Bool:=
 cond (decide (0<=c.cJ)&&decide (c.cJ<=(e.length:Int)-1)) (((c.b5.length:Int)==(e.getD c.cJ.toNat ⟨[],0,[]⟩).dV)&&yT c.b5) false
def q3 (s:cY):Bool:=(decide (1<=s.b0.length)&&decide (s.b0.length<=3))&&gq (λi=>yY s.cI (l7 s.b0 i)) s.b0.length
theorem acu {e:azK} {n:Int} (h:(decide (0<=n)&&decide (n<=(e.length:Int)-1))=true):bj e n=some (e.getD n.toNat ⟨[],0,[]⟩):=by
 simp only[Bool.and_eq_true,decide_eq_true_eq]at h;obtain⟨i,rfl⟩:∃i:Nat,n=i:=⟨n.toNat,by omega⟩
 exact np e i _ (by omega)
theorem awe (s:cY) (aq:s.cI.length<=1048576) (au:s.b0.length<=1048576) (aJ:∀c∈s.b0,c.b5.length<=1048576):JQ s=some (q3 s):=by
 unfold JQ q3;by_cases hl:1<=s.b0.length/\s.b0.length<=3
 .have d1:(((s.b0.length:Int)==0)||decide ((3:Int)<(s.b0.length:Int)))=false:=by
   rw[Bool.or_eq_false_iff,beq_eq_false_iff_ne,decide_eq_false_iff_not];omega
  have d2:(decide (1<=s.b0.length)&&decide (s.b0.length<=3))=true:=by simp;omega
  rw[d1,d2,cond_false,Bool.true_and];refine L4 (l:=λm i=>Cf s m i) _ (λm=>?_) (λi ai m=>?_)
  .simp only[Cf,Pw];rw[ei (Nat.le_refl _)];rfl
  .simp only[Cf,Pw,mr];have hm:(l7 s.b0 i).b5.length<=1048576:=by
    have:l7 s.b0 i=s.b0[i]:=by simp[l7,List.getD,ai]
    rw[this];exact aJ _ (List.getElem_mem ai)
   rw[el ai,np _ i ⟨0,[]⟩ ai,ek i _ ai (by omega),eC ((s.cI.length:Int)-1) (by omega)];show cond true (Option.bind (some (l7 s.b0 i)) _) _=_;simp only[cond_true,bind_some];unfold yY;cases aw:(decide (0<=(l7 s.b0 i).cJ)&&decide ((l7 s.b0 i).cJ<=(s.cI.length:Int)-1))
   .rfl
   .rw[acu aw];simp only[Bool.not_true,cond_false,cond_true,bind_some,avE _ hm];have eo:(((l7 s.b0 i).b5.length:Int) !=(s.cI.getD (l7 s.b0 i).cJ.toNat ⟨[],0,[]⟩).dV)= !(((l7 s.b0 i).b5.length:Int)==(s.cI.getD (l7 s.b0 i).cJ.toNat ⟨[],0,[]⟩).dV):=rfl;rw[eo];cases(((l7 s.b0 i).b5.length:Int)==(s.cI.getD (l7 s.b0 i).cJ.toNat ⟨[],0,[]⟩).dV)<;>cases yT (l7 s.b0 i).b5<;>rfl
 .have d1:(((s.b0.length:Int)==0)||decide ((3:Int)<(s.b0.length:Int)))=true:=by
   by_cases a_:s.b0.length=0
   .simp[a_]
   .have:decide ((3:Int)<(s.b0.length:Int))=true:=decide_eq_true (by omega);rw[this,Bool.or_true]
  have d2:(decide (1<=s.b0.length)&&decide (s.b0.length<=3))=false:=by
   rw[Bool.and_eq_false_iff,decide_eq_false_iff_not,decide_eq_false_iff_not];omega
  rw[d1,d2];rfl
theorem awf (e:azK) (he:e.length<=1048576) (c:cQ) (au:c.b5.length<=1048576):Kw e c=some (yY e c):=by
 unfold Kw yY;rw[abv _ e.length he];simp only[bind_some];cases aw:(decide (0<=c.cJ)&&decide (c.cJ<=(e.length:Int)-1))
 .rfl
 .rw[acu aw];simp only[cond_true,bind_some,abT _ au];cases((c.b5.length:Int)==(e.getD c.cJ.toNat ⟨[],0,[]⟩).dV)<;>rfl
theorem awg (s:cY) (aq:s.cI.length<=1048576) (au:s.b0.length<=1048576) (aJ:∀c∈s.b0,c.b5.length<=1048576):
  Kx s.b0 s=some (!(gq (λi=>yY s.cI (l7 s.b0 i)) s.b0.length)):=by
 unfold Kx Ql;rw[sc (n:=s.b0.length) (λi=> !(yY s.cI (l7 s.b0 i)))]
 .simp only[bind_some,vr,Bool.not_not]
 .intro m;simp only[GF,Qk];rw[ei (Nat.le_refl _)];rfl
 .intro i ai m;simp only[GF,Qk];have hm:(l7 s.b0 i).b5.length<=1048576:=by
   have:l7 s.b0 i=s.b0[i]:=by simp[l7,List.getD,ai]
   rw[this];exact aJ _ (List.getElem_mem ai)
  rw[el ai,np _ i ⟨0,[]⟩ ai,ek i _ ai (by omega)];show cond true (Option.bind (some (l7 s.b0 i)) _) _=_;simp only[cond_true,bind_some,Qj,awf _ aq _ hm]
def eW (a:azM) (i:Nat):bX:=a.getD i ⟨[],[],[]⟩
def Bf (p m:bX):Bool:=Op.bytesLess p.Left m.Left||(p.Left==m.Left&&Op.bytesLess p.cH m.cH)
def Bg (a:azM) (m:bX):Bool:=gq (λj=> !((eW a j).Left==m.Result||(eW a j).cH==m.Result)) a.length
def Bh (a:azM) (i:Nat):Bool:=
 ((((kg (eW a i).Left&&kg (eW a i).cH)&&kg (eW a i).Result)&&(Op.bytesLess (eW a i).Left (eW a i).cH||(eW a i).Left==(eW a i).cH))&&(decide (i=0)||Bf (eW a (i-1)) (eW a i)))&&Bg a (eW a i)
def q4 (a:azM):Bool:=decide (a.length<=6)&&gq (Bh a) a.length
def Mq (a:azM):Prop:=a.length<=1048576/\∀m∈a,m.Left.length<=1048576/\m.cH.length<=1048576/\m.Result.length<=1048576
theorem awh (p m:bX):((!(Op.bytesLess p.Left m.Left||p.Left==m.Left))||((p.Left==m.Left)&&(!(Op.bytesLess p.cH m.cH))))= !(Bf p m):=by
 unfold Bf;cases he:p.Left==m.Left
 .cases Op.bytesLess p.Left m.Left<;>rfl
 .have:p.Left=m.Left:=by simpa using he
  rw[this,awb];cases Op.bytesLess p.cH m.cH<;>rfl
def xr (a b:azq):Int:=cond (Op.bytesLess a b) (-1) (cond (!(Op.bytesLess a b||a==b)) 1 0)
theorem awi (a b:azq):Kz a b=some (xr a b):=by
 unfold Kz Ky xr;simp only[bind_some,cond_false];cases Op.bytesLess a b<;>cases a==b<;>rfl
theorem awj (p m:bX):∃v,KC p m=some v/\decide (0<=v)= !(Bf p m):=by
 have TX:KB [p.Left,p.cH] [m.Left,m.cH]=some (cond (xr p.Left m.Left !=0) (xr p.Left m.Left) (cond (xr p.cH m.cH !=0) (xr p.cH m.cH) 0)):=by
  unfold KB;refine e5 3 λn aX=>?_;obtain⟨n,rfl⟩:∃k,n=k+3:=⟨n-3,by omega⟩
  have fY:bj [p.Left,p.cH] 0=some p.Left:=rfl;have aP:bj [m.Left,m.cH] 0=some m.Left:=rfl;have aW:bj [p.Left,p.cH] 1=some p.cH:=rfl;have aS:bj [m.Left,m.cH] 1=some m.cH:=rfl;have ft:i64.wrap (0+1)=1:=by decide
  have hR:i64.wrap (1+1)=2:=by decide
  simp only[KA,Yd,List.length_cons,List.length_nil,fY,aP,aW,aS,ft,hR,bind_some,awi];cases xr p.Left m.Left !=0
  .cases xr p.cH m.cH !=0<;>rfl
  .rfl
 unfold KC;rw[TX];refine⟨_,rfl,?_⟩;unfold Bf xr;cases hl:Op.bytesLess p.Left m.Left
 .cases he:p.Left==m.Left
  .rfl
  .cases aR:Op.bytesLess p.cH m.cH
   .cases p.cH==m.cH<;>rfl
   .rfl
 .rfl
theorem awk (a:azM) (h:a.length<=1048576) (m:bX):GH a m=some (!(Bg a m)):=by
 unfold GH Qo;rw[sc (n:=a.length) (λj=>((eW a j).Left==m.Result||(eW a j).cH==m.Result))]
 .simp only[bind_some,vr];rfl
 .intro k;simp only[GG,Qn];rw[ei (Nat.le_refl _)];rfl
 .intro i ai k;simp only[GG,Qn];rw[el ai,np _ i ⟨[],[],[]⟩ ai,ek i _ ai (by omega)];simp only[cond_true,bind_some,Qm];rfl
theorem awl {a:azM} (h:Mq a) {i:Nat} (ai:i<a.length):(eW a i).Left.length<=1048576/\(eW a i).cH.length<=1048576/\(eW a i).Result.length<=1048576:=by
 have:eW a i=a[i]:=by simp[eW,List.getD,ai]
 rw[this];exact h.2 _ (List.getElem_mem ai)
theorem Ib {a:azM} {i:Nat} (ai:i<a.length):bj a (i:Int)=some (eW a i):=np a i _ ai
theorem awm (a:azM) (h:Mq a):JR a=some (q4 a):=by
 unfold JR q4;by_cases hl:6<a.length
 .have d1:decide ((6:Int)<(a.length:Int))=true:=decide_eq_true (by omega);have d2:decide (a.length<=6)=false:=decide_eq_false (by omega);rw[d1,d2];rfl
 .have d1:decide ((6:Int)<(a.length:Int))=false:=decide_eq_false (by omega);have d2:decide (a.length<=6)=true:=decide_eq_true (by omega);rw[d1,d2,cond_false,Bool.true_and];refine L4 (l:=λm i=>s8 a m i) _ (λm=>?_) (λi ai m=>?_)
  .simp only[s8,Py];rw[ei (Nat.le_refl _)];rfl
  .have iO:(b3 λn=>wg (s8 a m) a (eW a i) n (i:Int) 0)=cond (Bg a (eW a i)) (s8 a m ((i+1:Nat):Int)) (some false):=by
    refine A5 (l:=λjY j=>wg (s8 a m) a (eW a i) jY (i:Int) j) _ _ _ (λjY=>?_) (λj bQ jY=>?_)
    .simp only[wg,Px];rw[ei (Nat.le_refl _),ek i _ ai (by omega)];rfl
    .simp only[wg,Px];rw[el bQ,Ib bQ,ek j _ bQ (by omega)];simp only[cond_true,bind_some];cases((eW a j).Left==(eW a i).Result||(eW a j).cH==(eW a i).Result)<;>rfl
   simp only[s8,Py];rw[el ai,Ib ai];simp only[cond_true,bind_some,acq,iO];unfold Bh;by_cases a_:i=0
   .subst a_;rw[AZ];simp only[cond_false,decide_true,Bool.true_or,Bool.and_true];cases kg (eW a 0).Left<;>cases kg (eW a 0).cH<;>cases kg (eW a 0).Result<;>cases(Op.bytesLess (eW a 0).Left (eW a 0).cH||(eW a 0).Left==(eW a 0).cH)<;>cases Bg a (eW a 0)<;>rfl
   .rw[SX a_,HU i (by omega) (by omega),Ib (show i-1<a.length by omega)];have aq:decide (i=0)=false:=decide_eq_false a_;simp only[cond_true,bind_some,aq,Bool.false_or,awh];cases kg (eW a i).Left<;>cases kg (eW a i).cH<;>cases kg (eW a i).Result<;>cases(Op.bytesLess (eW a i).Left (eW a i).cH||(eW a i).Left==(eW a i).cH)<;>cases Bf (eW a (i-1)) (eW a i)<;>cases Bg a (eW a i)<;>rfl
theorem awn (a:azM) (h:Mq a):KD a=some (q4 a):=by
 unfold KD q4;rw[A5 (l:=λm i=>CS a m i) (n:=a.length) (Bh a) (some (decide ((a.length:Int)<=6))) (some false)]
 .have e:decide ((a.length:Int)<=6)=decide (a.length<=6):=decide_eq_decide.2 (by omega);rw[e];cases gq (Bh a) a.length<;>cases decide (a.length<=6)<;>rfl
 .intro m;simp only[CS,Qp];rw[ei (Nat.le_refl _)];rfl
 .intro i ai m;have hl:=h.1;obtain⟨s1,s2,px⟩:=awl h ai;simp only[CS,Qp];rw[el ai,Ib ai,ek i _ ai (by omega)];simp only[cond_true,bind_some,Mp _ s1,Mp _ s2,Mp _ px,awk a hl];unfold Bh;by_cases a_:i=0
  .subst a_;rw[AZ];simp only[cond_false,decide_true,Bool.true_or,Bool.and_true];cases kg (eW a 0).Left<;>cases kg (eW a 0).cH<;>cases kg (eW a 0).Result<;>cases(Op.bytesLess (eW a 0).Left (eW a 0).cH||(eW a 0).Left==(eW a 0).cH)<;>cases Bg a (eW a 0)<;>rfl
  .rw[SX a_,HU i (by omega) (by omega),Ib (show i-1<a.length by omega)];obtain⟨v,v1,v2⟩:=awj (eW a (i-1)) (eW a i);have aq:decide (i=0)=false:=decide_eq_false a_;simp only[cond_true,bind_some,aq,Bool.false_or,v1,v2];cases kg (eW a i).Left<;>cases kg (eW a i).cH<;>cases kg (eW a i).Result<;>cases(Op.bytesLess (eW a i).Left (eW a i).cH||(eW a i).Left==(eW a i).cH)<;>cases Bf (eW a (i-1)) (eW a i)<;>cases Bg a (eW a i)<;>rfl
def tX (s:cY):Prop:=vx s.cI/\(s.b0.length<=1048576/\∀c∈s.b0,c.b5.length<=1048576)/\Mq s.cb/\
 (s.cD.length<=1048576/\∀x∈s.cD,x.length<=1048576)/\(s.cA.length<=1048576/\∀x∈s.cA,x.length<=1048576)
noncomputable def l8 (s:cY):Int:=cond (!nM s.cI) 1 (cond (!q3 s) 2 (cond (!q4 s.cb) 3 (cond (!vD s.cD) 4 (cond (!vD s.cA) 5 0))))
theorem awo (s:cY) (h:tX s):JU s=some (l8 s):=by
 obtain⟨ad,af,aG,bh,b6⟩:=h;unfold JU l8;rw[au5 _ ad,awe s ad.1 af.1 af.2,awm _ aG,acr _ bh.1,acr _ b6.1];simp only[bind_some];cases nM s.cI<;>cases q3 s<;>cases q4 s.cb<;>cases vD s.cD<;>cases vD s.cA<;>rfl
theorem awp (s:cY) (h:tX s):KE s=some (l8 s):=by
 obtain⟨ad,af,aG,bh,b6⟩:=h;unfold KE jG l8 q3;have nC:decide ((1:Int)<=(s.b0.length:Int))=decide (1<=s.b0.length):=decide_eq_decide.2 (by omega);have ly:decide ((s.b0.length:Int)<=3)=decide (s.b0.length<=3):=decide_eq_decide.2 (by omega);rw[au7 _ ad,awg s ad.1 af.1 af.2,awn _ aG,acs _ bh.1 bh.2,acs _ b6.1 b6.2];simp only[bind_some];rw[nC,ly];cases nM s.cI<;>cases(decide (1<=s.b0.length)&&decide (s.b0.length<=3))<;>cases gq (λi=>yY s.cI (l7 s.b0 i)) s.b0.length<;>
  cases q4 s.cb<;>cases vD s.cD<;>cases vD s.cA<;>rfl
theorem awq {s:cY} (h:tQ s<=1048576):tX s:=by
 unfold tQ at h;refine⟨au4 (by omega),⟨Nat.le_trans (jL ns _) (by omega),λc au=>?_⟩,⟨Nat.le_trans (jL nt _) (by omega),λm hm=>?_⟩,⟨Nat.le_trans (jL List.length _) (by omega),λx ao=>?_⟩,⟨Nat.le_trans (jL List.length _) (by omega),λx ao=>?_⟩⟩
 .have ad:ns c<=eg ns s.b0:=mS au;have af:ns c<=1048576:=by omega
  clear ad;unfold ns at af;omega
 .have ad:nt m<=eg nt s.cb:=mS hm;have af:nt m<=1048576:=by omega
  clear ad;unfold nt at af;omega
 .have ad:x.length<=eg List.length s.cD:=mS ao;omega
 .have ad:x.length<=eg List.length s.cA:=mS ao;omega
theorem awr (a:oZ) (bq:FN a):
  ∃r,FV a 1048576=some r/\(decide (r<0)=false->ye a=some (vy a)/\G3 (vy a) (vy a)=some true/\
   tX (vy a)/\r=1048576-(yS a:Nat)/\0<=r):=by
 refine⟨_,aug a 1048576 bq (by omega) (by omega),λh=>?_⟩;by_cases aa:yS a<=1048576
 .have zF:tQ (vy a)<=1048576:=by rw[abC];exact aa
  exact⟨auA a aa,auR _ zF,awq zF,HS (by omega),by rw[HS (by omega)];omega⟩
 .rw[HT (by omega)]at h;simp at h
theorem aws (s:cY) (h:tX s):JV s=some (l8 s==0):=by unfold JV;rw[awo s h];rfl
theorem awt (s:cY) (h:tX s):KF s=some (l8 s==0):=by unfold KF;rw[awp s h];rfl
theorem TY {s:cY} (h:(l8 s==0)=true):nM s.cI=true:=by
 cases aq:nM s.cI
 .unfold l8 at h;rw[aq]at h;simp at h
 .rfl
def sy (a:azM) (x y:azq) (i:Nat):Bool:=((eW a i).Left==x)&&((eW a i).cH==y)
def sA (a:azM) (z:Int):azq:=cond (decide (z<0)) [] (eW a z.toNat).Result
theorem TZ (p:Nat->Bool):∀(k i:Nat),ks p i k<((i+k:Nat):Int)
 |0,i=>by simp only[ks];omega
 |k+1,i=>by
  simp only[ks];split
  .omega
  .have:=TZ p k (i+1);omega
theorem acv (a:azM) (bq:a.length<=1048576) (x y:azq) (awu:(Op.bytesLess x y||x==y)=true) (acw:azM->azq->azq->Option azq):
  z1 acw a x y=some (sA a (ks (sy a x y) 0 a.length)):=by
 unfold z1;rw[awu];simp only[Bool.not_true,cond_false];rw[pQ (l:=λm i=>CB acw a x y m i) (n:=a.length) (λi=>some (sA a (ks (sy a x y) i (a.length-i))))]
 .rfl
 .intro m;simp only[CB,PV];rw[ei (Nat.le_refl _),Nat.sub_self];rfl
 .intro i ai m ih;simp only[CB,PV];rw[el ai,np _ i ⟨[],[],[]⟩ ai,ek i _ ai (by omega)];show cond true (Option.bind (some (eW a i)) _) _=_;simp only[cond_true,bind_some];rw[ih,show a.length-i=(a.length-(i+1))+1 by omega];show cond (sy a x y i) _ _=_;cases ay:sy a x y i
  .simp only[ks,ay,cond_false];rfl
  .simp only[ks,ay,cond_true,if_true,sA];have:decide ((i:Int)<0)=false:=decide_eq_false (by omega);rw[this];rfl
theorem awv (a:azM) (bq:a.length<=1048576) (x y:azq):
  Gn a x y=some (sA a (ks (sy a (h8 false x y) (h8 true x y)) 0 a.length)):=by
 unfold Gn;refine e5 2 λn aX=>?_;obtain⟨n,rfl⟩:∃k,n=k+2:=⟨n-2,by omega⟩
 show z1 (CC (n+1)) a x y=_;cases h:(Op.bytesLess x y||x==y)
 .have ad:(Op.bytesLess y x||y==x)=true:=by
   rw[<-TW x y];cases hl:Op.bytesLess x y
   .rfl
   .rw[hl]at h;cases h
  have af:Op.bytesLess x y=false:=by cases hl:Op.bytesLess x y;·rfl
                                     .rw[hl]at h;cases h
  have aP:h8 false x y=y:=by simp only[h8,h,Bool.false_eq_true,if_false]
  have aW:h8 true x y=x:=by simp only[h8,af,Bool.not_false,if_true]
  unfold z1;rw[h];simp only[Bool.not_false,cond_true];show(z1 (CC n) a y x).bind _=_;rw[acv a bq y x ad,aP,aW];rfl
 .have aP:h8 false x y=x:=by simp only[h8,h,Bool.false_eq_true,if_false,if_true]
  have aW:h8 true x y=y:=by
   cases hl:Op.bytesLess x y
   .rw[hl,Bool.false_or]at h;have:x=y:=by simpa using h
    subst this;simp[h8]
   .simp[h8,hl]
  rw[acv a bq x y h,aP,aW]
theorem aww (s:cY) (bq:s.cb.length<=1048576) (x y:azq) (z:Int) (cd:z=ks (sy s.cb (h8 false x y) (h8 true x y)) 0 s.cb.length):
  Al s x y=some (sA s.cb z,!(decide (z<0))):=by
 unfold Al QV;rw[sc (l:=λm i=>De s.cb x y m i) (n:=s.cb.length) (sy s.cb (h8 false x y) (h8 true x y)),<-cd]
 .simp only[bind_some];have hl:=TZ (sy s.cb (h8 false x y) (h8 true x y)) s.cb.length 0;rw[<-cd]at hl;cases h:decide (z<0)
  .have a_:¬z<0:=of_decide_eq_false h;have e:bj s.cb z=some (eW s.cb z.toNat):=by
    obtain⟨i,rfl⟩:∃i:Nat,z=i:=⟨z.toNat,by omega⟩
    exact np s.cb i (⟨[],[],[]⟩:bX) (by omega)
   rw[e];simp only[sA,h];rfl
  .simp only[sA,h];rfl
 .intro m;simp only[De,QU];rw[ei (Nat.le_refl _)];rfl
 .intro i ai m;simp only[De,QU];rw[el ai,np _ i ⟨[],[],[]⟩ ai,ek i _ ai (by omega)];rfl
theorem awx (s:cY) (aJ:(l8 s==0)=true) (i:Nat) (ai:i<s.cb.length):((eW s.cb i).Result==([]:azq))=false:=by
 have hm:q4 s.cb=true:=by
  cases h:q4 s.cb
  .unfold l8 at aJ;rw[h]at aJ;revert aJ;cases nM s.cI<;>cases q3 s<;>simp
  .rfl
 unfold q4 at hm;rw[Bool.and_eq_true]at hm;have ad:=n_.1 hm.2 i ai;unfold Bh at ad;simp only[Bool.and_eq_true]at ad;have af:=ad.1.1.1.2;cases aR:(eW s.cb i).Result
 .rw[aR]at af;cases af
 .rfl
theorem awy (x y:ba) (h:x.b5.length<=1048576):Cr x y=some (mA x y):=by
 have e:mA x y=((x.cJ==y.cJ)&&((x.Part==y.Part)&&(x.b5==y.b5))):=by
  rw[Bool.eq_iff_iff,qq];cases x;cases y;simp
 unfold Cr;rw[TD _ _ h,e];cases x.cJ==y.cJ<;>cases x.Part==y.Part<;>rfl
theorem awz (a b:azO) (h:a.length<=1048576) (aJ:∀p∈a,p.b5.length<=1048576):J9 a b=some (mA a b):=by
 unfold J9;by_cases hl:a.length=b.length
 .have e:((a.length:Int) !=(b.length:Int))=false:=by simp[hl]
  rw[e,cond_false];have:=pQ (n:=a.length) (l:=Cz a b) (λi=>some (mA (a.drop i) (b.drop i))) (λm=>?_) (λi ai m ih=>?_)
  .simpa using this
  .simp only[Cz,PT];rw[ei (Nat.le_refl _),List.drop_of_length_le (Nat.le_refl _),List.drop_of_length_le (by omega),cond_false];rw[show mA ([]:azO) []=true from qq.2 rfl]
  .simp only[Cz,PT];rw[el ai,dX _ i ai,dX _ i (by omega),ek i _ ai (by omega),drop_cons a i ai,drop_cons b i (by omega)];simp only[cond_true,bind_some,ih,awy _ _ (aJ _ (List.getElem_mem ai))];have aW:mA (a[i]::a.drop (i+1)) (b[i]::b.drop (i+1))=(mA a[i] b[i]&&mA (a.drop (i+1)) (b.drop (i+1))):=by
    rw[Bool.eq_iff_iff,Bool.and_eq_true,qq,qq,qq,List.cons.injEq]
   rw[aW];cases mA a[i] b[i]<;>rfl
 .have e:((a.length:Int) !=(b.length:Int))=true:=by simp;omega
  have aW:mA a b=false:=by
   rw[<-Bool.not_eq_true,qq];intro h;exact hl (by rw[h])
  rw[e,cond_true,aW]
theorem Mr {p:ba} (h:jx p):p.b5.length<=1048576:=by have:=h.kt.1;omega
theorem acx {n:Nat} (o:azP) (m:br) (h:o.length<=1048576) (aX:n<=100) (hg:∀x∈o,jk n x):zZ o m=some (hO o m):=by
 unfold zZ;rw[pQ (n:=o.length) (l:=CA o m) (λi=>some (cond (mA (m∈o.drop i) True) o (o++[m]))) (λk=>?_) (λi ai k ih=>?_)]
 .rw[List.drop_zero];unfold hO;split
  .rename_i hm;rw[show mA (m∈o) True=true from qq.2 (by simp[hm])];rfl
  .rename_i hm;rw[show mA (m∈o) True=false from by rw[<-Bool.not_eq_true,qq];simp[hm]];rfl
 .simp only[CA,PU];rw[ei (Nat.le_refl _),kO (by omega) (by omega),List.drop_of_length_le (Nat.le_refl _),show mA (m∈([]:azP)) True=false from by rw[<-Bool.not_eq_true,qq];simp];rfl
 .have g:=hg _ (List.getElem_mem ai);simp only[CA,PU];rw[el ai,dX _ i ai,ek i _ ai (by omega),drop_cons o i ai];simp only[cond_true,bind_some,ih,awz o[i].State m.State (by have:=g.st.1;omega) (λp ay=>Mr (g.st.2 p ay))];have e:mA (m∈o[i]::o.drop (i+1)) True=(mA o[i] m||mA (m∈o.drop (i+1)) True):=by
   rw[Bool.eq_iff_iff,Bool.or_eq_true,qq,qq,qq];simp only[List.mem_cons,eq_iff_iff,iff_true];rw[eq_comm (a:=m)]
  have aW:mA o[i] m=((o[i].Label==m.Label)&&((o[i].ef==m.ef)&&((o[i].Second==m.Second)&&mA o[i].State m.State))):=by
   rw[Bool.eq_iff_iff,qq];cases o[i];cases m;simp[qq]
  rw[e,aW];cases o[i].Label==m.Label
  .rfl
  .cases o[i].ef==m.ef
   .rfl
   .cases o[i].Second==m.Second
    .rfl
    .cases mA o[i].State m.State<;>rfl
theorem Ee {q:azO} (c6:q.length<=100) (h:∀p∈q,jx p):wq q=some q/\KX q=some q:=by
 constructor
 .unfold wq;have key:∀i,i<=q.length->∀(v:azO) m,v.length=i->q.length-i<m->Cx q m v (i:Int)=some (v++q.drop i):=by
   refine down q.length ?_ ?_
   .intro v m aJ hm;obtain⟨m,rfl⟩:∃j,m=j+1:=⟨m-1,by omega⟩
    simp only[Cx,PS];rw[ei (Nat.le_refl _),List.drop_of_length_le (Nat.le_refl _),List.append_nil];rfl
   .intro i ai ih v m aJ hm;obtain⟨m,rfl⟩:∃j,m=j+1:=⟨m-1,by omega⟩
    simp only[Cx,PS];rw[el ai,dX _ i ai,ek i _ ai (by omega)];simp only[cond_true,bind_some,Tz _ (Mr (h _ (List.getElem_mem ai)))];rw[kO (by omega) (by omega),bind_some,ih (v++[_]) m (by simp[aJ]) (by omega),drop_cons q i ai,List.append_assoc];rfl
  refine e5 (q.length+1) λm hm=>?_;have:=key 0 (by omega) [] m rfl (by omega);simpa using this
 .unfold KX;have key:∀i,i<=q.length->∀(v:azO) m,v.length=i->q.length-i<m->Da q m v (i:Int)=some (v++q.drop i):=by
   refine down q.length ?_ ?_
   .intro v m aJ hm;obtain⟨m,rfl⟩:∃j,m=j+1:=⟨m-1,by omega⟩
    simp only[Da,QS];rw[ei (Nat.le_refl _),List.drop_of_length_le (Nat.le_refl _),List.append_nil];rfl
   .intro i ai ih v m aJ hm;obtain⟨m,rfl⟩:∃j,m=j+1:=⟨m-1,by omega⟩
    simp only[Da,QS,Ak];rw[el ai,dX _ i ai,ek i _ ai (by omega)];simp only[cond_true,bind_some,Mk _ (Mr (h _ (List.getElem_mem ai)))];rw[kO (by omega) (by omega),bind_some,ih (v++[_]) m (by simp[aJ]) (by omega),drop_cons q i ai,List.append_assoc];rfl
  refine e5 (q.length+1) λm hm=>?_;have:=key 0 (by omega) [] m rfl (by omega);simpa using this
theorem T0 {p:ba} (h:jx p):Ak p=some p:=by
 unfold Ak;rw[Mk _ (Mr h)];rfl
theorem Ic (a:azp) (x:azq) (h:a.length<=1048576):(∃z,Cw a x=some z/\decide (z<0)= !decide (x∈a)/\decide (0<=z)=decide (x∈a))/\C_ a x=some (decide (x∈a)):=by
 have key:(ks (λi=>a.getD i []==x) 0 a.length<0↔x∉a):=by
  have:=vr (λi=>a.getD i []==x) a.length;constructor
  .intro a_ ao;rw[show decide (0<=ks (λi=>a.getD i []==x) 0 a.length)=false from decide_eq_false (by omega)]at this;have af:=(Bool.not_eq_false' .. ▸this.symm:gq (λi=> !(a.getD i []==x)) a.length=true)
   obtain⟨k,aw,rfl⟩:=List.mem_iff_getElem.1 ao;have:=n_.1 af k aw;simp[List.getD,aw]at this
  .intro ao;have af:gq (λi=> !(a.getD i []==x)) a.length=true:=n_.2 λi ai=>by
    simp only[List.getD,List.getElem?_eq_getElem ai,getD_some,Bool.not_eq_true',beq_eq_false_iff_ne];intro e;exact ao (e▸List.getElem_mem ai)
   rw[af,Bool.not_true]at this;have:=of_decide_eq_false this;omega
 constructor
 .refine⟨ks (λi=>a.getD i []==x) 0 a.length,?_,?_,?_⟩
  .unfold Cw;exact sc (l:=Cv a x) (n:=a.length) (λi=>a.getD i []==x) (λm=>by
    simp only[Cv,PR];rw[ei (Nat.le_refl _)];rfl) (λi ai m=>by
    simp only[Cv,PR];rw[el ai,np _ i [] ai,ek i _ ai (by omega)];rfl)
  .rw[<-decide_not,decide_eq_decide];exact key
  .rw[decide_eq_decide];constructor
   .intro a_;by_cases ao:x∈a
    .exact ao
    .have:=key.2 ao;omega
   .intro ao;by_cases a_:ks (λi=>a.getD i []==x) 0 a.length<0
    .exact absurd ao (key.1 a_)
    .omega
 .unfold C_ QR;have e:b3 (λn=>Aj a x n 0)=some (ks (λi=>a.getD i []==x) 0 a.length):=
   sc (l:=Aj a x) (n:=a.length) (λi=>a.getD i []==x) (λm=>by
    simp only[Aj,QQ];rw[ei (Nat.le_refl _)];rfl) (λi ai m=>by
    simp only[Aj,QQ];rw[el ai,np _ i [] ai,ek i _ ai (by omega),Bool.beq_comm];rfl)
  rw[e,bind_some,some.injEq,decide_eq_decide];constructor
  .intro a_;by_cases ao:x∈a
   .exact ao
   .have:=key.2 ao;omega
  .intro ao;by_cases a_:ks (λi=>a.getD i []==x) 0 a.length<0
   .exact absurd ao (key.1 a_)
   .omega
end Go.ld
