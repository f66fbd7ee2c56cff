/- Part of a proof that a law returns true for every input. No condition. -/
import Derived.Test.YtmaepbgkcmjcjagGreatDoorUV4x
import Derived.Test.YtmaepbgkcmjcjagGreatDoorUV0x
import GoSem.Op.String
import Derived.Test.YtmaepbgkcmjcjagGreatDoorUV3x
import Derived.Test.YtmaepbgkcmjcjagGreatDoorUV2x
namespace Go.lZ
open Option Go.IntKind Nat
open Go Go.ef
section
open Classical
noncomputable def mb {α:Type} (a b:α):Bool:=decide (a=b)
theorem pY {α:Type} {a b:α}:mb a b=true↔a=b:=by unfold mb;exact decide_eq_true_iff
noncomputable def hI {α:Type} (o:List α) (m:α):List α:=if m∈o then o else o++[m]
end
theorem asJ {α:Type} {o:List α} {m:α} (h:m∈o):hI o m=o:=if_pos h
theorem asK {α:Type} {o:List α} {m:α} (h:m∉o):hI o m=o++[m]:=if_neg h
theorem RZ {α:Type} (o:List α) (m:α):o.length<=(hI o m).length/\(hI o m).length<=o.length+1:=by
 unfold hI;split
 .omega
 .simp
theorem KZ {α:Type} {o:List α} {m x:α} (h:x∈hI o m):x∈o\/x=m:=by
 unfold hI at h;split at h
 .exact .inl h
 .simpa using h
noncomputable def iB {α:Type} (o:List α) (m:α):List α:=if 200<o.length then o else hI o m
theorem R0 {α:Type}:∀(l o:List α),o.length<=(l.foldl hI o).length/\(l.foldl hI o).length<=o.length+l.length
 |[],o=>by simp
 |s::r,o=>by
  have ad:=RZ o s;have ae:=R0 r (hI o s);rw[List.foldl_cons,List.length_cons];omega
theorem R1 {α:Type}:∀(l o:List α),200<o.length->l.foldl iB o=o
 |[],o,_=>rfl
 |s::r,o,h=>by rw[List.foldl_cons,show iB o s=o by unfold iB;rw[if_pos h],R1 r o h]
theorem aaB {α:Type}:∀(l o:List α),((l.foldl hI o).length<=200->l.foldl iB o=l.foldl hI o)/\(200<(l.foldl hI o).length->200<(l.foldl iB o).length)
 |[],o=>⟨λ_=>rfl,λh=>h⟩
 |s::r,o=>by
  by_cases h:200<o.length
  .rw[R1 _ _ h];have:=(R0 (s::r) o).1;exact⟨λae=>by omega,λ_=>h⟩
  .rw[List.foldl_cons,List.foldl_cons,show iB o s=hI o s by unfold iB;rw[if_neg h]];exact aaB r (hI o s)
def nL {α:Type} (K:α->axa) (p:List α×awY) (s:α):List α×awY:=
 if jL (K s) p.2=true then p else(p.1++[s],j1 (K s) true p.2)
theorem asL {α:Type} (K:α->axa) (p:List α×awY) (s:α):(nL K p s).1.length<=p.1.length+1:=by
 unfold nL;split
 .omega
 .simp
theorem aaC {α:Type} (K:α->axa):∀(l:List α) (p:List α×awY),(l.foldl (nL K) p).1.length<=p.1.length+l.length
 |[],p=>Nat.le_refl _
 |s::r,p=>by
  have ad:=aaC K r (nL K p s);have ae:=asL K p s;rw[List.foldl_cons,List.length_cons];omega
theorem R2 {α:Type} {K:α->axa} {G:α->Prop} (kN:∀x y,G x->G y->K x=K y->x=y):∀(l o:List α) (m:awY),(∀x∈l,G x)->(∀x∈o,G x)->(∀s,G s->(jL (K s) m=true↔s∈o))->
  (l.foldl (nL K) (o,m)).1=l.foldl hI o
 |[],o,m,_,_,_=>rfl
 |s::r,o,m,aC,bH,hm=>by
  have aa:=aC s (by simp);rw[List.foldl_cons,List.foldl_cons];by_cases h:s∈o
  .rw[asJ h,show nL K (o,m) s=(o,m)from if_pos ((hm s aa).2 h)];exact R2 kN r o m (λx an=>aC x (List.mem_cons_of_mem _ an)) bH hm
  .rw[asK h,show nL K (o,m) s=(o++[s],j1 (K s) true m)from if_neg λe=>h ((hm s aa).1 e)];refine R2 kN r _ _ (λx an=>aC x (List.mem_cons_of_mem _ an)) (λx an=>?_) λx an=>?_
   .rcases List.mem_append.1 an with an|an
    .exact bH x an
    .rw[List.mem_singleton]at an;rwa [an]
   .rw[RR,List.mem_append,List.mem_singleton,<-hm x an];split
    .rename_i e;exact⟨λ_=>.inr (kN _ _ aa an e).symm,λ_=>rfl⟩
    .rename_i e;exact⟨.inl,λq=>q.elim id λq=>absurd (by rw[q]) e⟩
structure kn (p:bd):Prop where
 wq:∃i:Nat,i<100/\p.cD=(i:Int)
 wt:∃j:Nat,j<100/\p.Part=(j:Int)
 km:p.bV.length<=64/\∀x∈p.bV,gh x
theorem fy.next {s:a7} (h:fy s):kn s.Next:=⟨h.wq,h.wt,h.km⟩
def oK (p:bd):axa:=(iR p.cD.toNat++[58])++((iR p.Part.toNat++[58])++iv p.bV)
def Ae (q:axx):axa:=jq (q.map oK) [32]
theorem asM {p:bd} (h:kn p):(oK p).length<=300:=by
 have ad:=wa p.cD.toNat;have ae:=wa p.Part.toNat;have aI:=wk p.bV;have bc:=h.km.1;simp only[oK,List.length_append,List.length_cons,List.length_nil];omega
theorem asN {p:bd} (h:kn p):zl p=some (oK p):=by
 obtain⟨i,ag,ia⟩:=h.wq;obtain⟨j,bE,oh⟩:=h.wt;have ad:=wa i;have ae:=wa j;have aI:=wk p.bV;have bc:=h.km.1;unfold zl Jq oK;simp only[ia,oh,zU i ag,zU j bE,bind_some,Rx _ bc h.km.2,Int.toNat_natCast];rw[l_ (by omega),l_ (by omega)];simp only[bind_some];rw[l_ (by simp only[List.length_append,List.length_cons,List.length_nil];omega)];simp only[bind_some];rw[l_ (by simp only[List.length_append,List.length_cons,List.length_nil];omega)];rfl
theorem aaD {q:axx} (h:∀p∈q,kn p):(Ae q).length<=q.length*301:=by
 have:=GR 32 300 (q.map oK) λx an=>by
  obtain⟨y,hy,rfl⟩:=List.mem_map.1 an;exact asM (h y hy)
 rwa [List.length_map]at this
theorem asO {q:axx} (cx:q.length<=100) (h:∀p∈q,kn p):JA q=some (Ae q):=by
 have bE:strings_Join (q.map oK) [32]=some (Ae q):=by
  have:=aaD h;unfold strings_Join;rw[if_pos ⟨by rw[List.length_map];omega,by unfold Ae at this;omega⟩];rfl
 have key:∀i,i<=q.length->∀(v:awZ) m,v.length=i->q.length-i<m->Cg q m v (i:Int)=strings_Join (v++(q.drop i).map oK) [32]:=by
  refine down q.length ?_ ?_
  .intro v m r3 hm;obtain⟨m,rfl⟩:∃j,m=j+1:=⟨m-1,by omega⟩
   simp only[Cg,Pr];rw[eL (Nat.le_refl _),List.drop_of_length_le (Nat.le_refl _),List.map_nil,List.append_nil,cond_false];cases strings_Join v [32]<;>rfl
  .intro i ag ih v m r3 hm;obtain⟨m,rfl⟩:∃j,m=j+1:=⟨m-1,by omega⟩
   simp only[Cg,Pr];rw[el ag,dM _ i ag,d_ i _ ag (by omega)];simp only[cond_true,bind_some,asN (h _ (List.getElem_mem ag))];rw[lK (by omega) (by omega),bind_some,ih (v++[_]) m (by simp[r3]) (by omega),drop_cons q i ag,List.map_cons,List.append_assoc];rfl
 unfold JA;refine fa (q.length+1) λm hm=>?_;have:=key 0 (by omega) [] m rfl (by omega);rw[List.drop_zero,List.nil_append,bE]at this;exact this
theorem asP {p:bd} (h:kn p):∀c∈oK p,44<=c.toNat:=by
 obtain⟨i,ag,ia⟩:=h.wq;obtain⟨j,bE,oh⟩:=h.wt;intro c ar;unfold oK at ar;rw[ia,oh,Int.toNat_natCast,Int.toNat_natCast]at ar;simp only[List.mem_append,List.mem_singleton]at ar;rcases ar with(ar|rfl)|(ar|rfl)|ar
 .have:=(wu i ag c ar).1;omega
 .decide
 .have:=(wu j bE c ar).1;omega
 .decide
 .exact(aac _ h.km.2 c ar).1
theorem asQ {x y:bd} (an:kn x) (hy:kn y) (h:oK x=oK y):x=y:=by
 obtain⟨i,ag,ia⟩:=an.wq;obtain⟨j,bE,oh⟩:=an.wt;obtain⟨tm,DM,R3⟩:=hy.wq;obtain⟨awW,aaE,R4⟩:=hy.wt;unfold oK at h;rw[ia,oh,R3,R4]at h;simp only[Int.toNat_natCast,List.append_assoc,List.singleton_append]at h;obtain⟨J,a2⟩:=uL (x2 ag) (x2 DM) h;obtain⟨a3,a4⟩:=uL (x2 bE) (x2 aaE) a2;have a5:=aaj an.km.2 hy.km.2 a4;have pt:=Ac ag DM J;have oW:=Ac bE aaE a3;cases x;cases y;simp only at ia oh R3 R4 a5;rw[ia,oh,R3,R4,a5,pt,oW]
theorem asR {c:UInt8}:∀{a b:awZ},(∀x∈a,c∉x)->(∀x∈b,c∉x)->a≠[]->b≠[]->jq a [c]=jq b [c]->a=b:=by
 intro a b bl ab ad ae h;have:=congrArg (lL c) h
 rwa [KX c a ad bl,KX c b ae ab]at this
theorem aaF:∀{a b:axx},(∀x∈a,kn x)->(∀x∈b,kn x)->a.map oK=b.map oK->a=b
 |[],[],_,_,_=>rfl
 |[],_::_,_,_,h=>by cases h
 |_::_,[],_,_,h=>by cases h
 |x::xs,y::cL,ad,ae,h=>by
  rw[List.map_cons,List.map_cons]at h;obtain⟨aN,aU⟩:=List.cons.inj h;rw[asQ (ad x (by simp)) (ae y (by simp)) aN,aaF (λz b9=>ad z (List.mem_cons_of_mem _ b9)) (λz b9=>ae z (List.mem_cons_of_mem _ b9)) aU]
theorem asS {a b:axx} (bl:∀x∈a,kn x) (ab:∀x∈b,kn x) (aC:a.length=b.length) (h:Ae a=Ae b):a=b:=by
 have aaG:∀q:axx,(∀x∈q,kn x)->∀x∈q.map oK,(32:UInt8)∉x:=by
  intro q cx x an hm;obtain⟨y,hy,rfl⟩:=List.mem_map.1 an;have:=asP (cx y hy) _ hm;revert this;decide
 by_cases bb:a=[]
 .subst bb;exact(List.length_eq_zero_iff.1 aC.symm).symm
 .have ad:b≠[]:=λe=>bb (by rw[e]at aC;exact List.length_eq_zero_iff.1 aC);exact aaF bl ab (asR (aaG a bl) (aaG b ab) (by simpa using bb) (by simpa using ad) h)
structure iQ (n:Nat) (m:bh):Prop where
 Ab:m.Label.length<=400/\(32:UInt8)∉m.Label
 fst:∃i:Nat,i<100/\m.nC=(i:Int)
 snd:m.Second= -1\/∃k:Nat,k<100/\m.Second=(k:Int)
 st:m.State.length=n/\∀p∈m.State,kn p
def rQ (x:Int):axa:=if x<0 then [45,49]else iR x.toNat
def oL (m:bh):axa:=(((((m.Label++[32])++iR m.nC.toNat)++[32])++rQ m.Second)++[32])++Ae m.State
theorem R5 {x:Int} (h:x= -1\/∃k:Nat,k<100/\x=(k:Int)):ra x=some (rQ x)/\(rQ x).length<=2/\(32:UInt8)∉rQ x:=by
 rcases h with rfl|⟨k,au,rfl⟩
 .refine⟨?_,by decide,by decide⟩;unfold ra B4 FD;rw[show((-1:Int).natAbs)=1 from rfl,xq];rfl
 .have e:rQ (k:Int)=iR k:=by unfold rQ;rw[if_neg (by omega),Int.toNat_natCast]
  rw[e];refine⟨zU k au,wa k,λhm=>?_⟩;have:=wu k au _ hm;revert this;decide
theorem asT {x y:Int} (an:x= -1\/∃k:Nat,k<100/\x=(k:Int)) (hy:y= -1\/∃k:Nat,k<100/\y=(k:Int)) (h:rQ x=rQ y):x=y:=by
 have no:∀k:Nat,k<100->rQ (k:Int)≠[45,49]:=by
  intro k au e;have aN:rQ (k:Int)=iR k:=by unfold rQ;rw[if_neg (by omega),Int.toNat_natCast]
  rw[aN]at e;have:=wu k au 45 (by rw[e];simp);revert this;decide
 rcases an with rfl|⟨k,au,rfl⟩<;>rcases hy with rfl|⟨l,aC,rfl⟩
 .rfl
 .exact absurd h.symm (no l aC)
 .exact absurd h (no k au)
 .unfold rQ at h;rw[if_neg (by omega),if_neg (by omega),Int.toNat_natCast,Int.toNat_natCast]at h;rw[Ac au aC h]
theorem asU {n:Nat} (x y:bh) (an:iQ n x) (hy:iQ n y) (h:oL x=oL y):x=y:=by
 obtain⟨i,ag,ia⟩:=an.fst;obtain⟨j,bE,oh⟩:=hy.fst;unfold oL at h;rw[ia,oh]at h;simp only[Int.toNat_natCast,List.append_assoc,List.singleton_append]at h;obtain⟨J,a2⟩:=uL an.Ab.2 hy.Ab.2 h;have GA:∀k:Nat,k<100->(32:UInt8)∉iR k:=λk au hm=>by
  have:=wu k au _ hm;revert this;decide
 obtain⟨a3,a4⟩:=uL (GA i ag) (GA j bE) a2;obtain⟨a5,pt⟩:=uL (R5 an.snd).2.2 (R5 hy.snd).2.2 a4;have oW:=asT an.snd hy.snd a5;have LP:=asS an.st.2 hy.st.2 (by rw[an.st.1,hy.st.1]) pt;have a9:=Ac ag bE a3;cases x;cases y;simp only at ia oh J oW LP;rw[ia,oh,J,oW,LP,a9]
set_option linter.unusedSimpArgs false
theorem R6 (a b:axa):(!(Op.bytesLess a b))=(Op.bytesLess b a||b==a):=by
 induction a generalizing b with
 |nil=>cases b<;>simp[Op.bytesLess]
 |cons x a ih=>
  cases b with
  |nil=>simp[Op.bytesLess]
  |cons y b=>
   simp only[Op.bytesLess];have:=ih b;by_cases ad:x<y
   .have ae:¬y<x:=λh=>by have:=UInt8.lt_asymm ad h;exact this
    have aI:y≠x:=λh=>by subst h;exact absurd ad (UInt8.lt_irrefl _)
    simp[ad,ae,aI]
   .by_cases ae:y<x
    .have aI:x≠y:=λh=>by subst h;exact absurd ae (UInt8.lt_irrefl _)
     simp[ad,ae,aI]
    .have aI:x=y:=by
      have aN:=UInt8.not_lt.1 ad;have aU:=UInt8.not_lt.1 ae;exact UInt8.le_antisymm aU aN
     subst aI;simp[ad,this]
theorem asV (a:axa):Op.bytesLess a a=false:=by
 have:=R6 a a;cases h:Op.bytesLess a a with
 |false=>rfl
 |true=>rw[h]at this;simp at this
set_option linter.unusedSimpArgs false
def jK (s:axa):Bool:=hx s&& !(s==([116,97,117]:axa))
theorem aaH (s:axa):tR s=some (jK s):=by unfold tR;rw[CT];rfl
theorem K0 (s:axa) (aa:s.length<=1048576):uf s=some (jK s):=Ru s aa
theorem asW {β:Type} {l:Nat->Int->Option β} {n:Nat} (p:Nat->Bool) (l8 bad:Option β) (bb:∀m,l (m+1) (n:Int)=l8)
  (aa:∀i,i<n->∀m,l (m+1) (i:Int)=cond (p i) (l m ((i+1:Nat):Int)) bad) (i0:Nat) (ag:i0<=n):b6 (λm=>l m (i0:Int))=cond ((List.range' i0 (n-i0)).all p) l8 bad:=by
 refine fa (n+1) λm hm=>?_;refine up (λi=>cond ((List.range' i (n-i)).all p) l8 bad) (λm=>?_) (λi ag m ih=>?_) i0 ag m (by omega)
 .rw[bb];simp
 .rw[aa i ag,ih,show n-i=(n-(i+1))+1 by omega,List.range'_succ];cases ax:p i<;>simp[ax]
def pZ (a:awZ) (i:Nat):Bool:=decide (i=0)||Op.bytesLess (a.getD (i-1) []) (a.getD i [])
def uN (a:awZ):Bool:=decide (a.length<=12)&&(f_ (λi=>jK (a.getD i [])) a.length&&f_ (pZ a) a.length)
theorem aaI (a:awZ) (h:a.length<=1048576):E5 a=some (uN a):=by
 unfold E5 uN;by_cases aC:12<a.length
 .have d1:decide ((12:Int)<(a.length:Int))=true:=decide_eq_true (by omega);have d2:decide (a.length<=12)=false:=decide_eq_false (by omega);rw[d1,d2];rfl
 .have d1:decide ((12:Int)<(a.length:Int))=false:=decide_eq_false (by omega);have d2:decide (a.length<=12)=true:=decide_eq_true (by omega);have rF:Iz a=some (f_ (λi=>jK (a.getD i [])) a.length):=by
   unfold Iz;refine GL (l:=λm i=>Bk a m i) _ (λm=>?_) (λi ag m=>?_)
   .simp only[Bk,N2];rw[eL (Nat.le_refl _)];rfl
   .simp only[Bk,N2];rw[el ag,l6 _ i [] ag,d_ i _ ag (by omega)];simp only[cond_true,bind_some,aaH];cases jK (a.getD i [])<;>rfl
  rw[d1,d2,rF];simp only[cond_false,bind_some,Bool.true_and];cases f_ (λi=>jK (a.getD i [])) a.length
  .rfl
  .simp only[Bool.not_true,cond_false,Bool.true_and];by_cases bb:a.length=0
   .rw[fa (x:=some true) 1 (λm hm=>by
     obtain⟨k,rfl⟩:∃k,m=k+1:=⟨m-1,by omega⟩
     simp only[q1,IA];rw[bb];rfl)]
    rw[bb];rfl
   .have key:=asW (l:=λm i=>q1 a m i) (n:=a.length) (λi=>decide (i=0)||Op.bytesLess (a.getD (i-1) []) (a.getD i [])) (some true) (some false);have b9:q1 a=q1 a:=rfl;have:∀i,1<=i->i<=a.length->∀m,a.length-i<m->q1 a m (i:Int)=cond ((List.range' i (a.length-i)).all (pZ a)) (some true) (some false):=by
     intro i ad ae;refine down a.length (P:=λi=>1<=i->∀m,a.length-i<m->q1 a m (i:Int)=cond ((List.range' i (a.length-i)).all (pZ a)) (some true) (some false)) ?_ ?_ i ae ad
     .intro _ m hm;obtain⟨k,rfl⟩:∃k,m=k+1:=⟨m-1,by omega⟩
      simp only[q1,IA];rw[eL (Nat.le_refl _)];simp
     .intro i ag ih ad m hm;obtain⟨k,rfl⟩:∃k,m=k+1:=⟨m-1,by omega⟩
      simp only[q1,IA];rw[el ag,GM i (by omega) (by omega),l6 _ (i-1) [] (by omega),l6 _ i [] ag,d_ i _ ag (by omega),ih (by omega) k (by omega),show a.length-i=(a.length-(i+1))+1 by omega,List.range'_succ];have aQ:pZ a i=Op.bytesLess (a.getD (i-1) []) (a.getD i []):=by
       unfold pZ;have:decide (i=0)=false:=decide_eq_false (by omega);rw[this,Bool.false_or]
      simp only[cond_true,bind_some,List.all_cons,aQ];cases Op.bytesLess (a.getD (i-1) []) (a.getD i [])<;>rfl
    have R7:=fa (f:=λm=>q1 a m 1) (a.length+1) (λm hm=>this 1 (by omega) (by omega) m (by omega));rw[R7];have e:f_ (pZ a) a.length=(List.range' 1 (a.length-1)).all (pZ a):=by
     unfold f_;rw[List.range_eq_range',show a.length=(a.length-1)+1 by omega,List.range'_succ];simp[pZ]
    rw[e];cases(List.range' 1 (a.length-1)).all (pZ a)<;>rfl
theorem asX {p q:Nat->Bool} {n:Nat}:(f_ p n&&f_ q n)=f_ (λi=>p i&&q i) n:=wj.symm
theorem aaJ (a:awZ) (h:a.length<=1048576) (aa:∀s∈a,s.length<=1048576):Fz a=some (uN a):=by
 unfold Fz uN;rw[asX];rw[z1 (l:=λm i=>BZ a m i) (n:=a.length) (λi=>jK (a.getD i [])&&pZ a i) (some (decide ((a.length:Int)<=12))) (some false)]
 .have e:decide ((a.length:Int)<=12)=decide (a.length<=12):=decide_eq_decide.2 (by omega);rw[e];cases f_ (λi=>jK (a.getD i [])&&pZ a i) a.length<;>cases decide (a.length<=12)<;>rfl
 .intro m;simp only[BZ,OY];rw[eL (Nat.le_refl _)];rfl
 .intro i ag m;simp only[BZ,OY];have hm:(a.getD i []).length<=1048576:=by
   have:a.getD i []=a[i]:=by simp[List.getD,ag]
   rw[this];exact aa _ (List.getElem_mem ag)
  rw[el ag,l6 _ i [] ag,d_ i _ ag (by omega)];simp only[cond_true,bind_some,K0 _ hm];by_cases bb:i=0
  .subst bb;rw[zS];simp only[cond_false,pZ,decide_true,Bool.true_or,Bool.and_true];cases jK (a.getD 0 [])<;>rfl
  .rw[Re bb,GM i (by omega) (by omega),l6 _ (i-1) [] (by omega)];have aQ:pZ a i=Op.bytesLess (a.getD (i-1) []) (a.getD i []):=by
    unfold pZ;have:decide (i=0)=false:=decide_eq_false bb;rw[this,Bool.false_or]
   have aZ:=R6 (a.getD (i-1) []) (a.getD i []);simp only[cond_true,bind_some,aQ,<-aZ];cases jK (a.getD i [])<;>cases Op.bytesLess (a.getD (i-1) []) (a.getD i [])<;>rfl
def mx (cs:axv) (i:Nat):di:=cs.getD i ⟨0,[]⟩
def Af (e:axu) (c:di):Bool:=
 cond (decide (0<=c.cD)&&decide (c.cD<=(e.length:Int)-1)) (((c.bV.length:Int)==(e.getD c.cD.toNat ⟨[],0,[]⟩).ej)&&x0 c.bV) false
def uO (s:cJ):Bool:=(decide (1<=s.b_.length)&&decide (s.b_.length<=3))&&f_ (λi=>Af s.cq (mx s.b_ i)) s.b_.length
theorem aaK {e:axu} {n:Int} (h:(decide (0<=n)&&decide (n<=(e.length:Int)-1))=true):bm e n=some (e.getD n.toNat ⟨[],0,[]⟩):=by
 simp only[Bool.and_eq_true,decide_eq_true_eq]at h;obtain⟨i,rfl⟩:∃i:Nat,n=i:=⟨n.toNat,by omega⟩
 exact l6 e i _ (by omega)
theorem asY (s:cJ) (al:s.cq.length<=1048576) (ar:s.b_.length<=1048576) (aE:∀c∈s.b_,c.bV.length<=1048576):Ix s=some (uO s):=by
 unfold Ix uO;by_cases aC:1<=s.b_.length/\s.b_.length<=3
 .have d1:(((s.b_.length:Int)==0)||decide ((3:Int)<(s.b_.length:Int)))=false:=by
   rw[Bool.or_eq_false_iff,beq_eq_false_iff_ne,decide_eq_false_iff_not];omega
  have d2:(decide (1<=s.b_.length)&&decide (s.b_.length<=3))=true:=by simp;omega
  rw[d1,d2,cond_false,Bool.true_and];refine GL (l:=λm i=>Bj s m i) _ (λm=>?_) (λi ag m=>?_)
  .simp only[Bj,NZ];rw[eL (Nat.le_refl _)];rfl
  .simp only[Bj,NZ,l0];have hm:(mx s.b_ i).bV.length<=1048576:=by
    have:mx s.b_ i=s.b_[i]:=by simp[mx,List.getD,ag]
    rw[this];exact aE _ (List.getElem_mem ag)
   rw[el ag,l6 _ i ⟨0,[]⟩ ag,d_ i _ ag (by omega),fk ((s.cq.length:Int)-1) (by omega)];show cond true (Option.bind (some (mx s.b_ i)) _) _=_;simp only[cond_true,bind_some];unfold Af;cases au:(decide (0<=(mx s.b_ i).cD)&&decide ((mx s.b_ i).cD<=(s.cq.length:Int)-1))
   .rfl
   .rw[aaK au];simp only[Bool.not_true,cond_false,cond_true,bind_some,RI _ hm];have dQ:(((mx s.b_ i).bV.length:Int) !=(s.cq.getD (mx s.b_ i).cD.toNat ⟨[],0,[]⟩).ej)= !(((mx s.b_ i).bV.length:Int)==(s.cq.getD (mx s.b_ i).cD.toNat ⟨[],0,[]⟩).ej):=rfl;rw[dQ];cases(((mx s.b_ i).bV.length:Int)==(s.cq.getD (mx s.b_ i).cD.toNat ⟨[],0,[]⟩).ej)<;>cases x0 (mx s.b_ i).bV<;>rfl
 .have d1:(((s.b_.length:Int)==0)||decide ((3:Int)<(s.b_.length:Int)))=true:=by
   by_cases bb:s.b_.length=0
   .simp[bb]
   .have:decide ((3:Int)<(s.b_.length:Int))=true:=decide_eq_true (by omega);rw[this,Bool.or_true]
  have d2:(decide (1<=s.b_.length)&&decide (s.b_.length<=3))=false:=by
   rw[Bool.and_eq_false_iff,decide_eq_false_iff_not,decide_eq_false_iff_not];omega
  rw[d1,d2];rfl
theorem asZ (e:axu) (he:e.length<=1048576) (c:di) (ar:c.bV.length<=1048576):Jb e c=some (Af e c):=by
 unfold Jb Af;rw[KI _ e.length he];simp only[bind_some];cases au:(decide (0<=c.cD)&&decide (c.cD<=(e.length:Int)-1))
 .rfl
 .rw[aaK au];simp only[cond_true,bind_some,RJ _ ar];cases((c.bV.length:Int)==(e.getD c.cD.toNat ⟨[],0,[]⟩).ej)<;>rfl
theorem as0 (s:cJ) (al:s.cq.length<=1048576) (ar:s.b_.length<=1048576) (aE:∀c∈s.b_,c.bV.length<=1048576):
  Jc s.b_ s=some (!(f_ (λi=>Af s.cq (mx s.b_ i)) s.b_.length)):=by
 unfold Jc OT;rw[s3 (n:=s.b_.length) (λi=> !(Af s.cq (mx s.b_ i)))]
 .simp only[bind_some,v7,Bool.not_not]
 .intro m;simp only[Fw,OS];rw[eL (Nat.le_refl _)];rfl
 .intro i ag m;simp only[Fw,OS];have hm:(mx s.b_ i).bV.length<=1048576:=by
   have:mx s.b_ i=s.b_[i]:=by simp[mx,List.getD,ag]
   rw[this];exact aE _ (List.getElem_mem ag)
  rw[el ag,l6 _ i ⟨0,[]⟩ ag,d_ i _ ag (by omega)];show cond true (Option.bind (some (mx s.b_ i)) _) _=_;simp only[cond_true,bind_some,OR,asZ _ al _ hm]
def eF (a:axw) (i:Nat):b5:=a.getD i ⟨[],[],[]⟩
def Ag (p m:b5):Bool:=Op.bytesLess p.Left m.Left||(p.Left==m.Left&&Op.bytesLess p.cQ m.cQ)
def Ah (a:axw) (m:b5):Bool:=f_ (λj=> !((eF a j).Left==m.Result||(eF a j).cQ==m.Result)) a.length
def Ai (a:axw) (i:Nat):Bool:=
 ((((jK (eF a i).Left&&jK (eF a i).cQ)&&jK (eF a i).Result)&&(Op.bytesLess (eF a i).Left (eF a i).cQ||(eF a i).Left==(eF a i).cQ))&&(decide (i=0)||Ag (eF a (i-1)) (eF a i)))&&Ah a (eF a i)
def qD (a:axw):Bool:=decide (a.length<=6)&&f_ (Ai a) a.length
def K1 (a:axw):Prop:=a.length<=1048576/\∀m∈a,m.Left.length<=1048576/\m.cQ.length<=1048576/\m.Result.length<=1048576
theorem as1 (p m:b5):((!(Op.bytesLess p.Left m.Left||p.Left==m.Left))||((p.Left==m.Left)&&(!(Op.bytesLess p.cQ m.cQ))))= !(Ag p m):=by
 unfold Ag;cases he:p.Left==m.Left
 .cases Op.bytesLess p.Left m.Left<;>rfl
 .have:p.Left=m.Left:=by simpa using he
  rw[this,asV];cases Op.bytesLess p.cQ m.cQ<;>rfl
def wx (a b:axa):Int:=cond (Op.bytesLess a b) (-1) (cond (!(Op.bytesLess a b||a==b)) 1 0)
theorem as2 (a b:axa):Je a b=some (wx a b):=by
 unfold Je Jd wx;simp only[bind_some,cond_false];cases Op.bytesLess a b<;>cases a==b<;>rfl
theorem as3 (p m:b5):∃v,Jh p m=some v/\decide (0<=v)= !(Ag p m):=by
 have R7:Jg [p.Left,p.cQ] [m.Left,m.cQ]=some (cond (wx p.Left m.Left !=0) (wx p.Left m.Left) (cond (wx p.cQ m.cQ !=0) (wx p.cQ m.cQ) 0)):=by
  unfold Jg;refine fa 3 λn aS=>?_;obtain⟨n,rfl⟩:∃k,n=k+3:=⟨n-3,by omega⟩
  have ga:bm [p.Left,p.cQ] 0=some p.Left:=rfl;have aN:bm [m.Left,m.cQ] 0=some m.Left:=rfl;have aU:bm [p.Left,p.cQ] 1=some p.cQ:=rfl;have aR:bm [m.Left,m.cQ] 1=some m.cQ:=rfl;have hl:i64.wrap (0+1)=1:=by decide
  have jR:i64.wrap (1+1)=2:=by decide
  simp only[Jf,Wh,List.length_cons,List.length_nil,ga,aN,aU,aR,hl,jR,bind_some,as2];cases wx p.Left m.Left !=0
  .cases wx p.cQ m.cQ !=0<;>rfl
  .rfl
 unfold Jh;rw[R7];refine⟨_,rfl,?_⟩;unfold Ag wx;cases aC:Op.bytesLess p.Left m.Left
 .cases he:p.Left==m.Left
  .rfl
  .cases aQ:Op.bytesLess p.cQ m.cQ
   .cases p.cQ==m.cQ<;>rfl
   .rfl
 .rfl
theorem as4 (a:axw) (h:a.length<=1048576) (m:b5):Fy a m=some (!(Ah a m)):=by
 unfold Fy OW;rw[s3 (n:=a.length) (λj=>((eF a j).Left==m.Result||(eF a j).cQ==m.Result))]
 .simp only[bind_some,v7];rfl
 .intro k;simp only[Fx,OV];rw[eL (Nat.le_refl _)];rfl
 .intro i ag k;simp only[Fx,OV];rw[el ag,l6 _ i ⟨[],[],[]⟩ ag,d_ i _ ag (by omega)];simp only[cond_true,bind_some,OU];rfl
theorem as5 {a:axw} (h:K1 a) {i:Nat} (ag:i<a.length):(eF a i).Left.length<=1048576/\(eF a i).cQ.length<=1048576/\(eF a i).Result.length<=1048576:=by
 have:eF a i=a[i]:=by simp[eF,List.getD,ag]
 rw[this];exact h.2 _ (List.getElem_mem ag)
theorem G0 {a:axw} {i:Nat} (ag:i<a.length):bm a (i:Int)=some (eF a i):=l6 a i _ ag
theorem as6 (a:axw) (h:K1 a):Iy a=some (qD a):=by
 unfold Iy qD;by_cases aC:6<a.length
 .have d1:decide ((6:Int)<(a.length:Int))=true:=decide_eq_true (by omega);have d2:decide (a.length<=6)=false:=decide_eq_false (by omega);rw[d1,d2];rfl
 .have d1:decide ((6:Int)<(a.length:Int))=false:=decide_eq_false (by omega);have d2:decide (a.length<=6)=true:=decide_eq_true (by omega);rw[d1,d2,cond_false,Bool.true_and];refine GL (l:=λm i=>so a m i) _ (λm=>?_) (λi ag m=>?_)
  .simp only[so,N1];rw[eL (Nat.le_refl _)];rfl
  .have iu:(b6 λn=>vl (so a m) a (eF a i) n (i:Int) 0)=cond (Ah a (eF a i)) (so a m ((i+1:Nat):Int)) (some false):=by
    refine z1 (l:=λjs j=>vl (so a m) a (eF a i) js (i:Int) j) _ _ _ (λjs=>?_) (λj bE js=>?_)
    .simp only[vl,N0];rw[eL (Nat.le_refl _),d_ i _ ag (by omega)];rfl
    .simp only[vl,N0];rw[el bE,G0 bE,d_ j _ bE (by omega)];simp only[cond_true,bind_some];cases((eF a j).Left==(eF a i).Result||(eF a j).cQ==(eF a i).Result)<;>rfl
   simp only[so,N1];rw[el ag,G0 ag];simp only[cond_true,bind_some,aaH,iu];unfold Ai;by_cases bb:i=0
   .subst bb;rw[zS];simp only[cond_false,decide_true,Bool.true_or,Bool.and_true];cases jK (eF a 0).Left<;>cases jK (eF a 0).cQ<;>cases jK (eF a 0).Result<;>cases(Op.bytesLess (eF a 0).Left (eF a 0).cQ||(eF a 0).Left==(eF a 0).cQ)<;>cases Ah a (eF a 0)<;>rfl
   .rw[Re bb,GM i (by omega) (by omega),G0 (show i-1<a.length by omega)];have al:decide (i=0)=false:=decide_eq_false bb;simp only[cond_true,bind_some,al,Bool.false_or,as1];cases jK (eF a i).Left<;>cases jK (eF a i).cQ<;>cases jK (eF a i).Result<;>cases(Op.bytesLess (eF a i).Left (eF a i).cQ||(eF a i).Left==(eF a i).cQ)<;>cases Ag (eF a (i-1)) (eF a i)<;>cases Ah a (eF a i)<;>rfl
theorem as7 (a:axw) (h:K1 a):Ji a=some (qD a):=by
 unfold Ji qD;rw[z1 (l:=λm i=>BX a m i) (n:=a.length) (Ai a) (some (decide ((a.length:Int)<=6))) (some false)]
 .have e:decide ((a.length:Int)<=6)=decide (a.length<=6):=decide_eq_decide.2 (by omega);rw[e];cases f_ (Ai a) a.length<;>cases decide (a.length<=6)<;>rfl
 .intro m;simp only[BX,OX];rw[eL (Nat.le_refl _)];rfl
 .intro i ag m;have aC:=h.1;obtain⟨s1,s2,r7⟩:=as5 h ag;simp only[BX,OX];rw[el ag,G0 ag,d_ i _ ag (by omega)];simp only[cond_true,bind_some,K0 _ s1,K0 _ s2,K0 _ r7,as4 a aC];unfold Ai;by_cases bb:i=0
  .subst bb;rw[zS];simp only[cond_false,decide_true,Bool.true_or,Bool.and_true];cases jK (eF a 0).Left<;>cases jK (eF a 0).cQ<;>cases jK (eF a 0).Result<;>cases(Op.bytesLess (eF a 0).Left (eF a 0).cQ||(eF a 0).Left==(eF a 0).cQ)<;>cases Ah a (eF a 0)<;>rfl
  .rw[Re bb,GM i (by omega) (by omega),G0 (show i-1<a.length by omega)];obtain⟨v,v1,v2⟩:=as3 (eF a (i-1)) (eF a i);have al:decide (i=0)=false:=decide_eq_false bb;simp only[cond_true,bind_some,al,Bool.false_or,v1,v2];cases jK (eF a i).Left<;>cases jK (eF a i).cQ<;>cases jK (eF a i).Result<;>cases(Op.bytesLess (eF a i).Left (eF a i).cQ||(eF a i).Left==(eF a i).cQ)<;>cases Ag (eF a (i-1)) (eF a i)<;>cases Ah a (eF a i)<;>rfl
def uP (s:cJ):Prop:=pn s.cq/\(s.b_.length<=1048576/\∀c∈s.b_,c.bV.length<=1048576)/\K1 s.b2/\
 (s.cw.length<=1048576/\∀x∈s.cw,x.length<=1048576)/\(s.ct.length<=1048576/\∀x∈s.ct,x.length<=1048576)
noncomputable def my (s:cJ):Int:=cond (!lM s.cq) 1 (cond (!uO s) 2 (cond (!qD s.b2) 3 (cond (!uN s.cw) 4 (cond (!uN s.ct) 5 0))))
theorem as8 (s:cJ) (h:uP s):IB s=some (my s):=by
 obtain⟨ad,ae,aI,bc,bY⟩:=h;unfold IB my;rw[arQ _ ad,asY s ad.1 ae.1 ae.2,as6 _ aI,aaI _ bc.1,aaI _ bY.1];simp only[bind_some];cases lM s.cq<;>cases uO s<;>cases qD s.b2<;>cases uN s.cw<;>cases uN s.ct<;>rfl
theorem as9 (s:cJ) (h:uP s):Jj s=some (my s):=by
 obtain⟨ad,ae,aI,bc,bY⟩:=h;unfold Jj kS my uO;have nd:decide ((1:Int)<=(s.b_.length:Int))=decide (1<=s.b_.length):=decide_eq_decide.2 (by omega);have k4:decide ((s.b_.length:Int)<=3)=decide (s.b_.length<=3):=decide_eq_decide.2 (by omega);rw[arS _ ad,as0 s ad.1 ae.1 ae.2,as7 _ aI,aaJ _ bc.1 bc.2,aaJ _ bY.1 bY.2];simp only[bind_some];rw[nd,k4];cases lM s.cq<;>cases(decide (1<=s.b_.length)&&decide (s.b_.length<=3))<;>cases f_ (λi=>Af s.cq (mx s.b_ i)) s.b_.length<;>
  cases qD s.b2<;>cases uN s.cw<;>cases uN s.ct<;>rfl
theorem as_ {s:cJ} (h:z8 s<=1048576):uP s:=by
 unfold z8 at h;refine⟨arP (by omega),⟨Nat.le_trans (l7 rH _) (by omega),λc ar=>?_⟩,⟨Nat.le_trans (l7 rI _) (by omega),λm hm=>?_⟩,⟨Nat.le_trans (l7 List.length _) (by omega),λx an=>?_⟩,⟨Nat.le_trans (l7 List.length _) (by omega),λx an=>?_⟩⟩
 .have ad:rH c<=fR rH s.b_:=mV ar;have ae:rH c<=1048576:=by omega
  clear ad;unfold rH at ae;omega
 .have ad:rI m<=fR rI s.b2:=mV hm;have ae:rI m<=1048576:=by omega
  clear ad;unfold rI at ae;omega
 .have ad:x.length<=fR List.length s.cw:=mV an;omega
 .have ad:x.length<=fR List.length s.ct:=mV an;omega
theorem ata (a:oy) (bl:Ez a):
  ∃r,EH a 1048576=some r/\(decide (r<0)=false->yV a=some (xZ a)/\FV (xZ a) (xZ a)=some true/\
   uP (xZ a)/\r=1048576-(xY a:Nat)/\0<=r):=by
 refine⟨_,ara a 1048576 bl (by omega) (by omega),λh=>?_⟩;by_cases aa:xY a<=1048576
 .have tG:z8 (xZ a)<=1048576:=by rw[arw];exact aa
  exact⟨arx a aa,arM _ tG,as_ tG,GJ (by omega),by rw[GJ (by omega)];omega⟩
 .rw[GK (by omega)]at h;simp at h
theorem atb (s:cJ) (h:uP s):IC s=some (my s==0):=by unfold IC;rw[as8 s h];rfl
theorem atc (s:cJ) (h:uP s):Jk s=some (my s==0):=by unfold Jk;rw[as9 s h];rfl
theorem R8 {s:cJ} (h:(my s==0)=true):lM s.cq=true:=by
 cases al:lM s.cq
 .unfold my at h;rw[al]at h;simp at h
 .rfl
noncomputable def x6 (e:axu) (p:bd):Bool:=(sq e p).getD false
theorem R9 (e:axu) (h:pn e) (aE:lM e=true) (p:bd) (ax:p.bV.length<=1048576):sq e p=some (x6 e p)/\FA e p=some (x6 e p):=by
 obtain⟨b,ad,ae⟩:=asE e h aE p ax;have:x6 e p=b:=by unfold x6;rw[ad];rfl
 rw[this];exact⟨ad,ae⟩
def te (q:axx) (i:Nat):bd:=q.getD i ⟨0,0,[]⟩
noncomputable def wy (s:cJ) (q:axx):Bool:=((q.length:Int)==(s.b_.length:Int))&&f_ (λi=>x6 s.cq (te q i)) q.length
theorem aaL {q:axx} (aE:∀p∈q,p.bV.length<=1048576) {i:Nat} (ag:i<q.length):(te q i).bV.length<=1048576:=by
 have:te q i=q[i]:=by simp[te,List.getD,ag]
 rw[this];exact aE _ (List.getElem_mem ag)
theorem atd (s:cJ) (h:pn s.cq) (al:lM s.cq=true) (q:axx) (cx:q.length<=1048576) (aE:∀p∈q,p.bV.length<=1048576):ID s q=some (wy s q):=by
 unfold ID wy;have e:((q.length:Int) !=(s.b_.length:Int))= !((q.length:Int)==(s.b_.length:Int)):=rfl;rw[e];cases((q.length:Int)==(s.b_.length:Int))
 .rfl
 .rw[Bool.true_and,Bool.not_true,cond_false];refine GL (l:=λm i=>Bl s q m i) _ (λm=>?_) (λi ag m=>?_)
  .simp only[Bl,N3];rw[eL (Nat.le_refl _)];rfl
  .simp only[Bl,N3];rw[el ag,l6 _ i ⟨0,0,[]⟩ ag,d_ i _ ag (by omega)];show cond true (Option.bind (some (te q i)) _) _=_;simp only[cond_true,bind_some,(R9 _ h al _ (aaL aE ag)).1];cases x6 s.cq (te q i)<;>rfl
theorem ate (s:cJ) (h:pn s.cq) (al:lM s.cq=true) (q:axx) (cx:q.length<=1048576) (aE:∀p∈q,p.bV.length<=1048576):
  Jl q s=some (!(f_ (λi=>x6 s.cq (te q i)) q.length)):=by
 unfold Jl O1;rw[s3 (n:=q.length) (λi=> !(x6 s.cq (te q i)))]
 .simp only[bind_some,v7,Bool.not_not]
 .intro m;simp only[FB,O0];rw[eL (Nat.le_refl _)];rfl
 .intro i ag m;simp only[FB,O0];rw[el ag,l6 _ i ⟨0,0,[]⟩ ag,d_ i _ ag (by omega)];show cond true (Option.bind (some (te q i)) _) _=_;simp only[cond_true,bind_some,OZ,(R9 _ h al _ (aaL aE ag)).2]
def rR (a:axw) (x y:axa) (i:Nat):Bool:=((eF a i).Left==x)&&((eF a i).cQ==y)
def rS (a:axw) (z:Int):axa:=cond (decide (z<0)) [] (eF a z.toNat).Result
theorem R_ (p:Nat->Bool):∀(k i:Nat),jZ p i k<((i+k:Nat):Int)
 |0,i=>by simp only[jZ];omega
 |k+1,i=>by
  simp only[jZ];split
  .omega
  .have:=R_ p k (i+1);omega
theorem aaM (a:axw) (bl:a.length<=1048576) (x y:axa) (atf:(Op.bytesLess x y||x==y)=true) (aaN:axw->axa->axa->Option axa):
  za aaN a x y=some (rS a (jZ (rR a x y) 0 a.length)):=by
 unfold za;rw[atf];simp only[Bool.not_true,cond_false];rw[pW (l:=λm i=>BG aaN a x y m i) (n:=a.length) (λi=>some (rS a (jZ (rR a x y) i (a.length-i))))]
 .rfl
 .intro m;simp only[BG,Ol];rw[eL (Nat.le_refl _),Nat.sub_self];rfl
 .intro i ag m ih;simp only[BG,Ol];rw[el ag,l6 _ i ⟨[],[],[]⟩ ag,d_ i _ ag (by omega)];show cond true (Option.bind (some (eF a i)) _) _=_;simp only[cond_true,bind_some];rw[ih,show a.length-i=(a.length-(i+1))+1 by omega];show cond (rR a x y i) _ _=_;cases ax:rR a x y i
  .simp only[jZ,ax,cond_false];rfl
  .simp only[jZ,ax,cond_true,if_true,rS];have:decide ((i:Int)<0)=false:=decide_eq_false (by omega);rw[this];rfl
theorem atg (a:axw) (bl:a.length<=1048576) (x y:axa):
  Fb a x y=some (rS a (jZ (rR a (hJ false x y) (hJ true x y)) 0 a.length)):=by
 unfold Fb;refine fa 2 λn aS=>?_;obtain⟨n,rfl⟩:∃k,n=k+2:=⟨n-2,by omega⟩
 show za (BH (n+1)) a x y=_;cases h:(Op.bytesLess x y||x==y)
 .have ad:(Op.bytesLess y x||y==x)=true:=by
   rw[<-R6 x y];cases aC:Op.bytesLess x y
   .rfl
   .rw[aC]at h;cases h
  have ae:Op.bytesLess x y=false:=by cases aC:Op.bytesLess x y;·rfl
                                     .rw[aC]at h;cases h
  have aN:hJ false x y=y:=by simp only[hJ,h,Bool.false_eq_true,if_false]
  have aU:hJ true x y=x:=by simp only[hJ,ae,Bool.not_false,if_true]
  unfold za;rw[h];simp only[Bool.not_false,cond_true];show(za (BH n) a y x).bind _=_;rw[aaM a bl y x ad,aN,aU];rfl
 .have aN:hJ false x y=x:=by simp only[hJ,h,Bool.false_eq_true,if_false,if_true]
  have aU:hJ true x y=y:=by
   cases aC:Op.bytesLess x y
   .rw[aC,Bool.false_or]at h;have:x=y:=by simpa using h
    subst this;simp[hJ]
   .simp[hJ,aC]
  rw[aaM a bl x y h,aN,aU]
theorem ath (s:cJ) (bl:s.b2.length<=1048576) (x y:axa) (z:Int) (b9:z=jZ (rR s.b2 (hJ false x y) (hJ true x y)) 0 s.b2.length):
  zr s x y=some (rS s.b2 z,!(decide (z<0))):=by
 unfold zr Pt;rw[s3 (l:=λm i=>Cj s.b2 x y m i) (n:=s.b2.length) (rR s.b2 (hJ false x y) (hJ true x y)),<-b9]
 .simp only[bind_some];have aC:=R_ (rR s.b2 (hJ false x y) (hJ true x y)) s.b2.length 0;rw[<-b9]at aC;cases h:decide (z<0)
  .have bb:¬z<0:=of_decide_eq_false h;have e:bm s.b2 z=some (eF s.b2 z.toNat):=by
    obtain⟨i,rfl⟩:∃i:Nat,z=i:=⟨z.toNat,by omega⟩
    exact l6 s.b2 i (⟨[],[],[]⟩:b5) (by omega)
   rw[e];simp only[rS,h];rfl
  .simp only[rS,h];rfl
 .intro m;simp only[Cj,Ps];rw[eL (Nat.le_refl _)];rfl
 .intro i ag m;simp only[Cj,Ps];rw[el ag,l6 _ i ⟨[],[],[]⟩ ag,d_ i _ ag (by omega)];rfl
theorem ati (s:cJ) (aE:(my s==0)=true) (i:Nat) (ag:i<s.b2.length):((eF s.b2 i).Result==([]:axa))=false:=by
 have hm:qD s.b2=true:=by
  cases h:qD s.b2
  .unfold my at aE;rw[h]at aE;revert aE;cases lM s.cq<;>cases uO s<;>simp
  .rfl
 unfold qD at hm;rw[Bool.and_eq_true]at hm;have ad:=oI.1 hm.2 i ag;unfold Ai at ad;simp only[Bool.and_eq_true]at ad;have ae:=ad.1.1.1.2;cases aQ:(eF s.b2 i).Result
 .rw[aQ]at ae;cases ae
 .rfl
theorem atj (x y:bd) (h:x.bV.length<=1048576):Br x y=some (mb x y):=by
 have e:mb x y=((x.cD==y.cD)&&((x.Part==y.Part)&&(x.bV==y.bV))):=by
  rw[Bool.eq_iff_iff,pY];cases x;cases y;simp
 unfold Br;rw[RO _ _ h,e];cases x.cD==y.cD<;>cases x.Part==y.Part<;>rfl
theorem atk (a b:axx) (h:a.length<=1048576) (aE:∀p∈a,p.bV.length<=1048576):IM a b=some (mb a b):=by
 unfold IM;by_cases aC:a.length=b.length
 .have e:((a.length:Int) !=(b.length:Int))=false:=by simp[aC]
  rw[e,cond_false];have:=pW (n:=a.length) (l:=BA a b) (λi=>some (mb (a.drop i) (b.drop i))) (λm=>?_) (λi ag m ih=>?_)
  .simpa using this
  .simp only[BA,Og];rw[eL (Nat.le_refl _),List.drop_of_length_le (Nat.le_refl _),List.drop_of_length_le (by omega),cond_false];rw[show mb ([]:axx) []=true from pY.2 rfl]
  .simp only[BA,Og];rw[el ag,dM _ i ag,dM _ i (by omega),d_ i _ ag (by omega),drop_cons a i ag,drop_cons b i (by omega)];simp only[cond_true,bind_some,ih,atj _ _ (aE _ (List.getElem_mem ag))];have aU:mb (a[i]::a.drop (i+1)) (b[i]::b.drop (i+1))=(mb a[i] b[i]&&mb (a.drop (i+1)) (b.drop (i+1))):=by
    rw[Bool.eq_iff_iff,Bool.and_eq_true,pY,pY,pY,List.cons.injEq]
   rw[aU];cases mb a[i] b[i]<;>rfl
 .have e:((a.length:Int) !=(b.length:Int))=true:=by simp;omega
  have aU:mb a b=false:=by
   rw[<-Bool.not_eq_true,pY];intro h;exact aC (by rw[h])
  rw[e,cond_true,aU]
theorem K2 {p:bd} (h:kn p):p.bV.length<=1048576:=by have:=h.km.1;omega
theorem aaO {n:Nat} (o:axy) (m:bh) (h:o.length<=1048576) (aS:n<=100) (hg:∀x∈o,iQ n x):y7 o m=some (hI o m):=by
 unfold y7;rw[pW (n:=o.length) (l:=BB o m) (λi=>some (cond (mb (m∈o.drop i) True) o (o++[m]))) (λk=>?_) (λi ag k ih=>?_)]
 .rw[List.drop_zero];unfold hI;split
  .rename_i hm;rw[show mb (m∈o) True=true from pY.2 (by simp[hm])];rfl
  .rename_i hm;rw[show mb (m∈o) True=false from by rw[<-Bool.not_eq_true,pY];simp[hm]];rfl
 .simp only[BB,Oh];rw[eL (Nat.le_refl _),lK (by omega) (by omega),List.drop_of_length_le (Nat.le_refl _),show mb (m∈([]:axy)) True=false from by rw[<-Bool.not_eq_true,pY];simp];rfl
 .have g:=hg _ (List.getElem_mem ag);simp only[BB,Oh];rw[el ag,dM _ i ag,d_ i _ ag (by omega),drop_cons o i ag];simp only[cond_true,bind_some,ih,atk o[i].State m.State (by have:=g.st.1;omega) (λp ax=>K2 (g.st.2 p ax))];have e:mb (m∈o[i]::o.drop (i+1)) True=(mb o[i] m||mb (m∈o.drop (i+1)) True):=by
   rw[Bool.eq_iff_iff,Bool.or_eq_true,pY,pY,pY];simp only[List.mem_cons,eq_iff_iff,iff_true];rw[eq_comm (a:=m)]
  have aU:mb o[i] m=((o[i].Label==m.Label)&&((o[i].nC==m.nC)&&((o[i].Second==m.Second)&&mb o[i].State m.State))):=by
   rw[Bool.eq_iff_iff,pY];cases o[i];cases m;simp[pY]
  rw[e,aU];cases o[i].Label==m.Label
  .rfl
  .cases o[i].nC==m.nC
   .rfl
   .cases o[i].Second==m.Second
    .rfl
    .cases mb o[i].State m.State<;>rfl
theorem Db {q:axx} (cx:q.length<=100) (h:∀p∈q,kn p):vq q=some q/\Jz q=some q:=by
 constructor
 .unfold vq;have key:∀i,i<=q.length->∀(v:axx) m,v.length=i->q.length-i<m->Bx q m v (i:Int)=some (v++q.drop i):=by
   refine down q.length ?_ ?_
   .intro v m aE hm;obtain⟨m,rfl⟩:∃j,m=j+1:=⟨m-1,by omega⟩
    simp only[Bx,Of];rw[eL (Nat.le_refl _),List.drop_of_length_le (Nat.le_refl _),List.append_nil];rfl
   .intro i ag ih v m aE hm;obtain⟨m,rfl⟩:∃j,m=j+1:=⟨m-1,by omega⟩
    simp only[Bx,Of];rw[el ag,dM _ i ag,d_ i _ ag (by omega)];simp only[cond_true,bind_some,RK _ (K2 (h _ (List.getElem_mem ag)))];rw[lK (by omega) (by omega),bind_some,ih (v++[_]) m (by simp[aE]) (by omega),drop_cons q i ag,List.append_assoc];rfl
  refine fa (q.length+1) λm hm=>?_;have:=key 0 (by omega) [] m rfl (by omega);simpa using this
 .unfold Jz;have key:∀i,i<=q.length->∀(v:axx) m,v.length=i->q.length-i<m->Cf q m v (i:Int)=some (v++q.drop i):=by
   refine down q.length ?_ ?_
   .intro v m aE hm;obtain⟨m,rfl⟩:∃j,m=j+1:=⟨m-1,by omega⟩
    simp only[Cf,Pq];rw[eL (Nat.le_refl _),List.drop_of_length_le (Nat.le_refl _),List.append_nil];rfl
   .intro i ag ih v m aE hm;obtain⟨m,rfl⟩:∃j,m=j+1:=⟨m-1,by omega⟩
    simp only[Cf,Pq,zq];rw[el ag,dM _ i ag,d_ i _ ag (by omega)];simp only[cond_true,bind_some,KT _ (K2 (h _ (List.getElem_mem ag)))];rw[lK (by omega) (by omega),bind_some,ih (v++[_]) m (by simp[aE]) (by omega),drop_cons q i ag,List.append_assoc];rfl
  refine fa (q.length+1) λm hm=>?_;have:=key 0 (by omega) [] m rfl (by omega);simpa using this
theorem Sa {p:bd} (h:kn p):zq p=some p:=by
 unfold zq;rw[KT _ (K2 h)];rfl
theorem G1 (a:awZ) (x:axa) (h:a.length<=1048576):(∃z,Bw a x=some z/\decide (z<0)= !decide (x∈a)/\decide (0<=z)=decide (x∈a))/\Ce a x=some (decide (x∈a)):=by
 have key:(jZ (λi=>a.getD i []==x) 0 a.length<0↔x∉a):=by
  have:=v7 (λi=>a.getD i []==x) a.length;constructor
  .intro bb an;rw[show decide (0<=jZ (λi=>a.getD i []==x) 0 a.length)=false from decide_eq_false (by omega)]at this;have ae:=(Bool.not_eq_false' .. ▸this.symm:f_ (λi=> !(a.getD i []==x)) a.length=true)
   obtain⟨k,au,rfl⟩:=List.mem_iff_getElem.1 an;have:=oI.1 ae k au;simp[List.getD,au]at this
  .intro an;have ae:f_ (λi=> !(a.getD i []==x)) a.length=true:=oI.2 λi ag=>by
    simp only[List.getD,List.getElem?_eq_getElem ag,getD_some,Bool.not_eq_true',beq_eq_false_iff_ne];intro e;exact an (e▸List.getElem_mem ag)
   rw[ae,Bool.not_true]at this;have:=of_decide_eq_false this;omega
 constructor
 .refine⟨jZ (λi=>a.getD i []==x) 0 a.length,?_,?_,?_⟩
  .unfold Bw;exact s3 (l:=Bv a x) (n:=a.length) (λi=>a.getD i []==x) (λm=>by
    simp only[Bv,Oe];rw[eL (Nat.le_refl _)];rfl) (λi ag m=>by
    simp only[Bv,Oe];rw[el ag,l6 _ i [] ag,d_ i _ ag (by omega)];rfl)
  .rw[<-decide_not,decide_eq_decide];exact key
  .rw[decide_eq_decide];constructor
   .intro bb;by_cases an:x∈a
    .exact an
    .have:=key.2 an;omega
   .intro an;by_cases bb:jZ (λi=>a.getD i []==x) 0 a.length<0
    .exact absurd an (key.1 bb)
    .omega
 .unfold Ce Pp;have e:b6 (λn=>zp a x n 0)=some (jZ (λi=>a.getD i []==x) 0 a.length):=
   s3 (l:=zp a x) (n:=a.length) (λi=>a.getD i []==x) (λm=>by
    simp only[zp,Po];rw[eL (Nat.le_refl _)];rfl) (λi ag m=>by
    simp only[zp,Po];rw[el ag,l6 _ i [] ag,d_ i _ ag (by omega),Bool.beq_comm];rfl)
  rw[e,bind_some,some.injEq,decide_eq_decide];constructor
  .intro bb;by_cases an:x∈a
   .exact an
   .have:=key.2 an;omega
  .intro an;by_cases bb:jZ (λi=>a.getD i []==x) 0 a.length<0
   .exact absurd an (key.1 bb)
   .omega
end Go.lZ
