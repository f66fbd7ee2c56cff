/- Part of a proof that a law returns true for every input. No condition. -/
import Derived.Test.YtmaepbgkcmjcjaiGreatDoorUV4x
import Derived.Test.YtmaepbgkcmjcjaiGreatDoorUV0x
import GoSem.Op.String
import Derived.Test.YtmaepbgkcmjcjaiGreatDoorUV3x
import Derived.Test.YtmaepbgkcmjcjaiGreatDoorUV2x
namespace Go.l_
open Option Go.IntKind Nat
open Go Go.eg
section
open Classical
noncomputable def mg {α:Type} (a b:α):Bool:=decide (a=b)
theorem p_ {α:Type} {a b:α}:mg a b=true↔a=b:=by unfold mg;exact decide_eq_true_iff
noncomputable def hN {α:Type} (o:List α) (m:α):List α:=if m∈o then o else o++[m]
end
theorem avv {α:Type} {o:List α} {m:α} (h:m∈o):hN o m=o:=if_pos h
theorem avw {α:Type} {o:List α} {m:α} (h:m∉o):hN o m=o++[m]:=if_neg h
theorem Tm {α:Type} (o:List α) (m:α):o.length<=(hN o m).length/\(hN o m).length<=o.length+1:=by
 unfold hN;split
 .omega
 .simp
theorem LV {α:Type} {o:List α} {m x:α} (h:x∈hN o m):x∈o\/x=m:=by
 unfold hN at h;split at h
 .exact .inl h
 .simpa using h
noncomputable def iM {α:Type} (o:List α) (m:α):List α:=if 200<o.length then o else hN o m
theorem Tn {α:Type}:∀(l o:List α),o.length<=(l.foldl hN o).length/\(l.foldl hN o).length<=o.length+l.length
 |[],o=>by simp
 |s::r,o=>by
  have ad:=Tm o s;have ae:=Tn r (hN o s);rw[List.foldl_cons,List.length_cons];omega
theorem To {α:Type}:∀(l o:List α),200<o.length->l.foldl iM o=o
 |[],o,_=>rfl
 |s::r,o,h=>by rw[List.foldl_cons,show iM o s=o by unfold iM;rw[if_pos h],To r o h]
theorem abU {α:Type}:∀(l o:List α),((l.foldl hN o).length<=200->l.foldl iM o=l.foldl hN o)/\(200<(l.foldl hN o).length->200<(l.foldl iM o).length)
 |[],o=>⟨λ_=>rfl,λh=>h⟩
 |s::r,o=>by
  by_cases h:200<o.length
  .rw[To _ _ h];have:=(Tn (s::r) o).1;exact⟨λae=>by omega,λ_=>h⟩
  .rw[List.foldl_cons,List.foldl_cons,show iM o s=hN o s by unfold iM;rw[if_neg h]];exact abU r (hN o s)
def nQ {α:Type} (K:α->azc) (p:List α×aza) (s:α):List α×aza:=
 if j0 (K s) p.2=true then p else(p.1++[s],kb (K s) true p.2)
theorem avx {α:Type} (K:α->azc) (p:List α×aza) (s:α):(nQ K p s).1.length<=p.1.length+1:=by
 unfold nQ;split
 .omega
 .simp
theorem abV {α:Type} (K:α->azc):∀(l:List α) (p:List α×aza),(l.foldl (nQ K) p).1.length<=p.1.length+l.length
 |[],p=>Nat.le_refl _
 |s::r,p=>by
  have ad:=abV K r (nQ K p s);have ae:=avx K p s;rw[List.foldl_cons,List.length_cons];omega
theorem Tp {α:Type} {K:α->azc} {G:α->Prop} (kY:∀x y,G x->G y->K x=K y->x=y):∀(l o:List α) (m:aza),(∀x∈l,G x)->(∀x∈o,G x)->(∀s,G s->(j0 (K s) m=true↔s∈o))->
  (l.foldl (nQ K) (o,m)).1=l.foldl hN o
 |[],o,m,_,_,_=>rfl
 |s::r,o,m,aC,bL,hm=>by
  have aa:=aC s (by simp);rw[List.foldl_cons,List.foldl_cons];by_cases h:s∈o
  .rw[avv h,show nQ K (o,m) s=(o,m)from if_pos ((hm s aa).2 h)];exact Tp kY r o m (λx an=>aC x (List.mem_cons_of_mem _ an)) bL hm
  .rw[avw h,show nQ K (o,m) s=(o++[s],kb (K s) true m)from if_neg λe=>h ((hm s aa).1 e)];refine Tp kY r _ _ (λx an=>aC x (List.mem_cons_of_mem _ an)) (λx an=>?_) λx an=>?_
   .rcases List.mem_append.1 an with an|an
    .exact bL x an
    .rw[List.mem_singleton]at an;rwa [an]
   .rw[Te,List.mem_append,List.mem_singleton,<-hm x an];split
    .rename_i e;exact⟨λ_=>.inr (kY _ _ aa an e).symm,λ_=>rfl⟩
    .rename_i e;exact⟨.inl,λq=>q.elim id λq=>absurd (by rw[q]) e⟩
structure kA (p:bp):Prop where
 w9:∃i:Nat,i<100/\p.cE=(i:Int)
 w_:∃j:Nat,j<100/\p.Part=(j:Int)
 kz:p.bV.length<=64/\∀x∈p.bV,gh x
theorem fG.next {s:bb} (h:fG s):kA s.Next:=⟨h.w9,h.w_,h.kz⟩
def oY (p:bp):azc:=(iw p.cE.toNat++[58])++((iw p.Part.toNat++[58])++iC p.bV)
def AQ (q:azA):azc:=hG (q.map oY) [32]
theorem avy {p:bp} (h:kA p):(oY p).length<=300:=by
 have ad:=wX p.cE.toNat;have ae:=wX p.Part.toNat;have aJ:=w6 p.bV;have bh:=h.kz.1;simp only[oY,List.length_append,List.length_cons,List.length_nil];omega
theorem avz {p:bp} (h:kA p):zY p=some (oY p):=by
 obtain⟨i,ai,iv⟩:=h.w9;obtain⟨j,bJ,ox⟩:=h.w_;have ad:=wX i;have ae:=wX j;have aJ:=w6 p.bV;have bh:=h.kz.1;unfold zY Ku oY;simp only[iv,ox,AB i ai,AB j bJ,bind_some,SV _ bh h.kz.2,Int.toNat_natCast];rw[lA (by omega),lA (by omega)];simp only[bind_some];rw[lA (by simp only[List.length_append,List.length_cons,List.length_nil];omega)];simp only[bind_some];rw[lA (by simp only[List.length_append,List.length_cons,List.length_nil];omega)];rfl
theorem abW {q:azA} (h:∀p∈q,kA p):(AQ q).length<=q.length*301:=by
 have:=HA 32 300 (q.map oY) λx an=>by
  obtain⟨y,hy,rfl⟩:=List.mem_map.1 an;exact avy (h y hy)
 rwa [List.length_map]at this
theorem avA {q:azA} (cz:q.length<=100) (h:∀p∈q,kA p):Kz q=some (AQ q):=by
 have bJ:strings_Join (q.map oY) [32]=some (AQ q):=by
  have:=abW h;unfold strings_Join;rw[if_pos ⟨by rw[List.length_map];omega,by unfold AQ at this;omega⟩];rfl
 have key:∀i,i<=q.length->∀(v:azb) m,v.length=i->q.length-i<m->C1 q m v (i:Int)=strings_Join (v++(q.drop i).map oY) [32]:=by
  refine down q.length ?_ ?_
  .intro v m oF hm;obtain⟨m,rfl⟩:∃j,m=j+1:=⟨m-1,by omega⟩
   simp only[C1,Qp];rw[ev (Nat.le_refl _),List.drop_of_length_le (Nat.le_refl _),List.map_nil,List.append_nil,cond_false];cases strings_Join v [32]<;>rfl
  .intro i ai ih v m oF hm;obtain⟨m,rfl⟩:∃j,m=j+1:=⟨m-1,by omega⟩
   simp only[C1,Qp];rw[d_ ai,dJ _ i ai,dQ i _ ai (by omega)];simp only[cond_true,bind_some,avz (h _ (List.getElem_mem ai))];rw[ky (by omega) (by omega),bind_some,ih (v++[_]) m (by simp[oF]) (by omega),drop_cons q i ai,List.map_cons,List.append_assoc];rfl
 unfold Kz;refine eY (q.length+1) λm hm=>?_;have:=key 0 (by omega) [] m rfl (by omega);rw[List.drop_zero,List.nil_append,bJ]at this;exact this
theorem avB {p:bp} (h:kA p):∀c∈oY p,44<=c.toNat:=by
 obtain⟨i,ai,iv⟩:=h.w9;obtain⟨j,bJ,ox⟩:=h.w_;intro c ar;unfold oY at ar;rw[iv,ox,Int.toNat_natCast,Int.toNat_natCast]at ar;simp only[List.mem_append,List.mem_singleton]at ar;rcases ar with(ar|rfl)|(ar|rfl)|ar
 .have:=(xa i ai c ar).1;omega
 .decide
 .have:=(xa j bJ c ar).1;omega
 .decide
 .exact(abv _ h.kz.2 c ar).1
theorem avC {x y:bp} (an:kA x) (hy:kA y) (h:oY x=oY y):x=y:=by
 obtain⟨i,ai,iv⟩:=an.w9;obtain⟨j,bJ,ox⟩:=an.w_;obtain⟨tM,Ex,Tq⟩:=hy.w9;obtain⟨ay4,abX,Tr⟩:=hy.w_;unfold oY at h;rw[iv,ox,Tq,Tr]at h;simp only[Int.toNat_natCast,List.append_assoc,List.singleton_append]at h;obtain⟨J,a2⟩:=vm (yD ai) (yD Ex) h;obtain⟨a3,a4⟩:=vm (yD bJ) (yD abX) a2;have a5:=abC an.kz.2 hy.kz.2 a4;have pK:=AO ai Ex J;have o7:=AO bJ abX a3;cases x;cases y;simp only at iv ox Tq Tr a5;rw[iv,ox,Tq,Tr,a5,pK,o7]
theorem avD {c:UInt8}:∀{a b:azb},(∀x∈a,c∉x)->(∀x∈b,c∉x)->a≠[]->b≠[]->hG a [c]=hG b [c]->a=b:=by
 intro a b bl ab ad ae h;have:=congrArg (fR c) h
 rwa [LS c a ad bl,LS c b ae ab]at this
theorem abY:∀{a b:azA},(∀x∈a,kA x)->(∀x∈b,kA x)->a.map oY=b.map oY->a=b
 |[],[],_,_,_=>rfl
 |[],_::_,_,_,h=>by cases h
 |_::_,[],_,_,h=>by cases h
 |x::xs,y::cH,ad,ae,h=>by
  rw[List.map_cons,List.map_cons]at h;obtain⟨aO,aU⟩:=List.cons.inj h;rw[avC (ad x (by simp)) (ae y (by simp)) aO,abY (λz cf=>ad z (List.mem_cons_of_mem _ cf)) (λz cf=>ae z (List.mem_cons_of_mem _ cf)) aU]
theorem avE {a b:azA} (bl:∀x∈a,kA x) (ab:∀x∈b,kA x) (aC:a.length=b.length) (h:AQ a=AQ b):a=b:=by
 have abZ:∀q:azA,(∀x∈q,kA x)->∀x∈q.map oY,(32:UInt8)∉x:=by
  intro q cz x an hm;obtain⟨y,hy,rfl⟩:=List.mem_map.1 an;have:=avB (cz y hy) _ hm;revert this;decide
 by_cases a7:a=[]
 .subst a7;exact(List.length_eq_zero_iff.1 aC.symm).symm
 .have ad:b≠[]:=λe=>a7 (by rw[e]at aC;exact List.length_eq_zero_iff.1 aC);exact abY bl ab (avD (abZ a bl) (abZ b ab) (by simpa using a7) (by simpa using ad) h)
structure i6 (n:Nat) (m:bf):Prop where
 AN:m.Label.length<=400/\(32:UInt8)∉m.Label
 fst:∃i:Nat,i<100/\m.fa=(i:Int)
 snd:m.Second= -1\/∃k:Nat,k<100/\m.Second=(k:Int)
 st:m.State.length=n/\∀p∈m.State,kA p
def sd (x:Int):azc:=if x<0 then [45,49]else iw x.toNat
def oZ (m:bf):azc:=(((((m.Label++[32])++iw m.fa.toNat)++[32])++sd m.Second)++[32])++AQ m.State
theorem Ts {x:Int} (h:x= -1\/∃k:Nat,k<100/\x=(k:Int)):oQ x=some (sd x)/\(sd x).length<=2/\(32:UInt8)∉sd x:=by
 rcases h with rfl|⟨k,ax,rfl⟩
 .refine⟨?_,by decide,by decide⟩;unfold oQ zS uP;rw[show((-1:Int).natAbs)=1 from rfl,nt];rfl
 .have e:sd (k:Int)=iw k:=by unfold sd;rw[if_neg (by omega),Int.toNat_natCast]
  rw[e];refine⟨AB k ax,wX k,λhm=>?_⟩;have:=xa k ax _ hm;revert this;decide
theorem avF {x y:Int} (an:x= -1\/∃k:Nat,k<100/\x=(k:Int)) (hy:y= -1\/∃k:Nat,k<100/\y=(k:Int)) (h:sd x=sd y):x=y:=by
 have no:∀k:Nat,k<100->sd (k:Int)≠[45,49]:=by
  intro k ax e;have aO:sd (k:Int)=iw k:=by unfold sd;rw[if_neg (by omega),Int.toNat_natCast]
  rw[aO]at e;have:=xa k ax 45 (by rw[e];simp);revert this;decide
 rcases an with rfl|⟨k,ax,rfl⟩<;>rcases hy with rfl|⟨l,aC,rfl⟩
 .rfl
 .exact absurd h.symm (no l aC)
 .exact absurd h (no k ax)
 .unfold sd at h;rw[if_neg (by omega),if_neg (by omega),Int.toNat_natCast,Int.toNat_natCast]at h;rw[AO ax aC h]
theorem avG {n:Nat} (x y:bf) (an:i6 n x) (hy:i6 n y) (h:oZ x=oZ y):x=y:=by
 obtain⟨i,ai,iv⟩:=an.fst;obtain⟨j,bJ,ox⟩:=hy.fst;unfold oZ at h;rw[iv,ox]at h;simp only[Int.toNat_natCast,List.append_assoc,List.singleton_append]at h;obtain⟨J,a2⟩:=vm an.AN.2 hy.AN.2 h;have Hl:∀k:Nat,k<100->(32:UInt8)∉iw k:=λk ax hm=>by
  have:=xa k ax _ hm;revert this;decide
 obtain⟨a3,a4⟩:=vm (Hl i ai) (Hl j bJ) a2;obtain⟨a5,pK⟩:=vm (Ts an.snd).2.2 (Ts hy.snd).2.2 a4;have o7:=avF an.snd hy.snd a5;have MO:=avE an.st.2 hy.st.2 (by rw[an.st.1,hy.st.1]) pK;have a9:=AO ai bJ a3;cases x;cases y;simp only at iv ox J o7 MO;rw[iv,ox,J,o7,MO,a9]
set_option linter.unusedSimpArgs false
theorem Tt (a b:azc):(!(Op.bytesLess a b))=(Op.bytesLess b a||b==a):=by
 induction a generalizing b with
 |nil=>cases b<;>simp[Op.bytesLess]
 |cons x a ih=>
  cases b with
  |nil=>simp[Op.bytesLess]
  |cons y b=>
   simp only[Op.bytesLess];have:=ih b;by_cases ad:x<y
   .have ae:¬y<x:=λh=>by have:=UInt8.lt_asymm ad h;exact this
    have aJ:y≠x:=λh=>by subst h;exact absurd ad (UInt8.lt_irrefl _)
    simp[ad,ae,aJ]
   .by_cases ae:y<x
    .have aJ:x≠y:=λh=>by subst h;exact absurd ae (UInt8.lt_irrefl _)
     simp[ad,ae,aJ]
    .have aJ:x=y:=by
      have aO:=UInt8.not_lt.1 ad;have aU:=UInt8.not_lt.1 ae;exact UInt8.le_antisymm aU aO
     subst aJ;simp[ad,this]
theorem avH (a:azc):Op.bytesLess a a=false:=by
 have:=Tt a a;cases h:Op.bytesLess a a with
 |false=>rfl
 |true=>rw[h]at this;simp at this
set_option linter.unusedSimpArgs false
def jZ (s:azc):Bool:=ha s&& !(s==([116,97,117]:azc))
theorem ab0 (s:azc):rf s=some (jZ s):=by unfold rf;rw[yu];rfl
theorem LW (s:azc) (aa:s.length<=1048576):rr s=some (jZ s):=SR s aa
theorem avI {β:Type} {l:Nat->Int->Option β} {n:Nat} (p:Nat->Bool) (mc bad:Option β) (a7:∀m,l (m+1) (n:Int)=mc)
  (aa:∀i,i<n->∀m,l (m+1) (i:Int)=cond (p i) (l m ((i+1:Nat):Int)) bad) (i0:Nat) (ai:i0<=n):bX (λm=>l m (i0:Int))=cond ((List.range' i0 (n-i0)).all p) mc bad:=by
 refine eY (n+1) λm hm=>?_;refine up (λi=>cond ((List.range' i (n-i)).all p) mc bad) (λm=>?_) (λi ai m ih=>?_) i0 ai m (by omega)
 .rw[a7];simp
 .rw[aa i ai,ih,show n-i=(n-(i+1))+1 by omega,List.range'_succ];cases ay:p i<;>simp[ay]
def qa (a:azb) (i:Nat):Bool:=decide (i=0)||Op.bytesLess (a.getD (i-1) []) (a.getD i [])
def vo (a:azb):Bool:=decide (a.length<=12)&&(fW (λi=>jZ (a.getD i [])) a.length&&fW (qa a) a.length)
theorem ab1 (a:azb) (h:a.length<=1048576):FX a=some (vo a):=by
 unfold FX vo;by_cases aC:12<a.length
 .have d1:decide ((12:Int)<(a.length:Int))=true:=decide_eq_true (by omega);have d2:decide (a.length<=12)=false:=decide_eq_false (by omega);rw[d1,d2];rfl
 .have d1:decide ((12:Int)<(a.length:Int))=false:=decide_eq_false (by omega);have d2:decide (a.length<=12)=true:=decide_eq_true (by omega);have r2:Jp a=some (fW (λi=>jZ (a.getD i [])) a.length):=by
   unfold Jp;refine Hu (l:=λm i=>B0 a m i) _ (λm=>?_) (λi ai m=>?_)
   .simp only[B0,O4];rw[ev (Nat.le_refl _)];rfl
   .simp only[B0,O4];rw[d_ ai,ly _ i [] ai,dQ i _ ai (by omega)];simp only[cond_true,bind_some,ab0];cases jZ (a.getD i [])<;>rfl
  rw[d1,d2,r2];simp only[cond_false,bind_some,Bool.true_and];cases fW (λi=>jZ (a.getD i [])) a.length
  .rfl
  .simp only[Bool.not_true,cond_false,Bool.true_and];by_cases a7:a.length=0
   .rw[eY (x:=some true) 1 (λm hm=>by
     obtain⟨k,rfl⟩:∃k,m=k+1:=⟨m-1,by omega⟩
     simp only[rh,Jq];rw[a7];rfl)]
    rw[a7];rfl
   .have key:=avI (l:=λm i=>rh a m i) (n:=a.length) (λi=>decide (i=0)||Op.bytesLess (a.getD (i-1) []) (a.getD i [])) (some true) (some false);have cf:rh a=rh a:=rfl;have:∀i,1<=i->i<=a.length->∀m,a.length-i<m->rh a m (i:Int)=cond ((List.range' i (a.length-i)).all (qa a)) (some true) (some false):=by
     intro i ad ae;refine down a.length (P:=λi=>1<=i->∀m,a.length-i<m->rh a m (i:Int)=cond ((List.range' i (a.length-i)).all (qa a)) (some true) (some false)) ?_ ?_ i ae ad
     .intro _ m hm;obtain⟨k,rfl⟩:∃k,m=k+1:=⟨m-1,by omega⟩
      simp only[rh,Jq];rw[ev (Nat.le_refl _)];simp
     .intro i ai ih ad m hm;obtain⟨k,rfl⟩:∃k,m=k+1:=⟨m-1,by omega⟩
      simp only[rh,Jq];rw[d_ ai,Hv i (by omega) (by omega),ly _ (i-1) [] (by omega),ly _ i [] ai,dQ i _ ai (by omega),ih (by omega) k (by omega),show a.length-i=(a.length-(i+1))+1 by omega,List.range'_succ];have aT:qa a i=Op.bytesLess (a.getD (i-1) []) (a.getD i []):=by
       unfold qa;have:decide (i=0)=false:=decide_eq_false (by omega);rw[this,Bool.false_or]
      simp only[cond_true,bind_some,List.all_cons,aT];cases Op.bytesLess (a.getD (i-1) []) (a.getD i [])<;>rfl
    have Tu:=eY (f:=λm=>rh a m 1) (a.length+1) (λm hm=>this 1 (by omega) (by omega) m (by omega));rw[Tu];have e:fW (qa a) a.length=(List.range' 1 (a.length-1)).all (qa a):=by
     unfold fW;rw[List.range_eq_range',show a.length=(a.length-1)+1 by omega,List.range'_succ];simp[qa]
    rw[e];cases(List.range' 1 (a.length-1)).all (qa a)<;>rfl
theorem avJ {p q:Nat->Bool} {n:Nat}:(fW p n&&fW q n)=fW (λi=>p i&&q i) n:=w5.symm
theorem ab2 (a:azb) (h:a.length<=1048576) (aa:∀s∈a,s.length<=1048576):Gq a=some (vo a):=by
 unfold Gq vo;rw[avJ];rw[AG (l:=λm i=>CJ a m i) (n:=a.length) (λi=>jZ (a.getD i [])&&qa a i) (some (decide ((a.length:Int)<=12))) (some false)]
 .have e:decide ((a.length:Int)<=12)=decide (a.length<=12):=decide_eq_decide.2 (by omega);rw[e];cases fW (λi=>jZ (a.getD i [])&&qa a i) a.length<;>cases decide (a.length<=12)<;>rfl
 .intro m;simp only[CJ,PV];rw[ev (Nat.le_refl _)];rfl
 .intro i ai m;simp only[CJ,PV];have hm:(a.getD i []).length<=1048576:=by
   have:a.getD i []=a[i]:=by simp[List.getD,ai]
   rw[this];exact aa _ (List.getElem_mem ai)
  rw[d_ ai,ly _ i [] ai,dQ i _ ai (by omega)];simp only[cond_true,bind_some,LW _ hm];by_cases a7:i=0
  .subst a7;rw[Az];simp only[cond_false,qa,decide_true,Bool.true_or,Bool.and_true];cases jZ (a.getD 0 [])<;>rfl
  .rw[St a7,Hv i (by omega) (by omega),ly _ (i-1) [] (by omega)];have aT:qa a i=Op.bytesLess (a.getD (i-1) []) (a.getD i []):=by
    unfold qa;have:decide (i=0)=false:=decide_eq_false a7;rw[this,Bool.false_or]
   have aY:=Tt (a.getD (i-1) []) (a.getD i []);simp only[cond_true,bind_some,aT,<-aY];cases jZ (a.getD i [])<;>cases Op.bytesLess (a.getD (i-1) []) (a.getD i [])<;>rfl
def mD (cs:azy) (i:Nat):dx:=cs.getD i ⟨0,[]⟩
def AR (e:azx) (c:dx):Bool:=
 cond (decide (0<=c.cE)&&decide (c.cE<=(e.length:Int)-1)) (((c.bV.length:Int)==(e.getD c.cE.toNat ⟨[],0,[]⟩).ek)&&yB c.bV) false
def vp (s:cM):Bool:=(decide (1<=s.cg.length)&&decide (s.cg.length<=3))&&fW (λi=>AR s.cw (mD s.cg i)) s.cg.length
theorem ab3 {e:azx} {n:Int} (h:(decide (0<=n)&&decide (n<=(e.length:Int)-1))=true):bk e n=some (e.getD n.toNat ⟨[],0,[]⟩):=by
 simp only[Bool.and_eq_true,decide_eq_true_eq]at h;obtain⟨i,rfl⟩:∃i:Nat,n=i:=⟨n.toNat,by omega⟩
 exact ly e i _ (by omega)
theorem avK (s:cM) (ao:s.cw.length<=1048576) (ar:s.cg.length<=1048576) (aF:∀c∈s.cg,c.bV.length<=1048576):Jn s=some (vp s):=by
 unfold Jn vp;by_cases aC:1<=s.cg.length/\s.cg.length<=3
 .have d1:(((s.cg.length:Int)==0)||decide ((3:Int)<(s.cg.length:Int)))=false:=by
   rw[Bool.or_eq_false_iff,beq_eq_false_iff_ne,decide_eq_false_iff_not];omega
  have d2:(decide (1<=s.cg.length)&&decide (s.cg.length<=3))=true:=by simp;omega
  rw[d1,d2,cond_false,Bool.true_and];refine Hu (l:=λm i=>BZ s m i) _ (λm=>?_) (λi ai m=>?_)
  .simp only[BZ,O1];rw[ev (Nat.le_refl _)];rfl
  .simp only[BZ,O1,jP];have hm:(mD s.cg i).bV.length<=1048576:=by
    have:mD s.cg i=s.cg[i]:=by simp[mD,List.getD,ai]
    rw[this];exact aF _ (List.getElem_mem ai)
   rw[d_ ai,ly _ i ⟨0,[]⟩ ai,dQ i _ ai (by omega),eD ((s.cw.length:Int)-1) (by omega)];show cond true (Option.bind (some (mD s.cg i)) _) _=_;simp only[cond_true,bind_some];unfold AR;cases ax:(decide (0<=(mD s.cg i).cE)&&decide ((mD s.cg i).cE<=(s.cw.length:Int)-1))
   .rfl
   .rw[ab3 ax];simp only[Bool.not_true,cond_false,cond_true,bind_some,S6 _ hm];have dV:(((mD s.cg i).bV.length:Int) !=(s.cw.getD (mD s.cg i).cE.toNat ⟨[],0,[]⟩).ek)= !(((mD s.cg i).bV.length:Int)==(s.cw.getD (mD s.cg i).cE.toNat ⟨[],0,[]⟩).ek):=rfl;rw[dV];cases(((mD s.cg i).bV.length:Int)==(s.cw.getD (mD s.cg i).cE.toNat ⟨[],0,[]⟩).ek)<;>cases yB (mD s.cg i).bV<;>rfl
 .have d1:(((s.cg.length:Int)==0)||decide ((3:Int)<(s.cg.length:Int)))=true:=by
   by_cases a7:s.cg.length=0
   .simp[a7]
   .have:decide ((3:Int)<(s.cg.length:Int))=true:=decide_eq_true (by omega);rw[this,Bool.or_true]
  have d2:(decide (1<=s.cg.length)&&decide (s.cg.length<=3))=false:=by
   rw[Bool.and_eq_false_iff,decide_eq_false_iff_not,decide_eq_false_iff_not];omega
  rw[d1,d2];rfl
theorem avL (e:azx) (he:e.length<=1048576) (c:dx) (ar:c.bV.length<=1048576):J6 e c=some (AR e c):=by
 unfold J6 AR;rw[LA _ e.length he];simp only[bind_some];cases ax:(decide (0<=c.cE)&&decide (c.cE<=(e.length:Int)-1))
 .rfl
 .rw[ab3 ax];simp only[cond_true,bind_some,S7 _ ar];cases((c.bV.length:Int)==(e.getD c.cE.toNat ⟨[],0,[]⟩).ek)<;>rfl
theorem avM (s:cM) (ao:s.cw.length<=1048576) (ar:s.cg.length<=1048576) (aF:∀c∈s.cg,c.bV.length<=1048576):
  J7 s.cg s=some (!(fW (λi=>AR s.cw (mD s.cg i)) s.cg.length)):=by
 unfold J7 PQ;rw[p8 (n:=s.cg.length) (λi=> !(AR s.cw (mD s.cg i)))]
 .simp only[bind_some,tr,Bool.not_not]
 .intro m;simp only[Gm,PO];rw[ev (Nat.le_refl _)];rfl
 .intro i ai m;simp only[Gm,PO];have hm:(mD s.cg i).bV.length<=1048576:=by
   have:mD s.cg i=s.cg[i]:=by simp[mD,List.getD,ai]
   rw[this];exact aF _ (List.getElem_mem ai)
  rw[d_ ai,ly _ i ⟨0,[]⟩ ai,dQ i _ ai (by omega)];show cond true (Option.bind (some (mD s.cg i)) _) _=_;simp only[cond_true,bind_some,PN,avL _ ao _ hm]
def eE (a:azz) (i:Nat):ch:=a.getD i ⟨[],[],[]⟩
def AU (p m:ch):Bool:=Op.bytesLess p.Left m.Left||(p.Left==m.Left&&Op.bytesLess p.cY m.cY)
def AV (a:azz) (m:ch):Bool:=fW (λj=> !((eE a j).Left==m.Result||(eE a j).cY==m.Result)) a.length
def AW (a:azz) (i:Nat):Bool:=
 ((((jZ (eE a i).Left&&jZ (eE a i).cY)&&jZ (eE a i).Result)&&(Op.bytesLess (eE a i).Left (eE a i).cY||(eE a i).Left==(eE a i).cY))&&(decide (i=0)||AU (eE a (i-1)) (eE a i)))&&AV a (eE a i)
def qQ (a:azz):Bool:=decide (a.length<=6)&&fW (AW a) a.length
def LX (a:azz):Prop:=a.length<=1048576/\∀m∈a,m.Left.length<=1048576/\m.cY.length<=1048576/\m.Result.length<=1048576
theorem avN (p m:ch):((!(Op.bytesLess p.Left m.Left||p.Left==m.Left))||((p.Left==m.Left)&&(!(Op.bytesLess p.cY m.cY))))= !(AU p m):=by
 unfold AU;cases he:p.Left==m.Left
 .cases Op.bytesLess p.Left m.Left<;>rfl
 .have:p.Left=m.Left:=by simpa using he
  rw[this,avH];cases Op.bytesLess p.cY m.cY<;>rfl
def xc (a b:azc):Int:=cond (Op.bytesLess a b) (-1) (cond (!(Op.bytesLess a b||a==b)) 1 0)
theorem avO (a b:azc):J9 a b=some (xc a b):=by
 unfold J9 J8 xc;simp only[bind_some,cond_false];cases Op.bytesLess a b<;>cases a==b<;>rfl
theorem avP (p m:ch):∃v,Kb p m=some v/\decide (0<=v)= !(AU p m):=by
 have Tu:Ka [p.Left,p.cY] [m.Left,m.cY]=some (cond (xc p.Left m.Left !=0) (xc p.Left m.Left) (cond (xc p.cY m.cY !=0) (xc p.cY m.cY) 0)):=by
  unfold Ka;refine eY 3 λn aR=>?_;obtain⟨n,rfl⟩:∃k,n=k+3:=⟨n-3,by omega⟩
  have fT:bk [p.Left,p.cY] 0=some p.Left:=rfl;have aO:bk [m.Left,m.cY] 0=some m.Left:=rfl;have aU:bk [p.Left,p.cY] 1=some p.cY:=rfl;have aM:bk [m.Left,m.cY] 1=some m.cY:=rfl;have gR:i64.wrap (0+1)=1:=by decide
  have jh:i64.wrap (1+1)=2:=by decide
  simp only[J_,XI,List.length_cons,List.length_nil,fT,aO,aU,aM,gR,jh,bind_some,avO];cases xc p.Left m.Left !=0
  .cases xc p.cY m.cY !=0<;>rfl
  .rfl
 unfold Kb;rw[Tu];refine⟨_,rfl,?_⟩;unfold AU xc;cases aC:Op.bytesLess p.Left m.Left
 .cases he:p.Left==m.Left
  .rfl
  .cases aT:Op.bytesLess p.cY m.cY
   .cases p.cY==m.cY<;>rfl
   .rfl
 .rfl
theorem avQ (a:azz) (h:a.length<=1048576) (m:ch):Gp a m=some (!(AV a m)):=by
 unfold Gp PT;rw[p8 (n:=a.length) (λj=>((eE a j).Left==m.Result||(eE a j).cY==m.Result))]
 .simp only[bind_some,tr];rfl
 .intro k;simp only[Gn,PS];rw[ev (Nat.le_refl _)];rfl
 .intro i ai k;simp only[Gn,PS];rw[d_ ai,ly _ i ⟨[],[],[]⟩ ai,dQ i _ ai (by omega)];simp only[cond_true,bind_some,PR];rfl
theorem avR {a:azz} (h:LX a) {i:Nat} (ai:i<a.length):(eE a i).Left.length<=1048576/\(eE a i).cY.length<=1048576/\(eE a i).Result.length<=1048576:=by
 have:eE a i=a[i]:=by simp[eE,List.getD,ai]
 rw[this];exact h.2 _ (List.getElem_mem ai)
theorem HH {a:azz} {i:Nat} (ai:i<a.length):bk a (i:Int)=some (eE a i):=ly a i _ ai
theorem avS (a:azz) (h:LX a):Jo a=some (qQ a):=by
 unfold Jo qQ;by_cases aC:6<a.length
 .have d1:decide ((6:Int)<(a.length:Int))=true:=decide_eq_true (by omega);have d2:decide (a.length<=6)=false:=decide_eq_false (by omega);rw[d1,d2];rfl
 .have d1:decide ((6:Int)<(a.length:Int))=false:=decide_eq_false (by omega);have d2:decide (a.length<=6)=true:=decide_eq_true (by omega);rw[d1,d2,cond_false,Bool.true_and];refine Hu (l:=λm i=>sN a m i) _ (λm=>?_) (λi ai m=>?_)
  .simp only[sN,O3];rw[ev (Nat.le_refl _)];rfl
  .have iB:(bX λn=>vX (sN a m) a (eE a i) n (i:Int) 0)=cond (AV a (eE a i)) (sN a m ((i+1:Nat):Int)) (some false):=by
    refine AG (l:=λjG j=>vX (sN a m) a (eE a i) jG (i:Int) j) _ _ _ (λjG=>?_) (λj bJ jG=>?_)
    .simp only[vX,O2];rw[ev (Nat.le_refl _),dQ i _ ai (by omega)];rfl
    .simp only[vX,O2];rw[d_ bJ,HH bJ,dQ j _ bJ (by omega)];simp only[cond_true,bind_some];cases((eE a j).Left==(eE a i).Result||(eE a j).cY==(eE a i).Result)<;>rfl
   simp only[sN,O3];rw[d_ ai,HH ai];simp only[cond_true,bind_some,ab0,iB];unfold AW;by_cases a7:i=0
   .subst a7;rw[Az];simp only[cond_false,decide_true,Bool.true_or,Bool.and_true];cases jZ (eE a 0).Left<;>cases jZ (eE a 0).cY<;>cases jZ (eE a 0).Result<;>cases(Op.bytesLess (eE a 0).Left (eE a 0).cY||(eE a 0).Left==(eE a 0).cY)<;>cases AV a (eE a 0)<;>rfl
   .rw[St a7,Hv i (by omega) (by omega),HH (show i-1<a.length by omega)];have ao:decide (i=0)=false:=decide_eq_false a7;simp only[cond_true,bind_some,ao,Bool.false_or,avN];cases jZ (eE a i).Left<;>cases jZ (eE a i).cY<;>cases jZ (eE a i).Result<;>cases(Op.bytesLess (eE a i).Left (eE a i).cY||(eE a i).Left==(eE a i).cY)<;>cases AU (eE a (i-1)) (eE a i)<;>cases AV a (eE a i)<;>rfl
theorem avT (a:azz) (h:LX a):Kc a=some (qQ a):=by
 unfold Kc qQ;rw[AG (l:=λm i=>CI a m i) (n:=a.length) (AW a) (some (decide ((a.length:Int)<=6))) (some false)]
 .have e:decide ((a.length:Int)<=6)=decide (a.length<=6):=decide_eq_decide.2 (by omega);rw[e];cases fW (AW a) a.length<;>cases decide (a.length<=6)<;>rfl
 .intro m;simp only[CI,PU];rw[ev (Nat.le_refl _)];rfl
 .intro i ai m;have aC:=h.1;obtain⟨s1,s2,sy⟩:=avR h ai;simp only[CI,PU];rw[d_ ai,HH ai,dQ i _ ai (by omega)];simp only[cond_true,bind_some,LW _ s1,LW _ s2,LW _ sy,avQ a aC];unfold AW;by_cases a7:i=0
  .subst a7;rw[Az];simp only[cond_false,decide_true,Bool.true_or,Bool.and_true];cases jZ (eE a 0).Left<;>cases jZ (eE a 0).cY<;>cases jZ (eE a 0).Result<;>cases(Op.bytesLess (eE a 0).Left (eE a 0).cY||(eE a 0).Left==(eE a 0).cY)<;>cases AV a (eE a 0)<;>rfl
  .rw[St a7,Hv i (by omega) (by omega),HH (show i-1<a.length by omega)];obtain⟨v,v1,v2⟩:=avP (eE a (i-1)) (eE a i);have ao:decide (i=0)=false:=decide_eq_false a7;simp only[cond_true,bind_some,ao,Bool.false_or,v1,v2];cases jZ (eE a i).Left<;>cases jZ (eE a i).cY<;>cases jZ (eE a i).Result<;>cases(Op.bytesLess (eE a i).Left (eE a i).cY||(eE a i).Left==(eE a i).cY)<;>cases AU (eE a (i-1)) (eE a i)<;>cases AV a (eE a i)<;>rfl
def vq (s:cM):Prop:=pE s.cw/\(s.cg.length<=1048576/\∀c∈s.cg,c.bV.length<=1048576)/\LX s.b8/\
 (s.cB.length<=1048576/\∀x∈s.cB,x.length<=1048576)/\(s.cy.length<=1048576/\∀x∈s.cy,x.length<=1048576)
noncomputable def mE (s:cM):Int:=cond (!lZ s.cw) 1 (cond (!vp s) 2 (cond (!qQ s.b8) 3 (cond (!vo s.cB) 4 (cond (!vo s.cy) 5 0))))
theorem avU (s:cM) (h:vq s):Jr s=some (mE s):=by
 obtain⟨ad,ae,aJ,bh,b2⟩:=h;unfold Jr mE;rw[auE _ ad,avK s ad.1 ae.1 ae.2,avS _ aJ,ab1 _ bh.1,ab1 _ b2.1];simp only[bind_some];cases lZ s.cw<;>cases vp s<;>cases qQ s.b8<;>cases vo s.cB<;>cases vo s.cy<;>rfl
theorem avV (s:cM) (h:vq s):Kd s=some (mE s):=by
 obtain⟨ad,ae,aJ,bh,b2⟩:=h;unfold Kd ig mE vp;have ni:decide ((1:Int)<=(s.cg.length:Int))=decide (1<=s.cg.length):=decide_eq_decide.2 (by omega);have ld:decide ((s.cg.length:Int)<=3)=decide (s.cg.length<=3):=decide_eq_decide.2 (by omega);rw[auG _ ad,avM s ad.1 ae.1 ae.2,avT _ aJ,ab2 _ bh.1 bh.2,ab2 _ b2.1 b2.2];simp only[bind_some];rw[ni,ld];cases lZ s.cw<;>cases(decide (1<=s.cg.length)&&decide (s.cg.length<=3))<;>cases fW (λi=>AR s.cw (mD s.cg i)) s.cg.length<;>
  cases qQ s.b8<;>cases vo s.cB<;>cases vo s.cy<;>rfl
theorem avW {s:cM} (h:AK s<=1048576):vq s:=by
 unfold AK at h;refine⟨auD (by omega),⟨Nat.le_trans (k8 r4 _) (by omega),λc ar=>?_⟩,⟨Nat.le_trans (k8 r5 _) (by omega),λm hm=>?_⟩,⟨Nat.le_trans (k8 List.length _) (by omega),λx an=>?_⟩,⟨Nat.le_trans (k8 List.length _) (by omega),λx an=>?_⟩⟩
 .have ad:r4 c<=e7 r4 s.cg:=lW ar;have ae:r4 c<=1048576:=by omega
  clear ad;unfold r4 at ae;omega
 .have ad:r5 m<=e7 r5 s.b8:=lW hm;have ae:r5 m<=1048576:=by omega
  clear ad;unfold r5 at ae;omega
 .have ad:x.length<=e7 List.length s.cB:=lW an;omega
 .have ad:x.length<=e7 List.length s.cy:=lW an;omega
theorem avX (a:oK) (bl:Fo a):
  ∃r,Fx a 1048576=some r/\(decide (r<0)=false->zu a=some (yA a)/\GL (yA a) (yA a)=some true/\
   vq (yA a)/\r=1048576-(yz a:Nat)/\0<=r):=by
 refine⟨_,atS a 1048576 bl (by omega) (by omega),λh=>?_⟩;by_cases aa:yz a<=1048576
 .have ue:AK (yA a)<=1048576:=by rw[aue];exact aa
  exact⟨auf a aa,auy _ ue,avW ue,DA (by omega),by rw[DA (by omega)];omega⟩
 .rw[DB (by omega)]at h;simp at h
theorem avY (s:cM) (h:vq s):Js s=some (mE s==0):=by unfold Js;rw[avU s h];rfl
theorem avZ (s:cM) (h:vq s):Ke s=some (mE s==0):=by unfold Ke;rw[avV s h];rfl
theorem Tv {s:cM} (h:(mE s==0)=true):lZ s.cw=true:=by
 cases ao:lZ s.cw
 .unfold mE at h;rw[ao]at h;simp at h
 .rfl
noncomputable def yH (e:azx) (p:bp):Bool:=(sO e p).getD false
theorem Tw (e:azx) (h:pE e) (aF:lZ e=true) (p:bp) (ay:p.bV.length<=1048576):sO e p=some (yH e p)/\Gr e p=some (yH e p):=by
 obtain⟨b,ad,ae⟩:=avq e h aF p ay;have:yH e p=b:=by unfold yH;rw[ad];rfl
 rw[this];exact⟨ad,ae⟩
def tF (q:azA) (i:Nat):bp:=q.getD i ⟨0,0,[]⟩
noncomputable def xd (s:cM) (q:azA):Bool:=((q.length:Int)==(s.cg.length:Int))&&fW (λi=>yH s.cw (tF q i)) q.length
theorem ab4 {q:azA} (aF:∀p∈q,p.bV.length<=1048576) {i:Nat} (ai:i<q.length):(tF q i).bV.length<=1048576:=by
 have:tF q i=q[i]:=by simp[tF,List.getD,ai]
 rw[this];exact aF _ (List.getElem_mem ai)
theorem av0 (s:cM) (h:pE s.cw) (ao:lZ s.cw=true) (q:azA) (cz:q.length<=1048576) (aF:∀p∈q,p.bV.length<=1048576):Jt s q=some (xd s q):=by
 unfold Jt xd;have e:((q.length:Int) !=(s.cg.length:Int))= !((q.length:Int)==(s.cg.length:Int)):=rfl;rw[e];cases((q.length:Int)==(s.cg.length:Int))
 .rfl
 .rw[Bool.true_and,Bool.not_true,cond_false];refine Hu (l:=λm i=>B1 s q m i) _ (λm=>?_) (λi ai m=>?_)
  .simp only[B1,O5];rw[ev (Nat.le_refl _)];rfl
  .simp only[B1,O5];rw[d_ ai,ly _ i ⟨0,0,[]⟩ ai,dQ i _ ai (by omega)];show cond true (Option.bind (some (tF q i)) _) _=_;simp only[cond_true,bind_some,(Tw _ h ao _ (ab4 aF ai)).1];cases yH s.cw (tF q i)<;>rfl
theorem av1 (s:cM) (h:pE s.cw) (ao:lZ s.cw=true) (q:azA) (cz:q.length<=1048576) (aF:∀p∈q,p.bV.length<=1048576):
  Kf q s=some (!(fW (λi=>yH s.cw (tF q i)) q.length)):=by
 unfold Kf PY;rw[p8 (n:=q.length) (λi=> !(yH s.cw (tF q i)))]
 .simp only[bind_some,tr,Bool.not_not]
 .intro m;simp only[Gs,PX];rw[ev (Nat.le_refl _)];rfl
 .intro i ai m;simp only[Gs,PX];rw[d_ ai,ly _ i ⟨0,0,[]⟩ ai,dQ i _ ai (by omega)];show cond true (Option.bind (some (tF q i)) _) _=_;simp only[cond_true,bind_some,PW,(Tw _ h ao _ (ab4 aF ai)).2]
def se (a:azz) (x y:azc) (i:Nat):Bool:=((eE a i).Left==x)&&((eE a i).cY==y)
def sf (a:azz) (z:Int):azc:=cond (decide (z<0)) [] (eE a z.toNat).Result
theorem Tx (p:Nat->Bool):∀(k i:Nat),iZ p i k<((i+k:Nat):Int)
 |0,i=>by simp only[iZ];omega
 |k+1,i=>by
  simp only[iZ];split
  .omega
  .have:=Tx p k (i+1);omega
theorem ab5 (a:azz) (bl:a.length<=1048576) (x y:azc) (av2:(Op.bytesLess x y||x==y)=true) (ab6:azz->azc->azc->Option azc):
  zK ab6 a x y=some (sf a (iZ (se a x y) 0 a.length)):=by
 unfold zK;rw[av2];simp only[Bool.not_true,cond_false];rw[oV (l:=λm i=>Cn ab6 a x y m i) (n:=a.length) (λi=>some (sf a (iZ (se a x y) i (a.length-i))))]
 .rfl
 .intro m;simp only[Cn,Po];rw[ev (Nat.le_refl _),Nat.sub_self];rfl
 .intro i ai m ih;simp only[Cn,Po];rw[d_ ai,ly _ i ⟨[],[],[]⟩ ai,dQ i _ ai (by omega)];show cond true (Option.bind (some (eE a i)) _) _=_;simp only[cond_true,bind_some];rw[ih,show a.length-i=(a.length-(i+1))+1 by omega];show cond (se a x y i) _ _=_;cases ay:se a x y i
  .simp only[iZ,ay,cond_false];rfl
  .simp only[iZ,ay,cond_true,if_true,sf];have:decide ((i:Int)<0)=false:=decide_eq_false (by omega);rw[this];rfl
theorem av3 (a:azz) (bl:a.length<=1048576) (x y:azc):
  F4 a x y=some (sf a (iZ (se a (hO false x y) (hO true x y)) 0 a.length)):=by
 unfold F4;refine eY 2 λn aR=>?_;obtain⟨n,rfl⟩:∃k,n=k+2:=⟨n-2,by omega⟩
 show zK (Co (n+1)) a x y=_;cases h:(Op.bytesLess x y||x==y)
 .have ad:(Op.bytesLess y x||y==x)=true:=by
   rw[<-Tt x y];cases aC:Op.bytesLess x y
   .rfl
   .rw[aC]at h;cases h
  have ae:Op.bytesLess x y=false:=by cases aC:Op.bytesLess x y;·rfl
                                     .rw[aC]at h;cases h
  have aO:hO false x y=y:=by simp only[hO,h,Bool.false_eq_true,if_false]
  have aU:hO true x y=x:=by simp only[hO,ae,Bool.not_false,if_true]
  unfold zK;rw[h];simp only[Bool.not_false,cond_true];show(zK (Co n) a y x).bind _=_;rw[ab5 a bl y x ad,aO,aU];rfl
 .have aO:hO false x y=x:=by simp only[hO,h,Bool.false_eq_true,if_false,if_true]
  have aU:hO true x y=y:=by
   cases aC:Op.bytesLess x y
   .rw[aC,Bool.false_or]at h;have:x=y:=by simpa using h
    subst this;simp[hO]
   .simp[hO,aC]
  rw[ab5 a bl x y h,aO,aU]
theorem av4 (s:cM) (bl:s.b8.length<=1048576) (x y:azc) (z:Int) (cf:z=iZ (se s.b8 (hO false x y) (hO true x y)) 0 s.b8.length):
  z6 s x y=some (sf s.b8 z,!(decide (z<0))):=by
 unfold z6 Qr;rw[p8 (l:=λm i=>C4 s.b8 x y m i) (n:=s.b8.length) (se s.b8 (hO false x y) (hO true x y)),<-cf]
 .simp only[bind_some];have aC:=Tx (se s.b8 (hO false x y) (hO true x y)) s.b8.length 0;rw[<-cf]at aC;cases h:decide (z<0)
  .have a7:¬z<0:=of_decide_eq_false h;have e:bk s.b8 z=some (eE s.b8 z.toNat):=by
    obtain⟨i,rfl⟩:∃i:Nat,z=i:=⟨z.toNat,by omega⟩
    exact ly s.b8 i (⟨[],[],[]⟩:ch) (by omega)
   rw[e];simp only[sf,h];rfl
  .simp only[sf,h];rfl
 .intro m;simp only[C4,Qq];rw[ev (Nat.le_refl _)];rfl
 .intro i ai m;simp only[C4,Qq];rw[d_ ai,ly _ i ⟨[],[],[]⟩ ai,dQ i _ ai (by omega)];rfl
theorem av5 (s:cM) (aF:(mE s==0)=true) (i:Nat) (ai:i<s.b8.length):((eE s.b8 i).Result==([]:azc))=false:=by
 have hm:qQ s.b8=true:=by
  cases h:qQ s.b8
  .unfold mE at aF;rw[h]at aF;revert aF;cases lZ s.cw<;>cases vp s<;>simp
  .rfl
 unfold qQ at hm;rw[Bool.and_eq_true]at hm;have ad:=nO.1 hm.2 i ai;unfold AW at ad;simp only[Bool.and_eq_true]at ad;have ae:=ad.1.1.1.2;cases aT:(eE s.b8 i).Result
 .rw[aT]at ae;cases ae
 .rfl
theorem av6 (x y:bp) (h:x.bV.length<=1048576):Cd x y=some (mg x y):=by
 have e:mg x y=((x.cE==y.cE)&&((x.Part==y.Part)&&(x.bV==y.bV))):=by
  rw[Bool.eq_iff_iff,p_];cases x;cases y;simp
 unfold Cd;rw[Tb _ _ h,e];cases x.cE==y.cE<;>cases x.Part==y.Part<;>rfl
theorem av7 (a b:azA) (h:a.length<=1048576) (aF:∀p∈a,p.bV.length<=1048576):JH a b=some (mg a b):=by
 unfold JH;by_cases aC:a.length=b.length
 .have e:((a.length:Int) !=(b.length:Int))=false:=by simp[aC]
  rw[e,cond_false];have:=oV (n:=a.length) (l:=Cl a b) (λi=>some (mg (a.drop i) (b.drop i))) (λm=>?_) (λi ai m ih=>?_)
  .simpa using this
  .simp only[Cl,Pm];rw[ev (Nat.le_refl _),List.drop_of_length_le (Nat.le_refl _),List.drop_of_length_le (by omega),cond_false];rw[show mg ([]:azA) []=true from p_.2 rfl]
  .simp only[Cl,Pm];rw[d_ ai,dJ _ i ai,dJ _ i (by omega),dQ i _ ai (by omega),drop_cons a i ai,drop_cons b i (by omega)];simp only[cond_true,bind_some,ih,av6 _ _ (aF _ (List.getElem_mem ai))];have aU:mg (a[i]::a.drop (i+1)) (b[i]::b.drop (i+1))=(mg a[i] b[i]&&mg (a.drop (i+1)) (b.drop (i+1))):=by
    rw[Bool.eq_iff_iff,Bool.and_eq_true,p_,p_,p_,List.cons.injEq]
   rw[aU];cases mg a[i] b[i]<;>rfl
 .have e:((a.length:Int) !=(b.length:Int))=true:=by simp;omega
  have aU:mg a b=false:=by
   rw[<-Bool.not_eq_true,p_];intro h;exact aC (by rw[h])
  rw[e,cond_true,aU]
theorem LY {p:bp} (h:kA p):p.bV.length<=1048576:=by have:=h.kz.1;omega
theorem ab7 {n:Nat} (o:azC) (m:bf) (h:o.length<=1048576) (aR:n<=100) (hg:∀x∈o,i6 n x):zJ o m=some (hN o m):=by
 unfold zJ;rw[oV (n:=o.length) (l:=Cm o m) (λi=>some (cond (mg (m∈o.drop i) True) o (o++[m]))) (λk=>?_) (λi ai k ih=>?_)]
 .rw[List.drop_zero];unfold hN;split
  .rename_i hm;rw[show mg (m∈o) True=true from p_.2 (by simp[hm])];rfl
  .rename_i hm;rw[show mg (m∈o) True=false from by rw[<-Bool.not_eq_true,p_];simp[hm]];rfl
 .simp only[Cm,Pn];rw[ev (Nat.le_refl _),ky (by omega) (by omega),List.drop_of_length_le (Nat.le_refl _),show mg (m∈([]:azC)) True=false from by rw[<-Bool.not_eq_true,p_];simp];rfl
 .have g:=hg _ (List.getElem_mem ai);simp only[Cm,Pn];rw[d_ ai,dJ _ i ai,dQ i _ ai (by omega),drop_cons o i ai];simp only[cond_true,bind_some,ih,av7 o[i].State m.State (by have:=g.st.1;omega) (λp ay=>LY (g.st.2 p ay))];have e:mg (m∈o[i]::o.drop (i+1)) True=(mg o[i] m||mg (m∈o.drop (i+1)) True):=by
   rw[Bool.eq_iff_iff,Bool.or_eq_true,p_,p_,p_];simp only[List.mem_cons,eq_iff_iff,iff_true];rw[eq_comm (a:=m)]
  have aU:mg o[i] m=((o[i].Label==m.Label)&&((o[i].fa==m.fa)&&((o[i].Second==m.Second)&&mg o[i].State m.State))):=by
   rw[Bool.eq_iff_iff,p_];cases o[i];cases m;simp[p_]
  rw[e,aU];cases o[i].Label==m.Label
  .rfl
  .cases o[i].fa==m.fa
   .rfl
   .cases o[i].Second==m.Second
    .rfl
    .cases mg o[i].State m.State<;>rfl
theorem DX {q:azA} (cz:q.length<=100) (h:∀p∈q,kA p):wa q=some q/\Ky q=some q:=by
 constructor
 .unfold wa;have key:∀i,i<=q.length->∀(v:azA) m,v.length=i->q.length-i<m->Cj q m v (i:Int)=some (v++q.drop i):=by
   refine down q.length ?_ ?_
   .intro v m aF hm;obtain⟨m,rfl⟩:∃j,m=j+1:=⟨m-1,by omega⟩
    simp only[Cj,Pl];rw[ev (Nat.le_refl _),List.drop_of_length_le (Nat.le_refl _),List.append_nil];rfl
   .intro i ai ih v m aF hm;obtain⟨m,rfl⟩:∃j,m=j+1:=⟨m-1,by omega⟩
    simp only[Cj,Pl];rw[d_ ai,dJ _ i ai,dQ i _ ai (by omega)];simp only[cond_true,bind_some,S8 _ (LY (h _ (List.getElem_mem ai)))];rw[ky (by omega) (by omega),bind_some,ih (v++[_]) m (by simp[aF]) (by omega),drop_cons q i ai,List.append_assoc];rfl
  refine eY (q.length+1) λm hm=>?_;have:=key 0 (by omega) [] m rfl (by omega);simpa using this
 .unfold Ky;have key:∀i,i<=q.length->∀(v:azA) m,v.length=i->q.length-i<m->C0 q m v (i:Int)=some (v++q.drop i):=by
   refine down q.length ?_ ?_
   .intro v m aF hm;obtain⟨m,rfl⟩:∃j,m=j+1:=⟨m-1,by omega⟩
    simp only[C0,Qo];rw[ev (Nat.le_refl _),List.drop_of_length_le (Nat.le_refl _),List.append_nil];rfl
   .intro i ai ih v m aF hm;obtain⟨m,rfl⟩:∃j,m=j+1:=⟨m-1,by omega⟩
    simp only[C0,Qo,z1];rw[d_ ai,dJ _ i ai,dQ i _ ai (by omega)];simp only[cond_true,bind_some,LN _ (LY (h _ (List.getElem_mem ai)))];rw[ky (by omega) (by omega),bind_some,ih (v++[_]) m (by simp[aF]) (by omega),drop_cons q i ai,List.append_assoc];rfl
  refine eY (q.length+1) λm hm=>?_;have:=key 0 (by omega) [] m rfl (by omega);simpa using this
theorem Ty {p:bp} (h:kA p):z1 p=some p:=by
 unfold z1;rw[LN _ (LY h)];rfl
theorem HI (a:azb) (x:azc) (h:a.length<=1048576):(∃z,Ci a x=some z/\decide (z<0)= !decide (x∈a)/\decide (0<=z)=decide (x∈a))/\CZ a x=some (decide (x∈a)):=by
 have key:(iZ (λi=>a.getD i []==x) 0 a.length<0↔x∉a):=by
  have:=tr (λi=>a.getD i []==x) a.length;constructor
  .intro a7 an;rw[show decide (0<=iZ (λi=>a.getD i []==x) 0 a.length)=false from decide_eq_false (by omega)]at this;have ae:=(Bool.not_eq_false' .. ▸this.symm:fW (λi=> !(a.getD i []==x)) a.length=true)
   obtain⟨k,ax,rfl⟩:=List.mem_iff_getElem.1 an;have:=nO.1 ae k ax;simp[List.getD,ax]at this
  .intro an;have ae:fW (λi=> !(a.getD i []==x)) a.length=true:=nO.2 λi ai=>by
    simp only[List.getD,List.getElem?_eq_getElem ai,getD_some,Bool.not_eq_true',beq_eq_false_iff_ne];intro e;exact an (e▸List.getElem_mem ai)
   rw[ae,Bool.not_true]at this;have:=of_decide_eq_false this;omega
 constructor
 .refine⟨iZ (λi=>a.getD i []==x) 0 a.length,?_,?_,?_⟩
  .unfold Ci;exact p8 (l:=Ch a x) (n:=a.length) (λi=>a.getD i []==x) (λm=>by
    simp only[Ch,Pk];rw[ev (Nat.le_refl _)];rfl) (λi ai m=>by
    simp only[Ch,Pk];rw[d_ ai,ly _ i [] ai,dQ i _ ai (by omega)];rfl)
  .rw[<-decide_not,decide_eq_decide];exact key
  .rw[decide_eq_decide];constructor
   .intro a7;by_cases an:x∈a
    .exact an
    .have:=key.2 an;omega
   .intro an;by_cases a7:iZ (λi=>a.getD i []==x) 0 a.length<0
    .exact absurd an (key.1 a7)
    .omega
 .unfold CZ Qn;have e:bX (λn=>zZ a x n 0)=some (iZ (λi=>a.getD i []==x) 0 a.length):=
   p8 (l:=zZ a x) (n:=a.length) (λi=>a.getD i []==x) (λm=>by
    simp only[zZ,Qm];rw[ev (Nat.le_refl _)];rfl) (λi ai m=>by
    simp only[zZ,Qm];rw[d_ ai,ly _ i [] ai,dQ i _ ai (by omega),Bool.beq_comm];rfl)
  rw[e,bind_some,some.injEq,decide_eq_decide];constructor
  .intro a7;by_cases an:x∈a
   .exact an
   .have:=key.2 an;omega
  .intro an;by_cases a7:iZ (λi=>a.getD i []==x) 0 a.length<0
   .exact absurd an (key.1 a7)
   .omega
end Go.l_
