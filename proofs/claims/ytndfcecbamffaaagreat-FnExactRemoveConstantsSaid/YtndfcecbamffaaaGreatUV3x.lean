/- Part of a proof that a law returns true for every input. No condition. -/
import Derived.Test.YtndfcecbamffaaaGreatUV2x
import Derived.Test.YtndfcecbamffaaaGreatUV1x
import Derived.Test.YtndfcecbamffaaaGreatUV0x
namespace Go.nc
open Option Go.IntKind Nat Or
open Go Go.c3
def lb (K:afb) (v:Int):Bool:=decide (v∈K)
theorem adk (e:afb) (h:e.length<=1048576):p7 e=some e:=by
 unfold p7;rw[iy (by omega) (by omega)];cases e with
 |nil=>simp[both]
 |cons x r=>rfl
def fo (P:Nat):afb:=(List.range P).map λ(i:Nat)=>(i:Int)
theorem O2 (P:Nat) (bm:P<=1000000):ye (P:Int)=some (fo P):=by
 unfold ye;have key:∀i,i<=P->∀m,P-i<m->vy (P:Int) m (fo i) (i:Int)=some (fo P):=by
  refine down P ?_ ?_
  .intro m hm;obtain⟨m,rfl⟩:∃j,m=j+1:=⟨m-1,by omega⟩
   simp only[vy,FJ];rw[ey (Nat.le_refl _)];rfl
  .intro i aC ih m hm;obtain⟨m,rfl⟩:∃j,m=j+1:=⟨m-1,by omega⟩
   simp only[vy,FJ];rw[fj aC,eE i _ aC (by omega),iy (by simp only[fo,List.length_map,List.length_range];omega) (by simp only[fo,List.length_map,List.length_range];omega)];simp only[cond_true,bind_some];have e:fo i++[(i:Int)]=fo (i+1):=by simp[fo,List.range_succ]
   rw[e];exact ih m (by omega)
 refine gQ (P+1) λm hm=>?_;exact key 0 (zero_le _) m (by omega)
theorem HW {p:Int->Bool}:∀(a:afb) (i:Nat),iM p i a= -1->∀x∈a,p x=false
 |[],_,_,x,al=>by cases al
 |y::r,i,h,x,al=>by
  simp only[iM]at h;by_cases a5:p y=true
  .rw[if_pos a5]at h;omega
  .rw[if_neg a5]at h;rcases List.mem_cons.1 al with rfl|al
   .simpa using a5
   .exact HW r _ h x al
theorem HX {p:Int->Bool}:∀(a:afb) (i:Nat),iM p i a≠-1->∃k,iM p i a=((i+k:Nat):Int)/\k<a.length/\(∀x∈a.take k,p x=false)/\∃y,a[k]? =some y/\p y=true
 |[],_,h=>by simp[iM]at h
 |y::r,i,h=>by
  simp only[iM]at h⊢;by_cases a5:p y=true
  .rw[if_pos a5];exact⟨0,by simp,by simp,by simp,y,rfl,a5⟩
  .rw[if_neg a5]at h⊢;obtain⟨k,ae,af,aF,a1⟩:=HX r (i+1) h;refine⟨k+1,by rw[ae];omega,by simpa using af,?_,by simpa using a1⟩;intro x al;rw[List.take_succ_cons]at al;rcases List.mem_cons.1 al with rfl|al
   .simpa using a5
   .exact aF x al
section
variable {l:bg} {P:Nat}
theorem adl (a:afb) (K:afb) (g:Int->Bool) (b8:a.length<=1000000) (a8:∀x∈a,tE x l K=some (!g x)):
  Bv a l K=some (a.filter g):=by
 unfold Bv FX;rw[wk (f:=λx=>tE x l K) a (λx=> !g x) (λm i=>by simp only[Bt,Mj]) a8 (by omega)];simp only[bind_some];by_cases aC:iM (λx=> !g x) 0 a= -1
 .rw[aC];have:=HW a 0 aC;simp only[beq_self_eq_true,cond_true];rw[List.filter_eq_self.2 λx al=>by simpa using this x al]
 .obtain⟨k,ae,af,aF,y,a1,bt⟩:=HX a 0 aC;have U:(iM (λx=> !g x) 0 a== -1)=false:=by simpa using aC
  rw[U,cond_false,ae];simp only[Nat.zero_add];have key:∀j,j<=a.length->∀(v:afb) (c:Nat) m,a.length-j<m->v.length=a.length->c<=j->v.take c=(a.take j).filter g->v.drop j=a.drop j->
    tF l K m v (c:Int) (j:Int)=some (a.filter g):=by
   refine down a.length ?_ ?_
   .intro v c m hm aH an aP ai;obtain⟨m,rfl⟩:∃j,m=j+1:=⟨m-1,by omega⟩
    simp only[tF,FY];rw[aH,ey (Nat.le_refl _),cond_false,B4 v c (by omega)];simp only[bind_some];rw[B4 _ c (by simp only[List.length_append,List.length_take,List.length_replicate];omega)];have e:(v.take c++List.replicate (a.length-(v.take c).length) 0).take c=v.take c:=List.take_left' (by rw[List.length_take];omega);rw[e,aP,List.take_length];rfl
   .intro j bZ ih v c m hm aH an aP ai;obtain⟨m,rfl⟩:∃j,m=j+1:=⟨m-1,by omega⟩
    have ue:j<v.length:=by omega
    have al:v[j]=a[j]:=by
     have ae:=drop_cons v j ue;have af:=drop_cons a j bZ;rw[ai,af]at ae;exact(List.cons.inj ae).1.symm
    have m2:v.drop (j+1)=a.drop (j+1):=by
     have ae:=drop_cons v j ue;have af:=drop_cons a j bZ;rw[ai,af]at ae;exact(List.cons.inj ae).2.symm
    have qH:a.take (j+1)=a.take j++[a[j]]:=by rw[List.take_add_one,List.getElem?_eq_getElem bZ];rfl
    simp only[tF,FY,Bu];rw[aH,fj bZ,cond_true,fA v j ue,al,bind_some,a8 _ (List.getElem_mem bZ),bind_some,Bool.not_not,eE j a.length bZ (by omega)];cases bl:g a[j]
    .rw[cond_false];refine ih v c m (by omega) aH (by omega) ?_ m2;rw[qH,List.filter_append,aP];simp[bl]
    .rw[cond_true,fA v c (by omega),bind_some,eE c a.length (by omega) (by omega),Int.toNat_natCast];refine ih _ (c+1) m (by omega) (by simpa using aH) (by omega) ?_ ?_
     .rw[qH,List.filter_append,<-aP];simp only[List.filter_cons,bl,if_true,List.filter_nil];rw[List.take_add_one,List.getElem?_set_self (by omega),List.take_set_of_le (Nat.le_refl _)];rfl
     .rw[List.drop_set_of_lt (by omega)];exact m2
  have o6:i64.wrap ((k:Int)+1)=((k+1:Nat):Int):=eE k a.length af (by omega);rw[o6];refine gQ (a.length+1) λm hm=>?_;refine key (k+1) (by omega) a k m (by omega) rfl (by omega) ?_ rfl;obtain⟨b_,cq⟩:=List.getElem?_eq_some_iff.1 a1;have wt:g a[k]=false:=by rw[cq];simpa using bt
  rw[List.take_add_one,List.getElem?_eq_getElem af,List.filter_append];have aT:(a.take k).filter g=a.take k:=List.filter_eq_self.2 λx al=>by simpa using aF x al
  rw[aT];simp[wt]
noncomputable def qn (l:bg):Nat->afb->afb
 |0,K=>K
 |n+1,K=>if(K.filter λv=>jQ l (lb K) v.toNat).length=K.length then K else qn l n (K.filter λv=>jQ l (lb K) v.toNat)
theorem O3 (h:i3 l P):∀(n:Nat) (K:afb),K.length<=n->(∀v∈K,0<=v/\v<P)->(∀v,gF l P v=true->v∈K)->
  (∃f:Int->Bool,qn l n K=K.filter f)/\zg l P (lb (qn l n K))/\∀v,gF l P v=true->v∈qn l n K
 |0,K,a4,iH,bl=>by
  have:K=[]:=List.length_eq_zero_iff.1 (by omega);subst this;exact⟨⟨λ_=>true,rfl⟩,λv aH=>by simp[qn,lb]at aH,bl⟩
 |n+1,K,a4,iH,bl=>by
  simp only[qn];split
  .rename_i he;refine⟨⟨λ_=>true,(List.filter_eq_self.2 λ_ _=>rfl).symm⟩,λv aH=>?_,bl⟩;have hm:v∈K:=by simpa [lb]using aH
   have j7:=(List.length_filter_eq_length_iff).1 he v hm;exact⟨(iH v hm).1,(iH v hm).2,j7⟩
  .rename_i he;have hle:=List.length_filter_le (λv=>jQ l (lb K) v.toNat) K;obtain⟨⟨f,a8⟩,af,aF⟩:=O3 h n (K.filter λv=>jQ l (lb K) v.toNat) (by omega) (λv aH=>iH v (List.mem_filter.1 aH).1) λv aH=>by
    obtain⟨aV,ba,bT⟩:=wv h v aH;exact List.mem_filter.2 ⟨bl v aH,HS h (λu hu=>by simpa [lb]using bl u hu) (by omega) bT⟩
   exact⟨⟨λv=>jQ l (lb K) v.toNat&&f v,by rw[a8,List.filter_filter];congr 1;funext v;rw[Bool.and_comm]⟩,af,aF⟩
theorem O4 (h:i3 l P):∀(n:Nat) (K:afb),K.length<=n->n<=1000->(∀v∈K,0<=v/\v<P)->∀m,n<m->vD l m K=some (qn l n K)
 |n,K,a4,ae9,iH,m,hm=>by
  obtain⟨m,rfl⟩:∃j,m=j+1:=⟨m-1,by omega⟩
  simp only[vD,Mk];rw[adk K (by omega),bind_some,adl K K (λv=>jQ l (lb K) v.toNat) (by omega) (λx al=>by
   obtain⟨ae,af⟩:=iH x al;have:=adf h K (by omega) iH (lb K) (λ_=>rfl) x.toNat (by omega)
   rwa [show((x.toNat:Nat):Int)=x by omega]at this),bind_some]
  have hle:=List.length_filter_le (λv=>jQ l (lb K) v.toNat) K;by_cases he:(K.filter λv=>jQ l (lb K) v.toNat).length=K.length
  .have d:(((K.filter λv=>jQ l (lb K) v.toNat).length:Int)==(K.length:Int))=true:=by simp[he]
   rw[d,cond_true];cases n with
   |zero=>rfl
   |succ n=>simp only[qn];rw[if_pos he]
  .have d:(((K.filter λv=>jQ l (lb K) v.toNat).length:Int)==(K.length:Int))=false:=by
    rw[beq_eq_false_iff_ne];omega
   rw[d,cond_false];cases n with
   |zero=>omega
   |succ n=>
    simp only[qn];rw[if_neg he];exact O4 h n _ (by omega) (by omega) (λv aH=>iH v (List.mem_filter.1 aH).1) m (by omega)
theorem adm (h:i3 l P):Bw l=some ((fo P).filter (gF l P)):=by
 have hle:=h.le;unfold Bw;rw[h.par,O2 P (by omega),bind_some];have hlen:(fo P).length=P:=by simp[fo]
 have iH:∀v∈fo P,0<=v/\v<P:=by
  intro v aH;simp only[fo,List.mem_map,List.mem_range]at aH;obtain⟨i,aC,rfl⟩:=aH;omega
 have pW:∀v,gF l P v=true->v∈fo P:=by
  intro v aH;obtain⟨ae,af,_⟩:=wv h v aH;simp only[fo,List.mem_map,List.mem_range];exact⟨v.toNat,by omega,by omega⟩
 obtain⟨⟨f,a8⟩,af,aF⟩:=O3 h P (fo P) (by omega) iH pW;have eH:cA (λm=>vD l m (fo P))=some (qn l P (fo P)):=gQ (P+1) λm hm=>O4 h P _ (by omega) (by omega) iH m (by omega);rw[eH,a8];congr 1;apply List.filter_congr;intro v aH;have:=OR h af (λv aH=>by simpa [lb]using aF v aH) v;rw[<-this];simp only[lb,a8,List.mem_filter,aH,true_and];cases f v<;>simp
end
theorem adn (a:afb) (K:afb) (g:Int->Bool) (b8:a.length<=1000000) (a8:∀x∈a,vE x K=some (!g x)):
  BA a K=some (a.filter g):=by
 unfold BA FZ;rw[wk (f:=λx=>vE x K) a (λx=> !g x) (λm i=>by simp only[Bx,Ml]) a8 (by omega)];simp only[bind_some];by_cases aC:iM (λx=> !g x) 0 a= -1
 .rw[aC];have:=HW a 0 aC;simp only[beq_self_eq_true,cond_true];rw[List.filter_eq_self.2 λx al=>by simpa using this x al]
 .obtain⟨k,ae,af,aF,y,a1,bt⟩:=HX a 0 aC;have U:(iM (λx=> !g x) 0 a== -1)=false:=by simpa using aC
  rw[U,cond_false,ae];simp only[Nat.zero_add];have key:∀j,j<=a.length->∀(v:afb) (c:Nat) m,a.length-j<m->v.length=a.length->c<=j->v.take c=(a.take j).filter g->v.drop j=a.drop j->
    tG K m v (c:Int) (j:Int)=some (a.filter g):=by
   refine down a.length ?_ ?_
   .intro v c m hm aH an aP ai;obtain⟨m,rfl⟩:∃j,m=j+1:=⟨m-1,by omega⟩
    simp only[tG,F1];rw[aH,ey (Nat.le_refl _),cond_false,B4 v c (by omega)];simp only[bind_some];rw[B4 _ c (by simp only[List.length_append,List.length_take,List.length_replicate];omega)];have e:(v.take c++List.replicate (a.length-(v.take c).length) 0).take c=v.take c:=List.take_left' (by rw[List.length_take];omega);rw[e,aP,List.take_length];rfl
   .intro j bZ ih v c m hm aH an aP ai;obtain⟨m,rfl⟩:∃j,m=j+1:=⟨m-1,by omega⟩
    have ue:j<v.length:=by omega
    have al:v[j]=a[j]:=by
     have ae:=drop_cons v j ue;have af:=drop_cons a j bZ;rw[ai,af]at ae;exact(List.cons.inj ae).1.symm
    have m2:v.drop (j+1)=a.drop (j+1):=by
     have ae:=drop_cons v j ue;have af:=drop_cons a j bZ;rw[ai,af]at ae;exact(List.cons.inj ae).2.symm
    have qH:a.take (j+1)=a.take j++[a[j]]:=by rw[List.take_add_one,List.getElem?_eq_getElem bZ];rfl
    simp only[tG,F1,Bz];rw[aH,fj bZ,cond_true,fA v j ue,al,bind_some,a8 _ (List.getElem_mem bZ),bind_some,Bool.not_not,eE j a.length bZ (by omega)];cases bl:g a[j]
    .rw[cond_false];refine ih v c m (by omega) aH (by omega) ?_ m2;rw[qH,List.filter_append,aP];simp[bl]
    .rw[cond_true,fA v c (by omega),bind_some,eE c a.length (by omega) (by omega),Int.toNat_natCast];refine ih _ (c+1) m (by omega) (by simpa using aH) (by omega) ?_ ?_
     .rw[qH,List.filter_append,<-aP];simp only[List.filter_cons,bl,if_true,List.filter_nil];rw[List.take_add_one,List.getElem?_set_self (by omega),List.take_set_of_le (Nat.le_refl _)];rfl
     .rw[List.drop_set_of_lt (by omega)];exact m2
  have o6:i64.wrap ((k:Int)+1)=((k+1:Nat):Int):=eE k a.length af (by omega);rw[o6];refine gQ (a.length+1) λm hm=>?_;refine key (k+1) (by omega) a k m (by omega) rfl (by omega) ?_ rfl;obtain⟨b_,cq⟩:=List.getElem?_eq_some_iff.1 a1;have wt:g a[k]=false:=by rw[cq];simpa using bt
  rw[List.take_add_one,List.getElem?_eq_getElem af,List.filter_append];have aT:(a.take k).filter g=a.take k:=List.filter_eq_self.2 λx al=>by simpa using aF x al
  rw[aT];simp[wt]
theorem O5:∀(M:List Bool) (k:Nat),eL k M=((List.range M.length).filter λi=> !M.getD i false).map λi=>((k+i:Nat):Int)
 |[],k=>rfl
 |b::M,k=>by
  have e:((List.map succ (List.range M.length)).filter λi=> !(b::M).getD i false)=((List.range M.length).filter λi=> !M.getD i false).map succ:=by rw[List.filter_map];rfl
  have a3:(((List.range M.length).filter λi=> !M.getD i false).map succ).map (λi=>((k+i:Nat):Int))=eL (k+1) M:=by
   rw[O5 M (k+1),List.map_map];refine List.map_congr_left λi _=>?_;simp only[Function.comp];congr 1;omega
  rw[List.length_cons,List.range_succ_eq_map,List.filter_cons,e];cases b
  .rw[if_pos (by rfl),List.map_cons,a3,eL,if_neg (by simp)];rfl
  .rw[if_neg (by simp),a3,eL,if_pos rfl]
section
variable {l:bg} {P:Nat}
theorem HY (h:i3 l P) (v:Int):v∈(fo P).filter (gF l P)↔gF l P v=true:=by
 rw[List.mem_filter];refine⟨λh=>h.2,λaH=>⟨?_,aH⟩⟩;obtain⟨ae,af,_⟩:=wv h v aH;simp only[fo,List.mem_map,List.mem_range];exact⟨v.toNat,by omega,by omega⟩
theorem HZ (h:i3 l P) (v:Int) (bo:0<=v):gF l P v=(h0 l P).getD v.toNat false:=by rw[<-adh h v,OS _ v bo]
theorem O6 (h:i3 l P):((fo P).filter (gF l P)).length<=21:=by
 have:=List.length_filter_le (gF l P) (fo P);have ae:(fo P).length=P:=by simp[fo]
 have:=h.le;omega
theorem ado (h:i3 l P):BB l ((fo P).filter (gF l P))=some (eL 0 (h0 l P)):=by
 have hle:=h.le;have ET:=O6 h;unfold BB;rw[h.par,O2 P (by omega),bind_some];rw[adn (fo P) ((fo P).filter (gF l P)) (λv=> !decide (v∈(fo P).filter (gF l P))) (by simp[fo];omega) (λx _=>by
  unfold vE;rw[OJ _ x (by omega),bind_some,Bool.not_not]),bind_some,O5,wx]
 congr 1;rw[fo,List.filter_map];have:((λv=> !decide (v∈List.filter (gF l P) (List.map (λ(i:Nat)=>(i:Int)) (List.range P))))∘λ(i:Nat)=>(i:Int))=λi=> !(h0 l P).getD i false:=by
  funext i;simp only[Function.comp];have ae:=HY h (i:Int);rw[fo]at ae;have af:=HZ h (i:Int) (by omega);rw[Int.toNat_natCast]at af;rw[<-af];cases bl:gF l P (i:Int)
  .rw[decide_eq_false (λhm=>by rw[ae,bl]at hm;cases hm)]
  .rw[decide_eq_true (ae.2 bl)]
 rw[this];refine List.map_congr_left λi _=>?_;rw[Nat.zero_add]
def qo (S:Int->Bool) (st:afb) (x:bc):bc:=⟨x.br,hI S st x.Guard,x.Name,x.bD.map (hI S st),x.Next.map (hI S st)⟩
theorem adp (l:bg) (C:afb) (a9:C.length<=1048576) (iH:∀v∈C,0<=v/\v<(l.Start.length:Nat)) {S:Int->Bool} (bs:∀v,S v=decide (v∈C)) (hl:rm l):
  BC l l C=some ⟨l.bz,l.Start,l.bu.map (qo S l.Start)⟩:=by
 obtain⟨ae,af,aF⟩:=hl;have fx:∀(e:afm) (x:bc),e.length<=1048576->yi x e l C=some (hI S l.Start e):=λe x he=>by
  unfold yi;rw[OK l e C he a9 iH bs];rfl
 have O7:∀(es:afj) (x:bc),es.length<=1048576->(∀e∈es,e.length<=1048576)->yj es l C x=some (es.map (hI S l.Start)):=λes x he h=>by
  unfold yj;have:=po (L:=vF es x l C) es (hI S l.Start) 0 some (λm w hw=>?_) (λi aC m w hw=>?_) [] (by simp)
  .rw[this];rfl
  .simp only[vF,F2];rw[ey (Nat.le_refl _)];rfl
  .simp only[vF,F2];rw[fj aC,fA _ i aC,eE i _ aC (by omega),iy (by omega) (by omega)];simp only[cond_true,bind_some];rw[fx _ x (h _ (List.getElem_mem aC))];rfl
 unfold BC;rw[Cn _ ae,bind_some];refine(po (L:=λn v i=>vG l l C l.Start n v i) l.bu (qo S l.Start) 0 (λv=>some ⟨l.bz,l.Start,v⟩) (λm w hw=>?_) (λi aC m w hw=>?_) [] (by simp)).trans (by simp)
 .simp only[vG,F3];rw[ey (Nat.le_refl _)];rfl
 .obtain⟨ah,aA,aL,aQ,aZ⟩:=aF _ (List.getElem_mem aC);simp only[vG,F3];rw[fj aC,fA _ i aC,eE i _ aC (by omega)];simp only[cond_true,bind_some];rw[Cn _ ah,bind_some,fx _ _ aA,bind_some,O7 _ _ aQ.1 aQ.2,bind_some,O7 _ _ aZ.1 aZ.2,bind_some,iy (by omega) (by omega)];rfl
theorem H0 (h:i3 l P) {e:afm} (he:wq e):pq l.bz (eL 0 (h0 l P)) (hI (gF l P) l.Start e)=lE (h0 l P) (hI (gF l P) l.Start e):=by
 have hlen:(h0 l P).length=P:=wx;refine acB _ l.bz (by rw[hlen];exact h.par) (by have:=h.le;omega) _ λt aP aj=>?_;obtain⟨u,hu,rfl⟩:=List.mem_map.1 aP;unfold y8 at aj⊢;cases an:(u.Kind==1)&&gF l P u.Value
 .rw[an,cond_false]at aj;rw[cond_false];obtain⟨a,b⟩:=he.2 u hu aj;refine⟨a,by omega,λc5=>?_⟩;have ae:(u.Kind==1)=true:=by rw[aj];rfl
  rw[ae,Bool.true_and,HZ h _ a]at an;have au:=h.par;have aC:u.Value.toNat<(h0 l P).length:=by omega
  rw[List.getD_eq_getElem?_getD,List.getElem?_eq_getElem aC]at an;rw[List.getElem?_eq_getElem aC];exact congrArg some an
 .rw[an,cond_true]at aj;exact absurd (show(0:Int)=1 from aj) (by decide)
end
noncomputable def qp (l:bg):bg×afb×Int:=
 cond (nJ l) (⟨(eL 0 (h0 l l.bz.toNat)).length,(eL 0 (h0 l l.bz.toNat)).map λi=>l.Start.getD i.toNat 0,l.bu.map (wm (gF l l.bz.toNat) (h0 l l.bz.toNat) l.Start)⟩,eL 0 (h0 l l.bz.toNat),0) (⟨0,[],[]⟩,[],1)
theorem O8 {l:bg} (aH:nJ l=true):i3 l l.bz.toNat:=by
 obtain⟨P,h⟩:=adb aH;have:l.bz.toNat=P:=by have:=h.par;omega
 rw[this];exact h
theorem adq (l:bg) (bO:rm l):A3 l=some (qp l):=by
 unfold A3 qp;rw[ab6 l bO,bind_some];cases aH:nJ l
 .rfl
 .have h:=O8 aH;have al:=HH aH;have hlen:(h0 l l.bz.toNat).length=l.bz.toNat:=wx;have hle:=h.le;simp only[Bool.not_true,cond_false,cond_true];rw[adj h,bind_some,acp (S:=gF l l.bz.toNat) l _ (by omega) (by rw[hlen];exact h.st) (by have:=h.len;omega) (λx hm=>⟨acE (al.s x hm) al.p.2,by rw[hlen];exact h.zf x hm⟩) (HZ h),bind_some,Ow _ (by omega)];rfl
theorem adr (l:bg) (bO:rm l):yn l=some (qp l):=by
 unfold yn qp;rw[acd l bO,bind_some];cases aH:nJ l
 .rfl
 .have h:=O8 aH;have al:=HH aH;have hlen:(h0 l l.bz.toNat).length=l.bz.toNat:=wx;have hle:=h.le;have ET:=O6 h;have hu:=za (h0 l l.bz.toNat) 0;have rF:=Cm (h0 l l.bz.toNat) 0;simp only[Bool.not_true,cond_false,cond_true];rw[adm h,bind_some,ado h,bind_some,adp (S:=gF l l.bz.toNat) l _ (by omega) (λv hm=>by
   obtain⟨ae,af,_⟩:=wv h v ((HY h v).1 hm);rw[h.st];exact⟨ae,af⟩) (λv=>by
   have:=HY h v;cases bl:gF l l.bz.toNat v
   .rw[decide_eq_false (λhm=>by rw[this,bl]at hm;cases hm)]
   .rw[decide_eq_true (this.2 bl)]) bO,bind_some]
  have a4:∀x∈l.bu.map (qo (gF l l.bz.toNat) l.Start),x.Next.length=l.bz.toNat:=λx hm=>by
   obtain⟨y,a5,rfl⟩:=List.mem_map.1 hm;simp only[qo,List.length_map];exact h.zf y a5
  have eB:rm ⟨l.bz,l.Start,l.bu.map (qo (gF l l.bz.toNat) l.Start)⟩:=by
   obtain⟨j_,iF,lp⟩:=bO;refine⟨j_,by simp only[List.length_map];exact iF,λx hm=>?_⟩;obtain⟨y,a5,rfl⟩:=List.mem_map.1 hm;obtain⟨e_,iD,wg,rk,Cc⟩:=lp y a5;refine⟨e_,by simp only[qo,hI,List.length_map];exact iD,wg,⟨by simp only[qo,List.length_map];exact rk.1,λe he=>?_⟩,by simp only[qo,List.length_map];exact Cc.1,λe he=>?_⟩
   .obtain⟨u,qI,rfl⟩:=List.mem_map.1 he;rw[hI,List.length_map];exact rk.2 u qI
   .obtain⟨u,qI,rfl⟩:=List.mem_map.1 he;rw[hI,List.length_map];exact Cc.2 u qI
  rw[acz _ _ (by omega) eB (λv hm=>by
   have:=rF v hm;refine⟨by omega,by rw[h.st];omega,λx ads=>by rw[a4 x ads];omega⟩) (HC _ _),bind_some]
  congr 3;rw[List.map_map];have key:∀x∈l.bu,(wo l.bz (eL 0 (h0 l l.bz.toNat))∘qo (gF l l.bz.toNat) l.Start) x=wm (gF l l.bz.toNat) (h0 l l.bz.toNat) l.Start x:=λx hm=>by
   have aa:=al.s x hm;simp only[Function.comp,wo,qo,wm];rw[H0 h aa.g,List.map_map];congr 1
   .exact List.map_congr_left λe he=>H0 h (aa.HF e he)
   .refine List.map_congr_left λi aC=>?_;have:(x.Next.map (hI (gF l l.bz.toNat) l.Start)).getD i.toNat []=hI (gF l l.bz.toNat) l.Start (x.Next.getD i.toNat []):=by
     rw[List.getD_eq_getElem?_getD,List.getD_eq_getElem?_getD,List.getElem?_map];cases x.Next[i.toNat]? <;>rfl
    rw[this];refine H0 h ?_;rw[List.getD_eq_getElem?_getD];cases bl:x.Next[i.toNat]? with
    |none=>exact⟨by simp,λt aP=>by cases aP⟩
    |some u=>exact aa.HG u (List.mem_of_getElem? bl)
  rw[List.map_congr_left key]
theorem adt (l:bg):me (qp l).1<=1048576/\(qp l).2.1.length<=1048576:=by
 unfold qp;cases aH:nJ l
 .exact⟨by show me ⟨0,[],[]⟩<=_;simp[me,g7,gZ],by simp⟩
 .have al:=HH aH;have hlen:(h0 l l.bz.toNat).length=l.bz.toNat:=wx;have hu:=za (h0 l l.bz.toNat) 0;have au:=al.p;exact⟨acG al _ (by omega) (λe=>lE (h0 l l.bz.toNat) (hI (gF l l.bz.toNat) l.Start e)) (λe=>by rw[lE,hI,List.length_map,List.length_map]),by show(eL 0 (h0 l l.bz.toNat)).length<=_;omega⟩
theorem abo (a:lZ) (b8:AG a):Gn a=some true:=by
 unfold Gn;rw[abG a 1048576 b8 (by omega) (by omega)];simp only[bind_some];by_cases h:si a<=1048576
 .rw[Ho (by omega)];have:decide ((1048576:Int)-((si a:Nat):Int)<0)=false:=by simp only[decide_eq_false_iff_not];omega
  rw[this,cond_false,abM a h];simp only[bind_some];have hl:me (y4 a)<=1048576:=by rw[abL];exact h
  generalize y4 a=e at hl;have bO:=ace e hl;obtain⟨s1,s2⟩:=adt e;obtain⟨hV,e_,iD,c,bA,el,_⟩:=Of e 1 (by omega) (by omega);obtain⟨xj,Df,Dg,f,f1,gU,jT⟩:=Of (qp e).1 1 (by omega) (by omega);obtain⟨mX,d,d1,j9,lK⟩:=Hv (qp e).2.1 (1+(f:Int)) (by omega) (by omega);simp only[adq e bO,adr e bO,bind_some,Oc _ s1,Hu (qp e).2.1 (by omega),Oc e hl,el,gU,jT,j9,lK,Bool.not_true,bne_self_eq_false,Bool.or_self,cond_false,qk (k:=1+(c:Int)) (by omega),qk (k:=1+(f:Int)) (by omega),qk (k:=1+(f:Int)+(d:Int)) (by omega)]
 .rw[B6 (by omega)];rfl
end Go.nc
