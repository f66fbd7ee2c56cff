/- Part of a proof that a law returns true for every input. No condition. -/
import Derived.Test.YtcmimclaknmnbaaGreatDoorFwQ
import Derived.Shelf.SlSortCmp.Kit1
namespace Go.cC
open List Option Go.IntKind Nat Or
open Go.Sort Go.Proofs Go.Shelf
def lo (same:Nat->Nat->Bool) (j:Nat):Bool:=j==0|| !same j (j-1)
def hQ (same:Nat->Nat->Bool) (m:Nat):anU:=(range m).filter (lo same)
structure nN (same:Nat->Nat->Bool) (n m dC:Nat) (dk:Array Nat):Prop where
 size:dk.size=n
 len:(hQ same m).length=dC
 low:∀j,j<dC->dk[j]! =(hQ same m)[j]!
 high:∀j,dC<=j->j<n->dk[j]! =j
 lt:dC<m
 le:m<=n
theorem D9 (same:Nat->Nat->Bool) (m:Nat):hQ same (m+1)=hQ same m++(if lo same m=true then [m]else []):=by
 unfold hQ;rw[range_succ,filter_append];congr 1;by_cases h:lo same m=true
 .rw[if_pos h];simp[h]
 .rw[if_neg h];simp[h]
theorem II {same:Nat->Nat->Bool} {m:Nat} (h:∀j,j<m->lo same j=true):hQ same m=range m:=by
 unfold hQ;rw[filter_eq_self];intro j bo;exact h j (mem_range.1 bo)
theorem uj (n j:Nat) (h:j<n):(Array.range n)[j]! =j:=by
 rw[getElem!_pos (Array.range n) j (by simpa using h)];simp
theorem nN.start {same:Nat->Nat->Bool} {n k:Nat} (ja:∀j,j<k->lo same j=true) (hk:lo same k=false) (aN:k<n):nN same n (k+1) k (Array.range n):=by
 have e:hQ same (k+1)=range k:=by rw[D9,if_neg (by rw[hk];exact Bool.false_ne_true),append_nil,II ja]
 refine⟨by simp,by rw[e];simp,λj bo=>?_,λj _ bo=>uj n j bo,by omega,by omega⟩;rw[e,uj n j (by omega),getElem!_pos (range k) j (by simpa using bo)];simp
theorem nN.skip {same:Nat->Nat->Bool} {n m dC:Nat} {dk:Array Nat} (h:nN same n m dC dk) (hm:m<n) (hk:lo same m=false):nN same n (m+1) dC dk:=by
 have e:hQ same (m+1)=hQ same m:=by rw[D9,if_neg (by rw[hk];exact Bool.false_ne_true),append_nil]
 exact⟨h.size,by rw[e];exact h.len,λj bo=>by rw[e];exact h.low j bo,h.high,by have:=h.lt;omega,by omega⟩
theorem nN.keep {same:Nat->Nat->Bool} {n m dC:Nat} {dk:Array Nat} (h:nN same n m dC dk) (hm:m<n) (hk:lo same m=true):nN same n (m+1) (dC+1) (dk.setIfInBounds dC m):=by
 have cp:=h.lt;have U:=h.size;have e:hQ same (m+1)=hQ same m++[m]:=by rw[D9,if_pos hk]
 have jD:∀j,j<n->(dk.setIfInBounds dC m)[j]! =if dC=j then m else dk[j]! :=λj bo=>by
  rw[getElem!_pos _ j (by simpa [U]using bo),getElem!_pos dk j (by omega),Array.getElem_setIfInBounds]
 refine⟨by simpa using U,by rw[e,length_append,h.len];rfl,λj bo=>?_,λj h1 ab=>?_,by omega,by omega⟩
 .have aa8:j<(hQ same m++[m]).length:=by rw[length_append,h.len];exact bo
  rw[jD j (by omega),e,getElem!_pos (hQ same m++[m]) j aa8];by_cases o2:dC=j
  .subst o2;rw[if_pos rfl,getElem_append_right (by rw[h.len];exact Nat.le_refl _)];simp[h.len]
  .rw[if_neg o2,h.low j (by omega),getElem_append_left (by rw[h.len];omega),getElem!_pos (hQ same m) j (by rw[h.len];omega)]
 .rw[jD j ab,if_neg (by omega)];exact h.high j (by omega) ab
def Ba (P:Program) (g:Nat) (enc:Nat->Value) (same:Nat->Nat->Bool) (b n:Nat) (w:World):Prop:=
 ∀(m:Nat) (os:Array Obj) (dk:Array Nat),dk.size=n->∀x y:Nat,x<n->y<n->
  Calls P g (#[enc x,enc y]++ #[]) (sortWorld enc w b 0 m dk os) λe aq=>e= .returned (.bool (same x y))/\∃q Bb,aq=grow ((sortWorld enc w b 0 m dk os).drewN q) Bb
theorem SW.Q8 {P:Program} {enc:Nat->Value} {w0 W:World} {b n:Nat} {dk:Array Nat} {g:Nat} {same:Nat->Nat->Bool} (h:SW enc w0 b 0 dk W) (bb:Ba P g enc same b n w0) (U:dk.size=n) (x y:Nat) (ag:x<n) (hy:y<n) (q:Nat) (os:Array Obj):
  Calls P g (#[enc x,enc y]++ #[]) (grow (W.drewN q) os) λe aq=>e= .returned (.bool (same x y))/\∃ig Bb,aq=grow ((grow (W.drewN q) os).drewN ig) Bb:=by
 obtain⟨m,aa9,hw⟩:=h.grown q os;rw[hw];exact bb m aa9 dk U x y ag hy
theorem aa_ {α:Type} {e:α->I} {k:Nat} (he:∀x,(e x).wd=k) {w:World} {F X:Nat->Prop} {S:Nat->Nat->Prop} {s:an} {au:Nat->Value} (h:bq w F X F S s au w)
  {b cap n:Nat} {cur A:Array Value} {h3:TypeId} {fr:Nat×Nat} {ys:List α} (bE:S 0 b) (R:w.heap[b]? =some (.cells cur h3 fr)) (v7:lH fr (cur.size+(k-1))) (xv:cur.size=cap*k) (pb:ys.length<=cap) (hm:cap<=maxLen)
  (iS:ys.length*k<=A.size) (amD:A.size<=cur.size) {ye:Nat->Prop} (Q9:∀c,ye c->S 0 c) (Q_:¬ye b) (eC:aW w F (ys.map e) (A.toList.take (ys.length*k)) ye) {os:Array Obj} {aq:World} (hw:aq=Sort.grow (putRow id (Sort.ahead w n) b 0 A) os) {aA:an} {fJ:Nat->Value} {t:Nat}
  (aL:aA t= .ah k (ys.map e)) (aD:fJ t= .slice (some ⟨b,0,none⟩) ys.length cap) (a1:∀u,u≠t->aA u= .hole\/(aA u= .tuple []/\fJ u= .tuple #[])):
  bq w F X F (λu c=>u=t/\(c=b\/ye c)) aA fJ aq:=by
 have mZ:∀c,(c=b\/ye c)->S 0 c:=λc ai=>ai.elim (λe=>e▸bE) (Q9 c);have Ra:=h.dh 0 b bE;have dr:(putRow id (Sort.ahead w n) b 0 A).heap.size=w.heap.size:=Sort.size_putRow ..;have IJ:w.heap.size<=aq.heap.size:=by rw[hw,size_grow,dr];omega
 have mO:∀c,c<w.heap.size->c≠b->aq.heap[c]? =w.heap[c]? :=by
  intro c ai cI;rw[hw,Iu _ _ (by rw[dr];exact ai)];simp only[putRow,mapBlock,Array.getElem?_modify,if_neg (Ne.symm cI)];rfl
 have Aj:aq.heap[b]? =some (.cells (putCells id 0 A cur) h3 fr):=by
  rw[hw,Iu _ _ (by rw[dr];exact Ra)];simp only[putRow,mapBlock,Array.getElem?_modify,if_true];rw[show(Sort.ahead w n).heap=w.heap from rfl,R];rfl
 have hle:ys.length*k<=cur.size:=by rw[xv];exact mul_le_mul_right _ pb
 have j4:(putCells id 0 A cur).toList.take (ys.length*k)=A.toList.take (ys.length*k):=by
  apply ext_getElem?;intro j;simp only[putCells,getElem?_take,Array.getElem?_toList,Array.getElem?_mapIdx];by_cases bo:j<ys.length*k
  .rw[if_pos bo,if_pos bo,Array.getElem?_eq_getElem (by omega),Array.getElem?_eq_getElem (show j<A.size by omega)];simp only[map_some];rw[if_pos (by omega)];simp only[Nat.sub_zero,id];rw[getElem!_pos _ j (by omega)]
  .rw[if_neg bo,if_neg bo]
 exact {
  fl:=λ_ h=>h
  fL:=λb a8=>.inl a8
  dV:=λc ai=>Nat.lt_of_lt_of_le (h.dV c ai) IJ
  dh:=λu c ai=>Nat.lt_of_lt_of_le (h.dh 0 c (mZ c ai.2)) IJ
  ep:=λu c ai a8=>h.ep 0 c (mZ c ai.2) a8
  ev:=λu x c cI hu ag=>cI (hu.1.trans ag.1.symm)
  cR:=λu c ai=>h.cR 0 c (mZ c ai.2)
  cD:=λu=>by
   by_cases hu:u=t
   .subst hu;rw[aL,aD];refine(aF.b_ rfl).2 ⟨rfl,?_⟩;rw[ar];right;refine⟨b,cap,_,h3,fr,ye,?_,⟨rfl,.inl rfl⟩,Aj,?_,?_,hm,?_,?_,?_,λ_ h=>⟨rfl,.inr h⟩,Q_⟩
    .simp[bZ,gX]
    .simpa [putCells]using v7
    .simpa using pb
    .simpa [putCells]using xv
    .intro d ae;obtain⟨x,_,rfl⟩:=mem_map.1 ae;exact he x
    .rw[length_map,j4];exact aW.frame (λc ai=>mO c (h.dV c ai) (λe=>h.ep 0 b bE (e▸ai))) _ _ _ (λc ai=>mO c (h.dh 0 c (Q9 c ai)) (λe=>Q_ (e▸ai))) eC
   .rcases a1 u hu with h1|⟨h1,ab⟩
    .rw[h1,aF];trivial
    .rw[h1,ab];refine(aF.b_ rfl).2 ⟨⟨#[],rfl,rfl,λk d x ae=>by simp at ae⟩,?_⟩;rw[ar,aW];rfl
  old:=λc ai iQ=>mO c ai (λtD=>by
   rcases h.cR 0 b bE with h1|h1
   .exact iQ (tD▸h1)
   .omega)
  size:=IJ
  os:=by rw[hw];rfl
  tape:=by rw[hw];rfl
  output:=by rw[hw];exact⟨rfl,λ_=>le_add_right _ _⟩
  e4:=h.e4}
theorem Rb (enc:Nat->Value):∀l:anU,(l.flatMap λi=>[enc i])=l.map enc
 |[]=>rfl
 |x::l=>by rw[flatMap_cons,Rb enc l];rfl
theorem Rc {α β:Type} {f g:α->Option β}:∀{l:List α},(∀i∈l,f i=g i)->l.filterMap f=l.filterMap g
 |[],_=>rfl
 |x::l,h=>by rw[filterMap_cons,filterMap_cons,h x (by simp),Rc λi ak=>h i (mem_cons_of_mem _ ak)]
theorem IK (enc:Nat->Value) (w:World) (b:Nat) (d:Array Nat):putRow enc w b 0 d=putRow id w b 0 (d.map enc):=by
 unfold putRow;congr 1;funext cur;unfold putCells;apply Array.ext_getElem?;intro j;simp only[Array.getElem?_mapIdx,Array.size_map];congr 1;funext v;by_cases h:0<=j/\j<0+d.size
 .rw[if_pos h,if_pos h];simp only[Nat.sub_zero,id];rw[getElem!_pos _ j (by omega),getElem!_pos _ j (by simp;omega)];simp
 .rw[if_neg h,if_neg h]
def yf (C:bx) (g:FuncId) (aa:anZ) (u:Value):Prop:=
 ∀(W:World) (F:Nat->Prop) (vs:anX),(∀b,F b->b<W.heap.size)->vs.length=aa.length->(∀(i:Nat) (a:I) (v:Value),aa[i]? =some a->vs[i]? =some v->a.tree=true/\c7 a v/\ar W F a (bZ v) (λ_=>False))->
  Calls C.P g vs.toArray W λe aq=>e= .returned u/\∃q os,aq=grow (W.drewN q) os
theorem aba {C:bx} {g:FuncId} {aa:anZ} {vs:anX} {w:World} {F:Nat->Prop} (a8:∀b,F b->b<w.heap.size) (hlen:vs.length=aa.length)
  (hP:∀(i:Nat) (a:I) (v:Value),aa[i]? =some a->vs[i]? =some v->a.tree=true/\c7 a v/\ar w F a (bZ v) (λ_=>False)) {u:Value} (ca:yf C g aa u):
  ∀W:World,(∀b,F b->W.heap[b]? =w.heap[b]?)->w.heap.size<=W.heap.size->Calls C.P g vs.toArray W λe aq=>e= .returned u/\∃q os,aq=grow (W.drewN q) os:=
 λW ui dr=>ca W F vs (λb R=>Nat.lt_of_lt_of_le (a8 b R) dr) hlen λi a v bg aD=>by
  obtain⟨g1,g2,g3⟩:=hP i a v bg aD;exact⟨g1,g2,ar.frame ui _ _ _ (λ_ h=>h.elim) g3⟩
structure nO {α:Type} (w:World) (F X:Nat->Prop) (S:Nat->Nat->Prop) (e:α->I) (xs:List α) (b cap:Nat) (cur:Array Value) (h3:TypeId) (fr:Nat×Nat) (T:Nat->Nat->Prop) (enc:Nat->Value):Prop where
 bE:S 0 b
 R:w.heap[b]? =some (.cells cur h3 fr)
 v7:lH fr cur.size
 uk:xs.length<=cap
 hm:cap<=maxLen
 fZ:cur.size=cap
 yg:∀i c,T i c->S 0 c
 IL:∀i,¬T i b
 D_:∀i j c,i≠j->T i c->¬T j c
 eC:∀i (ak:i<xs.length),ar w F (e xs[i]) [enc i] (T i)
 oj:∀i,i<xs.length->cur[i]? =some (enc i)
 jw:∀i,i<xs.length->Value.oneCell' (enc i)=true
 bC:∀i,xs.length<=i->enc i= .slice none 0 0
theorem Re {α:Type} {e:α->I} (he:∀x,(e x).wd=1) {w:World} {F X:Nat->Prop} {S:Nat->Nat->Prop} {s:an} {au:Nat->Value} (ax:bq w F X F S s au w) {xs:List α} (ba:s 0= .ah 1 (xs.map e)):
  (xs=[]/\∃a,au 0= .slice a 0 0)\/∃b cap cur h3 fr T enc,au 0= .slice (some ⟨b,0,none⟩) xs.length cap/\nO w F X S e xs b cap cur h3 fr T enc:=by
 have ir:=ax.cD 0;rw[ba]at ir;rcases aat ir with⟨ag,a,aD⟩|⟨b,cap,cur,h3,fr,aJ,aD,bE,R,v7,uk,hm,fZ,eC,abb,abc⟩
 .exact .inl ⟨by simpa using ag,a,aD⟩
 .rw[length_map]at aD uk eC;obtain⟨hlen,T,oj,yg,D_⟩:=QJ he xs _ _ eC;simp only[Nat.mul_one]at hlen oj fZ;have nM:∀i,i<xs.length->((cur.toList.take xs.length).drop i).take 1=[cur[i]!]:=λi ak=>by
   have h1:i<cur.size:=by omega
   rw[getElem!_pos cur i h1];apply ext_getElem?;intro j;rw[getElem?_take,getElem?_drop,getElem?_take];by_cases bo:j<1
   .have:j=0:=by omega
    subst this;rw[if_pos (by omega),if_pos (by omega)];simp[h1]
   .rw[if_neg bo,getElem?_eq_none (by simp;omega)]
  refine .inr ⟨b,cap,cur,h3,fr,T,λi=>if i<xs.length then cur[i]! else .slice none 0 0,aD,{bE:=bE,R:=R,v7:=v7.low,uk:=uk,hm:=hm,fZ:=fZ,yg:=λi c ai=>abb c (yg i c ai),IL:=λi ai=>abc (yg i b ai),D_:=D_,eC:=λi ak=>?_,oj:=λi ak=>?_,jw:=λi ak=>?_,bC:=λi ak=>if_neg (by omega)}⟩
  .have:=oj i ak;rw[nM i ak]at this;rw[if_pos ak];exact this
  .rw[if_pos ak,getElem!_pos cur i (by omega)];exact Array.getElem?_eq_getElem (by omega)
  .have:=oj i ak;rw[nM i ak]at this;rw[if_pos ak];exact aas (ar.mP _ _ _ this _ (mem_singleton.2 rfl))
section
variable {α:Type} {e:α->I} {w:World} {F X:Nat->Prop} {S:Nat->Nat->Prop} {s:an} {au:Nat->Value} {xs:List α} {b cap:Nat} {cur:Array Value} {h3:TypeId} {fr:Nat×Nat} {T:Nat->Nat->Prop} {enc:Nat->Value}
theorem nO.holds (h:nO w F X S e xs b cap cur h3 fr T enc):Holds enc w b 0 (Array.range xs.length):=by
 intro j bo;have yh:j<xs.length:=by simpa using bo
 rw[uj _ _ yh];refine⟨?_,?_⟩
 .simp only[World.cell?,h.R,Nat.zero_add];exact h.oj j yh
 .simp only[World.frozen?,h.R,Nat.zero_add];have:=h.v7 j (by rw[h.fZ];have:=h.uk;omega);simpa using this
theorem nO.Rf (h:nO w F X S e xs b cap cur h3 fr T enc):OneCell enc:=λi=>by
 by_cases ak:i<xs.length
 .exact h.jw i ak
 .rw[h.bC i (by omega)];rfl
theorem nO.call (ax:bq w F X F S s au w) (h:nO w F X S e xs b cap cur h3 fr T enc) (kT:∀x,∃l,(e x).share= .slice l) {C:bx} {g:FuncId} {u:Value} (x y:Nat) (ag:x<xs.length) (hy:y<xs.length) (a1:yf C g [(e xs[x]).share,(e xs[y]).share] u) (Bc:Nat->Value) (m:Nat) (os:Array Obj) (dk:Array Nat):
  Calls C.P g #[enc x,enc y] (sortWorld Bc w b 0 m dk os) λex aq=>ex= .returned u/\∃q Bb,aq=grow ((sortWorld Bc w b 0 m dk os).drewN q) Bb:=by
 have Ra:=ax.dh 0 b h.bE;have Bd:¬F b:=ax.ep 0 b h.bE;have Rg:∀c,(F c\/∃i,T i c)->c<w.heap.size:=λc ai=>ai.elim (ax.dV c) (λ⟨i,ab⟩=>ax.dh 0 c (h.yg i c ab));have k_:∀i (ak:i<xs.length),(e xs[i]).share.tree=true/\c7 (e xs[i]).share (enc i)/\ar w (λc=>F c\/∃i,T i c) (e xs[i]).share (bZ (enc i)) (λ_=>False):=λi ak=>by
  obtain⟨l,hl⟩:=kT xs[i];have Rh:ar w (λc=>F c\/∃i,T i c) (e xs[i]).share [enc i] (λ_=>False):=ar.shared (λc h=>.inl h) _ _ _ (λc ai=>.inr ⟨i,ai⟩) (h.eC i ak);have jw:Value.eJ (enc i)=true:=ar.mP _ _ _ (h.eC i ak) _ (mem_singleton.2 rfl);rw[e_ jw];rw[hl]at Rh⊢;exact⟨rfl,jw,Rh⟩
 have ui:=aba (aa:=[(e xs[x]).share,(e xs[y]).share]) (vs:=[enc x,enc y]) (w:=w) (F:=λc=>F c\/∃i,T i c) Rg rfl (λi a v bg aD=>by
  rcases i with _|_|i
  .simp only[getElem?_cons_zero,some.injEq]at bg aD;subst bg aD;exact k_ x ag
  .simp only[getElem?_cons_succ,getElem?_cons_zero,some.injEq]at bg aD;subst bg aD;exact k_ y hy
  .simp at bg) a1 (sortWorld Bc w b 0 m dk os) (λc ai=>by
   have nM:=Rg c ai;have cI:c≠b:=λay=>ai.elim (λab=>Bd (ay▸ab)) (λ⟨i,ab⟩=>h.IL i (ay▸ab));unfold sortWorld;rw[Iu _ _ (by rw[show(putRow Bc (Sort.ahead w m) b 0 dk).heap.size=w.heap.size from Sort.size_putRow ..];exact nM)];simp only[putRow,mapBlock,Array.getElem?_modify,if_neg (Ne.symm cI)];rfl) (by
   unfold sortWorld;rw[size_grow,show(putRow Bc (Sort.ahead w m) b 0 dk).heap.size=w.heap.size from Sort.size_putRow ..];omega)
 exact ui
theorem nO.after (he:∀x,(e x).wd=1) (ax:bq w F X F S s au w) (h:nO w F X S e xs b cap cur h3 fr T enc) {ps:anU} (al:∀i∈ps,i<xs.length) (aN:ps.Nodup) {dk:Array Nat} (IM:ps.length<=dk.size) (fP:dk.size<=xs.length) (ae:∀j (bo:j<ps.length),dk[j]! =ps[j])
  {ys:List α} (pb:ys=ps.filterMap λi=>xs[i]?) {n:Nat} {os:Array Obj} {aq:World} (hw:aq=sortWorld enc w b 0 n dk os) {aA:an} {fJ:Nat->Value} {t:Nat}
  (aL:aA t= .ah 1 (ys.map e)) (aD:fJ t= .slice (some ⟨b,0,none⟩) ys.length cap) (a1:∀u,u≠t->aA u= .hole\/(aA u= .tuple []/\fJ u= .tuple #[])):
  ∃aJ,bq w F X F aJ aA fJ aq:=by
 have hlen:ys.length=ps.length:=by
  rw[pb];clear pb ae IM aN;induction ps with
  |nil=>rfl
  |cons i ps ih=>
   have:=al i (by simp);rw[filterMap_cons,getElem?_eq_getElem this];simp[ih (λj bo=>al j (mem_cons_of_mem _ bo))]
 have abd:ys.map e=ps.map λi=>((xs[i]?).map e).getD .hole:=by
  rw[pb];clear pb ae IM aN hlen;induction ps with
  |nil=>rfl
  |cons i ps ih=>
   have:=al i (by simp);rw[filterMap_cons,getElem?_eq_getElem this];simp only[map_cons];rw[ih (λj bo=>al j (mem_cons_of_mem _ bo)),getElem?_eq_getElem this];rfl
 have abe:aW w F (ys.map e) (((dk.map enc).toList).take (ys.length*1)) (λc=>∃i∈ps,T i c):=by
  have h1:((dk.map enc).toList).take (ys.length*1)=ps.flatMap λi=>[enc i]:=by
   rw[Nat.mul_one,hlen];apply ext_getElem?;intro j;rw[getElem?_take,Rb];by_cases bo:j<ps.length
   .rw[if_pos bo,getElem?_map,getElem?_eq_getElem bo,Array.getElem?_toList,Array.getElem?_map,Array.getElem?_eq_getElem (by omega)];have:=ae j bo;rw[getElem!_pos dk j (by omega)]at this;simp[this]
   .rw[if_neg bo,getElem?_map,getElem?_eq_none (by omega)];rfl
  rw[h1,abd];refine QK (e:=λi=>((xs[i]?).map e).getD .hole) (T:=T) (λi=>[enc i]) h.D_ ps aN (λi ak=>?_);have:=al i ak;simp only[getElem?_eq_getElem this,map_some,getD_some];exact h.eC i this
 have abf:lH fr (cur.size+(1-1)):=h.v7;exact⟨_,aa_ he ax h.bE h.R abf (by rw[h.fZ,Nat.mul_one]) (by have:=h.uk;omega) h.hm (by simp;omega) (by have:=h.uk;have:=h.fZ;simp;omega) (λc ⟨i,_,ai⟩=>h.yg i c ai) (λ⟨i,_,ai⟩=>h.IL i ai) abe (n:=n) (os:=os) (by rw[hw,sortWorld,IK]) aL aD a1⟩
end
theorem Ri {w:World} {F:Nat->Prop} {s:an} {au:Nat->Value} {g:FuncId} {v:Value} {S:Nat->Prop} (h:aF w F s au (.fn g []) v S):v= .func (.func g) #[] #[]:=by
 rw[aF]at h;obtain⟨arr,bg,R⟩:=h;rw[bg];cases hl:arr.toList with
 |nil=>rw[show arr= #[]from Array.toList_inj.1 (by simpa using hl)]
 |cons x r=>rw[hl,cV]at R;cases R
theorem aY.abg {C:bx} {f g:FuncId} (v8:∀args w,(callFunc f args).run C.P w= .ok (.enter f args) w)
  {α:Type} {e:α->I} (he:∀x,(e x).wd=1) (kT:∀x,∃l,(e x).share= .slice l) (v_:α->α->Int) (a1:∀x y,yf C g [(e x).share,(e y).share] (.int .i64 (v_ x y))) (hO:SWO λx y=>decide (v_ x y<0))
  (xs ys:List α) (aN:xs.length<4611686018427387904) (ba:∀(a:Option Addr) (cap:Nat) (w:World),Calls C.P f #[.slice a 0 cap,.func (.func g) #[] #[]] w λex aq=>ex= .returned (.tuple #[])/\aq=w) (hu:∀dX:List α,dX.Perm xs->dX.Pairwise (λa b=>0<=v_ b a)->dX=ys)
  (h1:∀(enc:Nat->Value),OneCell enc->∀(Be:Nat->Nat->Int),SWO (λx y=>decide (Be x y<0))->∀(w:World) (b cap:Nat) (d:Array Nat),CmpLays1 C.P g #[] enc Be b 0 d.size w->
   Holds enc w b 0 d->b<w.heap.size->d.size<4611686018427387904->
   Calls C.P f #[.slice (some ⟨b,0,none⟩) d.size cap,.func (.func g) #[] #[]] w λex aq=>ex= .returned (.tuple #[])/\∃bf n os,PermIn 0 d.size d bf/\SortedIn (λx y=>decide (Be x y<0)) 0 d.size bf/\aq=sortWorld enc w b 0 n bf os):
  aY C f [.ah 1 (xs.map e),.fn g []] (.tuple []) [.ah 1 (ys.map e),.hole]:=by
 intro w F X S vs jT ax;obtain⟨v,v1,rfl⟩:∃v v1,vs=[v,v1]:=by
  match vs,jT with
  |[v,v1],_=>exact⟨v,v1,rfl⟩
 have IP:v1= .func (.func g) #[] #[]:=Ri (ax.cD 1);subst IP;rcases Re he ax (xs:=xs) rfl with⟨ag,a,aD⟩|⟨b,cap,cur,h3,fr,T,enc,aD,er⟩
 .have aD:v= .slice a 0 0:=aD;subst aD;subst ag;have hy:ys=[]:=(hu [] (Perm.refl _) Pairwise.nil).symm;subst hy;refine .inl ⟨v8 _ _,(ba a 0 w).mono ?_⟩;rintro ex aq ⟨rfl,rfl⟩;refine⟨_,rfl,F,λ_ _=>False,{fl:=ax.fl,fL:=ax.fL,dV:=ax.dV,dh:=λ_ _ h=>h.elim,ep:=λ_ _ h=>h.elim,ev:=λ_ _ _ _ h=>h.elim,cR:=λ_ _ h=>h.elim,cD:=λt=>?_,old:=ax.old,size:=ax.size,os:=ax.os,tape:=ax.tape,output:=ax.output,e4:=ax.e4}⟩;rcases t with _|_|t
  .show aF _ _ _ _ (.tuple []) (.tuple #[]) _;refine(aF.b_ rfl).2 ⟨⟨#[],rfl,rfl,λk d x ae=>by simp at ae⟩,?_⟩;rw[ar,aW];rfl
  .refine(aF.b_ rfl).2 ⟨rfl,?_⟩;show ar _ _ (.ah 1 []) _ _;rw[ar];exact .inl ⟨rfl,a,rfl⟩
  .have:eb [.tuple [],.ah 1 (([]:List α).map e),.hole] (t+1+1)= .hole:=by
    rcases t with _|t
    .rfl
    .cases t<;>rfl
   rw[this,aF];trivial
 have aD:v= .slice (some ⟨b,0,none⟩) xs.length cap:=aD;subst aD;by_cases cI:xs=[]
 .subst cI;have hy:ys=[]:=(hu [] (Perm.refl _) Pairwise.nil).symm;subst hy;refine .inl ⟨v8 _ _,(ba _ cap w).mono ?_⟩;rintro ex aq ⟨rfl,rfl⟩;obtain⟨aJ,wa⟩:=nO.after he ax er (ps:=[]) (λi ak=>by cases ak) nodup_nil (dk:=Array.range ([]:List α).length) (by simp) (by simp) (λj bo=>by simp at bo) (ys:=([]:List α)) rfl (n:=0) (os:= #[]) (aq:=aq) (by
   rw[sortWorld,grow_empty];exact(putRow_self enc aq b 0 _ er.holds).symm) (aA:=eb [.tuple [],.ah 1 (([]:List α).map e),.hole]) (fJ:=fs [.tuple #[],.slice (some ⟨b,0,none⟩) ([]:List α).length cap,.func (.func g) #[] #[]]) (t:=1) rfl rfl (λu hu=>by
   rcases u with _|_|u
   .exact .inr ⟨rfl,rfl⟩
   .exact(hu rfl).elim
   .refine .inl ?_;rcases u with _|u
    .rfl
    .cases u<;>rfl)
  exact⟨_,rfl,F,aJ,wa⟩
 have xU:0<xs.length:=length_pos_iff.2 cI;let qH:Nat->Nat:=λi=>if i<xs.length then i else 0
 have IQ:∀i,qH i<xs.length:=λi=>by
  show(if i<xs.length then i else 0)<xs.length;split<;>omega
 have Rj:∀i,i<xs.length->qH i=i:=λi ak=>if_pos ak;let pc:Nat->α:=λi=>xs[qH i]'(IQ i)
 have hH:Holds (λi=>enc (qH i)) w b 0 (Array.range xs.length):=by
  intro j bo;have:=er.holds j bo;rw[uj _ _ (by simpa using bo)]at this⊢;simp only;rw[Rj j (by simpa using bo)];exact this
 have rY:CmpLays1 C.P g #[] (λi=>enc (qH i)) (λx y=>v_ (pc x) (pc y)) b 0 (Array.range xs.length).size w:=by
  intro m os dk _ x y;have:=nO.call ax er kT (u:=.int .i64 (v_ (pc x) (pc y))) (qH x) (qH y) (IQ x) (IQ y) (a1 (pc x) (pc y)) (λi=>enc (qH i)) m os dk;simpa using this
 have abh:SWO λx y=>decide (v_ (pc x) (pc y)<0):=⟨λx=>hO.irrefl _,λx y z=>hO.trans _ _ _,λx y z=>hO.ntrans _ _ _⟩
 have xK:=h1 (λi=>enc (qH i)) (λi=>er.Rf (qH i)) (λx y=>v_ (pc x) (pc y)) abh w b cap (Array.range xs.length) rY hH (ax.dh 0 b er.bE) (by simpa using aN);simp only[Array.size_range]at xK;refine .inl ⟨v8 _ _,xK.mono ?_⟩;rintro ex aq ⟨rfl,bf,n,os,al,U,hw⟩;obtain⟨wb,ri,abj⟩:=al;have gq:bf.size=xs.length:=by simpa using wb
 have IU:bf.toList.Perm (range xs.length):=by
  have:=abj;rw[show bf.extract 0 xs.length=bf by rw[<-gq];simp,show(Array.range xs.length).extract 0 xs.length=Array.range xs.length by simp]at this;simpa using this
 have lk:∀i∈bf.toList,i<xs.length:=λi ak=>mem_range.1 (IU.mem_iff.1 ak);have Rk:bf.toList.map pc=ys:=by
  refine hu _ ?_ ?_
  .have ab:=IU.map pc;have ay:(range xs.length).map pc=xs:=by
    apply ext_getElem?;intro i;by_cases ak:i<xs.length
    .rw[getElem?_map,getElem?_range ak,getElem?_eq_getElem ak];simp only[map_some,some.injEq];show xs[if i<xs.length then i else 0]'_=xs[i];congr 1;rw[if_pos ak]
    .rw[getElem?_eq_none (by simp;omega),getElem?_eq_none (by omega)]
   rw[ay]at ab;exact ab
  .rw[pairwise_iff_getElem];intro i j ak bo D3;have xE:i<bf.size:=by simpa using ak
   have yh:j<bf.size:=by simpa using bo
   have:=U i j (zero_le _) D3 (by omega);rw[getElem!_pos bf i xE,getElem!_pos bf j yh]at this;simp only[getElem_map,Array.getElem_toList];simpa using this
 have pb:ys=bf.toList.filterMap λi=>xs[i]? :=by
  rw[<-Rk,<-filterMap_eq_map];refine Rc λi ak=>?_;have cp:=lk i ak;rw[getElem?_eq_getElem cp];show some (xs[if i<xs.length then i else 0]'_)=some xs[i];congr 2;exact if_pos cp
 have Rl:ys.length=xs.length:=by rw[<-Rk];simpa using gq
 have abk:sortWorld (λi=>enc (qH i)) w b 0 n bf os=sortWorld enc w b 0 n bf os:=by
  unfold sortWorld;rw[IK,IK];congr 2;apply Array.ext
  .simp
  .intro i h1 ab;have ak:i<bf.size:=by simpa using h1
   simp only[Array.getElem_map];rw[Rj _ (lk _ (by simp))]
 obtain⟨aJ,wa⟩:=nO.after he ax er (ps:=bf.toList) lk (IU.nodup_iff.2 nodup_range) (dk:=bf) (by simp) (by omega) (λj bo=>by
  rw[getElem!_pos bf j (by simpa using bo)];simp) pb (n:=n) (os:=os) (aq:=aq) (by rw[hw,abk]) (aA:=eb [.tuple [],.ah 1 (ys.map e),.hole]) (fJ:=fs [.tuple #[],.slice (some ⟨b,0,none⟩) xs.length cap,.func (.func g) #[] #[]]) (t:=1) rfl (by show Value.slice _ _ _=_;rw[Rl]) (λu hu=>by
  rcases u with _|_|u
  .exact .inr ⟨rfl,rfl⟩
  .exact(hu rfl).elim
  .refine .inl ?_;cases u<;>rfl)
 exact⟨_,rfl,F,aJ,wa⟩
def qI {α:Type} (eq:α->α->Bool) (p:α):List α->List α
 |[]=>[]
 |x::l=>if eq x p=true then qI eq x l else x::qI eq x l
def kU {α:Type} (eq:α->α->Bool):List α->List α
 |[]=>[]
 |x::l=>x::qI eq x l
theorem Rm {α:Type} (eq:α->α->Bool):∀(l:List α) (p x:α),qI eq p (l++[x])=qI eq p l++if eq x ((p::l).getLast (cons_ne_nil _ _))=true then []else [x]
 |[],p,x=>by
  simp only[nil_append,qI,getLast_singleton];by_cases h:eq x p=true<;>simp[h]
 |y::l,p,x=>by
  rw[cons_append,qI,qI,Rm eq l y x,getLast_cons (cons_ne_nil _ _)];by_cases h:eq y p=true
  .rw[if_pos h,if_pos h]
  .rw[if_neg h,if_neg h];rfl
theorem abl {α:Type} (eq:α->α->Bool) (l:List α) (x:α) (hl:l≠[]):kU eq (l++[x])=kU eq l++if eq x (l.getLast hl)=true then []else [x]:=by
 cases l with
 |nil=>exact(hl rfl).elim
 |cons y l=>rw[cons_append,kU,kU,Rm];rfl
theorem Rn {α:Type} (eq:α->α->Bool) (xs:List α) (same:Nat->Nat->Bool) (U:∀i j (ak:i<xs.length) (bo:j<xs.length),same i j=eq xs[i] xs[j]):∀m,m<=xs.length->(hQ same m).filterMap (λi=>xs[i]?)=kU eq (xs.take m)
 |0,_=>by simp[hQ,kU]
 |m+1,h=>by
  have cp:m<xs.length:=h;rw[D9,filterMap_append,Rn eq xs same U m (by omega),take_succ_eq_append_getElem cp];by_cases ba:m=0
  .subst ba;have:lo same 0=true:=rfl;rw[if_pos this];simp[kU,qI,getElem?_eq_getElem cp]
  .have cI:xs.take m≠[]:=λe=>by
    have:=congrArg length e;rw[length_take,length_nil]at this;omega
   rw[abl eq _ _ cI];congr 1;have abm:(xs.take m).getLast cI=xs[m-1]:=by
    rw[getLast_eq_getElem];simp only[length_take,getElem_take];congr 1;omega
   rw[abm];have hk:lo same m= !eq xs[m] xs[m-1]:=by
    unfold lo;rw[U m (m-1) cp (by omega),show(m==0)=false from by simpa using ba,Bool.false_or]
   rw[hk];cases eq xs[m] xs[m-1]<;>simp[getElem?_eq_getElem cp]
theorem aY.abn {C:bx} {f g:FuncId} (v8:∀args w,(callFunc f args).run C.P w= .ok (.enter f args) w)
  {α:Type} {e:α->I} (he:∀x,(e x).wd=1) (kT:∀x,∃l,(e x).share= .slice l) (oE:α->α->Bool) (a1:∀x y,yf C g [(e x).share,(e y).share] (.bool (oE x y)))
  (xs:List α) (aN:xs.length<=4611686018427387904)
  (ba:∀(a:Option Addr) (n cap:Nat) (w:World),n<2->Calls C.P f #[.slice a n cap,.func (.func g) #[] #[]] w λex aq=>ex= .returned (.slice a n cap)/\aq=w)
  (h1:∀(enc:Nat->Value),OneCell enc->∀(same:Nat->Nat->Bool) (w:World) (b n cap:Nat),Ba C.P g enc same b n w->Holds enc w b 0 (Array.range n)->b<w.heap.size->n<=4611686018427387904->n<=cap->cap<=9223372036854775807->enc n= .slice none 0 0->2<=n->
   Calls C.P f #[.slice (some ⟨b,0,none⟩) n cap,.func (.func g) #[] #[]] w λex aq=>ex= .returned (.slice (some ⟨b,0,none⟩) (hQ same n).length cap)/\
    ∃dk,dk.size=n/\(∀j,j<(hQ same n).length->dk[j]! =(hQ same n)[j]!)/\SW enc w b 0 dk aq):
  aY C f [.ah 1 (xs.map e),.fn g []] (.ah 1 ((kU oE xs).map e)) [.hole,.hole]:=by
 intro w F X S vs jT ax;obtain⟨v,v1,rfl⟩:∃v v1,vs=[v,v1]:=by
  match vs,jT with
  |[v,v1],_=>exact⟨v,v1,rfl⟩
 have IP:v1= .func (.func g) #[] #[]:=Ri (ax.cD 1);subst IP;have Ro:xs.length<2->kU oE xs=xs:=λh=>by
  match xs,h with
  |[],_=>rfl
  |[x],_=>rfl
 rcases Re he ax (xs:=xs) rfl with⟨ag,a,aD⟩|⟨b,cap,cur,h3,fr,T,enc,aD,er⟩
 .have aD:v= .slice a 0 0:=aD;subst aD;subst ag;refine .inl ⟨v8 _ _,(ba a 0 0 w (by omega)).mono ?_⟩;rintro ex aq ⟨rfl,rfl⟩;refine⟨_,rfl,F,λ_ _=>False,{fl:=ax.fl,fL:=ax.fL,dV:=ax.dV,dh:=λ_ _ h=>h.elim,ep:=λ_ _ h=>h.elim,ev:=λ_ _ _ _ h=>h.elim,cR:=λ_ _ h=>h.elim,cD:=λt=>?_,old:=ax.old,size:=ax.size,os:=ax.os,tape:=ax.tape,output:=ax.output,e4:=ax.e4}⟩;rcases t with _|_|_|t
  .refine(aF.b_ rfl).2 ⟨rfl,?_⟩;show ar _ _ (.ah 1 []) _ _;rw[ar];exact .inl ⟨rfl,a,rfl⟩
  .show aF _ _ _ _ .hole _ _;rw[aF];trivial
  .show aF _ _ _ _ .hole _ _;rw[aF];trivial
  .have:eb [.ah 1 ((kU oE ([]:List α)).map e),.hole,.hole] (t+1+1+1)= .hole:=by cases t<;>rfl
   rw[this,aF];trivial
 have aD:v= .slice (some ⟨b,0,none⟩) xs.length cap:=aD;subst aD;have Rp:∀u,u≠0->eb [.ah 1 ((kU oE xs).map e),.hole,.hole] u= .hole:=λu hu=>by
  rcases u with _|_|_|u
  .exact(hu rfl).elim
  .rfl
  .rfl
  .cases u<;>rfl
 by_cases ab:xs.length<2
 .refine .inl ⟨v8 _ _,(ba _ _ cap w ab).mono ?_⟩;rintro ex aq ⟨rfl,rfl⟩;obtain⟨aJ,wa⟩:=nO.after he ax er (ps:=range xs.length) (λi ak=>mem_range.1 ak) nodup_range (dk:=Array.range xs.length) (by simp) (by simp) (λj bo=>by
   have yh:j<xs.length:=by simpa using bo
   rw[uj _ _ yh];simp) (ys:=kU oE xs) (by
   rw[Ro ab];have:∀m,m<=xs.length->(range m).filterMap (λi=>xs[i]?)=xs.take m:=λm hm=>by
    induction m with
    |zero=>rfl
    |succ m ih=>rw[range_succ,filterMap_append,ih (by omega),take_succ_eq_append_getElem (by omega)];simp[getElem?_eq_getElem (show m<xs.length by omega)]
   rw[this _ (Nat.le_refl _),take_length]) (n:=0) (os:= #[]) (aq:=aq) (by
   rw[sortWorld,grow_empty];exact(putRow_self enc aq b 0 _ er.holds).symm) (aA:=eb [.ah 1 ((kU oE xs).map e),.hole,.hole]) (fJ:=fs [.slice (some ⟨b,0,none⟩) xs.length cap,.slice (some ⟨b,0,none⟩) xs.length cap,.func (.func g) #[] #[]]) (t:=0) rfl (by rw[Ro ab];rfl) (λu hu=>.inl (Rp u hu))
  exact⟨_,rfl,F,aJ,wa⟩
 have amE:∀i,i<xs.length->True:=λ_ _=>trivial;let same:Nat->Nat->Bool:=λi j=>if h:i<xs.length/\j<xs.length then oE xs[i] xs[j]else false
 have Bf:∀i j (ak:i<xs.length) (bo:j<xs.length),same i j=oE xs[i] xs[j]:=λi j ak bo=>dif_pos ⟨ak,bo⟩;have rY:Ba C.P g enc same b xs.length w:=by
  intro m os dk _ x y ag hy;have:=nO.call ax er kT (u:=.bool (oE xs[x] xs[y])) x y ag hy (a1 xs[x] xs[y]) enc m os dk;rw[Bf x y ag hy];simpa using this
 have abo:cap<=9223372036854775807:=by have:=er.hm;unfold maxLen at this;omega
 have IV:=Rn oE xs same Bf xs.length (Nat.le_refl _);rw[take_length]at IV;have IW:∀i∈hQ same xs.length,i<xs.length:=λi ak=>mem_range.1 (mem_filter.1 ak).1;have vP:(kU oE xs).length=(hQ same xs.length).length:=by
  rw[<-IV];have:∀l:anU,(∀i∈l,i<xs.length)->(l.filterMap λi=>xs[i]?).length=l.length:=λl=>by
   induction l with
   |nil=>intro _;rfl
   |cons i l ih=>intro hl;rw[filterMap_cons,getElem?_eq_getElem (hl i (by simp))];simp[ih (λj bo=>hl j (mem_cons_of_mem _ bo))]
  exact this _ IW
 have amF:(hQ same xs.length).length<=xs.length:=by
  have:=length_filter_le (lo same) (range xs.length);simpa [hQ]using this
 refine .inl ⟨v8 _ _,(h1 enc er.Rf same w b xs.length cap rY er.holds (ax.dh 0 b er.bE) aN er.uk abo (er.bC _ (Nat.le_refl _)) (by omega)).mono ?_⟩;rintro ex aq ⟨rfl,dk,IM,fP,n,os,hw⟩;obtain⟨aJ,wa⟩:=nO.after he ax er (ps:=hQ same xs.length) IW (Pairwise.filter _ nodup_range) (dk:=dk) (by omega) (by omega) (λj bo=>by
  rw[fP j bo,getElem!_pos _ j bo]) (ys:=kU oE xs) IV.symm (n:=n) (os:=os) (aq:=aq) hw (aA:=eb [.ah 1 ((kU oE xs).map e),.hole,.hole]) (fJ:=fs [.slice (some ⟨b,0,none⟩) (hQ same xs.length).length cap,.slice (some ⟨b,0,none⟩) xs.length cap,.func (.func g) #[] #[]]) (t:=0) rfl (by rw[vP];rfl) (λu hu=>.inl (Rp u hu))
 exact⟨_,rfl,F,aJ,wa⟩
end Go.cC
