/- Part of a proof that a law returns true for every input. No condition. -/
import Derived.Test.YtklcmlnabkfneaaGreatFwQ
import Derived.Shelf.SlSortCmp.Kit1
namespace Go.cU
open List Option Go.IntKind Nat Or
open Go.Sort Go.Proofs Go.Shelf
def ko (same:Nat->Nat->Bool) (j:Nat):Bool:=j==0|| !same j (j-1)
def hi (same:Nat->Nat->Bool) (m:Nat):aiA:=(range m).filter (ko same)
structure lM (same:Nat->Nat->Bool) (n m dA:Nat) (dk:Array Nat):Prop where
 size:dk.size=n
 len:(hi same m).length=dA
 low:∀j,j<dA->dk[j]! =(hi same m)[j]!
 high:∀j,dA<=j->j<n->dk[j]! =j
 lt:dA<m
 le:m<=n
theorem Ap (same:Nat->Nat->Bool) (m:Nat):hi same (m+1)=hi same m++(if ko same m=true then [m]else []):=by
 unfold hi;rw[range_succ,filter_append];congr 1;by_cases h:ko same m=true
 .rw[if_pos h];simp[h]
 .rw[if_neg h];simp[h]
theorem EH {same:Nat->Nat->Bool} {m:Nat} (h:∀j,j<m->ko same j=true):hi same m=range m:=by
 unfold hi;rw[filter_eq_self];intro j bd;exact h j (mem_range.1 bd)
theorem rl (n j:Nat) (h:j<n):(Array.range n)[j]! =j:=by
 rw[getElem!_pos (Array.range n) j (by simpa using h)];simp
theorem lM.start {same:Nat->Nat->Bool} {n k:Nat} (iY:∀j,j<k->ko same j=true) (aw:ko same k=false) (aP:k<n):lM same n (k+1) k (Array.range n):=by
 have e:hi same (k+1)=range k:=by rw[Ap,if_neg (by rw[aw];exact Bool.false_ne_true),append_nil,EH iY]
 refine⟨by simp,by rw[e];simp,λj bd=>?_,λj _ bd=>rl n j bd,by omega,by omega⟩;rw[e,rl n j (by omega),getElem!_pos (range k) j (by simpa using bd)];simp
theorem lM.skip {same:Nat->Nat->Bool} {n m dA:Nat} {dk:Array Nat} (h:lM same n m dA dk) (hm:m<n) (aw:ko same m=false):lM same n (m+1) dA dk:=by
 have e:hi same (m+1)=hi same m:=by rw[Ap,if_neg (by rw[aw];exact Bool.false_ne_true),append_nil]
 exact⟨h.size,by rw[e];exact h.len,λj bd=>by rw[e];exact h.low j bd,h.high,by have:=h.lt;omega,by omega⟩
theorem lM.keep {same:Nat->Nat->Bool} {n m dA:Nat} {dk:Array Nat} (h:lM same n m dA dk) (hm:m<n) (aw:ko same m=true):lM same n (m+1) (dA+1) (dk.setIfInBounds dA m):=by
 have c9:=h.lt;have U:=h.size;have e:hi same (m+1)=hi same m++[m]:=by rw[Ap,if_pos aw]
 have mx:∀j,j<n->(dk.setIfInBounds dA m)[j]! =if dA=j then m else dk[j]! :=λj bd=>by
  rw[getElem!_pos _ j (by simpa [U]using bd),getElem!_pos dk j (by omega),Array.getElem_setIfInBounds]
 refine⟨by simpa using U,by rw[e,length_append,h.len];rfl,λj bd=>?_,λj ab ad=>?_,by omega,by omega⟩
 .have UE:j<(hi same m++[m]).length:=by rw[length_append,h.len];exact bd
  rw[mx j (by omega),e,getElem!_pos (hi same m++[m]) j UE];by_cases zI:dA=j
  .subst zI;rw[if_pos rfl,getElem_append_right (by rw[h.len];exact Nat.le_refl _)];simp[h.len]
  .rw[if_neg zI,h.low j (by omega),getElem_append_left (by rw[h.len];omega),getElem!_pos (hi same m) j (by rw[h.len];omega)]
 .rw[mx j ad,if_neg (by omega)];exact h.high j (by omega) ad
def w2 (P:Program) (g:Nat) (enc:Nat->Value) (same:Nat->Nat->Bool) (b n:Nat) (w:World):Prop:=
 ∀(m:Nat) (os:Array Obj) (dk:Array Nat),dk.size=n->∀x y:Nat,x<n->y<n->
  Calls P g (#[enc x,enc y]++ #[]) (sortWorld enc w b 0 m dk os) λe aB=>e= .returned (.bool (same x y))/\∃q w3,aB=grow ((sortWorld enc w b 0 m dk os).drewN q) w3
theorem SW.Mh {P:Program} {enc:Nat->Value} {w0 W:World} {b n:Nat} {dk:Array Nat} {g:Nat} {same:Nat->Nat->Bool} (h:SW enc w0 b 0 dk W) (bh:w2 P g enc same b n w0) (U:dk.size=n) (x y:Nat) (ar:x<n) (a8:y<n) (q:Nat) (os:Array Obj):
  Calls P g (#[enc x,enc y]++ #[]) (grow (W.drewN q) os) λe aB=>e= .returned (.bool (same x y))/\∃ij w3,aB=grow ((grow (W.drewN q) os).drewN ij) w3:=by
 obtain⟨m,UF,hw⟩:=h.grown q os;rw[hw];exact bh m UF dk U x y ar a8
theorem UG {α:Type} {e:α->I} {k:Nat} (he:∀x,(e x).wd=k) {w:World} {F X:Nat->Prop} {S:Nat->Nat->Prop} {s:ax} {aC:Nat->Value} (h:bs w F X F S s aC w)
  {b cap n:Nat} {cur A:Array Value} {hD:TypeId} {fr:Nat×Nat} {ys:List α} (br:S 0 b) (R:w.heap[b]? =some (.cells cur hD fr)) (sI:kt fr (cur.size+(k-1))) (tA:cur.size=cap*k) (mA:ys.length<=cap) (hm:cap<=maxLen)
  (i6:ys.length*k<=A.size) (ag0:A.size<=cur.size) {ue:Nat->Prop} (Mi:∀c,ue c->S 0 c) (Mj:¬ue b) (e_:aV w F (ys.map e) (A.toList.take (ys.length*k)) ue) {os:Array Obj} {aB:World} (hw:aB=Sort.grow (putRow id (Sort.ahead w n) b 0 A) os) {aD:ax} {hb:Nat->Value} {t:Nat}
  (aY:aD t= .al k (ys.map e)) (aH:hb t= .slice (some ⟨b,0,none⟩) ys.length cap) (bx:∀u,u≠t->aD u= .hole\/(aD u= .tuple []/\hb u= .tuple #[])):
  bs w F X F (λu c=>u=t/\(c=b\/ue c)) aD hb aB:=by
 have lk:∀c,(c=b\/ue c)->S 0 c:=λc aj=>aj.elim (λe=>e▸br) (Mi c);have Mk:=h.dW 0 b br;have dP:(putRow id (Sort.ahead w n) b 0 A).heap.size=w.heap.size:=Sort.size_putRow ..;have EI:w.heap.size<=aB.heap.size:=by rw[hw,size_grow,dP];omega
 have k8:∀c,c<w.heap.size->c≠b->aB.heap[c]? =w.heap[c]? :=by
  intro c aj cw;rw[hw,EF _ _ (by rw[dP];exact aj)];simp only[putRow,mapBlock,Array.getElem?_modify,if_neg (Ne.symm cw)];rfl
 have wb:aB.heap[b]? =some (.cells (putCells id 0 A cur) hD fr):=by
  rw[hw,EF _ _ (by rw[dP];exact Mk)];simp only[putRow,mapBlock,Array.getElem?_modify,if_true];rw[show(Sort.ahead w n).heap=w.heap from rfl,R];rfl
 have hle:ys.length*k<=cur.size:=by rw[tA];exact mul_le_mul_right _ mA
 have jh:(putCells id 0 A cur).toList.take (ys.length*k)=A.toList.take (ys.length*k):=by
  apply ext_getElem?;intro j;simp only[putCells,getElem?_take,Array.getElem?_toList,Array.getElem?_mapIdx];by_cases bd:j<ys.length*k
  .rw[if_pos bd,if_pos bd,Array.getElem?_eq_getElem (by omega),Array.getElem?_eq_getElem (show j<A.size by omega)];simp only[map_some];rw[if_pos (by omega)];simp only[Nat.sub_zero,id];rw[getElem!_pos _ j (by omega)]
  .rw[if_neg bd,if_neg bd]
 exact {
  gx:=λ_ h=>h
  gJ:=λb bc=>.inl bc
  eH:=λc aj=>Nat.lt_of_lt_of_le (h.eH c aj) EI
  dW:=λu c aj=>Nat.lt_of_lt_of_le (h.dW 0 c (lk c aj.2)) EI
  e8:=λu c aj bc=>h.e8 0 c (lk c aj.2) bc
  eZ:=λu x c cw hu ar=>cw (hu.1.trans ar.1.symm)
  dh:=λu c aj=>h.dh 0 c (lk c aj.2)
  df:=λu=>by
   by_cases hu:u=t
   .subst hu;rw[aY,aH];refine(aG.ca rfl).2 ⟨rfl,?_⟩;rw[aq];right;refine⟨b,cap,_,hD,fr,ue,?_,⟨rfl,.inl rfl⟩,wb,?_,?_,hm,?_,?_,?_,λ_ h=>⟨rfl,.inr h⟩,Mj⟩
    .simp[b9,hU]
    .simpa [putCells]using sI
    .simpa using mA
    .simpa [putCells]using tA
    .intro d ag;obtain⟨x,_,rfl⟩:=mem_map.1 ag;exact he x
    .rw[length_map,jh];exact aV.frame (λc aj=>k8 c (h.eH c aj) (λe=>h.e8 0 b br (e▸aj))) _ _ _ (λc aj=>k8 c (h.dW 0 c (Mi c aj)) (λe=>Mj (e▸aj))) e_
   .rcases bx u hu with ab|⟨ab,ad⟩
    .rw[ab,aG];trivial
    .rw[ab,ad];refine(aG.ca rfl).2 ⟨⟨#[],rfl,rfl,λk d x ag=>by simp at ag⟩,?_⟩;rw[aq,aV];rfl
  old:=λc aj ji=>k8 c aj (λqP=>by
   rcases h.dh 0 b br with ab|ab
   .exact ji (qP▸ab)
   .omega)
  size:=EI
  os:=by rw[hw];rfl
  tape:=by rw[hw];rfl
  output:=by rw[hw];exact⟨rfl,λ_=>le_add_right _ _⟩
  gy:=h.gy}
theorem Ml (enc:Nat->Value):∀l:aiA,(l.flatMap λi=>[enc i])=l.map enc
 |[]=>rfl
 |x::l=>by rw[flatMap_cons,Ml enc l];rfl
theorem Mm {α β:Type} {f g:α->Option β}:∀{l:List α},(∀i∈l,f i=g i)->l.filterMap f=l.filterMap g
 |[],_=>rfl
 |x::l,h=>by rw[filterMap_cons,filterMap_cons,h x (by simp),Mm λi ak=>h i (mem_cons_of_mem _ ak)]
theorem EJ (enc:Nat->Value) (w:World) (b:Nat) (d:Array Nat):putRow enc w b 0 d=putRow id w b 0 (d.map enc):=by
 unfold putRow;congr 1;funext cur;unfold putCells;apply Array.ext_getElem?;intro j;simp only[Array.getElem?_mapIdx,Array.size_map];congr 1;funext v;by_cases h:0<=j/\j<0+d.size
 .rw[if_pos h,if_pos h];simp only[Nat.sub_zero,id];rw[getElem!_pos _ j (by omega),getElem!_pos _ j (by simp;omega)];simp
 .rw[if_neg h,if_neg h]
theorem UH {C:bY} (ob:qN=true) {g:FuncId} (EG:∀args w,(callFunc g args).run C.P w= .ok (.enter g args) w) {aa:aiF} {vs:aiD} {w:World} {F:Nat->Prop} (bc:∀b,F b->b<w.heap.size) (hlen:vs.length=aa.length)
  (hW:∀(i:Nat) (a:I) (v:Value),aa[i]? =some a->vs[i]? =some v->a.tree=true/\dd a v/\aq w F a (b9 v) (λ_=>False)) {r:I} {u:Value} (ns:r.tree=true) (hu:∀aB bF v aL,dd r v->aq aB bF r (b9 v) aL->v=u) (bx:aW C g aa r []) (EK:CK=[]:=by rfl):
  ∀W:World,(∀b,F b->W.heap[b]? =w.heap[b]?)->w.heap.size<=W.heap.size->Calls C.P g vs.toArray W λe aB=>e= .returned u/\∃q os,aB=grow (W.drewN q) os:=by
 intro W uf dP;have hrel:bs W F (λ_=>False) F (λ_ _=>False) (eA aa) (fI vs) W:={
  gx:=λ_ h=>h
  gJ:=λ_ h=>.inl h
  eH:=λb h=>Nat.lt_of_lt_of_le (bc b h) dP
  dW:=λ_ _ h=>h.elim
  e8:=λ_ _ h=>h.elim
  eZ:=λ_ _ _ _ h=>h.elim
  dh:=λ_ _ h=>h.elim
  df:=λt=>by
   by_cases aY:t<aa.length
   .have aN:aa[t]? =some aa[t]:=getElem?_eq_getElem aY;have aR:vs[t]? =some (vs[t]'(by omega)):=getElem?_eq_getElem (by omega);obtain⟨g1,g2,g3⟩:=hW t _ _ aN aR;have aS:eA aa t=aa[t]:=by simp[eA,List.getD,aN]
    have b0:fI vs t=vs[t]'(by omega):=by simp[fI,List.getD,aR]
    rw[aS,b0];exact(aG.ca g1).2 ⟨g2,aq.frame uf _ _ _ (λ_ h=>h.elim) g3⟩
   .have aS:eA aa t= .hole:=by simp[eA,List.getD,getElem?_eq_none (show aa.length<=t by omega)]
    rw[aS,aG];trivial
  old:=λ_ _ _=>rfl
  size:=Nat.le_refl _
  os:=rfl
  tape:=rfl
  output:=Out.refl _
  gy:=λp h=>absurd h (by rw[EK];exact not_mem_nil)}
 rcases bx W F (λ_=>False) (λ_ _=>False) vs hlen hrel with⟨_,aj⟩|⟨v,aB,ab,_⟩
 .refine aj.mono ?_;rintro e aB ⟨v,rfl,bF,aL,aK⟩;have aH:=(aG.ca ns).1 (aK.df 0);have UI:v=u:=hu _ _ _ _ aH.1 aH.2;subst UI;exact⟨rfl,Uz (λb R=>aK.old b R (λh=>h)) aK.size aK.os aK.tape aK.output.1 (aK.output.2 ob)⟩
 .rw[EG]at ab;cases ab
structure l_ {α:Type} (w:World) (F X:Nat->Prop) (S:Nat->Nat->Prop) (e:α->I) (xs:List α) (b cap:Nat) (cur:Array Value) (hD:TypeId) (fr:Nat×Nat) (T:Nat->Nat->Prop) (enc:Nat->Value):Prop where
 br:S 0 b
 R:w.heap[b]? =some (.cells cur hD fr)
 sI:kt fr cur.size
 rm:xs.length<=cap
 hm:cap<=maxLen
 gb:cur.size=cap
 ug:∀i c,T i c->S 0 c
 EL:∀i,¬T i b
 Aq:∀i j c,i≠j->T i c->¬T j c
 e_:∀i (ak:i<xs.length),aq w F (e xs[i]) [enc i] (T i)
 nM:∀i,i<xs.length->cur[i]? =some (enc i)
 oT:∀i,i<xs.length->Value.oneCell' (enc i)=true
 bO:∀i,xs.length<=i->enc i= .slice none 0 0
theorem Mn {α:Type} {e:α->I} (he:∀x,(e x).wd=1) {w:World} {F X:Nat->Prop} {S:Nat->Nat->Prop} {s:ax} {aC:Nat->Value} (aK:bs w F X F S s aC w) {xs:List α} (a7:s 0= .al 1 (xs.map e)):
  (xs=[]/\∃a,aC 0= .slice a 0 0)\/∃b cap cur hD fr T enc,aC 0= .slice (some ⟨b,0,none⟩) xs.length cap/\l_ w F X S e xs b cap cur hD fr T enc:=by
 have jn:=aK.df 0;rw[a7]at jn;rcases UB jn with⟨ar,a,aH⟩|⟨b,cap,cur,hD,fr,aL,aH,br,R,sI,rm,hm,gb,e_,UJ,UK⟩
 .exact .inl ⟨by simpa using ar,a,aH⟩
 .rw[length_map]at aH rm e_;obtain⟨hlen,T,nM,ug,Aq⟩:=Mf he xs _ _ e_;simp only[Nat.mul_one]at hlen nM gb;have w4:∀i,i<xs.length->((cur.toList.take xs.length).drop i).take 1=[cur[i]!]:=λi ak=>by
   have ab:i<cur.size:=by omega
   rw[getElem!_pos cur i ab];apply ext_getElem?;intro j;rw[getElem?_take,getElem?_drop,getElem?_take];by_cases bd:j<1
   .have:j=0:=by omega
    subst this;rw[if_pos (by omega),if_pos (by omega)];simp[ab]
   .rw[if_neg bd,getElem?_eq_none (by simp;omega)]
  refine .inr ⟨b,cap,cur,hD,fr,T,λi=>if i<xs.length then cur[i]! else .slice none 0 0,aH,{br:=br,R:=R,sI:=sI.low,rm:=rm,hm:=hm,gb:=gb,ug:=λi c aj=>UJ c (ug i c aj),EL:=λi aj=>UK (ug i b aj),Aq:=Aq,e_:=λi ak=>?_,nM:=λi ak=>?_,oT:=λi ak=>?_,bO:=λi ak=>if_neg (by omega)}⟩
  .have:=nM i ak;rw[w4 i ak]at this;rw[if_pos ak];exact this
  .rw[if_pos ak,getElem!_pos cur i (by omega)];exact Array.getElem?_eq_getElem (by omega)
  .have:=nM i ak;rw[w4 i ak]at this;rw[if_pos ak];exact UA (aq.pU _ _ _ this _ (mem_singleton.2 rfl))
section
variable {α:Type} {e:α->I} {w:World} {F X:Nat->Prop} {S:Nat->Nat->Prop} {s:ax} {aC:Nat->Value} {xs:List α} {b cap:Nat} {cur:Array Value} {hD:TypeId} {fr:Nat×Nat} {T:Nat->Nat->Prop} {enc:Nat->Value}
theorem l_.holds (h:l_ w F X S e xs b cap cur hD fr T enc):Holds enc w b 0 (Array.range xs.length):=by
 intro j bd;have uh:j<xs.length:=by simpa using bd
 rw[rl _ _ uh];refine⟨?_,?_⟩
 .simp only[World.cell?,h.R,Nat.zero_add];exact h.nM j uh
 .simp only[World.frozen?,h.R,Nat.zero_add];have:=h.sI j (by rw[h.gb];have:=h.rm;omega);simpa using this
theorem l_.Mo (h:l_ w F X S e xs b cap cur hD fr T enc):OneCell enc:=λi=>by
 by_cases ak:i<xs.length
 .exact h.oT i ak
 .rw[h.bO i (by omega)];rfl
theorem l_.call (aK:bs w F X F S s aC w) (h:l_ w F X S e xs b cap cur hD fr T enc) (n9:∀x,∃l,(e x).share= .slice l) {C:bY} (ob:qN=true) {g:FuncId} (w5:∀args w,(callFunc g args).run C.P w= .ok (.enter g args) w)
  {r:I} {u:Value} (ns:r.tree=true) (hu:∀aB bF v aL,dd r v->aq aB bF r (b9 v) aL->v=u) (x y:Nat) (ar:x<xs.length) (a8:y<xs.length) (bx:aW C g [(e xs[x]).share,(e xs[y]).share] r []) (EK:CK=[]:=by rfl) (w6:Nat->Value) (m:Nat) (os:Array Obj) (dk:Array Nat):
  Calls C.P g #[enc x,enc y] (sortWorld w6 w b 0 m dk os) λex aB=>ex= .returned u/\∃q w3,aB=grow ((sortWorld w6 w b 0 m dk os).drewN q) w3:=by
 have Mk:=aK.dW 0 b h.br;have UL:¬F b:=aK.e8 0 b h.br;have Mp:∀c,(F c\/∃i,T i c)->c<w.heap.size:=λc aj=>aj.elim (aK.eH c) (λ⟨i,ad⟩=>aK.dW 0 c (h.ug i c ad));have kO:∀i (ak:i<xs.length),(e xs[i]).share.tree=true/\dd (e xs[i]).share (enc i)/\aq w (λc=>F c\/∃i,T i c) (e xs[i]).share (b9 (enc i)) (λ_=>False):=λi ak=>by
  obtain⟨l,aO⟩:=n9 xs[i];have Mq:aq w (λc=>F c\/∃i,T i c) (e xs[i]).share [enc i] (λ_=>False):=aq.shared (λc h=>.inl h) _ _ _ (λc aj=>.inr ⟨i,aj⟩) (h.e_ i ak);have oT:Value.fw (enc i)=true:=aq.pU _ _ _ (h.e_ i ak) _ (mem_singleton.2 rfl);rw[ga oT];rw[aO]at Mq⊢;exact⟨rfl,oT,Mq⟩
 have uf:=UH ob w5 (aa:=[(e xs[x]).share,(e xs[y]).share]) (vs:=[enc x,enc y]) (w:=w) (F:=λc=>F c\/∃i,T i c) Mp rfl (λi a v bU aH=>by
  rcases i with _|_|i
  .simp only[getElem?_cons_zero,some.injEq]at bU aH;subst bU aH;exact kO x ar
  .simp only[getElem?_cons_succ,getElem?_cons_zero,some.injEq]at bU aH;subst bU aH;exact kO y a8
  .simp at bU) ns hu bx EK (sortWorld w6 w b 0 m dk os) (λc aj=>by
   have w4:=Mp c aj;have cw:c≠b:=λaA=>aj.elim (λad=>UL (aA▸ad)) (λ⟨i,ad⟩=>h.EL i (aA▸ad));unfold sortWorld;rw[EF _ _ (by rw[show(putRow w6 (Sort.ahead w m) b 0 dk).heap.size=w.heap.size from Sort.size_putRow ..];exact w4)];simp only[putRow,mapBlock,Array.getElem?_modify,if_neg (Ne.symm cw)];rfl) (by
   unfold sortWorld;rw[size_grow,show(putRow w6 (Sort.ahead w m) b 0 dk).heap.size=w.heap.size from Sort.size_putRow ..];omega)
 exact uf
theorem l_.after (he:∀x,(e x).wd=1) (aK:bs w F X F S s aC w) (h:l_ w F X S e xs b cap cur hD fr T enc) {ps:aiA} (au:∀i∈ps,i<xs.length) (aP:ps.Nodup) {dk:Array Nat} (EM:ps.length<=dk.size) (gR:dk.size<=xs.length) (ag:∀j (bd:j<ps.length),dk[j]! =ps[j])
  {ys:List α} (mA:ys=ps.filterMap λi=>xs[i]?) {n:Nat} {os:Array Obj} {aB:World} (hw:aB=sortWorld enc w b 0 n dk os) {aD:ax} {hb:Nat->Value} {t:Nat}
  (aY:aD t= .al 1 (ys.map e)) (aH:hb t= .slice (some ⟨b,0,none⟩) ys.length cap) (bx:∀u,u≠t->aD u= .hole\/(aD u= .tuple []/\hb u= .tuple #[])):
  ∃aL,bs w F X F aL aD hb aB:=by
 have hlen:ys.length=ps.length:=by
  rw[mA];clear mA ag EM aP;induction ps with
  |nil=>rfl
  |cons i ps ih=>
   have:=au i (by simp);rw[filterMap_cons,getElem?_eq_getElem this];simp[ih (λj bd=>au j (mem_cons_of_mem _ bd))]
 have UM:ys.map e=ps.map λi=>((xs[i]?).map e).getD .hole:=by
  rw[mA];clear mA ag EM aP hlen;induction ps with
  |nil=>rfl
  |cons i ps ih=>
   have:=au i (by simp);rw[filterMap_cons,getElem?_eq_getElem this];simp only[map_cons];rw[ih (λj bd=>au j (mem_cons_of_mem _ bd)),getElem?_eq_getElem this];rfl
 have UN:aV w F (ys.map e) (((dk.map enc).toList).take (ys.length*1)) (λc=>∃i∈ps,T i c):=by
  have ab:((dk.map enc).toList).take (ys.length*1)=ps.flatMap λi=>[enc i]:=by
   rw[Nat.mul_one,hlen];apply ext_getElem?;intro j;rw[getElem?_take,Ml];by_cases bd:j<ps.length
   .rw[if_pos bd,getElem?_map,getElem?_eq_getElem bd,Array.getElem?_toList,Array.getElem?_map,Array.getElem?_eq_getElem (by omega)];have:=ag j bd;rw[getElem!_pos dk j (by omega)]at this;simp[this]
   .rw[if_neg bd,getElem?_map,getElem?_eq_none (by omega)];rfl
  rw[ab,UM];refine Mg (e:=λi=>((xs[i]?).map e).getD .hole) (T:=T) (λi=>[enc i]) h.Aq ps aP (λi ak=>?_);have:=au i ak;simp only[getElem?_eq_getElem this,map_some,getD_some];exact h.e_ i this
 have UO:kt fr (cur.size+(1-1)):=h.sI;exact⟨_,UG he aK h.br h.R UO (by rw[h.gb,Nat.mul_one]) (by have:=h.rm;omega) h.hm (by simp;omega) (by have:=h.rm;have:=h.gb;simp;omega) (λc ⟨i,_,aj⟩=>h.ug i c aj) (λ⟨i,_,aj⟩=>h.EL i aj) UN (n:=n) (os:=os) (by rw[hw,sortWorld,EJ]) aY aH bx⟩
end
theorem Mr {w:World} {F:Nat->Prop} {s:ax} {aC:Nat->Value} {g:FuncId} {v:Value} {S:Nat->Prop} (h:aG w F s aC (.fn g []) v S):v= .func (.func g) #[] #[]:=by
 rw[aG]at h;obtain⟨arr,bU,R⟩:=h;rw[bU];cases aO:arr.toList with
 |nil=>rw[show arr= #[]from Array.toList_inj.1 (by simpa using aO)]
 |cons x r=>rw[aO,ee]at R;cases R
theorem aW.UP {C:bY} (ob:qN=true) {f g:FuncId} (w7:∀args w,(callFunc f args).run C.P w= .ok (.enter f args) w) (w5:∀args w,(callFunc g args).run C.P w= .ok (.enter g args) w)
  {α:Type} {e:α->I} (he:∀x,(e x).wd=1) (n9:∀x,∃l,(e x).share= .slice l) (rn:α->α->Int) (bx:∀x y,aW C g [(e x).share,(e y).share] (.int .i64 (rn x y)) []) (hO:SWO λx y=>decide (rn x y<0))
  (xs ys:List α) (cw:xs≠[]) (aP:xs.length<4611686018427387904) (hu:∀dS:List α,dS.Perm xs->dS.Pairwise (λa b=>0<=rn b a)->dS=ys)
  (ab:∀(enc:Nat->Value),OneCell enc->∀(w8:Nat->Nat->Int),SWO (λx y=>decide (w8 x y<0))->∀(w:World) (b cap:Nat) (d:Array Nat),CmpLays1 C.P g #[] enc w8 b 0 d.size w->
   Holds enc w b 0 d->b<w.heap.size->d.size<4611686018427387904->
   Calls C.P f #[.slice (some ⟨b,0,none⟩) d.size cap,.func (.func g) #[] #[]] w λex aB=>ex= .returned (.tuple #[])/\∃a6 n os,PermIn 0 d.size d a6/\SortedIn (λx y=>decide (w8 x y<0)) 0 d.size a6/\aB=sortWorld enc w b 0 n a6 os):
  aW C f [.al 1 (xs.map e),.fn g []] (.tuple []) [.al 1 (ys.map e),.hole]:=by
 intro w F X S vs tD aK;obtain⟨v,v1,rfl⟩:∃v v1,vs=[v,v1]:=by
  match vs,tD with
  |[v,v1],_=>exact⟨v,v1,rfl⟩
 have sE:v1= .func (.func g) #[] #[]:=Mr (aK.df 1);subst sE;have Tc:0<xs.length:=length_pos_iff.2 cw;rcases Mn he aK (xs:=xs) rfl with⟨ar,_⟩|⟨b,cap,cur,hD,fr,T,enc,aH,gd⟩
 .exact(cw ar).elim
 have aH:v= .slice (some ⟨b,0,none⟩) xs.length cap:=aH;subst aH;let oc:Nat->Nat:=λi=>if i<xs.length then i else 0
 have EN:∀i,oc i<xs.length:=λi=>by
  show(if i<xs.length then i else 0)<xs.length;split<;>omega
 have Ms:∀i,i<xs.length->oc i=i:=λi ak=>if_pos ak;let lN:Nat->α:=λi=>xs[oc i]'(EN i)
 have hH:Holds (λi=>enc (oc i)) w b 0 (Array.range xs.length):=by
  intro j bd;have:=gd.holds j bd;rw[rl _ _ (by simpa using bd)]at this⊢;simp only;rw[Ms j (by simpa using bd)];exact this
 have pf:CmpLays1 C.P g #[] (λi=>enc (oc i)) (λx y=>rn (lN x) (lN y)) b 0 (Array.range xs.length).size w:=by
  intro m os dk _ x y;have:=l_.call aK gd n9 ob w5 (r:=.int .i64 (rn (lN x) (lN y))) (u:=.int .i64 (rn (lN x) (lN y))) rfl (λaB bF v aL ab ad=>by
   rw[ga ab,aq]at ad;simpa using ad) (oc x) (oc y) (EN x) (EN y) (bx (lN x) (lN y)) rfl (λi=>enc (oc i)) m os dk
  simpa using this
 have UQ:SWO λx y=>decide (rn (lN x) (lN y)<0):=⟨λx=>hO.irrefl _,λx y z=>hO.trans _ _ _,λx y z=>hO.ntrans _ _ _⟩
 have tK:=ab (λi=>enc (oc i)) (λi=>gd.Mo (oc i)) (λx y=>rn (lN x) (lN y)) UQ w b cap (Array.range xs.length) pf hH (aK.dW 0 b gd.br) (by simpa using aP);simp only[Array.size_range]at tK;refine .inl ⟨w7 _ _,tK.mono ?_⟩;rintro ex aB ⟨rfl,a6,n,os,au,U,hw⟩;obtain⟨UR,tt,US⟩:=au;have gG:a6.size=xs.length:=by simpa using UR
 have EO:a6.toList.Perm (range xs.length):=by
  have:=US;rw[show a6.extract 0 xs.length=a6 by rw[<-gG];simp,show(Array.range xs.length).extract 0 xs.length=Array.range xs.length by simp]at this;simpa using this
 have pe:∀i∈a6.toList,i<xs.length:=λi ak=>mem_range.1 (EO.mem_iff.1 ak);have Mt:a6.toList.map lN=ys:=by
  refine hu _ ?_ ?_
  .have ad:=EO.map lN;have aA:(range xs.length).map lN=xs:=by
    apply ext_getElem?;intro i;by_cases ak:i<xs.length
    .rw[getElem?_map,getElem?_range ak,getElem?_eq_getElem ak];simp only[map_some,some.injEq];show xs[if i<xs.length then i else 0]'_=xs[i];congr 1;rw[if_pos ak]
    .rw[getElem?_eq_none (by simp;omega),getElem?_eq_none (by omega)]
   rw[aA]at ad;exact ad
  .rw[pairwise_iff_getElem];intro i j ak bd qc;have tG:i<a6.size:=by simpa using ak
   have uh:j<a6.size:=by simpa using bd
   have:=U i j (zero_le _) qc (by omega);rw[getElem!_pos a6 i tG,getElem!_pos a6 j uh]at this;simp only[getElem_map,Array.getElem_toList];simpa using this
 have mA:ys=a6.toList.filterMap λi=>xs[i]? :=by
  rw[<-Mt,<-filterMap_eq_map];refine Mm λi ak=>?_;have c9:=pe i ak;rw[getElem?_eq_getElem c9];show some (xs[if i<xs.length then i else 0]'_)=some xs[i];congr 2;exact if_pos c9
 have UT:ys.length=xs.length:=by rw[<-Mt];simpa using gG
 have UU:sortWorld (λi=>enc (oc i)) w b 0 n a6 os=sortWorld enc w b 0 n a6 os:=by
  unfold sortWorld;rw[EJ,EJ];congr 2;apply Array.ext
  .simp
  .intro i ab ad;have ak:i<a6.size:=by simpa using ab
   simp only[Array.getElem_map];rw[Ms _ (pe _ (by simp))]
 obtain⟨aL,w9⟩:=l_.after he aK gd (ps:=a6.toList) pe (EO.nodup_iff.2 nodup_range) (dk:=a6) (by simp) (by omega) (λj bd=>by
  rw[getElem!_pos a6 j (by simpa using bd)];simp) mA (n:=n) (os:=os) (aB:=aB) (by rw[hw,UU]) (aD:=eA [.tuple [],.al 1 (ys.map e),.hole]) (hb:=fI [.tuple #[],.slice (some ⟨b,0,none⟩) xs.length cap,.func (.func g) #[] #[]]) (t:=1) rfl (by show Value.slice _ _ _=_;rw[UT]) (λu hu=>by
  rcases u with _|_|u
  .exact .inr ⟨rfl,rfl⟩
  .exact(hu rfl).elim
  .refine .inl ?_;cases u<;>rfl)
 exact⟨_,rfl,F,aL,w9⟩
def od {α:Type} (eq:α->α->Bool) (p:α):List α->List α
 |[]=>[]
 |x::l=>if eq x p=true then od eq x l else x::od eq x l
def hX {α:Type} (eq:α->α->Bool):List α->List α
 |[]=>[]
 |x::l=>x::od eq x l
theorem Mu {α:Type} (eq:α->α->Bool):∀(l:List α) (p x:α),od eq p (l++[x])=od eq p l++if eq x ((p::l).getLast (cons_ne_nil _ _))=true then []else [x]
 |[],p,x=>by
  simp only[nil_append,od,getLast_singleton];by_cases h:eq x p=true<;>simp[h]
 |y::l,p,x=>by
  rw[cons_append,od,od,Mu eq l y x,getLast_cons (cons_ne_nil _ _)];by_cases h:eq y p=true
  .rw[if_pos h,if_pos h]
  .rw[if_neg h,if_neg h];rfl
theorem UW {α:Type} (eq:α->α->Bool) (l:List α) (x:α) (aO:l≠[]):hX eq (l++[x])=hX eq l++if eq x (l.getLast aO)=true then []else [x]:=by
 cases l with
 |nil=>exact(aO rfl).elim
 |cons y l=>rw[cons_append,hX,hX,Mu];rfl
theorem Mv {α:Type} (eq:α->α->Bool) (xs:List α) (same:Nat->Nat->Bool) (U:∀i j (ak:i<xs.length) (bd:j<xs.length),same i j=eq xs[i] xs[j]):∀m,m<=xs.length->(hi same m).filterMap (λi=>xs[i]?)=hX eq (xs.take m)
 |0,_=>by simp[hi,hX]
 |m+1,h=>by
  have c9:m<xs.length:=h;rw[Ap,filterMap_append,Mv eq xs same U m (by omega),take_succ_eq_append_getElem c9];by_cases a7:m=0
  .subst a7;have:ko same 0=true:=rfl;rw[if_pos this];simp[hX,od,getElem?_eq_getElem c9]
  .have cw:xs.take m≠[]:=λe=>by
    have:=congrArg length e;rw[length_take,length_nil]at this;omega
   rw[UW eq _ _ cw];congr 1;have UX:(xs.take m).getLast cw=xs[m-1]:=by
    rw[getLast_eq_getElem];simp only[length_take,getElem_take];congr 1;omega
   rw[UX];have aw:ko same m= !eq xs[m] xs[m-1]:=by
    unfold ko;rw[U m (m-1) c9 (by omega),show(m==0)=false from by simpa using a7,Bool.false_or]
   rw[aw];cases eq xs[m] xs[m-1]<;>simp[getElem?_eq_getElem c9]
theorem aW.UY {C:bY} (ob:qN=true) {f g:FuncId} (w7:∀args w,(callFunc f args).run C.P w= .ok (.enter f args) w) (w5:∀args w,(callFunc g args).run C.P w= .ok (.enter g args) w)
  {α:Type} {e:α->I} (he:∀x,(e x).wd=1) (n9:∀x,∃l,(e x).share= .slice l) (lO:α->α->Bool) (bx:∀x y,aW C g [(e x).share,(e y).share] (.bool (lO x y)) [])
  (xs:List α) (aP:xs.length<=4611686018427387904)
  (a7:∀(a:Option Addr) (n cap:Nat) (w:World),n<2->Calls C.P f #[.slice a n cap,.func (.func g) #[] #[]] w λex aB=>ex= .returned (.slice a n cap)/\aB=w)
  (ab:∀(enc:Nat->Value),OneCell enc->∀(same:Nat->Nat->Bool) (w:World) (b n cap:Nat),w2 C.P g enc same b n w->Holds enc w b 0 (Array.range n)->b<w.heap.size->n<=4611686018427387904->n<=cap->cap<=9223372036854775807->enc n= .slice none 0 0->2<=n->
   Calls C.P f #[.slice (some ⟨b,0,none⟩) n cap,.func (.func g) #[] #[]] w λex aB=>ex= .returned (.slice (some ⟨b,0,none⟩) (hi same n).length cap)/\
    ∃dk,dk.size=n/\(∀j,j<(hi same n).length->dk[j]! =(hi same n)[j]!)/\SW enc w b 0 dk aB):
  aW C f [.al 1 (xs.map e),.fn g []] (.al 1 ((hX lO xs).map e)) [.hole,.hole]:=by
 intro w F X S vs tD aK;obtain⟨v,v1,rfl⟩:∃v v1,vs=[v,v1]:=by
  match vs,tD with
  |[v,v1],_=>exact⟨v,v1,rfl⟩
 have sE:v1= .func (.func g) #[] #[]:=Mr (aK.df 1);subst sE;have Mw:xs.length<2->hX lO xs=xs:=λh=>by
  match xs,h with
  |[],_=>rfl
  |[x],_=>rfl
 rcases Mn he aK (xs:=xs) rfl with⟨ar,a,aH⟩|⟨b,cap,cur,hD,fr,T,enc,aH,gd⟩
 .have aH:v= .slice a 0 0:=aH;subst aH;subst ar;refine .inl ⟨w7 _ _,(a7 a 0 0 w (by omega)).mono ?_⟩;rintro ex aB ⟨rfl,rfl⟩;refine⟨_,rfl,F,λ_ _=>False,{gx:=aK.gx,gJ:=aK.gJ,eH:=aK.eH,dW:=λ_ _ h=>h.elim,e8:=λ_ _ h=>h.elim,eZ:=λ_ _ _ _ h=>h.elim,dh:=λ_ _ h=>h.elim,df:=λt=>?_,old:=aK.old,size:=aK.size,os:=aK.os,tape:=aK.tape,output:=aK.output,gy:=aK.gy}⟩;rcases t with _|_|_|t
  .refine(aG.ca rfl).2 ⟨rfl,?_⟩;show aq _ _ (.al 1 []) _ _;rw[aq];exact .inl ⟨rfl,a,rfl⟩
  .show aG _ _ _ _ .hole _ _;rw[aG];trivial
  .show aG _ _ _ _ .hole _ _;rw[aG];trivial
  .have:eA [.al 1 ((hX lO ([]:List α)).map e),.hole,.hole] (t+1+1+1)= .hole:=by cases t<;>rfl
   rw[this,aG];trivial
 have aH:v= .slice (some ⟨b,0,none⟩) xs.length cap:=aH;subst aH;have Mx:∀u,u≠0->eA [.al 1 ((hX lO xs).map e),.hole,.hole] u= .hole:=λu hu=>by
  rcases u with _|_|_|u
  .exact(hu rfl).elim
  .rfl
  .rfl
  .cases u<;>rfl
 by_cases ad:xs.length<2
 .refine .inl ⟨w7 _ _,(a7 _ _ cap w ad).mono ?_⟩;rintro ex aB ⟨rfl,rfl⟩;obtain⟨aL,w9⟩:=l_.after he aK gd (ps:=range xs.length) (λi ak=>mem_range.1 ak) nodup_range (dk:=Array.range xs.length) (by simp) (by simp) (λj bd=>by
   have uh:j<xs.length:=by simpa using bd
   rw[rl _ _ uh];simp) (ys:=hX lO xs) (by
   rw[Mw ad];have:∀m,m<=xs.length->(range m).filterMap (λi=>xs[i]?)=xs.take m:=λm hm=>by
    induction m with
    |zero=>rfl
    |succ m ih=>rw[range_succ,filterMap_append,ih (by omega),take_succ_eq_append_getElem (by omega)];simp[getElem?_eq_getElem (show m<xs.length by omega)]
   rw[this _ (Nat.le_refl _),take_length]) (n:=0) (os:= #[]) (aB:=aB) (by
   rw[sortWorld,grow_empty];exact(putRow_self enc aB b 0 _ gd.holds).symm) (aD:=eA [.al 1 ((hX lO xs).map e),.hole,.hole]) (hb:=fI [.slice (some ⟨b,0,none⟩) xs.length cap,.slice (some ⟨b,0,none⟩) xs.length cap,.func (.func g) #[] #[]]) (t:=0) rfl (by rw[Mw ad];rfl) (λu hu=>.inl (Mx u hu))
  exact⟨_,rfl,F,aL,w9⟩
 have ag1:∀i,i<xs.length->True:=λ_ _=>trivial;let same:Nat->Nat->Bool:=λi j=>if h:i<xs.length/\j<xs.length then lO xs[i] xs[j]else false
 have My:∀i j (ak:i<xs.length) (bd:j<xs.length),same i j=lO xs[i] xs[j]:=λi j ak bd=>dif_pos ⟨ak,bd⟩;have pf:w2 C.P g enc same b xs.length w:=by
  intro m os dk _ x y ar a8;have:=l_.call aK gd n9 ob w5 (r:=.bool (lO xs[x] xs[y])) (u:=.bool (lO xs[x] xs[y])) rfl (λaB bF v aL ab ad=>by
   rw[ga ab,aq]at ad;simpa using ad) x y ar a8 (bx xs[x] xs[y]) rfl enc m os dk
  rw[My x y ar a8];simpa using this
 have UZ:cap<=9223372036854775807:=by have:=gd.hm;unfold maxLen at this;omega
 have EP:=Mv lO xs same My xs.length (Nat.le_refl _);rw[take_length]at EP;have Mz:∀i∈hi same xs.length,i<xs.length:=λi ak=>mem_range.1 (mem_filter.1 ak).1;have Ad:(hX lO xs).length=(hi same xs.length).length:=by
  rw[<-EP];have:∀l:aiA,(∀i∈l,i<xs.length)->(l.filterMap λi=>xs[i]?).length=l.length:=λl=>by
   induction l with
   |nil=>intro _;rfl
   |cons i l ih=>intro aO;rw[filterMap_cons,getElem?_eq_getElem (aO i (by simp))];simp[ih (λj bd=>aO j (mem_cons_of_mem _ bd))]
  exact this _ Mz
 have ag2:(hi same xs.length).length<=xs.length:=by
  have:=length_filter_le (ko same) (range xs.length);simpa [hi]using this
 refine .inl ⟨w7 _ _,(ab enc gd.Mo same w b xs.length cap pf gd.holds (aK.dW 0 b gd.br) aP gd.rm UZ (gd.bO _ (Nat.le_refl _)) (by omega)).mono ?_⟩;rintro ex aB ⟨rfl,dk,EM,gR,n,os,hw⟩;obtain⟨aL,w9⟩:=l_.after he aK gd (ps:=hi same xs.length) Mz (Pairwise.filter _ nodup_range) (dk:=dk) (by omega) (by omega) (λj bd=>by
  rw[gR j bd,getElem!_pos _ j bd]) (ys:=hX lO xs) EP.symm (n:=n) (os:=os) (aB:=aB) hw (aD:=eA [.al 1 ((hX lO xs).map e),.hole,.hole]) (hb:=fI [.slice (some ⟨b,0,none⟩) (hi same xs.length).length cap,.slice (some ⟨b,0,none⟩) xs.length cap,.func (.func g) #[] #[]]) (t:=0) rfl (by rw[Ad];rfl) (λu hu=>.inl (Mx u hu))
 exact⟨_,rfl,F,aL,w9⟩
end Go.cU
