/- Part of a proof that a law returns true for every input. No condition. -/
import Derived.Test.YtklcmlnabkfneaaGreatFwQ
import Derived.Shelf.SlSortCmp.Kit1
namespace Go.de
open List Option Go.IntKind Nat Or
open Go.Sort Go.Proofs Go.Shelf
def kW (same:Nat->Nat->Bool) (j:Nat):Bool:=j==0|| !same j (j-1)
def hR (same:Nat->Nat->Bool) (m:Nat):alR:=(range m).filter (kW same)
structure mu (same:Nat->Nat->Bool) (n m dX:Nat) (dk:Array Nat):Prop where
 size:dk.size=n
 len:(hR same m).length=dX
 low:∀j,j<dX->dk[j]! =(hR same m)[j]!
 high:∀j,dX<=j->j<n->dk[j]! =j
 lt:dX<m
 le:m<=n
theorem BT (same:Nat->Nat->Bool) (m:Nat):hR same (m+1)=hR same m++(if kW same m=true then [m]else []):=by
 unfold hR;rw[range_succ,filter_append];congr 1;by_cases h:kW same m=true
 .rw[if_pos h];simp[h]
 .rw[if_neg h];simp[h]
theorem Gt {same:Nat->Nat->Bool} {m:Nat} (h:∀j,j<m->kW same j=true):hR same m=range m:=by
 unfold hR;rw[filter_eq_self];intro j bm;exact h j (mem_range.1 bm)
theorem sn (n j:Nat) (h:j<n):(Array.range n)[j]! =j:=by
 rw[getElem!_pos (Array.range n) j (by simpa using h)];simp
theorem mu.start {same:Nat->Nat->Bool} {n k:Nat} (jv:∀j,j<k->kW same j=true) (ax:kW same k=false) (aS:k<n):mu same n (k+1) k (Array.range n):=by
 have e:hR same (k+1)=range k:=by rw[BT,if_neg (by rw[ax];exact Bool.false_ne_true),append_nil,Gt jv]
 refine⟨by simp,by rw[e];simp,λj bm=>?_,λj _ bm=>sn n j bm,by omega,by omega⟩;rw[e,sn n j (by omega),getElem!_pos (range k) j (by simpa using bm)];simp
theorem mu.skip {same:Nat->Nat->Bool} {n m dX:Nat} {dk:Array Nat} (h:mu same n m dX dk) (hm:m<n) (ax:kW same m=false):mu same n (m+1) dX dk:=by
 have e:hR same (m+1)=hR same m:=by rw[BT,if_neg (by rw[ax];exact Bool.false_ne_true),append_nil]
 exact⟨h.size,by rw[e];exact h.len,λj bm=>by rw[e];exact h.low j bm,h.high,by have:=h.lt;omega,by omega⟩
theorem mu.keep {same:Nat->Nat->Bool} {n m dX:Nat} {dk:Array Nat} (h:mu same n m dX dk) (hm:m<n) (ax:kW same m=true):mu same n (m+1) (dX+1) (dk.setIfInBounds dX m):=by
 have dv:=h.lt;have ad:=h.size;have e:hR same (m+1)=hR same m++[m]:=by rw[BT,if_pos ax]
 have nt:∀j,j<n->(dk.setIfInBounds dX m)[j]! =if dX=j then m else dk[j]! :=λj bm=>by
  rw[getElem!_pos _ j (by simpa [ad]using bm),getElem!_pos dk j (by omega),Array.getElem_setIfInBounds]
 refine⟨by simpa using ad,by rw[e,length_append,h.len];rfl,λj bm=>?_,λj ab ae=>?_,by omega,by omega⟩
 .have Xc:j<(hR same m++[m]).length:=by rw[length_append,h.len];exact bm
  rw[nt j (by omega),e,getElem!_pos (hR same m++[m]) j Xc];by_cases Bl:dX=j
  .subst Bl;rw[if_pos rfl,getElem_append_right (by rw[h.len];exact Nat.le_refl _)];simp[h.len]
  .rw[if_neg Bl,h.low j (by omega),getElem_append_left (by rw[h.len];omega),getElem!_pos (hR same m) j (by rw[h.len];omega)]
 .rw[nt j ae,if_neg (by omega)];exact h.high j (by omega) ae
def yu (P:Program) (g:Nat) (enc:Nat->Value) (same:Nat->Nat->Bool) (b n:Nat) (w:World):Prop:=
 ∀(m:Nat) (os:Array Obj) (dk:Array Nat),dk.size=n->∀x y:Nat,x<n->y<n->
  Calls P g (#[enc x,enc y]++ #[]) (sortWorld enc w b 0 m dk os) λe aF=>e= .returned (.bool (same x y))/\∃q yv,aF=grow ((sortWorld enc w b 0 m dk os).drewN q) yv
theorem SW.Ov {P:Program} {enc:Nat->Value} {w0 W:World} {b n:Nat} {dk:Array Nat} {g:Nat} {same:Nat->Nat->Bool} (h:SW enc w0 b 0 dk W) (bn:yu P g enc same b n w0) (ad:dk.size=n) (x y:Nat) (au:x<n) (bb:y<n) (q:Nat) (os:Array Obj):
  Calls P g (#[enc x,enc y]++ #[]) (grow (W.drewN q) os) λe aF=>e= .returned (.bool (same x y))/\∃iU yv,aF=grow ((grow (W.drewN q) os).drewN iU) yv:=by
 obtain⟨m,Xd,hw⟩:=h.grown q os;rw[hw];exact bn m Xd dk ad x y au bb
theorem Xe {α:Type} {e:α->I} {k:Nat} (he:∀x,(e x).wd=k) {w:World} {F X:Nat->Prop} {S:Nat->Nat->Prop} {s:aw} {aC:Nat->Value} (h:bD w F X F S s aC w)
  {b cap n:Nat} {cur A:Array Value} {h_:TypeId} {fr:Nat×Nat} {ys:List α} (bK:S 0 b) (R:w.heap[b]? =some (.cells cur h_ fr)) (tJ:k2 fr (cur.size+(k-1))) (uQ:cur.size=cap*k) (ny:ys.length<=cap) (hm:cap<=maxLen)
  (hA:ys.length*k<=A.size) (akk:A.size<=cur.size) {vm:Nat->Prop} (Ow:∀c,vm c->S 0 c) (Ox:¬vm b) (fw:a1 w F (ys.map e) (A.toList.take (ys.length*k)) vm) {os:Array Obj} {aF:World} (hw:aF=Sort.grow (putRow id (Sort.ahead w n) b 0 A) os) {aB:aw} {hG:Nat->Value} {t:Nat}
  (a8:aB t= .ag k (ys.map e)) (aJ:hG t= .slice (some ⟨b,0,none⟩) ys.length cap) (bE:∀u,u≠t->aB u= .hole\/(aB u= .tuple []/\hG u= .tuple #[])):
  bD w F X F (λu c=>u=t/\(c=b\/vm c)) aB hG aF:=by
 have l1:∀c,(c=b\/vm c)->S 0 c:=λc an=>an.elim (λe=>e▸bK) (Ow c);have Oy:=h.dW 0 b bK;have ea:(putRow id (Sort.ahead w n) b 0 A).heap.size=w.heap.size:=Sort.size_putRow ..;have Gu:w.heap.size<=aF.heap.size:=by rw[hw,size_grow,ea];omega
 have lT:∀c,c<w.heap.size->c≠b->aF.heap[c]? =w.heap[c]? :=by
  intro c an cY;rw[hw,Gr _ _ (by rw[ea];exact an)];simp only[putRow,mapBlock,Array.getElem?_modify,if_neg (Ne.symm cY)];rfl
 have xN:aF.heap[b]? =some (.cells (putCells id 0 A cur) h_ fr):=by
  rw[hw,Gr _ _ (by rw[ea];exact Oy)];simp only[putRow,mapBlock,Array.getElem?_modify,if_true];rw[show(Sort.ahead w n).heap=w.heap from rfl,R];rfl
 have hle:ys.length*k<=cur.size:=by rw[uQ];exact mul_le_mul_right _ ny
 have jH:(putCells id 0 A cur).toList.take (ys.length*k)=A.toList.take (ys.length*k):=by
  apply ext_getElem?;intro j;simp only[putCells,getElem?_take,Array.getElem?_toList,Array.getElem?_mapIdx];by_cases bm:j<ys.length*k
  .rw[if_pos bm,if_pos bm,Array.getElem?_eq_getElem (by omega),Array.getElem?_eq_getElem (show j<A.size by omega)];simp only[map_some];rw[if_pos (by omega)];simp only[Nat.sub_zero,id];rw[getElem!_pos _ j (by omega)]
  .rw[if_neg bm,if_neg bm]
 exact {
  gm:=λ_ h=>h
  gC:=λb bh=>.inl bh
  eQ:=λc an=>Nat.lt_of_lt_of_le (h.eQ c an) Gu
  dW:=λu c an=>Nat.lt_of_lt_of_le (h.dW 0 c (l1 c an.2)) Gu
  fb:=λu c an bh=>h.fb 0 c (l1 c an.2) bh
  e_:=λu x c cY hu au=>cY (hu.1.trans au.1.symm)
  dx:=λu c an=>h.dx 0 c (l1 c an.2)
  dp:=λu=>by
   by_cases hu:u=t
   .subst hu;rw[a8,aJ];refine(aH.cv rfl).2 ⟨rfl,?_⟩;rw[ar];right;refine⟨b,cap,_,h_,fr,vm,?_,⟨rfl,.inl rfl⟩,xN,?_,?_,hm,?_,?_,?_,λ_ h=>⟨rfl,.inr h⟩,Ox⟩
    .simp[cj,iu]
    .simpa [putCells]using tJ
    .simpa using ny
    .simpa [putCells]using uQ
    .intro d ai;obtain⟨x,_,rfl⟩:=mem_map.1 ai;exact he x
    .rw[length_map,jH];exact a1.frame (λc an=>lT c (h.eQ c an) (λe=>h.fb 0 b bK (e▸an))) _ _ _ (λc an=>lT c (h.dW 0 c (Ow c an)) (λe=>Ox (e▸an))) fw
   .rcases bE u hu with ab|⟨ab,ae⟩
    .rw[ab,aH];trivial
    .rw[ab,ae];refine(aH.cv rfl).2 ⟨⟨#[],rfl,rfl,λk d x ai=>by simp at ai⟩,?_⟩;rw[ar,a1];rfl
  old:=λc an jJ=>lT c an (λrT=>by
   rcases h.dx 0 b bK with ab|ab
   .exact jJ (rT▸ab)
   .omega)
  size:=Gu
  os:=by rw[hw];rfl
  tape:=by rw[hw];rfl
  output:=by rw[hw];exact⟨rfl,λ_=>le_add_right _ _⟩
  gn:=h.gn}
theorem Oz (enc:Nat->Value):∀l:alR,(l.flatMap λi=>[enc i])=l.map enc
 |[]=>rfl
 |x::l=>by rw[flatMap_cons,Oz enc l];rfl
theorem OA {α β:Type} {f g:α->Option β}:∀{l:List α},(∀i∈l,f i=g i)->l.filterMap f=l.filterMap g
 |[],_=>rfl
 |x::l,h=>by rw[filterMap_cons,filterMap_cons,h x (by simp),OA λi ao=>h i (mem_cons_of_mem _ ao)]
theorem Gv (enc:Nat->Value) (w:World) (b:Nat) (d:Array Nat):putRow enc w b 0 d=putRow id w b 0 (d.map enc):=by
 unfold putRow;congr 1;funext cur;unfold putCells;apply Array.ext_getElem?;intro j;simp only[Array.getElem?_mapIdx,Array.size_map];congr 1;funext v;by_cases h:0<=j/\j<0+d.size
 .rw[if_pos h,if_pos h];simp only[Nat.sub_zero,id];rw[getElem!_pos _ j (by omega),getElem!_pos _ j (by simp;omega)];simp
 .rw[if_neg h,if_neg h]
theorem Xf {C:ca} (o2:rR=true) {g:FuncId} (Gs:∀args w,(callFunc g args).run C.P w= .ok (.enter g args) w) {aa:alW} {vs:alU} {w:World} {F:Nat->Prop} (bh:∀b,F b->b<w.heap.size) (hlen:vs.length=aa.length)
  (ix:∀(i:Nat) (a:I) (v:Value),aa[i]? =some a->vs[i]? =some v->a.tree=true/\dD a v/\ar w F a (cj v) (λ_=>False)) {r:I} {u:Value} (oe:r.tree=true) (hu:∀aF bO v aN,dD r v->ar aF bO r (cj v) aN->v=u) (bE:aY C g aa r []) (Gw:En=[]:=by rfl):
  ∀W:World,(∀b,F b->W.heap[b]? =w.heap[b]?)->w.heap.size<=W.heap.size->Calls C.P g vs.toArray W λe aF=>e= .returned u/\∃q os,aF=grow (W.drewN q) os:=by
 intro W vn ea;have hrel:bD W F (λ_=>False) F (λ_ _=>False) (eW aa) (gb vs) W:={
  gm:=λ_ h=>h
  gC:=λ_ h=>.inl h
  eQ:=λb h=>Nat.lt_of_lt_of_le (bh b h) ea
  dW:=λ_ _ h=>h.elim
  fb:=λ_ _ h=>h.elim
  e_:=λ_ _ _ _ h=>h.elim
  dx:=λ_ _ h=>h.elim
  dp:=λt=>by
   by_cases a8:t<aa.length
   .have aR:aa[t]? =some aa[t]:=getElem?_eq_getElem a8;have aV:vs[t]? =some (vs[t]'(by omega)):=getElem?_eq_getElem (by omega);obtain⟨g1,g2,g3⟩:=ix t _ _ aR aV;have aW:eW aa t=aa[t]:=by simp[eW,List.getD,aR]
    have cm:gb vs t=vs[t]'(by omega):=by simp[gb,List.getD,aV]
    rw[aW,cm];exact(aH.cv g1).2 ⟨g2,ar.frame vn _ _ _ (λ_ h=>h.elim) g3⟩
   .have aW:eW aa t= .hole:=by simp[eW,List.getD,getElem?_eq_none (show aa.length<=t by omega)]
    rw[aW,aH];trivial
  old:=λ_ _ _=>rfl
  size:=Nat.le_refl _
  os:=rfl
  tape:=rfl
  output:=Out.refl _
  gn:=λp h=>absurd h (by rw[Gw];exact not_mem_nil)}
 rcases bE W F (λ_=>False) (λ_ _=>False) vs hlen hrel with⟨_,an⟩|⟨v,aF,ab,_⟩
 .refine an.mono ?_;rintro e aF ⟨v,rfl,bO,aN,aM⟩;have aJ:=(aH.cv oe).1 (aM.dp 0);have Xg:v=u:=hu _ _ _ _ aJ.1 aJ.2;subst Xg;exact⟨rfl,W8 (λb R=>aM.old b R (λh=>h)) aM.size aM.os aM.tape aM.output.1 (aM.output.2 o2)⟩
 .rw[Gs]at ab;cases ab
structure mV {α:Type} (w:World) (F X:Nat->Prop) (S:Nat->Nat->Prop) (e:α->I) (xs:List α) (b cap:Nat) (cur:Array Value) (h_:TypeId) (fr:Nat×Nat) (T:Nat->Nat->Prop) (enc:Nat->Value):Prop where
 bK:S 0 b
 R:w.heap[b]? =some (.cells cur h_ fr)
 tJ:k2 fr cur.size
 so:xs.length<=cap
 hm:cap<=maxLen
 gh:cur.size=cap
 vo:∀i c,T i c->S 0 c
 Gx:∀i,¬T i b
 BU:∀i j c,i≠j->T i c->¬T j c
 fw:∀i (ao:i<xs.length),ar w F (e xs[i]) [enc i] (T i)
 oD:∀i,i<xs.length->cur[i]? =some (enc i)
 pN:∀i,i<xs.length->Value.oneCell' (enc i)=true
 bZ:∀i,xs.length<=i->enc i= .slice none 0 0
theorem OB {α:Type} {e:α->I} (he:∀x,(e x).wd=1) {w:World} {F X:Nat->Prop} {S:Nat->Nat->Prop} {s:aw} {aC:Nat->Value} (aM:bD w F X F S s aC w) {xs:List α} (aX:s 0= .ag 1 (xs.map e)):
  (xs=[]/\∃a,aC 0= .slice a 0 0)\/∃b cap cur h_ fr T enc,aC 0= .slice (some ⟨b,0,none⟩) xs.length cap/\mV w F X S e xs b cap cur h_ fr T enc:=by
 have jT:=aM.dp 0;rw[aX]at jT;rcases W_ jT with⟨au,a,aJ⟩|⟨b,cap,cur,h_,fr,aN,aJ,bK,R,tJ,so,hm,gh,fw,Xh,Xi⟩
 .exact .inl ⟨by simpa using au,a,aJ⟩
 .rw[length_map]at aJ so fw;obtain⟨hlen,T,oD,vo,BU⟩:=Ot he xs _ _ fw;simp only[Nat.mul_one]at hlen oD gh;have yw:∀i,i<xs.length->((cur.toList.take xs.length).drop i).take 1=[cur[i]!]:=λi ao=>by
   have ab:i<cur.size:=by omega
   rw[getElem!_pos cur i ab];apply ext_getElem?;intro j;rw[getElem?_take,getElem?_drop,getElem?_take];by_cases bm:j<1
   .have:j=0:=by omega
    subst this;rw[if_pos (by omega),if_pos (by omega)];simp[ab]
   .rw[if_neg bm,getElem?_eq_none (by simp;omega)]
  refine .inr ⟨b,cap,cur,h_,fr,T,λi=>if i<xs.length then cur[i]! else .slice none 0 0,aJ,{bK:=bK,R:=R,tJ:=tJ.low,so:=so,hm:=hm,gh:=gh,vo:=λi c an=>Xh c (vo i c an),Gx:=λi an=>Xi (vo i b an),BU:=BU,fw:=λi ao=>?_,oD:=λi ao=>?_,pN:=λi ao=>?_,bZ:=λi ao=>if_neg (by omega)}⟩
  .have:=oD i ao;rw[yw i ao]at this;rw[if_pos ao];exact this
  .rw[if_pos ao,getElem!_pos cur i (by omega)];exact Array.getElem?_eq_getElem (by omega)
  .have:=oD i ao;rw[yw i ao]at this;rw[if_pos ao];exact W9 (ar.qO _ _ _ this _ (mem_singleton.2 rfl))
section
variable {α:Type} {e:α->I} {w:World} {F X:Nat->Prop} {S:Nat->Nat->Prop} {s:aw} {aC:Nat->Value} {xs:List α} {b cap:Nat} {cur:Array Value} {h_:TypeId} {fr:Nat×Nat} {T:Nat->Nat->Prop} {enc:Nat->Value}
theorem mV.holds (h:mV w F X S e xs b cap cur h_ fr T enc):Holds enc w b 0 (Array.range xs.length):=by
 intro j bm;have vp:j<xs.length:=by simpa using bm
 rw[sn _ _ vp];refine⟨?_,?_⟩
 .simp only[World.cell?,h.R,Nat.zero_add];exact h.oD j vp
 .simp only[World.frozen?,h.R,Nat.zero_add];have:=h.tJ j (by rw[h.gh];have:=h.so;omega);simpa using this
theorem mV.OC (h:mV w F X S e xs b cap cur h_ fr T enc):OneCell enc:=λi=>by
 by_cases ao:i<xs.length
 .exact h.pN i ao
 .rw[h.bZ i (by omega)];rfl
theorem mV.call (aM:bD w F X F S s aC w) (h:mV w F X S e xs b cap cur h_ fr T enc) (o0:∀x,∃l,(e x).share= .slice l) {C:ca} (o2:rR=true) {g:FuncId} (yx:∀args w,(callFunc g args).run C.P w= .ok (.enter g args) w)
  {r:I} {u:Value} (oe:r.tree=true) (hu:∀aF bO v aN,dD r v->ar aF bO r (cj v) aN->v=u) (x y:Nat) (au:x<xs.length) (bb:y<xs.length) (bE:aY C g [(e xs[x]).share,(e xs[y]).share] r []) (Gw:En=[]:=by rfl) (yy:Nat->Value) (m:Nat) (os:Array Obj) (dk:Array Nat):
  Calls C.P g #[enc x,enc y] (sortWorld yy w b 0 m dk os) λex aF=>ex= .returned u/\∃q yv,aF=grow ((sortWorld yy w b 0 m dk os).drewN q) yv:=by
 have Oy:=aM.dW 0 b h.bK;have Xj:¬F b:=aM.fb 0 b h.bK;have OD:∀c,(F c\/∃i,T i c)->c<w.heap.size:=λc an=>an.elim (aM.eQ c) (λ⟨i,ae⟩=>aM.dW 0 c (h.vo i c ae));have lq:∀i (ao:i<xs.length),(e xs[i]).share.tree=true/\dD (e xs[i]).share (enc i)/\ar w (λc=>F c\/∃i,T i c) (e xs[i]).share (cj (enc i)) (λ_=>False):=λi ao=>by
  obtain⟨l,hl⟩:=o0 xs[i];have OE:ar w (λc=>F c\/∃i,T i c) (e xs[i]).share [enc i] (λ_=>False):=ar.shared (λc h=>.inl h) _ _ _ (λc an=>.inr ⟨i,an⟩) (h.fw i ao);have pN:Value.fK (enc i)=true:=ar.qO _ _ _ (h.fw i ao) _ (mem_singleton.2 rfl);rw[gq pN];rw[hl]at OE⊢;exact⟨rfl,pN,OE⟩
 have vn:=Xf o2 yx (aa:=[(e xs[x]).share,(e xs[y]).share]) (vs:=[enc x,enc y]) (w:=w) (F:=λc=>F c\/∃i,T i c) OD rfl (λi a v cg aJ=>by
  rcases i with _|_|i
  .simp only[getElem?_cons_zero,some.injEq]at cg aJ;subst cg aJ;exact lq x au
  .simp only[getElem?_cons_succ,getElem?_cons_zero,some.injEq]at cg aJ;subst cg aJ;exact lq y bb
  .simp at cg) oe hu bE Gw (sortWorld yy w b 0 m dk os) (λc an=>by
   have yw:=OD c an;have cY:c≠b:=λaz=>an.elim (λae=>Xj (az▸ae)) (λ⟨i,ae⟩=>h.Gx i (az▸ae));unfold sortWorld;rw[Gr _ _ (by rw[show(putRow yy (Sort.ahead w m) b 0 dk).heap.size=w.heap.size from Sort.size_putRow ..];exact yw)];simp only[putRow,mapBlock,Array.getElem?_modify,if_neg (Ne.symm cY)];rfl) (by
   unfold sortWorld;rw[size_grow,show(putRow yy (Sort.ahead w m) b 0 dk).heap.size=w.heap.size from Sort.size_putRow ..];omega)
 exact vn
theorem mV.after (he:∀x,(e x).wd=1) (aM:bD w F X F S s aC w) (h:mV w F X S e xs b cap cur h_ fr T enc) {ps:alR} (aq:∀i∈ps,i<xs.length) (aS:ps.Nodup) {dk:Array Nat} (Gy:ps.length<=dk.size) (hx:dk.size<=xs.length) (ai:∀j (bm:j<ps.length),dk[j]! =ps[j])
  {ys:List α} (ny:ys=ps.filterMap λi=>xs[i]?) {n:Nat} {os:Array Obj} {aF:World} (hw:aF=sortWorld enc w b 0 n dk os) {aB:aw} {hG:Nat->Value} {t:Nat}
  (a8:aB t= .ag 1 (ys.map e)) (aJ:hG t= .slice (some ⟨b,0,none⟩) ys.length cap) (bE:∀u,u≠t->aB u= .hole\/(aB u= .tuple []/\hG u= .tuple #[])):
  ∃aN,bD w F X F aN aB hG aF:=by
 have hlen:ys.length=ps.length:=by
  rw[ny];clear ny ai Gy aS;induction ps with
  |nil=>rfl
  |cons i ps ih=>
   have:=aq i (by simp);rw[filterMap_cons,getElem?_eq_getElem this];simp[ih (λj bm=>aq j (mem_cons_of_mem _ bm))]
 have Xk:ys.map e=ps.map λi=>((xs[i]?).map e).getD .hole:=by
  rw[ny];clear ny ai Gy aS hlen;induction ps with
  |nil=>rfl
  |cons i ps ih=>
   have:=aq i (by simp);rw[filterMap_cons,getElem?_eq_getElem this];simp only[map_cons];rw[ih (λj bm=>aq j (mem_cons_of_mem _ bm)),getElem?_eq_getElem this];rfl
 have Xl:a1 w F (ys.map e) (((dk.map enc).toList).take (ys.length*1)) (λc=>∃i∈ps,T i c):=by
  have ab:((dk.map enc).toList).take (ys.length*1)=ps.flatMap λi=>[enc i]:=by
   rw[Nat.mul_one,hlen];apply ext_getElem?;intro j;rw[getElem?_take,Oz];by_cases bm:j<ps.length
   .rw[if_pos bm,getElem?_map,getElem?_eq_getElem bm,Array.getElem?_toList,Array.getElem?_map,Array.getElem?_eq_getElem (by omega)];have:=ai j bm;rw[getElem!_pos dk j (by omega)]at this;simp[this]
   .rw[if_neg bm,getElem?_map,getElem?_eq_none (by omega)];rfl
  rw[ab,Xk];refine Ou (e:=λi=>((xs[i]?).map e).getD .hole) (T:=T) (λi=>[enc i]) h.BU ps aS (λi ao=>?_);have:=aq i ao;simp only[getElem?_eq_getElem this,map_some,getD_some];exact h.fw i this
 have Xm:k2 fr (cur.size+(1-1)):=h.tJ;exact⟨_,Xe he aM h.bK h.R Xm (by rw[h.gh,Nat.mul_one]) (by have:=h.so;omega) h.hm (by simp;omega) (by have:=h.so;have:=h.gh;simp;omega) (λc ⟨i,_,an⟩=>h.vo i c an) (λ⟨i,_,an⟩=>h.Gx i an) Xl (n:=n) (os:=os) (by rw[hw,sortWorld,Gv]) a8 aJ bE⟩
end
theorem OG {w:World} {F:Nat->Prop} {s:aw} {aC:Nat->Value} {g:FuncId} {v:Value} {S:Nat->Prop} (h:aH w F s aC (.fn g []) v S):v= .func (.func g) #[] #[]:=by
 rw[aH]at h;obtain⟨arr,cg,R⟩:=h;rw[cg];cases hl:arr.toList with
 |nil=>rw[show arr= #[]from Array.toList_inj.1 (by simpa using hl)]
 |cons x r=>rw[hl,d_]at R;cases R
theorem aY.Xn {C:ca} (o2:rR=true) {f g:FuncId} (yz:∀args w,(callFunc f args).run C.P w= .ok (.enter f args) w) (yx:∀args w,(callFunc g args).run C.P w= .ok (.enter g args) w)
  {α:Type} {e:α->I} (he:∀x,(e x).wd=1) (o0:∀x,∃l,(e x).share= .slice l) (sq:α->α->Int) (bE:∀x y,aY C g [(e x).share,(e y).share] (.int .i64 (sq x y)) []) (hO:SWO λx y=>decide (sq x y<0))
  (xs ys:List α) (cY:xs≠[]) (aS:xs.length<4611686018427387904) (hu:∀en:List α,en.Perm xs->en.Pairwise (λa b=>0<=sq b a)->en=ys)
  (ab:∀(enc:Nat->Value),OneCell enc->∀(yA:Nat->Nat->Int),SWO (λx y=>decide (yA x y<0))->∀(w:World) (b cap:Nat) (d:Array Nat),CmpLays1 C.P g #[] enc yA b 0 d.size w->
   Holds enc w b 0 d->b<w.heap.size->d.size<4611686018427387904->
   Calls C.P f #[.slice (some ⟨b,0,none⟩) d.size cap,.func (.func g) #[] #[]] w λex aF=>ex= .returned (.tuple #[])/\∃bg n os,PermIn 0 d.size d bg/\SortedIn (λx y=>decide (yA x y<0)) 0 d.size bg/\aF=sortWorld enc w b 0 n bg os):
  aY C f [.ag 1 (xs.map e),.fn g []] (.tuple []) [.ag 1 (ys.map e),.hole]:=by
 intro w F X S vs uT aM;obtain⟨v,v1,rfl⟩:∃v v1,vs=[v,v1]:=by
  match vs,uT with
  |[v,v1],_=>exact⟨v,v1,rfl⟩
 have tG:v1= .func (.func g) #[] #[]:=OG (aM.dp 1);subst tG;have VJ:0<xs.length:=length_pos_iff.2 cY;rcases OB he aM (xs:=xs) rfl with⟨au,_⟩|⟨b,cap,cur,h_,fr,T,enc,aJ,gF⟩
 .exact(cY au).elim
 have aJ:v= .slice (some ⟨b,0,none⟩) xs.length cap:=aJ;subst aJ;let o3:Nat->Nat:=λi=>if i<xs.length then i else 0
 have Gz:∀i,o3 i<xs.length:=λi=>by
  show(if i<xs.length then i else 0)<xs.length;split<;>omega
 have OH:∀i,i<xs.length->o3 i=i:=λi ao=>if_pos ao;let mv:Nat->α:=λi=>xs[o3 i]'(Gz i)
 have hH:Holds (λi=>enc (o3 i)) w b 0 (Array.range xs.length):=by
  intro j bm;have:=gF.holds j bm;rw[sn _ _ (by simpa using bm)]at this⊢;simp only;rw[OH j (by simpa using bm)];exact this
 have qb:CmpLays1 C.P g #[] (λi=>enc (o3 i)) (λx y=>sq (mv x) (mv y)) b 0 (Array.range xs.length).size w:=by
  intro m os dk _ x y;have:=mV.call aM gF o0 o2 yx (r:=.int .i64 (sq (mv x) (mv y))) (u:=.int .i64 (sq (mv x) (mv y))) rfl (λaF bO v aN ab ae=>by
   rw[gq ab,ar]at ae;simpa using ae) (o3 x) (o3 y) (Gz x) (Gz y) (bE (mv x) (mv y)) rfl (λi=>enc (o3 i)) m os dk
  simpa using this
 have Xo:SWO λx y=>decide (sq (mv x) (mv y)<0):=⟨λx=>hO.irrefl _,λx y z=>hO.trans _ _ _,λx y z=>hO.ntrans _ _ _⟩
 have u0:=ab (λi=>enc (o3 i)) (λi=>gF.OC (o3 i)) (λx y=>sq (mv x) (mv y)) Xo w b cap (Array.range xs.length) qb hH (aM.dW 0 b gF.bK) (by simpa using aS);simp only[Array.size_range]at u0;refine .inl ⟨yz _ _,u0.mono ?_⟩;rintro ex aF ⟨rfl,bg,n,os,aq,ad,hw⟩;obtain⟨Xp,uK,Xq⟩:=aq;have hb:bg.size=xs.length:=by simpa using Xp
 have GA:bg.toList.Perm (range xs.length):=by
  have:=Xq;rw[show bg.extract 0 xs.length=bg by rw[<-hb];simp,show(Array.range xs.length).extract 0 xs.length=Array.range xs.length by simp]at this;simpa using this
 have nw:∀i∈bg.toList,i<xs.length:=λi ao=>mem_range.1 (GA.mem_iff.1 ao);have OI:bg.toList.map mv=ys:=by
  refine hu _ ?_ ?_
  .have ae:=GA.map mv;have az:(range xs.length).map mv=xs:=by
    apply ext_getElem?;intro i;by_cases ao:i<xs.length
    .rw[getElem?_map,getElem?_range ao,getElem?_eq_getElem ao];simp only[map_some,some.injEq];show xs[if i<xs.length then i else 0]'_=xs[i];congr 1;rw[if_pos ao]
    .rw[getElem?_eq_none (by simp;omega),getElem?_eq_none (by omega)]
   rw[az]at ae;exact ae
  .rw[pairwise_iff_getElem];intro i j ao bm q8;have uW:i<bg.size:=by simpa using ao
   have vp:j<bg.size:=by simpa using bm
   have:=ad i j (zero_le _) q8 (by omega);rw[getElem!_pos bg i uW,getElem!_pos bg j vp]at this;simp only[getElem_map,Array.getElem_toList];simpa using this
 have ny:ys=bg.toList.filterMap λi=>xs[i]? :=by
  rw[<-OI,<-filterMap_eq_map];refine OA λi ao=>?_;have dv:=nw i ao;rw[getElem?_eq_getElem dv];show some (xs[if i<xs.length then i else 0]'_)=some xs[i];congr 2;exact if_pos dv
 have Xr:ys.length=xs.length:=by rw[<-OI];simpa using hb
 have Xs:sortWorld (λi=>enc (o3 i)) w b 0 n bg os=sortWorld enc w b 0 n bg os:=by
  unfold sortWorld;rw[Gv,Gv];congr 2;apply Array.ext
  .simp
  .intro i ab ae;have ao:i<bg.size:=by simpa using ab
   simp only[Array.getElem_map];rw[OH _ (nw _ (by simp))]
 obtain⟨aN,yB⟩:=mV.after he aM gF (ps:=bg.toList) nw (GA.nodup_iff.2 nodup_range) (dk:=bg) (by simp) (by omega) (λj bm=>by
  rw[getElem!_pos bg j (by simpa using bm)];simp) ny (n:=n) (os:=os) (aF:=aF) (by rw[hw,Xs]) (aB:=eW [.tuple [],.ag 1 (ys.map e),.hole]) (hG:=gb [.tuple #[],.slice (some ⟨b,0,none⟩) xs.length cap,.func (.func g) #[] #[]]) (t:=1) rfl (by show Value.slice _ _ _=_;rw[Xr]) (λu hu=>by
  rcases u with _|_|u
  .exact .inr ⟨rfl,rfl⟩
  .exact(hu rfl).elim
  .refine .inl ?_;cases u<;>rfl)
 exact⟨_,rfl,F,aN,yB⟩
def o4 {α:Type} (eq:α->α->Bool) (p:α):List α->List α
 |[]=>[]
 |x::l=>if eq x p=true then o4 eq x l else x::o4 eq x l
def iB {α:Type} (eq:α->α->Bool):List α->List α
 |[]=>[]
 |x::l=>x::o4 eq x l
theorem OJ {α:Type} (eq:α->α->Bool):∀(l:List α) (p x:α),o4 eq p (l++[x])=o4 eq p l++if eq x ((p::l).getLast (cons_ne_nil _ _))=true then []else [x]
 |[],p,x=>by
  simp only[nil_append,o4,getLast_singleton];by_cases h:eq x p=true<;>simp[h]
 |y::l,p,x=>by
  rw[cons_append,o4,o4,OJ eq l y x,getLast_cons (cons_ne_nil _ _)];by_cases h:eq y p=true
  .rw[if_pos h,if_pos h]
  .rw[if_neg h,if_neg h];rfl
theorem Xt {α:Type} (eq:α->α->Bool) (l:List α) (x:α) (hl:l≠[]):iB eq (l++[x])=iB eq l++if eq x (l.getLast hl)=true then []else [x]:=by
 cases l with
 |nil=>exact(hl rfl).elim
 |cons y l=>rw[cons_append,iB,iB,OJ];rfl
theorem OK {α:Type} (eq:α->α->Bool) (xs:List α) (same:Nat->Nat->Bool) (ad:∀i j (ao:i<xs.length) (bm:j<xs.length),same i j=eq xs[i] xs[j]):∀m,m<=xs.length->(hR same m).filterMap (λi=>xs[i]?)=iB eq (xs.take m)
 |0,_=>by simp[hR,iB]
 |m+1,h=>by
  have dv:m<xs.length:=h;rw[BT,filterMap_append,OK eq xs same ad m (by omega),take_succ_eq_append_getElem dv];by_cases aX:m=0
  .subst aX;have:kW same 0=true:=rfl;rw[if_pos this];simp[iB,o4,getElem?_eq_getElem dv]
  .have cY:xs.take m≠[]:=λe=>by
    have:=congrArg length e;rw[length_take,length_nil]at this;omega
   rw[Xt eq _ _ cY];congr 1;have Xu:(xs.take m).getLast cY=xs[m-1]:=by
    rw[getLast_eq_getElem];simp only[length_take,getElem_take];congr 1;omega
   rw[Xu];have ax:kW same m= !eq xs[m] xs[m-1]:=by
    unfold kW;rw[ad m (m-1) dv (by omega),show(m==0)=false from by simpa using aX,Bool.false_or]
   rw[ax];cases eq xs[m] xs[m-1]<;>simp[getElem?_eq_getElem dv]
theorem aY.Xv {C:ca} (o2:rR=true) {f g:FuncId} (yz:∀args w,(callFunc f args).run C.P w= .ok (.enter f args) w) (yx:∀args w,(callFunc g args).run C.P w= .ok (.enter g args) w)
  {α:Type} {e:α->I} (he:∀x,(e x).wd=1) (o0:∀x,∃l,(e x).share= .slice l) (mw:α->α->Bool) (bE:∀x y,aY C g [(e x).share,(e y).share] (.bool (mw x y)) [])
  (xs:List α) (aS:xs.length<=4611686018427387904)
  (aX:∀(a:Option Addr) (n cap:Nat) (w:World),n<2->Calls C.P f #[.slice a n cap,.func (.func g) #[] #[]] w λex aF=>ex= .returned (.slice a n cap)/\aF=w)
  (ab:∀(enc:Nat->Value),OneCell enc->∀(same:Nat->Nat->Bool) (w:World) (b n cap:Nat),yu C.P g enc same b n w->Holds enc w b 0 (Array.range n)->b<w.heap.size->n<=4611686018427387904->n<=cap->cap<=9223372036854775807->enc n= .slice none 0 0->2<=n->
   Calls C.P f #[.slice (some ⟨b,0,none⟩) n cap,.func (.func g) #[] #[]] w λex aF=>ex= .returned (.slice (some ⟨b,0,none⟩) (hR same n).length cap)/\
    ∃dk,dk.size=n/\(∀j,j<(hR same n).length->dk[j]! =(hR same n)[j]!)/\SW enc w b 0 dk aF):
  aY C f [.ag 1 (xs.map e),.fn g []] (.ag 1 ((iB mw xs).map e)) [.hole,.hole]:=by
 intro w F X S vs uT aM;obtain⟨v,v1,rfl⟩:∃v v1,vs=[v,v1]:=by
  match vs,uT with
  |[v,v1],_=>exact⟨v,v1,rfl⟩
 have tG:v1= .func (.func g) #[] #[]:=OG (aM.dp 1);subst tG;have OL:xs.length<2->iB mw xs=xs:=λh=>by
  match xs,h with
  |[],_=>rfl
  |[x],_=>rfl
 rcases OB he aM (xs:=xs) rfl with⟨au,a,aJ⟩|⟨b,cap,cur,h_,fr,T,enc,aJ,gF⟩
 .have aJ:v= .slice a 0 0:=aJ;subst aJ;subst au;refine .inl ⟨yz _ _,(aX a 0 0 w (by omega)).mono ?_⟩;rintro ex aF ⟨rfl,rfl⟩;refine⟨_,rfl,F,λ_ _=>False,{gm:=aM.gm,gC:=aM.gC,eQ:=aM.eQ,dW:=λ_ _ h=>h.elim,fb:=λ_ _ h=>h.elim,e_:=λ_ _ _ _ h=>h.elim,dx:=λ_ _ h=>h.elim,dp:=λt=>?_,old:=aM.old,size:=aM.size,os:=aM.os,tape:=aM.tape,output:=aM.output,gn:=aM.gn}⟩;rcases t with _|_|_|t
  .refine(aH.cv rfl).2 ⟨rfl,?_⟩;show ar _ _ (.ag 1 []) _ _;rw[ar];exact .inl ⟨rfl,a,rfl⟩
  .show aH _ _ _ _ .hole _ _;rw[aH];trivial
  .show aH _ _ _ _ .hole _ _;rw[aH];trivial
  .have:eW [.ag 1 ((iB mw ([]:List α)).map e),.hole,.hole] (t+1+1+1)= .hole:=by cases t<;>rfl
   rw[this,aH];trivial
 have aJ:v= .slice (some ⟨b,0,none⟩) xs.length cap:=aJ;subst aJ;have OM:∀u,u≠0->eW [.ag 1 ((iB mw xs).map e),.hole,.hole] u= .hole:=λu hu=>by
  rcases u with _|_|_|u
  .exact(hu rfl).elim
  .rfl
  .rfl
  .cases u<;>rfl
 by_cases ae:xs.length<2
 .refine .inl ⟨yz _ _,(aX _ _ cap w ae).mono ?_⟩;rintro ex aF ⟨rfl,rfl⟩;obtain⟨aN,yB⟩:=mV.after he aM gF (ps:=range xs.length) (λi ao=>mem_range.1 ao) nodup_range (dk:=Array.range xs.length) (by simp) (by simp) (λj bm=>by
   have vp:j<xs.length:=by simpa using bm
   rw[sn _ _ vp];simp) (ys:=iB mw xs) (by
   rw[OL ae];have:∀m,m<=xs.length->(range m).filterMap (λi=>xs[i]?)=xs.take m:=λm hm=>by
    induction m with
    |zero=>rfl
    |succ m ih=>rw[range_succ,filterMap_append,ih (by omega),take_succ_eq_append_getElem (by omega)];simp[getElem?_eq_getElem (show m<xs.length by omega)]
   rw[this _ (Nat.le_refl _),take_length]) (n:=0) (os:= #[]) (aF:=aF) (by
   rw[sortWorld,grow_empty];exact(putRow_self enc aF b 0 _ gF.holds).symm) (aB:=eW [.ag 1 ((iB mw xs).map e),.hole,.hole]) (hG:=gb [.slice (some ⟨b,0,none⟩) xs.length cap,.slice (some ⟨b,0,none⟩) xs.length cap,.func (.func g) #[] #[]]) (t:=0) rfl (by rw[OL ae];rfl) (λu hu=>.inl (OM u hu))
  exact⟨_,rfl,F,aN,yB⟩
 have akl:∀i,i<xs.length->True:=λ_ _=>trivial;let same:Nat->Nat->Bool:=λi j=>if h:i<xs.length/\j<xs.length then mw xs[i] xs[j]else false
 have ON:∀i j (ao:i<xs.length) (bm:j<xs.length),same i j=mw xs[i] xs[j]:=λi j ao bm=>dif_pos ⟨ao,bm⟩;have qb:yu C.P g enc same b xs.length w:=by
  intro m os dk _ x y au bb;have:=mV.call aM gF o0 o2 yx (r:=.bool (mw xs[x] xs[y])) (u:=.bool (mw xs[x] xs[y])) rfl (λaF bO v aN ab ae=>by
   rw[gq ab,ar]at ae;simpa using ae) x y au bb (bE xs[x] xs[y]) rfl enc m os dk
  rw[ON x y au bb];simpa using this
 have Xw:cap<=9223372036854775807:=by have:=gF.hm;unfold maxLen at this;omega
 have GB:=OK mw xs same ON xs.length (Nat.le_refl _);rw[take_length]at GB;have OO:∀i∈hR same xs.length,i<xs.length:=λi ao=>mem_range.1 (mem_filter.1 ao).1;have BL:(iB mw xs).length=(hR same xs.length).length:=by
  rw[<-GB];have:∀l:alR,(∀i∈l,i<xs.length)->(l.filterMap λi=>xs[i]?).length=l.length:=λl=>by
   induction l with
   |nil=>intro _;rfl
   |cons i l ih=>intro hl;rw[filterMap_cons,getElem?_eq_getElem (hl i (by simp))];simp[ih (λj bm=>hl j (mem_cons_of_mem _ bm))]
  exact this _ OO
 have akm:(hR same xs.length).length<=xs.length:=by
  have:=length_filter_le (kW same) (range xs.length);simpa [hR]using this
 refine .inl ⟨yz _ _,(ab enc gF.OC same w b xs.length cap qb gF.holds (aM.dW 0 b gF.bK) aS gF.so Xw (gF.bZ _ (Nat.le_refl _)) (by omega)).mono ?_⟩;rintro ex aF ⟨rfl,dk,Gy,hx,n,os,hw⟩;obtain⟨aN,yB⟩:=mV.after he aM gF (ps:=hR same xs.length) OO (Pairwise.filter _ nodup_range) (dk:=dk) (by omega) (by omega) (λj bm=>by
  rw[hx j bm,getElem!_pos _ j bm]) (ys:=iB mw xs) GB.symm (n:=n) (os:=os) (aF:=aF) hw (aB:=eW [.ag 1 ((iB mw xs).map e),.hole,.hole]) (hG:=gb [.slice (some ⟨b,0,none⟩) (hR same xs.length).length cap,.slice (some ⟨b,0,none⟩) xs.length cap,.func (.func g) #[] #[]]) (t:=0) rfl (by rw[BL];rfl) (λu hu=>.inl (OM u hu))
 exact⟨_,rfl,F,aN,yB⟩
end Go.de
