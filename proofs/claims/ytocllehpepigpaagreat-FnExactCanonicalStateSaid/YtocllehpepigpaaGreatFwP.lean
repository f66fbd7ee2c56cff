/- Part of a proof that a law returns true for every input. No condition. -/
import Derived.Test.YtocllehpepigpaaGreatFwO
import Derived.Shelf.GgSortFunc.InsertionK
namespace Go.cZ
open Go.Sort Go.Proofs
theorem WM {α:Type} {e:α→I} {k:Nat} (he:∀x,(e x).wd=k) {w:World} {F X:Nat→Prop} {S:Nat→Nat→Prop} {s:ar} {aA:Nat→Value} (h:bQ w F X F S s aA w)
  {b cap n:Nat} {cur A:Array Value} {kY:TypeId} {fr:Nat×Nat} {ys:List α} (b1:S 0 b) (ae:w.heap[b]? =some (.cells cur kY fr)) (wo:oV fr cur.size) (Fw:cur.size=cap*k) (tv:ys.length≤cap) (hm:cap≤maxLen)
  (iQ:A.size=ys.length*k) {wq:Nat→Prop} (M1:∀c,wq c→S 0 c) (M3:¬wq b) (gv:bc w F (ys.map e) A.toList wq) {os:Array Obj} {aG:World} (hw:aG=Sort.grow (putRow id (Sort.ahead w n) b 0 A) os) {az:ar} {jI:Nat→Value} {t:Nat}
  (ba:az t= .an k (ys.map e)) (aM:jI t= .slice (some ⟨b,0,none⟩) ys.length cap) (cr:∀u,u≠t→az u= .hole∨(az u= .tuple []∧jI u= .tuple #[])):
  bQ w F X F (fun u c=>u=t∧(c=b∨wq c)) az jI aG:=by
 have yH:∀c,(c=b∨wq c)→S 0 c:=fun c aq=>aq.elim (fun e=>e▸b1) (M1 c)
 have Hi:=h.eD 0 b b1
 have dR:(putRow id (Sort.ahead w n) b 0 A).heap.size=w.heap.size:=size_putRow ..
 have Hj:w.heap.size≤aG.heap.size:=by rw[hw,size_grow,dR];omega
 have l3:∀c,c<w.heap.size→c≠b→aG.heap[c]? =w.heap[c]? :=by
  intro c aq df
  rw[hw,Hh _ _ (by rw[dR];exact aq)]
  simp only[putRow,mapBlock,Array.getElem?_modify,if_neg (Ne.symm df)]
  rfl
 have x4:aG.heap[b]? =some (.cells (putCells id 0 A cur) kY fr):=by
  rw[hw,Hh _ _ (by rw[dR];exact Hi)]
  simp only[putRow,mapBlock,Array.getElem?_modify,if_true]
  rw[show(Sort.ahead w n).heap=w.heap from rfl,ae]
  rfl
 have hle:ys.length*k≤cur.size:=by rw[Fw];exact Nat.mul_le_mul_right _ tv
 have j0:(putCells id 0 A cur).toList.take (ys.length*k)=A.toList:=by
  apply List.ext_getElem?
  intro j
  simp only[putCells,List.getElem?_take,Array.getElem?_toList,Array.getElem?_mapIdx]
  by_cases b_:j<ys.length*k
  ·rw[if_pos b_,Array.getElem?_eq_getElem (by omega),Array.getElem?_eq_getElem (show j<A.size by omega)]
   simp only[Option.map_some]
   rw[if_pos (by omega)]
   simp only[Nat.sub_zero,id]
   rw[getElem!_pos _ j (by omega)]
  ·rw[if_neg b_,Array.getElem?_eq_none (by omega)]
 exact {
  ho:=fun _ h=>h
  hO:=fun b bI=>.inl bI
  fm:=fun c aq=>Nat.lt_of_lt_of_le (h.fm c aq) Hj
  eD:=fun u c aq=>Nat.lt_of_lt_of_le (h.eD 0 c (yH c aq.2)) Hj
  fz:=fun u c aq bI=>h.fz 0 c (yH c aq.2) bI
  fs:=fun u x c df hu aw=>df (hu.1.trans aw.1.symm)
  dZ:=fun u c aq=>h.dZ 0 c (yH c aq.2)
  dF:=fun u=>by
   by_cases hu:u=t
   ·subst hu
    rw[ba,aM]
    refine(aL.cV rfl).2 ⟨rfl,?_⟩
    rw[ax]
    right
    refine⟨b,cap,_,kY,fr,wq,?_,⟨rfl,.inl rfl⟩,x4,?_,?_,hm,?_,?_,?_,fun _ h=>⟨rfl,.inr h⟩,M3⟩
    ·simp[cC,h6]
    ·simpa [putCells]using wo
    ·simpa using tv
    ·simpa [putCells]using Fw
    ·intro d aj
     obtain⟨x,_,rfl⟩:=List.mem_map.1 aj
     exact he x
    ·rw[List.length_map,j0]
     exact bc.frame (fun c aq=>l3 c (h.fm c aq) (fun e=>h.fz 0 b b1 (e▸aq))) _ _ _ (fun c aq=>l3 c (h.eD 0 c (M1 c aq)) (fun e=>M3 (e▸aq))) gv
   ·rcases cr u hu with h1|⟨h1,ah⟩
    ·rw[h1,aL];trivial
    ·rw[h1,ah]
     refine(aL.cV rfl).2 ⟨⟨#[],rfl,rfl,fun k d x aj=>by simp at aj⟩,?_⟩
     rw[ax,bc];rfl
  old:=fun c aq j2=>l3 c aq (fun rB=>by
   rcases h.dZ 0 b b1 with h1|h1
   ·exact j2 (rB▸h1)
   ·omega)
  size:=Hj
  os:=by rw[hw];rfl
  tape:=by rw[hw];rfl
  output:=by rw[hw];exact⟨rfl,fun _=>Nat.le_add_right _ _⟩
  hD:=h.hD}
theorem M4 {α:Type} {e:α→I} {k:Nat} (he:∀x,(e x).wd=k) {w:World} {F:Nat→Prop}:∀(xs:List α) (cs:List Value) (S:Nat→Prop),bc w F (xs.map e) cs S→
  cs.length=xs.length*k∧∃T:Nat→Nat→Prop,(∀i (ao:i<xs.length),ax w F (e xs[i]) ((cs.drop (i*k)).take k) (T i))∧(∀i b,T i b→S b)∧(∀i j b,i≠j→T i b→¬T j b)
 |[],cs,S,h=>by
  rw[List.map_nil,bc]at h
  subst h
  exact⟨by simp,fun _ _=>False,fun i ao=>by simp at ao,fun _ _ h=>h.elim,fun _ _ _ _ h=>h.elim⟩
 |x::xs,cs,S,h=>by
  rw[List.map_cons,bc]at h
  obtain⟨cB,cu,cq,dU,rfl,h1,ah,g1,g2,g3⟩:=h
  have gH:=ax.length _ _ _ h1
  rw[he x]at gH
  obtain⟨l2,T,aX,t1,t2⟩:=M4 he xs cu dU ah
  refine⟨by rw[List.length_append,gH,l2,List.length_cons,Nat.add_mul];omega,fun i b=>match i with|0=>cq b|i+1=>T i b,fun i ao=> ?_,?_,?_⟩
  ·cases i with
   |zero=>
    rw[Nat.zero_mul,List.drop_zero,List.take_left' gH]
    exact h1
   |succ i=>
    have vo:i<xs.length:=by simpa using ao
    rw[show(i+1)*k=k+i*k by rw[Nat.add_mul];omega,←List.drop_drop,List.drop_left' gH]
    exact aX i vo
  ·intro i b ae
   cases i with
   |zero=>exact g1 b ae
   |succ i=>exact g2 b (t1 i b ae)
  ·intro i j b q0 ao b_
   cases i with
   |zero=>
    cases j with
    |zero=>exact q0 rfl
    |succ j=>exact g3 b ao (t1 j b b_)
   |succ i=>
    cases j with
    |zero=>exact g3 b b_ (t1 i b ao)
    |succ j=>exact t2 i j b (fun e=>q0 (by rw[e])) ao b_
theorem M5 {ι:Type} {e:ι→I} {w:World} {F:Nat→Prop} (enc:ι→List Value) {T:ι→Nat→Prop} (ba:∀i j b,i≠j→T i b→¬T j b):∀(ys:List ι),ys.Nodup→(∀y∈ys,ax w F (e y) (enc y) (T y))→bc w F (ys.map e) (ys.flatMap enc) (fun b=>∃y∈ys,T y b)
 |[],_,_=>by rw[List.map_nil,bc];rfl
 |y::ys,a6,h=>by
  rw[List.nodup_cons]at a6
  rw[List.map_cons,bc]
  refine⟨enc y,ys.flatMap enc,T y,_,by rw[List.flatMap_cons],h y (by simp),M5 enc ba ys a6.2 (fun z cf=>h z (List.mem_cons_of_mem _ cf)),fun b ae=>⟨y,by simp,ae⟩,fun b ⟨z,cf,ae⟩=>⟨z,List.mem_cons_of_mem _ cf,ae⟩,fun b ae ⟨z,cf,lB⟩=> ?_⟩
  exact ba y z b (fun e=>a6.1 (e▸cf)) ae lB
theorem M6 {α:Type} [Inhabited α] (enc:α→List Value) (k:Nat) (hk:∀x,(enc x).length=k) (d:Array α):(flatK enc k d).toList=d.toList.flatMap enc:=by
 have key:∀(l:List α),(List.range (l.length*k)).map (fun t=>(enc l[t/k]!)[t%k]!)=l.flatMap enc:=by
  intro l
  apply List.ext_getElem?
  intro t
  have WN:∀l:List α,(l.flatMap enc).length=l.length*k:=by
   intro l
   induction l with
   |nil=>simp
   |cons x r ih=>rw[List.flatMap_cons,List.length_append,hk,ih,List.length_cons,Nat.add_mul];omega
  have WO:∀(l:List α) (t:Nat),t<l.length*k→(l.flatMap enc)[t]? =some ((enc l[t/k]!)[t%k]!):=by
   intro l
   induction l with
   |nil=>intro t ba;simp at ba
   |cons x r ih=>
    intro t ba
    have k0:0<k:=by
     rcases Nat.eq_zero_or_pos k with h|h
     ·subst h;simp at ba
     ·exact h
    rw[List.flatMap_cons]
    by_cases rQ:t<k
    ·rw[List.getElem?_append_left (by rw[hk];exact rQ),Nat.div_eq_of_lt rQ,Nat.mod_eq_of_lt rQ]
     have:t<(enc x).length:=by rw[hk];exact rQ
     rw[List.getElem?_eq_getElem this]
     simp[this]
    ·have rQ:k≤t:=by omega
     rw[List.getElem?_append_right (by rw[hk];exact rQ),hk,ih (t-k) (by rw[List.length_cons,Nat.add_mul]at ba;omega)]
     obtain⟨u,rfl⟩:∃u,t=u+k:=⟨t-k,by omega⟩
     rw[Nat.add_sub_cancel,Nat.add_div_right _ k0,Nat.add_mod_right]
     simp
  by_cases ba:t<l.length*k
  ·rw[WO l t ba,List.getElem?_map,List.getElem?_range ba];rfl
  ·rw[List.getElem?_eq_none (by simp;omega),List.getElem?_eq_none (by rw[WN];omega)]
 have kF:∀i:Nat,d.toList[i]! =d[i]! :=fun i=>by
  by_cases h:i<d.size
  ·rw[getElem!_pos d i h,getElem!_pos d.toList i (by simpa using h)];simp
  ·rw[getElem!_neg d i h,getElem!_neg d.toList i (by simpa using h)]
 have:=key d.toList
 rw[←this]
 unfold flatK
 simp only[kF,Array.toList_map,Array.toList_range,Array.length_toList]
end Go.cZ
