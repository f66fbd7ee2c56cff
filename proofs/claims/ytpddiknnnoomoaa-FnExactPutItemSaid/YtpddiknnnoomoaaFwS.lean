/- Part of a proof that a law returns true for every input. No condition. -/
import Derived.Test.YtpddiknnnoomoaaFwM
import Derived.Laws.IdiomCopy
namespace Go.bZ
section
variable {α:Type} {e:α→j} {fw:α→List Value}
def nM (e:α→j) (fw:α→List Value):Prop:=(∀x,(e x).wd=2)∧(∀x,(fw x).length=2)∧(∀x,∀v∈fw x,Value.oneCell' v=true)∧∀(w:World) (F:Nat→Prop) (x:α) (cs:List Value) (S:Nat→Prop),ai w F (e x) cs S↔cs=fw x
theorem BU (he:nM e fw) {w:World} {F:Nat→Prop}:∀(xs:List α) (cs:List Value) (S:Nat→Prop),aJ w F (xs.map e) cs S→cs=xs.flatMap fw:=by
 intro xs
 induction xs with
 |nil=>intro cs S h;simpa [aJ]using h
 |cons x xs ih=>
  intro cs S h
  simp only[List.map_cons,aJ]at h
  obtain⟨bB,bF,bj,ch,rfl,U,aa,_⟩:=h
  rw[(he.2.2.2 _ _ _ _ _).1 U,ih _ _ aa,List.flatMap_cons]
theorem I0 (he:nM e fw) {w:World} {F:Nat→Prop}:∀(xs:List α),aJ w F (xs.map e) (xs.flatMap fw) (fun _=>False):=by
 intro xs
 induction xs with
 |nil=>simp[aJ]
 |cons x xs ih=>
  simp only[List.map_cons,aJ]
  exact⟨fw x,xs.flatMap fw,_,_,List.flatMap_cons,(he.2.2.2 _ _ _ _ _).2 rfl,ih,fun _ h=>h,fun _ h=>h,fun _ h=>h.elim⟩
theorem BV (he:nM e fw) (xs:List α):(xs.flatMap fw).length=xs.length*2:=by
 induction xs with
 |nil=>rfl
 |cons x xs ih=>rw[List.flatMap_cons,List.length_append,he.2.1,ih,List.length_cons];omega
theorem I1 (he:nM e fw) (xs:List α) (x:α) (i:Nat) (ay:i≤xs.length):(xs.take i++x::xs.drop i).flatMap fw=(xs.flatMap fw).take (i*2)++(fw x++(xs.flatMap fw).drop (i*2)):=by
 have U:xs.flatMap fw=(xs.take i).flatMap fw++(xs.drop i).flatMap fw:=by rw[←List.flatMap_append,List.take_append_drop]
 have aa:((xs.take i).flatMap fw).length=i*2:=by rw[BV he,List.length_take,Nat.min_eq_left ay]
 rw[U,List.flatMap_append,List.flatMap_cons,←aa,List.take_left,List.drop_left]
theorem I2 (he:nM e fw) (xs:List α):∀v∈xs.flatMap fw,Value.oneCell' v=true:=by
 intro v aC
 obtain⟨x,_,ao⟩:=List.mem_flatMap.1 aC
 exact he.2.2.1 x v ao
theorem r7 (b:Nat):∀(vs:List Value) (o:Nat) (w:World) (cur:Array Value) (eU:TypeId) (fr:Nat×Nat),w.heap[b]? =some (.cells cur eU fr)→
  ∃iI:Array Value,(w.setCells b o vs).heap[b]? =some (.cells iI eU fr)∧iI.size=cur.size∧(∀ad,ad<cur.size→iI[ad]? =if o≤ad∧ad<o+vs.length then vs[ad-o]? else cur[ad]?)∧
   (∀c,c≠b→(w.setCells b o vs).heap[c]? =w.heap[c]?)∧(w.setCells b o vs).heap.size=w.heap.size∧(w.setCells b o vs).os=w.os∧(w.setCells b o vs).tape=w.tape∧(w.setCells b o vs).output=w.output∧(w.setCells b o vs).drawn=w.drawn:=by
 intro vs
 induction vs with
 |nil=>
  intro o w cur eU fr h
  refine⟨cur,h,rfl,fun ad aU=> ?_,fun _ _=>rfl,rfl,rfl,rfl,rfl,rfl⟩
  rw[if_neg fun h=>absurd h.2 (by have:=h.1;simp only[List.length_nil];omega)]
 |cons v r ih=>
  intro o w cur eU fr h
  have U:(w.setCell ⟨b,o,none⟩ v).heap[b]? =some (.cells (cur.setIfInBounds o v) eU fr):=by
   simp only[World.setCell,Array.getElem?_modify,if_true,h]
   rfl
  obtain⟨iI,aE,aO,bg,cd,cQ,d_,eF,fQ,ji⟩:=ih (o+1) _ _ _ _ U
  have I3:iI.size=cur.size:=by simpa using aO
  refine⟨iI,aE,I3,fun ad aU=> ?_,fun c ae=>(cd c ae).trans ?_,cQ.trans ?_,d_,eF,fQ,ji⟩
  ·rw[bg ad (by simpa using aU)]
   by_cases I4:ad=o
   ·subst I4
    rw[if_neg (by omega),if_pos (by simp),Nat.sub_self,List.getElem?_cons_zero,Array.getElem?_setIfInBounds_self_of_lt aU]
   ·by_cases qm:o+1≤ad∧ad<o+1+r.length
    ·rw[if_pos qm,if_pos (by simp;omega),show ad-o=(ad-(o+1))+1 by omega,List.getElem?_cons_succ]
    ·rw[if_neg qm,if_neg (by simp;omega),Array.getElem?_setIfInBounds_ne (by omega)]
  ·simp only[World.setCell,Array.getElem?_modify,if_neg (Ne.symm ae)]
  ·simp[World.setCell]
theorem tH (he:nM e fw) {w aq:World} {F X:Nat→Prop} {S:Nat→Nat→Prop} {vs:List Value} {as:List j} (h:aX w F X F S (dh as) (dW vs) w) {g cap:Nat} {cur:Array Value} {eU:TypeId} {fr:Nat×Nat} {ys:List α}
  (aY:S 0 g∨w.heap.size≤g) (cC:g<aq.heap.size) (cm:w.heap.size≤aq.heap.size) (hw:aq.heap[g]? =some (.cells cur eU fr)) (I5:hM fr (cur.size+1)) (nh:cur.size=cap*2) (xc:ys.length≤cap) (hm:cap≤maxLen)
  (ae:cur.toList.take (ys.length*2)=ys.flatMap fw) (jd:∀c,c<w.heap.size→c≠g→aq.heap[c]? =w.heap[c]?) (bs:aq.os=w.os) (aM:aq.tape=w.tape) (hu:Out aq w) {n:Nat} (aR:n=ys.length) {v1 v2 v3:Value}:
  aX w F X F (fun u c=>u=0∧c=g) (dh [.aH 2 (ys.map e),.hole,.hole,.hole]) (dW [.slice (some ⟨g,0,none⟩) n cap,v1,v2,v3]) aq where
 er:=fun _ h=>h
 eL:=fun b aS=>.inl aS
 db:=fun c ae=>Nat.lt_of_lt_of_le (h.db c ae) cm
 cT:=fun u c ae=>by rw[ae.2];exact cC
 dp:=fun u c ae aS=>by
  rw[ae.2]at aS
  rcases aY with aY|aY
  ·exact h.dp 0 g aY aS
  ·exact absurd (h.db g aS) (by omega)
 c8:=fun u x c cr hu ao=>cr (hu.1.trans ao.1.symm)
 cl:=fun u c ae=>by
  rw[ae.2]
  rcases aY with aY|aY
  ·exact h.cl 0 g aY
  ·exact .inr aY
 b5:=fun u=>by
  rcases u with _|_|_|_|u
  ·show ar _ _ _ _ (.aH 2 (ys.map e)) (.slice (some ⟨g,0,none⟩) n cap) _
   refine(ar.bx rfl).2 ⟨rfl,?_⟩
   rw[ai]
   right
   refine⟨g,cap,cur,eU,fr,fun _=>False,?_,⟨rfl,rfl⟩,hw,I5,?_,hm,nh,?_,?_,fun _ h=>h.elim,fun h=>h⟩
   ·simp[ba,e_,aR]
   ·simpa using xc
   ·intro d ab
    obtain⟨x,_,rfl⟩:=List.mem_map.1 ab
    exact he.1 x
   ·rw[List.length_map,ae];exact I0 he ys
  all_goals (show ar _ _ _ _ .hole _ _;rw[ar];trivial)
 old:=fun c ae gC=>jd c ae (fun m8=>by
  rcases aY with aY|aY
  ·rcases h.cl 0 g aY with U|U
   ·exact gC (m8▸U)
   ·omega
  ·omega)
 size:=cm
 os:=bs
 tape:=aM
 output:=hu
 et:=h.et
theorem xd (w:World) (o:Obj):(w.drew.alloc o).heap.size=w.heap.size+1:=Array.size_push ..
theorem BW (w:World) (o:Obj):(w.drew.alloc o).heap[w.heap.size]? =some o:=by
 show(w.heap.push o)[w.heap.size]? =_
 rw[Array.getElem?_push,if_pos rfl]
theorem BX (w:World) (o:Obj) {c:Nat} (h:c<w.heap.size):(w.drew.alloc o).heap[c]? =w.heap[c]? :=by
 show(w.heap.push o)[c]? =_
 rw[Array.getElem?_push,if_neg (by omega)]
theorem BZ (he:nM e fw) {w aq:World} {F X:Nat→Prop} {S:Nat→Nat→Prop} {vs:List Value} {as:List j} (h:aX w F X F S (dh as) (dW vs) w) {row:Array Value} {eU:TypeId} {ys:List α} {cap:Nat} (hw:aq=w.drew.alloc (.cells row eU))
  (ae:row.toList.take (ys.length*2)=ys.flatMap fw) (nh:row.size=cap*2) (xc:ys.length≤cap) (hm:cap≤maxLen) {n:Nat} (aR:n=ys.length) {v1 v2 v3:Value}:
  aX w F X F (fun u c=>u=0∧c=w.heap.size) (dh [.aH 2 (ys.map e),.hole,.hole,.hole]) (dW [.slice (some ⟨w.heap.size,0,none⟩) n cap,v1,v2,v3]) aq:=by
 subst hw
 exact tH he h (.inr (Nat.le_refl _)) (by rw[xd];omega) (by rw[xd];omega) (BW w _) (fun o _ h=>Nat.lt_irrefl _ (Nat.lt_of_le_of_lt (Nat.zero_le _) h.2)) nh xc hm ae (fun c ae _=>BX w _ ae) rfl rfl ⟨rfl,fun _=>Nat.le_succ _⟩ aR
theorem B0 {w:World} {F:Nat→Prop} {s:ag} {ak:Nat→Value} {xs:List j} {v:Value} {S:Nat→Prop} (h:ar w F s ak (.aH 2 xs) v S):
  (xs=[]∧∃a,v= .slice a 0 0)∨∃b cap cur eU fr az,v= .slice (some ⟨b,0,none⟩) xs.length cap∧S b∧w.heap[b]? =some (.cells cur eU fr)∧hM fr (cur.size+1)∧
     xs.length≤cap∧cap≤maxLen∧cur.size=cap*2∧aJ w F xs (cur.toList.take (xs.length*2)) az:=by
 obtain⟨U,aa⟩:=(ar.bx rfl).1 h
 have aC:ba v=[v]:=by
  cases v<;>first|rfl|(cases U)
 rw[aC,ai]at aa
 rcases aa with⟨aw,a,aN⟩|⟨b,cap,cur,eU,fr,az,aw,aN,a8,bI,bO,di,eY,eZ,hq,_⟩
 ·left;exact⟨aw,a,by simpa using aN⟩
 ·right;exact⟨b,cap,cur,eU,fr,az,by simpa using aw,aN,a8,bI,bO,di,eY,hq⟩
theorem xe {iI:Array Value} {cs vs:List Value} {p q:Nat} (an:p≤q) (bX:q+2≤iI.size) (gT:cs.length=q) (jL:vs.length=2)
  (h:∀ad,ad<q+2→iI[ad]? =if ad<p then cs[ad]? else if ad<p+2 then vs[ad-p]? else cs[ad-2]?):iI.toList.take (q+2)=cs.take p++(vs++cs.drop p):=by
 have hl:(cs.take p).length=p:=by rw[List.length_take,gT];omega
 apply List.ext_getElem?
 intro ad
 rw[List.getElem?_take]
 by_cases aU:ad<q+2
 ·rw[if_pos aU,Array.getElem?_toList,h ad aU]
  by_cases U:ad<p
  ·rw[if_pos U,List.getElem?_append_left (by omega),List.getElem?_take,if_pos U]
  ·rw[if_neg U,List.getElem?_append_right (by omega),hl]
   by_cases aa:ad<p+2
   ·rw[if_pos aa,List.getElem?_append_left (by omega)]
   ·rw[if_neg aa,List.getElem?_append_right (by omega),List.getElem?_drop,jL,show p+(ad-p-2)=ad-2 by omega]
 ·rw[if_neg aU,List.getElem?_eq_none (by simp[gT,jL];omega)]
end
end Go.bZ
