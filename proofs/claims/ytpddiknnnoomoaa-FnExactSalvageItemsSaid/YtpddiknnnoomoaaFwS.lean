/- Part of a proof that a law returns true for every input. No condition. -/
import Derived.Test.YtpddiknnnoomoaaFwM
import Derived.Laws.IdiomCopy
namespace Go.bV
section
variable {α:Type} {e:α→j} {fs:α→List Value}
def mQ (e:α→j) (fs:α→List Value):Prop:=(∀x,(e x).wd=2)∧(∀x,(fs x).length=2)∧(∀x,∀v∈fs x,Value.oneCell' v=true)∧∀(w:World) (F:Nat→Prop) (x:α) (cs:List Value) (S:Nat→Prop),al w F (e x) cs S↔cs=fs x
theorem A0 (he:mQ e fs) {w:World} {F:Nat→Prop}:∀(xs:List α) (cs:List Value) (S:Nat→Prop),aH w F (xs.map e) cs S→cs=xs.flatMap fs:=by
 intro xs
 induction xs with
 |nil=>intro cs S h;simpa [aH]using h
 |cons x xs ih=>
  intro cs S h
  simp only[List.map_cons,aH]at h
  obtain⟨bz,bA,bh,cc,rfl,U,aa,_⟩:=h
  rw[(he.2.2.2 _ _ _ _ _).1 U,ih _ _ aa,List.flatMap_cons]
theorem Hw (he:mQ e fs) {w:World} {F:Nat→Prop}:∀(xs:List α),aH w F (xs.map e) (xs.flatMap fs) (fun _=>False):=by
 intro xs
 induction xs with
 |nil=>simp[aH]
 |cons x xs ih=>
  simp only[List.map_cons,aH]
  exact⟨fs x,xs.flatMap fs,_,_,List.flatMap_cons,(he.2.2.2 _ _ _ _ _).2 rfl,ih,fun _ h=>h,fun _ h=>h,fun _ h=>h.elim⟩
theorem A1 (he:mQ e fs) (xs:List α):(xs.flatMap fs).length=xs.length*2:=by
 induction xs with
 |nil=>rfl
 |cons x xs ih=>rw[List.flatMap_cons,List.length_append,he.2.1,ih,List.length_cons];omega
theorem Hy (he:mQ e fs) (xs:List α) (x:α) (i:Nat) (az:i≤xs.length):(xs.take i++x::xs.drop i).flatMap fs=(xs.flatMap fs).take (i*2)++(fs x++(xs.flatMap fs).drop (i*2)):=by
 have U:xs.flatMap fs=(xs.take i).flatMap fs++(xs.drop i).flatMap fs:=by rw[←List.flatMap_append,List.take_append_drop]
 have aa:((xs.take i).flatMap fs).length=i*2:=by rw[A1 he,List.length_take,Nat.min_eq_left az]
 rw[U,List.flatMap_append,List.flatMap_cons,←aa,List.take_left,List.drop_left]
theorem Hz (he:mQ e fs) (xs:List α):∀v∈xs.flatMap fs,Value.oneCell' v=true:=by
 intro v aC
 obtain⟨x,_,ao⟩:=List.mem_flatMap.1 aC
 exact he.2.2.1 x v ao
theorem re (b:Nat):∀(vs:List Value) (o:Nat) (w:World) (cur:Array Value) (eN:TypeId) (fr:Nat×Nat),w.heap[b]? =some (.cells cur eN fr)→
  ∃hZ:Array Value,(w.setCells b o vs).heap[b]? =some (.cells hZ eN fr)∧hZ.size=cur.size∧(∀ad,ad<cur.size→hZ[ad]? =if o≤ad∧ad<o+vs.length then vs[ad-o]? else cur[ad]?)∧
   (∀c,c≠b→(w.setCells b o vs).heap[c]? =w.heap[c]?)∧(w.setCells b o vs).heap.size=w.heap.size∧(w.setCells b o vs).os=w.os∧(w.setCells b o vs).tape=w.tape∧(w.setCells b o vs).output=w.output∧(w.setCells b o vs).drawn=w.drawn:=by
 intro vs
 induction vs with
 |nil=>
  intro o w cur eN fr h
  refine⟨cur,h,rfl,fun ad aS=> ?_,fun _ _=>rfl,rfl,rfl,rfl,rfl,rfl⟩
  rw[if_neg fun h=>absurd h.2 (by have:=h.1;simp only[List.length_nil];omega)]
 |cons v r ih=>
  intro o w cur eN fr h
  have U:(w.setCell ⟨b,o,none⟩ v).heap[b]? =some (.cells (cur.setIfInBounds o v) eN fr):=by
   simp only[World.setCell,Array.getElem?_modify,if_true,h]
   rfl
  obtain⟨hZ,aD,aO,bg,b6,cJ,ec,ew,fE,iJ⟩:=ih (o+1) _ _ _ _ U
  have HA:hZ.size=cur.size:=by simpa using aO
  refine⟨hZ,aD,HA,fun ad aS=> ?_,fun c ae=>(b6 c ae).trans ?_,cJ.trans ?_,ec,ew,fE,iJ⟩
  ·rw[bg ad (by simpa using aS)]
   by_cases HB:ad=o
   ·subst HB
    rw[if_neg (by omega),if_pos (by simp),Nat.sub_self,List.getElem?_cons_zero,Array.getElem?_setIfInBounds_self_of_lt aS]
   ·by_cases pC:o+1≤ad∧ad<o+1+r.length
    ·rw[if_pos pC,if_pos (by simp;omega),show ad-o=(ad-(o+1))+1 by omega,List.getElem?_cons_succ]
    ·rw[if_neg pC,if_neg (by simp;omega),Array.getElem?_setIfInBounds_ne (by omega)]
  ·simp only[World.setCell,Array.getElem?_modify,if_neg (Ne.symm ae)]
  ·simp[World.setCell]
theorem sW (he:mQ e fs) {w aq:World} {F X:Nat→Prop} {S:Nat→Nat→Prop} {vs:List Value} {as:List j} (h:aY w F X F S (df as) (dX vs) w) {g cap:Nat} {cur:Array Value} {eN:TypeId} {fr:Nat×Nat} {ys:List α}
  (aZ:S 0 g∨w.heap.size≤g) (cv:g<aq.heap.size) (cp:w.heap.size≤aq.heap.size) (hw:aq.heap[g]? =some (.cells cur eN fr)) (HC:hb fr (cur.size+1)) (mv:cur.size=cap*2) (wy:ys.length≤cap) (hm:cap≤maxLen)
  (ae:cur.toList.take (ys.length*2)=ys.flatMap fs) (iC:∀c,c<w.heap.size→c≠g→aq.heap[c]? =w.heap[c]?) (bs:aq.os=w.os) (aG:aq.tape=w.tape) (hu:Out aq w) {n:Nat} (aV:n=ys.length) {v1 v2 v3:Value}:
  aY w F X F (fun u c=>u=0∧c=g) (df [.aK 2 (ys.map e),.hole,.hole,.hole]) (dX [.slice (some ⟨g,0,none⟩) n cap,v1,v2,v3]) aq where
 ep:=fun _ h=>h
 eC:=fun b aR=>.inl aR
 c_:=fun c ae=>Nat.lt_of_lt_of_le (h.c_ c ae) cp
 cP:=fun u c ae=>by rw[ae.2];exact cv
 dj:=fun u c ae aR=>by
  rw[ae.2]at aR
  rcases aZ with aZ|aZ
  ·exact h.dj 0 g aZ aR
  ·exact absurd (h.c_ g aR) (by omega)
 c8:=fun u x c cg hu ao=>cg (hu.1.trans ao.1.symm)
 cf:=fun u c ae=>by
  rw[ae.2]
  rcases aZ with aZ|aZ
  ·exact h.cf 0 g aZ
  ·exact .inr aZ
 b0:=fun u=>by
  rcases u with _|_|_|_|u
  ·show ar _ _ _ _ (.aK 2 (ys.map e)) (.slice (some ⟨g,0,none⟩) n cap) _
   refine(ar.bx rfl).2 ⟨rfl,?_⟩
   rw[al]
   right
   refine⟨g,cap,cur,eN,fr,fun _=>False,?_,⟨rfl,rfl⟩,hw,HC,?_,hm,mv,?_,?_,fun _ h=>h.elim,fun h=>h⟩
   ·simp[bd,e9,aV]
   ·simpa using wy
   ·intro d ab
    obtain⟨x,_,rfl⟩:=List.mem_map.1 ab
    exact he.1 x
   ·rw[List.length_map,ae];exact Hw he ys
  all_goals (show ar _ _ _ _ .hole _ _;rw[ar];trivial)
 old:=fun c ae ga=>iC c ae (fun ml=>by
  rcases aZ with aZ|aZ
  ·rcases h.cf 0 g aZ with U|U
   ·exact ga (ml▸U)
   ·omega
  ·omega)
 size:=cp
 os:=bs
 tape:=aG
 output:=hu
 er:=h.er
theorem wz (w:World) (o:Obj):(w.drew.alloc o).heap.size=w.heap.size+1:=Array.size_push ..
theorem A2 (w:World) (o:Obj):(w.drew.alloc o).heap[w.heap.size]? =some o:=by
 show(w.heap.push o)[w.heap.size]? =_
 rw[Array.getElem?_push,if_pos rfl]
theorem A3 (w:World) (o:Obj) {c:Nat} (h:c<w.heap.size):(w.drew.alloc o).heap[c]? =w.heap[c]? :=by
 show(w.heap.push o)[c]? =_
 rw[Array.getElem?_push,if_neg (by omega)]
theorem A4 (he:mQ e fs) {w aq:World} {F X:Nat→Prop} {S:Nat→Nat→Prop} {vs:List Value} {as:List j} (h:aY w F X F S (df as) (dX vs) w) {row:Array Value} {eN:TypeId} {ys:List α} {cap:Nat} (hw:aq=w.drew.alloc (.cells row eN))
  (ae:row.toList.take (ys.length*2)=ys.flatMap fs) (mv:row.size=cap*2) (wy:ys.length≤cap) (hm:cap≤maxLen) {n:Nat} (aV:n=ys.length) {v1 v2 v3:Value}:
  aY w F X F (fun u c=>u=0∧c=w.heap.size) (df [.aK 2 (ys.map e),.hole,.hole,.hole]) (dX [.slice (some ⟨w.heap.size,0,none⟩) n cap,v1,v2,v3]) aq:=by
 subst hw
 exact sW he h (.inr (Nat.le_refl _)) (by rw[wz];omega) (by rw[wz];omega) (A2 w _) (fun o _ h=>Nat.lt_irrefl _ (Nat.lt_of_le_of_lt (Nat.zero_le _) h.2)) mv wy hm ae (fun c ae _=>A3 w _ ae) rfl rfl ⟨rfl,fun _=>Nat.le_succ _⟩ aV
theorem A5 {w:World} {F:Nat→Prop} {s:af} {ak:Nat→Value} {xs:List j} {v:Value} {S:Nat→Prop} (h:ar w F s ak (.aK 2 xs) v S):
  (xs=[]∧∃a,v= .slice a 0 0)∨∃b cap cur eN fr ay,v= .slice (some ⟨b,0,none⟩) xs.length cap∧S b∧w.heap[b]? =some (.cells cur eN fr)∧hb fr (cur.size+1)∧
     xs.length≤cap∧cap≤maxLen∧cur.size=cap*2∧aH w F xs (cur.toList.take (xs.length*2)) ay:=by
 obtain⟨U,aa⟩:=(ar.bx rfl).1 h
 have aC:bd v=[v]:=by
  cases v<;>first|rfl|(cases U)
 rw[aC,al]at aa
 rcases aa with⟨aw,a,aN⟩|⟨b,cap,cur,eN,fr,ay,aw,aN,a2,bJ,bO,dg,eR,eI,gY,_⟩
 ·left;exact⟨aw,a,by simpa using aN⟩
 ·right;exact⟨b,cap,cur,eN,fr,ay,by simpa using aw,aN,a2,bJ,bO,dg,eR,gY⟩
theorem wA {hZ:Array Value} {cs vs:List Value} {p q:Nat} (an:p≤q) (bN:q+2≤hZ.size) (gx:cs.length=q) (i4:vs.length=2)
  (h:∀ad,ad<q+2→hZ[ad]? =if ad<p then cs[ad]? else if ad<p+2 then vs[ad-p]? else cs[ad-2]?):hZ.toList.take (q+2)=cs.take p++(vs++cs.drop p):=by
 have hl:(cs.take p).length=p:=by rw[List.length_take,gx];omega
 apply List.ext_getElem?
 intro ad
 rw[List.getElem?_take]
 by_cases aS:ad<q+2
 ·rw[if_pos aS,Array.getElem?_toList,h ad aS]
  by_cases U:ad<p
  ·rw[if_pos U,List.getElem?_append_left (by omega),List.getElem?_take,if_pos U]
  ·rw[if_neg U,List.getElem?_append_right (by omega),hl]
   by_cases aa:ad<p+2
   ·rw[if_pos aa,List.getElem?_append_left (by omega)]
   ·rw[if_neg aa,List.getElem?_append_right (by omega),List.getElem?_drop,i4,show p+(ad-p-2)=ad-2 by omega]
 ·rw[if_neg aS,List.getElem?_eq_none (by simp[gx,i4];omega)]
end
end Go.bV
