/- Part of a proof that a law returns true for every input. No condition. -/
import Derived.Test.YtocllehpepigpaaGreatFwP
import Derived.Sort.Statements
namespace Go.cZ
open Go.Sort Go.Proofs
theorem WQ {v:Value} (h:Value.gC v=true):Value.oneCell' v=true:=by
 cases v<;>first|rfl|(simp[Value.gC]at h)
theorem WR {w:World} {b:Nat} {cur A:Array Value} {kY:TypeId} {fr:Nat×Nat} (ae:w.heap[b]? =some (.cells cur kY fr)) (wo:oV fr cur.size) (hl:A.size≤cur.size) (aq:cur.toList.take A.size=A.toList):Holds id w b 0 A:=by
 intro j b_
 constructor
 ·have h1:(cur.toList.take A.size)[j]? =some A[j]:=by rw[aq];simp[b_]
  rw[List.getElem?_take,if_pos b_]at h1
  simp only[World.cell?,ae,Nat.zero_add]
  rw[getElem!_pos _ j b_]
  simpa using h1
 ·simp only[World.frozen?,ae,Nat.zero_add]
  have:=wo j (by omega)
  simpa using this
theorem WS (k:Nat):∀(n:Nat) (cs:List Value),cs.length=n*k→(List.range n).flatMap (fun i=>(cs.drop (i*k)).take k)=cs:=by
 intro n
 induction n with
 |zero=>intro cs h;simp at h;subst h;rfl
 |succ n ih=>
  intro cs h
  rw[List.range_succ,List.flatMap_append,List.flatMap_cons,List.flatMap_nil,List.append_nil]
  have h1:(cs.take (n*k)).length=n*k:=by rw[List.length_take,h,Nat.add_mul];omega
  have ah:=ih (cs.take (n*k)) h1
  have aC:(List.range n).flatMap (fun i=>(cs.drop (i*k)).take k)=(List.range n).flatMap (fun i=>((cs.take (n*k)).drop (i*k)).take k):=by
   rw[List.flatMap_eq_foldl,List.flatMap_eq_foldl]
   have:∀i∈List.range n,(cs.drop (i*k)).take k=((cs.take (n*k)).drop (i*k)).take k:=by
    intro i ao
    have ao:=List.mem_range.1 ao
    have:i*k+k≤n*k:=by rw[←Nat.succ_mul];exact Nat.mul_le_mul_right _ ao
    rw[List.drop_take,List.take_take,Nat.min_eq_left (by omega)]
   rw[←List.flatMap_eq_foldl,←List.flatMap_eq_foldl]
   unfold List.flatMap
   rw[List.map_congr_left this]
  rw[aC,ah]
  have a8:(cs.drop (n*k)).take k=cs.drop (n*k):=by
   rw[List.take_of_length_le]
   rw[List.length_drop,h,Nat.add_mul];omega
  rw[a8,List.take_append_drop]
theorem WT {w:World} {F:Nat→Prop} {s:ar} {aA:Nat→Value} {k:Nat} {xs:List I} {v:Value} {S:Nat→Prop} (h:aL w F s aA (.an k xs) v S):
  (xs=[]∧∃a,v= .slice a 0 0)∨∃b cap cur kY fr aR,v= .slice (some ⟨b,0,none⟩) xs.length cap∧S b∧w.heap[b]? =some (.cells cur kY fr)∧oV fr cur.size∧
     xs.length≤cap∧cap≤maxLen∧cur.size=cap*k∧bc w F xs (cur.toList.take (xs.length*k)) aR∧(∀c,aR c→S c)∧¬aR b:=by
 obtain⟨h1,ah⟩:=(aL.cV rfl).1 h
 have aM:cC v=[v]:=by
  cases v<;>first|rfl|(cases h1)
 rw[aM,ax]at ah
 rcases ah with⟨aC,a,a8⟩|⟨b,cap,cur,kY,fr,aR,aC,a8,bK,cU,cJ,fw,hR,h3,lf,WU,WV⟩
 ·left;exact⟨aC,a,by simpa using a8⟩
 ·right;exact⟨b,cap,cur,kY,fr,aR,by simpa using aC,a8,bK,cU,cJ,fw,hR,lf,WU,WV⟩
theorem bl.WW {C:cw} (yG:AS=true) {f g:FuncId} (WX:∀args w,(callFunc f args).run C.P w= .ok (.enter f args) w) (WY:∀args w,(callFunc g args).run C.P w= .ok (.enter g args) w)
  {α:Type} {e:α→I} {k:Nat} (he:∀x,(e x).wd=k) (M7:∀x,∃ay,(e x).share= .agg ay) (wt:α→α→Int) (cr:∀x y,bl C g [(e x).share,(e y).share] (.int .i64 (wt x y)) []) (yI:SWO fun x y=>decide (wt x y<0))
  (xs ys:List α) (df:xs≠[]) (a6:xs.length<4611686018427387904) (hu:∀eG:List α,eG.Perm xs→eG.Pairwise (fun a b=>0≤wt b a)→eG=ys)
  (h1:∀(enc:Nat→List Value),(∀i,(enc i).length=k)→(∀i,∀v∈enc i,Value.oneCell' v=true)→∀(yJ:Nat→Nat→Int),SWO (fun x y=>decide (yJ x y<0))→∀(w:World) (b cap:Nat) (d:Array Nat),
   (∀(m:Nat) (os:Array Obj) (pn:Array Nat),pn.size=d.size→∀x y:Nat,Calls C.P g (#[.agg (enc x).toArray,.agg (enc y).toArray]++ #[]) (sortWorldK enc k w b 0 m pn os) fun e aG=>e= .returned (.int .i64 (yJ x y))∧∃q Hk,aG=grow ((sortWorldK enc k w b 0 m pn os).drewN q) Hk)→
   HoldsK enc k w b 0 d→b<w.heap.size→d.size<4611686018427387904→
   Calls C.P f #[.slice (some ⟨b,0,none⟩) d.size cap,.func (.func g) #[] #[]] w fun ex aG=>ex= .returned (.tuple #[])∧∃bp n os,PermIn 0 d.size d bp∧SortedIn (fun x y=>decide (yJ x y<0)) 0 d.size bp∧aG=sortWorldK enc k w b 0 n bp os):
  bl C f [.an k (xs.map e),.fn g []] (.tuple []) [.an k (ys.map e),.hole]:=by
 intro w F X S vs rM aX
 obtain⟨v,v1,rfl⟩:∃v v1,vs=[v,v1]:=by
  match vs,rM with
  |[v,v1],_=>exact⟨v,v1,rfl⟩
 have yD:v1= .func (.func g) #[] #[]:=by
  have:=aX.dF 1
  have ah:aL w F (fI [.an k (xs.map e),.fn g []]) (hs [v,v1]) (.fn g []) v1 (S 1):=this
  rw[aL]at ah
  obtain⟨arr,cE,ae⟩:=ah
  rw[cE]
  cases hl:arr.toList with
  |nil=>rw[show arr= #[]from Array.toList_inj.1 (by simpa using hl)]
  |cons x r=>rw[hl,eA]at ae;cases ae
 subst yD
 have Vq:0<xs.length:=List.length_pos_iff.2 df
 rcases WT (aX.dF 0)with⟨aw,a,aM⟩|⟨b,cap,cur,kY,fr,aR,aM,b1,ae,wo,M8,hm,hb,gv,M9,M_⟩
 ·exact(df (by simpa using aw)).elim
 have aM:v= .slice (some ⟨b,0,none⟩) xs.length cap:=by rw[List.length_map]at aM;exact aM
 subst aM
 simp only[List.length_map]at M8 gv
 obtain⟨hlen,T,vd,Hl,WZ⟩:=M4 he xs _ _ gv
 have hle:xs.length*k≤cur.size:=by rw[hb];exact Nat.mul_le_mul_right _ M8
 let wu:Nat→Nat:=fun i=>if i<xs.length then i else 0
 have Na:∀i,wu i<xs.length:=fun i=>by
  show(if i<xs.length then i else 0)<xs.length
  split<;>omega
 let kF:Nat→α:=fun i=>xs[wu i]'(Na i)
 let enc:Nat→List Value:=fun i=>((cur.toList.take (xs.length*k)).drop (wu i*k)).take k
 have BZ:∀i,ax w F (e (kF i)) (enc i) (T (wu i)):=fun i=>vd (wu i) (Na i)
 have Hm:∀i,(enc i).length=k:=fun i=>by rw[ax.length _ _ _ (BZ i)];exact he _
 have Nb:∀c,(F c∨aR c)→c<w.heap.size:=fun c aq=>aq.elim (aX.fm c) (fun h=>aX.eD 0 c (M9 c h))
 have Nc:∀i,ax w (fun c=>F c∨aR c) (e (kF i)).share (enc i) (fun _=>False):=fun i=>ax.shared (fun c h=>.inl h) _ _ _ (fun c aq=>.inr (Hl _ c aq)) (BZ i)
 have vc:∀i,∀v∈enc i,Value.oneCell' v=true:=fun i v aM=>WQ (ax.rD _ _ _ (BZ i) v aM)
 have Hi:=aX.eD 0 b b1
 have W0:¬F b:=aX.fz 0 b b1
 have W1:(flatK enc k (Array.range xs.length)).toList=cur.toList.take (xs.length*k):=by
  rw[M6 enc k Hm,Array.toList_range]
  have aS:(List.range xs.length).flatMap enc=(List.range xs.length).flatMap (fun i=>((cur.toList.take (xs.length*k)).drop (i*k)).take k):=by
   unfold List.flatMap
   rw[List.map_congr_left]
   intro i ao
   have ao:=List.mem_range.1 ao
   show((cur.toList.take (xs.length*k)).drop ((if i<xs.length then i else 0)*k)).take k=_
   rw[if_pos ao]
  rw[aS]
  exact WS k xs.length _ hlen
 have dR:(flatK enc k (Array.range xs.length)).size=xs.length*k:=by simp
 have hH:HoldsK enc k w b 0 (Array.range xs.length):=WR ae wo (by rw[dR];exact hle) (by rw[dR,W1])
 have Hn:∀(m:Nat) (os:Array Obj) (pn:Array Nat),pn.size=(Array.range xs.length).size→∀x y:Nat,Calls C.P g (#[.agg (enc x).toArray,.agg (enc y).toArray]++ #[]) (sortWorldK enc k w b 0 m pn os) fun ex aG=>ex= .returned (.int .i64 (wt (kF x) (kF y)))∧∃q Hk,aG=grow ((sortWorldK enc k w b 0 m pn os).drewN q) Hk:=by
  intro m os pn _ x y
  have wm:=WJ yG WY (aa:=[(e (kF x)).share,(e (kF y)).share]) (vs:=[.agg (enc x).toArray,.agg (enc y).toArray]) (w:=w) (F:=fun c=>F c∨aR c) Nb rfl (fun i a v cE aM=>by
   rcases i with _|_|i
   ·simp only[List.getElem?_cons_zero,Option.some.injEq]at cE aM
    subst cE aM
    obtain⟨ay,s0⟩:=M7 (kF x)
    refine⟨by rw[s0];rfl,by rw[s0];exact⟨_,rfl⟩,?_⟩
    have:=Nc x
    simpa [cC,h6]using this
   ·simp only[List.getElem?_cons_succ,List.getElem?_cons_zero,Option.some.injEq]at cE aM
    subst cE aM
    obtain⟨ay,s0⟩:=M7 (kF y)
    refine⟨by rw[s0];rfl,by rw[s0];exact⟨_,rfl⟩,?_⟩
    have:=Nc y
    simpa [cC,h6]using this
   ·simp at cE) (cr (kF x) (kF y)) rfl (sortWorldK enc k w b 0 m pn os) (fun c aq=>by
    have W2:=Nb c aq
    have df:c≠b:=fun h=>aq.elim (fun ah=>W0 (h▸ah)) (fun ah=>M_ (h▸ah))
    unfold sortWorldK
    rw[Hh _ _ (by rw[show(putRowK enc k (Sort.ahead w m) b 0 pn).heap.size=w.heap.size from size_putRow ..];exact W2)]
    simp only[putRowK,putRow,mapBlock,Array.getElem?_modify,if_neg (Ne.symm df)]
    rfl) (by
    unfold sortWorldK
    rw[size_grow,show(putRowK enc k (Sort.ahead w m) b 0 pn).heap.size=w.heap.size from size_putRow ..];omega)
  simpa using wm
 have W3:SWO fun x y=>decide (wt (kF x) (kF y)<0):=⟨fun x=>yI.irrefl _,fun x y z=>yI.trans _ _ _,fun x y z=>yI.ntrans _ _ _⟩
 have vu:=h1 enc Hm vc (fun x y=>wt (kF x) (kF y)) W3 w b cap (Array.range xs.length) Hn hH Hi (by simpa using a6)
 simp only[Array.size_range]at vu
 refine .inl ⟨WX _ _,vu.mono ?_⟩
 rintro ex aG ⟨rfl,bp,n,os,au,ag,hw⟩
 obtain⟨W4,va,W5⟩:=au
 have ha:bp.size=xs.length:=by simpa using W4
 have Ho:bp.toList.Perm (List.range xs.length):=by
  have:=W5
  rw[show bp.extract 0 xs.length=bp by rw[←ha];simp,show(Array.range xs.length).extract 0 xs.length=Array.range xs.length by simp]at this
  simpa using this
 have Nd:bp.toList.map kF=ys:=by
  refine hu _ ?_ ?_
  ·have ah:=Ho.map kF
   have aC:(List.range xs.length).map kF=xs:=by
    apply List.ext_getElem?
    intro i
    by_cases ao:i<xs.length
    ·rw[List.getElem?_map,List.getElem?_range ao,List.getElem?_eq_getElem ao]
     simp only[Option.map_some,Option.some.injEq]
     show xs[if i<xs.length then i else 0]'_=xs[i]
     congr 1
     rw[if_pos ao]
    ·rw[List.getElem?_eq_none (by simp;omega),List.getElem?_eq_none (by omega)]
   rw[aC]at ah
   exact ah
  ·rw[List.pairwise_iff_getElem]
   intro i j ao b_ q0
   have vo:i<bp.size:=by simpa using ao
   have W6:j<bp.size:=by simpa using b_
   have:=ag i j (Nat.zero_le _) q0 (by omega)
   rw[getElem!_pos bp i vo,getElem!_pos bp j W6]at this
   simp only[List.getElem_map,Array.getElem_toList]
   simpa using this
 have tv:ys.length=xs.length:=by rw[←Nd];simpa using ha
 have iQ:(flatK enc k bp).size=ys.length*k:=by simp[ha,tv]
 have W7:∀i,i<xs.length→wu i=i:=fun i ao=>if_pos ao
 have r1:∀i∈bp.toList,i<xs.length:=fun i ao=>List.mem_range.1 (Ho.mem_iff.1 ao)
 have W8:bc w F (ys.map e) (flatK enc k bp).toList (fun c=>∃i∈bp.toList,T i c):=by
  rw[M6 enc k Hm,←Nd,List.map_map]
  refine M5 (e:=e∘kF) (T:=T) enc WZ bp.toList (Ho.nodup_iff.2 List.nodup_range) (fun y bt=> ?_)
  have:=BZ y
  rw[W7 y (r1 y bt)]at this
  exact this
 refine⟨_,rfl,F,_,WM he (t:=1) aX b1 ae wo hb (by omega) hm iQ (fun c ⟨i,_,aq⟩=>M9 c (Hl i c aq)) (fun⟨i,_,aq⟩=>M_ (Hl i b aq)) W8 (n:=n) (os:=os) (by rw[hw];rfl) rfl (by show Value.slice _ _ _=_;rw[tv]) ?_⟩
 intro u hu
 rcases u with _|_|u
 ·exact .inr ⟨rfl,rfl⟩
 ·exact(hu rfl).elim
 ·refine .inl ?_
  cases u<;>rfl
end Go.cZ
