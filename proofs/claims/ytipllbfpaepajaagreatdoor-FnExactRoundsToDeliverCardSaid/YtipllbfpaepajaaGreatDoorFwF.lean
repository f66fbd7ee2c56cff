/- Part of a proof that a law returns true for every input. No condition. -/
import Derived.Test.YtipllbfpaepajaaGreatDoorFwE
import Derived.Orders
import Derived.KernelRfl
import Derived.Test.YtipllbfpaepajaaGreatDoorFwA
namespace Go.b9
section
variable {C:bq} {w0 w:World} {F0 X:Nat→Prop} {n:Fr} {ρ:Nat→Value} {s s1:aj} {a:Act} {av:I} {Q:Exit→Act→World→Prop}
def bm.un (o:bm):bm:=⟨o.dst,o.a_.base,o.guard⟩
theorem yc {ops:Array Oper}:∀{os:List Oper} {rs:List bm},mn n ops os=some rs→os.length=rs.length∧∀(i:Nat) (o:Oper),os[i]? =some o→∃r,rs[i]? =some r∧mm n ops o=some r:=by
 intro os
 induction os with
 |nil=>intro rs h;simp only[mn,Option.some.injEq]at h;subst h;exact⟨rfl,fun i o h=>by simp at h⟩
 |cons o os ih=>
  intro rs h
  simp only[mn]at h
  split at h
  ·rename_i r Y3 aa ad
   simp only[Option.some.injEq]at h;subst h
   obtain⟨bx,bF⟩:=ih ad
   refine⟨by simp[bx],fun i kr bI=> ?_⟩
   cases i with
   |zero=>simp at bI;subst bI;exact⟨r,rfl,aa⟩
   |succ i=>simpa using bF i kr (by simpa using bI)
  ·cases h
theorem yd {o:Oper} {y:Nat→Option Bool} (h:o.guard=none):Region.wanted o y=true:=by simp[Region.wanted,h]
theorem Ji (h:Rel w0 F0 X n ρ s a w) {ops:Array Oper} {j t:Nat} (bY:(ops[j]?).bind (·.dst)=some t):
  (∀b,s t= .bool b→yielded ops a.tmps j=some b)∧(s t= .tuple []→yielded ops a.tmps j=none):=by
 obtain⟨ae,U,bh,F,S,aC⟩:=h
 have gx:=aC.cd t
 refine⟨fun b R=> ?_,fun R=> ?_⟩
 ·rw[R]at gx
  have aE:=nY gx
  simp only[yielded,bY,Option.bind_some]
  rw[Array.getD_eq_getD_getElem?]at aE
  cases hg:a.tmps[t]? with
  |none=>rw[hg]at aE;simp[undef]at aE
  |some v=>rw[hg]at aE;simp at aE;subst aE;rfl
 ·rw[R]at gx
  obtain⟨⟨arr,aa,ad⟩,_⟩:=(ax.bJ (d:=.tuple []) rfl).1 gx
  simp only[yielded,bY,Option.bind_some]
  rw[Array.getD_eq_getD_getElem?]at aa
  cases hg:a.tmps[t]? with
  |none=>rfl
  |some v=>rw[hg]at aa;simp at aa;subst aa;rfl
theorem ye (aT:C.db) {ops:Array Oper} {ros:List bm} {l2:List Nat} {K:aj→Prop} (aW:∀aq b2 aw,K aq→Rel w0 F0 X n ρ aq b2 aw→wpOps C.P ops Q l2 b2 aw):
  ∀(l:List Nat),(∀i∈l,(ops[i]? =none→ros[i]? =none)∧∀o,ops[i]? =some o→∃r,ros[i]? =some r∧mm n ops o=some r.un)→
  ∀(s:aj) (a:Act) (w:World),hc C ros s l K→Rel w0 F0 X n ρ s a w→wpOps C.P ops Q (l++l2) a w:=by
 intro l
 induction l with
 |nil=>intro _ s a w h aC;exact aW s a w h aC
 |cons i l ih=>
  intro oc s a w h aC
  replace ih:=ih fun i aA=>oc i (List.mem_cons_of_mem _ aA)
  rw[List.cons_append]
  simp only[wpOps]
  cases bI:ops[i]? with
  |none=>
   simp only[hc,(oc i (by simp)).1 bI]at h
   exact ih s a w h aC
  |some o=>
   obtain⟨r,aa,ad⟩:=(oc i (by simp)).2 o bI
   simp only[hc,aa]at h
   show(if Region.wanted o (yielded ops a.tmps)=true then o.wp C.P a w (wpOps C.P ops Q (l++l2)) Q∨(o.asks C.P a w∧LetsOut Q)else wpOps C.P ops Q (l++l2) (a.put o.dst undef) w)
   simp only[mm]at ad
   split at ad
   ·rename_i uW
    split at ad
    ·rename_i g hg
     obtain⟨rd,a_,rg⟩:=r
     simp only[bm.un,Option.some.injEq,bm.mk.injEq]at ad
     obtain⟨rfl,bA,rfl⟩:=ad
     simp only[i6]at h
     have run:∀(bC:aj→Prop),(∀aq,bC aq→hc C ros aq l K)→k3 C s a_ (fun av s1=>bC (fin s1 o.dst av))→o.wp C.P a w (wpOps C.P ops Q (l++l2)) Q:=
      fun bC hd hw=>Jf aT aC bA uW hw (fun aq b2 aw ar cU=>ih aq b2 aw (hd aq ar) cU)
     cases qD:o.guard with
     |none=>
      rw[qD]at hg
      simp only[sP,Option.some.injEq]at hg;subst hg
      simp only at h
      rw[if_pos (yd qD)]
      exact .inl (run _ (fun _ h=>h) h)
     |some yf=>
      obtain⟨j,b⟩:=yf
      rw[qD]at hg
      simp only[sP]at hg
      split at hg
      ·rename_i t aN
       simp only[Option.some.injEq]at hg;subst hg
       simp only at h
       obtain⟨kq,sI⟩:=Ji aC aN
       have B_:∀(bC:hc C ros (fin s o.dst (.tuple [])) l K),wpOps C.P ops Q (l++l2) (a.put o.dst undef) w:=fun bC=>ih _ _ _ bC (Rel.skip aC uW)
       split at h
       ·rename_i dG U
        have hy:=kq dG U
        split at h
        ·rename_i R;subst R
         rw[if_pos (by simp[Region.wanted,qD,hy])]
         exact .inl (run _ (fun _ h=>h) h)
        ·rename_i R
         rw[if_neg (by simp[Region.wanted,qD,hy,R])]
         exact B_ h
       ·rename_i U
        have hy:=sI U
        rw[if_neg (by simp[Region.wanted,qD,hy])]
        exact B_ h
       ·exact h.elim
      ·cases hg
    ·cases ad
   ·cases ad
theorem Ca (aT:C.db) {ops:Array Oper} {ros:List bm} (od:mn n ops ops.toList=some (ros.map bm.un)) {K:aj→Prop} (aW:∀aq b2 aw,K aq→Rel w0 F0 X n ρ aq b2 aw→Q .normal b2 aw):
  ∀(l:List Nat) (s:aj) (a:Act) (w:World),hc C ros s l K→Rel w0 F0 X n ρ s a w→wpOps C.P ops Q l a w:=by
 obtain⟨aJ,oc⟩:=yc od
 intro l s a w h aC
 have:=ye (Q:=Q) aT (ros:=ros) (ops:=ops) (l2:=[]) (K:=K) (n:=n) (ρ:=ρ) (w0:=w0) (F0:=F0) (X:=X) (fun aq b2 aw ar cU=>aW aq b2 aw ar cU) l (fun i _=>⟨fun bI=>by
   rw[List.getElem?_eq_none_iff,←List.length_map (f:=bm.un),←aJ]
   have:=Array.getElem?_eq_none_iff.1 bI
   simpa using this,fun o bI=>by
   obtain⟨aR,fj,ad⟩:=oc i o (by simpa using bI)
   obtain⟨r,aa,rfl⟩:∃r,ros[i]? =some r∧r.un=aR:=by simpa using fj
   exact⟨r,aa,ad⟩⟩) s a w h aC
 rwa [List.append_nil]at this
theorem Rel.drawn (h:Rel w0 F0 X n ρ s a w) (k:Nat) (ar:w.drawn≤k):Rel w0 F0 X n ρ s a {w with drawn:=k}:=by
 obtain⟨aa,ad,bh,F,S,aB⟩:=h
 exact⟨aa,ad,bh,F,S,aB.grow (fun _ _=>rfl) (Nat.le_refl _) rfl rfl ⟨rfl,fun _=>ar⟩⟩
theorem Jj (aT:C.db) {id:Nat} {ops:Array Oper} {ros:List bm} (od:mn n ops ops.toList=some (ros.map bm.un)) {K:aj→Prop} (aW:∀aq b2 aw,K aq→Rel w0 F0 X n ρ aq b2 aw→Q .normal b2 aw)
  (h:iF C s ros K) (aC:Rel w0 F0 X n ρ s a w):(Code.region id ops false).wp C.P Q a w:=by
 refine wp_region (Ca aT od aW _ s a w ?_ aC)
 have:=IY C K ros [] s h
 have aJ:=(yc od).1
 simp only[List.nil_append,List.length_nil,Nat.add_zero,List.map_id']at this
 rw[List.length_map]at aJ
 rw[←aJ]at this
 simpa using this
end
def yg (lM:List (List Nat)) (l:List Nat):Prop:=
 l.Nodup∧(∀i,i∈l↔i<lM.length)∧∀u i v,l=u++i::v→∀e∈(lM[i]?).getD [],e∈u
def k4 (ops:Array Oper):List (List Nat):=ops.toList.map fun o=>(o.after.toList.filter fun e=>Region.binds .any e).map (·.on)
def sT (lM:List (List Nat)):Bool:=lM.zipIdx.all fun p=>p.1.all fun e=>decide (e<p.2)
theorem Jk {lM:List (List Nat)} (h:sT lM=true) {i:Nat} {l:List Nat} (aA:lM[i]? =some l):∀e∈l,e<i:=by
 intro e he
 simp only[sT,List.all_eq_true]at h
 have:=h (l,i) (by rw[List.mem_zipIdx_iff_getElem?];exact aA) e he
 simpa using this
theorem Jl {ops:Array Oper} (R:sT (k4 ops)=true):∀(fuel t:Nat) (listed:Array Bool),listed.size=ops.size→((List.range ops.size).filter fun i=> !listed.getD i true).length≤fuel→
  (Region.linearise.go .any ops fuel t listed []).Nodup∧(∀i,i∈Region.linearise.go .any ops fuel t listed []↔(i<ops.size∧listed.getD i true=false))∧
   ∀u i v,Region.linearise.go .any ops fuel t listed []=u++i::v→∀e∈((k4 ops)[i]?).getD [],listed.getD e false=true∨e∈u:=by
 intro fuel
 induction fuel with
 |zero=>
  intro t listed U aJ
  have sB:((List.range ops.size).filter fun i=> !listed.getD i true)=[]:=List.length_eq_zero_iff.1 (Nat.le_zero.1 aJ)
  refine⟨by simp[Region.linearise.go],fun i=> ?_,fun u i v h=>by simp[Region.linearise.go]at h⟩
  simp only[Region.linearise.go,List.reverse_nil,List.not_mem_nil,false_iff,not_and]
  intro aA bh
  have:i∈((List.range ops.size).filter fun i=> !listed.getD i true):=List.mem_filter.2 ⟨List.mem_range.2 aA,by rw[bh];rfl⟩
  rw[sB]at this;cases this
 |succ fuel ih=>
  intro t listed U aJ
  have Cb:∀i,i∈Region.ready .any ops listed↔(i<ops.size∧listed.getD i true=false∧∀e∈((k4 ops)[i]?).getD [],listed.getD e false=true):=by
   intro i
   simp only[Region.ready,List.mem_filter,List.mem_range,Bool.and_eq_true,Bool.not_eq_true']
   constructor
   ·rintro⟨aa,ad,aB⟩
    refine⟨aa,ad,?_⟩
    rw[Array.getElem?_eq_getElem aa]at aB
    simp only[Option.map_some,Option.getD_some,Array.all_eq_true_iff_forall_mem]at aB
    simp only[k4,List.getElem?_map,Array.getElem?_toList,Array.getElem?_eq_getElem aa,Option.map_some,Option.getD_some,List.mem_map,List.mem_filter]
    rintro e ⟨x,⟨ao,pn⟩,rfl⟩
    have:=aB x (by simpa using ao)
    simpa [pn]using this
   ·rintro⟨aa,ad,aB⟩
    refine⟨aa,ad,?_⟩
    rw[Array.getElem?_eq_getElem aa]
    simp only[Option.map_some,Option.getD_some,Array.all_eq_true_iff_forall_mem]
    simp only[k4,List.getElem?_map,Array.getElem?_toList,Array.getElem?_eq_getElem aa,Option.map_some,Option.getD_some,List.mem_map,List.mem_filter]at aB
    intro x ao
    cases pn:Region.binds .any x with
    |false=>simp
    |true=>simpa using aB x.on ⟨x,⟨by simpa using ao,pn⟩,rfl⟩
  have hex:(∃i,i<ops.size∧listed.getD i true=false)→Region.ready .any ops listed≠[]:=by
   rintro⟨i,aa,ad⟩
   have:∃i,(i<ops.size∧listed.getD i true=false)∧∀j,j<i→¬(j<ops.size∧listed.getD j true=false):=by
    induction i using Nat.strongRecOn with
    |_ i Jm=>
     by_cases bY:∃j,j<i∧(j<ops.size∧listed.getD j true=false)
     ·obtain⟨j,Jn,Jo,Jp⟩:=bY
      exact Jm j Jn Jo Jp
     ·exact⟨i,⟨aa,ad⟩,fun j Jq ai=>bY ⟨j,Jq,ai⟩⟩
   obtain⟨k,⟨bx,bF⟩,c7⟩:=this
   have:k∈Region.ready .any ops listed:=(Cb k).2 ⟨bx,bF,fun e he=>by
    cases bQ:(k4 ops)[k]? with
    |none=>rw[bQ]at he;simp at he
    |some l=>
     rw[bQ]at he
     have cY:=Jk R bQ e he
     have:=c7 e cY
     rw[not_and]at this
     have:=this (by omega)
     have yh:e<listed.size:=by omega
     simp only[Array.getD_eq_getD_getElem?,Array.getElem?_eq_getElem yh,Option.getD_some]at this⊢
     simpa using this⟩
   intro e;rw[e]at this;cases this
  have Cc:Region.linearise.go .any ops (fuel+1) t listed []=(match(Region.ready .any ops listed)[t%(Region.ready .any ops listed).length]? with
   |some i=>Region.linearise.go .any ops fuel (t/(Region.ready .any ops listed).length) (listed.setIfInBounds i true) [i]
   |none=>[]):=rfl
  cases sU:(Region.ready .any ops listed)[t%(Region.ready .any ops listed).length]? with
  |none=>
   have sB:Region.ready .any ops listed=[]:=by
    cases aC:Region.ready .any ops listed with
    |nil=>rfl
    |cons a l=>
     rw[aC]at sU
     have:=List.getElem?_eq_none_iff.1 sU
     have ad:=Nat.mod_lt t (show 0<(a::l).length by simp)
     omega
   rw[Cc,sU]
   refine⟨by simp,fun i=> ?_,fun u i v h=>by simp at h⟩
   simp only[List.not_mem_nil,false_iff]
   intro aA
   exact hex ⟨i,aA⟩ sB
  |some i=>
   have aA:=(Cb i).1 (List.mem_of_getElem? sU)
   obtain⟨sV,Cd,Jr⟩:=aA
   rw[Cc,sU]
   simp only
   rw[linearise_go_acc]
   simp only[List.reverse_singleton,List.singleton_append]
   have nX:∀j d,(listed.setIfInBounds i true).getD j d=if j=i then true else listed.getD j d:=by
    intro j d
    split
    ·rename_i e;subst e
     simp[Array.getD_eq_getD_getElem?,Array.getElem?_setIfInBounds_self_of_lt (show j<listed.size by omega)]
    ·rename_i e
     simp[Array.getD_eq_getD_getElem?,Array.getElem?_setIfInBounds_ne (fun h=>e h.symm)]
   obtain⟨g1,g2,g3⟩:=ih (t/(Region.ready .any ops listed).length) (listed.setIfInBounds i true) (by simpa using U) (by
    have dj:((List.range ops.size).filter fun j=> !(listed.setIfInBounds i true).getD j true)=((List.range ops.size).filter fun i=> !listed.getD i true).filter fun j=>decide (j≠i):=by
     rw[List.filter_filter]
     apply List.filter_congr
     intro j _
     rw[nX]
     by_cases e:j=i<;>simp[e]
    rw[dj]
    have cY:(((List.range ops.size).filter fun i=> !listed.getD i true).filter fun j=>decide (j≠i)).length<((List.range ops.size).filter fun i=> !listed.getD i true).length:=by
     rw[List.length_filter_lt_length_iff_exists]
     exact⟨i,List.mem_filter.2 ⟨List.mem_range.2 sV,by rw[Cd];rfl⟩,by simp⟩
    omega)
   refine⟨?_,fun j=> ?_,?_⟩
   ·rw[List.nodup_cons]
    refine⟨fun hm=> ?_,g1⟩
    have:=((g2 i).1 hm).2
    rw[nX,if_pos rfl]at this;cases this
   ·rw[List.mem_cons,g2,nX]
    by_cases e:j=i
    ·subst e;simp[sV,Cd]
    ·simp[e]
   ·intro u j v h e he
    cases u with
    |nil=>
     simp only[List.nil_append,List.cons.injEq]at h
     obtain⟨rfl,rfl⟩:=h
     exact .inl (Jr e he)
    |cons uX u=>
     simp only[List.cons_append,List.cons.injEq]at h
     obtain⟨rfl,h⟩:=h
     rcases g3 u j v h e he with aQ|aQ
     ·rw[nX]at aQ
      split at aQ
      ·rename_i ew;subst ew;exact .inr (by simp)
      ·exact .inl aQ
     ·exact .inr (by simp[aQ])
theorem Js {ops:Array Oper} (R:sT (k4 ops)=true) (t:Nat):yg (k4 ops) (Region.linearise .any ops t):=by
 have Ce:∀i d,i<ops.size→(Array.replicate ops.size false).getD i d=false:=by
  intro i d aA
  simp[Array.getD_eq_getD_getElem?,aA]
 obtain⟨g1,g2,g3⟩:=Jl R ops.size t (Array.replicate ops.size false) (by simp) (by
  have:=List.length_filter_le (fun i=> !(Array.replicate ops.size false).getD i true) (List.range ops.size)
  simpa using this)
 have hlen:(k4 ops).length=ops.size:=by simp[k4]
 refine⟨g1,fun i=> ?_,fun u i v h e he=> ?_⟩
 ·rw[hlen]
  rw[show Region.linearise .any ops t=Region.linearise.go .any ops ops.size t (Array.replicate ops.size false) []from rfl,g2]
  exact⟨fun h=>h.1,fun h=>⟨h,Ce i true h⟩⟩
 ·rcases g3 u i v h e he with aQ|aQ
  ·exfalso
   by_cases Cf:e<ops.size
   ·rw[Ce e false Cf]at aQ;cases aQ
   ·simp[Array.getD_eq_getD_getElem?,Cf]at aQ
  ·exact aQ
def J:List (Nat×I)→aj
 |[],_=>.hole
 |(u,d)::l,t=>if t=u then d else J l t
mutual
inductive dy:I→I→Prop
 |refl (d:I):dy d d
 |i_ (sz:Nat):dy .bH (.aK sz [])
 |qE:dy .bH (.slice [])
 |any (b:Bool):dy (.bool b) .dd
 |share (d:I):d.tree=true→(∀vs,d≠.tuple vs)→(∀o,d≠.cA o)→dy d d.share
 |agg {ds es:List I}:hN ds es→dy (.agg ds) (.agg es)
 |a1 {d e:I}:dy d e→dy (.a1 d) (.a1 e)
 |aK {sz:Nat} {ds es:List I}:hN ds es→dy (.aK sz ds) (.aK sz es)
 |tuple {ds es:List I}:hN ds es→dy (.tuple ds) (.tuple es)
 |ref {d e:I}:dy d e→dy (.ref d) (.ref e)
 |trans {d e f:I}:dy d e→dy e f→dy d f
inductive hN:List I→List I→Prop
 |nil:hN [] []
 |cons {d e:I} {ds es:List I}:dy d e→hN ds es→hN (d::ds) (e::es)
end
mutual
theorem dy.wd:∀{d e:I},dy d e→e.wd=d.wd
 |_,_,.refl _=>rfl
 |_,_,.i_ _=>rfl
 |_,_,.qE=>rfl
 |_,_,.any _=>rfl
 |_,_,.share d _ _ _=>I.uk d
 |_,_,.agg h=>by simp only[I.wd];exact hN.wd h
 |_,_,.a1 _=>rfl
 |_,_,.aK _=>rfl
 |_,_,.tuple h=>by simp only[I.wd];exact hN.wd h
 |_,_,.ref _=>rfl
 |_,_,.trans h k=>(dy.wd k).trans (dy.wd h)
theorem hN.wd:∀{ds es:List I},hN ds es→I.cH es=I.cH ds
 |_,_,.nil=>rfl
 |_,_,.cons h U=>by simp only[I.cH];rw[dy.wd h,hN.wd U]
end
theorem hN.len {ds es:List I} (h:hN ds es):es.length=ds.length:=by
 induction ds generalizing es with
 |nil=>cases h;rfl
 |cons d ds ih=>cases h with|cons h U=>simp[ih U]
theorem hN.all {sz:Nat} {ds es:List I} (h:hN ds es) (ae:∀d∈ds,d.wd=sz):∀d∈es,d.wd=sz:=by
 induction ds generalizing es with
 |nil=>cases h;intro d ae;cases ae
 |cons d ds ih=>
  cases h with
  |cons h U=>
   intro x ao
   rcases List.mem_cons.1 ao with rfl|ao
   ·rw[h.wd];exact ae d (by simp)
   ·exact ih U (fun d hm=>ae d (by simp[hm])) x ao
section
variable {w0 w:World} {F0 X F:Nat→Prop} {S:Nat→Nat→Prop} {s aq:aj} {an:Nat→Value}
def Jt (w:World) (F:Nat→Prop) (_d e:I) (cs:List Value) (S:Nat→Prop):Prop:=
 ∃fC fD:Nat→Prop,(∀b,fC b→S b)∧(∀b,fD b→S b)∧(∀b,fD b→¬fC b)∧∀bc,(∀b,F b∨fC b→bc b)→al w bc e cs fD
mutual
theorem al.wider:∀{d e:I},dy d e→∀{F:Nat→Prop} {cs:List Value} {S:Nat→Prop},al w F d cs S→Jt w F d e cs S
 |_,_,.refl _,F,cs,S,h=>⟨fun _=>False,S,fun _ h=>h.elim,fun _ h=>h,fun _ _ h=>h,fun bc aX=>al.mono (fun b R=>aX b (.inl R)) _ _ _ _ (fun _ h=>h) h⟩
 | .bH,_,.i_ sz,F,cs,S,h=>⟨fun _=>False,S,fun _ h=>h.elim,fun _ h=>h,fun _ _ h=>h,fun bc aX=>by simp only[al]at h⊢;exact .inl ⟨trivial,_,h⟩⟩
 | .bH,_,.qE,F,cs,S,h=>⟨fun _=>False,S,fun _ h=>h.elim,fun _ h=>h,fun _ _ h=>h,fun bc aX=>by simp only[al]at h⊢;exact .inl ⟨trivial,none,0,h,Nat.zero_le _,fun _=>rfl⟩⟩
 | .bool _,_,.any b,F,cs,S,h=>⟨fun _=>False,S,fun _ h=>h.elim,fun _ h=>h,fun _ _ h=>h,fun bc aX=>by simp only[al]at h⊢;exact⟨b,h⟩⟩
 |_,_,.share d _ _ _,F,cs,S,h=>⟨S,fun _=>False,fun _ h=>h,fun _ h=>h.elim,fun _ h=>h.elim,fun bc aX=>al.shared (fun b R=>aX b (.inl R)) d cs S (fun b R=>aX b (.inr R)) h⟩
 |_,_,.agg hb,F,cs,S,h=>by
  rw[al]at h
  obtain⟨fC,fD,aa,ad,aB,aO⟩:=aM.wider hb h
  exact⟨fC,fD,aa,ad,aB,fun bc aX=>by rw[al];exact aO bc aX⟩
 |_,_,.a1 ae,F,cs,S,h=>by
  rw[al]at h
  obtain⟨b,cur,ty,fr,aD,bx,bF,c7,ct,dr,eH,fV⟩:=h
  obtain⟨fC,fD,aa,ad,aB,aO⟩:=al.wider ae dr
  refine⟨fC,fun c=>c=b∨fD c,fun c ai=>eH c (aa c ai),?_,?_,fun bc aX=> ?_⟩
  ·rintro c (rfl|ai)
   ·exact bF
   ·exact eH c (ad c ai)
  ·rintro c (rfl|ai) bh
   ·exact fV (aa _ bh)
   ·exact aB c ai bh
  ·rw[al]
   exact⟨b,cur,ty,fr,fD,bx,.inl rfl,c7,ct,aO bc aX,fun c ai=>.inr ai,fun ai=>fV (ad _ ai)⟩
 | .aK sz ds,.aK _ es,.aK hb,F,cs,S,h=>by
   rw[al]at h
   have aJ:=hb.len
   rcases h with⟨aa,ad⟩|⟨b,cap,cur,ty,fr,aD,bx,bF,c7,ct,dr,eH,fV,gH,hz,kn,Cg⟩
   ·refine⟨fun _=>False,S,fun _ h=>h.elim,fun _ h=>h,fun _ _ h=>h,fun bc _=> ?_⟩
    rw[al]
    subst aa
    exact .inl ⟨List.length_eq_zero_iff.1 (by simpa using aJ),ad⟩
   ·obtain⟨fC,fD,aa,ad,aB,aO⟩:=aM.wider hb hz
    refine⟨fC,fun c=>c=b∨fD c,fun c ai=>kn c (aa c ai),?_,?_,fun bc aX=> ?_⟩
    ·rintro c (rfl|ai)
     ·exact bF
     ·exact kn c (ad c ai)
    ·rintro c (rfl|ai) bh
     ·exact Cg (aa _ bh)
     ·exact aB c ai bh
    ·rw[al]
     refine .inr ⟨b,cap,cur,ty,fr,fD,by rw[aJ];exact bx,.inl rfl,c7,ct,by rw[aJ];exact dr,eH,fV,hb.all gH,by rw[aJ];exact aO bc aX,fun c ai=>.inr ai,fun ai=>Cg (ad _ ai)⟩
 |_,_,.tuple hb,F,cs,S,h=>by
  rw[al]at h
  obtain⟨fC,fD,aa,ad,aB,aO⟩:=aM.wider hb h
  exact⟨fC,fD,aa,ad,aB,fun bc aX=>by rw[al];exact aO bc aX⟩
 |_,_,.ref ae,F,cs,S,h=>by
  rw[al]at h
  obtain⟨b,o,cO,aa,ad,aB,aO⟩:=h
  obtain⟨fC,fD,bx,bF,c7,ct⟩:=al.wider ae aO
  refine⟨fun _=>False,S,fun _ h=>h.elim,fun _ h=>h,fun _ _ h=>h,fun bc aX=> ?_⟩
  rw[al]
  exact⟨b,o,cO,aa,aX _ (.inl ad),aB,al.mono (fun _ h=>h) _ _ _ _ (fun b R=>bF b R) (ct bc fun b R=>aX b (R.imp id fun h=>(bx b h).elim))⟩
 |_,_,.trans ae he,F,cs,S,h=>by
  obtain⟨fC,fD,aa,ad,aB,aO⟩:=al.wider ae h
  obtain⟨yi,uY,bx,bF,c7,ct⟩:=al.wider he (F:=fun b=>F b∨fC b) (aO _ fun _ h=>h)
  refine⟨fun b=>fC b∨yi b,uY,?_,fun b R=>ad b (bF b R),?_,fun bc aX=>ct bc fun b R=> ?_⟩
  ·rintro b (h|h)
   ·exact aa b h
   ·exact ad b (bx b h)
  ·rintro b R (h|h)
   ·exact aB b (bF b R) h
   ·exact c7 b R h
  ·rcases R with(R|R)|R
   ·exact aX b (.inl R)
   ·exact aX b (.inr (.inl R))
   ·exact aX b (.inr (.inr R))
theorem aM.wider:∀{ds es:List I},hN ds es→∀{F:Nat→Prop} {cs:List Value} {S:Nat→Prop},aM w F ds cs S→
  ∃fC fD:Nat→Prop,(∀b,fC b→S b)∧(∀b,fD b→S b)∧(∀b,fD b→¬fC b)∧∀bc,(∀b,F b∨fC b→bc b)→aM w bc es cs fD
 |_,_,.nil,F,cs,S,h=>⟨fun _=>False,fun _=>False,fun _ h=>h.elim,fun _ h=>h.elim,fun _ h=>h.elim,fun bc aX=>by rw[aM]at h⊢;exact h⟩
 |_,_,.cons ae hb,F,cs,S,h=>by
  rw[aM]at h
  obtain⟨bN,c2,bk,cp,rfl,g2,g3,g4,g5,g6⟩:=h
  obtain⟨Ju,Ch,ah,a2,a3,a4⟩:=al.wider ae g2
  obtain⟨yi,uY,jq,gu,iY,dI⟩:=aM.wider hb g3
  refine⟨fun b=>Ju b∨yi b,fun b=>Ch b∨uY b,?_,?_,?_,fun bc aX=> ?_⟩
  ·rintro b (h|h)
   ·exact g4 b (ah b h)
   ·exact g5 b (jq b h)
  ·rintro b (h|h)
   ·exact g4 b (a2 b h)
   ·exact g5 b (gu b h)
  ·rintro b (h|h) (aQ|aQ)
   ·exact a3 b h aQ
   ·exact g6 b (a2 b h) (jq b aQ)
   ·exact g6 b (ah b aQ) (gu b h)
   ·exact iY b h aQ
  ·rw[aM]
   refine⟨bN,c2,Ch,uY,rfl,a4 bc (fun b R=>aX b (R.imp id .inl)),dI bc (fun b R=>aX b (R.imp id .inr)),fun b R=>.inl R,fun b R=>.inr R,fun b aa ad=>g6 b (a2 b aa) (gu b ad)⟩
end
theorem dy.uZ:∀{d e:I},dy d e→(∀vs,d≠.tuple vs)→∀vs,e≠.tuple vs
 |_,_,.refl _,h=>h
 |_,_,.i_ _,_=>fun _ h=>by cases h
 |_,_,.qE,_=>fun _ h=>by cases h
 |_,_,.any _,_=>fun _ h=>by cases h
 |_,_,.share d _ _ _,h=>fun vs he=>by cases d<;>first|(cases he;done)|exact h _ rfl
 |_,_,.agg _,_=>fun _ h=>by cases h
 |_,_,.a1 _,_=>fun _ h=>by cases h
 |_,_,.aK _,_=>fun _ h=>by cases h
 |_,_,.tuple _,h=>fun _ _=>h _ rfl
 |_,_,.ref _,_=>fun _ h=>by cases h
 |_,_,.trans h k,aW=>dy.uZ k (dy.uZ h aW)
theorem dy.fI:∀{d e:I} {v:Value},dy d e→(∀vs,d≠.tuple vs)→b9.fI d v→b9.fI e v
 |_,_,_,.refl _,_,h=>h
 |_,_,_,.i_ _,_,h=>h
 |_,_,_,.qE,_,h=>h
 |_,_,_,.any _,_,h=>h
 |_,_,_,.share d _ aW _,_,h=>by cases d<;>first|exact h|exact(aW _ rfl).elim
 |_,_,_,.agg _,_,h=>h
 |_,_,_,.a1 _,_,h=>h
 |_,_,_,.aK _,_,h=>h
 |_,_,_,.tuple _,aW,_=>(aW _ rfl).elim
 |_,_,_,.ref _,_,h=>h
 |_,_,_,.trans h k,aW,U=>dy.fI k (dy.uZ h aW) (dy.fI h aW U)
theorem hN.get:∀{ds es:List I},hN ds es→∀(k:Nat) (e:I),es[k]? =some e→∃d,ds[k]? =some d∧dy d e
 |_,_,.nil,k,e,h=>by simp at h
 |_,_,.cons ae U,0,e,h=>by simp at h;subst h;exact⟨_,rfl,ae⟩
 |_,_,.cons ae U,k+1,e,h=>hN.get U k e (by simpa using h)
theorem dy.cx:∀{d e:I} {v:Value},dy d e→b9.cx d v→b9.cx e v
 |_,_,_,.refl _,U=>U
 |_,_,_,.i_ _,U=>U
 |_,_,_,.qE,U=>U
 |_,_,_,.any _,U=>U
 |_,_,_,.share _ _ j2 _,U=>xZ j2 U
 |_,_,_,.agg _,U=>U
 |_,_,_,.a1 _,U=>U
 |_,_,_,.aK _,U=>U
 |_,_,_,.ref _,U=>U
 |_,_,_,.tuple ae,U=>by
  obtain⟨arr,aa,ad,aB⟩:=U
  refine⟨arr,aa,ad.trans ae.len.symm,fun k e x he ao=> ?_⟩
  obtain⟨d,ar,hw⟩:=ae.get k e he
  obtain⟨ah,a2,a3⟩:=aB k d x ar ao
  exact⟨hw.fI a2 ah,hw.uZ a2,a3.trans hw.wd.symm⟩
 |_,_,_,.trans h k,U=>dy.cx k (dy.cx h U)
theorem dy.tree:∀{d e:I},dy d e→d.tree=true→e.tree=true
 |_,_,.refl _,ae=>ae
 |_,_,.i_ _,_=>rfl
 |_,_,.qE,_=>rfl
 |_,_,.any _,_=>rfl
 |_,_,.share d _ _ hZ,ae=>by cases d<;>first|exact ae|rfl|exact(hZ _ rfl).elim
 |_,_,.agg _,_=>rfl
 |_,_,.a1 _,_=>rfl
 |_,_,.aK _,_=>rfl
 |_,_,.tuple _,_=>rfl
 |_,_,.ref _,_=>rfl
 |_,_,.trans h k,ae=>dy.tree k (dy.tree h ae)
mutual
def I.py:I→List Nat
 | .h x q=>if q.isEmpty then []else [x]
 | .ak x _=>[x]
 | .R x _=>[x]
 | .fn _ cap=>I.sW cap
 |_=>[]
def I.sW:List I→List Nat
 |[]=>[]
 |d::ds=>d.py++I.sW ds
end
def sX (s aq:aj) (x:Nat) (D:List Nat):Prop:=aq x=s x∨aq x= .hole∨((s x).own=true∧(aq x).own=true∧x∉D)
theorem sX.less {s aq:aj} {x:Nat} {D E:List Nat} (h:sX s aq x D) (yj:∀u∈E,u∈D):sX s aq x E:=by
 rcases h with h|h|⟨aa,ad,aB⟩
 ·exact .inl h
 ·exact .inr (.inl h)
 ·exact .inr (.inr ⟨aa,ad,fun ao=>aB (yj x ao)⟩)
theorem ax.keep {bc:Nat→Prop} (aX:∀b,F b→bc b):∀n,(∀(d:I) (v:Value) (cz:Nat→Prop),SizeOf.sizeOf d≤n→(∀x∈d.U,sX s aq x d.py)→ax w F s an d v cz→ax w bc aq an d v cz)∧
  (∀(ds:List I) (vs:List Value),SizeOf.sizeOf ds≤n→(∀x∈I.cR ds,sX s aq x (I.sW ds))→cG w F s an ds vs→cG w bc aq an ds vs):=by
 intro n
 induction n with
 |zero=>
  refine⟨fun d v cz bl=> ?_,fun ds vs bl=> ?_⟩
  ·cases d<;>simp at bl<;>omega
  ·cases ds<;>simp at bl<;>omega
 |succ n ih=>
  refine⟨fun d v cz bl ar h=> ?_,fun ds vs bl ar h=> ?_⟩
  ·cases d with
   |hole=>rw[ax];trivial
   |h x q=>
    rw[ax]at h⊢
    intro e dj ak
    rcases ar x (by simp[I.U])with he|he|⟨Ci,Jv,sY⟩
    ·rw[he]at dj⊢;exact h e dj ak
    ·rw[he]at dj
     cases q with
     |nil=>simp only[I.sub,Option.some.injEq]at dj;subst dj;simp[I.plain]at ak
     |cons k q=>simp[I.sub]at dj
    ·cases q with
     |nil=>
      simp only[I.sub,Option.some.injEq]at dj
      subst dj
      obtain⟨bP,a0,dV,eY,fH⟩:=h (s x) (by simp only[I.sub]) (nr Ci).1
      simp only[cb,Option.some.injEq,Prod.mk.injEq,true_and]at dV
      exact⟨bw (an x),none,by simp only[cb],by rw[eY,←dV.1],((nr Jv).2.2.2.2.2 _).2 (((nr Ci).2.2.2.2.2 _).1 fH)⟩
     |cons k q=>exact(sY (by simp[I.py])).elim
   |ak x q=>
    rw[ax]at h⊢
    intro e dj ai
    rcases ar x (by simp[I.U])with he|he|⟨_,_,sY⟩
    ·rw[he]at dj ai⊢;exact h e dj ai
    ·rw[he]at ai
     cases q<;>simp[I.dC]at ai
    ·exact(sY (by simp[I.py])).elim
   |R x k=>
    rw[ax]at h⊢
    intro ak
    rcases ar x (by simp[I.U])with he|he|⟨_,_,sY⟩
    rotate_left 2
    ·exact(sY (by simp[I.py])).elim
    ·rw[he]at ak
     obtain⟨b,cur,e,fr,aa,ad,aB,aO⟩:=h ak
     exact⟨b,cur,e,fr,aa,aX b ad,aB,aO⟩
    ·rw[he]at ak;simp[I.plain]at ak
   |fn f cap=>
    rw[ax]at h⊢
    obtain⟨arr,rfl,ai⟩:=h
    exact⟨arr,rfl,ih.2 _ _ (by simp at bl;omega) (by simpa [I.U,I.py]using ar) ai⟩
   |_=>
    have aQ:=(ax.bJ rfl).1 h
    exact(ax.bJ rfl).2 ⟨aQ.1,al.mono aX _ _ _ _ (fun _ h=>h) aQ.2⟩
  ·cases ds with
   |nil=>rw[cG]at h⊢;exact h
   |cons d ds=>
    rw[cG]at h⊢
    obtain⟨v,gQ,rfl,aa,ad⟩:=h
    simp at bl
    simp only[I.cR,List.mem_append]at ar
    exact⟨v,gQ,rfl,ih.1 _ _ _ (by omega) (fun x ao=>(ar x (.inl ao)).less fun u hu=>by simp[I.sW,hu]) aa,ih.2 _ _ (by omega) (fun x ao=>(ar x (.inr ao)).less fun u hu=>by simp[I.sW,hu]) ad⟩
def sZ (s:aj) (l:List (Nat×I)):Prop:=
 ∀p∈l,p.2=s p.1∨((s p.1).tree=true∧dy (s p.1) p.2∧∀bO∈l,p.1∉bO.2.U∨((s p.1).own=true∧p.2.own=true∧p.1∉bO.2.py))
theorem Cj:∀(l:List (Nat×I)) (t:Nat),J l t= .hole∨∃p∈l,p.1=t∧J l t=p.2:=by
 intro l
 induction l with
 |nil=>intro t;exact .inl rfl
 |cons p l ih=>
  intro t
  obtain⟨u,d⟩:=p
  simp only[J]
  split
  ·rename_i e;exact .inr ⟨(u,d),by simp,e.symm,rfl⟩
  ·rcases ih t with h|⟨p,ak,h⟩
   ·exact .inl h
   ·exact .inr ⟨p,by simp[ak],h⟩
theorem a7.Jw (h:a7 w0 F0 X F S s an w) {l:List (Nat×I)} (hw:sZ s l):∃bc aD,a7 w0 F0 X bc aD (J l) an w:=by
 have each:∀t,∃fC fD:Nat→Prop,(∀b,fC b→S t b)∧(∀b,fD b→S t b)∧(∀b,fD b→¬fC b)∧∀bc,(∀b,F b∨fC b→bc b)→ax w bc (J l) an (J l t) (an t) fD:=by
  intro t
  rcases Cj l t with e|⟨p,ak,rfl,e⟩
  ·exact⟨fun _=>False,fun _=>False,fun _ h=>h.elim,fun _ h=>h.elim,fun _ h=>h.elim,fun bc _=>by rw[e,ax];trivial⟩
  ·rw[e]
   rcases hw p ak with ar|⟨aN,hG,_⟩
   ·refine⟨fun _=>False,S p.1,fun _ h=>h.elim,fun _ h=>h,fun _ _ h=>h,fun bc aX=> ?_⟩
    rw[ar]
    refine(ax.keep (fun b R=>aX b (.inl R)) (SizeOf.sizeOf (s p.1))).1 _ _ _ (Nat.le_refl _) ?_ (h.cd p.1)
    intro x ao
    rcases Cj l x with ew|⟨bO,cW,rfl,ew⟩
    ·exact .inr (.inl ew)
    ·rcases hw bO cW with iX|⟨_,_,hZ⟩
     ·exact .inl (ew.trans iX)
     ·rcases hZ p ak with hZ|⟨ks,lH,uS⟩
      ·exact(hZ (by rw[ar];exact ao)).elim
      ·exact .inr (.inr ⟨ks,by rw[ew];exact lH,by rw[ar]at uS;exact uS⟩)
   ·obtain⟨g1,g2⟩:=(ax.bJ aN).1 (h.cd p.1)
    obtain⟨fC,fD,bx,bF,c7,ct⟩:=al.wider hG g2
    exact⟨fC,fD,bx,bF,c7,fun bc aX=>(ax.bJ (hG.tree aN)).2 ⟨hG.cx g1,ct bc aX⟩⟩
 have bN:=fun t=>(each t).choose_spec
 let fC:=fun t=>(each t).choose
 have c2:=fun t=>(bN t).choose_spec
 let fD:=fun t=>(bN t).choose
 have e0:∀t b,fC t b→S t b:=fun t=>(c2 t).1
 have ep:∀t b,fD t b→S t b:=fun t=>(c2 t).2.1
 have gv:∀t b,fD t b→¬fC t b:=fun t=>(c2 t).2.2.1
 have gw:=fun t=>(c2 t).2.2.2
 refine⟨fun b=>F b∨∃t,fC t b,fD,fun b R=>.inl (h.eU b R),?_,?_,fun t b R=>h.c6 t b (ep t b R),?_,fun t u b cB R hu=>h.dq t u b cB (ep t b R) (ep u b hu),fun t b R=>h.cz t b (ep t b R),?_,h.old,h.size,h.os,h.tape,h.output,h.eN⟩
 ·rintro b (R|⟨t,R⟩)
  ·exact h.e4 b R
  ·exact .inr (h.cz t b (e0 t b R))
 ·rintro b (R|⟨t,R⟩)
  ·exact h.dw b R
  ·exact h.c6 t b (e0 t b R)
 ·rintro t b R (bh|⟨u,hu⟩)
  ·exact h.dP t b (ep t b R) bh
  ·by_cases e:t=u
   ·subst e;exact gv t b R hu
   ·exact h.dq t u b e (ep t b R) (e0 u b hu)
 ·intro t
  exact gw t _ (fun b R=>R.imp id fun h=>⟨t,h⟩)
end
inductive ab where
 |skip
 |ch (ros:List bm) (keep:Option (List Nat))
 |iG (ros:List bm) (lM:List (List Nat)) (keep:Option (List Nat))
 |seq (a b:ab)
 |cond (c:ay) (a b:ab)
 |block (id:Nat) (b:ab)
 |loop (b:ab)
 |exit (id:Nat)
 |ret
 |hf (T:(Exit→aj→Prop)→aj→Prop) (b:ab)
def bV (n:Fr):Code→Option ab
 | .skip=>some .skip
 | .region _ ops false=>(mn n ops ops.toList).map fun r=>.ch r none
 | .region _ ops true=>if sT (k4 ops)=true then(mn n ops ops.toList).map fun r=>.iG r (k4 ops) none else none
 | .seq a b=>match bV n a,bV n b with
   |some a,some b=>some (.seq a b)
   |_,_=>none
 | .cond c a b=>match cq c,bV n a,bV n b with
   |some c,some a,some b=>some (.cond c a b)
   |_,_,_=>none
 | .block id b=>(bV n b).map (.block id)
 | .loop b=>(bV n b).map .loop
 | .exit id=>some (.exit id)
 | .ret=>some .ret
 |_=>none
def ab.iH:ab→ab
 | .ch ros _=>.ch ros none
 | .iG ros eC _=>.iG ros eC none
 | .seq a b=>.seq a.iH b.iH
 | .cond c a b=>.cond c a.iH b.iH
 | .block id b=>.block id b.iH
 | .loop b=>.loop b.iH
 | .hf T b=>.hf T b.iH
 |c=>c
def ab.strip:ab→ab
 | .ch ros _=>.ch (ros.map bm.un) none
 | .iG ros eC _=>.iG (ros.map bm.un) eC none
 | .seq a b=>.seq a.strip b.strip
 | .cond c a b=>.cond c a.strip b.strip
 | .block id b=>.block id b.strip
 | .loop b=>.loop b.strip
 | .hf _ b=>b.strip
 |c=>c
theorem ab.Ck:∀c:ab,c.iH.strip=c.strip:=by
 intro c
 induction c with
 |seq a b hh hi=>simp only[ab.iH,ab.strip,hh,hi]
 |cond c a b hh hi=>simp only[ab.iH,ab.strip,hh,hi]
 |block id b ih=>simp only[ab.iH,ab.strip,ih]
 |loop b ih=>simp only[ab.iH,ab.strip,ih]
 |hf T b ih=>simp only[ab.iH,ab.strip,ih]
 |_=>rfl
def ab.bare (H:((Exit→aj→Prop)→aj→Prop)→ab→Prop):ab→Prop
 | .ch _ k=>k=none
 | .iG _ _ k=>k=none
 | .seq a b=>a.bare H∧b.bare H
 | .cond _ a b=>a.bare H∧b.bare H
 | .block _ b=>b.bare H
 | .loop b=>b.bare H
 | .hf T b=>H T b
 |_=>True
def ab.mr (H:((Exit→aj→Prop)→aj→Prop)→ab→Prop):ab→Prop
 | .seq a b=>a.mr H∧b.mr H
 | .cond _ a b=>a.mr H∧b.mr H
 | .block _ b=>b.mr H
 | .loop b=>b.mr H
 | .hf T b=>H T b.iH
 |_=>True
theorem ab.Cl {H:((Exit→aj→Prop)→aj→Prop)→ab→Prop}:∀c:ab,c.mr H→c.iH.bare H:=by
 intro c
 induction c with
 |seq a b hh hi=>intro h;exact⟨hh h.1,hi h.2⟩
 |cond c a b hh hi=>intro h;exact⟨hh h.1,hi h.2⟩
 |block id b ih=>intro h;exact ih h
 |loop b ih=>intro h;exact ih h
 |ch=>intro _;rfl
 |iG=>intro _;rfl
 |hf T b _=>intro h;exact h
 |_=>intro _;trivial
def ab.plain:ab→Bool
 | .seq a b=>a.plain&&b.plain
 | .cond _ a b=>a.plain&&b.plain
 | .block _ b=>b.plain
 | .loop b=>b.plain
 | .hf _ _=>false
 |_=>true
theorem ab.Jx {H:((Exit→aj→Prop)→aj→Prop)→ab→Prop}:∀c:ab,c.plain=true→c.mr H:=by
 intro c
 induction c with
 |seq a b hh hi=>intro h;simp only[ab.plain,Bool.and_eq_true]at h;exact⟨hh h.1,hi h.2⟩
 |cond c a b hh hi=>intro h;simp only[ab.plain,Bool.and_eq_true]at h;exact⟨hh h.1,hi h.2⟩
 |block id b ih=>intro h;exact ih h
 |loop b ih=>intro h;exact ih h
 |hf T b _=>intro h;cases h
 |_=>intro _;trivial
def andThen (K:aj→Prop) (Q:Exit→aj→Prop):Exit→aj→Prop
 | .normal,s=>K s
 |e,s=>Q e s
def qF (id:Nat) (Q:Exit→aj→Prop):Exit→aj→Prop
 | .exit i,s=>if i=id then Q .normal s else Q (.exit i) s
 |e,s=>Q e s
def eD (K:aj→Prop) (s:aj):Prop:=K s∨∃l,sZ s l∧K (J l)
def s0:Option (List Nat)→(aj→Prop)→aj→Prop
 |none,K,s=>eD K s
 |some k,K,s=>K (J (k.map fun t=>(t,s t)))
def b3 (C:bq):ab→(Exit→aj→Prop)→aj→Prop
 | .skip,Q,s=>Q .normal s
 | .ch ros keep,Q,s=>iF C s ros (s0 keep (Q .normal))
 | .iG ros lM keep,Q,s=>∀l,yg lM l→hc C ros s l (s0 keep (Q .normal))
 | .seq a b,Q,s=>b3 C a (andThen (eD (b3 C b Q)) Q) s
 | .cond c a b,Q,s=>match az s c with
   | .bool dG=>if dG=true then b3 C a Q s else b3 C b Q s
   | .dd=>b3 C a Q s∧b3 C b Q s
   |_=>False
 | .block id b,Q,s=>b3 C b (qF id Q) s
 | .loop b,Q,s=>eD (fun s=>∀Z:aj→Prop,(∀aq,b3 C b (andThen (eD Z) Q) aq→Z aq)→Z s) s
 | .exit id,Q,s=>Q (.exit id) s
 | .ret,Q,s=>Q .ret s
 | .hf T _,Q,s=>∀cX:Exit→aj→Prop,(∀e s,Q e s→cX e s)→T cX s
section
variable {C:bq}
theorem yk {s:aj} {o:bm} {K bC:aj→Prop} (h:i6 C s o K) (ar:∀s,K s→bC s):i6 C s o bC:=by
 unfold i6 at h⊢
 split
 ·rename_i hg;rw[hg]at h;exact uV h fun av s1=>ar _
 ·rename_i t b hg
  rw[hg]at h
  simp only at h
  split
  ·rename_i dG U
   rw[U]at h
   simp only at h
   split
   ·rename_i R;rw[if_pos R]at h;exact uV h fun av s1=>ar _
   ·rename_i R;rw[if_neg R]at h;exact ar _ h
  ·rename_i U;rw[U]at h;exact ar _ h
  ·rename_i aa ad
   split at h
   ·exact aa _ (by assumption)
   ·exact ad (by assumption)
   ·exact h
theorem Cm {K bC:aj→Prop} (ar:∀s,K s→bC s):∀{ros:List bm} {s:aj},iF C s ros K→iF C s ros bC:=by
 intro ros
 induction ros with
 |nil=>intro s h;exact ar s h
 |cons o ros ih=>intro s h;exact yk h fun s h=>ih h
theorem Cn {ros:List bm} {K bC:aj→Prop} (ar:∀s,K s→bC s):∀{l:List Nat} {s:aj},hc C ros s l K→hc C ros s l bC:=by
 intro l
 induction l with
 |nil=>intro s h;exact ar s h
 |cons i l ih=>
  intro s h
  simp only[hc]at h⊢
  split
  ·rename_i bI;rw[bI]at h;exact ih h
  ·rename_i o bI;rw[bI]at h;exact yk h fun s h=>ih h
theorem qG {K bC:aj→Prop} (ar:∀s,K s→bC s) (s:aj) (h:eD K s):eD bC s:=
 h.imp (ar s) fun⟨l,aa,ad⟩=>⟨l,aa,ar _ ad⟩
theorem Co {keep:Option (List Nat)} {K bC:aj→Prop} (ar:∀s,K s→bC s) (s:aj) (h:s0 keep K s):s0 keep bC s:=by
 cases keep with
 |none=>exact qG ar s h
 |some k=>exact ar _ h
theorem Cp {keep:Option (List Nat)} {K:aj→Prop} {s:aj} (h:s0 keep K s):eD K s:=by
 cases keep with
 |none=>exact h
 |some k=>
  refine .inr ⟨_,?_,h⟩
  intro p ak
  obtain⟨t,_,rfl⟩:=List.mem_map.1 ak
  exact .inl rfl
theorem yl {K bC:aj→Prop} {Q cX:Exit→aj→Prop} (ar:∀s,K s→bC s) (ca:∀e s,Q e s→cX e s):∀e s,andThen K Q e s→andThen bC cX e s:=by
 intro e s h
 cases e with
 |normal=>exact ar s h
 |_=>exact ca _ s h
theorem Cq:∀(c:ab) {Q cX:Exit→aj→Prop} {s:aj},(∀e s,Q e s→cX e s)→b3 C c Q s→b3 C c cX s:=by
 intro c
 induction c with
 |skip=>intro Q cX s ca h;exact ca _ _ h
 |ch ros keep=>intro Q cX s ca h;exact Cm (Co (ca _)) h
 |iG ros lM keep=>intro Q cX s ca h l aJ;exact Cn (Co (ca _)) (h l aJ)
 |seq a b hh hi=>
  intro Q cX s ca h
  exact hh (yl (fun s h=>qG (fun _ h=>hi ca h) s h) ca) h
 |cond c a b hh hi=>
  intro Q cX s ca h
  simp only[b3]at h⊢
  split
  ·rename_i dG R
   rw[R]at h
   simp only at h
   split
   ·rename_i e;rw[if_pos e]at h;exact hh ca h
   ·rename_i e;rw[if_neg e]at h;exact hi ca h
  ·rename_i R;rw[R]at h;exact⟨hh ca h.1,hi ca h.2⟩
  ·rename_i aa ad
   split at h
   ·exact aa _ (by assumption)
   ·exact ad (by assumption)
   ·exact h
 |block id b ih=>
  intro Q cX s ca h
  refine ih ?_ h
  intro e s h
  cases e with
  |exit i=>
   simp only[qF]at h⊢
   split
   ·rename_i e;rw[if_pos e]at h;exact ca _ _ h
   ·rename_i e;rw[if_neg e]at h;exact ca _ _ h
  |_=>exact ca _ _ h
 |loop b ih=>
  intro Q cX s ca h
  refine qG (fun s h Z qH=> ?_) s h
  exact h Z fun aq eW=>qH aq (ih (yl (fun _ h=>h) ca) eW)
 |exit id=>intro Q cX s ca h;exact ca _ _ h
 |ret=>intro Q cX s ca h;exact ca _ _ h
 |hf T b _=>intro Q cX s ca h hA ad;exact h hA fun e s he=>ad e s (ca e s he)
theorem Cr:∀(c:ab) {Q:Exit→aj→Prop} {s:aj},b3 C c Q s→b3 C c.iH Q s:=by
 intro c
 induction c with
 |ch ros keep=>intro Q s h;exact Cm (fun s h=>Cp h) h
 |iG ros eC keep=>intro Q s h l aJ;exact Cn (fun s h=>Cp h) (h l aJ)
 |seq a b hh hi=>intro Q s h;exact hh (Cq a (yl (fun s h=>qG (fun _ h=>hi h) s h) (fun _ _ h=>h)) h)
 |cond c a b hh hi=>
  intro Q s h
  simp only[ab.iH,b3]at h⊢
  split
  ·rename_i dG R
   rw[R]at h
   simp only at h
   split
   ·rename_i e;rw[if_pos e]at h;exact hh h
   ·rename_i e;rw[if_neg e]at h;exact hi h
  ·rename_i R;rw[R]at h;exact⟨hh h.1,hi h.2⟩
  ·rename_i aa ad
   split at h
   ·exact aa _ (by assumption)
   ·exact ad (by assumption)
   ·exact h
 |block id b ih=>intro Q s h;exact ih h
 |loop b ih=>
  intro Q s h
  refine qG (fun s h Z qH=> ?_) s h
  exact h Z fun aq eW=>qH aq (ih eW)
 |hf T b _=>intro Q s h;exact h
 |_=>intro Q s h;exact h
variable {w0 w:World} {F0 X:Nat→Prop} {n:Fr} {ρ:Nat→Value} {s:aj} {a:Act}
def qI (w0:World) (F0 X:Nat→Prop) (n:Fr) (ρ:Nat→Value) (Q:Exit→aj→Prop):Exit→Act→World→Prop:=fun e a w=>∃s,Q e s∧Rel w0 F0 X n ρ s a w
theorem Rel.eD {K:aj→Prop} {s:aj} {a:Act} {w:World} (aC:Rel w0 F0 X n ρ s a w) (h:eD K s):∃aq,K aq∧Rel w0 F0 X n ρ aq a w:=by
 rcases h with h|⟨l,aa,ad⟩
 ·exact⟨s,h,aC⟩
 ·obtain⟨g1,g2,g3,F,S,g4⟩:=aC
  obtain⟨bc,aD,g5⟩:=g4.Jw aa
  exact⟨J l,ad,g1,g2,g3,bc,aD,g5⟩
theorem ab.Jy {c:ab} (h:c.strip= .skip):c= .skip∨∃T b,c= .hf T b:=by cases c<;>first|exact .inl rfl|exact .inr ⟨_,_,rfl⟩|cases h
theorem ab.Jz {c:ab} (h:c.strip= .ret):c= .ret∨∃T b,c= .hf T b:=by cases c<;>first|exact .inl rfl|exact .inr ⟨_,_,rfl⟩|cases h
theorem ab.JA {c:ab} {i:Nat} (h:c.strip= .exit i):c= .exit i∨∃T b,c= .hf T b:=by cases c<;>first|exact .inl h|exact .inr ⟨_,_,rfl⟩|cases h
theorem ab.JB {c:ab} {r:List bm} {k:Option (List Nat)} (h:c.strip= .ch r k):(∃ros cy,c= .ch ros cy∧ros.map bm.un=r)∨∃T b,c= .hf T b:=by
 cases c<;>first|(cases h;exact .inl ⟨_,_,rfl,rfl⟩)|exact .inr ⟨_,_,rfl⟩|cases h
theorem ab.JC {c:ab} {r:List bm} {eC:List (List Nat)} {k:Option (List Nat)} (h:c.strip= .iG r eC k):(∃ros Cs cy,c= .iG ros Cs cy∧ros.map bm.un=r∧Cs=eC)∨∃T b,c= .hf T b:=by
 cases c<;>first|(cases h;exact .inl ⟨_,_,_,rfl,rfl,rfl⟩)|exact .inr ⟨_,_,rfl⟩|cases h
theorem ab.JD {c x y:ab} (h:c.strip= .seq x y):(∃a b,c= .seq a b∧a.strip=x∧b.strip=y)∨∃T b,c= .hf T b:=by
 cases c<;>first|(cases h;exact .inl ⟨_,_,rfl,rfl,rfl⟩)|exact .inr ⟨_,_,rfl⟩|cases h
theorem ab.JE {c x y:ab} {o:ay} (h:c.strip= .cond o x y):(∃kr a b,c= .cond kr a b∧kr=o∧a.strip=x∧b.strip=y)∨∃T b,c= .hf T b:=by
 cases c<;>first|(cases h;exact .inl ⟨_,_,_,rfl,rfl,rfl,rfl⟩)|exact .inr ⟨_,_,rfl⟩|cases h
theorem ab.JF {c x:ab} {i:Nat} (h:c.strip= .block i x):(∃a,c= .block i a∧a.strip=x)∨∃T b,c= .hf T b:=by
 cases c<;>first|(cases h;exact .inl ⟨_,rfl,rfl⟩)|exact .inr ⟨_,_,rfl⟩|cases h
theorem ab.JG {c x:ab} (h:c.strip= .loop x):(∃a,c= .loop a∧a.strip=x)∨∃T b,c= .hf T b:=by
 cases c<;>first|(cases h;exact .inl ⟨_,rfl,rfl⟩)|exact .inr ⟨_,_,rfl⟩|cases h
theorem Ct (aT:C.db) {H:((Exit→aj→Prop)→aj→Prop)→ab→Prop}
  (kt:∀(c:Code) (T:(Exit→aj→Prop)→aj→Prop) (b:ab) (Q:Exit→aj→Prop) (s:aj) (a:Act) (w:World),H T b→bV n c=some b.strip→T Q s→Rel w0 F0 X n ρ s a w→c.wp C.P (qI w0 F0 X n ρ Q) a w):
  ∀(c:Code) {dD:ab} {Q:Exit→aj→Prop} {s:aj} {a:Act} {w:World},bV n c=some dD.strip→dD.bare H→b3 C dD Q s→Rel w0 F0 X n ρ s a w→c.wp C.P (qI w0 F0 X n ρ Q) a w:=by
 intro c
 induction c with
 |skip=>
  intro dD Q s a w U fs h aC
  have h6:=U
  simp only[bV,Option.some.injEq]at U
  rcases ab.Jy U.symm with rfl|⟨T,b,rfl⟩
  ·exact wp_skip ⟨s,h,aC⟩
  ·exact kt _ T b Q s a w fs (by simpa only[ab.strip]using h6) (h Q fun _ _ h=>h) aC
 |region id ops draw=>
  intro dD Q s a w U fs h aC
  have h6:=U
  cases draw with
  |false=>
   simp only[bV,Option.map_eq_some_iff]at U
   obtain⟨JH,s3,U⟩:=U
   rcases ab.JB U.symm with⟨ros,k,rfl,rfl⟩|⟨T,b,rfl⟩
   rotate_left
   ·exact kt _ T b Q s a w fs (by simpa only[ab.strip]using h6) (h Q fun _ _ h=>h) aC
   cases fs
   exact Jj aT s3 (fun aq b2 aw ar cU=>cU.eD ar) h aC
  |true=>
   simp only[bV]at U
   split at U
   ·rename_i R
    simp only[Option.map_eq_some_iff]at U
    obtain⟨JH,s3,U⟩:=U
    rcases ab.JC U.symm with⟨ros,eC,k,rfl,rfl,rfl⟩|⟨T,b,rfl⟩
    rotate_left
    ·exact kt _ T b Q s a w fs (by simpa only[ab.strip]using h6) (h Q fun _ _ h=>h) aC
    cases fs
    refine wp_region_draw fun t=> ?_
    rw[show Region.schedule (C.P.follows .mixedOrders) ops t=Region.linearise .any ops t by simp[Region.schedule,aT.mixed]]
    exact Ca aT s3 (fun aq b2 aw ar cU=>cU.eD ar) _ s a _ (h _ (Js R t)) (aC.drawn _ (by first|exact Nat.le_succ _|exact Nat.le_add_right _ _|omega))
   ·cases U
 |seq x y JI u0=>
  intro dD Q s a w U fs h aC
  have h6:=U
  simp only[bV]at U
  split at U
  ·rename_i sF JJ ao hy
   simp only[Option.some.injEq]at U
   rcases ab.JD U.symm with⟨cD,h0,rfl,rfl,rfl⟩|⟨T,b,rfl⟩
   rotate_left
   ·exact kt _ T b Q s a w fs (by simpa only[ab.strip]using h6) (h Q fun _ _ h=>h) aC
   refine wp_seq (wp_mono (JI ao fs.1 h aC) ?_)
   rintro e b2 aw ⟨aq,aQ,cU⟩
   cases e with
   |normal=>
    obtain⟨aq,aQ,cU⟩:=cU.eD aQ
    exact u0 hy fs.2 aQ cU
   |_=>exact⟨aq,aQ,cU⟩
  ·cases U
 |cond x y z u0 Cu=>
  intro dD Q s a w U fs h aC
  have h6:=U
  simp only[bV]at U
  split at U
  ·rename_i sF JJ sz ao hy bl
   simp only[Option.some.injEq]at U
   rcases ab.JE U.symm with⟨cD,h0,nd,rfl,rfl,rfl,rfl⟩|⟨T,b,rfl⟩
   rotate_left
   ·exact kt _ T b Q s a w fs (by simpa only[ab.strip]using h6) (h Q fun _ _ h=>h) aC
   have cU:=aC
   obtain⟨ae,cP,bh,F,S,nu⟩:=cU
   have aE:=(dk (a:=a) nu (fun _=>rfl) ao).2
   simp only[b3]at h
   split at h
   ·rename_i dG R
    rw[R]at aE
    have:=nY aE
    refine wp_cond this ?_
    split
    ·rename_i e;rw[if_pos e]at h;exact u0 hy fs.1 h aC
    ·rename_i e;rw[if_neg e]at h;exact Cu bl fs.2 h aC
   ·rename_i R
    rw[R]at aE
    obtain⟨dG,jm⟩:=AV aE
    refine wp_cond jm ?_
    split
    ·exact u0 hy fs.1 h.1 aC
    ·exact Cu bl fs.2 h.2 aC
   ·exact h.elim
  ·cases U
 |block id b ih=>
  intro dD Q s a w U fs h aC
  have h6:=U
  simp only[bV,Option.map_eq_some_iff]at U
  obtain⟨uG,R,U⟩:=U
  rcases ab.JF U.symm with⟨dG,rfl,rfl⟩|⟨T,b,rfl⟩
  rotate_left
  ·exact kt _ T b Q s a w fs (by simpa only[ab.strip]using h6) (h Q fun _ _ h=>h) aC
  refine wp_block (wp_mono (ih R fs h aC) ?_)
  rintro e b2 aw ⟨aq,aQ,cU⟩
  cases e with
  |exit i=>
   simp only[qF]at aQ
   simp only[Exit.inBlock]
   split
   ·rename_i e;rw[if_pos e]at aQ;exact⟨aq,aQ,cU⟩
   ·rename_i e;rw[if_neg e]at aQ;exact⟨aq,aQ,cU⟩
  |_=>exact⟨aq,aQ,cU⟩
 |loop b ih=>
  intro dD Q s a w U fs h aC
  have h6:=U
  simp only[bV,Option.map_eq_some_iff]at U
  obtain⟨uG,R,U⟩:=U
  rcases ab.JG U.symm with⟨dG,rfl,rfl⟩|⟨T,b,rfl⟩
  rotate_left
  ·exact kt _ T b Q s a w fs (by simpa only[ab.strip]using h6) (h Q fun _ _ h=>h) aC
  obtain⟨s,h,aC⟩:=aC.eD h
  have key:=h (fun s=>∀a w,Rel w0 F0 X n ρ s a w→∀(f:Frame) (k:List Item) (cs:List Frame),∃e b2 aw,qI w0 F0 X n ρ Q e b2 aw∧Arrives C.P (lone (f.at a (.code b:: .inLoop b::k)) cs w) f k cs e b2 aw) ?_
  ·intro f k cs
   obtain⟨e,b2,aw,ca,oe⟩:=key a w aC f k cs
   exact⟨e,b2,aw,ca,.of_steps (.one step_loop) oe⟩
  ·intro aq eW a w aC f k cs
   obtain⟨e,a₁,w₁,⟨s1,ca,og⟩,oe⟩:=ih R fs eW aC f (.inLoop b::k) cs
   cases e with
   |normal=>
    simp only[andThen]at ca
    obtain⟨s1,ca,og⟩:=og.eD ca
    obtain⟨e₂,a₂,w₂,hq₂,harr₂⟩:=ca a₁ w₁ og f k cs
    exact⟨e₂,a₂,w₂,hq₂,.of_steps (Steps.trans oe (.one step_inLoop)) harr₂⟩
   |exit id=>exact⟨_,a₁,w₁,⟨s1,ca,og⟩,.pass (x:=.inLoop b) rfl (fun _ _=>.inl (by simp)) oe⟩
   |goto l=>exact⟨_,a₁,w₁,⟨s1,ca,og⟩,.pass (x:=.inLoop b) rfl (fun _ _=>.inl (by simp)) oe⟩
   |ret=>exact⟨_,a₁,w₁,⟨s1,ca,og⟩,.pass (x:=.inLoop b) rfl (fun _ _=>.inl (by simp)) oe⟩
   |panic Y4=>exact⟨_,a₁,w₁,⟨s1,ca,og⟩,.pass (x:=.inLoop b) rfl (fun _ _=>.inl (by simp)) oe⟩
   |outgrown=>exact⟨_,a₁,w₁,⟨s1,ca,og⟩,.pass (x:=.inLoop b) rfl (fun _ _=>.inl (by simp)) oe⟩
 |exit id=>
  intro dD Q s a w U fs h aC
  have h6:=U
  simp only[bV,Option.some.injEq]at U
  rcases ab.JA U.symm with rfl|⟨T,b,rfl⟩
  ·exact wp_exit ⟨s,h,aC⟩
  ·exact kt _ T b Q s a w fs (by simpa only[ab.strip]using h6) (h Q fun _ _ h=>h) aC
 |ret=>
  intro dD Q s a w U fs h aC
  have h6:=U
  simp only[bV,Option.some.injEq]at U
  rcases ab.Jz U.symm with rfl|⟨T,b,rfl⟩
  ·exact wp_ret ⟨s,h,aC⟩
  ·exact kt _ T b Q s a w fs (by simpa only[ab.strip]using h6) (h Q fun _ _ h=>h) aC
 |_=>intro dD Q s a w U;simp[bV]at U
theorem JK (aT:C.db) (c:Code) {dD:ab} {Q:Exit→aj→Prop} {s:aj} {a:Act} {w:World} (U:bV n c=some dD.strip) (R:dD.bare (fun _ _=>False)) (h:b3 C dD Q s) (aC:Rel w0 F0 X n ρ s a w):c.wp C.P (qI w0 F0 X n ρ Q) a w:=
 Ct aT (fun _ _ _ _ _ _ _ bh=>bh.elim) c U R h aC
end
def gT:ResultVar→Nat
 | .tmp t=>t
 | .cell a _=>a
def nv (C:bq) (s:aj):ResultVar→Option I
 | .tmp t=>if(s t).tree=true then(match s t with| .tuple _=>none|d=>some d)else none
 | .cell a T=>match s a with
   | .a1 d=>if fits C T d=true∧d.tree=true then some d else none
   |_=>none
def ym (C:bq) (fx:List Nat) (dK:List ResultVar) (r:I) (outs:List I) (s:aj):Prop:=
 ∃ds,dK.map (nv C s)=ds.map some∧r=(match ds with|[d]=>d|ds=>.tuple ds)∧(dK.map gT).Nodup∧
  ∀(i:Nat) (o:I),outs[i]? =some o→o= .hole∨(o=s i∧o.et=true∧i∈fx∧i∉dK.map gT)
def Ends (C:bq) (fx:List Nat) (dK:List ResultVar) (r:I) (outs:List I) (s:aj):Prop:=
 ym C fx dK r outs s∨∃t y q d s1,s t= .h y q∧bR s (.h y q)=some (d,s1)∧ym C fx dK r outs (fin s1 (some t) d)
theorem a7.takes {w0 w:World} {F0 X F:Nat→Prop} {S:Nat→Nat→Prop} {s s1:aj} {an:Nat→Value} {t y:Nat} {q:List Nat} {d:I} (aC:a7 w0 F0 X F S s an w) (aa:s t= .h y q) (ad:bR s (.h y q)=some (d,s1)):
  ∃aD,a7 w0 F0 X F aD (b9.fin s1 (some t) d) an w:=by
 have U:=aC.cd t
 rw[aa,ax]at U
 obtain⟨bk,k0,bx,bF,Sn,c7,ct,dr,eH,fV,_⟩:=lu aC (av:=.h y q) (v:=an t) rfl (by rw[ax];exact U) ad
 obtain⟨aD,aQ⟩:=k0.fin (.inr ⟨bx,bF,Sn,c7,ct,dr,eH,fV⟩) (some t)
 refine⟨aD,?_⟩
 have e:nb an (some t) (an t)=an:=by
  funext u
  simp only[nb,cg]
  split
  ·rename_i h;rw[h]
  ·rfl
 rwa [e]at aQ
section
variable {C:bq} {w0 w:World} {F0 X F:Nat→Prop} {S:Nat→Nat→Prop} {s:aj} {tmps:Array Value}
theorem Cv {d:I} {x:Value} (ae:∀vs,d≠.tuple vs) (h:cx d x):bw x=fl x∧fI d x:=by
 have:fI d x:=by cases d<;>first|exact h|exact(ae _ rfl).elim
 refine⟨?_,this⟩
 cases d<;>first
  |(obtain⟨a,rfl⟩:=this;rfl)
  |(simp only[fI]at this
    rw[eO this]
    cases x<;>first|rfl|(simp[Value.eF]at this))
def s4 (tmps:Array Value):ResultVar→Sem Value
 | .tmp t=>pure (tmps.getD t undef)
 | .cell a t=>do loadVar t (←asAddr (tmps.getD a undef))
theorem JL (aT:C.db) (h:a7 w0 F0 X F S s (fun t=>tmps.getD t undef) w) {v:ResultVar} {d:I} (aE:nv C s v=some d):
  ∃x,(s4 tmps v).run C.P w= .ok x w∧d.tree=true∧(∀vs,d≠.tuple vs)∧cx d x∧al w F d (bw x) (S (gT v)):=by
 cases v with
 |tmp t=>
  simp only[nv]at aE
  split at aE
  ·rename_i aN
   have j2:(∀vs,s t≠.tuple vs)∧d=s t:=by
    cases U:s t<;>rw[U]at aE<;>simp only at aE<;>first
     |(cases aE;done)
     |(simp only[Option.some.injEq]at aE;exact⟨(fun _ h=>by cases h),aE.symm⟩)
   obtain⟨j2,rfl⟩:=j2
   obtain⟨g1,g2⟩:=(ax.bJ aN).1 (h.cd t)
   exact⟨_,by simp[s4],aN,j2,g1,g2⟩
  ·cases aE
 |cell a T=>
  simp only[nv]at aE
  split at aE
  ·rename_i e U
   split at aE
   ·rename_i JM
    obtain⟨fB,JN⟩:=JM
    simp only[Option.some.injEq]at aE;subst aE
    have gx:=h.cd a
    rw[U]at gx
    obtain⟨g1,g2⟩:=(ax.bJ (d:=.a1 e) rfl).1 gx
    rw[eO g1,al]at g2
    obtain⟨b,cur,ty,fr,aD,bx,bF,c7,ct,dr,eH,fV⟩:=g2
    simp only[List.cons.injEq,and_true]at bx
    have gW:fi w b 0 cur.toList:=by
     have:=qh c7 cur.size
     rwa [List.take_of_length_le (by simp)]at this
    obtain⟨x,ev,cr,fp⟩:=ux (C:=C) aT gW dr fB
    refine⟨x,?_,JN,?_,fp,?_⟩
    ·simp only[s4]
     rw[bx]
     simpa [asAddr]using ev
    ·intro vs ew;subst ew
     unfold fits at fB
     split at fB<;>simp_all
    ·rw[cr];exact al.mono (fun _ h=>h) _ _ _ _ eH dr
   ·cases aE
  ·cases aE
theorem JO (aT:C.db) (h:a7 w0 F0 X F S s (fun t=>tmps.getD t undef) w):∀(dK:List ResultVar) (ds:List I),dK.map (nv C s)=ds.map some→(dK.map gT).Nodup→
  ∃xs,(dK.mapM (s4 tmps)).run C.P w= .ok xs w∧xs.length=ds.length∧aM w F ds (xs.flatMap fl) (fun b=>∃t∈dK.map gT,S t b)∧
   ∀(k:Nat) (d:I) (x:Value),ds[k]? =some d→xs[k]? =some x→cx d x∧(∀vs,d≠.tuple vs)∧(fl x).length=d.wd∧bw x=fl x∧d.tree=true:=by
 intro dK
 induction dK with
 |nil=>
  intro ds he _
  have:ds=[]:=by simpa using he.symm
  subst this
  exact⟨[],by simp,rfl,by simp only[List.flatMap_nil];rw[aM],fun k d x ae=>by simp at ae⟩
 |cons v dK ih=>
  intro ds he qJ
  cases ds with
  |nil=>simp at he
  |cons d ds=>
   simp only[List.map_cons,List.cons.injEq]at he
   simp only[List.map_cons,List.nodup_cons]at qJ
   obtain⟨x,ev,rt,cr,fp,dQ⟩:=JL aT h he.1
   obtain⟨xs,e0,ep,gv,gw⟩:=ih ds he.2 qJ.2
   obtain⟨aF,aI⟩:=Cv cr fp
   refine⟨x::xs,by simp[List.mapM_cons,ev,e0],by simp[ep],?_,?_⟩
   ·simp only[List.flatMap_cons]
    rw[aM]
    rw[aF]at dQ
    refine⟨fl x,xs.flatMap fl,S (gT v),fun b=>∃t∈dK.map gT,S t b,rfl,dQ,gv,fun b R=>⟨gT v,by simp,R⟩,?_,?_⟩
    ·rintro b ⟨t,aN,R⟩;exact⟨t,by simp[aN],R⟩
    ·rintro b R ⟨t,aN,jm⟩
     have:t≠gT v:=fun e=>qJ.1 (e▸aN)
     exact h.dq t (gT v) b this jm R
   ·intro k aV cD ae ao
    cases k with
    |zero=>
     simp at ae ao;subst ae ao
     refine⟨fp,cr,?_,aF,rt⟩
     rw[←aF];exact al.length _ _ _ dQ
    |succ k=>exact gw k aV cD (by simpa using ae) (by simpa using ao)
theorem Cw (aT:C.db) {f:FuncId} {fn:Func} {c:Code} {fx:List Nat} {as outs:List I} {r:I} (bh:C.P.funcs[f]? =some fn) (R:fn.body=some c)
  (iI:(fn.name== "runtime.NumGoroutine")=false) (aW:as.length≤fn.ntmps)
  {w:World} {F X:Nat→Prop} {S:Nat→Nat→Prop} {vs:List Value} (aJ:vs.length=as.length) (aC:a7 w F X F S (dJ as) (eT vs) w)
  (yn:∀a,Rel w F X ⟨fn.ntmps,fx⟩ (eT vs) (dJ as) a w→(∀t,a.tmps.getD t undef=eT vs t)→c.wp C.P (qI w F X ⟨fn.ntmps,fx⟩ (eT vs) (fun e s=>(e= .normal∨e= .ret)∧eD (Ends C fx fn.results.toList r outs) s)) a w):
  lI C.P f vs.toArray w fun v aw=>∃bc aD,a7 w F X bc aD (dJ (r::outs)) (eT (v::vs)) aw:=by
 have j1:(vs.toArray++Array.replicate (fn.ntmps-vs.toArray.size) undef).size=fn.ntmps:=by simp;omega
 have cM:(fun t=>(vs.toArray++Array.replicate (fn.ntmps-vs.toArray.size) undef).getD t undef)=eT vs:=by
  funext t
  simp only[eT,Array.getD_eq_getD_getElem?,List.getD_eq_getElem?_getD]
  by_cases aN:t<vs.length
  ·rw[Array.getElem?_append_left (by simpa using aN)];simp
  ·rw[Array.getElem?_append_right (by simpa using aN)]
   rw[List.getElem?_eq_none (by omega)]
   simp only[Array.getElem?_replicate]
   split<;>rfl
 have nu:Rel w F X ⟨fn.ntmps,fx⟩ (eT vs) (dJ as) {tmps:=vs.toArray++Array.replicate (fn.ntmps-vs.toArray.size) undef,defers:=[]} w:=
  ⟨rfl,j1,fun i _=>congrFun cM i,F,S,by rw[cM];exact aC⟩
 have yo:fn.name≠ "runtime.NumGoroutine" :=by simpa using iI
 refine .inl ⟨by simp[callFunc,bh,yo,R],calls_of_wp bh R (wp_mono (yn _ nu (congrFun cM)) ?_)⟩
 rintro e b2 aw ⟨aq,⟨he,JP⟩,JQ⟩
 obtain⟨aq,⟨ds,hb,Cx,qJ,o4⟩,ae,cP,fe,bc,aD,cU⟩:∃aq,ym C fx fn.results.toList r outs aq∧Rel w F X ⟨fn.ntmps,fx⟩ (eT vs) aq b2 aw:=by
  obtain⟨aq,he,Cy⟩:=JQ.eD JP
  rcases he with he|⟨t,y,q,d,s1,aa,ad,he⟩
  ·exact⟨aq,he,Cy⟩
  ·obtain⟨g1,g2,g3,F,S,g4⟩:=Cy
   obtain⟨aD,g5⟩:=g4.takes aa ad
   exact⟨_,he,g1,g2,g3,F,aD,g5⟩
 obtain⟨xs,e0,ep,gv,gw⟩:=JO aT cU _ ds hb qJ
 have JR:(results fn b2.tmps)=(do let vs←fn.results.mapM (s4 b2.tmps);pure (if h:vs.size=1 then vs[0]else .tuple vs)):=by
  unfold results
  congr 1
 have pa:(results fn b2.tmps).run C.P aw= .ok (if h:xs.toArray.size=1 then xs.toArray[0]else .tuple xs.toArray) aw:=by
  rw[JR,Array.mapM_eq_mapM_toList]
  simp[e0]
 have oh:(r.tree=true∧cx r (if h:xs.toArray.size=1 then xs.toArray[0]else .tuple xs.toArray)∧
   al aw bc r (bw (if h:xs.toArray.size=1 then xs.toArray[0]else .tuple xs.toArray)) (fun b=>∃t∈fn.results.toList.map gT,aD t b)):=by
  by_cases aa:∃d,ds=[d]
  ·obtain⟨d,rfl⟩:=aa
   obtain⟨x,rfl⟩:∃x,xs=[x]:=by
    cases xs with
    |nil=>simp at ep
    |cons x xs=>cases xs with
     |nil=>exact⟨x,rfl⟩
     |cons y bD=>simp at ep
   obtain⟨bx,bF,c7,ct,dr⟩:=gw 0 d x rfl rfl
   have JS:d=r:=Cx.symm
   subst JS
   simp only[List.flatMap_cons,List.flatMap_nil,List.append_nil]at gv
   rw[aM]at gv
   obtain⟨bN,c2,bk,cp,aF,aI,aL,bX,b7,bs⟩:=gv
   rw[aM]at aL;subst aL
   simp only[List.append_nil]at aF;subst aF
   have ao:(if h:([x]:List Value).toArray.size=1 then([x]:List Value).toArray[0]else .tuple ([x]:List Value).toArray)=x:=by simp
   rw[ao,ct]
   exact⟨dr,bx,al.mono (fun _ h=>h) _ _ _ _ bX aI⟩
  ·have JT:r= .tuple ds:=by
    rw[Cx]
    cases ds with
    |nil=>rfl
    |cons d ds=>cases ds with
     |nil=>exact(aa ⟨d,rfl⟩).elim
     |cons e ds=>rfl
   have ao:(if h:xs.toArray.size=1 then xs.toArray[0]else Value.tuple xs.toArray)= .tuple xs.toArray:=by
    rw[dif_neg]
    intro cP
    have:ds.length=1:=by rw[←ep];simpa using cP
    obtain⟨d,ae⟩:=List.length_eq_one_iff.1 this
    exact aa ⟨d,ae⟩
   rw[ao,JT]
   refine⟨rfl,⟨xs.toArray,rfl,by simpa using ep,fun k d x ae ao=> ?_⟩,?_⟩
   ·obtain⟨bx,bF,c7,ct,_⟩:=gw k d x ae (by simpa using ao)
    exact⟨(Cv bF bx).2,bF,c7⟩
   ·rw[al]
    simpa [bw]using gv
 have post:∀(v:Value),(r.tree=true∧cx r v∧al aw bc r (bw v) (fun b=>∃t∈fn.results.toList.map gT,aD t b))→∃qC bk,a7 w F X qC bk (dJ (r::outs)) (eT (v::vs)) aw:=by
  rintro v ⟨v1,v2,v3⟩
  have yp:∀i,(outs.getD i .hole).et=true→outs.getD i .hole=aq i∧i∈fx∧i∉fn.results.toList.map gT:=by
   intro i aA
   cases bI:outs[i]? with
   |none=>simp[List.getD,bI,I.et]at aA
   |some o=>
    have e:outs.getD i .hole=o:=by simp[List.getD,bI]
    rw[e]at aA⊢
    rcases o4 i o bI with h|h
    ·subst h;simp[I.et]at aA
    ·exact⟨h.1,h.2.2⟩
  refine⟨bc,fun t b=>match t with|0=>∃t∈fn.results.toList.map gT,aD t b|i+1=>(outs.getD i .hole).et=true∧aD i b,cU.eU,cU.e4,cU.dw,?_,?_,?_,?_,?_,cU.old,cU.size,cU.os,cU.tape,cU.output,aC.eN⟩
  ·intro t b R
   cases t with
   |zero=>obtain⟨t,_,R⟩:=R;exact cU.c6 t b R
   |succ i=>exact cU.c6 i b R.2
  ·intro t b R
   cases t with
   |zero=>obtain⟨t,_,R⟩:=R;exact cU.dP t b R
   |succ i=>exact cU.dP i b R.2
  ·intro t u b cB R hu
   cases t with
   |zero=>
    obtain⟨t,aN,R⟩:=R
    cases u with
    |zero=>exact cB rfl
    |succ j=>
     refine cU.dq t j b (fun e=> ?_) R hu.2
     subst e;exact(yp t hu.1).2.2 aN
   |succ i=>
    cases u with
    |zero=>
     obtain⟨t,aN,hu⟩:=hu
     refine cU.dq t i b (fun e=> ?_) hu R.2
     subst e;exact(yp t R.1).2.2 aN
    |succ j=>exact cU.dq i j b (by omega) R.2 hu.2
  ·intro t b R
   cases t with
   |zero=>obtain⟨t,_,R⟩:=R;exact cU.cz t b R
   |succ i=>exact cU.cz i b R.2
  ·intro t
   cases t with
   |zero=>exact(ax.bJ v1).2 ⟨v2,v3⟩
   |succ i=>
    show ax aw bc (dJ (r::outs)) (eT (v::vs)) (outs.getD i .hole) (vs.getD i undef) (fun b=>(outs.getD i .hole).et=true∧aD i b)
    cases aA:(outs.getD i .hole).et with
    |false=>
     have:outs.getD i .hole= .hole:=by
      cases bI:outs[i]? with
      |none=>simp[List.getD,bI]
      |some o=>
       have e:outs.getD i .hole=o:=by simp[List.getD,bI]
       rw[e]at aA⊢
       rcases o4 i o bI with h|h
       ·exact h
       ·rw[h.2.1]at aA;cases aA
     rw[this,ax];trivial
    |true=>
     obtain⟨ks,lH,uS⟩:=yp i aA
     have aN:=(n9 aA).2.1
     have gx:=cU.cd i
     rw[←ks]at gx
     obtain⟨g1,g2⟩:=(ax.bJ aN).1 gx
     have aE:b2.tmps.getD i undef=vs.getD i undef:=fe i lH
     rw[aE]at g1 g2
     exact(ax.bJ aN).2 ⟨g1,al.mono (fun _ h=>h) _ _ _ _ (fun b R=>⟨rfl,R⟩) g2⟩
 rcases he with rfl|rfl
 ·exact⟨ae,_,pa,_,rfl,post _ oh⟩
 ·exact⟨ae,_,pa,_,rfl,post _ oh⟩
theorem br.of_wp (aT:C.db) {f:FuncId} {fn:Func} {c:Code} {dD:ab} {fx:List Nat} {as outs:List I} {r:I} (bh:C.P.funcs[f]? =some fn) (R:fn.body=some c)
  (iI:(fn.name== "runtime.NumGoroutine")=false) (U:bV ⟨fn.ntmps,fx⟩ c=some dD.strip) (aW:as.length≤fn.ntmps)
  (h:b3 C dD (fun e s=>(e= .normal∨e= .ret)∧eD (Ends C fx fn.results.toList r outs) s) (dJ as)) (ak:dD.plain=true:=by kernel_rfl):br C f as r outs:=
 fun w F X S vs aJ aC=>Cw aT bh R iI aW aJ aC fun a nu _=>JK aT c (by rw[ab.Ck];exact U) (ab.Cl dD (ab.Jx dD ak)) (Cr dD h) nu
end
def num:Nat→List I→List (Nat×I)
 |_,[]=>[]
 |k,a::as=>(k,a)::num (k+1) as
theorem JU:∀(as:List I) (k t:Nat),J (num k as) (k+t)=as.getD t .hole:=by
 intro as
 induction as with
 |nil=>intro k t;simp[num,J]
 |cons a as ih=>
  intro k t
  cases t with
  |zero=>simp[num,J]
  |succ t=>
   have:=ih (k+1) t
   simp only[num,J]
   rw[if_neg (by omega)]
   rw[show k+(t+1)=k+1+t by omega,this]
   simp
theorem Cz (as:List I):dJ as=J (num 0 as):=by
 funext t
 have:=JU as 0 t
 rw[Nat.zero_add]at this
 rw[this];rfl
theorem h7 (l:List (Nat×I)) (t:Nat) (d:I):cg (J l) t d=J ((t,d)::l):=by
 funext u;simp only[cg,J]
def k5 (t:Nat):List (Nat×I)→List (Nat×I)
 |[]=>[]
 |(u,d)::l=>(u,bT t d)::k5 t l
def pz (t:Nat):List (Nat×I)→List (Nat×I)
 |[]=>[]
 |(u,d)::l=>(u,bn t d)::pz t l
theorem qK (t:Nat):∀l:List (Nat×I),iV t (J l)=J (k5 t l):=by
 intro l
 funext u
 induction l with
 |nil=>rfl
 |cons p l ih=>
  obtain⟨v,d⟩:=p
  simp only[iV,J,k5]at ih⊢
  split
  ·rfl
  ·exact ih
theorem JV (t:Nat):∀l:List (Nat×I),fz t (J l)=J (pz t l):=by
 intro l
 funext u
 induction l with
 |nil=>rfl
 |cons p l ih=>
  obtain⟨v,d⟩:=p
  simp only[fz,J,pz]at ih⊢
  split
  ·rfl
  ·exact ih
def gy (k:List Nat) (s:aj):List (Nat×I):=k.map fun t=>(t,s t)
section
variable {C:bq} {l:List (Nat×I)}
def dZ.pA:dZ→Bool
 | .call _ _=>true
 | .b8 _=>false
 | .d_ _=>false
 | .pick _ _ _=>false
 | .fc _=>false
 | .eg _ _=>false
 | .dH _ _=>false
 | .df _ _ _=>false
 | .c8 _ _=>false
 | .dY _ _ _=>false
 | .el _=>false
 | .bG _ _ _ _=>false
 | .un _ _=>false
 | .eP _ _ _=>false
 | .hL _ _=>false
 | .eh _ _ _=>false
 | .cC _ _ _ _=>false
 | .ek _ _ _=>false
 | .eA _ _ _=>false
 | .idx _ _ _=>false
 | .ex _ _=>false
 | .jr _ _ _=>false
 | .len _ _=>false
 | .app _ _ _ _=>false
 | .shr _=>true
 | .kV _ _ _ _=>false
 | .cap _ _=>false
 | .fL _ _ _=>false
 | .bad=>false
 | .jZ _ _ _ _=>true
 | .j0 _ _ _=>true
 | .iA _ _=>false
 | .n6 _=>false
 | .nn _=>false
 | .sG=>false
 | .kU _ _ _=>false
 | .jY _ _ _ _=>false
variable {Q:Exit→aj→Prop}
def I.CA:I→Bool
 | .tuple _=>true
 |_=>false
theorem Ends.one {fx:List Nat} {t:Nat} {r:I} {s:aj} (aa:s t=r) (ad:(r.tree&& !r.CA)=true):Ends C fx [.tmp t] r [] s:=by
 simp only[Bool.and_eq_true,Bool.not_eq_true']at ad
 obtain⟨ad,u1⟩:=ad
 have aB:∀vs,r≠.tuple vs:=fun vs e=>by subst e;simp[I.CA]at u1
 refine .inl ⟨[r],?_,rfl,by simp,fun i o h=>by simp at h⟩
 have:nv C s (.tmp t)=some r:=by
  simp only[nv,aa,ad,if_true]
  try (cases r<;>first|rfl|exact(aB _ rfl).elim)
 simp only[List.map_cons,List.map_nil,this]
end
section
variable {C:bq} {l:List (Nat×I)} {Q:Exit→aj→Prop}
theorem br.outs {f:FuncId} {as:List I} {r:I} {ks lH:List I} (h:br C f as r ks) (he:dJ ks=dJ lH):br C f as r lH:=by
 intro w F X S vs aJ aC
 refine lI.mono (h w F X S vs aJ aC) ?_
 rintro v aw ⟨bc,aD,aQ⟩
 refine⟨bc,aD,?_⟩
 have:dJ (r::lH)=dJ (r::ks):=by
  funext t
  cases t with
  |zero=>rfl
  |succ t=>exact(congrFun he t).symm
 rw[this];exact aQ
def jx:List I→List I→List bS
 |a::as,d::ds=>⟨a,false,d,.hole⟩::jx as ds
 |_,_=>[]
theorem JW {s:aj}:∀(as ds:List I),views s as=some ds→(jx as ds).map (·.a)=as∧(jx as ds).map (·.d)=ds∧(∀p∈jx as ds,p.ok s∧p.g=false∧p.o= .hole∧p.a∈as)∧fX (jx as ds)=true∧
  dJ ((jx as ds).map (·.o))=dJ []∧(∀nw,dx nw (jx as ds)=nw)∧(∀nw,fM nw (jx as ds)=nw):=by
 intro as
 induction as with
 |nil=>
  intro ds h
  simp only[views,Option.some.injEq]at h;subst h
  exact⟨rfl,rfl,(fun p ak=>by cases ak),rfl,rfl,fun _=>rfl,fun _=>rfl⟩
 |cons a as ih=>
  intro ds h
  simp only[views]at h
  split at h
  ·rename_i d JX aa ad
   simp only[Option.some.injEq]at h;subst h
   obtain⟨aF,aI,aL,bX,b7,bs,bj⟩:=ih JX ad
   refine⟨by simp only[jx,List.map_cons,aF],by simp only[jx,List.map_cons,aI],?_,?_,?_,?_,?_⟩
   ·intro p ak
    simp only[jx,List.mem_cons]at ak
    rcases ak with rfl|ak
    ·exact⟨by simp only[bS.ok];exact aa,rfl,rfl,by simp⟩
    ·obtain⟨g1,g2,g3,g4⟩:=aL p ak
     exact⟨g1,g2,g3,by simp[g4]⟩
   ·simp only[jx,fX,bX,Bool.and_true,List.all_eq_true]
    intro p ak
    simp[(aL p ak).2.1]
   ·funext t
    cases t with
    |zero=>rfl
    |succ t=>exact(congrFun b7 t).trans (by simp[dJ])
   ·intro nw;exact bs nw
   ·intro nw;exact bj nw
  ·cases h
end
structure dz where
 a8:List Nat
 H:List Nat
 T:List Nat
 c:Bool
mutual
def I.clean:I→Bool
 | .hole=>false
 | .fn _ cap=>I.qL cap
 |_=>true
def I.qL:List I→Bool
 |[]=>true
 |d::ds=>d.clean&&I.qL ds
end
mutual
theorem CB {x:Nat}:∀a:I,(bn x a).clean=true→bn x a=a
 | .h y q,h=>by
   simp only[bn]at h⊢
   split
   ·rename_i e;rw[if_pos e]at h
    split
    ·rfl
    ·rename_i ew;rw[if_neg ew]at h;simp[I.clean]at h
   ·rfl
 | .ak y q,h=>by
   simp only[bn]at h⊢
   split
   ·rename_i e;rw[if_pos e]at h;simp[I.clean]at h
   ·rfl
 | .R y q,h=>rfl
 | .fn f cap,h=>by simp only[bn,I.clean]at h⊢;rw[CC cap h]
 | .hole,_=>rfl
 | .bool _,_=>rfl
 | .dd,_=>rfl
 | .int _ _,_=>rfl
 | .str _,_=>rfl
 | .cn,_=>rfl
 | .bH,_=>rfl
 | .slice _,_=>rfl
 | .aK _ _,_=>rfl
 | .ref _,_=>rfl
 | .a1 _,_=>rfl
 | .agg _,_=>rfl
 | .tuple _,_=>rfl
 | .cA _,_=>rfl
theorem CC {x:Nat}:∀ds:List I,I.qL (fS x ds)=true→fS x ds=ds
 |[],_=>rfl
 |d::ds,h=>by
  simp only[fS,I.qL,Bool.and_eq_true]at h⊢
  rw[CB d h.1,CC ds h.2]
end
mutual
theorem CD {x:Nat}:∀a:I,(bT x a).clean=true→bT x a=a
 | .h y q,h=>by
   simp only[bT]at h⊢
   split
   ·rename_i e;rw[if_pos e]at h;simp[I.clean]at h
   ·rfl
 | .ak y q,h=>by
   simp only[bT]at h⊢
   split
   ·rename_i e;rw[if_pos e]at h;simp[I.clean]at h
   ·rfl
 | .R y q,h=>by
   simp only[bT]at h⊢
   split
   ·rename_i e;rw[if_pos e]at h;simp[I.clean]at h
   ·rfl
 | .fn f cap,h=>by simp only[bT,I.clean]at h⊢;rw[CE cap h]
 | .hole,_=>rfl
 | .bool _,_=>rfl
 | .dd,_=>rfl
 | .int _ _,_=>rfl
 | .str _,_=>rfl
 | .cn,_=>rfl
 | .bH,_=>rfl
 | .slice _,_=>rfl
 | .aK _ _,_=>rfl
 | .ref _,_=>rfl
 | .a1 _,_=>rfl
 | .agg _,_=>rfl
 | .tuple _,_=>rfl
 | .cA _,_=>rfl
theorem CE {x:Nat}:∀ds:List I,I.qL (gn x ds)=true→gn x ds=ds
 |[],_=>rfl
 |d::ds,h=>by
  simp only[gn,I.qL,Bool.and_eq_true]at h⊢
  rw[CD d h.1,CE ds h.2]
end
theorem JY {k:mi} {x:Nat} {a:I} (h:(k.app x a).clean=true):k.app x a=a:=by
 cases k with
 |no=>rfl
 |bn=>exact CB a h
 |bT=>exact CD a h
theorem JZ:∀(ms:List eQ) (u:Nat) (a:I),(∀m∈ms,m.x≠u)→(ha ms u a).clean=true→ha ms u a=a:=by
 intro ms
 induction ms with
 |nil=>intros;rfl
 |cons m ms ih=>
  intro u a ao ai
  simp only[ha]at ai⊢
  have e:=ih u _ (fun gY pB=>ao gY (by simp[pB])) ai
  have hm:m.at u a=m.k.app m.x a:=by
   simp only[eQ.at];rw[if_neg (fun e=>ao m (by simp) e.symm)]
  rw[e,hm]
  rw[e,hm]at ai
  exact JY ai
theorem J0:∀(ms:List eQ) (u:Nat) (a:I),(∀m∈ms,m.x≠u∧m.x∉a.U)→ha ms u a=a:=by
 intro ms
 induction ms with
 |nil=>intros;rfl
 |cons m ms ih=>
  intro u a ao
  simp only[ha]
  have hm:m.at u a=a:=by
   simp only[eQ.at];rw[if_neg (fun e=>(ao m (by simp)).1 e.symm)]
   exact sK (.inr (ao m (by simp)).2)
  rw[hm]
  exact ih u a fun gY pB=>ao gY (by simp[pB])
theorem J1 (m:eQ):∀(ms:List eQ) (u:Nat) (a:I),(∀gY∈ms,gY.x≠m.x∧gY.x∉m.d.U∧m.x∉gY.d.U)→ha ms u (m.at u a)=m.at u (ha ms u a):=by
 intro ms
 induction ms with
 |nil=>intros;rfl
 |cons n ms ih=>
  intro u a ao
  simp only[ha]
  have aW:=ao n (by simp)
  have ai:n.at u (m.at u a)=m.at u (n.at u a):=by
   simp only[eQ.at]
   by_cases aF:u=n.x
   ·subst aF
    rw[if_pos rfl,if_neg aW.1,if_pos rfl]
    exact(sK (.inr aW.2.2)).symm
   ·rw[if_neg aF]
    by_cases aI:u=m.x
    ·subst aI
     rw[if_pos rfl,if_pos rfl]
     exact sK (.inr aW.2.1)
    ·rw[if_neg aI,if_neg aF,if_neg aI]
     exact Ie _ _ _ _ _
  rw[ai]
  exact ih u _ fun gY pB=>ao gY (by simp[pB])
theorem J2:∀(ms h5:List eQ) (s:aj),(∀m∈ms,∀n∈h5,n.x≠m.x∧n.x∉m.d.U∧m.x∉n.d.U)→cj h5 (cj ms s)=cj ms (cj h5 s):=by
 intro ms
 induction ms with
 |nil=>intros;rfl
 |cons m ms ih=>
  intro h5 s h
  have e:∀s,cj (m::ms) s=cj ms (cj [m] s):=fun s=>iZ [m] ms s
  rw[e,e,ih h5 _ (fun gY pB=>h gY (by simp[pB]))]
  congr 1
  funext u
  simp only[cj,ha]
  exact J1 m h5 u _ (h m (by simp))
def yq (C:bq) (s:aj) (f:ay) (args:List ay) (K:List Nat→I→aj→Prop):Prop:=
 ∃(g:FuncId) (caps:List I) (ps:List bS) (r:I),az s f= .fn g caps∧I.dW caps=true∧ps.map (·.a)=args.map (az s)++caps∧(∀p∈ps,p.ok s)∧fX ps=true∧
   br C g (ps.map (·.d)) r (ps.map (·.o))∧r.res=true∧(hM ps=true→r.dc=true∧∀p∈ps,p.o.dc=true)∧K (I.cR ((ps.filter (·.g)).map (·.a))) r (fM (dx s ps) ps)
def lN (C:bq) (s:aj) (a_:dZ) (K:List Nat→I→aj→Prop):Prop:=
 match a_ with
 | .call f args=>∃(g:FuncId) (caps:List I) (ps:List bS) (r:I),az s f= .fn g caps∧I.dW caps=true∧ps.map (·.a)=args.map (az s)++caps∧(∀p∈ps,p.ok s)∧fX ps=true∧
   br C g (ps.map (·.d)) r (ps.map (·.o))∧r.res=true∧(hM ps=true→r.dc=true∧∀p∈ps,p.o.dc=true)∧K (I.cR ((ps.filter (·.g)).map (·.a))) r (fM (dx s ps) ps)
 | .shr a_=>∃av s1,aZ C s a_=some (av,s1)∧av.tree=true∧(∀vs,av≠.tuple vs)∧K (cf s a_) av.share s1
 | .jZ f args u x=>s u= .h x []∧(s x).own=true∧yq C s f args fun bR av s1=>s1 u= .hole∧(s1 x).own=true∧K (u::bR) av (cg s1 u (.h x []))
 | .j0 f args us=>mo s (jw s us)=true∧yq C s f args fun bR av s1=>mo s1 (jw s us)=true∧K (us++bR) av (nt s1 (jw s us))
 |a_=>∃av s1,aZ C s a_=some (av,s1)∧K (cf s a_) av s1
def gg (s:aj) (a8:List Nat) (dst:Option Nat) (bR:List Nat) (av:I):dz:=
 ⟨a8,a8.flatMap (fun u=>(s u).U)++av.U,dst.toList++bR,a8.all fun u=>(s u).clean⟩
def ku (C:bq) (s:aj) (o:bm) (K:dz→aj→Prop):Prop:=
 match o.guard with
 |none=>lN C s o.a_ fun bR av s1=>K (gg s (use s o.a_) o.dst bR av) (fin s1 o.dst av)
 |some (t,b)=>match s t with
  | .bool dG=>if dG=b then lN C s o.a_ (fun bR av s1=>K (gg s (t::use s o.a_) o.dst bR av) (fin s1 o.dst av))else K (gg s [t] o.dst [] (.tuple [])) (fin s o.dst (.tuple []))
  | .tuple []=>K (gg s [t] o.dst [] (.tuple [])) (fin s o.dst (.tuple []))
  |_=>False
def mu:Option (List dz)→dz→Option (List dz)
 |none,_=>none
 |some l,f=>some (f::l)
def bK (C:bq) (s:aj):List bm→Option (List dz)→(Option (List dz)→aj→Prop)→Prop
 |[],acc,K=>K acc s
 |o::os,acc,K=>ku C s o fun f s1=>bK C s1 os (mu acc f) K
section
variable {C:bq}
theorem CF {s:aj} {a_:dZ} {K:List Nat→I→aj→Prop} {bC:I→aj→Prop} (ar:∀bR av s,K bR av s→bC av s) (h:lN C s a_ K):k3 C s a_ bC:=by
 cases a_ with
 |call f args=>
  obtain⟨g,caps,ps,r,aa,eJ,ad,aB,aO,a6,bp,bB,cE⟩:=h
  exact⟨g,caps,ps,r,aa,eJ,ad,aB,aO,a6,bp,bB,ar _ _ _ cE⟩
 |jZ f args u x=>
  obtain⟨bx,bF,g,caps,ps,r,aa,eJ,ad,aB,aO,a6,bp,bB,cE,eL,fj⟩:=h
  exact⟨bx,bF,g,caps,ps,r,aa,eJ,ad,aB,aO,a6,bp,bB,cE,eL,ar _ _ _ fj⟩
 |j0 f args us=>
  obtain⟨bF,g,caps,ps,r,aa,eJ,ad,aB,aO,a6,bp,bB,cE,eL⟩:=h
  exact⟨bF,g,caps,ps,r,aa,eJ,ad,aB,aO,a6,bp,bB,cE,ar _ _ _ eL⟩
 |shr a_=>
  obtain⟨av,s1,aa,ad,aB,aO⟩:=h
  exact⟨av,s1,aa,ad,aB,ar _ _ _ aO⟩
 |_=>
  obtain⟨av,s1,aa,ad⟩:=h
  exact⟨av,s1,aa,ar _ _ _ ad⟩
theorem J3 {s:aj} {o:bm} {K:dz→aj→Prop} {bC:aj→Prop} (ar:∀f s,K f s→bC s) (h:ku C s o K):i6 C s o bC:=by
 unfold ku at h
 unfold i6
 split
 ·rename_i hg;rw[hg]at h;exact CF (fun _ _ _=>ar _ _) h
 ·rename_i t b hg
  rw[hg]at h
  simp only at h
  split
  ·rename_i dG U
   rw[U]at h
   simp only at h
   split
   ·rename_i R;rw[if_pos R]at h;exact CF (fun _ _ _=>ar _ _) h
   ·rename_i R;rw[if_neg R]at h;exact ar _ _ h
  ·rename_i U;rw[U]at h;exact ar _ _ h
  ·rename_i aa ad
   split at h
   ·exact aa _ (by assumption)
   ·exact ad (by assumption)
   ·exact h
theorem u2 {K:aj→Prop}:∀{ros:List bm} {s:aj} {acc:Option (List dz)} {bC:Option (List dz)→aj→Prop},(∀a s,bC a s→K s)→bK C s ros acc bC→iF C s ros K:=by
 intro ros
 induction ros with
 |nil=>intro s acc bC ar h;exact ar _ _ h
 |cons o ros ih=>intro s acc bC ar h;exact J3 (fun f s h=>ih ar h) h
theorem CG {q:List Nat} {a d:I} (h:I.sub q a=some d) (ca:q≠[]∨d.U=[]):a.U=[]:=by
 cases q with
 |nil=>
  simp only[I.sub,Option.some.injEq]at h;subst h
  exact ca.resolve_left (fun e=>e rfl)
 |cons k q=>cases a<;>first|rfl|(simp[I.sub]at h)
def u3 (s:aj) (p:bS) (e:I→Prop):Prop:=p.g=true→∃x q d,p.a= .h x q∧I.sub q (s x)=some d∧e d∧(p.o= .hole∨p.o.et=true)
theorem CH {d:I} (h:d.et=true):d.U=[]:=B1 (n9 h).2.1
theorem CI {d:I} (h:d.et=true):d.b6.U=[]:=by cases d<;>first|rfl|(simp[I.et]at h)
theorem CJ {p:bS} {ps:List bS} (h:fX (p::ps)=true):fX ps=true∧∀bO∈ps,(p.g=true∨bO.g=true)→∀u∈p.a.U,u∉bO.a.U:=by
 simp only[fX,Bool.and_eq_true,List.all_eq_true,Bool.or_eq_true,Bool.not_eq_true']at h
 refine⟨h.2,fun bO cW hg u hu=> ?_⟩
 rcases h.1 bO cW with e|e
 ·rcases hg with hg|hg<;>simp[hg]at e
 ·simpa using e u hu
def nx (ps:List bS):List Nat:=I.cR ((ps.filter (·.g)).map (·.a))
theorem qM (p:bS) (ps:List bS):(∀u∈nx ps,u∈nx (p::ps))∧(p.g=true→∀u∈p.a.U,u∈nx (p::ps)):=by
 unfold nx
 by_cases hg:p.g=true
 ·simp only[List.filter_cons,hg,if_true,List.map_cons,I.cR,List.mem_append]
  exact⟨fun u h=>.inr h,fun _ u h=>.inl h⟩
 ·simp only[List.filter_cons,hg]
  exact⟨fun u h=>h,fun h=>by simp at h⟩
theorem J4 {p:bS} {ps:List bS} (h:p∈ps):∀u∈p.a.U,u∈I.cR (ps.map (·.a)):=by
 induction ps with
 |nil=>cases h
 |cons bO ps ih=>
  intro u hu
  simp only[List.map_cons,I.cR,List.mem_append]
  rcases List.mem_cons.1 h with rfl|h
  ·exact .inl hu
  ·exact .inr (ih h u hu)
theorem J5:∀(ps:List bS) (s:aj),(∀p∈ps,u3 s p (fun d=>d=p.d∧p.d.et=true))→fX ps=true→
  (∃ms:List eQ,(∀m∈ms,m.x∈nx ps∧m.d.U=[])∧∀aq,cm (I.cR (ps.map (·.a))) aq s→dx aq ps=cj ms aq)∧∀p∈ps,u3 (dx s ps) p (fun d=>d=p.d.b6∧p.d.et=true):=by
 intro ps
 induction ps with
 |nil=>intro s _ _;exact⟨⟨[],by simp,fun aq _=>rfl⟩,fun p ak=>by cases ak⟩
 |cons p ps ih=>
  intro s hg h4
  obtain⟨lG,k1⟩:=CJ h4
  by_cases jy:p.g=true
  ·obtain⟨x,q,d,bQ,U,⟨rfl,ae⟩,bI⟩:=hg p (by simp) jy
   have hr:(I.put q p.d.b6 (s x)).U=[]:=qz q _ _ _ U (.inl (n9 ae).1) fun _=>CI ae
   have s5:∀aq:aj,aq x=s x→p.take aq=cj [⟨.bn,x,I.put q p.d.b6 (s x)⟩] aq:=by
    intro aq e
    simp only[bS.take,jy,if_true,bQ,e,pt]
   have cB:∀bO∈ps,∀cD fT,bO.a= .h cD fT→cD≠x:=by
    intro bO cW cD fT e ew
    have:=k1 bO cW (.inl jy) x (by simp[bQ,I.U])
    rw[e,ew]at this;simp[I.U]at this
   have n_:∀cD,cD≠x→(s cD).U=[]→cj [⟨.bn,x,I.put q p.d.b6 (s x)⟩] s cD=s cD:=by
    intro cD qn bz
    simp only[cj,ha,eQ.at]
    rw[if_neg qn]
    exact sK (.inr (by rw[bz];simp))
   obtain⟨⟨ms,m1,m2⟩,m3⟩:=ih (cj [⟨.bn,x,I.put q p.d.b6 (s x)⟩] s) (fun bO cW yr=>by
    obtain⟨cD,fT,aV,ns,eW,eX,s6⟩:=hg bO (by simp[cW]) yr
    refine⟨cD,fT,aV,ns,?_,eX,s6⟩
    rw[n_ cD (cB bO cW cD fT ns) (CG eW (.inr (by rw[eX.1];exact CH eX.2)))];exact eW) lG
   refine⟨⟨[⟨.bn,x,I.put q p.d.b6 (s x)⟩]++ms,?_,?_⟩,?_⟩
   ·intro m hm
    rcases List.mem_append.1 hm with hm|hm
    ·simp only[List.mem_singleton]at hm;subst hm
     exact⟨(qM p ps).2 jy x (by simp[bQ,I.U]),hr⟩
    ·exact⟨(qM p ps).1 _ (m1 m hm).1,(m1 m hm).2⟩
   ·intro aq eW
    simp only[List.map_cons,I.cR]at eW
    have e:aq x=s x:=eW x (by simp[bQ,I.U])
    rw[iZ]
    show dx (p.take aq) ps=_
    rw[s5 aq e]
    exact m2 _ (cm.cj eW.right _)
   ·have aF:dx s (p::ps)=dx (cj [⟨.bn,x,I.put q p.d.b6 (s x)⟩] s) ps:=by
     show dx (p.take s) ps=_
     rw[s5 s rfl]
    rw[aF]
    intro bO cW
    rcases List.mem_cons.1 cW with rfl|cW
    ·intro _
     refine⟨x,q,bO.d.b6,bQ,?_,⟨rfl,ae⟩,bI⟩
     have aE:cj [⟨.bn,x,I.put q bO.d.b6 (s x)⟩] s x=I.put q bO.d.b6 (s x):=by
      simp only[cj,ha,eQ.at,if_true]
     rw[x0 (by rw[aE];exact hr) (fun J6 J7 Y5=> ?_),aE]
     ·exact BX q _ _ _ U
     ·exact k1 J6 J7 (.inl jy) x (by simp[bQ,I.U])
    ·exact m3 bO cW
  ·have s5:∀aq:aj,p.take aq=aq:=by intro aq;simp only[bS.take,jy];rfl
   obtain⟨⟨ms,m1,m2⟩,m3⟩:=ih s (fun bO cW=>hg bO (by simp[cW])) lG
   refine⟨⟨ms,fun m hm=>⟨(qM p ps).1 _ (m1 m hm).1,(m1 m hm).2⟩,?_⟩,?_⟩
   ·intro aq eW
    simp only[List.map_cons,I.cR]at eW
    show dx (p.take aq) ps=_
    rw[s5];exact m2 aq eW.right
   ·intro bO cW
    have aF:dx s (p::ps)=dx s ps:=by show dx (p.take s) ps=_;rw[s5]
    rw[aF]
    rcases List.mem_cons.1 cW with rfl|cW
    ·intro h;exact(jy h).elim
    ·exact m3 bO cW
theorem J8:∀(ps:List bS) (s:aj),(∀p∈ps,u3 s p (fun d=>d=p.d.b6∧p.d.et=true))→fX ps=true→
  (∃ms:List eQ,(∀m∈ms,m.x∈nx ps∧m.d.U=[])∧∀aq,cm (I.cR (ps.map (·.a))) aq s→fM aq ps=cj ms aq):=by
 intro ps
 induction ps with
 |nil=>intro s _ _;exact⟨[],by simp,fun aq _=>rfl⟩
 |cons p ps ih=>
  intro s hg h4
  obtain⟨lG,k1⟩:=CJ h4
  by_cases jy:p.g=true∧p.o≠.hole
  ·obtain⟨jy,J9⟩:=jy
   obtain⟨x,q,d,bQ,U,⟨rfl,ae⟩,bI⟩:=hg p (by simp) jy
   have bI:p.o.et=true:=bI.resolve_left J9
   have hr:(I.put q p.o (s x)).U=[]:=by
    cases q with
    |nil=>simp only[I.put];exact CH bI
    |cons k q=>exact qz _ _ _ _ U (.inr (by simp)) (by simp)
   have ys:∀aq:aj,aq x=s x→p.fW aq=cj [⟨.bT,x,I.put q p.o (s x)⟩] aq:=by
    intro aq e
    simp only[bS.fW,jy,if_true,bQ]
    rw[e,BG]
   have cB:∀bO∈ps,∀cD fT,bO.a= .h cD fT→cD≠x:=by
    intro bO cW cD fT e ew
    have:=k1 bO cW (.inl jy) x (by simp[bQ,I.U])
    rw[e,ew]at this;simp[I.U]at this
   obtain⟨ms,m1,m2⟩:=ih (cj [⟨.bT,x,I.put q p.o (s x)⟩] s) (fun bO cW yr=>by
    obtain⟨cD,fT,aV,ns,eW,eX,s6⟩:=hg bO (by simp[cW]) yr
    refine⟨cD,fT,aV,ns,?_,eX,s6⟩
    have bz:=CG eW (.inr (by rw[eX.1];exact CI eX.2))
    have n_:cj [⟨.bT,x,I.put q p.o (s x)⟩] s cD=s cD:=by
     simp only[cj,ha,eQ.at]
     rw[if_neg (cB bO cW cD fT ns)]
     exact sK (.inr (by rw[bz];simp))
    rw[n_];exact eW) lG
   refine⟨[⟨.bT,x,I.put q p.o (s x)⟩]++ms,?_,?_⟩
   ·intro m hm
    rcases List.mem_append.1 hm with hm|hm
    ·simp only[List.mem_singleton]at hm;subst hm
     exact⟨(qM p ps).2 jy x (by simp[bQ,I.U]),hr⟩
    ·exact⟨(qM p ps).1 _ (m1 m hm).1,(m1 m hm).2⟩
   ·intro aq eW
    simp only[List.map_cons,I.cR]at eW
    have e:aq x=s x:=eW x (by simp[bQ,I.U])
    rw[iZ]
    show fM (p.fW aq) ps=_
    rw[ys aq e]
    exact m2 _ (cm.cj eW.right _)
  ·have ys:∀aq:aj,p.fW aq=aq:=by
    intro aq
    unfold bS.fW
    split
    ·rename_i e1
     have:p.o= .hole:=by
      by_cases h:p.o= .hole
      ·exact h
      ·exact(jy ⟨e1,h⟩).elim
     rw[this]
    ·rfl
   obtain⟨ms,m1,m2⟩:=ih s (fun bO cW=>hg bO (by simp[cW])) lG
   refine⟨ms,fun m hm=>⟨(qM p ps).1 _ (m1 m hm).1,(m1 m hm).2⟩,?_⟩
   intro aq eW
   simp only[List.map_cons,I.cR]at eW
   show fM (p.fW aq) ps=_
   rw[ys];exact m2 aq eW.right
theorem J_ {s aq:aj}:∀(a:I) (d:I),cm a.U aq s→view s a=some d→view aq a=some d:=by
 intro a d h
 have:=x3 (s:=s) (aq:=aq) a d
 intro aE
 cases a with
 |h x q=>simp only[view]at aE⊢;rw[h x (by simp[I.U])];exact aE
 |ak x q=>simp only[view]at aE⊢;rw[h x (by simp[I.U])];exact aE
 |fn f cap=>
  refine this (fun u hu _=>h u hu) aE
 |_=>exact aE
theorem Ka {p:bS} {s aq:aj} (h:cm p.a.U aq s) (eR:p.ok s):p.ok aq:=by
 unfold bS.ok at eR⊢
 split
 ·rename_i hg
  rw[if_pos hg]at eR
  cases bQ:p.a with
  |h x q=>
   rw[bQ]at eR
   simp only at eR⊢
   rw[h x (by simp[bQ,I.U])];exact eR
  |_=>rw[bQ]at eR;exact eR.elim
 ·rename_i hg
  rw[if_neg hg]at eR
  exact J_ _ _ h eR
def u4 (C:bq) (o:bm) (s:aj) (hO:dz) (ms:List eQ):Prop:=
 (∀aq,cm hO.a8 aq s→∀K:aj→Prop,K (cj ms aq)→i6 C aq o K)∧(∀m∈ms,m.x∈hO.T∧∀u∈m.d.U,u∈hO.H)∧(∀u∈hO.a8,∀x∈(s u).U,x∈hO.H)∧(hO.c=true→∀u∈hO.a8,(s u).clean=true)
theorem CK (dst:Option Nat) (av:I):∃ms:List eQ,(∀m∈ms,m.x∈dst.toList∧m.d=av)∧∀s1:aj,fin s1 dst av=cj ms s1:=by
 cases dst with
 |none=>exact⟨[],by simp,fun s=>rfl⟩
 |some t=>
  simp only[fin]
  by_cases h:av.plain=true
  ·exact⟨[⟨.no,t,av⟩],by simp,fun s=>by rw[if_pos h,xN]⟩
  ·exact⟨[⟨.bT,t,av⟩],by simp,fun s=>by rw[if_neg h,BG]⟩
theorem u5 {s:aj} {a8:List Nat} {dst:Option Nat} {bR:List Nat} {av:I}:(∀u∈(gg s a8 dst bR av).a8,∀x∈(s u).U,x∈(gg s a8 dst bR av).H)∧((gg s a8 dst bR av).c=true→∀u∈(gg s a8 dst bR av).a8,(s u).clean=true):=by
 refine⟨fun u hu x ao=> ?_,fun ai=> ?_⟩
 ·simp only[gg,List.mem_append,List.mem_flatMap];exact .inl ⟨u,hu,ao⟩
 ·simp only[gg,List.all_eq_true]at ai;exact ai
theorem yt {s:aj} {f:ay} {args:List ay} {K:List Nat→I→aj→Prop} (h:yq C s f args K):
  ∃bR av ms,K bR av (cj ms s)∧(∀m∈ms,m.x∈bR∧m.d.U=[])∧∀aq,cm (use s (.call f args)) aq s→∀bC:I→aj→Prop,bC av (cj ms aq)→uU C aq f args bC:=by
 obtain⟨g,caps,ps,r,aa,eJ,ad,aB,aO,a6,bp,bB,cE⟩:=h
 have Kb:∀p∈ps,u3 s p (fun d=>d=p.d∧p.d.et=true):=by
  intro p ak hg
  have:=aB p ak
  simp only[bS.ok,hg,if_true]at this
  cases bQ:p.a with
  |h x q=>rw[bQ]at this;exact⟨x,q,p.d,rfl,this.1,⟨rfl,this.2.1⟩,this.2.2.imp id fun h=>h.1⟩
  |_=>rw[bQ]at this;exact this.elim
 obtain⟨⟨lE,ah,a2⟩,a3⟩:=J5 ps s Kb aO
 obtain⟨n5,jq,gu⟩:=J8 ps (dx s ps) a3 aO
 have mf:∀u∈I.cR (ps.map (·.a)),u∈use s (.call f args):=by
  rw[ad]
  intro u hu
  simp only[use,List.mem_append]
  have key:∀(eV l2:List I),u∈I.cR (eV++l2)→u∈I.cR eV∨u∈I.cR l2:=by
   intro eV
   induction eV with
   |nil=>intro l2 h;exact .inr h
   |cons a eV ih=>
    intro l2 h
    simp only[List.cons_append,I.cR,List.mem_append]at h⊢
    rcases h with h|h
    ·exact .inl (.inl h)
    ·exact(ih l2 h).imp .inr id
  rcases key _ _ hu with hu|hu
  ·exact .inr (ay.uQ u hu)
  ·refine .inl (ay.pv u ?_)
   rw[aa];exact hu
 have eS:fM (dx s ps) ps=cj (lE++n5) s:=by
  rw[iZ,←a2 s (fun _ _=>rfl),gu _ (fun _ _=>rfl)]
 refine⟨nx ps,r,lE++n5,by rw[←eS];exact cE,?_,?_⟩
 ·intro m hm
  rcases List.mem_append.1 hm with hm|hm
  ·exact ah m hm
  ·exact jq m hm
 ·intro aq U bC ar
  have nq:cm (I.cR (ps.map (·.a))) aq s:=U.sub mf
  have bh:cm (f.use s) aq s:=by simp only[use]at U;exact U.left
  have ao:cm (ay.kZ s args) aq s:=by simp only[use]at U;exact U.right
  have aF:fM (dx aq ps) ps=cj (lE++n5) aq:=by
   rw[iZ,←a2 aq nq,gu]
   rw[a2 aq nq,a2 s (fun _ _=>rfl)]
   exact cm.cj nq _
  exact⟨g,caps,ps,r,by rw[ay.dt bh];exact aa,eJ,by rw[ay.xR ao];exact ad,fun p ak=>Ka (nq.sub (J4 ak)) (aB p ak),aO,a6,bp,bB,by rw[aF];exact ar⟩
mutual
theorem CL {s aq:aj}:∀(d:I),cm d.U aq s→d.e7 aq=d.e7 s
 | .h x q,h=>by simp only[I.e7];rw[h x (by simp[I.U])]
 | .R x q,h=>by simp only[I.e7];rw[h x (by simp[I.U])]
 | .fn f cap,h=>by simp only[I.e7];exact CM cap (by simpa only[I.U]using h)
 | .ak _ _,_=>by simp only[I.e7]
 | .hole,_=>by simp only[I.e7]
 | .bool _,_=>by simp only[I.e7]
 | .dd,_=>by simp only[I.e7]
 | .int _ _,_=>by simp only[I.e7]
 | .str _,_=>by simp only[I.e7]
 | .cn,_=>by simp only[I.e7]
 | .bH,_=>by simp only[I.e7]
 | .slice _,_=>by simp only[I.e7]
 | .aK _ _,_=>by simp only[I.e7]
 | .ref _,_=>by simp only[I.e7]
 | .a1 _,_=>by simp only[I.e7]
 | .agg _,_=>by simp only[I.e7]
 | .tuple _,_=>by simp only[I.e7]
 | .cA _,_=>by simp only[I.e7]
theorem CM {s aq:aj}:∀(ds:List I),cm (I.cR ds) aq s→I.ob aq ds=I.ob s ds
 |[],_=>rfl
 |d::ds,h=>by
  simp only[I.cR]at h
  simp only[I.ob];rw[CL d h.left,CM ds h.right]
end
theorem yu {s aq:aj} {us:List Nat} (h:cm (us.flatMap fun u=>u::(s u).U) aq s):jw aq us=jw s us:=by
 unfold jw
 refine List.map_congr_left fun u hu=> ?_
 rw[h u (List.mem_flatMap.2 ⟨u,hu,by simp⟩)]
theorem yv {s aq:aj}:∀(L:List (Nat×I)),(∀p∈L,cm p.2.U aq s)→mo aq L=mo s L
 |[],_=>rfl
 |p::L,h=>by
  simp only[mo];rw[CL p.2 (h p (by simp)),yv L (fun q ca=>h q (by simp[ca]))]
theorem CN:∀(L:List (Nat×I)) (s:aj),nt s L=cj (L.map fun p=>⟨.no,p.1,p.2⟩) s
 |[],s=>rfl
 |p::L,s=>by
  simp only[nt,List.map_cons]
  rw[CN L,xN]
  exact(iZ [⟨.no,p.1,p.2⟩] _ s).symm
theorem Kc {s:aj} {a_:dZ} {K:List Nat→I→aj→Prop} (h:lN C s a_ K):
  ∃bR av ms,K bR av (cj ms s)∧(∀m∈ms,m.x∈bR∧∀v∈m.d.U,∃u∈use s a_,v∈(s u).U)∧∀aq,cm (use s a_) aq s→∀bC:I→aj→Prop,bC av (cj ms aq)→k3 C aq a_ bC:=by
 have plain:(∃av s1,aZ C s a_=some (av,s1)∧K (cf s a_) av s1)→(∀aq (bC:I→aj→Prop) av s1,aZ C aq a_=some (av,s1)→bC av s1→k3 C aq a_ bC)→
   ∃bR av ms,K bR av (cj ms s)∧(∀m∈ms,m.x∈bR∧∀v∈m.d.U,∃u∈use s a_,v∈(s u).U)∧∀aq,cm (use s a_) aq s→∀bC:I→aj→Prop,bC av (cj ms aq)→k3 C aq a_ bC:=by
  rintro⟨av,s1,aa,ad⟩ hw
  obtain⟨ms,aF,aI,aL⟩:=BV aa
  subst aF
  exact⟨_,av,ms,ad,fun m hm=>⟨(aI m hm).1,fun v aE=>by rw[(aI m hm).2]at aE;cases aE⟩,fun aq U bC ar=>hw aq bC av _ (aL aq U) ar⟩
 cases a_ with
 |call f args=>
  obtain⟨bR,av,ms,ah,a2,a3⟩:=yt h
  exact⟨bR,av,ms,ah,fun m hm=>⟨(a2 m hm).1,fun v aE=>by rw[(a2 m hm).2]at aE;cases aE⟩,fun aq U bC ar=>a3 aq U bC ar⟩
 |jZ f args u x=>
  obtain⟨bx,bF,ai⟩:=h
  obtain⟨bR,av,ms,⟨ah,yw,Kd⟩,a2,a3⟩:=yt ai
  have e:∀s:aj,cg (cj ms s) u (.h x [])=cj (ms++[⟨.no,u,.h x []⟩]) s:=fun s=>by rw[iZ,←xN]
  refine⟨u::bR,av,ms++[⟨.no,u,.h x []⟩],by rw[←e];exact Kd,?_,?_⟩
  ·intro m hm
   rcases List.mem_append.1 hm with hm|hm
   ·exact⟨by simp[(a2 m hm).1],fun v aE=>by rw[(a2 m hm).2]at aE;cases aE⟩
   ·simp only[List.mem_singleton]at hm;subst hm
    refine⟨by simp,fun v aE=>⟨u,by simp[use],?_⟩⟩
    rw[bx];exact aE
  ·intro aq U bC ar
   have CO:aq u=s u:=U u (by simp[use])
   have ex:aq x=s x:=U x (by simp[use])
   refine⟨by rw[CO];exact bx,by rw[ex];exact bF,a3 aq (fun y hy=>U y (by simp only[use,List.mem_cons]at hy⊢;exact .inr (.inr hy))) _ ⟨?_,?_,?_⟩⟩
   ·have:=ah;simp only[cj]at this⊢;rw[CO];exact this
   ·have:=yw;simp only[cj]at this⊢;rw[ex];exact this
   ·rw[e];exact ar
 |j0 f args us=>
  obtain⟨bF,ai⟩:=h
  obtain⟨bR,av,ms,⟨ah,yw⟩,a2,a3⟩:=yt ai
  have e:∀aq:aj,nt (cj ms aq) (jw s us)=cj (ms++(jw s us).map fun p=>⟨.no,p.1,p.2⟩) aq:=fun aq=>by rw[iZ,CN]
  have fb:∀{aq:aj},cm (us.flatMap fun u=>u::(s u).U) aq s→∀p∈jw s us,cm p.2.U aq s:=fun {aq} U p ak v aE=>by
   obtain⟨u,hu,rfl⟩:=List.mem_map.1 ak
   exact U v (List.mem_flatMap.2 ⟨u,hu,by simp[aE]⟩)
  refine⟨us++bR,av,ms++(jw s us).map fun p=>⟨.no,p.1,p.2⟩,by rw[←e];exact yw,?_,?_⟩
  ·intro m hm
   rcases List.mem_append.1 hm with hm|hm
   ·exact⟨by simp[(a2 m hm).1],fun v aE=>by rw[(a2 m hm).2]at aE;cases aE⟩
   ·obtain⟨p,ak,rfl⟩:=List.mem_map.1 hm
    obtain⟨u,hu,rfl⟩:=List.mem_map.1 ak
    exact⟨List.mem_append_left _ hu,fun v aE=>⟨u,by simp only[use,List.mem_append,List.mem_flatMap];exact .inl ⟨u,hu,by simp⟩,aE⟩⟩
  ·intro aq U bC ar
   simp only[use]at U
   refine⟨by rw[yu U.left,yv _ (fb U.left)];exact bF,a3 aq U.right _ ⟨?_,?_⟩⟩
   ·rw[yu U.left,yv _ (fun p ak=>(fb U.left p ak).cj ms)];exact ah
   ·rw[yu U.left,e];exact ar
 |shr a_=>
  obtain⟨av,s1,aa,ad,aB,aO⟩:=h
  obtain⟨ms,aF,aI,aL⟩:=BV aa
  subst aF
  exact⟨_,av.share,ms,aO,fun m hm=>⟨(aI m hm).1,fun v aE=>by rw[(aI m hm).2]at aE;cases aE⟩,fun aq U bC ar=>⟨av,_,aL aq U,ad,aB,ar⟩⟩
 |_=>exact plain h (fun aq bC av s1 aa ad=>⟨av,s1,aa,ad⟩)
theorem Ke {s:aj} {o:bm} {K:dz→aj→Prop} (h:ku C s o K):∃hO ms,K hO (cj ms s)∧u4 C o s hO ms:=by
 have op:∀(a8:List Nat),(∀u∈use s o.a_,u∈a8)→(∀aq,cm a8 aq s→∀bC:aj→Prop,k3 C aq o.a_ (fun av s1=>bC (fin s1 o.dst av))→i6 C aq o bC)→
   lN C s o.a_ (fun bR av s1=>K (gg s a8 o.dst bR av) (fin s1 o.dst av))→∃hO ms,K hO (cj ms s)∧u4 C o s hO ms:=by
  intro a8 mf jn hw
  obtain⟨bR,av,ms,aa,ad,aB⟩:=Kc hw
  obtain⟨h5,jz,dL⟩:=CK o.dst av
  refine⟨gg s a8 o.dst bR av,ms++h5,?_,?_,?_,u5.1,u5.2⟩
  ·rw[iZ,←dL];exact aa
  ·intro aq U bC ar
   refine jn aq U bC (aB aq (U.sub mf) _ ?_)
   rw[dL,←iZ];exact ar
  ·intro m hm
   simp only[gg,List.mem_append]
   rcases List.mem_append.1 hm with hm|hm
   ·refine⟨.inr (ad m hm).1,fun v aE=>.inl ?_⟩
    obtain⟨u,hu,iy⟩:=(ad m hm).2 v aE
    exact List.mem_flatMap.2 ⟨u,mf u hu,iy⟩
   ·exact⟨.inl (jz m hm).1,fun u hu=>.inr (by rw[(jz m hm).2]at hu;exact hu)⟩
 have skip:∀t,(∀aq,cm [t] aq s→∀bC:aj→Prop,bC (fin aq o.dst (.tuple []))→i6 C aq o bC)→K (gg s [t] o.dst [] (.tuple [])) (fin s o.dst (.tuple []))→∃hO ms,K hO (cj ms s)∧u4 C o s hO ms:=by
  intro t jn ar
  obtain⟨h5,jz,dL⟩:=CK o.dst (.tuple [])
  refine⟨_,h5,by rw[←dL];exact ar,?_,?_,u5.1,u5.2⟩
  ·intro aq U bC iX
   exact jn aq U bC (by rw[dL];exact iX)
  ·intro m hm
   simp only[gg,List.mem_append]
   exact⟨.inl (jz m hm).1,fun u hu=>by rw[(jz m hm).2]at hu;simp[I.U]at hu⟩
 unfold ku at h
 split at h
 ·rename_i hg
  exact op _ (fun _ h=>h) (fun aq _ bC hw=>by unfold i6;rw[hg];exact hw) h
 ·rename_i t b hg
  split at h
  ·rename_i dG R
   split at h
   ·rename_i e
    refine op (t::use s o.a_) (fun u hu=>by simp[hu]) (fun aq U bC hw=> ?_) h
    have:aq t=s t:=U t (by simp)
    unfold i6
    rw[hg]
    simp only[this,R,if_pos e]
    exact hw
   ·rename_i e
    refine skip t (fun aq U bC ar=> ?_) h
    have:aq t=s t:=U t (by simp)
    unfold i6
    rw[hg]
    simp only[this,R,if_neg e]
    exact ar
  ·rename_i R
   refine skip t (fun aq U bC ar=> ?_) h
   have:aq t=s t:=U t (by simp)
   unfold i6
   rw[hg]
   simp only[this,R]
   exact ar
  ·exact h.elim
def oi (C:bq) (ros:List bm):aj→List (Nat×dz×List eQ)→Prop
 |_,[]=>True
 |s,e::r=>(∃o,ros[e.1]? =some o∧u4 C o s e.2.1 e.2.2)∧oi C ros (cj e.2.2 s) r
def lO (s:aj) (r:List (Nat×dz×List eQ)):aj:=r.foldl (fun s e=>cj e.2.2 s) s
def kT (a b:List Nat):Bool:=a.all fun x=> !b.contains x
theorem qN {a b:List Nat} (h:kT a b=true):∀x∈a,x∉b:=by
 intro x ao
 simp only[kT,List.all_eq_true]at h
 simpa using h x ao
def pC (a b:dz):Bool:=kT b.T a.a8&&kT b.T a.H&&kT b.T a.T&&kT a.T b.a8&&kT a.T b.H&&b.c
theorem Kf {ros:List bm} {s:aj} {a b:Nat×dz×List eQ} {r:List (Nat×dz×List eQ)} (h:oi C ros s (a::b::r)) (aA:pC a.2.1 b.2.1=true):
  oi C ros s (b::a::r)∧lO s (b::a::r)=lO s (a::b::r):=by
 obtain⟨⟨Kg,bQ,ah,a2,a3,a4⟩,⟨cA,R,jq,gu,iY,dI⟩,aC⟩:=h
 simp only[pC,Bool.and_eq_true]at aA
 obtain⟨⟨⟨⟨⟨l5,i2⟩,i3⟩,i4⟩,i5⟩,wR⟩:=aA
 have yx:∀u∈b.2.1.a8,cj a.2.2 s u=s u:=by
  intro u hu
  refine JZ _ _ _ (fun m hm e=> ?_) (dI wR u hu)
  exact qN i4 m.x (a2 m hm).1 (e▸hu)
 have yy:∀u∈a.2.1.a8,cj b.2.2 s u=s u:=by
  intro u hu
  refine J0 _ _ _ fun m hm=>⟨fun e=> ?_,fun ao=> ?_⟩
  ·exact qN l5 m.x (gu m hm).1 (e▸hu)
  ·exact qN i2 m.x (gu m hm).1 (a3 u hu _ ao)
 have CP:cj b.2.2 (cj a.2.2 s)=cj a.2.2 (cj b.2.2 s):=by
  refine J2 _ _ _ fun m hm n aW=>⟨fun e=> ?_,fun h=> ?_,fun h=> ?_⟩
  ·exact qN i3 n.x (gu n aW).1 (e▸(a2 m hm).1)
  ·exact qN i2 n.x (gu n aW).1 ((a2 m hm).2 _ h)
  ·exact qN i5 m.x (a2 m hm).1 ((gu n aW).2 _ h)
 refine⟨⟨⟨cA,R,?_,gu,?_,?_⟩,⟨Kg,bQ,?_,a2,?_,?_⟩,?_⟩,?_⟩
 ·intro aq U K ar
  exact jq aq (fun u hu=>(U u hu).trans (yx u hu).symm) K ar
 ·intro u hu x ao
  exact iY u hu x (by rw[yx u hu];exact ao)
 ·intro ai u hu
  have:=dI ai u hu
  rwa [yx u hu]at this
 ·intro aq U K ar
  exact ah aq (fun u hu=>(U u hu).trans (yy u hu)) K ar
 ·intro u hu x ao
  rw[yy u hu]at ao
  exact a3 u hu x ao
 ·intro ai u hu
  rw[yy u hu]
  exact a4 ai u hu
 ·rw[←CP];exact aC
 ·simp only[lO,List.foldl_cons]
  rw[CP]
theorem Kh {ros:List bm} {e:Nat×dz×List eQ} {post:List (Nat×dz×List eQ)}:∀(pre:List (Nat×dz×List eQ)) (s:aj),oi C ros s (pre++e::post)→(∀a∈pre,pC a.2.1 e.2.1=true)→
  oi C ros s (e::(pre++post))∧lO s (e::(pre++post))=lO s (pre++e::post):=by
 intro pre
 induction pre with
 |nil=>intro s h _;exact⟨h,rfl⟩
 |cons a pre ih=>
  intro s h aA
  obtain⟨aa,ad⟩:=h
  obtain⟨g1,g2⟩:=ih _ ad fun b R=>aA b (by simp[R])
  have ai:oi C ros s (a::e::(pre++post)):=⟨aa,g1⟩
  obtain⟨bx,bF⟩:=Kf ai (aA a (by simp))
  refine⟨bx,bF.trans ?_⟩
  simp only[lO,List.foldl_cons,List.cons_append]at g2⊢
  exact g2
end
def s7:List (List Nat)→List (List Nat)→List (List Nat)
 |done,[]=>done
 |done,a::r=>s7 (done++[a++a.flatMap fun e=>(done[e]?).getD []]) r
def pD (eC:List (List Nat)):List (List Nat):=s7 [] eC
theorem Ki {eC:List (List Nat)} {l:List Nat} (aJ:∀u i v,l=u++i::v→∀e∈(eC[i]?).getD [],e∈u):∀(rest pre done:List (List Nat)),eC=pre++rest→done.length=pre.length→
  (∀u i v,l=u++i::v→∀e∈(done[i]?).getD [],e∈u)→∀u i v,l=u++i::v→∀e∈((s7 done rest)[i]?).getD [],e∈u:=by
 intro rest
 induction rest with
 |nil=>intro pre done _ _ h;exact h
 |cons a rest ih=>
  intro pre done CQ hlen h
  simp only[s7]
  refine ih (pre++[a]) _ (by simp[CQ]) (by simp[hlen]) ?_
  intro u i v hu e he
  by_cases aA:i<done.length
  ·rw[List.getElem?_append_left aA]at he
   exact h u i v hu e he
  ·rw[List.getElem?_append_right (by omega)]at he
   by_cases BE:i-done.length=0
   ·rw[BE]at he
    simp only[List.getElem?_cons_zero,Option.getD_some,List.mem_append,List.mem_flatMap]at he
    have CR:(eC[i]?).getD []=a:=by
     have:i=pre.length:=by omega
     rw[CQ,this,List.getElem?_append_right (Nat.le_refl _)];simp
    rcases he with he|⟨ew,yh,he⟩
    ·exact aJ u i v hu e (by rw[CR];exact he)
    ·have sL:=aJ u i v hu ew (by rw[CR];exact yh)
     obtain⟨sD,Br,rfl⟩:=List.append_of_mem sL
     have:=h sD ew (Br++i::v) (by rw[hu];simp) e he
     simp[this]
   ·rw[List.getElem?_eq_none (by simp;omega)]at he
    simp at he
theorem Kj {eC:List (List Nat)} {l:List Nat} (aJ:∀u i v,l=u++i::v→∀e∈(eC[i]?).getD [],e∈u):∀u i v,l=u++i::v→∀e∈((pD eC)[i]?).getD [],e∈u:=
 Ki aJ eC [] [] rfl rfl fun u i v _ e he=>by simp at he
def jA (j4:List (List Nat)):Nat→List (Nat×dz)→List dz→Bool
 |_,_,[]=>true
 |j,es,f::af=>(es.all fun e=>((j4[j]?).getD []).contains e.1||pC e.2 f)&&jA j4 (j+1) ((j,f)::es) af
def yz (j4:List (List Nat)) (a b:Nat×dz×List eQ):Prop:=a.1∈(j4[b.1]?).getD []∨pC a.2.1 b.2.1=true
theorem Kk {j4:List (List Nat)}:∀(e2:List (Nat×dz×List eQ)) (j:Nat) (es:List (Nat×dz)),e2.map (·.1)=(List.range e2.length).map (·+j)→jA j4 j es (e2.map (·.2.1))=true→
  e2.Pairwise (yz j4)∧∀e∈es,∀b∈e2,e.1∈(j4[b.1]?).getD []∨pC e.2 b.2.1=true:=by
 intro e2
 induction e2 with
 |nil=>intro j es _ _;exact⟨.nil,fun e _ b R=>by cases R⟩
 |cons a e2 ih=>
  intro j es pE eR
  rw[List.length_cons,List.range_succ_eq_map,List.map_cons,List.map_cons,List.map_map]at pE
  simp only[List.cons.injEq,Nat.zero_add]at pE
  obtain⟨bY,pE⟩:=pE
  simp only[List.map_cons,jA,Bool.and_eq_true,List.all_eq_true,Bool.or_eq_true]at eR
  obtain⟨aa,ad⟩:=eR
  obtain⟨g1,g2⟩:=ih (j+1) _ (by rw[pE];congr 1;funext x;simp;omega) ad
  refine⟨.cons (fun b R=> ?_) g1,fun e he b R=> ?_⟩
  ·have:=g2 (j,a.2.1) (by simp) b R
   simp only[yz,bY];exact this
  ·rcases List.mem_cons.1 R with rfl|R
   ·rw[bY]
    exact(aa e he).imp (fun h=>by simpa using h) id
   ·exact g2 e (by simp[he]) b R
section
variable {C:bq}
theorem Kl {K:Option (List dz)→aj→Prop}:∀(os pre:List bm) (s:aj) (acc:List dz),bK C s os (some acc) K→
  ∃e2,oi C (pre++os) s e2∧e2.map (·.1)=(List.range os.length).map (·+pre.length)∧K (some ((e2.map (·.2.1)).reverse++acc)) (lO s e2):=by
 intro os
 induction os with
 |nil=>intro pre s acc h;exact⟨[],trivial,rfl,h⟩
 |cons o os ih=>
  intro pre s acc h
  obtain⟨hO,ms,aa,ad⟩:=Ke h
  obtain⟨e2,g1,g2,g3⟩:=ih (pre++[o]) _ (hO::acc) aa
  refine⟨(pre.length,hO,ms)::e2,⟨⟨o,?_,ad⟩,?_⟩,?_,?_⟩
  ·rw[List.getElem?_append_right (Nat.le_refl _)];simp
  ·simpa using g1
  ·rw[List.length_cons,List.range_succ_eq_map,List.map_cons,List.map_cons,List.map_map,g2]
   simp only[List.cons.injEq,Nat.zero_add,true_and]
   congr 1;funext x;simp;omega
  ·simpa [lO]using g3
theorem Km {ros:List bm} {j4:List (List Nat)} {K:aj→Prop}:∀(l:List Nat) (e2:List (Nat×dz×List eQ)) (s:aj),oi C ros s e2→e2.Pairwise (yz j4)→l.Nodup→(e2.map (·.1)).Nodup→
  (∀i,i∈l↔i∈e2.map (·.1))→(∀u i v,l=u++i::v→∀e∈(j4[i]?).getD [],e∈e2.map (·.1)→e∈u)→K (lO s e2)→hc C ros s l K:=by
 intro l
 induction l with
 |nil=>
  intro e2 s _ _ _ _ hm _ ar
  cases e2 with
  |nil=>exact ar
  |cons e e2=>have:=(hm e.1).2 (by simp);cases this
 |cons i l ih=>
  intro e2 s ai ak aW mg hm bI ar
  obtain⟨e,he,aA⟩:=List.mem_map.1 ((hm i).1 (by simp))
  obtain⟨pre,post,rfl⟩:=List.append_of_mem he
  have Kn:∀a∈pre,pC a.2.1 e.2.1=true:=by
   intro a bQ
   have aC:=(List.pairwise_append.1 ak).2.2 a bQ e (by simp)
   rcases aC with aC|aC
   ·rw[aA]at aC
    have:=bI [] i l rfl a.1 aC (by simp only[List.map_append,List.mem_append,List.mem_map];exact .inl ⟨a,bQ,rfl⟩)
    cases this
   ·exact aC
  obtain⟨g1,g2⟩:=Kh pre s ai Kn
  obtain⟨⟨o,Ko,Kp⟩,g3⟩:=g1
  have CS:i∉(pre++post).map (·.1):=by
   have:(pre.map (·.1)++e.1::post.map (·.1)).Nodup:=by simpa using mg
   have aQ:=(List.perm_middle.nodup_iff.1 this)
   rw[List.nodup_cons]at aQ
   rw[←aA];simpa using aQ.1
  simp only[hc]
  rw[←aA,Ko]
  refine Kp.1 s (fun _ _=>rfl) _ ?_
  rw[List.nodup_cons]at aW
  refine ih (pre++post) _ g3 ?_ aW.2 ?_ ?_ ?_ ?_
  ·exact ak.sublist ((List.Sublist.refl pre).append (List.sublist_cons_self e post))
  ·have:(pre.map (·.1)++e.1::post.map (·.1)).Nodup:=by simpa using mg
   have aQ:=(List.perm_middle.nodup_iff.1 this)
   rw[List.nodup_cons]at aQ
   simpa using aQ.2
  ·intro j
   constructor
   ·intro bY
    have aa:=(hm j).1 (by simp[bY])
    simp only[List.map_append,List.map_cons,List.mem_append,List.mem_cons]at aa⊢
    rcases aa with aa|rfl|aa
    ·exact .inl aa
    ·exact(aW.1 (aA▸bY)).elim
    ·exact .inr aa
   ·intro bY
    have aa:=(hm j).2 (by
     simp only[List.map_append,List.map_cons,List.mem_append,List.mem_cons]at bY⊢
     exact bY.imp id .inr)
    rcases List.mem_cons.1 aa with rfl|aa
    ·exact(CS bY).elim
    ·exact aa
  ·intro u j v hu x ao yA
   have aa:=bI (i::u) j v (by rw[hu];rfl) x ao (by
    simp only[List.map_append,List.map_cons,List.mem_append,List.mem_cons]at yA⊢
    exact yA.imp id .inr)
   rcases List.mem_cons.1 aa with rfl|aa
   ·exact(CS yA).elim
   ·exact aa
  ·have:lO s (e::(pre++post))=lO (cj e.2.2 s) (pre++post):=rfl
   rw[←this,g2];exact ar
theorem CT {ros:List bm} {eC:List (List Nat)} {s:aj} {K:aj→Prop} (hlen:eC.length=ros.length)
  (h:bK C s ros (some []) (fun acc s=>jA (pD eC) 0 [] (acc.getD []).reverse=true∧K s)):∀l,yg eC l→hc C ros s l K:=by
 intro l ⟨eV,l2,x7⟩
 obtain⟨e2,g1,g2,g3,g4⟩:=Kl ros [] s [] h
 simp only[List.nil_append,List.append_nil,List.length_nil,Option.getD_some,List.reverse_reverse]at g1 g2 g3
 have aJ:e2.length=ros.length:=by have:=congrArg List.length g2;simpa using this
 have pE:e2.map (·.1)=(List.range e2.length).map (·+0):=by rw[g2,aJ]
 have aC:e2.map (·.1)=List.range ros.length:=by rw[g2];simp
 obtain⟨dV,_⟩:=Kk e2 0 [] pE g3
 refine Km l e2 s g1 dV eV (by rw[aC];exact List.nodup_range) (fun i=> ?_) (fun u i v hu e he _=>Kj x7 u i v hu e he) g4
 rw[aC,l2,hlen,List.mem_range]
end
def cv (C:bq) (dst:Option Nat) (os:List bm) (K:Option (List dz)→aj→Prop):Option (I×aj)→Prop
 |some (av,s1)=>bK C (fin s1 dst av) os none K
 |none=>False
def cw (C:bq) (l:List (Nat×I)) (a8 bR:List Nat) (dst:Option Nat) (os:List bm) (a:List dz) (K:Option (List dz)→aj→Prop):Option (I×aj)→Prop
 |some (av,s1)=>bK C (fin s1 dst av) os (some (gg (J l) a8 dst bR av::a)) K
 |none=>False
def bM (C:bq) (l:List (Nat×I)) (dst:Option Nat) (a_:dZ) (t:Nat) (b:Bool) (os:List bm) (acc:Option (List dz)) (K:Option (List dz)→aj→Prop):I→Prop
 | .bool dG=>if dG=b then lN C (J l) a_ (fun bR av s1=>bK C (fin s1 dst av) os (mu acc (gg (J l) (t::use (J l) a_) dst bR av)) K)else bK C (fin (J l) dst (.tuple [])) os (mu acc (gg (J l) [t] dst [] (.tuple []))) K
 | .tuple []=>bK C (fin (J l) dst (.tuple [])) os (mu acc (gg (J l) [t] dst [] (.tuple []))) K
 |_=>False
section
variable {C:bq} {l:List (Nat×I)} {os:List bm} {K:Option (List dz)→aj→Prop} {dst:Option Nat} {a:List dz} {acc:Option (List dz)}
theorem u6 {s:aj} {a_:dZ} {K:List Nat→I→aj→Prop} (aW:a_.pA=false):lN C s a_ K=(match aZ C s a_ with
  |some (av,s1)=>K (cf s a_) av s1
  |none=>False):=by
 apply propext
 constructor
 ·intro h
  cases a_<;>first
   |(simp[dZ.pA]at aW;done)
   |(obtain⟨av,s1,aa,ad⟩:=h;rw[aa];exact ad)
 ·intro h
  split at h
  ·rename_i av s1 he
   cases a_<;>first
    |(simp[dZ.pA]at aW;done)
    |exact⟨av,s1,he,h⟩
  ·exact h.elim
theorem CU:bK C (J l) [] acc K=K acc (J l):=rfl
theorem gI {a_:dZ} (aW:a_.pA=false):bK C (J l) (⟨dst,a_,none⟩::os) none K=cv C dst os K (aZ C (J l) a_):=by
 simp only[bK,ku,mu]
 rw[u6 aW]
 cases aZ C (J l) a_ with
 |none=>rfl
 |some p=>rfl
theorem gJ {a_:dZ} (aW:a_.pA=false):bK C (J l) (⟨dst,a_,none⟩::os) (some a) K=cw C l (use (J l) a_) (cf (J l) a_) dst os a K (aZ C (J l) a_):=by
 simp only[bK,ku,mu]
 rw[u6 aW]
 cases aZ C (J l) a_ with
 |none=>rfl
 |some p=>rfl
theorem CV {a_:dZ} {t:Nat} {b:Bool}:bK C (J l) (⟨dst,a_,some (t,b)⟩::os) acc K=bM C l dst a_ t b os acc K (J l t):=by
 simp only[bK,ku]
 generalize J l t=v
 cases v<;>first|rfl|(rename_i vs;cases vs<;>rfl)
theorem dE {a_:dZ} {t:Nat} {b:Bool} (aW:a_.pA=false):bM C l dst a_ t b os none K (.bool b)=cv C dst os K (aZ C (J l) a_):=by
 simp only[bM,if_true]
 rw[u6 aW]
 cases aZ C (J l) a_ with
 |none=>rfl
 |some p=>rfl
theorem dF {a_:dZ} {t:Nat} {b:Bool} (aW:a_.pA=false):bM C l dst a_ t b os (some a) K (.bool b)=cw C l (t::use (J l) a_) (cf (J l) a_) dst os a K (aZ C (J l) a_):=by
 simp only[bM,if_true]
 rw[u6 aW]
 cases aZ C (J l) a_ with
 |none=>rfl
 |some p=>rfl
theorem Kq {a_:dZ} {t:Nat}:bM C l dst a_ t true os none K (.bool false)=bK C (fin (J l) dst (.tuple [])) os none K∧bM C l dst a_ t false os none K (.bool true)=bK C (fin (J l) dst (.tuple [])) os none K∧
  (∀b,bM C l dst a_ t b os none K (.tuple [])=bK C (fin (J l) dst (.tuple [])) os none K):=⟨rfl,rfl,fun _=>rfl⟩
theorem Kr {a_:dZ} {t:Nat}:bM C l dst a_ t true os (some a) K (.bool false)=bK C (fin (J l) dst (.tuple [])) os (some (gg (J l) [t] dst [] (.tuple [])::a)) K∧
  bM C l dst a_ t false os (some a) K (.bool true)=bK C (fin (J l) dst (.tuple [])) os (some (gg (J l) [t] dst [] (.tuple [])::a)) K∧
  (∀b,bM C l dst a_ t b os (some a) K (.tuple [])=bK C (fin (J l) dst (.tuple [])) os (some (gg (J l) [t] dst [] (.tuple [])::a)) K):=⟨rfl,rfl,fun _=>rfl⟩
theorem Ks (av:I) (s1:aj):cv C dst os K (some (av,s1))=bK C (fin s1 dst av) os none K:=rfl
theorem Kt (a8 bR:List Nat) (av:I) (s1:aj):cw C l a8 bR dst os a K (some (av,s1))=bK C (fin s1 dst av) os (some (gg (J l) a8 dst bR av::a)) K:=rfl
def gK (s:aj):I→Option (I×aj)
 | .h y q=>bR s (.h y q)
 |d=>some (d,s)
def oj (s:aj):I→I→I→Option (I×aj)
 | .bool dG,x,y=>some (if dG then x else y,s)
 |_,_,_=>none
def bZ (s:aj):Option I→Option (I×aj)
 |some d=>some (d,s)
 |none=>none
def hj:Option aj→Option (I×aj)
 |some s1=>some (.hole,s1)
 |none=>none
def gh (s:aj):List ay→List I
 |[]=>[]
 |x::xs=>az s x::gh s xs
def hB (s:aj):List (Nat×ay)→List (Nat×I)
 |[]=>[]
 |(k,x)::xs=>(k,az s x)::hB s xs
def iJ (s:aj):Option ay→Option I
 |none=>none
 |some x=>some (az s x)
theorem kv (s:aj) (x:Option I):(x.map fun d=>(d,s))=bZ s x:=by cases x<;>rfl
theorem Ku (x:Option aj):(x.map fun s1=>(I.hole,s1))=hj x:=by cases x<;>rfl
theorem u7 (s:aj):∀xs:List ay,xs.map (az s)=gh s xs
 |[]=>rfl
 |x::xs=>by simp only[List.map_cons,gh,u7 s xs]
theorem yB (s:aj):∀xs:List (Nat×ay),(xs.map fun p=>(p.1,az s p.2))=hB s xs
 |[]=>rfl
 |(k,x)::xs=>by simp only[List.map_cons,hB,yB s xs]
theorem Kv (s:aj) (x:Option ay):x.map (az s)=iJ s x:=by cases x<;>rfl
theorem qO (x:ay):aZ C (J l) (.b8 x)=some (az (J l) x,J l):=by
 rfl
theorem qP (x:ay):aZ C (J l) (.d_ x)=gK (J l) (az (J l) x):=by
 simp only[aZ];cases az (J l) x<;>rfl
theorem qQ (c x y:ay):aZ C (J l) (.pick c x y)=oj (J l) (az (J l) c) (az (J l) x) (az (J l) y):=by
 simp only[aZ];cases az (J l) c<;>first|rfl|(rename_i b;cases b<;>rfl)
theorem qR (T:TypeId):aZ C (J l) (.fc T)=bZ (J l) (fc C T):=by
 simp only[aZ,kv]
theorem qS (T:TypeId) (x:ay):aZ C (J l) (.eg T x)=eg (J l) (az (J l) x):=by
 rfl
theorem qT (T:TypeId) (ps:List (Nat×ay)):aZ C (J l) (.dH T ps)=dH C (J l) T (hB (J l) ps):=by
 simp only[aZ,yB]
theorem qU (T:TypeId) (n:Nat) (ps:List (Nat×ay)):aZ C (J l) (.df T n ps)=df C (J l) T n (hB (J l) ps):=by
 simp only[aZ,yB]
theorem qV (T:TypeId) (x:ay):aZ C (J l) (.c8 T x)=bZ (J l) (c8 C (J l) T (az (J l) x)):=by
 simp only[aZ,kv]
theorem qW (T:TypeId) (x y:ay):aZ C (J l) (.dY T x y)=hj (dY C (J l) T (az (J l) x) (az (J l) y)):=by
 simp only[aZ,Ku]
theorem qX (x:ay):aZ C (J l) (.el x)=bZ (J l) (el (J l) (az (J l) x)):=by
 simp only[aZ,kv]
theorem qY (op:BinOp) (T:TypeId) (x y:ay):aZ C (J l) (.bG op T x y)=bZ (J l) (bG C (J l) op T (az (J l) x) (az (J l) y)):=by
 simp only[aZ,kv]
theorem qZ (op:UnOp) (x:ay):aZ C (J l) (.un op x)=bZ (J l) (un op (az (J l) x)):=by
 simp only[aZ,kv]
theorem q0 (A B:TypeId) (x:ay):aZ C (J l) (.eP A B x)=bZ (J l) (eP C (J l) A B (az (J l) x)):=by
 simp only[aZ,kv]
theorem q1 (f:FuncId) (cs:List ay):aZ C (J l) (.hL f cs)=some (.fn f (gh (J l) cs),J l):=by
 simp only[aZ,u7]
theorem q2 (T:TypeId) (x y:ay):aZ C (J l) (.eh T x y)=bZ (J l) (eh C T (az (J l) x) (az (J l) y)):=by
 simp only[aZ,kv]
theorem q3 (T:TypeId) (x:ay) (b_ aA:Option ay):aZ C (J l) (.cC T x b_ aA)=cC C (J l) T (az (J l) x) (iJ (J l) b_) (iJ (J l) aA):=by
 simp only[aZ,Kv]
theorem q4 (T:TypeId) (x:ay) (k:Nat):aZ C (J l) (.ek T x k)=bZ (J l) (ek C (J l) T (az (J l) x) k):=by
 simp only[aZ,kv]
theorem q5 (T:TypeId) (x y:ay):aZ C (J l) (.eA T x y)=bZ (J l) (eA C (J l) T (az (J l) x) (az (J l) y)):=by
 simp only[aZ,kv]
theorem q6 (T:TypeId) (x y:ay):aZ C (J l) (.idx T x y)=bZ (J l) (idx C T (az (J l) x) (az (J l) y)):=by
 simp only[aZ,kv]
theorem q7 (x:ay) (k:Nat):aZ C (J l) (.ex x k)=bZ (J l) (ex (J l) (az (J l) x) k):=by
 simp only[aZ,kv]
theorem q8 (T:TypeId) (x:ay):aZ C (J l) (.len T x)=bZ (J l) (js C (J l) T (az (J l) x)):=by
 simp only[aZ,kv]
theorem q9 (T a8:TypeId) (x y:ay):aZ C (J l) (.app T a8 x y)=jt C (J l) T a8 (az (J l) x) (az (J l) y):=by
 rfl
theorem Kw:
  (∀(x:ay),bK C (J l) (⟨dst,.b8 x,none⟩::os) none K=cv C dst os K (some (az (J l) x,J l)))∧
  (∀(x:ay),bK C (J l) (⟨dst,.d_ x,none⟩::os) none K=cv C dst os K (gK (J l) (az (J l) x)))∧
  (∀(c x y:ay),bK C (J l) (⟨dst,.pick c x y,none⟩::os) none K=cv C dst os K (oj (J l) (az (J l) c) (az (J l) x) (az (J l) y)))∧
  (∀(T:TypeId),bK C (J l) (⟨dst,.fc T,none⟩::os) none K=cv C dst os K (bZ (J l) (fc C T)))∧
  (∀(T:TypeId) (x:ay),bK C (J l) (⟨dst,.eg T x,none⟩::os) none K=cv C dst os K (eg (J l) (az (J l) x)))∧
  (∀(T:TypeId) (ps:List (Nat×ay)),bK C (J l) (⟨dst,.dH T ps,none⟩::os) none K=cv C dst os K (dH C (J l) T (hB (J l) ps)))∧
  (∀(T:TypeId) (n:Nat) (ps:List (Nat×ay)),bK C (J l) (⟨dst,.df T n ps,none⟩::os) none K=cv C dst os K (df C (J l) T n (hB (J l) ps)))∧
  (∀(T:TypeId) (x:ay),bK C (J l) (⟨dst,.c8 T x,none⟩::os) none K=cv C dst os K (bZ (J l) (c8 C (J l) T (az (J l) x))))∧
  (∀(T:TypeId) (x y:ay),bK C (J l) (⟨dst,.dY T x y,none⟩::os) none K=cv C dst os K (hj (dY C (J l) T (az (J l) x) (az (J l) y))))∧
  (∀(x:ay),bK C (J l) (⟨dst,.el x,none⟩::os) none K=cv C dst os K (bZ (J l) (el (J l) (az (J l) x))))∧
  (∀(op:BinOp) (T:TypeId) (x y:ay),bK C (J l) (⟨dst,.bG op T x y,none⟩::os) none K=cv C dst os K (bZ (J l) (bG C (J l) op T (az (J l) x) (az (J l) y))))∧
  (∀(op:UnOp) (x:ay),bK C (J l) (⟨dst,.un op x,none⟩::os) none K=cv C dst os K (bZ (J l) (un op (az (J l) x))))∧
  (∀(A B:TypeId) (x:ay),bK C (J l) (⟨dst,.eP A B x,none⟩::os) none K=cv C dst os K (bZ (J l) (eP C (J l) A B (az (J l) x))))∧
  (∀(f:FuncId) (cs:List ay),bK C (J l) (⟨dst,.hL f cs,none⟩::os) none K=cv C dst os K (some (.fn f (gh (J l) cs),J l)))∧
  (∀(T:TypeId) (x y:ay),bK C (J l) (⟨dst,.eh T x y,none⟩::os) none K=cv C dst os K (bZ (J l) (eh C T (az (J l) x) (az (J l) y))))∧
  (∀(T:TypeId) (x:ay) (b_ aA:Option ay),bK C (J l) (⟨dst,.cC T x b_ aA,none⟩::os) none K=cv C dst os K (cC C (J l) T (az (J l) x) (iJ (J l) b_) (iJ (J l) aA)))∧
  (∀(T:TypeId) (x:ay) (k:Nat),bK C (J l) (⟨dst,.ek T x k,none⟩::os) none K=cv C dst os K (bZ (J l) (ek C (J l) T (az (J l) x) k)))∧
  (∀(T:TypeId) (x y:ay),bK C (J l) (⟨dst,.eA T x y,none⟩::os) none K=cv C dst os K (bZ (J l) (eA C (J l) T (az (J l) x) (az (J l) y))))∧
  (∀(T:TypeId) (x y:ay),bK C (J l) (⟨dst,.idx T x y,none⟩::os) none K=cv C dst os K (bZ (J l) (idx C T (az (J l) x) (az (J l) y))))∧
  (∀(x:ay) (k:Nat),bK C (J l) (⟨dst,.ex x k,none⟩::os) none K=cv C dst os K (bZ (J l) (ex (J l) (az (J l) x) k)))∧
  (∀(T:TypeId) (x:ay),bK C (J l) (⟨dst,.len T x,none⟩::os) none K=cv C dst os K (bZ (J l) (js C (J l) T (az (J l) x))))∧
  (∀(T a8:TypeId) (x y:ay),bK C (J l) (⟨dst,.app T a8 x y,none⟩::os) none K=cv C dst os K (jt C (J l) T a8 (az (J l) x) (az (J l) y))):=
 ⟨fun x=>(gI rfl).trans (congrArg _ (qO x)),fun x=>(gI rfl).trans (congrArg _ (qP x)),fun c x y=>(gI rfl).trans (congrArg _ (qQ c x y)),fun T=>(gI rfl).trans (congrArg _ (qR T)),fun T x=>(gI rfl).trans (congrArg _ (qS T x)),fun T ps=>(gI rfl).trans (congrArg _ (qT T ps)),fun T n ps=>(gI rfl).trans (congrArg _ (qU T n ps)),fun T x=>(gI rfl).trans (congrArg _ (qV T x)),fun T x y=>(gI rfl).trans (congrArg _ (qW T x y)),fun x=>(gI rfl).trans (congrArg _ (qX x)),fun op T x y=>(gI rfl).trans (congrArg _ (qY op T x y)),fun op x=>(gI rfl).trans (congrArg _ (qZ op x)),fun A B x=>(gI rfl).trans (congrArg _ (q0 A B x)),fun f cs=>(gI rfl).trans (congrArg _ (q1 f cs)),fun T x y=>(gI rfl).trans (congrArg _ (q2 T x y)),fun T x b_ aA=>(gI rfl).trans (congrArg _ (q3 T x b_ aA)),fun T x k=>(gI rfl).trans (congrArg _ (q4 T x k)),fun T x y=>(gI rfl).trans (congrArg _ (q5 T x y)),fun T x y=>(gI rfl).trans (congrArg _ (q6 T x y)),fun x k=>(gI rfl).trans (congrArg _ (q7 x k)),fun T x=>(gI rfl).trans (congrArg _ (q8 T x)),fun T a8 x y=>(gI rfl).trans (congrArg _ (q9 T a8 x y))⟩
theorem Kx:
  (∀(x:ay),bK C (J l) (⟨dst,.b8 x,none⟩::os) (some a) K=cw C l (use (J l) (.b8 x)) (cf (J l) (.b8 x)) dst os a K (some (az (J l) x,J l)))∧
  (∀(x:ay),bK C (J l) (⟨dst,.d_ x,none⟩::os) (some a) K=cw C l (use (J l) (.d_ x)) (cf (J l) (.d_ x)) dst os a K (gK (J l) (az (J l) x)))∧
  (∀(c x y:ay),bK C (J l) (⟨dst,.pick c x y,none⟩::os) (some a) K=cw C l (use (J l) (.pick c x y)) (cf (J l) (.pick c x y)) dst os a K (oj (J l) (az (J l) c) (az (J l) x) (az (J l) y)))∧
  (∀(T:TypeId),bK C (J l) (⟨dst,.fc T,none⟩::os) (some a) K=cw C l (use (J l) (.fc T)) (cf (J l) (.fc T)) dst os a K (bZ (J l) (fc C T)))∧
  (∀(T:TypeId) (x:ay),bK C (J l) (⟨dst,.eg T x,none⟩::os) (some a) K=cw C l (use (J l) (.eg T x)) (cf (J l) (.eg T x)) dst os a K (eg (J l) (az (J l) x)))∧
  (∀(T:TypeId) (ps:List (Nat×ay)),bK C (J l) (⟨dst,.dH T ps,none⟩::os) (some a) K=cw C l (use (J l) (.dH T ps)) (cf (J l) (.dH T ps)) dst os a K (dH C (J l) T (hB (J l) ps)))∧
  (∀(T:TypeId) (n:Nat) (ps:List (Nat×ay)),bK C (J l) (⟨dst,.df T n ps,none⟩::os) (some a) K=cw C l (use (J l) (.df T n ps)) (cf (J l) (.df T n ps)) dst os a K (df C (J l) T n (hB (J l) ps)))∧
  (∀(T:TypeId) (x:ay),bK C (J l) (⟨dst,.c8 T x,none⟩::os) (some a) K=cw C l (use (J l) (.c8 T x)) (cf (J l) (.c8 T x)) dst os a K (bZ (J l) (c8 C (J l) T (az (J l) x))))∧
  (∀(T:TypeId) (x y:ay),bK C (J l) (⟨dst,.dY T x y,none⟩::os) (some a) K=cw C l (use (J l) (.dY T x y)) (cf (J l) (.dY T x y)) dst os a K (hj (dY C (J l) T (az (J l) x) (az (J l) y))))∧
  (∀(x:ay),bK C (J l) (⟨dst,.el x,none⟩::os) (some a) K=cw C l (use (J l) (.el x)) (cf (J l) (.el x)) dst os a K (bZ (J l) (el (J l) (az (J l) x))))∧
  (∀(op:BinOp) (T:TypeId) (x y:ay),bK C (J l) (⟨dst,.bG op T x y,none⟩::os) (some a) K=cw C l (use (J l) (.bG op T x y)) (cf (J l) (.bG op T x y)) dst os a K (bZ (J l) (bG C (J l) op T (az (J l) x) (az (J l) y))))∧
  (∀(op:UnOp) (x:ay),bK C (J l) (⟨dst,.un op x,none⟩::os) (some a) K=cw C l (use (J l) (.un op x)) (cf (J l) (.un op x)) dst os a K (bZ (J l) (un op (az (J l) x))))∧
  (∀(A B:TypeId) (x:ay),bK C (J l) (⟨dst,.eP A B x,none⟩::os) (some a) K=cw C l (use (J l) (.eP A B x)) (cf (J l) (.eP A B x)) dst os a K (bZ (J l) (eP C (J l) A B (az (J l) x))))∧
  (∀(f:FuncId) (cs:List ay),bK C (J l) (⟨dst,.hL f cs,none⟩::os) (some a) K=cw C l (use (J l) (.hL f cs)) (cf (J l) (.hL f cs)) dst os a K (some (.fn f (gh (J l) cs),J l)))∧
  (∀(T:TypeId) (x y:ay),bK C (J l) (⟨dst,.eh T x y,none⟩::os) (some a) K=cw C l (use (J l) (.eh T x y)) (cf (J l) (.eh T x y)) dst os a K (bZ (J l) (eh C T (az (J l) x) (az (J l) y))))∧
  (∀(T:TypeId) (x:ay) (b_ aA:Option ay),bK C (J l) (⟨dst,.cC T x b_ aA,none⟩::os) (some a) K=cw C l (use (J l) (.cC T x b_ aA)) (cf (J l) (.cC T x b_ aA)) dst os a K (cC C (J l) T (az (J l) x) (iJ (J l) b_) (iJ (J l) aA)))∧
  (∀(T:TypeId) (x:ay) (k:Nat),bK C (J l) (⟨dst,.ek T x k,none⟩::os) (some a) K=cw C l (use (J l) (.ek T x k)) (cf (J l) (.ek T x k)) dst os a K (bZ (J l) (ek C (J l) T (az (J l) x) k)))∧
  (∀(T:TypeId) (x y:ay),bK C (J l) (⟨dst,.eA T x y,none⟩::os) (some a) K=cw C l (use (J l) (.eA T x y)) (cf (J l) (.eA T x y)) dst os a K (bZ (J l) (eA C (J l) T (az (J l) x) (az (J l) y))))∧
  (∀(T:TypeId) (x y:ay),bK C (J l) (⟨dst,.idx T x y,none⟩::os) (some a) K=cw C l (use (J l) (.idx T x y)) (cf (J l) (.idx T x y)) dst os a K (bZ (J l) (idx C T (az (J l) x) (az (J l) y))))∧
  (∀(x:ay) (k:Nat),bK C (J l) (⟨dst,.ex x k,none⟩::os) (some a) K=cw C l (use (J l) (.ex x k)) (cf (J l) (.ex x k)) dst os a K (bZ (J l) (ex (J l) (az (J l) x) k)))∧
  (∀(T:TypeId) (x:ay),bK C (J l) (⟨dst,.len T x,none⟩::os) (some a) K=cw C l (use (J l) (.len T x)) (cf (J l) (.len T x)) dst os a K (bZ (J l) (js C (J l) T (az (J l) x))))∧
  (∀(T a8:TypeId) (x y:ay),bK C (J l) (⟨dst,.app T a8 x y,none⟩::os) (some a) K=cw C l (use (J l) (.app T a8 x y)) (cf (J l) (.app T a8 x y)) dst os a K (jt C (J l) T a8 (az (J l) x) (az (J l) y))):=
 ⟨fun x=>(gJ rfl).trans (congrArg _ (qO x)),fun x=>(gJ rfl).trans (congrArg _ (qP x)),fun c x y=>(gJ rfl).trans (congrArg _ (qQ c x y)),fun T=>(gJ rfl).trans (congrArg _ (qR T)),fun T x=>(gJ rfl).trans (congrArg _ (qS T x)),fun T ps=>(gJ rfl).trans (congrArg _ (qT T ps)),fun T n ps=>(gJ rfl).trans (congrArg _ (qU T n ps)),fun T x=>(gJ rfl).trans (congrArg _ (qV T x)),fun T x y=>(gJ rfl).trans (congrArg _ (qW T x y)),fun x=>(gJ rfl).trans (congrArg _ (qX x)),fun op T x y=>(gJ rfl).trans (congrArg _ (qY op T x y)),fun op x=>(gJ rfl).trans (congrArg _ (qZ op x)),fun A B x=>(gJ rfl).trans (congrArg _ (q0 A B x)),fun f cs=>(gJ rfl).trans (congrArg _ (q1 f cs)),fun T x y=>(gJ rfl).trans (congrArg _ (q2 T x y)),fun T x b_ aA=>(gJ rfl).trans (congrArg _ (q3 T x b_ aA)),fun T x k=>(gJ rfl).trans (congrArg _ (q4 T x k)),fun T x y=>(gJ rfl).trans (congrArg _ (q5 T x y)),fun T x y=>(gJ rfl).trans (congrArg _ (q6 T x y)),fun x k=>(gJ rfl).trans (congrArg _ (q7 x k)),fun T x=>(gJ rfl).trans (congrArg _ (q8 T x)),fun T a8 x y=>(gJ rfl).trans (congrArg _ (q9 T a8 x y))⟩
theorem Ky:
  (∀(x:ay) (t:Nat),bM C l dst (.b8 x) t true os none K (.bool true)=cv C dst os K (some (az (J l) x,J l)))∧
  (∀(x:ay) (t:Nat),bM C l dst (.b8 x) t false os none K (.bool false)=cv C dst os K (some (az (J l) x,J l)))∧
  (∀(x:ay) (t:Nat),bM C l dst (.d_ x) t true os none K (.bool true)=cv C dst os K (gK (J l) (az (J l) x)))∧
  (∀(x:ay) (t:Nat),bM C l dst (.d_ x) t false os none K (.bool false)=cv C dst os K (gK (J l) (az (J l) x)))∧
  (∀(c x y:ay) (t:Nat),bM C l dst (.pick c x y) t true os none K (.bool true)=cv C dst os K (oj (J l) (az (J l) c) (az (J l) x) (az (J l) y)))∧
  (∀(c x y:ay) (t:Nat),bM C l dst (.pick c x y) t false os none K (.bool false)=cv C dst os K (oj (J l) (az (J l) c) (az (J l) x) (az (J l) y)))∧
  (∀(T:TypeId) (t:Nat),bM C l dst (.fc T) t true os none K (.bool true)=cv C dst os K (bZ (J l) (fc C T)))∧
  (∀(T:TypeId) (t:Nat),bM C l dst (.fc T) t false os none K (.bool false)=cv C dst os K (bZ (J l) (fc C T)))∧
  (∀(T:TypeId) (x:ay) (t:Nat),bM C l dst (.eg T x) t true os none K (.bool true)=cv C dst os K (eg (J l) (az (J l) x)))∧
  (∀(T:TypeId) (x:ay) (t:Nat),bM C l dst (.eg T x) t false os none K (.bool false)=cv C dst os K (eg (J l) (az (J l) x)))∧
  (∀(T:TypeId) (ps:List (Nat×ay)) (t:Nat),bM C l dst (.dH T ps) t true os none K (.bool true)=cv C dst os K (dH C (J l) T (hB (J l) ps)))∧
  (∀(T:TypeId) (ps:List (Nat×ay)) (t:Nat),bM C l dst (.dH T ps) t false os none K (.bool false)=cv C dst os K (dH C (J l) T (hB (J l) ps)))∧
  (∀(T:TypeId) (n:Nat) (ps:List (Nat×ay)) (t:Nat),bM C l dst (.df T n ps) t true os none K (.bool true)=cv C dst os K (df C (J l) T n (hB (J l) ps)))∧
  (∀(T:TypeId) (n:Nat) (ps:List (Nat×ay)) (t:Nat),bM C l dst (.df T n ps) t false os none K (.bool false)=cv C dst os K (df C (J l) T n (hB (J l) ps)))∧
  (∀(T:TypeId) (x:ay) (t:Nat),bM C l dst (.c8 T x) t true os none K (.bool true)=cv C dst os K (bZ (J l) (c8 C (J l) T (az (J l) x))))∧
  (∀(T:TypeId) (x:ay) (t:Nat),bM C l dst (.c8 T x) t false os none K (.bool false)=cv C dst os K (bZ (J l) (c8 C (J l) T (az (J l) x))))∧
  (∀(T:TypeId) (x y:ay) (t:Nat),bM C l dst (.dY T x y) t true os none K (.bool true)=cv C dst os K (hj (dY C (J l) T (az (J l) x) (az (J l) y))))∧
  (∀(T:TypeId) (x y:ay) (t:Nat),bM C l dst (.dY T x y) t false os none K (.bool false)=cv C dst os K (hj (dY C (J l) T (az (J l) x) (az (J l) y))))∧
  (∀(x:ay) (t:Nat),bM C l dst (.el x) t true os none K (.bool true)=cv C dst os K (bZ (J l) (el (J l) (az (J l) x))))∧
  (∀(x:ay) (t:Nat),bM C l dst (.el x) t false os none K (.bool false)=cv C dst os K (bZ (J l) (el (J l) (az (J l) x))))∧
  (∀(op:BinOp) (T:TypeId) (x y:ay) (t:Nat),bM C l dst (.bG op T x y) t true os none K (.bool true)=cv C dst os K (bZ (J l) (bG C (J l) op T (az (J l) x) (az (J l) y))))∧
  (∀(op:BinOp) (T:TypeId) (x y:ay) (t:Nat),bM C l dst (.bG op T x y) t false os none K (.bool false)=cv C dst os K (bZ (J l) (bG C (J l) op T (az (J l) x) (az (J l) y))))∧
  (∀(op:UnOp) (x:ay) (t:Nat),bM C l dst (.un op x) t true os none K (.bool true)=cv C dst os K (bZ (J l) (un op (az (J l) x))))∧
  (∀(op:UnOp) (x:ay) (t:Nat),bM C l dst (.un op x) t false os none K (.bool false)=cv C dst os K (bZ (J l) (un op (az (J l) x))))∧
  (∀(A B:TypeId) (x:ay) (t:Nat),bM C l dst (.eP A B x) t true os none K (.bool true)=cv C dst os K (bZ (J l) (eP C (J l) A B (az (J l) x))))∧
  (∀(A B:TypeId) (x:ay) (t:Nat),bM C l dst (.eP A B x) t false os none K (.bool false)=cv C dst os K (bZ (J l) (eP C (J l) A B (az (J l) x))))∧
  (∀(f:FuncId) (cs:List ay) (t:Nat),bM C l dst (.hL f cs) t true os none K (.bool true)=cv C dst os K (some (.fn f (gh (J l) cs),J l)))∧
  (∀(f:FuncId) (cs:List ay) (t:Nat),bM C l dst (.hL f cs) t false os none K (.bool false)=cv C dst os K (some (.fn f (gh (J l) cs),J l)))∧
  (∀(T:TypeId) (x y:ay) (t:Nat),bM C l dst (.eh T x y) t true os none K (.bool true)=cv C dst os K (bZ (J l) (eh C T (az (J l) x) (az (J l) y))))∧
  (∀(T:TypeId) (x y:ay) (t:Nat),bM C l dst (.eh T x y) t false os none K (.bool false)=cv C dst os K (bZ (J l) (eh C T (az (J l) x) (az (J l) y))))∧
  (∀(T:TypeId) (x:ay) (b_ aA:Option ay) (t:Nat),bM C l dst (.cC T x b_ aA) t true os none K (.bool true)=cv C dst os K (cC C (J l) T (az (J l) x) (iJ (J l) b_) (iJ (J l) aA)))∧
  (∀(T:TypeId) (x:ay) (b_ aA:Option ay) (t:Nat),bM C l dst (.cC T x b_ aA) t false os none K (.bool false)=cv C dst os K (cC C (J l) T (az (J l) x) (iJ (J l) b_) (iJ (J l) aA)))∧
  (∀(T:TypeId) (x:ay) (k:Nat) (t:Nat),bM C l dst (.ek T x k) t true os none K (.bool true)=cv C dst os K (bZ (J l) (ek C (J l) T (az (J l) x) k)))∧
  (∀(T:TypeId) (x:ay) (k:Nat) (t:Nat),bM C l dst (.ek T x k) t false os none K (.bool false)=cv C dst os K (bZ (J l) (ek C (J l) T (az (J l) x) k)))∧
  (∀(T:TypeId) (x y:ay) (t:Nat),bM C l dst (.eA T x y) t true os none K (.bool true)=cv C dst os K (bZ (J l) (eA C (J l) T (az (J l) x) (az (J l) y))))∧
  (∀(T:TypeId) (x y:ay) (t:Nat),bM C l dst (.eA T x y) t false os none K (.bool false)=cv C dst os K (bZ (J l) (eA C (J l) T (az (J l) x) (az (J l) y))))∧
  (∀(T:TypeId) (x y:ay) (t:Nat),bM C l dst (.idx T x y) t true os none K (.bool true)=cv C dst os K (bZ (J l) (idx C T (az (J l) x) (az (J l) y))))∧
  (∀(T:TypeId) (x y:ay) (t:Nat),bM C l dst (.idx T x y) t false os none K (.bool false)=cv C dst os K (bZ (J l) (idx C T (az (J l) x) (az (J l) y))))∧
  (∀(x:ay) (k:Nat) (t:Nat),bM C l dst (.ex x k) t true os none K (.bool true)=cv C dst os K (bZ (J l) (ex (J l) (az (J l) x) k)))∧
  (∀(x:ay) (k:Nat) (t:Nat),bM C l dst (.ex x k) t false os none K (.bool false)=cv C dst os K (bZ (J l) (ex (J l) (az (J l) x) k)))∧
  (∀(T:TypeId) (x:ay) (t:Nat),bM C l dst (.len T x) t true os none K (.bool true)=cv C dst os K (bZ (J l) (js C (J l) T (az (J l) x))))∧
  (∀(T:TypeId) (x:ay) (t:Nat),bM C l dst (.len T x) t false os none K (.bool false)=cv C dst os K (bZ (J l) (js C (J l) T (az (J l) x))))∧
  (∀(T a8:TypeId) (x y:ay) (t:Nat),bM C l dst (.app T a8 x y) t true os none K (.bool true)=cv C dst os K (jt C (J l) T a8 (az (J l) x) (az (J l) y)))∧
  (∀(T a8:TypeId) (x y:ay) (t:Nat),bM C l dst (.app T a8 x y) t false os none K (.bool false)=cv C dst os K (jt C (J l) T a8 (az (J l) x) (az (J l) y))):=
 ⟨fun x _=>(dE rfl).trans (congrArg _ (qO x)),fun x _=>(dE rfl).trans (congrArg _ (qO x)),fun x _=>(dE rfl).trans (congrArg _ (qP x)),fun x _=>(dE rfl).trans (congrArg _ (qP x)),fun c x y _=>(dE rfl).trans (congrArg _ (qQ c x y)),fun c x y _=>(dE rfl).trans (congrArg _ (qQ c x y)),fun T _=>(dE rfl).trans (congrArg _ (qR T)),fun T _=>(dE rfl).trans (congrArg _ (qR T)),fun T x _=>(dE rfl).trans (congrArg _ (qS T x)),fun T x _=>(dE rfl).trans (congrArg _ (qS T x)),fun T ps _=>(dE rfl).trans (congrArg _ (qT T ps)),fun T ps _=>(dE rfl).trans (congrArg _ (qT T ps)),fun T n ps _=>(dE rfl).trans (congrArg _ (qU T n ps)),fun T n ps _=>(dE rfl).trans (congrArg _ (qU T n ps)),fun T x _=>(dE rfl).trans (congrArg _ (qV T x)),fun T x _=>(dE rfl).trans (congrArg _ (qV T x)),fun T x y _=>(dE rfl).trans (congrArg _ (qW T x y)),fun T x y _=>(dE rfl).trans (congrArg _ (qW T x y)),fun x _=>(dE rfl).trans (congrArg _ (qX x)),fun x _=>(dE rfl).trans (congrArg _ (qX x)),fun op T x y _=>(dE rfl).trans (congrArg _ (qY op T x y)),fun op T x y _=>(dE rfl).trans (congrArg _ (qY op T x y)),fun op x _=>(dE rfl).trans (congrArg _ (qZ op x)),fun op x _=>(dE rfl).trans (congrArg _ (qZ op x)),fun A B x _=>(dE rfl).trans (congrArg _ (q0 A B x)),fun A B x _=>(dE rfl).trans (congrArg _ (q0 A B x)),fun f cs _=>(dE rfl).trans (congrArg _ (q1 f cs)),fun f cs _=>(dE rfl).trans (congrArg _ (q1 f cs)),fun T x y _=>(dE rfl).trans (congrArg _ (q2 T x y)),fun T x y _=>(dE rfl).trans (congrArg _ (q2 T x y)),fun T x b_ aA _=>(dE rfl).trans (congrArg _ (q3 T x b_ aA)),fun T x b_ aA _=>(dE rfl).trans (congrArg _ (q3 T x b_ aA)),fun T x k _=>(dE rfl).trans (congrArg _ (q4 T x k)),fun T x k _=>(dE rfl).trans (congrArg _ (q4 T x k)),fun T x y _=>(dE rfl).trans (congrArg _ (q5 T x y)),fun T x y _=>(dE rfl).trans (congrArg _ (q5 T x y)),fun T x y _=>(dE rfl).trans (congrArg _ (q6 T x y)),fun T x y _=>(dE rfl).trans (congrArg _ (q6 T x y)),fun x k _=>(dE rfl).trans (congrArg _ (q7 x k)),fun x k _=>(dE rfl).trans (congrArg _ (q7 x k)),fun T x _=>(dE rfl).trans (congrArg _ (q8 T x)),fun T x _=>(dE rfl).trans (congrArg _ (q8 T x)),fun T a8 x y _=>(dE rfl).trans (congrArg _ (q9 T a8 x y)),fun T a8 x y _=>(dE rfl).trans (congrArg _ (q9 T a8 x y))⟩
theorem Kz:
  (∀(x:ay) (t:Nat),bM C l dst (.b8 x) t true os (some a) K (.bool true)=cw C l (t::use (J l) (.b8 x)) (cf (J l) (.b8 x)) dst os a K (some (az (J l) x,J l)))∧
  (∀(x:ay) (t:Nat),bM C l dst (.b8 x) t false os (some a) K (.bool false)=cw C l (t::use (J l) (.b8 x)) (cf (J l) (.b8 x)) dst os a K (some (az (J l) x,J l)))∧
  (∀(x:ay) (t:Nat),bM C l dst (.d_ x) t true os (some a) K (.bool true)=cw C l (t::use (J l) (.d_ x)) (cf (J l) (.d_ x)) dst os a K (gK (J l) (az (J l) x)))∧
  (∀(x:ay) (t:Nat),bM C l dst (.d_ x) t false os (some a) K (.bool false)=cw C l (t::use (J l) (.d_ x)) (cf (J l) (.d_ x)) dst os a K (gK (J l) (az (J l) x)))∧
  (∀(c x y:ay) (t:Nat),bM C l dst (.pick c x y) t true os (some a) K (.bool true)=cw C l (t::use (J l) (.pick c x y)) (cf (J l) (.pick c x y)) dst os a K (oj (J l) (az (J l) c) (az (J l) x) (az (J l) y)))∧
  (∀(c x y:ay) (t:Nat),bM C l dst (.pick c x y) t false os (some a) K (.bool false)=cw C l (t::use (J l) (.pick c x y)) (cf (J l) (.pick c x y)) dst os a K (oj (J l) (az (J l) c) (az (J l) x) (az (J l) y)))∧
  (∀(T:TypeId) (t:Nat),bM C l dst (.fc T) t true os (some a) K (.bool true)=cw C l (t::use (J l) (.fc T)) (cf (J l) (.fc T)) dst os a K (bZ (J l) (fc C T)))∧
  (∀(T:TypeId) (t:Nat),bM C l dst (.fc T) t false os (some a) K (.bool false)=cw C l (t::use (J l) (.fc T)) (cf (J l) (.fc T)) dst os a K (bZ (J l) (fc C T)))∧
  (∀(T:TypeId) (x:ay) (t:Nat),bM C l dst (.eg T x) t true os (some a) K (.bool true)=cw C l (t::use (J l) (.eg T x)) (cf (J l) (.eg T x)) dst os a K (eg (J l) (az (J l) x)))∧
  (∀(T:TypeId) (x:ay) (t:Nat),bM C l dst (.eg T x) t false os (some a) K (.bool false)=cw C l (t::use (J l) (.eg T x)) (cf (J l) (.eg T x)) dst os a K (eg (J l) (az (J l) x)))∧
  (∀(T:TypeId) (ps:List (Nat×ay)) (t:Nat),bM C l dst (.dH T ps) t true os (some a) K (.bool true)=cw C l (t::use (J l) (.dH T ps)) (cf (J l) (.dH T ps)) dst os a K (dH C (J l) T (hB (J l) ps)))∧
  (∀(T:TypeId) (ps:List (Nat×ay)) (t:Nat),bM C l dst (.dH T ps) t false os (some a) K (.bool false)=cw C l (t::use (J l) (.dH T ps)) (cf (J l) (.dH T ps)) dst os a K (dH C (J l) T (hB (J l) ps)))∧
  (∀(T:TypeId) (n:Nat) (ps:List (Nat×ay)) (t:Nat),bM C l dst (.df T n ps) t true os (some a) K (.bool true)=cw C l (t::use (J l) (.df T n ps)) (cf (J l) (.df T n ps)) dst os a K (df C (J l) T n (hB (J l) ps)))∧
  (∀(T:TypeId) (n:Nat) (ps:List (Nat×ay)) (t:Nat),bM C l dst (.df T n ps) t false os (some a) K (.bool false)=cw C l (t::use (J l) (.df T n ps)) (cf (J l) (.df T n ps)) dst os a K (df C (J l) T n (hB (J l) ps)))∧
  (∀(T:TypeId) (x:ay) (t:Nat),bM C l dst (.c8 T x) t true os (some a) K (.bool true)=cw C l (t::use (J l) (.c8 T x)) (cf (J l) (.c8 T x)) dst os a K (bZ (J l) (c8 C (J l) T (az (J l) x))))∧
  (∀(T:TypeId) (x:ay) (t:Nat),bM C l dst (.c8 T x) t false os (some a) K (.bool false)=cw C l (t::use (J l) (.c8 T x)) (cf (J l) (.c8 T x)) dst os a K (bZ (J l) (c8 C (J l) T (az (J l) x))))∧
  (∀(T:TypeId) (x y:ay) (t:Nat),bM C l dst (.dY T x y) t true os (some a) K (.bool true)=cw C l (t::use (J l) (.dY T x y)) (cf (J l) (.dY T x y)) dst os a K (hj (dY C (J l) T (az (J l) x) (az (J l) y))))∧
  (∀(T:TypeId) (x y:ay) (t:Nat),bM C l dst (.dY T x y) t false os (some a) K (.bool false)=cw C l (t::use (J l) (.dY T x y)) (cf (J l) (.dY T x y)) dst os a K (hj (dY C (J l) T (az (J l) x) (az (J l) y))))∧
  (∀(x:ay) (t:Nat),bM C l dst (.el x) t true os (some a) K (.bool true)=cw C l (t::use (J l) (.el x)) (cf (J l) (.el x)) dst os a K (bZ (J l) (el (J l) (az (J l) x))))∧
  (∀(x:ay) (t:Nat),bM C l dst (.el x) t false os (some a) K (.bool false)=cw C l (t::use (J l) (.el x)) (cf (J l) (.el x)) dst os a K (bZ (J l) (el (J l) (az (J l) x))))∧
  (∀(op:BinOp) (T:TypeId) (x y:ay) (t:Nat),bM C l dst (.bG op T x y) t true os (some a) K (.bool true)=cw C l (t::use (J l) (.bG op T x y)) (cf (J l) (.bG op T x y)) dst os a K (bZ (J l) (bG C (J l) op T (az (J l) x) (az (J l) y))))∧
  (∀(op:BinOp) (T:TypeId) (x y:ay) (t:Nat),bM C l dst (.bG op T x y) t false os (some a) K (.bool false)=cw C l (t::use (J l) (.bG op T x y)) (cf (J l) (.bG op T x y)) dst os a K (bZ (J l) (bG C (J l) op T (az (J l) x) (az (J l) y))))∧
  (∀(op:UnOp) (x:ay) (t:Nat),bM C l dst (.un op x) t true os (some a) K (.bool true)=cw C l (t::use (J l) (.un op x)) (cf (J l) (.un op x)) dst os a K (bZ (J l) (un op (az (J l) x))))∧
  (∀(op:UnOp) (x:ay) (t:Nat),bM C l dst (.un op x) t false os (some a) K (.bool false)=cw C l (t::use (J l) (.un op x)) (cf (J l) (.un op x)) dst os a K (bZ (J l) (un op (az (J l) x))))∧
  (∀(A B:TypeId) (x:ay) (t:Nat),bM C l dst (.eP A B x) t true os (some a) K (.bool true)=cw C l (t::use (J l) (.eP A B x)) (cf (J l) (.eP A B x)) dst os a K (bZ (J l) (eP C (J l) A B (az (J l) x))))∧
  (∀(A B:TypeId) (x:ay) (t:Nat),bM C l dst (.eP A B x) t false os (some a) K (.bool false)=cw C l (t::use (J l) (.eP A B x)) (cf (J l) (.eP A B x)) dst os a K (bZ (J l) (eP C (J l) A B (az (J l) x))))∧
  (∀(f:FuncId) (cs:List ay) (t:Nat),bM C l dst (.hL f cs) t true os (some a) K (.bool true)=cw C l (t::use (J l) (.hL f cs)) (cf (J l) (.hL f cs)) dst os a K (some (.fn f (gh (J l) cs),J l)))∧
  (∀(f:FuncId) (cs:List ay) (t:Nat),bM C l dst (.hL f cs) t false os (some a) K (.bool false)=cw C l (t::use (J l) (.hL f cs)) (cf (J l) (.hL f cs)) dst os a K (some (.fn f (gh (J l) cs),J l)))∧
  (∀(T:TypeId) (x y:ay) (t:Nat),bM C l dst (.eh T x y) t true os (some a) K (.bool true)=cw C l (t::use (J l) (.eh T x y)) (cf (J l) (.eh T x y)) dst os a K (bZ (J l) (eh C T (az (J l) x) (az (J l) y))))∧
  (∀(T:TypeId) (x y:ay) (t:Nat),bM C l dst (.eh T x y) t false os (some a) K (.bool false)=cw C l (t::use (J l) (.eh T x y)) (cf (J l) (.eh T x y)) dst os a K (bZ (J l) (eh C T (az (J l) x) (az (J l) y))))∧
  (∀(T:TypeId) (x:ay) (b_ aA:Option ay) (t:Nat),bM C l dst (.cC T x b_ aA) t true os (some a) K (.bool true)=cw C l (t::use (J l) (.cC T x b_ aA)) (cf (J l) (.cC T x b_ aA)) dst os a K (cC C (J l) T (az (J l) x) (iJ (J l) b_) (iJ (J l) aA)))∧
  (∀(T:TypeId) (x:ay) (b_ aA:Option ay) (t:Nat),bM C l dst (.cC T x b_ aA) t false os (some a) K (.bool false)=cw C l (t::use (J l) (.cC T x b_ aA)) (cf (J l) (.cC T x b_ aA)) dst os a K (cC C (J l) T (az (J l) x) (iJ (J l) b_) (iJ (J l) aA)))∧
  (∀(T:TypeId) (x:ay) (k:Nat) (t:Nat),bM C l dst (.ek T x k) t true os (some a) K (.bool true)=cw C l (t::use (J l) (.ek T x k)) (cf (J l) (.ek T x k)) dst os a K (bZ (J l) (ek C (J l) T (az (J l) x) k)))∧
  (∀(T:TypeId) (x:ay) (k:Nat) (t:Nat),bM C l dst (.ek T x k) t false os (some a) K (.bool false)=cw C l (t::use (J l) (.ek T x k)) (cf (J l) (.ek T x k)) dst os a K (bZ (J l) (ek C (J l) T (az (J l) x) k)))∧
  (∀(T:TypeId) (x y:ay) (t:Nat),bM C l dst (.eA T x y) t true os (some a) K (.bool true)=cw C l (t::use (J l) (.eA T x y)) (cf (J l) (.eA T x y)) dst os a K (bZ (J l) (eA C (J l) T (az (J l) x) (az (J l) y))))∧
  (∀(T:TypeId) (x y:ay) (t:Nat),bM C l dst (.eA T x y) t false os (some a) K (.bool false)=cw C l (t::use (J l) (.eA T x y)) (cf (J l) (.eA T x y)) dst os a K (bZ (J l) (eA C (J l) T (az (J l) x) (az (J l) y))))∧
  (∀(T:TypeId) (x y:ay) (t:Nat),bM C l dst (.idx T x y) t true os (some a) K (.bool true)=cw C l (t::use (J l) (.idx T x y)) (cf (J l) (.idx T x y)) dst os a K (bZ (J l) (idx C T (az (J l) x) (az (J l) y))))∧
  (∀(T:TypeId) (x y:ay) (t:Nat),bM C l dst (.idx T x y) t false os (some a) K (.bool false)=cw C l (t::use (J l) (.idx T x y)) (cf (J l) (.idx T x y)) dst os a K (bZ (J l) (idx C T (az (J l) x) (az (J l) y))))∧
  (∀(x:ay) (k:Nat) (t:Nat),bM C l dst (.ex x k) t true os (some a) K (.bool true)=cw C l (t::use (J l) (.ex x k)) (cf (J l) (.ex x k)) dst os a K (bZ (J l) (ex (J l) (az (J l) x) k)))∧
  (∀(x:ay) (k:Nat) (t:Nat),bM C l dst (.ex x k) t false os (some a) K (.bool false)=cw C l (t::use (J l) (.ex x k)) (cf (J l) (.ex x k)) dst os a K (bZ (J l) (ex (J l) (az (J l) x) k)))∧
  (∀(T:TypeId) (x:ay) (t:Nat),bM C l dst (.len T x) t true os (some a) K (.bool true)=cw C l (t::use (J l) (.len T x)) (cf (J l) (.len T x)) dst os a K (bZ (J l) (js C (J l) T (az (J l) x))))∧
  (∀(T:TypeId) (x:ay) (t:Nat),bM C l dst (.len T x) t false os (some a) K (.bool false)=cw C l (t::use (J l) (.len T x)) (cf (J l) (.len T x)) dst os a K (bZ (J l) (js C (J l) T (az (J l) x))))∧
  (∀(T a8:TypeId) (x y:ay) (t:Nat),bM C l dst (.app T a8 x y) t true os (some a) K (.bool true)=cw C l (t::use (J l) (.app T a8 x y)) (cf (J l) (.app T a8 x y)) dst os a K (jt C (J l) T a8 (az (J l) x) (az (J l) y)))∧
  (∀(T a8:TypeId) (x y:ay) (t:Nat),bM C l dst (.app T a8 x y) t false os (some a) K (.bool false)=cw C l (t::use (J l) (.app T a8 x y)) (cf (J l) (.app T a8 x y)) dst os a K (jt C (J l) T a8 (az (J l) x) (az (J l) y))):=
 ⟨fun x _=>(dF rfl).trans (congrArg _ (qO x)),fun x _=>(dF rfl).trans (congrArg _ (qO x)),fun x _=>(dF rfl).trans (congrArg _ (qP x)),fun x _=>(dF rfl).trans (congrArg _ (qP x)),fun c x y _=>(dF rfl).trans (congrArg _ (qQ c x y)),fun c x y _=>(dF rfl).trans (congrArg _ (qQ c x y)),fun T _=>(dF rfl).trans (congrArg _ (qR T)),fun T _=>(dF rfl).trans (congrArg _ (qR T)),fun T x _=>(dF rfl).trans (congrArg _ (qS T x)),fun T x _=>(dF rfl).trans (congrArg _ (qS T x)),fun T ps _=>(dF rfl).trans (congrArg _ (qT T ps)),fun T ps _=>(dF rfl).trans (congrArg _ (qT T ps)),fun T n ps _=>(dF rfl).trans (congrArg _ (qU T n ps)),fun T n ps _=>(dF rfl).trans (congrArg _ (qU T n ps)),fun T x _=>(dF rfl).trans (congrArg _ (qV T x)),fun T x _=>(dF rfl).trans (congrArg _ (qV T x)),fun T x y _=>(dF rfl).trans (congrArg _ (qW T x y)),fun T x y _=>(dF rfl).trans (congrArg _ (qW T x y)),fun x _=>(dF rfl).trans (congrArg _ (qX x)),fun x _=>(dF rfl).trans (congrArg _ (qX x)),fun op T x y _=>(dF rfl).trans (congrArg _ (qY op T x y)),fun op T x y _=>(dF rfl).trans (congrArg _ (qY op T x y)),fun op x _=>(dF rfl).trans (congrArg _ (qZ op x)),fun op x _=>(dF rfl).trans (congrArg _ (qZ op x)),fun A B x _=>(dF rfl).trans (congrArg _ (q0 A B x)),fun A B x _=>(dF rfl).trans (congrArg _ (q0 A B x)),fun f cs _=>(dF rfl).trans (congrArg _ (q1 f cs)),fun f cs _=>(dF rfl).trans (congrArg _ (q1 f cs)),fun T x y _=>(dF rfl).trans (congrArg _ (q2 T x y)),fun T x y _=>(dF rfl).trans (congrArg _ (q2 T x y)),fun T x b_ aA _=>(dF rfl).trans (congrArg _ (q3 T x b_ aA)),fun T x b_ aA _=>(dF rfl).trans (congrArg _ (q3 T x b_ aA)),fun T x k _=>(dF rfl).trans (congrArg _ (q4 T x k)),fun T x k _=>(dF rfl).trans (congrArg _ (q4 T x k)),fun T x y _=>(dF rfl).trans (congrArg _ (q5 T x y)),fun T x y _=>(dF rfl).trans (congrArg _ (q5 T x y)),fun T x y _=>(dF rfl).trans (congrArg _ (q6 T x y)),fun T x y _=>(dF rfl).trans (congrArg _ (q6 T x y)),fun x k _=>(dF rfl).trans (congrArg _ (q7 x k)),fun x k _=>(dF rfl).trans (congrArg _ (q7 x k)),fun T x _=>(dF rfl).trans (congrArg _ (q8 T x)),fun T x _=>(dF rfl).trans (congrArg _ (q8 T x)),fun T a8 x y _=>(dF rfl).trans (congrArg _ (q9 T a8 x y)),fun T a8 x y _=>(dF rfl).trans (congrArg _ (q9 T a8 x y))⟩
end
theorem CW:
  (∀(t:Nat) (k:IntKind) (n:Int),gp t (.int k n)=(.int k n))∧
  (∀(t:Nat) (b:Bool),gp t (.bool b)=(.bool b))∧
  (∀(t:Nat) (x:List UInt8),gp t (.str x)=(.str x))∧
  (∀(t:Nat) (xs:List I),gp t (.slice xs)=(.slice xs))∧
  (∀(t:Nat) (d:I),gp t (.ref d)=(.ref d))∧
  (∀(t:Nat) (f:FuncId) (cap:List I),gp t (.fn f cap)=(.fn f cap))∧
  (∀(t:Nat) (x:Nat) (q:List Nat),gp t (.h x q)=(.h x q))∧
  (∀(t:Nat) (x:Nat) (q:List Nat),gp t (.ak x q)=(.ak x q))∧
  (∀(t:Nat),gp t .cn= .cn)∧
  (∀(t:Nat),gp t .bH= .bH)∧
  (∀(t:Nat),gp t .dd= .dd)∧
  (∀(t:Nat),gp t .hole= .hole)∧
  (∀(t:Nat) (sz:Nat) (xs:List I),gp t (.aK sz xs)= .h t [])∧
  (∀(t:Nat) (d:I),gp t (.a1 d)= .h t [])∧
  (∀(t:Nat) (af:List I),gp t (.agg af)=if I.dW af=true then(.agg af)else .h t [])∧
  (∀(t:Nat) (af:List I),gp t (.tuple af)=if I.dW af=true then(.tuple af)else .h t []):=
 ⟨fun _ _ _=>rfl,fun _ _=>rfl,fun _ _=>rfl,fun _ _=>rfl,fun _ _=>rfl,fun _ _ _=>rfl,fun _ _ _=>rfl,fun _ _ _=>rfl,fun _=>rfl,fun _=>rfl,fun _=>rfl,fun _=>rfl,fun _ _ _=>rfl,fun _ _=>rfl,fun _ _=>rfl,fun _ _=>rfl⟩
theorem CX:
  (∀(l:List (Nat×I)) (av:I),fin (J l) none av=J l)∧
  (∀(l:List (Nat×I)) (t:Nat) (k:IntKind) (n:Int),fin (J l) (some t) (.int k n)=J ((t,(.int k n))::l))∧
  (∀(l:List (Nat×I)) (t:Nat) (b:Bool),fin (J l) (some t) (.bool b)=J ((t,(.bool b))::l))∧
  (∀(l:List (Nat×I)) (t:Nat) (x:List UInt8),fin (J l) (some t) (.str x)=J ((t,(.str x))::l))∧
  (∀(l:List (Nat×I)) (t:Nat) (xs:List I),fin (J l) (some t) (.slice xs)=J ((t,(.slice xs))::l))∧
  (∀(l:List (Nat×I)) (t:Nat) (d:I),fin (J l) (some t) (.ref d)=J ((t,(.ref d))::l))∧
  (∀(l:List (Nat×I)) (t:Nat) (f:FuncId) (cap:List I),fin (J l) (some t) (.fn f cap)=J ((t,(.fn f cap))::l))∧
  (∀(l:List (Nat×I)) (t:Nat) (x:Nat) (q:List Nat),fin (J l) (some t) (.h x q)=J ((t,(.h x q))::l))∧
  (∀(l:List (Nat×I)) (t:Nat) (x:Nat) (q:List Nat),fin (J l) (some t) (.ak x q)=J ((t,(.ak x q))::l))∧
  (∀(l:List (Nat×I)) (t:Nat),fin (J l) (some t) .cn=J ((t,.cn)::l))∧
  (∀(l:List (Nat×I)) (t:Nat),fin (J l) (some t) .bH=J ((t,.bH)::l))∧
  (∀(l:List (Nat×I)) (t:Nat),fin (J l) (some t) .dd=J ((t,.dd)::l))∧
  (∀(l:List (Nat×I)) (t:Nat),fin (J l) (some t) .hole=J ((t,.hole)::l))∧
  (∀(l:List (Nat×I)) (t:Nat) (sz:Nat) (xs:List I),fin (J l) (some t) (.aK sz xs)=J ((t,(.aK sz xs))::k5 t l))∧
  (∀(l:List (Nat×I)) (t:Nat) (d:I),fin (J l) (some t) (.a1 d)=J ((t,(.a1 d))::k5 t l))∧
  (∀(l:List (Nat×I)) (t:Nat) (af:List I),fin (J l) (some t) (.agg af)=J ((t,(.agg af))::if I.dW af=true then l else k5 t l))∧
  (∀(l:List (Nat×I)) (t:Nat) (af:List I),fin (J l) (some t) (.tuple af)=J ((t,(.tuple af))::if I.dW af=true then l else k5 t l)):=
 ⟨fun _ _=>rfl,fun l t _ _=>by simp only[fin,I.plain,if_true,h7],fun l t _=>by simp only[fin,I.plain,if_true,h7],fun l t _=>by simp only[fin,I.plain,if_true,h7],fun l t _=>by simp only[fin,I.plain,if_true,h7],fun l t _=>by simp only[fin,I.plain,if_true,h7],fun l t _ _=>by simp only[fin,I.plain,if_true,h7],fun l t _ _=>by simp only[fin,I.plain,if_true,h7],fun l t _ _=>by simp only[fin,I.plain,if_true,h7],fun l t=>by simp only[fin,I.plain,if_true,h7],fun l t=>by simp only[fin,I.plain,if_true,h7],fun l t=>by simp only[fin,I.plain,if_true,h7],fun l t=>by simp only[fin,I.plain,if_true,h7],fun l t _ _=>by simp only[fin,I.plain,Bool.false_eq_true,if_false,qK,h7],fun l t _=>by simp only[fin,I.plain,Bool.false_eq_true,if_false,qK,h7],fun l t _=>by simp only[fin,I.plain,qK,h7];split<;>rfl,fun l t _=>by simp only[fin,I.plain,qK,h7];split<;>rfl⟩
theorem CY:
  (∀(k:IntKind) (n:Int),I.plain (.int k n)=true)∧
  (∀(b:Bool),I.plain (.bool b)=true)∧
  (∀(x:List UInt8),I.plain (.str x)=true)∧
  (∀(xs:List I),I.plain (.slice xs)=true)∧
  (∀(d:I),I.plain (.ref d)=true)∧
  (∀(f:FuncId) (cap:List I),I.plain (.fn f cap)=true)∧
  (∀(x:Nat) (q:List Nat),I.plain (.h x q)=true)∧
  (∀(x:Nat) (q:List Nat),I.plain (.ak x q)=true)∧
  (I.plain .cn=true)∧
  (I.plain .bH=true)∧
  (I.plain .dd=true)∧
  (I.plain .hole=true)∧
  (∀(sz:Nat) (xs:List I),I.plain (.aK sz xs)=false)∧
  (∀(d:I),I.plain (.a1 d)=false)∧
  (∀(af:List I),I.plain (.agg af)=I.dW af)∧
  (∀(af:List I),I.plain (.tuple af)=I.dW af)∧
  (I.dW []=true)∧
  (∀d ds,I.dW (d::ds)=(d.plain&&I.dW ds)):=
 ⟨fun _ _=>rfl,fun _=>rfl,fun _=>rfl,fun _=>rfl,fun _=>rfl,fun _ _=>rfl,fun _ _=>rfl,fun _ _=>rfl,rfl,rfl,rfl,rfl,fun _ _=>rfl,fun _=>rfl,fun _=>rfl,fun _=>rfl,rfl,fun _ _=>rfl⟩
theorem CZ:
  (∀(s:aj) (k:IntKind) (n:Int),gK s (.int k n)=some ((.int k n),s))∧
  (∀(s:aj) (b:Bool),gK s (.bool b)=some ((.bool b),s))∧
  (∀(s:aj) (x:List UInt8),gK s (.str x)=some ((.str x),s))∧
  (∀(s:aj) (xs:List I),gK s (.slice xs)=some ((.slice xs),s))∧
  (∀(s:aj) (d:I),gK s (.ref d)=some ((.ref d),s))∧
  (∀(s:aj) (f:FuncId) (cap:List I),gK s (.fn f cap)=some ((.fn f cap),s))∧
  (∀(s:aj) (x:Nat) (q:List Nat),gK s (.ak x q)=some ((.ak x q),s))∧
  (∀(s:aj),gK s .cn=some (.cn,s))∧
  (∀(s:aj),gK s .bH=some (.bH,s))∧
  (∀(s:aj),gK s .dd=some (.dd,s))∧
  (∀(s:aj),gK s .hole=some (.hole,s))∧
  (∀(s:aj) (sz:Nat) (xs:List I),gK s (.aK sz xs)=some ((.aK sz xs),s))∧
  (∀(s:aj) (d:I),gK s (.a1 d)=some ((.a1 d),s))∧
  (∀(s:aj) (af:List I),gK s (.agg af)=some ((.agg af),s))∧
  (∀(s:aj) (af:List I),gK s (.tuple af)=some ((.tuple af),s))∧
  (∀(s:aj) y q,gK s (.h y q)=bR s (.h y q)):=
 ⟨fun _ _ _=>rfl,fun _ _=>rfl,fun _ _=>rfl,fun _ _=>rfl,fun _ _=>rfl,fun _ _ _=>rfl,fun _ _ _=>rfl,fun _=>rfl,fun _=>rfl,fun _=>rfl,fun _=>rfl,fun _ _ _=>rfl,fun _ _=>rfl,fun _ _=>rfl,fun _ _=>rfl,fun _ _ _=>rfl⟩
theorem C0:
  (∀(t:Nat) (k:IntKind) (n:Int),bT t (.int k n)=(.int k n))∧
  (∀(t:Nat) (b:Bool),bT t (.bool b)=(.bool b))∧
  (∀(t:Nat) (x:List UInt8),bT t (.str x)=(.str x))∧
  (∀(t:Nat) (xs:List I),bT t (.slice xs)=(.slice xs))∧
  (∀(t:Nat) (d:I),bT t (.ref d)=(.ref d))∧
  (∀(t:Nat),bT t .cn= .cn)∧
  (∀(t:Nat),bT t .bH= .bH)∧
  (∀(t:Nat),bT t .dd= .dd)∧
  (∀(t:Nat),bT t .hole= .hole)∧
  (∀(t:Nat) (sz:Nat) (xs:List I),bT t (.aK sz xs)=(.aK sz xs))∧
  (∀(t:Nat) (d:I),bT t (.a1 d)=(.a1 d))∧
  (∀(t:Nat) (af:List I),bT t (.agg af)=(.agg af))∧
  (∀(t:Nat) (af:List I),bT t (.tuple af)=(.tuple af))∧
  (∀(t y:Nat) q,bT t (.h y q)=if y=t then .hole else .h y q)∧
  (∀(t y:Nat) q,bT t (.ak y q)=if y=t then .hole else .ak y q)∧
  (∀(t:Nat) f c,bT t (.fn f c)= .fn f (gn t c))∧
  (∀t,gn t []=[])∧
  (∀t d ds,gn t (d::ds)=bT t d::gn t ds)∧
  (∀t,k5 t []=[])∧
  (∀t u d l,k5 t ((u,d)::l)=(u,bT t d)::k5 t l)∧
  (∀t l,iV t (J l)=J (k5 t l)):=
 ⟨fun _ _ _=>by unfold bT;rfl,fun _ _=>by unfold bT;rfl,fun _ _=>by unfold bT;rfl,fun _ _=>by unfold bT;rfl,fun _ _=>by unfold bT;rfl,fun _=>by unfold bT;rfl,fun _=>by unfold bT;rfl,fun _=>by unfold bT;rfl,fun _=>by unfold bT;rfl,fun _ _ _=>by unfold bT;rfl,fun _ _=>by unfold bT;rfl,fun _ _=>by unfold bT;rfl,fun _ _=>by unfold bT;rfl,fun _ _ _=>by unfold bT;rfl,fun _ _ _=>by unfold bT;rfl,fun _ _ _=>by simp only[bT],fun _=>by simp only[gn],fun _ _ _=>by simp only[gn],fun _=>rfl,fun _ _ _ _=>rfl,fun t l=>qK t l⟩
theorem C1:
  (∀(t:Nat) (k:IntKind) (n:Int),bn t (.int k n)=(.int k n))∧
  (∀(t:Nat) (b:Bool),bn t (.bool b)=(.bool b))∧
  (∀(t:Nat) (x:List UInt8),bn t (.str x)=(.str x))∧
  (∀(t:Nat) (xs:List I),bn t (.slice xs)=(.slice xs))∧
  (∀(t:Nat) (d:I),bn t (.ref d)=(.ref d))∧
  (∀(t:Nat),bn t .cn= .cn)∧
  (∀(t:Nat),bn t .bH= .bH)∧
  (∀(t:Nat),bn t .dd= .dd)∧
  (∀(t:Nat),bn t .hole= .hole)∧
  (∀(t:Nat) (sz:Nat) (xs:List I),bn t (.aK sz xs)=(.aK sz xs))∧
  (∀(t:Nat) (d:I),bn t (.a1 d)=(.a1 d))∧
  (∀(t:Nat) (af:List I),bn t (.agg af)=(.agg af))∧
  (∀(t:Nat) (af:List I),bn t (.tuple af)=(.tuple af))∧
  (∀(t y:Nat),bn t (.h y [])= .h y [])∧
  (∀(t y k:Nat) q,bn t (.h y (k::q))=if y=t then .hole else .h y (k::q))∧
  (∀(t y:Nat) q,bn t (.ak y q)=if y=t then .hole else .ak y q)∧
  (∀(t:Nat) f c,bn t (.fn f c)= .fn f (fS t c))∧
  (∀t,fS t []=[])∧
  (∀t d ds,fS t (d::ds)=bn t d::fS t ds)∧
  (∀t,pz t []=[])∧
  (∀t u d l,pz t ((u,d)::l)=(u,bn t d)::pz t l)∧
  (∀t l,fz t (J l)=J (pz t l)):=
 ⟨fun _ _ _=>by unfold bn;rfl,fun _ _=>by unfold bn;rfl,fun _ _=>by unfold bn;rfl,fun _ _=>by unfold bn;rfl,fun _ _=>by unfold bn;rfl,fun _=>by unfold bn;rfl,fun _=>by unfold bn;rfl,fun _=>by unfold bn;rfl,fun _=>by unfold bn;rfl,fun _ _ _=>by unfold bn;rfl,fun _ _=>by unfold bn;rfl,fun _ _=>by unfold bn;rfl,fun _ _=>by unfold bn;rfl,fun _ _=>by simp[bn],fun _ _ _ _=>by simp[bn],fun _ _ _=>by unfold bn;rfl,fun _ _ _=>by simp only[bn],fun _=>by simp only[fS],fun _ _ _=>by simp only[fS],fun _=>rfl,fun _ _ _ _=>rfl,fun t l=>JV t l⟩
def yC:kk→Bool→Option I
 | .bool,b=>some (.bool b)
 |_,_=>none
def pF (neg:Bool):kk→Option (Option Bool)→Option I
 | .slice _,some r=>some (sn neg r)
 |_,_=>none
def pG (neg:Bool):kk→Option Bool→Option I
 | .ptr _,some b=>some (.bool (b !=neg))
 |_,_=>none
theorem C2 (C:bq) (s:aj) (T:TypeId):
  (∀op k a cy b,bG C s op T (.int k a) (.int cy b)=hJ op k a cy b)∧
  (∀op a b,bG C s op T (.str a) (.str b)=km op a b)∧
  (∀a b,bG C s .eql T (.bool a) (.bool b)=yC (C.T T).k (a==b))∧
  (∀a b,bG C s .neq T (.bool a) (.bool b)=yC (C.T T).k (!(a==b)))∧
  (∀xs,bG C s .eql T (.slice xs) .bH=pF false (C.T T).k (iB s (.slice xs)))∧
  (∀xs,bG C s .neq T (.slice xs) .bH=pF true (C.T T).k (iB s (.slice xs)))∧
  (bG C s .eql T .bH .bH=pF false (C.T T).k (iB s .bH))∧
  (bG C s .neq T .bH .bH=pF true (C.T T).k (iB s .bH))∧
  (∀x q,bG C s .eql T (.h x q) .bH=pF false (C.T T).k (iB s (.h x q)))∧
  (∀x q,bG C s .neq T (.h x q) .bH=pF true (C.T T).k (iB s (.h x q)))∧
  (∀x q,bG C s .eql T (.h x q) .cn=pG false (C.T T).k (iC s (.h x q)))∧
  (∀x q,bG C s .neq T (.h x q) .cn=pG true (C.T T).k (iC s (.h x q)))∧
  (∀d,bG C s .eql T (.ref d) .cn=pG false (C.T T).k (iC s (.ref d)))∧
  (∀d,bG C s .neq T (.ref d) .cn=pG true (C.T T).k (iC s (.ref d)))∧
  (bG C s .eql T .cn .cn=pG false (C.T T).k (iC s .cn))∧
  (bG C s .neq T .cn .cn=pG true (C.T T).k (iC s .cn)):=by
 refine⟨?_,?_,?_,?_,?_,?_,?_,?_,?_,?_,?_,?_,?_,?_,?_,?_⟩<;>intros<;>first
  |rfl
  |(simp only[bG]
    generalize (C.T T).k=iz
    cases iz<;>first|rfl|(simp only[pF];generalize iB s _=v;cases v<;>rfl)|(simp only[pG];generalize iC s _=v;cases v<;>(try (rename_i b;cases b))<;>rfl))
theorem C3 (k:IntKind) (a b:Int):
  hJ .add k a k b=some (.int k (k.wrap (a+b)))∧hJ .sub k a k b=some (.int k (k.wrap (a-b)))∧hJ .mul k a k b=some (.int k (k.wrap (a*b)))∧
  hJ .eql k a k b=some (.bool (a==b))∧hJ .neq k a k b=some (.bool (a !=b))∧hJ .lss k a k b=some (.bool (decide (a<b)))∧hJ .leq k a k b=some (.bool (decide (a≤b)))∧
  hJ .gtr k a k b=some (.bool (decide (b<a)))∧hJ .geq k a k b=some (.bool (decide (b≤a)))∧
  hJ .and k a k b=some (.int k (bitsOf .and k a b))∧hJ .or k a k b=some (.int k (bitsOf .or k a b))∧hJ .xor k a k b=some (.int k (bitsOf .xor k a b))∧hJ .andNot k a k b=some (.int k (bitsOf .andNot k a b)):=by
 simp[hJ]
theorem C4 (a b:List UInt8):
  km .eql a b=some (.bool (a==b))∧km .neq a b=some (.bool !(a==b))∧km .lss a b=some (.bool (Op.bytesLess a b))∧
  km .leq a b=some (.bool (Op.bytesLess a b||a==b))∧km .gtr a b=some (.bool !(Op.bytesLess a b||a==b))∧km .geq a b=some (.bool !(Op.bytesLess a b)):=by
 refine⟨rfl,rfl,rfl,rfl,rfl,rfl⟩
theorem C5:(∀b,un .not (.bool b)=some (.bool !b))∧(un .not .dd=some .dd)∧(∀k n,un .neg (.int k n)=some (.int k (k.wrap (0-n)))):=⟨fun _=>rfl,rfl,fun _ _=>rfl⟩
def yD:kk→Option UInt8→Option I
 | .str,some c=>some (.int .u8 c.toNat)
 |_,_=>none
theorem C6 (C:bq) (T:TypeId) (l:List UInt8) (k:IntKind) (n:Int):idx C T (.str l) (.int k n)=yD (C.T T).k (cF l n):=by
 simp only[idx,cF]
 generalize (C.T T).k=iz
 cases iz<;>first|rfl|(simp only[yD];split<;>first|rfl|(cases l[n.toNat]? <;>rfl))
def yE (C:bq):kk→Option I→Option I
 | .slice e,some d=>if(C.T e).ok=true∧d.wd=(C.T e).sz then some (.ref d)else none
 |_,_=>none
theorem C7 (C:bq) (s:aj) (T:TypeId) (xs:List I) (k:IntKind) (n:Int):eA C s T (.slice xs) (.int k n)=yE C (C.T T).k (cF xs n):=by
 simp only[eA,cF]
 generalize (C.T T).k=iz
 cases iz<;>first|rfl|skip
 simp only[yE]
 by_cases bz:0≤n
 ·simp only[bz,true_and,if_true]
  split
  ·cases xs[n.toNat]? <;>simp[*]
  ·cases xs[n.toNat]? <;>simp[*]
 ·simp only[bz,false_and,if_false]
def s8 (C:bq) (y:Nat) (q:List Nat) (n:Int):kk→Option I→Option I
 | .slice e,some (.aK sz xs)=>if(cF xs n).isSome=true∧(C.T e).ok=true∧sz=(C.T e).sz then some (.ak y (q++[n.toNat]))else none
 |_,_=>none
theorem C8 (C:bq) (s:aj) (T:TypeId) (y:Nat) (q:List Nat) (k:IntKind) (n:Int):eA C s T (.h y q) (.int k n)=s8 C y q n (C.T T).k (I.sub q (s y)):=by
 simp only[eA]
 generalize (C.T T).k=iz
 cases iz<;>first|rfl|skip
 rename_i e
 cases U:I.sub q (s y)with
 |none=>simp[s8]
 |some d=>
  cases d<;>first
   |(simp[s8];done)
   |skip
  rename_i sz xs
  have hg:(cF xs n).isSome=true↔0≤n∧n.toNat<xs.length:=by
   unfold cF;split<;>simp_all<;>omega
  simp only[s8,hg]
  by_cases bz:0≤n<;>by_cases aa:(C.T e).ok=true<;>simp[bz,aa]
def q_:kk→aj→Option (List UInt8)→Option (I×aj)
 | .str,s,some t=>some (.str t,s)
 |_,_,_=>none
def ra (C:bq):kk→aj→List I→Option (List I)→Option (I×aj)
 | .slice e,s,xs,some t=>if(C.T e).ok=true∧∀d∈xs,d.wd=(C.T e).sz then some (.slice t,s)else none
 |_,_,_,_=>none
theorem C9 (C:bq) (s:aj) (T:TypeId) (l:List UInt8):
  (∀k a cy b,cC C s T (.str l) (some (.int k a)) (some (.int cy b))=q_ (C.T T).k s (ej l a b))∧
  (∀cy b,cC C s T (.str l) none (some (.int cy b))=q_ (C.T T).k s (ej l 0 b))∧
  (∀k a,cC C s T (.str l) (some (.int k a)) none=q_ (C.T T).k s (ej l a l.length)):=by
 have e:∀(b_ aA:Option I) (a b:Int),(fy 0 b_=if 0≤a then some a.toNat else none)→(fy l.length aA=if 0≤b then some b.toNat else none)→cC C s T (.str l) b_ aA=q_ (C.T T).k s (ej l a b):=by
  intro b_ aA a b aa ad
  simp only[cC]
  generalize (C.T T).k=iz
  cases iz<;>first|rfl|skip
  simp only[aa,ad,ej]
  by_cases bQ:0≤a<;>by_cases R:0≤b<;>simp only[bQ,R,if_true,if_false,q_,true_and,false_and]
  ·by_cases ai:a≤b∧b≤l.length
   ·rw[if_pos ⟨by omega,by omega⟩,if_pos ai]
   ·rw[if_neg (fun h=>ai ⟨by omega,by omega⟩),if_neg ai]
  ·rw[if_neg (by omega)]
 exact⟨fun k a cy b=>e _ _ a b rfl rfl,fun cy b=>e _ _ 0 b rfl rfl,fun k a=>e _ _ a l.length rfl (by simp[fy])⟩
theorem C_ (C:bq) (s:aj) (T:TypeId) (xs:List I):
  (∀k a cy b,cC C s T (.slice xs) (some (.int k a)) (some (.int cy b))=ra C (C.T T).k s xs (ej xs a b))∧
  (∀cy b,cC C s T (.slice xs) none (some (.int cy b))=ra C (C.T T).k s xs (ej xs 0 b))∧
  (∀k a,cC C s T (.slice xs) (some (.int k a)) none=ra C (C.T T).k s xs (ej xs a xs.length)):=by
 have e:∀(b_ aA:Option I) (a b:Int),(fy 0 b_=if 0≤a then some a.toNat else none)→(fy xs.length aA=if 0≤b then some b.toNat else none)→cC C s T (.slice xs) b_ aA=ra C (C.T T).k s xs (ej xs a b):=by
  intro b_ aA a b aa ad
  simp only[cC]
  generalize (C.T T).k=iz
  cases iz<;>first|rfl|skip
  simp only[aa,ad,ej]
  by_cases bQ:0≤a<;>by_cases R:0≤b<;>simp only[bQ,R,if_true,if_false,ra,true_and,false_and]
  ·by_cases ai:a≤b∧b≤xs.length
   ·rw[if_pos ai]
    have aa:a.toNat≤b.toNat:=by omega
    have ad:b.toNat≤xs.length:=by omega
    simp only[aa,ad,true_and]
   ·rw[if_neg (fun h=>ai ⟨by omega,by omega⟩),if_neg ai]
  ·rw[if_neg (by omega)]
 exact⟨fun k a cy b=>e _ _ a b rfl rfl,fun cy b=>e _ _ 0 b rfl rfl,fun k a=>e _ _ a xs.length rfl (by simp[fy])⟩
def s9 (q:List Nat):Option I→Option I
 |some d=>I.sub q d
 |none=>none
theorem Da:(∀d,I.sub [] d=some d)∧(∀k q af,I.sub (k::q) (.agg af)=s9 q af[k]?)∧(∀k q af,I.sub (k::q) (.tuple af)=s9 q af[k]?)∧(∀k q sz xs,I.sub (k::q) (.aK sz xs)=s9 q xs[k]?)∧
  (∀q d,I.sub (0::q) (.a1 d)=I.sub q d)∧(∀q d,s9 q (some d)=I.sub q d)∧
  (∀k q a b,I.sub (k::q) (.int a b)=none):=by
 refine⟨fun d=>by simp[I.sub],?_,?_,?_,fun q d=>by simp[I.sub],fun _ _=>rfl,fun _ _ _ _=>by simp[I.sub]⟩
 ·intro k q af;simp only[I.sub];cases af[k]? <;>rfl
 ·intro k q af;simp only[I.sub];cases af[k]? <;>rfl
 ·intro k q sz af;simp only[I.sub];cases af[k]? <;>rfl
def Db (k:Nat) (q:List Nat) (n:I) (af:List I):Option I→I
 |some d=>.agg (af.set k (I.put q n d))
 |none=>.agg af
def Dc (k:Nat) (q:List Nat) (n:I) (af:List I):Option I→I
 |some d=>.tuple (af.set k (I.put q n d))
 |none=>.tuple af
def Dd (k:Nat) (q:List Nat) (n:I) (sz:Nat) (xs:List I):Option I→I
 |some d=>.aK sz (xs.set k (I.put q n d))
 |none=>.aK sz xs
theorem De:(∀n d,I.put [] n d=n)∧(∀k q n af,I.put (k::q) n (.agg af)=Db k q n af af[k]?)∧(∀k q n af,I.put (k::q) n (.tuple af)=Dc k q n af af[k]?)∧
  (∀k q n sz xs,I.put (k::q) n (.aK sz xs)=Dd k q n sz xs xs[k]?)∧(∀q n d,I.put (0::q) n (.a1 d)= .a1 (I.put q n d))∧
  (∀k q n af d,Db k q n af (some d)= .agg (af.set k (I.put q n d)))∧(∀k q n af d,Dc k q n af (some d)= .tuple (af.set k (I.put q n d)))∧
  (∀k q n sz xs d,Dd k q n sz xs (some d)= .aK sz (xs.set k (I.put q n d))):=by
 refine⟨fun n d=>by simp[I.put],?_,?_,?_,fun q n d=>by simp[I.put],fun _ _ _ _ _=>rfl,fun _ _ _ _ _=>rfl,fun _ _ _ _ _ _=>rfl⟩
 ·intro k q n af;simp only[I.put];cases af[k]? <;>rfl
 ·intro k q n af;simp only[I.put];cases af[k]? <;>rfl
 ·intro k q n sz af;simp only[I.put];cases af[k]? <;>rfl
theorem yF:(∀k n,I.wd (.int k n)=1)∧(∀b,I.wd (.bool b)=1)∧(∀x,I.wd (.str x)=1)∧(∀x,I.wd (.slice x)=1)∧(∀n x,I.wd (.aK n x)=1)∧(∀x,I.wd (.ref x)=1)∧(∀x,I.wd (.a1 x)=1)∧
  I.wd .bH=1∧I.wd .cn=1∧I.wd .hole=1∧I.wd .dd=1∧(∀x y,I.wd (.h x y)=1)∧(∀x y,I.wd (.ak x y)=1)∧(∀x y,I.wd (.fn x y)=1)∧(∀af,I.wd (.agg af)=I.cH af)∧(∀af,I.wd (.tuple af)=I.cH af)∧I.cH []=0∧(∀d ds,I.cH (d::ds)=d.wd+I.cH ds):=by
 simp[I.wd,I.cH]
theorem KA {α:Type} {e:α→I} {n:Nat} (h:∀x,(e x).wd=n) (xs:List α):(∀d∈xs.map e,d.wd=n)=True:=by
 simp only[List.mem_map,eq_iff_iff,iff_true]
 rintro d ⟨x,_,rfl⟩;exact h x
theorem KB (C:bq) (s:aj) (A B:TypeId) (k cy:IntKind) (n:Int) (er:(C.T A).ok=true) (fo:(C.T B).k= .int cy):eP C s A B (.int k n)=some (.int cy (cy.wrap n)):=by
 simp only[eP,er,fo,if_true]
theorem KC (m:Int):kO (wP m)= .int .u8 (IntKind.u8.wrap m):=by
 have h:0≤IntKind.u8.wrap m∧IntKind.u8.wrap m<256:=by rw[IntKind.wrap_u8];omega
 simp only[kO,wP,UInt8.toNat_ofNat']
 congr 1
 omega
theorem yG (m:Int):((wP m).toNat:Int)=IntKind.u8.wrap m:=by
 have h:=KC m
 simpa [kO]using h
section
variable {C:bq} {l:List (Nat×I)} {Q:Exit→aj→Prop} {s:aj}
theorem iK {ros:List bm} {k:List Nat} (h:bK C (J l) ros none (fun _ s=>Q .normal (J (gy k s)))):b3 C (.ch ros (some k)) Q (J l):=u2 (fun _ _ h=>h) h
theorem Df {ros:List bm} {eC:List (List Nat)} {k:List Nat} (hlen:eC.length=ros.length) (h:bK C (J l) ros (some []) (fun acc s=>jA (pD eC) 0 [] (acc.getD []).reverse=true∧Q .normal (J (gy k s)))):
  b3 C (.iG ros eC (some k)) Q (J l):=CT hlen h
theorem KD {a b:ab} (h:∀cX:Exit→aj→Prop,(∀s,eD (b3 C b Q) s→cX .normal s)→(∀s,Q .ret s→cX .ret s)→(∀i s,Q (.exit i) s→cX (.exit i) s)→b3 C a cX s):b3 C (.seq a b) Q s:=
 h _ (fun _ h=>h) (fun _ h=>h) (fun _ _ h=>h)
theorem dA {ros:List bm} {k:List Nat} {b:ab} (h:bK C (J l) ros none (fun _ s=>b3 C b Q (J (gy k s)))):b3 C (.seq (.ch ros (some k)) b) Q (J l):=u2 (fun _ _ h=>.inl h) h
theorem pH {ros:List bm} {eC:List (List Nat)} {k:List Nat} {b:ab} (hlen:eC.length=ros.length) (h:bK C (J l) ros (some []) (fun acc s=>jA (pD eC) 0 [] (acc.getD []).reverse=true∧b3 C b Q (J (gy k s)))):
  b3 C (.seq (.iG ros eC (some k)) b) Q (J l):=CT (K:=fun s=>eD (b3 C b Q) (J (gy k s))) hlen (by
   have key:∀(os:List bm) (s:aj) (acc:Option (List dz)),bK C s os acc (fun acc s=>jA (pD eC) 0 [] (acc.getD []).reverse=true∧b3 C b Q (J (gy k s)))→
     bK C s os acc (fun acc s=>jA (pD eC) 0 [] (acc.getD []).reverse=true∧eD (b3 C b Q) (J (gy k s))):=by
    intro os
    induction os with
    |nil=>intro s acc h;exact⟨h.1,.inl h.2⟩
    |cons o os ih=>
     intro s acc h
     have mono:∀{s:aj} {a_:dZ} {K bC:List Nat→I→aj→Prop},(∀a b c,K a b c→bC a b c)→lN C s a_ K→lN C s a_ bC:=by
      intro s a_ K bC ar h
      cases a_ with
      |call f args=>
       obtain⟨g,caps,ps,r,aa,eJ,ad,aB,aO,a6,bp,bB,cE⟩:=h
       exact⟨g,caps,ps,r,aa,eJ,ad,aB,aO,a6,bp,bB,ar _ _ _ cE⟩
      |shr a_=>obtain⟨av,s1,aa,ad,aB,aO⟩:=h;exact⟨av,s1,aa,ad,aB,ar _ _ _ aO⟩
      |jZ f args u x=>
       obtain⟨bx,bF,g,caps,ps,r,aa,eJ,ad,aB,aO,a6,bp,bB,cE,eL,fj⟩:=h
       exact⟨bx,bF,g,caps,ps,r,aa,eJ,ad,aB,aO,a6,bp,bB,cE,eL,ar _ _ _ fj⟩
      |j0 f args us=>
       obtain⟨bF,g,caps,ps,r,aa,eJ,ad,aB,aO,a6,bp,bB,cE,eL⟩:=h
       exact⟨bF,g,caps,ps,r,aa,eJ,ad,aB,aO,a6,bp,bB,cE,ar _ _ _ eL⟩
      |_=>obtain⟨av,s1,aa,ad⟩:=h;exact⟨av,s1,aa,ar _ _ _ ad⟩
     simp only[bK,ku]at h⊢
     split
     ·rename_i hg;rw[hg]at h;exact mono (fun _ _ _=>ih _ _) h
     ·rename_i t dG hg
      rw[hg]at h
      simp only at h
      split
      ·rename_i Y6 U
       rw[U]at h
       simp only at h
       split
       ·rename_i R;rw[if_pos R]at h;exact mono (fun _ _ _=>ih _ _) h
       ·rename_i R;rw[if_neg R]at h;exact ih _ _ h
      ·rename_i U;rw[U]at h;exact ih _ _ h
      ·rename_i aa ad
       split at h
       ·exact aa _ (by assumption)
       ·exact ad (by assumption)
       ·exact h
   exact key _ _ _ h)
theorem k6 {c:ay} {a b:ab} (ai:az s c= .bool true) (h:b3 C a Q s):b3 C (.cond c a b) Q s:=by simp only[b3,ai,if_true];exact h
theorem s_ {c:ay} {a b:ab} (ai:az s c= .bool false) (h:b3 C b Q s):b3 C (.cond c a b) Q s:=by simp only[b3,ai];exact h
theorem KE {id:Nat} {b:ab} (h:∀cX:Exit→aj→Prop,(∀s,Q .normal s→cX .normal s)→(∀s,Q .ret s→cX .ret s)→(∀s,Q .normal s→cX (.exit id) s)→(∀i s,i≠id→Q (.exit i) s→cX (.exit i) s)→b3 C b cX s):b3 C (.block id b) Q s:=
 h (qF id Q) (fun _ h=>h) (fun _ h=>h) (fun s h=>by simp only[qF,if_true];exact h) (fun i s aA h=>by simp only[qF,if_neg aA];exact h)
theorem gL {id:Nat} (h:Q (.exit id) s):b3 C (.exit id) Q s:=h
theorem bo (h:Q .ret s):b3 C .ret Q s:=h
theorem bU (h:Q .normal s):b3 C .skip Q s:=h
def fE (C:bq) (b:ab) (Q:Exit→aj→Prop) (s:aj):Prop:=∀Z:aj→Prop,(∀aq,b3 C b (andThen (eD Z) Q) aq→Z aq)→Z s
theorem gM {b:ab} (h:eD (fE C b Q) s):b3 C (.loop b) Q s:=h
theorem KF {b:ab} (h:∀cX:Exit→aj→Prop,(∀s,eD (fE C b Q) s→cX .normal s)→(∀s,Q .ret s→cX .ret s)→(∀i s,Q (.exit i) s→cX (.exit i) s)→b3 C b cX s):fE C b Q s:=by
 intro Z qH
 refine qH s (Cq b ?_ (h (andThen (eD (fE C b Q)) Q) (fun _ h=>h) (fun _ h=>h) (fun _ _ h=>h)))
 intro e aq aQ
 cases e with
 |normal=>exact qG (fun s h=>h Z qH) aq aQ
 |_=>exact aQ
theorem b0 {cV:List (Nat×I)} (h:cV.map (·.2)=cV.map fun p=>s p.1):sZ s cV:=by
 intro p ak
 left
 induction cV with
 |nil=>cases ak
 |cons a cV ih=>
  simp only[List.map_cons,List.cons.injEq]at h
  rcases List.mem_cons.1 ak with rfl|ak
  ·exact h.1
  ·exact ih h.2 ak
end
section
variable {C:bq} {l:List (Nat×I)} {Q:Exit→aj→Prop} {s:aj} {os ros:List bm} {K:Option (List dz)→aj→Prop} {dst:Option Nat}
theorem Dg (l:List (Nat×I)):(∀n,az (J l) (.t n)=gp n (J l n))∧(∀av,az (J l) (.c av)=av)∧(∀g,az (J l) (.f g)= .fn g []):=⟨fun _=>rfl,fun _=>rfl,fun _=>rfl⟩
theorem Dh:(∀t,J [] t= .hole)∧(∀u d (l:List (Nat×I)) t,J ((u,d)::l) t=if t=u then d else J l t):=⟨fun _=>rfl,fun _ _ _ _=>rfl⟩
theorem Di (s:aj):gy [] s=[]∧(∀t k,gy (t::k) s=(t,s t)::gy k s):=⟨rfl,fun _ _=>rfl⟩
theorem Dj (s:aj):(∀d,bZ s (some d)=some (d,s))∧(∀s1,hj (some s1)=some (.hole,s1))∧gh s []=[]∧(∀x xs,gh s (x::xs)=az s x::gh s xs)∧hB s []=[]∧(∀k x xs,hB s ((k,x)::xs)=(k,az s x)::hB s xs)∧
  iJ s none=none∧(∀x,iJ s (some x)=some (az s x))∧(∀b x y,oj s (.bool b) x y=some (if b=true then x else y,s)):=
 ⟨fun _=>rfl,fun _=>rfl,rfl,fun _ _=>rfl,rfl,fun _ _ _=>rfl,rfl,fun _=>rfl,fun b _ _=>by cases b<;>rfl⟩
theorem Dk (C:bq):(∀e d,yE C (.slice e) (some d)=if(C.T e).ok=true∧d.wd=(C.T e).sz then some (.ref d)else none)∧
  (∀y q n e sz xs,s8 C y q n (.slice e) (some (.aK sz xs))=if(cF xs n).isSome=true∧(C.T e).ok=true∧sz=(C.T e).sz then some (.ak y (q++[n.toNat]))else none)∧
  (∀e s xs t,ra C (.slice e) s xs (some t)=if(C.T e).ok=true∧∀d∈xs,d.wd=(C.T e).sz then some (.slice t,s)else none):=
 ⟨fun _ _=>rfl,fun _ _ _ _ _ _=>rfl,fun _ _ _ _=>rfl⟩
theorem Dl:(∀b,yC .bool b=some (.bool b))∧(∀c,yD .str (some c)=some (.int .u8 c.toNat))∧(∀s t,q_ .str s (some t)=some (.str t,s))∧(∀q d,s9 q (some d)=I.sub q d):=
 ⟨fun _=>rfl,fun _=>rfl,fun _ _=>rfl,fun _ _=>rfl⟩
theorem Dm (sz bytes:Nat) (z:I):(∀k,ez.ok ⟨.int k,sz,bytes,z⟩=true)∧ez.ok ⟨.bool,sz,bytes,z⟩=true∧ez.ok ⟨.str,sz,bytes,z⟩=true∧(∀e,ez.ok ⟨.ptr e,sz,bytes,z⟩=true)∧(∀e,ez.ok ⟨.slice e,sz,bytes,z⟩=true)∧(∀e,ez.ok ⟨.struct e,sz,bytes,z⟩=true)∧ez.ok ⟨.fn,sz,bytes,z⟩=true:=by
 simp[ez.ok]
theorem Dn (sz bytes:Nat) (z:I):(∀k,ez.flat ⟨.int k,sz,bytes,z⟩=true)∧ez.flat ⟨.bool,sz,bytes,z⟩=true∧ez.flat ⟨.str,sz,bytes,z⟩=true∧(∀e,ez.flat ⟨.ptr e,sz,bytes,z⟩=true)∧(∀e,ez.flat ⟨.slice e,sz,bytes,z⟩=true)∧(∀e,ez.flat ⟨.struct e,sz,bytes,z⟩=false)∧ez.flat ⟨.fn,sz,bytes,z⟩=true:=by
 simp[ez.flat]
theorem ta (c:UInt8) (k:IntKind) (ar:k≠.i8):k.wrap (c.toNat:Int)=(c.toNat:Int):=by
 have:=c.toNat_lt
 cases k<;>first|(exact(ar rfl).elim)|(simp[IntKind.wrap,IntKind.bits,IntKind.signed];try omega)
theorem yH (c:UInt8):IntKind.i64.wrap (c.toNat:Int)=(c.toNat:Int)∧IntKind.u64.wrap (c.toNat:Int)=(c.toNat:Int)∧IntKind.u8.wrap (c.toNat:Int)=(c.toNat:Int)∧IntKind.i32.wrap (c.toNat:Int)=(c.toNat:Int)∧IntKind.u32.wrap (c.toNat:Int)=(c.toNat:Int):=
 ⟨ta c _ (by simp),ta c _ (by simp),ta c _ (by simp),ta c _ (by simp),ta c _ (by simp)⟩
theorem cI {k:List Nat} {K:aj→Prop} (cV:List (Nat×I)) (h:∀P:List (Nat×I)→Prop,P cV→bK C (J l) ros none (fun _ s=>P (gy k s))) (ar:K (J cV)):bK C (J l) ros none (fun _ s=>K (J (gy k s))):=
 h (fun l=>K (J l)) ar
theorem ny {k:List Nat} {j4:List (List Nat)} {K:aj→Prop} (cV:List (Nat×I)) (h:∀P:List (Nat×I)→Prop,P cV→bK C (J l) ros (some []) (fun acc s=>jA j4 0 [] (acc.getD []).reverse=true∧P (gy k s))) (ar:K (J cV)):
  bK C (J l) ros (some []) (fun acc s=>jA j4 0 [] (acc.getD []).reverse=true∧K (J (gy k s))):=
 h (fun l=>K (J l)) ar
theorem br.KG (aT:C.db) {f:FuncId} {fn:Func} {c:Code} {dD:ab} {fx:List Nat} {as outs:List I} {r:I} (bh:C.P.funcs[f]? =some fn) (R:fn.body=some c)
  (iI:(fn.name== "runtime.NumGoroutine")=false) (U:bV ⟨fn.ntmps,fx⟩ c=some dD.strip) (aW:as.length≤fn.ntmps)
  (h:∀Q:Exit→aj→Prop,(∀s,eD (Ends C fx fn.results.toList r outs) s→Q .ret s)→(∀s,eD (Ends C fx fn.results.toList r outs) s→Q .normal s)→b3 C dD Q (J (num 0 as))) (ak:dD.plain=true:=by kernel_rfl):br C f as r outs:=by
 refine br.of_wp aT bh R iI U aW ?_ ak
 rw[Cz]
 exact h _ (fun s h=>⟨.inr rfl,h⟩) (fun s h=>⟨.inl rfl,h⟩)
def Dp:List I→I
 |[d]=>d
 |ds=>.tuple ds
theorem k7 {fx:List Nat} {dK:List ResultVar} {r:I} {outs:List I} (ds:List I) (aa:dK.map (nv C s)=ds.map some) (ad:r=Dp ds) (aB:(dK.map gT).Nodup)
  (aO:∀(i:Nat) (o:I),outs[i]? =some o→o= .hole∨(o=s i∧o.et=true∧i∈fx∧i∉dK.map gT)):Ends C fx dK r outs s:=.inl ⟨ds,aa,by subst ad;cases ds with|nil=>rfl|cons a t=>cases t<;>rfl,aB,aO⟩
theorem KH {fx:List Nat} {dK:List ResultVar}:∀(i:Nat) (o:I),([]:List I)[i]? =some o→o= .hole∨(o=s i∧o.et=true∧i∈fx∧i∉dK.map gT):=fun i o h=>by simp at h
theorem Dq:∀(as ds:List I),(jx as ds).filter (·.g)=[]
 |[],_=>rfl
 |_::_,[]=>rfl
 |a::as,d::ds=>by simp only[jx,List.filter_cons];exact Dq as ds
theorem yI {f:ay} {args:List ay} {g:FuncId} {caps:List I} {K:List Nat→I→aj→Prop} (ds:List I) (r:I)
  (aa:az (J l) f= .fn g caps) (eJ:I.dW caps=true) (hb:views (J l) (gh (J l) args++caps)=some ds)
  (a6:br C g ds r []) (bp:r.res=true) (bB:I.cR (gh (J l) args++caps)=[]∨r.dc=true) (hd:K [] r (J l)):lN C (J l) (.call f args) K:=by
 obtain⟨aF,aI,aL,bX,b7,bs,bj⟩:=JW _ _ hb
 refine⟨g,caps,jx (gh (J l) args++caps) ds,r,aa,eJ,by rw[aF,u7],fun p ak=>(aL p ak).1,bX,by rw[aI];exact a6.outs b7.symm,bp,?_,by rw[bs,bj,Dq];exact hd⟩
 intro aJ
 refine⟨?_,fun p ak=>by rw[(aL p ak).2.2.1];rfl⟩
 rcases bB with bB|bB
 ·exfalso
  simp only[hM,List.any_eq_true]at aJ
  obtain⟨p,ak,e5⟩:=aJ
  have hm:=(aL p ak).2.2.2
  have:p.a.U=[]:=by
   have key:∀(as:List I) (a:I),a∈as→I.cR as=[]→a.U=[]:=by
    intro as
    induction as with
    |nil=>intro a h;cases h
    |cons b as ih=>
     intro a h he
     simp only[I.cR,List.append_eq_nil_iff]at he
     rcases List.mem_cons.1 h with rfl|h
     ·exact he.1
     ·exact ih a h he.2
   exact key _ _ hm bB
  rw[this]at e5;simp at e5
 ·exact bB
theorem gi {f:ay} {args:List ay} {g:FuncId} {caps:List I} {ds:List I} {r:I} (a6:br C g ds r [])
  (aa:az (J l) f= .fn g caps) (eJ:I.dW caps=true) (hb:views (J l) (gh (J l) args++caps)=some ds)
  (bp:r.res=true) (bB:I.cR (gh (J l) args++caps)=[]∨r.dc=true)
  (hd:bK C (fin (J l) dst r) os none K):bK C (J l) (⟨dst,.call f args,none⟩::os) none K:=by
 simp only[bK,ku,mu]
 exact yI ds r aa eJ hb a6 bp bB hd
theorem KI {a:List dz} {f:ay} {args:List ay} {g:FuncId} {caps:List I} {ds:List I} {r:I} (a6:br C g ds r [])
  (aa:az (J l) f= .fn g caps) (eJ:I.dW caps=true) (hb:views (J l) (gh (J l) args++caps)=some ds)
  (bp:r.res=true) (bB:I.cR (gh (J l) args++caps)=[]∨r.dc=true)
  (hd:bK C (fin (J l) dst r) os (some (gg (J l) (use (J l) (.call f args)) dst [] r::a)) K):bK C (J l) (⟨dst,.call f args,none⟩::os) (some a) K:=by
 simp only[bK,ku,mu]
 exact yI ds r aa eJ hb a6 bp bB hd
theorem pI {t:Nat} {b:Bool} {f:ay} {args:List ay} {g:FuncId} {caps:List I} {ds:List I} {r:I} (a6:br C g ds r [])
  (aa:az (J l) f= .fn g caps) (eJ:I.dW caps=true) (hb:views (J l) (gh (J l) args++caps)=some ds)
  (bp:r.res=true) (bB:I.cR (gh (J l) args++caps)=[]∨r.dc=true)
  (hd:bK C (fin (J l) dst r) os none K):bM C l dst (.call f args) t b os none K (.bool b):=by
 simp only[bM,if_true]
 exact yI ds r aa eJ hb a6 bp bB hd
theorem hP (s:aj):views s []=some []∧(∀d ds,views s (d::ds)=(match view s d,views s ds with|some a,some b=>some (a::b)|_,_=>none))∧
  (∀k n,view s (.int k n)=some (.int k n))∧(∀b,view s (.bool b)=some (.bool b))∧(∀x,view s (.str x)=some (.str x))∧(∀x,view s (.slice x)=some (.slice x))∧(∀x,view s (.ref x)=some (.ref x))∧
  view s .bH=some .bH∧view s .cn=some .cn∧(∀af,view s (.agg af)=some (.agg af))∧(∀f cap,view s (.fn f cap)=(views s cap).map (.fn f)):=by
 refine⟨rfl,fun d ds=> ?_,fun _ _=>rfl,fun _=>rfl,fun _=>rfl,fun _=>rfl,fun _=>rfl,rfl,rfl,fun _=>rfl,fun _ _=>by simp only[view]⟩
 simp only[views];rfl
theorem lP {α:Type} {u e:α→I} (h:∀x,(u x).share=e x) (xs:List α):I.shares (xs.map u)=xs.map e:=by
 rw[I.oZ];simp[h]
theorem KJ {α:Type} {u:α→I} (h:∀x,(u x).dc=true) (xs:List α):I.lF (xs.map u)=true:=by
 induction xs with
 |nil=>rfl
 |cons x xs ih=>simp only[List.map_cons,I.lF,h,ih,Bool.and_self]
def om (s:aj) (H:List Nat):List (Nat×I)→Prop
 |[]=>True
 |p::l=>(p.2=s p.1∨((s p.1).tree=true∧dy (s p.1) p.2∧p.1∉H))∧om s H l
theorem mv {cV:List (Nat×I)} (H:List Nat) (kt:I.cR (cV.map (·.2))=H) (h:om s H cV):sZ s cV:=by
 have key:∀(eV:List (Nat×I)),om s H eV→∀p∈eV,p.2=s p.1∨((s p.1).tree=true∧dy (s p.1) p.2∧p.1∉H):=by
  intro eV
  induction eV with
  |nil=>intro _ p ak;cases ak
  |cons a eV ih=>
   intro h p ak
   rcases List.mem_cons.1 ak with rfl|ak
   ·exact h.1
   ·exact ih h.2 p ak
 have U:∀(eV:List (Nat×I)),∀bO∈eV,∀u∈bO.2.U,u∈I.cR (eV.map (·.2)):=by
  intro eV
  induction eV with
  |nil=>intro p ak;cases ak
  |cons a eV ih=>
   intro p ak u hu
   simp only[List.map_cons,I.cR,List.mem_append]
   rcases List.mem_cons.1 ak with rfl|ak
   ·exact .inl hu
   ·exact .inr (ih p ak u hu)
 intro p ak
 rcases key _ h p ak with aa|⟨aa,ad,aB⟩
 ·exact .inl aa
 ·refine .inr ⟨aa,ad,fun bO cW=>.inl fun hm=>aB ?_⟩
  rw[←kt];exact U cV bO cW _ hm
theorem mw {H:List Nat}:om s H []:=trivial
theorem j5 {H:List Nat} {t:Nat} {d:I} {cV:List (Nat×I)} (h:d=s t) (aJ:om s H cV):om s H ((t,d)::cV):=⟨.inl h,aJ⟩
theorem mx {H:List Nat} {t:Nat} {d aV:I} {cV:List (Nat×I)} (e:s t=d) (aN:d.tree=true) (ae:dy d aV) (kt:t∉H) (aJ:om s H cV):om s H ((t,aV)::cV):=⟨.inr ⟨by rw[e];exact aN,by rw[e];exact ae,kt⟩,aJ⟩
end
theorem Dr {C:bq} {A B:TypeId} {cy:IntKind} (er:(C.T A).ok=true) (fo:(C.T B).k= .int cy):∀s k n,eP C s A B (.int k n)=some (.int cy (cy.wrap n)):=fun s k n=>KB C s A B k cy n er fo
theorem oo {α:Type} {e:α→I} {n:Nat} (h:∀x,(e x).wd=n):∀xs:List α,(∀d∈xs.map e,d.wd=n)=True:=KA h
theorem all_cons {P:I→Prop} (d:I) (ds:List I):(∀x∈d::ds,P x)=(P d∧∀x∈ds,P x):=by simp
theorem all_nil {P:I→Prop}:(∀x∈([]:List I),P x)=True:=by simp
def Ds (a b:List UInt8):Option Unit→Option I
 |some _=>some (.str (a++b))
 |none=>none
theorem yJ (a b:List UInt8):km .add a b=Ds a b (oX (a.length+b.length)):=by
 simp only[km,oX];split<;>rfl
theorem yK (a b:List UInt8) (u:Unit):Ds a b (some u)=some (.str (a++b)):=rfl
theorem Dt:(∀l:List Nat,[]++l=l)∧(∀a (l m:List Nat),(a::l)++m=a::(l++m)):=⟨fun _=>rfl,fun _ _ _=>rfl⟩
def Du (C:bq) (e a8:TypeId):Bool:=(C.T e).ok&&((C.T e).zero.wd==(C.T e).sz)&&(flat (C.T e).zero).isSome&&uF C e a8
def u9 (C:bq) (e:TypeId) (xs:List I):Option (List I×aj)→Option (I×aj)
 |some (bD,s2)=>if(∀d∈bD,d.wd=(C.T e).sz)∧(room (C.T e).bytes (xs.length+bD.length)).isSome=true then some (.aK (C.T e).sz (xs++bD),s2)else none
 |none=>none
def yL (C:bq) (e:TypeId) (y:I) (o:Option Nat):Option (I×aj)→Option (I×aj)
 |some (.aK sz xs,s1)=>if sz=(C.T e).sz then u9 C e xs (iE s1 (h1 o y))else none
 |_=>none
theorem KK (b n:Nat):(room b n).isSome=true↔n*b≤140737488355328∧n≤9223372036854775807:=by unfold room;split<;>simp_all
theorem oq {C:bq} {T a8 e:TypeId} (iW:(C.T T).k= .slice e) (eR:Du C e a8=true):∀s x y,jt C s T a8 x y=yL C e y x.owner (mj C e s x):=by
 intro s x y
 simp only[Du,Bool.and_eq_true,beq_iff_eq]at eR
 rw[xW,iW]
 simp only
 rw[if_pos ⟨eR.1.1.1,eR.1.1.2,eR.1.2,eR.2⟩]
 generalize x.owner=o
 cases mj C e s x with
 |none=>rfl
 |some p=>
  obtain⟨d,s1⟩:=p
  cases d<;>first
   |rfl
   |(simp only[yL]
     split
     ·rename_i h;subst h
      generalize iE s1 (h1 o y)=z
      cases z with
      |none=>rfl
      |some p=>simp only[u9,KK]
     ·rfl)
def Dv:Option (I×aj)→Option (List I×aj)
 |some (.aK _ bD,s2)=>some (bD,s2)
 |_=>none
theorem ot (s:aj):iE s .bH=some ([],s)∧(∀bD,iE s (.slice bD)=some (bD,s))∧(∀l,iE s (.str l)=some (l.map kO,s))∧
  (∀a q,iE s (.h a q)=Dv (bR s (.h a q)))∧(∀n bD,Dv (some (.aK n bD,s))=some (bD,s)):=
 ⟨rfl,fun _=>rfl,fun _=>rfl,fun _ _=>by simp only[iE];rfl,fun _ _=>rfl⟩
theorem ou (C:bq) (e:TypeId):(∀s,mj C e s .bH=some (.aK (C.T e).sz [],s))∧(∀s a q,mj C e s (.h a q)=bR s (.h a q))∧
  (∀y o sz xs s1,yL C e y o (some (.aK sz xs,s1))=if sz=(C.T e).sz then u9 C e xs (iE s1 (h1 o y))else none)∧
  (∀xs bD s2,u9 C e xs (some (bD,s2))=if(∀d∈bD,d.wd=(C.T e).sz)∧(room (C.T e).bytes (xs.length+bD.length)).isSome=true then some (.aK (C.T e).sz (xs++bD),s2)else none):=
 ⟨fun _=>rfl,fun _ _ _=>rfl,fun _ _ _ _ _=>rfl,fun _ _ _=>rfl⟩
theorem ov:(∀d,h1 none d=d)∧(∀x d,h1 (some x) d=bn x d)∧(∀x q,I.owner (.h x q)=some x)∧I.owner .bH=none:=
 ⟨fun _=>rfl,fun _ _=>rfl,fun _ _=>rfl,rfl⟩
def Dw (s:aj) (x:Nat) (q:List Nat):Option I→Option (I×aj)
 |some d=>if d.plain=true then none else some (d,cg (fz x s) x (I.put q d.b6 (s x)))
 |none=>none
theorem Dx (s:aj) (x:Nat) (q:List Nat):bR s (.h x q)=Dw s x q (I.sub q (s x)):=by
 simp only[bR];cases I.sub q (s x)<;>rfl
theorem Dy (s:aj):(∀x q d,Dw s x q (some d)=if d.plain=true then none else some (d,cg (fz x s) x (I.put q d.b6 (s x))))∧(∀k n,bR s (.int k n)=some (.int k n,s))∧(∀b,bR s (.bool b)=some (.bool b,s))∧(∀x,bR s (.str x)=some (.str x,s))∧
  (∀x,bR s (.slice x)=some (.slice x,s))∧(∀x,bR s (.ref x)=some (.ref x,s))∧(∀x,bR s (.agg x)=some (.agg x,s))∧bR s .bH=some (.bH,s)∧bR s .cn=some (.cn,s):=
 ⟨fun _ _ _=>rfl,fun _ _=>rfl,fun _=>rfl,fun _=>rfl,fun _=>rfl,fun _=>rfl,fun _=>rfl,rfl,rfl⟩
theorem Dz (l:List (Nat×I)) (t:Nat) (d:I):cg (J l) t d=J ((t,d)::l):=h7 l t d
theorem DA:(∀n x,I.b6 (.aK n x)= .hole)∧(∀x,I.b6 (.a1 x)= .hole)∧(∀af,I.b6 (.agg af)= .agg (I.iu af))∧(∀af,I.b6 (.tuple af)= .tuple (I.iu af))∧I.iu []=[]∧(∀d ds,I.iu (d::ds)=d.b6::I.iu ds)∧
  (∀k n,I.b6 (.int k n)= .int k n)∧(∀b,I.b6 (.bool b)= .bool b)∧(∀x,I.b6 (.str x)= .str x)∧(∀x,I.b6 (.slice x)= .slice x)∧(∀x,I.b6 (.ref x)= .ref x)∧I.b6 .bH= .bH∧I.b6 .cn= .cn∧I.b6 .hole= .hole:=by
 simp[I.b6,I.iu]
def pJ:Option I→Option I
 |some d=>(match d with| .tuple _=>none| .cA _=>none|d=>if d.plain=true then none else some d.share)
 |none=>none
def pK:Option I→Option I
 |some d=>(match d with| .tuple _=>none|d=>some (.ref d.share))
 |none=>none
theorem hQ (s:aj) (x:Nat) (q:List Nat):view s (.h x q)=pJ (I.sub q (s x))∧view s (.ak x q)=(if I.dC q (s x)=true then pK (I.sub q (s x))else none):=by
 constructor
 ·simp only[view];rfl
 ·simp only[view];rfl
theorem hR:(∀n xs,pJ (some (.aK n xs))=some (.slice (I.shares xs)))∧(∀d,pJ (some (.a1 d))=some (.ref d.share))∧(∀af,pJ (some (.agg af))=if I.dW af=true then none else some (.agg (I.shares af)))∧
  (∀af,pK (some (.agg af))=some (.ref (.agg (I.shares af))))∧(∀k n,pK (some (.int k n))=some (.ref (.int k n)))∧(∀x,pK (some (.str x))=some (.ref (.str x))):=
 ⟨fun _ _=>by simp[pJ,I.plain,I.share],fun _=>by simp[pJ,I.plain,I.share],fun af=>by cases h:I.dW af<;>simp[pJ,I.plain,I.share,h],fun _=>by simp[pK,I.share],fun _ _=>by simp[pK,I.share],fun _=>by simp[pK,I.share]⟩
theorem hk:(∀n xs,I.share (.aK n xs)= .slice (I.shares xs))∧(∀d,I.share (.a1 d)= .ref d.share)∧(∀xs,I.share (.slice xs)= .slice (I.shares xs))∧(∀d,I.share (.ref d)= .ref d.share)∧(∀af,I.share (.agg af)= .agg (I.shares af))∧(∀af,I.share (.tuple af)= .tuple (I.shares af))∧
  (∀k n,I.share (.int k n)= .int k n)∧(∀b,I.share (.bool b)= .bool b)∧(∀x,I.share (.str x)= .str x)∧I.share .bH= .bH∧I.share .cn= .cn∧I.shares []=[]∧(∀d ds,I.shares (d::ds)=d.share::I.shares ds):=by
 simp[I.share,I.shares]
theorem lQ:(∀k n,I.owner (.int k n)=none)∧(∀b,I.owner (.bool b)=none)∧(∀x,I.owner (.str x)=none)∧(∀x,I.owner (.slice x)=none)∧(∀x,I.owner (.ref x)=none)∧(∀x,I.owner (.agg x)=none)∧I.owner .cn=none∧I.owner .bH=none∧(∀x q,I.owner (.h x q)=some x):=
 ⟨fun _ _=>rfl,fun _=>rfl,fun _=>rfl,fun _=>rfl,fun _=>rfl,fun _=>rfl,rfl,rfl,fun _ _=>rfl⟩
end Go.b9
