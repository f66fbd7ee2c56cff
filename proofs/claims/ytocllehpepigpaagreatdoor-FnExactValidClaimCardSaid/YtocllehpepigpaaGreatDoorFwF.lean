/- Part of a proof that a law returns true for every input. No condition. -/
import Derived.Test.YtocllehpepigpaaGreatDoorFwE
import Derived.Orders
import Derived.KernelRfl
import Derived.Test.YtocllehpepigpaaGreatDoorFwA
namespace Go.cI
section
variable {C:bS} {w0 w:World} {F0 X:Nat→Prop} {n:Fr} {ρ:Nat→Value} {s s1:an} {a:Act} {av:I} {Q:Exit→Act→World→Prop}
def bO.un (o:bO):bO:=⟨o.dst,o.bA.base,o.guard⟩
theorem BL {ops:Array Oper}:∀{os:List Oper} {rs:List bO},oM n ops os=some rs→os.length=rs.length∧∀(i:Nat) (o:Oper),os[i]? =some o→∃r,rs[i]? =some r∧oL n ops o=some r:=by
 intro os
 induction os with
 |nil=>intro rs h;simp only[oM,Option.some.injEq]at h;subst h;exact⟨rfl,fun i o h=>by simp at h⟩
 |cons o os ih=>
  intro rs h
  simp only[oM]at h
  split at h
  ·rename_i r al2 ad ag
   simp only[Option.some.injEq]at h;subst h
   obtain⟨bV,b7⟩:=ih ag
   refine⟨by simp[bV],fun i mK cd=> ?_⟩
   cases i with
   |zero=>simp at cd;subst cd;exact⟨r,rfl,ad⟩
   |succ i=>simpa using b7 i mK (by simpa using cd)
  ·cases h
theorem BM {o:Oper} {y:Nat→Option Bool} (h:o.guard=none):Region.wanted o y=true:=by simp[Region.wanted,h]
theorem Nx (h:Rel w0 F0 X n ρ s a w) {ops:Array Oper} {j t:Nat} (b6:(ops[j]?).bind (·.dst)=some t):
  (∀b,s t= .bool b→yielded ops a.tmps j=some b)∧(s t= .tuple []→yielded ops a.tmps j=none):=by
 obtain⟨ah,aa,br,F,S,aH⟩:=h
 have iI:=aH.cN t
 refine⟨fun b U=> ?_,fun U=> ?_⟩
 ·rw[U]at iI
  have aI:=pY iI
  simp only[yielded,b6,Option.bind_some]
  rw[Array.getD_eq_getD_getElem?]at aI
  cases hg:a.tmps[t]? with
  |none=>rw[hg]at aI;simp[undef]at aI
  |some v=>rw[hg]at aI;simp at aI;subst aI;rfl
 ·rw[U]at iI
  obtain⟨⟨arr,ad,ag⟩,_⟩:=(aB.b9 (d:=.tuple []) rfl).1 iI
  simp only[yielded,b6,Option.bind_some]
  rw[Array.getD_eq_getD_getElem?]at ad
  cases hg:a.tmps[t]? with
  |none=>rfl
  |some v=>rw[hg]at ad;simp at ad;subst ad;rfl
theorem BN (bc:C.en) {ops:Array Oper} {ros:List bO} {l2:List Nat} {K:an→Prop} (aV:∀aw cz aA,K aw→Rel w0 F0 X n ρ aw cz aA→wpOps C.P ops Q l2 cz aA):
  ∀(l:List Nat),(∀i∈l,(ops[i]? =none→ros[i]? =none)∧∀o,ops[i]? =some o→∃r,ros[i]? =some r∧oL n ops o=some r.un)→
  ∀(s:an) (a:Act) (w:World),jv C ros s l K→Rel w0 F0 X n ρ s a w→wpOps C.P ops Q (l++l2) a w:=by
 intro l
 induction l with
 |nil=>intro _ s a w h aH;exact aV s a w h aH
 |cons i l ih=>
  intro qb s a w h aH
  replace ih:=ih fun i ay=>qb i (List.mem_cons_of_mem _ ay)
  rw[List.cons_append]
  simp only[wpOps]
  cases cd:ops[i]? with
  |none=>
   simp only[jv,(qb i (by simp)).1 cd]at h
   exact ih s a w h aH
  |some o=>
   obtain⟨r,ad,ag⟩:=(qb i (by simp)).2 o cd
   simp only[jv,ad]at h
   show(if Region.wanted o (yielded ops a.tmps)=true then o.wp C.P a w (wpOps C.P ops Q (l++l2)) Q∨(o.asks C.P a w∧LetsOut Q)else wpOps C.P ops Q (l++l2) (a.put o.dst undef) w)
   simp only[oL]at ag
   split at ag
   ·rename_i xy
    split at ag
    ·rename_i g hg
     obtain⟨rd,bA,rg⟩:=r
     simp only[bO.un,Option.some.injEq,bO.mk.injEq]at ag
     obtain⟨rfl,b1,rfl⟩:=ag
     simp only[lj]at h
     have run:∀(cV:an→Prop),(∀aw,cV aw→jv C ros aw l K)→nq C s bA (fun av s1=>cV (fin s1 o.dst av))→o.wp C.P a w (wpOps C.P ops Q (l++l2)) Q:=
      fun cV n7 hw=>Nu bc aH b1 xy hw (fun aw cz aA ax dV=>ih aw cz aA (n7 aw ax) dV)
     cases sF:o.guard with
     |none=>
      rw[sF]at hg
      simp only[u2,Option.some.injEq]at hg;subst hg
      simp only at h
      rw[if_pos (BM sF)]
      exact .inl (run _ (fun _ h=>h) h)
     |some BO=>
      obtain⟨j,b⟩:=BO
      rw[sF]at hg
      simp only[u2]at hg
      split at hg
      ·rename_i t aY
       simp only[Option.some.injEq]at hg;subst hg
       simp only at h
       obtain⟨fB,hx⟩:=Nx aH aY
       have FL:∀(cV:jv C ros (fin s o.dst (.tuple [])) l K),wpOps C.P ops Q (l++l2) (a.put o.dst undef) w:=fun cV=>ih _ _ _ cV (Rel.skip aH xy)
       split at h
       ·rename_i e8 aa
        have hy:=fB e8 aa
        split at h
        ·rename_i U;subst U
         rw[if_pos (by simp[Region.wanted,sF,hy])]
         exact .inl (run _ (fun _ h=>h) h)
        ·rename_i U
         rw[if_neg (by simp[Region.wanted,sF,hy,U])]
         exact FL h
       ·rename_i aa
        have hy:=hx aa
        rw[if_neg (by simp[Region.wanted,sF,hy])]
        exact FL h
       ·exact h.elim
      ·cases hg
    ·cases ag
   ·cases ag
theorem FM (bc:C.en) {ops:Array Oper} {ros:List bO} (qc:oM n ops ops.toList=some (ros.map bO.un)) {K:an→Prop} (aV:∀aw cz aA,K aw→Rel w0 F0 X n ρ aw cz aA→Q .normal cz aA):
  ∀(l:List Nat) (s:an) (a:Act) (w:World),jv C ros s l K→Rel w0 F0 X n ρ s a w→wpOps C.P ops Q l a w:=by
 obtain⟨aO,qb⟩:=BL qc
 intro l s a w h aH
 have:=BN (Q:=Q) bc (ros:=ros) (ops:=ops) (l2:=[]) (K:=K) (n:=n) (ρ:=ρ) (w0:=w0) (F0:=F0) (X:=X) (fun aw cz aA ax dV=>aV aw cz aA ax dV) l (fun i _=>⟨fun cd=>by
   rw[List.getElem?_eq_none_iff,←List.length_map (f:=bO.un),←aO]
   have:=Array.getElem?_eq_none_iff.1 cd
   simpa using this,fun o cd=>by
   obtain⟨az,hn,ag⟩:=qb i o (by simpa using cd)
   obtain⟨r,ad,rfl⟩:∃r,ros[i]? =some r∧r.un=az:=by simpa using hn
   exact⟨r,ad,ag⟩⟩) s a w h aH
 rwa [List.append_nil]at this
theorem Rel.drawn (h:Rel w0 F0 X n ρ s a w) (k:Nat) (ax:w.drawn≤k):Rel w0 F0 X n ρ s a {w with drawn:=k}:=by
 obtain⟨ad,ag,br,F,S,aF⟩:=h
 exact⟨ad,ag,br,F,S,aF.grow (fun _ _=>rfl) (Nat.le_refl _) rfl rfl ⟨rfl,fun _=>ax⟩⟩
theorem Ny (bc:C.en) {id:Nat} {ops:Array Oper} {ros:List bO} (qc:oM n ops ops.toList=some (ros.map bO.un)) {K:an→Prop} (aV:∀aw cz aA,K aw→Rel w0 F0 X n ρ aw cz aA→Q .normal cz aA)
  (h:kS C s ros K) (aH:Rel w0 F0 X n ρ s a w):(Code.region id ops false).wp C.P Q a w:=by
 refine wp_region (FM bc qc aV _ s a w ?_ aH)
 have:=M_ C K ros [] s h
 have aO:=(BL qc).1
 simp only[List.nil_append,List.length_nil,Nat.add_zero,List.map_id']at this
 rw[List.length_map]at aO
 rw[←aO]at this
 simpa using this
end
def BP (n8:List (List Nat)) (l:List Nat):Prop:=
 l.Nodup∧(∀i,i∈l↔i<n8.length)∧∀u i v,l=u++i::v→∀e∈(n8[i]?).getD [],e∈u
def nr (ops:Array Oper):List (List Nat):=ops.toList.map fun o=>(o.after.toList.filter fun e=>Region.binds .any e).map (·.on)
def u6 (n8:List (List Nat)):Bool:=n8.zipIdx.all fun p=>p.1.all fun e=>decide (e<p.2)
theorem Nz {n8:List (List Nat)} (h:u6 n8=true) {i:Nat} {l:List Nat} (ay:n8[i]? =some l):∀e∈l,e<i:=by
 intro e he
 simp only[u6,List.all_eq_true]at h
 have:=h (l,i) (by rw[List.mem_zipIdx_iff_getElem?];exact ay) e he
 simpa using this
theorem NA {ops:Array Oper} (U:u6 (nr ops)=true):∀(fuel t:Nat) (listed:Array Bool),listed.size=ops.size→((List.range ops.size).filter fun i=> !listed.getD i true).length≤fuel→
  (Region.linearise.go .any ops fuel t listed []).Nodup∧(∀i,i∈Region.linearise.go .any ops fuel t listed []↔(i<ops.size∧listed.getD i true=false))∧
   ∀u i v,Region.linearise.go .any ops fuel t listed []=u++i::v→∀e∈((nr ops)[i]?).getD [],listed.getD e false=true∨e∈u:=by
 intro fuel
 induction fuel with
 |zero=>
  intro t listed aa aO
  have uP:((List.range ops.size).filter fun i=> !listed.getD i true)=[]:=List.length_eq_zero_iff.1 (Nat.le_zero.1 aO)
  refine⟨by simp[Region.linearise.go],fun i=> ?_,fun u i v h=>by simp[Region.linearise.go]at h⟩
  simp only[Region.linearise.go,List.reverse_nil,List.not_mem_nil,false_iff,not_and]
  intro ay br
  have:i∈((List.range ops.size).filter fun i=> !listed.getD i true):=List.mem_filter.2 ⟨List.mem_range.2 ay,by rw[br];rfl⟩
  rw[uP]at this;cases this
 |succ fuel ih=>
  intro t listed aa aO
  have FN:∀i,i∈Region.ready .any ops listed↔(i<ops.size∧listed.getD i true=false∧∀e∈((nr ops)[i]?).getD [],listed.getD e false=true):=by
   intro i
   simp only[Region.ready,List.mem_filter,List.mem_range,Bool.and_eq_true,Bool.not_eq_true']
   constructor
   ·rintro⟨ad,ag,aF⟩
    refine⟨ad,ag,?_⟩
    rw[Array.getElem?_eq_getElem ad]at aF
    simp only[Option.map_some,Option.getD_some,Array.all_eq_true_iff_forall_mem]at aF
    simp only[nr,List.getElem?_map,Array.getElem?_toList,Array.getElem?_eq_getElem ad,Option.map_some,Option.getD_some,List.mem_map,List.mem_filter]
    rintro e ⟨x,⟨ai,rb⟩,rfl⟩
    have:=aF x (by simpa using ai)
    simpa [rb]using this
   ·rintro⟨ad,ag,aF⟩
    refine⟨ad,ag,?_⟩
    rw[Array.getElem?_eq_getElem ad]
    simp only[Option.map_some,Option.getD_some,Array.all_eq_true_iff_forall_mem]
    simp only[nr,List.getElem?_map,Array.getElem?_toList,Array.getElem?_eq_getElem ad,Option.map_some,Option.getD_some,List.mem_map,List.mem_filter]at aF
    intro x ai
    cases rb:Region.binds .any x with
    |false=>simp
    |true=>simpa using aF x.on ⟨x,⟨by simpa using ai,rb⟩,rfl⟩
  have hex:(∃i,i<ops.size∧listed.getD i true=false)→Region.ready .any ops listed≠[]:=by
   rintro⟨i,ad,ag⟩
   have:∃i,(i<ops.size∧listed.getD i true=false)∧∀j,j<i→¬(j<ops.size∧listed.getD j true=false):=by
    induction i using Nat.strongRecOn with
    |_ i NB=>
     by_cases b6:∃j,j<i∧(j<ops.size∧listed.getD j true=false)
     ·obtain⟨j,NC,ND,NF⟩:=b6
      exact NB j NC ND NF
     ·exact⟨i,⟨ad,ag⟩,fun j NG aj=>b6 ⟨j,NG,aj⟩⟩
   obtain⟨k,⟨bV,b7⟩,eh⟩:=this
   have:k∈Region.ready .any ops listed:=(FN k).2 ⟨bV,b7,fun e he=>by
    cases cb:(nr ops)[k]? with
    |none=>rw[cb]at he;simp at he
    |some l=>
     rw[cb]at he
     have d_:=Nz U cb e he
     have:=eh e d_
     rw[not_and]at this
     have:=this (by omega)
     have u7:e<listed.size:=by omega
     simp only[Array.getD_eq_getD_getElem?,Array.getElem?_eq_getElem u7,Option.getD_some]at this⊢
     simpa using this⟩
   intro e;rw[e]at this;cases this
  have FO:Region.linearise.go .any ops (fuel+1) t listed []=(match(Region.ready .any ops listed)[t%(Region.ready .any ops listed).length]? with
   |some i=>Region.linearise.go .any ops fuel (t/(Region.ready .any ops listed).length) (listed.setIfInBounds i true) [i]
   |none=>[]):=rfl
  cases u9:(Region.ready .any ops listed)[t%(Region.ready .any ops listed).length]? with
  |none=>
   have uP:Region.ready .any ops listed=[]:=by
    cases aH:Region.ready .any ops listed with
    |nil=>rfl
    |cons a l=>
     rw[aH]at u9
     have:=List.getElem?_eq_none_iff.1 u9
     have ag:=Nat.mod_lt t (show 0<(a::l).length by simp)
     omega
   rw[FO,u9]
   refine⟨by simp,fun i=> ?_,fun u i v h=>by simp at h⟩
   simp only[List.not_mem_nil,false_iff]
   intro ay
   exact hex ⟨i,ay⟩ uP
  |some i=>
   have ay:=(FN i).1 (List.mem_of_getElem? u9)
   obtain⟨u_,oP,NH⟩:=ay
   rw[FO,u9]
   simp only
   rw[linearise_go_acc]
   simp only[List.reverse_singleton,List.singleton_append]
   have pX:∀j d,(listed.setIfInBounds i true).getD j d=if j=i then true else listed.getD j d:=by
    intro j d
    split
    ·rename_i e;subst e
     simp[Array.getD_eq_getD_getElem?,Array.getElem?_setIfInBounds_self_of_lt (show j<listed.size by omega)]
    ·rename_i e
     simp[Array.getD_eq_getD_getElem?,Array.getElem?_setIfInBounds_ne (fun h=>e h.symm)]
   obtain⟨g1,g2,g3⟩:=ih (t/(Region.ready .any ops listed).length) (listed.setIfInBounds i true) (by simpa using aa) (by
    have eE:((List.range ops.size).filter fun j=> !(listed.setIfInBounds i true).getD j true)=((List.range ops.size).filter fun i=> !listed.getD i true).filter fun j=>decide (j≠i):=by
     rw[List.filter_filter]
     apply List.filter_congr
     intro j _
     rw[pX]
     by_cases e:j=i<;>simp[e]
    rw[eE]
    have d_:(((List.range ops.size).filter fun i=> !listed.getD i true).filter fun j=>decide (j≠i)).length<((List.range ops.size).filter fun i=> !listed.getD i true).length:=by
     rw[List.length_filter_lt_length_iff_exists]
     exact⟨i,List.mem_filter.2 ⟨List.mem_range.2 u_,by rw[oP];rfl⟩,by simp⟩
    omega)
   refine⟨?_,fun j=> ?_,?_⟩
   ·rw[List.nodup_cons]
    refine⟨fun hm=> ?_,g1⟩
    have:=((g2 i).1 hm).2
    rw[pX,if_pos rfl]at this;cases this
   ·rw[List.mem_cons,g2,pX]
    by_cases e:j=i
    ·subst e;simp[u_,oP]
    ·simp[e]
   ·intro u j v h e he
    cases u with
    |nil=>
     simp only[List.nil_append,List.cons.injEq]at h
     obtain⟨rfl,rfl⟩:=h
     exact .inl (NH e he)
    |cons xz u=>
     simp only[List.cons_append,List.cons.injEq]at h
     obtain⟨rfl,h⟩:=h
     rcases g3 u j v h e he with bb|bb
     ·rw[pX]at bb
      split at bb
      ·rename_i fQ;subst fQ;exact .inr (by simp)
      ·exact .inl bb
     ·exact .inr (by simp[bb])
theorem NI {ops:Array Oper} (U:u6 (nr ops)=true) (t:Nat):BP (nr ops) (Region.linearise .any ops t):=by
 have FP:∀i d,i<ops.size→(Array.replicate ops.size false).getD i d=false:=by
  intro i d ay
  simp[Array.getD_eq_getD_getElem?,ay]
 obtain⟨g1,g2,g3⟩:=NA U ops.size t (Array.replicate ops.size false) (by simp) (by
  have:=List.length_filter_le (fun i=> !(Array.replicate ops.size false).getD i true) (List.range ops.size)
  simpa using this)
 have hlen:(nr ops).length=ops.size:=by simp[nr]
 refine⟨g1,fun i=> ?_,fun u i v h e he=> ?_⟩
 ·rw[hlen]
  rw[show Region.linearise .any ops t=Region.linearise.go .any ops ops.size t (Array.replicate ops.size false) []from rfl,g2]
  exact⟨fun h=>h.1,fun h=>⟨h,FP i true h⟩⟩
 ·rcases g3 u i v h e he with bb|bb
  ·exfalso
   by_cases FQ:e<ops.size
   ·rw[FP e false FQ]at bb;cases bb
   ·simp[Array.getD_eq_getD_getElem?,FQ]at bb
  ·exact bb
def R:List (Nat×I)→an
 |[],_=>.hole
 |(u,d)::l,t=>if t=u then d else R l t
mutual
inductive eA:I→I→Prop
 |refl (d:I):eA d d
 |jw (sz:Nat):eA .bk (.aL sz [])
 |sG:eA .bk (.slice [])
 |any (b:Bool):eA (.bool b) .et
 |share (d:I):d.tree=true→(∀vs,d≠.tuple vs)→(∀o,d≠.dq o)→eA d d.share
 |agg {ds es:List I}:jU ds es→eA (.agg ds) (.agg es)
 |bM {d e:I}:eA d e→eA (.bM d) (.bM e)
 |aL {sz:Nat} {ds es:List I}:jU ds es→eA (.aL sz ds) (.aL sz es)
 |tuple {ds es:List I}:jU ds es→eA (.tuple ds) (.tuple es)
 |ref {d e:I}:eA d e→eA (.ref d) (.ref e)
 |trans {d e f:I}:eA d e→eA e f→eA d f
inductive jU:List I→List I→Prop
 |nil:jU [] []
 |cons {d e:I} {ds es:List I}:eA d e→jU ds es→jU (d::ds) (e::es)
end
mutual
theorem eA.wd:∀{d e:I},eA d e→e.wd=d.wd
 |_,_,.refl _=>rfl
 |_,_,.jw _=>rfl
 |_,_,.sG=>rfl
 |_,_,.any _=>rfl
 |_,_,.share d _ _ _=>I.w1 d
 |_,_,.agg h=>by simp only[I.wd];exact jU.wd h
 |_,_,.bM _=>rfl
 |_,_,.aL _=>rfl
 |_,_,.tuple h=>by simp only[I.wd];exact jU.wd h
 |_,_,.ref _=>rfl
 |_,_,.trans h k=>(eA.wd k).trans (eA.wd h)
theorem jU.wd:∀{ds es:List I},jU ds es→I.dD es=I.dD ds
 |_,_,.nil=>rfl
 |_,_,.cons h aa=>by simp only[I.dD];rw[eA.wd h,jU.wd aa]
end
theorem jU.len {ds es:List I} (h:jU ds es):es.length=ds.length:=by
 induction ds generalizing es with
 |nil=>cases h;rfl
 |cons d ds ih=>cases h with|cons h aa=>simp[ih aa]
theorem jU.all {sz:Nat} {ds es:List I} (h:jU ds es) (ah:∀d∈ds,d.wd=sz):∀d∈es,d.wd=sz:=by
 induction ds generalizing es with
 |nil=>cases h;intro d ah;cases ah
 |cons d ds ih=>
  cases h with
  |cons h aa=>
   intro x ai
   rcases List.mem_cons.1 ai with rfl|ai
   ·rw[h.wd];exact ah d (by simp)
   ·exact ih aa (fun d hm=>ah d (by simp[hm])) x ai
section
variable {w0 w:World} {F0 X F:Nat→Prop} {S:Nat→Nat→Prop} {s aw:an} {au:Nat→Value}
def NJ (w:World) (F:Nat→Prop) (_d e:I) (cs:List Value) (S:Nat→Prop):Prop:=
 ∃hF hG:Nat→Prop,(∀b,hF b→S b)∧(∀b,hG b→S b)∧(∀b,hG b→¬hF b)∧∀bC,(∀b,F b∨hF b→bC b)→ak w bC e cs hG
mutual
theorem ak.wider:∀{d e:I},eA d e→∀{F:Nat→Prop} {cs:List Value} {S:Nat→Prop},ak w F d cs S→NJ w F d e cs S
 |_,_,.refl _,F,cs,S,h=>⟨fun _=>False,S,fun _ h=>h.elim,fun _ h=>h,fun _ _ h=>h,fun bC bl=>ak.mono (fun b U=>bl b (.inl U)) _ _ _ _ (fun _ h=>h) h⟩
 | .bk,_,.jw sz,F,cs,S,h=>⟨fun _=>False,S,fun _ h=>h.elim,fun _ h=>h,fun _ _ h=>h,fun bC bl=>by simp only[ak]at h⊢;exact .inl ⟨trivial,_,h⟩⟩
 | .bk,_,.sG,F,cs,S,h=>⟨fun _=>False,S,fun _ h=>h.elim,fun _ h=>h,fun _ _ h=>h,fun bC bl=>by simp only[ak]at h⊢;exact .inl ⟨trivial,none,0,h,Nat.zero_le _,fun _=>rfl⟩⟩
 | .bool _,_,.any b,F,cs,S,h=>⟨fun _=>False,S,fun _ h=>h.elim,fun _ h=>h,fun _ _ h=>h,fun bC bl=>by simp only[ak]at h⊢;exact⟨b,h⟩⟩
 |_,_,.share d _ _ _,F,cs,S,h=>⟨S,fun _=>False,fun _ h=>h,fun _ h=>h.elim,fun _ h=>h.elim,fun bC bl=>ak.shared (fun b U=>bl b (.inl U)) d cs S (fun b U=>bl b (.inr U)) h⟩
 |_,_,.agg iR,F,cs,S,h=>by
  rw[ak]at h
  obtain⟨hF,hG,ad,ag,aF,a8⟩:=aW.wider iR h
  exact⟨hF,hG,ad,ag,aF,fun bC bl=>by rw[ak];exact a8 bC bl⟩
 |_,_,.bM ah,F,cs,S,h=>by
  rw[ak]at h
  obtain⟨b,cur,ty,fr,aG,bV,b7,eh,dd,eO,ey,h9⟩:=h
  obtain⟨hF,hG,ad,ag,aF,a8⟩:=ak.wider ah eO
  refine⟨hF,fun c=>c=b∨hG c,fun c aj=>ey c (ad c aj),?_,?_,fun bC bl=> ?_⟩
  ·rintro c (rfl|aj)
   ·exact b7
   ·exact ey c (ag c aj)
  ·rintro c (rfl|aj) br
   ·exact h9 (ad _ br)
   ·exact aF c aj br
  ·rw[ak]
   exact⟨b,cur,ty,fr,hG,bV,.inl rfl,eh,dd,a8 bC bl,fun c aj=>.inr aj,fun aj=>h9 (ag _ aj)⟩
 | .aL sz ds,.aL _ es,.aL iR,F,cs,S,h=>by
   rw[ak]at h
   have aO:=iR.len
   rcases h with⟨ad,ag⟩|⟨b,cap,cur,ty,fr,aG,bV,b7,eh,dd,eO,ey,h9,gh,lH,mH,FR⟩
   ·refine⟨fun _=>False,S,fun _ h=>h.elim,fun _ h=>h,fun _ _ h=>h,fun bC _=> ?_⟩
    rw[ak]
    subst ad
    exact .inl ⟨List.length_eq_zero_iff.1 (by simpa using aO),ag⟩
   ·obtain⟨hF,hG,ad,ag,aF,a8⟩:=aW.wider iR lH
    refine⟨hF,fun c=>c=b∨hG c,fun c aj=>mH c (ad c aj),?_,?_,fun bC bl=> ?_⟩
    ·rintro c (rfl|aj)
     ·exact b7
     ·exact mH c (ag c aj)
    ·rintro c (rfl|aj) br
     ·exact FR (ad _ br)
     ·exact aF c aj br
    ·rw[ak]
     refine .inr ⟨b,cap,cur,ty,fr,hG,by rw[aO];exact bV,.inl rfl,eh,dd,by rw[aO];exact eO,ey,h9,iR.all gh,by rw[aO];exact a8 bC bl,fun c aj=>.inr aj,fun aj=>FR (ag _ aj)⟩
 |_,_,.tuple iR,F,cs,S,h=>by
  rw[ak]at h
  obtain⟨hF,hG,ad,ag,aF,a8⟩:=aW.wider iR h
  exact⟨hF,hG,ad,ag,aF,fun bC bl=>by rw[ak];exact a8 bC bl⟩
 |_,_,.ref ah,F,cs,S,h=>by
  rw[ak]at h
  obtain⟨b,o,dI,ad,ag,aF,a8⟩:=h
  obtain⟨hF,hG,bV,b7,eh,dd⟩:=ak.wider ah a8
  refine⟨fun _=>False,S,fun _ h=>h.elim,fun _ h=>h,fun _ _ h=>h,fun bC bl=> ?_⟩
  rw[ak]
  exact⟨b,o,dI,ad,bl _ (.inl ag),aF,ak.mono (fun _ h=>h) _ _ _ _ (fun b U=>b7 b U) (dd bC fun b U=>bl b (U.imp id fun h=>(bV b h).elim))⟩
 |_,_,.trans ah he,F,cs,S,h=>by
  obtain⟨hF,hG,ad,ag,aF,a8⟩:=ak.wider ah h
  obtain⟨BQ,xA,bV,b7,eh,dd⟩:=ak.wider he (F:=fun b=>F b∨hF b) (a8 _ fun _ h=>h)
  refine⟨fun b=>hF b∨BQ b,xA,?_,fun b U=>ag b (b7 b U),?_,fun bC bl=>dd bC fun b U=> ?_⟩
  ·rintro b (h|h)
   ·exact ad b h
   ·exact ag b (bV b h)
  ·rintro b U (h|h)
   ·exact aF b (b7 b U) h
   ·exact eh b U h
  ·rcases U with(U|U)|U
   ·exact bl b (.inl U)
   ·exact bl b (.inr (.inl U))
   ·exact bl b (.inr (.inr U))
theorem aW.wider:∀{ds es:List I},jU ds es→∀{F:Nat→Prop} {cs:List Value} {S:Nat→Prop},aW w F ds cs S→
  ∃hF hG:Nat→Prop,(∀b,hF b→S b)∧(∀b,hG b→S b)∧(∀b,hG b→¬hF b)∧∀bC,(∀b,F b∨hF b→bC b)→aW w bC es cs hG
 |_,_,.nil,F,cs,S,h=>⟨fun _=>False,fun _=>False,fun _ h=>h.elim,fun _ h=>h.elim,fun _ h=>h.elim,fun bC bl=>by rw[aW]at h⊢;exact h⟩
 |_,_,.cons ah iR,F,cs,S,h=>by
  rw[aW]at h
  obtain⟨b5,c2,bN,dc,rfl,g2,g3,g4,g5,g6⟩:=h
  obtain⟨NK,FT,ab,a2,a3,a4⟩:=ak.wider ah g2
  obtain⟨BQ,xA,kP,h8,lJ,cq⟩:=aW.wider iR g3
  refine⟨fun b=>NK b∨BQ b,fun b=>FT b∨xA b,?_,?_,?_,fun bC bl=> ?_⟩
  ·rintro b (h|h)
   ·exact g4 b (ab b h)
   ·exact g5 b (kP b h)
  ·rintro b (h|h)
   ·exact g4 b (a2 b h)
   ·exact g5 b (h8 b h)
  ·rintro b (h|h) (bb|bb)
   ·exact a3 b h bb
   ·exact g6 b (a2 b h) (kP b bb)
   ·exact g6 b (ab b bb) (h8 b h)
   ·exact lJ b h bb
  ·rw[aW]
   refine⟨b5,c2,FT,xA,rfl,a4 bC (fun b U=>bl b (U.imp id .inl)),cq bC (fun b U=>bl b (U.imp id .inr)),fun b U=>.inl U,fun b U=>.inr U,fun b ad ag=>g6 b (a2 b ad) (h8 b ag)⟩
end
theorem eA.xB:∀{d e:I},eA d e→(∀vs,d≠.tuple vs)→∀vs,e≠.tuple vs
 |_,_,.refl _,h=>h
 |_,_,.jw _,_=>fun _ h=>by cases h
 |_,_,.sG,_=>fun _ h=>by cases h
 |_,_,.any _,_=>fun _ h=>by cases h
 |_,_,.share d _ _ _,h=>fun vs he=>by cases d<;>first|(cases he;done)|exact h _ rfl
 |_,_,.agg _,_=>fun _ h=>by cases h
 |_,_,.bM _,_=>fun _ h=>by cases h
 |_,_,.aL _,_=>fun _ h=>by cases h
 |_,_,.tuple _,h=>fun _ _=>h _ rfl
 |_,_,.ref _,_=>fun _ h=>by cases h
 |_,_,.trans h k,aV=>eA.xB k (eA.xB h aV)
theorem eA.hQ:∀{d e:I} {v:Value},eA d e→(∀vs,d≠.tuple vs)→cI.hQ d v→cI.hQ e v
 |_,_,_,.refl _,_,h=>h
 |_,_,_,.jw _,_,h=>h
 |_,_,_,.sG,_,h=>h
 |_,_,_,.any _,_,h=>h
 |_,_,_,.share d _ aV _,_,h=>by cases d<;>first|exact h|exact(aV _ rfl).elim
 |_,_,_,.agg _,_,h=>h
 |_,_,_,.bM _,_,h=>h
 |_,_,_,.aL _,_,h=>h
 |_,_,_,.tuple _,aV,_=>(aV _ rfl).elim
 |_,_,_,.ref _,_,h=>h
 |_,_,_,.trans h k,aV,aa=>eA.hQ k (eA.xB h aV) (eA.hQ h aV aa)
theorem jU.get:∀{ds es:List I},jU ds es→∀(k:Nat) (e:I),es[k]? =some e→∃d,ds[k]? =some d∧eA d e
 |_,_,.nil,k,e,h=>by simp at h
 |_,_,.cons ah aa,0,e,h=>by simp at h;subst h;exact⟨_,rfl,ah⟩
 |_,_,.cons ah aa,k+1,e,h=>jU.get aa k e (by simpa using h)
theorem eA.ck:∀{d e:I} {v:Value},eA d e→cI.ck d v→cI.ck e v
 |_,_,_,.refl _,aa=>aa
 |_,_,_,.jw _,aa=>aa
 |_,_,_,.sG,aa=>aa
 |_,_,_,.any _,aa=>aa
 |_,_,_,.share _ _ mh _,aa=>Bv mh aa
 |_,_,_,.agg _,aa=>aa
 |_,_,_,.bM _,aa=>aa
 |_,_,_,.aL _,aa=>aa
 |_,_,_,.ref _,aa=>aa
 |_,_,_,.tuple ah,aa=>by
  obtain⟨arr,ad,ag,aF⟩:=aa
  refine⟨arr,ad,ag.trans ah.len.symm,fun k e x he ai=> ?_⟩
  obtain⟨d,ax,hw⟩:=ah.get k e he
  obtain⟨ab,a2,a3⟩:=aF k d x ax ai
  exact⟨hw.hQ a2 ab,hw.xB a2,a3.trans hw.wd.symm⟩
 |_,_,_,.trans h k,aa=>eA.ck k (eA.ck h aa)
theorem eA.tree:∀{d e:I},eA d e→d.tree=true→e.tree=true
 |_,_,.refl _,ah=>ah
 |_,_,.jw _,_=>rfl
 |_,_,.sG,_=>rfl
 |_,_,.any _,_=>rfl
 |_,_,.share d _ _ ko,ah=>by cases d<;>first|exact ah|rfl|exact(ko _ rfl).elim
 |_,_,.agg _,_=>rfl
 |_,_,.bM _,_=>rfl
 |_,_,.aL _,_=>rfl
 |_,_,.tuple _,_=>rfl
 |_,_,.ref _,_=>rfl
 |_,_,.trans h k,ah=>eA.tree k (eA.tree h ah)
mutual
def I.rm:I→List Nat
 | .h x q=>if q.isEmpty then []else [x]
 | .ao x _=>[x]
 | .U x _=>[x]
 | .fn _ cap=>I.va cap
 |_=>[]
def I.va:List I→List Nat
 |[]=>[]
 |d::ds=>d.rm++I.va ds
end
def vb (s aw:an) (x:Nat) (D:List Nat):Prop:=aw x=s x∨aw x= .hole∨((s x).own=true∧(aw x).own=true∧x∉D)
theorem vb.less {s aw:an} {x:Nat} {D E:List Nat} (h:vb s aw x D) (BR:∀u∈E,u∈D):vb s aw x E:=by
 rcases h with h|h|⟨ad,ag,aF⟩
 ·exact .inl h
 ·exact .inr (.inl h)
 ·exact .inr (.inr ⟨ad,ag,fun ai=>aF (BR x ai)⟩)
theorem aB.keep {bC:Nat→Prop} (bl:∀b,F b→bC b):∀n,(∀(d:I) (v:Value) (dp:Nat→Prop),SizeOf.sizeOf d≤n→(∀x∈d.aa,vb s aw x d.rm)→aB w F s au d v dp→aB w bC aw au d v dp)∧
  (∀(ds:List I) (vs:List Value),SizeOf.sizeOf ds≤n→(∀x∈I.dK ds,vb s aw x (I.va ds))→dx w F s au ds vs→dx w bC aw au ds vs):=by
 intro n
 induction n with
 |zero=>
  refine⟨fun d v dp bG=> ?_,fun ds vs bG=> ?_⟩
  ·cases d<;>simp at bG<;>omega
  ·cases ds<;>simp at bG<;>omega
 |succ n ih=>
  refine⟨fun d v dp bG ax h=> ?_,fun ds vs bG ax h=> ?_⟩
  ·cases d with
   |hole=>rw[aB];trivial
   |h x q=>
    rw[aB]at h⊢
    intro e eE ao
    rcases ax x (by simp[I.aa])with he|he|⟨FU,NL,vc⟩
    ·rw[he]at eE⊢;exact h e eE ao
    ·rw[he]at eE
     cases q with
     |nil=>simp only[I.sub,Option.some.injEq]at eE;subst eE;simp[I.plain]at ao
     |cons k q=>simp[I.sub]at eE
    ·cases q with
     |nil=>
      simp only[I.sub,Option.some.injEq]at eE
      subst eE
      obtain⟨cc,a0,fg,gM,hP⟩:=h (s x) (by simp only[I.sub]) (ph FU).1
      simp only[cL,Option.some.injEq,Prod.mk.injEq,true_and]at fg
      exact⟨bU (au x),none,by simp only[cL],by rw[gM,←fg.1],((ph NL).2.2.2.2.2 _).2 (((ph FU).2.2.2.2.2 _).1 hP)⟩
     |cons k q=>exact(vc (by simp[I.rm])).elim
   |ao x q=>
    rw[aB]at h⊢
    intro e eE aj
    rcases ax x (by simp[I.aa])with he|he|⟨_,_,vc⟩
    ·rw[he]at eE aj⊢;exact h e eE aj
    ·rw[he]at aj
     cases q<;>simp[I.e2]at aj
    ·exact(vc (by simp[I.rm])).elim
   |U x k=>
    rw[aB]at h⊢
    intro ao
    rcases ax x (by simp[I.aa])with he|he|⟨_,_,vc⟩
    rotate_left 2
    ·exact(vc (by simp[I.rm])).elim
    ·rw[he]at ao
     obtain⟨b,cur,e,fr,ad,ag,aF,a8⟩:=h ao
     exact⟨b,cur,e,fr,ad,bl b ag,aF,a8⟩
    ·rw[he]at ao;simp[I.plain]at ao
   |fn f cap=>
    rw[aB]at h⊢
    obtain⟨arr,rfl,aj⟩:=h
    exact⟨arr,rfl,ih.2 _ _ (by simp at bG;omega) (by simpa [I.aa,I.rm]using ax) aj⟩
   |_=>
    have bb:=(aB.b9 rfl).1 h
    exact(aB.b9 rfl).2 ⟨bb.1,ak.mono bl _ _ _ _ (fun _ h=>h) bb.2⟩
  ·cases ds with
   |nil=>rw[dx]at h⊢;exact h
   |cons d ds=>
    rw[dx]at h⊢
    obtain⟨v,jc,rfl,ad,ag⟩:=h
    simp at bG
    simp only[I.dK,List.mem_append]at ax
    exact⟨v,jc,rfl,ih.1 _ _ _ (by omega) (fun x ai=>(ax x (.inl ai)).less fun u hu=>by simp[I.va,hu]) ad,ih.2 _ _ (by omega) (fun x ai=>(ax x (.inr ai)).less fun u hu=>by simp[I.va,hu]) ag⟩
def vd (s:an) (l:List (Nat×I)):Prop:=
 ∀p∈l,p.2=s p.1∨((s p.1).tree=true∧eA (s p.1) p.2∧∀ca∈l,p.1∉ca.2.aa∨((s p.1).own=true∧p.2.own=true∧p.1∉ca.2.rm))
theorem FV:∀(l:List (Nat×I)) (t:Nat),R l t= .hole∨∃p∈l,p.1=t∧R l t=p.2:=by
 intro l
 induction l with
 |nil=>intro t;exact .inl rfl
 |cons p l ih=>
  intro t
  obtain⟨u,d⟩:=p
  simp only[R]
  split
  ·rename_i e;exact .inr ⟨(u,d),by simp,e.symm,rfl⟩
  ·rcases ih t with h|⟨p,ao,h⟩
   ·exact .inl h
   ·exact .inr ⟨p,by simp[ao],h⟩
theorem bw.NM (h:bw w0 F0 X F S s au w) {l:List (Nat×I)} (hw:vd s l):∃bC aG,bw w0 F0 X bC aG (R l) au w:=by
 have each:∀t,∃hF hG:Nat→Prop,(∀b,hF b→S t b)∧(∀b,hG b→S t b)∧(∀b,hG b→¬hF b)∧∀bC,(∀b,F b∨hF b→bC b)→aB w bC (R l) au (R l t) (au t) hG:=by
  intro t
  rcases FV l t with e|⟨p,ao,rfl,e⟩
  ·exact⟨fun _=>False,fun _=>False,fun _ h=>h.elim,fun _ h=>h.elim,fun _ h=>h.elim,fun bC _=>by rw[e,aB];trivial⟩
  ·rw[e]
   rcases hw p ao with ax|⟨aY,j9,_⟩
   ·refine⟨fun _=>False,S p.1,fun _ h=>h.elim,fun _ h=>h,fun _ _ h=>h,fun bC bl=> ?_⟩
    rw[ax]
    refine(aB.keep (fun b U=>bl b (.inl U)) (SizeOf.sizeOf (s p.1))).1 _ _ _ (Nat.le_refl _) ?_ (h.cN p.1)
    intro x ai
    rcases FV l x with fQ|⟨ca,dY,rfl,fQ⟩
    ·exact .inr (.inl fQ)
    ·rcases hw ca dY with ld|⟨_,_,ko⟩
     ·exact .inl (fQ.trans ld)
     ·rcases ko p ao with ko|⟨mL,n2,xu⟩
      ·exact(ko (by rw[ax];exact ai)).elim
      ·exact .inr (.inr ⟨mL,by rw[fQ];exact n2,by rw[ax]at xu;exact xu⟩)
   ·obtain⟨g1,g2⟩:=(aB.b9 aY).1 (h.cN p.1)
    obtain⟨hF,hG,bV,b7,eh,dd⟩:=ak.wider j9 g2
    exact⟨hF,hG,bV,b7,eh,fun bC bl=>(aB.b9 (j9.tree aY)).2 ⟨j9.ck g1,dd bC bl⟩⟩
 have b5:=fun t=>(each t).choose_spec
 let hF:=fun t=>(each t).choose
 have c2:=fun t=>(b5 t).choose_spec
 let hG:=fun t=>(b5 t).choose
 have hh:∀t b,hF t b→S t b:=fun t=>(c2 t).1
 have ga:∀t b,hG t b→S t b:=fun t=>(c2 t).2.1
 have jf:∀t b,hG t b→¬hF t b:=fun t=>(c2 t).2.2.1
 have jg:=fun t=>(c2 t).2.2.2
 refine⟨fun b=>F b∨∃t,hF t b,hG,fun b U=>.inl (h.gF b U),?_,?_,fun t b U=>h.eg t b (ga t b U),?_,fun t u b dr U hu=>h.eN t u b dr (ga t b U) (ga u b hu),fun t b U=>h.dp t b (ga t b U),?_,h.old,h.size,h.os,h.tape,h.output,h.gn⟩
 ·rintro b (U|⟨t,U⟩)
  ·exact h.gS b U
  ·exact .inr (h.dp t b (hh t b U))
 ·rintro b (U|⟨t,U⟩)
  ·exact h.eT b U
  ·exact h.eg t b (hh t b U)
 ·rintro t b U (br|⟨u,hu⟩)
  ·exact h.fa t b (ga t b U) br
  ·by_cases e:t=u
   ·subst e;exact jf t b U hu
   ·exact h.eN t u b e (ga t b U) (hh u b hu)
 ·intro t
  exact jg t _ (fun b U=>U.imp id fun h=>⟨t,h⟩)
end
inductive J where
 |skip
 |ct (ros:List bO) (keep:Option (List Nat))
 |mj (ros:List bO) (n8:List (List Nat)) (keep:Option (List Nat))
 |seq (a b:J)
 |cond (c:aC) (a b:J)
 |block (id:Nat) (b:J)
 |loop (b:J)
 |exit (id:Nat)
 |ret
 |jx (T:(Exit→an→Prop)→an→Prop) (b:J)
def bt (n:Fr):Code→Option J
 | .skip=>some .skip
 | .region _ ops false=>(oM n ops ops.toList).map fun r=>.ct r none
 | .region _ ops true=>if u6 (nr ops)=true then(oM n ops ops.toList).map fun r=>.mj r (nr ops) none else none
 | .seq a b=>match bt n a,bt n b with
   |some a,some b=>some (.seq a b)
   |_,_=>none
 | .cond c a b=>match db c,bt n a,bt n b with
   |some c,some a,some b=>some (.cond c a b)
   |_,_,_=>none
 | .block id b=>(bt n b).map (.block id)
 | .loop b=>(bt n b).map .loop
 | .exit id=>some (.exit id)
 | .ret=>some .ret
 |_=>none
def J.kT:J→J
 | .ct ros _=>.ct ros none
 | .mj ros gG _=>.mj ros gG none
 | .seq a b=>.seq a.kT b.kT
 | .cond c a b=>.cond c a.kT b.kT
 | .block id b=>.block id b.kT
 | .loop b=>.loop b.kT
 | .jx T b=>.jx T b.kT
 |c=>c
def J.strip:J→J
 | .ct ros _=>.ct (ros.map bO.un) none
 | .mj ros gG _=>.mj (ros.map bO.un) gG none
 | .seq a b=>.seq a.strip b.strip
 | .cond c a b=>.cond c a.strip b.strip
 | .block id b=>.block id b.strip
 | .loop b=>.loop b.strip
 | .jx _ b=>b.strip
 |c=>c
theorem J.FW:∀c:J,c.kT.strip=c.strip:=by
 intro c
 induction c with
 |seq a b jy jz=>simp only[J.kT,J.strip,jy,jz]
 |cond c a b jy jz=>simp only[J.kT,J.strip,jy,jz]
 |block id b ih=>simp only[J.kT,J.strip,ih]
 |loop b ih=>simp only[J.kT,J.strip,ih]
 |jx T b ih=>simp only[J.kT,J.strip,ih]
 |_=>rfl
def J.bare (H:((Exit→an→Prop)→an→Prop)→J→Prop):J→Prop
 | .ct _ k=>k=none
 | .mj _ _ k=>k=none
 | .seq a b=>a.bare H∧b.bare H
 | .cond _ a b=>a.bare H∧b.bare H
 | .block _ b=>b.bare H
 | .loop b=>b.bare H
 | .jx T b=>H T b
 |_=>True
def J.oQ (H:((Exit→an→Prop)→an→Prop)→J→Prop):J→Prop
 | .seq a b=>a.oQ H∧b.oQ H
 | .cond _ a b=>a.oQ H∧b.oQ H
 | .block _ b=>b.oQ H
 | .loop b=>b.oQ H
 | .jx T b=>H T b.kT
 |_=>True
theorem J.FX {H:((Exit→an→Prop)→an→Prop)→J→Prop}:∀c:J,c.oQ H→c.kT.bare H:=by
 intro c
 induction c with
 |seq a b jy jz=>intro h;exact⟨jy h.1,jz h.2⟩
 |cond c a b jy jz=>intro h;exact⟨jy h.1,jz h.2⟩
 |block id b ih=>intro h;exact ih h
 |loop b ih=>intro h;exact ih h
 |ct=>intro _;rfl
 |mj=>intro _;rfl
 |jx T b _=>intro h;exact h
 |_=>intro _;trivial
def J.plain:J→Bool
 | .seq a b=>a.plain&&b.plain
 | .cond _ a b=>a.plain&&b.plain
 | .block _ b=>b.plain
 | .loop b=>b.plain
 | .jx _ _=>false
 |_=>true
theorem J.NN {H:((Exit→an→Prop)→an→Prop)→J→Prop}:∀c:J,c.plain=true→c.oQ H:=by
 intro c
 induction c with
 |seq a b jy jz=>intro h;simp only[J.plain,Bool.and_eq_true]at h;exact⟨jy h.1,jz h.2⟩
 |cond c a b jy jz=>intro h;simp only[J.plain,Bool.and_eq_true]at h;exact⟨jy h.1,jz h.2⟩
 |block id b ih=>intro h;exact ih h
 |loop b ih=>intro h;exact ih h
 |jx T b _=>intro h;cases h
 |_=>intro _;trivial
def andThen (K:an→Prop) (Q:Exit→an→Prop):Exit→an→Prop
 | .normal,s=>K s
 |e,s=>Q e s
def sH (id:Nat) (Q:Exit→an→Prop):Exit→an→Prop
 | .exit i,s=>if i=id then Q .normal s else Q (.exit i) s
 |e,s=>Q e s
def fU (K:an→Prop) (s:an):Prop:=K s∨∃l,vd s l∧K (R l)
def ve:Option (List Nat)→(an→Prop)→an→Prop
 |none,K,s=>fU K s
 |some k,K,s=>K (R (k.map fun t=>(t,s t)))
def cK (C:bS):J→(Exit→an→Prop)→an→Prop
 | .skip,Q,s=>Q .normal s
 | .ct ros keep,Q,s=>kS C s ros (ve keep (Q .normal))
 | .mj ros n8 keep,Q,s=>∀l,BP n8 l→jv C ros s l (ve keep (Q .normal))
 | .seq a b,Q,s=>cK C a (andThen (fU (cK C b Q)) Q) s
 | .cond c a b,Q,s=>match aE s c with
   | .bool e8=>if e8=true then cK C a Q s else cK C b Q s
   | .et=>cK C a Q s∧cK C b Q s
   |_=>False
 | .block id b,Q,s=>cK C b (sH id Q) s
 | .loop b,Q,s=>fU (fun s=>∀Z:an→Prop,(∀aw,cK C b (andThen (fU Z) Q) aw→Z aw)→Z s) s
 | .exit id,Q,s=>Q (.exit id) s
 | .ret,Q,s=>Q .ret s
 | .jx T _,Q,s=>∀dZ:Exit→an→Prop,(∀e s,Q e s→dZ e s)→T dZ s
section
variable {C:bS}
theorem BS {s:an} {o:bO} {K cV:an→Prop} (h:lj C s o K) (ax:∀s,K s→cV s):lj C s o cV:=by
 unfold lj at h⊢
 split
 ·rename_i hg;rw[hg]at h;exact xx h fun av s1=>ax _
 ·rename_i t b hg
  rw[hg]at h
  simp only at h
  split
  ·rename_i e8 aa
   rw[aa]at h
   simp only at h
   split
   ·rename_i U;rw[if_pos U]at h;exact xx h fun av s1=>ax _
   ·rename_i U;rw[if_neg U]at h;exact ax _ h
  ·rename_i aa;rw[aa]at h;exact ax _ h
  ·rename_i ad ag
   split at h
   ·exact ad _ (by assumption)
   ·exact ag (by assumption)
   ·exact h
theorem FY {K cV:an→Prop} (ax:∀s,K s→cV s):∀{ros:List bO} {s:an},kS C s ros K→kS C s ros cV:=by
 intro ros
 induction ros with
 |nil=>intro s h;exact ax s h
 |cons o ros ih=>intro s h;exact BS h fun s h=>ih h
theorem FZ {ros:List bO} {K cV:an→Prop} (ax:∀s,K s→cV s):∀{l:List Nat} {s:an},jv C ros s l K→jv C ros s l cV:=by
 intro l
 induction l with
 |nil=>intro s h;exact ax s h
 |cons i l ih=>
  intro s h
  simp only[jv]at h⊢
  split
  ·rename_i cd;rw[cd]at h;exact ih h
  ·rename_i o cd;rw[cd]at h;exact BS h fun s h=>ih h
theorem sI {K cV:an→Prop} (ax:∀s,K s→cV s) (s:an) (h:fU K s):fU cV s:=
 h.imp (ax s) fun⟨l,ad,ag⟩=>⟨l,ad,ax _ ag⟩
theorem F1 {keep:Option (List Nat)} {K cV:an→Prop} (ax:∀s,K s→cV s) (s:an) (h:ve keep K s):ve keep cV s:=by
 cases keep with
 |none=>exact sI ax s h
 |some k=>exact ax _ h
theorem F2 {keep:Option (List Nat)} {K:an→Prop} {s:an} (h:ve keep K s):fU K s:=by
 cases keep with
 |none=>exact h
 |some k=>
  refine .inr ⟨_,?_,h⟩
  intro p ao
  obtain⟨t,_,rfl⟩:=List.mem_map.1 ao
  exact .inl rfl
theorem BT {K cV:an→Prop} {Q dZ:Exit→an→Prop} (ax:∀s,K s→cV s) (cM:∀e s,Q e s→dZ e s):∀e s,andThen K Q e s→andThen cV dZ e s:=by
 intro e s h
 cases e with
 |normal=>exact ax s h
 |_=>exact cM _ s h
theorem F3:∀(c:J) {Q dZ:Exit→an→Prop} {s:an},(∀e s,Q e s→dZ e s)→cK C c Q s→cK C c dZ s:=by
 intro c
 induction c with
 |skip=>intro Q dZ s cM h;exact cM _ _ h
 |ct ros keep=>intro Q dZ s cM h;exact FY (F1 (cM _)) h
 |mj ros n8 keep=>intro Q dZ s cM h l aO;exact FZ (F1 (cM _)) (h l aO)
 |seq a b jy jz=>
  intro Q dZ s cM h
  exact jy (BT (fun s h=>sI (fun _ h=>jz cM h) s h) cM) h
 |cond c a b jy jz=>
  intro Q dZ s cM h
  simp only[cK]at h⊢
  split
  ·rename_i e8 U
   rw[U]at h
   simp only at h
   split
   ·rename_i e;rw[if_pos e]at h;exact jy cM h
   ·rename_i e;rw[if_neg e]at h;exact jz cM h
  ·rename_i U;rw[U]at h;exact⟨jy cM h.1,jz cM h.2⟩
  ·rename_i ad ag
   split at h
   ·exact ad _ (by assumption)
   ·exact ag (by assumption)
   ·exact h
 |block id b ih=>
  intro Q dZ s cM h
  refine ih ?_ h
  intro e s h
  cases e with
  |exit i=>
   simp only[sH]at h⊢
   split
   ·rename_i e;rw[if_pos e]at h;exact cM _ _ h
   ·rename_i e;rw[if_neg e]at h;exact cM _ _ h
  |_=>exact cM _ _ h
 |loop b ih=>
  intro Q dZ s cM h
  refine sI (fun s h Z sJ=> ?_) s h
  exact h Z fun aw fM=>sJ aw (ih (BT (fun _ h=>h) cM) fM)
 |exit id=>intro Q dZ s cM h;exact cM _ _ h
 |ret=>intro Q dZ s cM h;exact cM _ _ h
 |jx T b _=>intro Q dZ s cM h fl ag;exact h fl fun e s he=>ag e s (cM e s he)
theorem F4:∀(c:J) {Q:Exit→an→Prop} {s:an},cK C c Q s→cK C c.kT Q s:=by
 intro c
 induction c with
 |ct ros keep=>intro Q s h;exact FY (fun s h=>F2 h) h
 |mj ros gG keep=>intro Q s h l aO;exact FZ (fun s h=>F2 h) (h l aO)
 |seq a b jy jz=>intro Q s h;exact jy (F3 a (BT (fun s h=>sI (fun _ h=>jz h) s h) (fun _ _ h=>h)) h)
 |cond c a b jy jz=>
  intro Q s h
  simp only[J.kT,cK]at h⊢
  split
  ·rename_i e8 U
   rw[U]at h
   simp only at h
   split
   ·rename_i e;rw[if_pos e]at h;exact jy h
   ·rename_i e;rw[if_neg e]at h;exact jz h
  ·rename_i U;rw[U]at h;exact⟨jy h.1,jz h.2⟩
  ·rename_i ad ag
   split at h
   ·exact ad _ (by assumption)
   ·exact ag (by assumption)
   ·exact h
 |block id b ih=>intro Q s h;exact ih h
 |loop b ih=>
  intro Q s h
  refine sI (fun s h Z sJ=> ?_) s h
  exact h Z fun aw fM=>sJ aw (ih fM)
 |jx T b _=>intro Q s h;exact h
 |_=>intro Q s h;exact h
variable {w0 w:World} {F0 X:Nat→Prop} {n:Fr} {ρ:Nat→Value} {s:an} {a:Act}
def sK (w0:World) (F0 X:Nat→Prop) (n:Fr) (ρ:Nat→Value) (Q:Exit→an→Prop):Exit→Act→World→Prop:=fun e a w=>∃s,Q e s∧Rel w0 F0 X n ρ s a w
theorem Rel.fU {K:an→Prop} {s:an} {a:Act} {w:World} (aH:Rel w0 F0 X n ρ s a w) (h:fU K s):∃aw,K aw∧Rel w0 F0 X n ρ aw a w:=by
 rcases h with h|⟨l,ad,ag⟩
 ·exact⟨s,h,aH⟩
 ·obtain⟨g1,g2,g3,F,S,g4⟩:=aH
  obtain⟨bC,aG,g5⟩:=g4.NM ad
  exact⟨R l,ag,g1,g2,g3,bC,aG,g5⟩
theorem J.NO {c:J} (h:c.strip= .skip):c= .skip∨∃T b,c= .jx T b:=by cases c<;>first|exact .inl rfl|exact .inr ⟨_,_,rfl⟩|cases h
theorem J.NP {c:J} (h:c.strip= .ret):c= .ret∨∃T b,c= .jx T b:=by cases c<;>first|exact .inl rfl|exact .inr ⟨_,_,rfl⟩|cases h
theorem J.NQ {c:J} {i:Nat} (h:c.strip= .exit i):c= .exit i∨∃T b,c= .jx T b:=by cases c<;>first|exact .inl h|exact .inr ⟨_,_,rfl⟩|cases h
theorem J.NR {c:J} {r:List bO} {k:Option (List Nat)} (h:c.strip= .ct r k):(∃ros dj,c= .ct ros dj∧ros.map bO.un=r)∨∃T b,c= .jx T b:=by
 cases c<;>first|(cases h;exact .inl ⟨_,_,rfl,rfl⟩)|exact .inr ⟨_,_,rfl⟩|cases h
theorem J.NS {c:J} {r:List bO} {gG:List (List Nat)} {k:Option (List Nat)} (h:c.strip= .mj r gG k):(∃ros F5 dj,c= .mj ros F5 dj∧ros.map bO.un=r∧F5=gG)∨∃T b,c= .jx T b:=by
 cases c<;>first|(cases h;exact .inl ⟨_,_,_,rfl,rfl,rfl⟩)|exact .inr ⟨_,_,rfl⟩|cases h
theorem J.NT {c x y:J} (h:c.strip= .seq x y):(∃a b,c= .seq a b∧a.strip=x∧b.strip=y)∨∃T b,c= .jx T b:=by
 cases c<;>first|(cases h;exact .inl ⟨_,_,rfl,rfl,rfl⟩)|exact .inr ⟨_,_,rfl⟩|cases h
theorem J.NU {c x y:J} {o:aC} (h:c.strip= .cond o x y):(∃mK a b,c= .cond mK a b∧mK=o∧a.strip=x∧b.strip=y)∨∃T b,c= .jx T b:=by
 cases c<;>first|(cases h;exact .inl ⟨_,_,_,rfl,rfl,rfl,rfl⟩)|exact .inr ⟨_,_,rfl⟩|cases h
theorem J.NV {c x:J} {i:Nat} (h:c.strip= .block i x):(∃a,c= .block i a∧a.strip=x)∨∃T b,c= .jx T b:=by
 cases c<;>first|(cases h;exact .inl ⟨_,rfl,rfl⟩)|exact .inr ⟨_,_,rfl⟩|cases h
theorem J.NW {c x:J} (h:c.strip= .loop x):(∃a,c= .loop a∧a.strip=x)∨∃T b,c= .jx T b:=by
 cases c<;>first|(cases h;exact .inl ⟨_,rfl,rfl⟩)|exact .inr ⟨_,_,rfl⟩|cases h
theorem F6 (bc:C.en) {H:((Exit→an→Prop)→an→Prop)→J→Prop}
  (mM:∀(c:Code) (T:(Exit→an→Prop)→an→Prop) (b:J) (Q:Exit→an→Prop) (s:an) (a:Act) (w:World),H T b→bt n c=some b.strip→T Q s→Rel w0 F0 X n ρ s a w→c.wp C.P (sK w0 F0 X n ρ Q) a w):
  ∀(c:Code) {e4:J} {Q:Exit→an→Prop} {s:an} {a:Act} {w:World},bt n c=some e4.strip→e4.bare H→cK C e4 Q s→Rel w0 F0 X n ρ s a w→c.wp C.P (sK w0 F0 X n ρ Q) a w:=by
 intro c
 induction c with
 |skip=>
  intro e4 Q s a w aa hv h aH
  have ku:=aa
  simp only[bt,Option.some.injEq]at aa
  rcases J.NO aa.symm with rfl|⟨T,b,rfl⟩
  ·exact wp_skip ⟨s,h,aH⟩
  ·exact mM _ T b Q s a w hv (by simpa only[J.strip]using ku) (h Q fun _ _ h=>h) aH
 |region id ops draw=>
  intro e4 Q s a w aa hv h aH
  have ku:=aa
  cases draw with
  |false=>
   simp only[bt,Option.map_eq_some_iff]at aa
   obtain⟨NX,vf,aa⟩:=aa
   rcases J.NR aa.symm with⟨ros,k,rfl,rfl⟩|⟨T,b,rfl⟩
   rotate_left
   ·exact mM _ T b Q s a w hv (by simpa only[J.strip]using ku) (h Q fun _ _ h=>h) aH
   cases hv
   exact Ny bc vf (fun aw cz aA ax dV=>dV.fU ax) h aH
  |true=>
   simp only[bt]at aa
   split at aa
   ·rename_i U
    simp only[Option.map_eq_some_iff]at aa
    obtain⟨NX,vf,aa⟩:=aa
    rcases J.NS aa.symm with⟨ros,gG,k,rfl,rfl,rfl⟩|⟨T,b,rfl⟩
    rotate_left
    ·exact mM _ T b Q s a w hv (by simpa only[J.strip]using ku) (h Q fun _ _ h=>h) aH
    cases hv
    refine wp_region_draw fun t=> ?_
    rw[show Region.schedule (C.P.follows .mixedOrders) ops t=Region.linearise .any ops t by simp[Region.schedule,bc.mixed]]
    exact FM bc vf (fun aw cz aA ax dV=>dV.fU ax) _ s a _ (h _ (NI U t)) (aH.drawn _ (by first|exact Nat.le_succ _|exact Nat.le_add_right _ _|omega))
   ·cases aa
 |seq x y NY xC=>
  intro e4 Q s a w aa hv h aH
  have ku:=aa
  simp only[bt]at aa
  split at aa
  ·rename_i uS NZ ai hy
   simp only[Option.some.injEq]at aa
   rcases J.NT aa.symm with⟨dv,kp,rfl,rfl,rfl⟩|⟨T,b,rfl⟩
   rotate_left
   ·exact mM _ T b Q s a w hv (by simpa only[J.strip]using ku) (h Q fun _ _ h=>h) aH
   refine wp_seq (wp_mono (NY ai hv.1 h aH) ?_)
   rintro e cz aA ⟨aw,bb,dV⟩
   cases e with
   |normal=>
    obtain⟨aw,bb,dV⟩:=dV.fU bb
    exact xC hy hv.2 bb dV
   |_=>exact⟨aw,bb,dV⟩
  ·cases aa
 |cond x y z xC F7=>
  intro e4 Q s a w aa hv h aH
  have ku:=aa
  simp only[bt]at aa
  split at aa
  ·rename_i uS NZ sz ai hy bG
   simp only[Option.some.injEq]at aa
   rcases J.NU aa.symm with⟨dv,kp,o7,rfl,rfl,rfl,rfl⟩|⟨T,b,rfl⟩
   rotate_left
   ·exact mM _ T b Q s a w hv (by simpa only[J.strip]using ku) (h Q fun _ _ h=>h) aH
   have dV:=aH
   obtain⟨ah,dJ,br,F,S,pn⟩:=dV
   have aI:=(eF (a:=a) pn (fun _=>rfl) ai).2
   simp only[cK]at h
   split at h
   ·rename_i e8 U
    rw[U]at aI
    have:=pY aI
    refine wp_cond this ?_
    split
    ·rename_i e;rw[if_pos e]at h;exact xC hy hv.1 h aH
    ·rename_i e;rw[if_neg e]at h;exact F7 bG hv.2 h aH
   ·rename_i U
    rw[U]at aI
    obtain⟨e8,lC⟩:=Et aI
    refine wp_cond lC ?_
    split
    ·exact xC hy hv.1 h.1 aH
    ·exact F7 bG hv.2 h.2 aH
   ·exact h.elim
  ·cases aa
 |block id b ih=>
  intro e4 Q s a w aa hv h aH
  have ku:=aa
  simp only[bt,Option.map_eq_some_iff]at aa
  obtain⟨xh,U,aa⟩:=aa
  rcases J.NV aa.symm with⟨e8,rfl,rfl⟩|⟨T,b,rfl⟩
  rotate_left
  ·exact mM _ T b Q s a w hv (by simpa only[J.strip]using ku) (h Q fun _ _ h=>h) aH
  refine wp_block (wp_mono (ih U hv h aH) ?_)
  rintro e cz aA ⟨aw,bb,dV⟩
  cases e with
  |exit i=>
   simp only[sH]at bb
   simp only[Exit.inBlock]
   split
   ·rename_i e;rw[if_pos e]at bb;exact⟨aw,bb,dV⟩
   ·rename_i e;rw[if_neg e]at bb;exact⟨aw,bb,dV⟩
  |_=>exact⟨aw,bb,dV⟩
 |loop b ih=>
  intro e4 Q s a w aa hv h aH
  have ku:=aa
  simp only[bt,Option.map_eq_some_iff]at aa
  obtain⟨xh,U,aa⟩:=aa
  rcases J.NW aa.symm with⟨e8,rfl,rfl⟩|⟨T,b,rfl⟩
  rotate_left
  ·exact mM _ T b Q s a w hv (by simpa only[J.strip]using ku) (h Q fun _ _ h=>h) aH
  obtain⟨s,h,aH⟩:=aH.fU h
  have key:=h (fun s=>∀a w,Rel w0 F0 X n ρ s a w→∀(f:Frame) (k:List Item) (cs:List Frame),∃e cz aA,sK w0 F0 X n ρ Q e cz aA∧Arrives C.P (lone (f.at a (.code b:: .inLoop b::k)) cs w) f k cs e cz aA) ?_
  ·intro f k cs
   obtain⟨e,cz,aA,cM,qd⟩:=key a w aH f k cs
   exact⟨e,cz,aA,cM,.of_steps (.one step_loop) qd⟩
  ·intro aw fM a w aH f k cs
   obtain⟨e,a₁,w₁,⟨s1,cM,qe⟩,qd⟩:=ih U hv fM aH f (.inLoop b::k) cs
   cases e with
   |normal=>
    simp only[andThen]at cM
    obtain⟨s1,cM,qe⟩:=qe.fU cM
    obtain⟨e₂,a₂,w₂,hq₂,harr₂⟩:=cM a₁ w₁ qe f k cs
    exact⟨e₂,a₂,w₂,hq₂,.of_steps (Steps.trans qd (.one step_inLoop)) harr₂⟩
   |exit id=>exact⟨_,a₁,w₁,⟨s1,cM,qe⟩,.pass (x:=.inLoop b) rfl (fun _ _=>.inl (by simp)) qd⟩
   |goto l=>exact⟨_,a₁,w₁,⟨s1,cM,qe⟩,.pass (x:=.inLoop b) rfl (fun _ _=>.inl (by simp)) qd⟩
   |ret=>exact⟨_,a₁,w₁,⟨s1,cM,qe⟩,.pass (x:=.inLoop b) rfl (fun _ _=>.inl (by simp)) qd⟩
   |panic al3=>exact⟨_,a₁,w₁,⟨s1,cM,qe⟩,.pass (x:=.inLoop b) rfl (fun _ _=>.inl (by simp)) qd⟩
   |outgrown=>exact⟨_,a₁,w₁,⟨s1,cM,qe⟩,.pass (x:=.inLoop b) rfl (fun _ _=>.inl (by simp)) qd⟩
 |exit id=>
  intro e4 Q s a w aa hv h aH
  have ku:=aa
  simp only[bt,Option.some.injEq]at aa
  rcases J.NQ aa.symm with rfl|⟨T,b,rfl⟩
  ·exact wp_exit ⟨s,h,aH⟩
  ·exact mM _ T b Q s a w hv (by simpa only[J.strip]using ku) (h Q fun _ _ h=>h) aH
 |ret=>
  intro e4 Q s a w aa hv h aH
  have ku:=aa
  simp only[bt,Option.some.injEq]at aa
  rcases J.NP aa.symm with rfl|⟨T,b,rfl⟩
  ·exact wp_ret ⟨s,h,aH⟩
  ·exact mM _ T b Q s a w hv (by simpa only[J.strip]using ku) (h Q fun _ _ h=>h) aH
 |_=>intro e4 Q s a w aa;simp[bt]at aa
theorem N0 (bc:C.en) (c:Code) {e4:J} {Q:Exit→an→Prop} {s:an} {a:Act} {w:World} (aa:bt n c=some e4.strip) (U:e4.bare (fun _ _=>False)) (h:cK C e4 Q s) (aH:Rel w0 F0 X n ρ s a w):c.wp C.P (sK w0 F0 X n ρ Q) a w:=
 F6 bc (fun _ _ _ _ _ _ _ br=>br.elim) c aa U h aH
end
def kv:ResultVar→Nat
 | .tmp t=>t
 | .cell a _=>a
def po (C:bS) (s:an):ResultVar→Option I
 | .tmp t=>if(s t).tree=true then(match s t with| .tuple _=>none|d=>some d)else none
 | .cell a T=>match s a with
   | .bM d=>if fits C T d=true∧d.tree=true then some d else none
   |_=>none
def BU (C:bS) (fx:List Nat) (fN:List ResultVar) (r:I) (outs:List I) (s:an):Prop:=
 ∃ds,fN.map (po C s)=ds.map some∧r=(match ds with|[d]=>d|ds=>.tuple ds)∧(fN.map kv).Nodup∧
  ∀(i:Nat) (o:I),outs[i]? =some o→o= .hole∨(o=s i∧o.hz=true∧i∈fx∧i∉fN.map kv)
def Ends (C:bS) (fx:List Nat) (fN:List ResultVar) (r:I) (outs:List I) (s:an):Prop:=
 BU C fx fN r outs s∨∃t y q d s1,s t= .h y q∧ch s (.h y q)=some (d,s1)∧BU C fx fN r outs (fin s1 (some t) d)
theorem bw.takes {w0 w:World} {F0 X F:Nat→Prop} {S:Nat→Nat→Prop} {s s1:an} {au:Nat→Value} {t y:Nat} {q:List Nat} {d:I} (aH:bw w0 F0 X F S s au w) (ad:s t= .h y q) (ag:ch s (.h y q)=some (d,s1)):
  ∃aG,bw w0 F0 X F aG (cI.fin s1 (some t) d) au w:=by
 have aa:=aH.cN t
 rw[ad,aB]at aa
 obtain⟨bN,k0,bV,b7,Sn,eh,dd,eO,ey,h9,_⟩:=nR aH (av:=.h y q) (v:=au t) rfl (by rw[aB];exact aa) ag
 obtain⟨aG,bb⟩:=k0.fin (.inr ⟨bV,b7,Sn,eh,dd,eO,ey,h9⟩) (some t)
 refine⟨aG,?_⟩
 have e:o5 au (some t) (au t)=au:=by
  funext u
  simp only[o5,c7]
  split
  ·rename_i h;rw[h]
  ·rfl
 rwa [e]at bb
section
variable {C:bS} {w0 w:World} {F0 X F:Nat→Prop} {S:Nat→Nat→Prop} {s:an} {tmps:Array Value}
theorem F8 {d:I} {x:Value} (ah:∀vs,d≠.tuple vs) (h:ck d x):bU x=hp x∧hQ d x:=by
 have:hQ d x:=by cases d<;>first|exact h|exact(ah _ rfl).elim
 refine⟨?_,this⟩
 cases d<;>first
  |(obtain⟨a,rfl⟩:=this;rfl)
  |(simp only[hQ]at this
    rw[gp this]
    cases x<;>first|rfl|(simp[Value.f_]at this))
def vg (tmps:Array Value):ResultVar→Sem Value
 | .tmp t=>pure (tmps.getD t undef)
 | .cell a t=>do loadVar t (←asAddr (tmps.getD a undef))
theorem N1 (bc:C.en) (h:bw w0 F0 X F S s (fun t=>tmps.getD t undef) w) {v:ResultVar} {d:I} (aI:po C s v=some d):
  ∃x,(vg tmps v).run C.P w= .ok x w∧d.tree=true∧(∀vs,d≠.tuple vs)∧ck d x∧ak w F d (bU x) (S (kv v)):=by
 cases v with
 |tmp t=>
  simp only[po]at aI
  split at aI
  ·rename_i aY
   have mh:(∀vs,s t≠.tuple vs)∧d=s t:=by
    cases aa:s t<;>rw[aa]at aI<;>simp only at aI<;>first
     |(cases aI;done)
     |(simp only[Option.some.injEq]at aI;exact⟨(fun _ h=>by cases h),aI.symm⟩)
   obtain⟨mh,rfl⟩:=mh
   obtain⟨g1,g2⟩:=(aB.b9 aY).1 (h.cN t)
   exact⟨_,by simp[vg],aY,mh,g1,g2⟩
  ·cases aI
 |cell a T=>
  simp only[po]at aI
  split at aI
  ·rename_i e aa
   split at aI
   ·rename_i N2
    obtain⟨hE,N3⟩:=N2
    simp only[Option.some.injEq]at aI;subst aI
    have iI:=h.cN a
    rw[aa]at iI
    obtain⟨g1,g2⟩:=(aB.b9 (d:=.bM e) rfl).1 iI
    rw[gp g1,ak]at g2
    obtain⟨b,cur,ty,fr,aG,bV,b7,eh,dd,eO,ey,h9⟩:=g2
    simp only[List.cons.injEq,and_true]at bV
    have jo:hl w b 0 cur.toList:=by
     have:=sf eh cur.size
     rwa [List.take_of_length_le (by simp)]at this
    obtain⟨x,ea,bD,dt⟩:=w9 (C:=C) bc jo eO hE
    refine⟨x,?_,N3,?_,dt,?_⟩
    ·simp only[vg]
     rw[bV]
     simpa [asAddr]using ea
    ·intro vs fQ;subst fQ
     unfold fits at hE
     split at hE<;>simp_all
    ·rw[bD];exact ak.mono (fun _ h=>h) _ _ _ _ ey eO
   ·cases aI
  ·cases aI
theorem N4 (bc:C.en) (h:bw w0 F0 X F S s (fun t=>tmps.getD t undef) w):∀(fN:List ResultVar) (ds:List I),fN.map (po C s)=ds.map some→(fN.map kv).Nodup→
  ∃xs,(fN.mapM (vg tmps)).run C.P w= .ok xs w∧xs.length=ds.length∧aW w F ds (xs.flatMap hp) (fun b=>∃t∈fN.map kv,S t b)∧
   ∀(k:Nat) (d:I) (x:Value),ds[k]? =some d→xs[k]? =some x→ck d x∧(∀vs,d≠.tuple vs)∧(hp x).length=d.wd∧bU x=hp x∧d.tree=true:=by
 intro fN
 induction fN with
 |nil=>
  intro ds he _
  have:ds=[]:=by simpa using he.symm
  subst this
  exact⟨[],by simp,rfl,by simp only[List.flatMap_nil];rw[aW],fun k d x ah=>by simp at ah⟩
 |cons v fN ih=>
  intro ds he sL
  cases ds with
  |nil=>simp at he
  |cons d ds=>
   simp only[List.map_cons,List.cons.injEq]at he
   simp only[List.map_cons,List.nodup_cons]at sL
   obtain⟨x,ea,rt,bD,dt,cT⟩:=N1 bc h he.1
   obtain⟨xs,hh,ga,jf,jg⟩:=ih ds he.2 sL.2
   obtain⟨aT,aX⟩:=F8 bD dt
   refine⟨x::xs,by simp[List.mapM_cons,ea,hh],by simp[ga],?_,?_⟩
   ·simp only[List.flatMap_cons]
    rw[aW]
    rw[aT]at cT
    refine⟨hp x,xs.flatMap hp,S (kv v),fun b=>∃t∈fN.map kv,S t b,rfl,cT,jf,fun b U=>⟨kv v,by simp,U⟩,?_,?_⟩
    ·rintro b ⟨t,aY,U⟩;exact⟨t,by simp[aY],U⟩
    ·rintro b U ⟨t,aY,lC⟩
     have:t≠kv v:=fun e=>sL.1 (e▸aY)
     exact h.eN t (kv v) b this lC U
   ·intro k bf dv ah ai
    cases k with
    |zero=>
     simp at ah ai;subst ah ai
     refine⟨dt,bD,?_,aT,rt⟩
     rw[←aT];exact ak.length _ _ _ cT
    |succ k=>exact jg k bf dv (by simpa using ah) (by simpa using ai)
theorem F9 (bc:C.en) {f:FuncId} {fn:Func} {c:Code} {fx:List Nat} {as outs:List I} {r:I} (br:C.P.funcs[f]? =some fn) (U:fn.body=some c)
  (kU:(fn.name== "runtime.NumGoroutine")=false) (aV:as.length≤fn.ntmps)
  {w:World} {F X:Nat→Prop} {S:Nat→Nat→Prop} {vs:List Value} (aO:vs.length=as.length) (aH:bw w F X F S (e9 as) (gA vs) w)
  (BV:∀a,Rel w F X ⟨fn.ntmps,fx⟩ (gA vs) (e9 as) a w→(∀t,a.tmps.getD t undef=gA vs t)→c.wp C.P (sK w F X ⟨fn.ntmps,fx⟩ (gA vs) (fun e s=>(e= .normal∨e= .ret)∧fU (Ends C fx fn.results.toList r outs) s)) a w):
  n3 C.P f vs.toArray w fun v aA=>∃bC aG,bw w F X bC aG (e9 (r::outs)) (gA (v::vs)) aA:=by
 have mg:(vs.toArray++Array.replicate (fn.ntmps-vs.toArray.size) undef).size=fn.ntmps:=by simp;omega
 have dF:(fun t=>(vs.toArray++Array.replicate (fn.ntmps-vs.toArray.size) undef).getD t undef)=gA vs:=by
  funext t
  simp only[gA,Array.getD_eq_getD_getElem?,List.getD_eq_getElem?_getD]
  by_cases aY:t<vs.length
  ·rw[Array.getElem?_append_left (by simpa using aY)];simp
  ·rw[Array.getElem?_append_right (by simpa using aY)]
   rw[List.getElem?_eq_none (by omega)]
   simp only[Array.getElem?_replicate]
   split<;>rfl
 have pn:Rel w F X ⟨fn.ntmps,fx⟩ (gA vs) (e9 as) {tmps:=vs.toArray++Array.replicate (fn.ntmps-vs.toArray.size) undef,defers:=[]} w:=
  ⟨rfl,mg,fun i _=>congrFun dF i,F,S,by rw[dF];exact aH⟩
 have BW:fn.name≠ "runtime.NumGoroutine" :=by simpa using kU
 refine .inl ⟨by simp[callFunc,br,BW,U],calls_of_wp br U (wp_mono (BV _ pn (congrFun dF)) ?_)⟩
 rintro e cz aA ⟨aw,⟨he,N5⟩,N6⟩
 obtain⟨aw,⟨ds,iR,F_,sL,qV⟩,ah,dJ,hi,bC,aG,dV⟩:∃aw,BU C fx fn.results.toList r outs aw∧Rel w F X ⟨fn.ntmps,fx⟩ (gA vs) aw cz aA:=by
  obtain⟨aw,he,Ga⟩:=N6.fU N5
  rcases he with he|⟨t,y,q,d,s1,ad,ag,he⟩
  ·exact⟨aw,he,Ga⟩
  ·obtain⟨g1,g2,g3,F,S,g4⟩:=Ga
   obtain⟨aG,g5⟩:=g4.takes ad ag
   exact⟨_,he,g1,g2,g3,F,aG,g5⟩
 obtain⟨xs,hh,ga,jf,jg⟩:=N4 bc dV _ ds iR sL
 have N7:(results fn cz.tmps)=(do let vs←fn.results.mapM (vg cz.tmps);pure (if h:vs.size=1 then vs[0]else .tuple vs)):=by
  unfold results
  congr 1
 have q2:(results fn cz.tmps).run C.P aA= .ok (if h:xs.toArray.size=1 then xs.toArray[0]else .tuple xs.toArray) aA:=by
  rw[N7,Array.mapM_eq_mapM_toList]
  simp[hh]
 have qf:(r.tree=true∧ck r (if h:xs.toArray.size=1 then xs.toArray[0]else .tuple xs.toArray)∧
   ak aA bC r (bU (if h:xs.toArray.size=1 then xs.toArray[0]else .tuple xs.toArray)) (fun b=>∃t∈fn.results.toList.map kv,aG t b)):=by
  by_cases ad:∃d,ds=[d]
  ·obtain⟨d,rfl⟩:=ad
   obtain⟨x,rfl⟩:∃x,xs=[x]:=by
    cases xs with
    |nil=>simp at ga
    |cons x xs=>cases xs with
     |nil=>exact⟨x,rfl⟩
     |cons y cf=>simp at ga
   obtain⟨bV,b7,eh,dd,eO⟩:=jg 0 d x rfl rfl
   have N8:d=r:=F_.symm
   subst N8
   simp only[List.flatMap_cons,List.flatMap_nil,List.append_nil]at jf
   rw[aW]at jf
   obtain⟨b5,c2,bN,dc,aT,aX,aS,bQ,cp,bK⟩:=jf
   rw[aW]at aS;subst aS
   simp only[List.append_nil]at aT;subst aT
   have ai:(if h:([x]:List Value).toArray.size=1 then([x]:List Value).toArray[0]else .tuple ([x]:List Value).toArray)=x:=by simp
   rw[ai,dd]
   exact⟨eO,bV,ak.mono (fun _ h=>h) _ _ _ _ bQ aX⟩
  ·have N9:r= .tuple ds:=by
    rw[F_]
    cases ds with
    |nil=>rfl
    |cons d ds=>cases ds with
     |nil=>exact(ad ⟨d,rfl⟩).elim
     |cons e ds=>rfl
   have ai:(if h:xs.toArray.size=1 then xs.toArray[0]else Value.tuple xs.toArray)= .tuple xs.toArray:=by
    rw[dif_neg]
    intro dJ
    have:ds.length=1:=by rw[←ga];simpa using dJ
    obtain⟨d,ah⟩:=List.length_eq_one_iff.1 this
    exact ad ⟨d,ah⟩
   rw[ai,N9]
   refine⟨rfl,⟨xs.toArray,rfl,by simpa using ga,fun k d x ah ai=> ?_⟩,?_⟩
   ·obtain⟨bV,b7,eh,dd,_⟩:=jg k d x ah (by simpa using ai)
    exact⟨(F8 b7 bV).2,b7,eh⟩
   ·rw[ak]
    simpa [bU]using jf
 have post:∀(v:Value),(r.tree=true∧ck r v∧ak aA bC r (bU v) (fun b=>∃t∈fn.results.toList.map kv,aG t b))→∃sE bN,bw w F X sE bN (e9 (r::outs)) (gA (v::vs)) aA:=by
  rintro v ⟨v1,v2,v3⟩
  have BX:∀i,(outs.getD i .hole).hz=true→outs.getD i .hole=aw i∧i∈fx∧i∉fn.results.toList.map kv:=by
   intro i ay
   cases cd:outs[i]? with
   |none=>simp[List.getD,cd,I.hz]at ay
   |some o=>
    have e:outs.getD i .hole=o:=by simp[List.getD,cd]
    rw[e]at ay⊢
    rcases qV i o cd with h|h
    ·subst h;simp[I.hz]at ay
    ·exact⟨h.1,h.2.2⟩
  refine⟨bC,fun t b=>match t with|0=>∃t∈fn.results.toList.map kv,aG t b|i+1=>(outs.getD i .hole).hz=true∧aG i b,dV.gF,dV.gS,dV.eT,?_,?_,?_,?_,?_,dV.old,dV.size,dV.os,dV.tape,dV.output,aH.gn⟩
  ·intro t b U
   cases t with
   |zero=>obtain⟨t,_,U⟩:=U;exact dV.eg t b U
   |succ i=>exact dV.eg i b U.2
  ·intro t b U
   cases t with
   |zero=>obtain⟨t,_,U⟩:=U;exact dV.fa t b U
   |succ i=>exact dV.fa i b U.2
  ·intro t u b dr U hu
   cases t with
   |zero=>
    obtain⟨t,aY,U⟩:=U
    cases u with
    |zero=>exact dr rfl
    |succ j=>
     refine dV.eN t j b (fun e=> ?_) U hu.2
     subst e;exact(BX t hu.1).2.2 aY
   |succ i=>
    cases u with
    |zero=>
     obtain⟨t,aY,hu⟩:=hu
     refine dV.eN t i b (fun e=> ?_) hu U.2
     subst e;exact(BX t U.1).2.2 aY
    |succ j=>exact dV.eN i j b (by omega) U.2 hu.2
  ·intro t b U
   cases t with
   |zero=>obtain⟨t,_,U⟩:=U;exact dV.dp t b U
   |succ i=>exact dV.dp i b U.2
  ·intro t
   cases t with
   |zero=>exact(aB.b9 v1).2 ⟨v2,v3⟩
   |succ i=>
    show aB aA bC (e9 (r::outs)) (gA (v::vs)) (outs.getD i .hole) (vs.getD i undef) (fun b=>(outs.getD i .hole).hz=true∧aG i b)
    cases ay:(outs.getD i .hole).hz with
    |false=>
     have:outs.getD i .hole= .hole:=by
      cases cd:outs[i]? with
      |none=>simp[List.getD,cd]
      |some o=>
       have e:outs.getD i .hole=o:=by simp[List.getD,cd]
       rw[e]at ay⊢
       rcases qV i o cd with h|h
       ·exact h
       ·rw[h.2.1]at ay;cases ay
     rw[this,aB];trivial
    |true=>
     obtain⟨mL,n2,xu⟩:=BX i ay
     have aY:=(p8 ay).2.1
     have iI:=dV.cN i
     rw[←mL]at iI
     obtain⟨g1,g2⟩:=(aB.b9 aY).1 iI
     have aI:cz.tmps.getD i undef=vs.getD i undef:=hi i n2
     rw[aI]at g1 g2
     exact(aB.b9 aY).2 ⟨g1,ak.mono (fun _ h=>h) _ _ _ _ (fun b U=>⟨rfl,U⟩) g2⟩
 rcases he with rfl|rfl
 ·exact⟨ah,_,q2,_,rfl,post _ qf⟩
 ·exact⟨ah,_,q2,_,rfl,post _ qf⟩
theorem bh.of_wp (bc:C.en) {f:FuncId} {fn:Func} {c:Code} {e4:J} {fx:List Nat} {as outs:List I} {r:I} (br:C.P.funcs[f]? =some fn) (U:fn.body=some c)
  (kU:(fn.name== "runtime.NumGoroutine")=false) (aa:bt ⟨fn.ntmps,fx⟩ c=some e4.strip) (aV:as.length≤fn.ntmps)
  (h:cK C e4 (fun e s=>(e= .normal∨e= .ret)∧fU (Ends C fx fn.results.toList r outs) s) (e9 as)) (ao:e4.plain=true:=by kernel_rfl):bh C f as r outs:=
 fun w F X S vs aO aH=>F9 bc br U kU aV aO aH fun a pn _=>N0 bc c (by rw[J.FW];exact aa) (J.FX e4 (J.NN e4 ao)) (F4 e4 h) pn
end
def num:Nat→List I→List (Nat×I)
 |_,[]=>[]
 |k,a::as=>(k,a)::num (k+1) as
theorem N_:∀(as:List I) (k t:Nat),R (num k as) (k+t)=as.getD t .hole:=by
 intro as
 induction as with
 |nil=>intro k t;simp[num,R]
 |cons a as ih=>
  intro k t
  cases t with
  |zero=>simp[num,R]
  |succ t=>
   have:=ih (k+1) t
   simp only[num,R]
   rw[if_neg (by omega)]
   rw[show k+(t+1)=k+1+t by omega,this]
   simp
theorem Gb (as:List I):e9 as=R (num 0 as):=by
 funext t
 have:=N_ as 0 t
 rw[Nat.zero_add]at this
 rw[this];rfl
theorem kx (l:List (Nat×I)) (t:Nat) (d:I):c7 (R l) t d=R ((t,d)::l):=by
 funext u;simp only[c7,R]
def ns (t:Nat):List (Nat×I)→List (Nat×I)
 |[]=>[]
 |(u,d)::l=>(u,cl t d)::ns t l
def rn (t:Nat):List (Nat×I)→List (Nat×I)
 |[]=>[]
 |(u,d)::l=>(u,bR t d)::rn t l
theorem sM (t:Nat):∀l:List (Nat×I),mD t (R l)=R (ns t l):=by
 intro l
 funext u
 induction l with
 |nil=>rfl
 |cons p l ih=>
  obtain⟨v,d⟩:=p
  simp only[mD,R,ns]at ih⊢
  split
  ·rfl
  ·exact ih
theorem Oa (t:Nat):∀l:List (Nat×I),hR t (R l)=R (rn t l):=by
 intro l
 funext u
 induction l with
 |nil=>rfl
 |cons p l ih=>
  obtain⟨v,d⟩:=p
  simp only[hR,R,rn]at ih⊢
  split
  ·rfl
  ·exact ih
def iT (k:List Nat) (s:an):List (Nat×I):=k.map fun t=>(t,s t)
section
variable {C:bS} {l:List (Nat×I)}
def fj.rp:fj→Bool
 | .call _ _=>true
 | .bg _=>false
 | .fk _=>false
 | .pick _ _ _=>false
 | .gU _=>false
 | .cQ _ _=>false
 | .fE _ _=>false
 | .dT _ _ _=>false
 | .bY _ _=>false
 | .gd _ _ _=>false
 | .eo _=>false
 | .bx _ _ _ _=>false
 | .un _ _=>false
 | .gr _ _ _=>false
 | .kc _ _=>false
 | .dX _ _ _=>false
 | .dh _ _ _ _=>false
 | .cH _ _ _=>false
 | .dO _ _ _=>false
 | .idx _ _ _=>false
 | .ex _ _=>false
 | .lF _ _ _=>false
 | .len _ _=>false
 | .app _ _ _ _=>false
 | .shr _=>true
 | .ni _ _ _ _=>false
 | .cap _ _=>false
 | .h_ _ _ _=>false
 | .bad=>false
 | .me _ _ _ _=>true
 | .mf _ _ _=>true
 | .kM _ _=>false
 | .p6 _=>false
 | .pe _=>false
 | .uT=>false
 | .nh _ _ _=>false
 | .mc _ _ _ _=>false
variable {Q:Exit→an→Prop}
def I.Gc:I→Bool
 | .tuple _=>true
 |_=>false
theorem Ends.one {fx:List Nat} {t:Nat} {r:I} {s:an} (ad:s t=r) (ag:(r.tree&& !r.Gc)=true):Ends C fx [.tmp t] r [] s:=by
 simp only[Bool.and_eq_true,Bool.not_eq_true']at ag
 obtain⟨ag,xD⟩:=ag
 have aF:∀vs,r≠.tuple vs:=fun vs e=>by subst e;simp[I.Gc]at xD
 refine .inl ⟨[r],?_,rfl,by simp,fun i o h=>by simp at h⟩
 have:po C s (.tmp t)=some r:=by
  simp only[po,ad,ag,if_true]
  try (cases r<;>first|rfl|exact(aF _ rfl).elim)
 simp only[List.map_cons,List.map_nil,this]
end
section
variable {C:bS} {l:List (Nat×I)} {Q:Exit→an→Prop}
theorem bh.outs {f:FuncId} {as:List I} {r:I} {mL n2:List I} (h:bh C f as r mL) (he:e9 mL=e9 n2):bh C f as r n2:=by
 intro w F X S vs aO aH
 refine n3.mono (h w F X S vs aO aH) ?_
 rintro v aA ⟨bC,aG,bb⟩
 refine⟨bC,aG,?_⟩
 have:e9 (r::n2)=e9 (r::mL):=by
  funext t
  cases t with
  |zero=>rfl
  |succ t=>exact(congrFun he t).symm
 rw[this];exact bb
def lO:List I→List I→List cR
 |a::as,d::ds=>⟨a,false,d,.hole⟩::lO as ds
 |_,_=>[]
theorem Ob {s:an}:∀(as ds:List I),views s as=some ds→(lO as ds).map (·.a)=as∧(lO as ds).map (·.d)=ds∧(∀p∈lO as ds,p.ok s∧p.g=false∧p.o= .hole∧p.a∈as)∧iS (lO as ds)=true∧
  e9 ((lO as ds).map (·.o))=e9 []∧(∀pq,fG pq (lO as ds)=pq)∧(∀pq,ju pq (lO as ds)=pq):=by
 intro as
 induction as with
 |nil=>
  intro ds h
  simp only[views,Option.some.injEq]at h;subst h
  exact⟨rfl,rfl,(fun p ao=>by cases ao),rfl,rfl,fun _=>rfl,fun _=>rfl⟩
 |cons a as ih=>
  intro ds h
  simp only[views]at h
  split at h
  ·rename_i d Oc ad ag
   simp only[Option.some.injEq]at h;subst h
   obtain⟨aT,aX,aS,bQ,cp,bK,bH⟩:=ih Oc ag
   refine⟨by simp only[lO,List.map_cons,aT],by simp only[lO,List.map_cons,aX],?_,?_,?_,?_,?_⟩
   ·intro p ao
    simp only[lO,List.mem_cons]at ao
    rcases ao with rfl|ao
    ·exact⟨by simp only[cR.ok];exact ad,rfl,rfl,by simp⟩
    ·obtain⟨g1,g2,g3,g4⟩:=aS p ao
     exact⟨g1,g2,g3,by simp[g4]⟩
   ·simp only[lO,iS,bQ,Bool.and_true,List.all_eq_true]
    intro p ao
    simp[(aS p ao).2.1]
   ·funext t
    cases t with
    |zero=>rfl
    |succ t=>exact(congrFun cp t).trans (by simp[e9])
   ·intro pq;exact bK pq
   ·intro pq;exact bH pq
  ·cases h
end
structure eU where
 bz:List Nat
 H:List Nat
 T:List Nat
 c:Bool
mutual
def I.clean:I→Bool
 | .hole=>false
 | .fn _ cap=>I.sN cap
 |_=>true
def I.sN:List I→Bool
 |[]=>true
 |d::ds=>d.clean&&I.sN ds
end
mutual
theorem Gd {x:Nat}:∀a:I,(bR x a).clean=true→bR x a=a
 | .h y q,h=>by
   simp only[bR]at h⊢
   split
   ·rename_i e;rw[if_pos e]at h
    split
    ·rfl
    ·rename_i fQ;rw[if_neg fQ]at h;simp[I.clean]at h
   ·rfl
 | .ao y q,h=>by
   simp only[bR]at h⊢
   split
   ·rename_i e;rw[if_pos e]at h;simp[I.clean]at h
   ·rfl
 | .U y q,h=>rfl
 | .fn f cap,h=>by simp only[bR,I.clean]at h⊢;rw[Ge cap h]
 | .hole,_=>rfl
 | .bool _,_=>rfl
 | .et,_=>rfl
 | .int _ _,_=>rfl
 | .str _,_=>rfl
 | .cS,_=>rfl
 | .bk,_=>rfl
 | .slice _,_=>rfl
 | .aL _ _,_=>rfl
 | .ref _,_=>rfl
 | .bM _,_=>rfl
 | .agg _,_=>rfl
 | .tuple _,_=>rfl
 | .dq _,_=>rfl
theorem Ge {x:Nat}:∀ds:List I,I.sN (h4 x ds)=true→h4 x ds=ds
 |[],_=>rfl
 |d::ds,h=>by
  simp only[h4,I.sN,Bool.and_eq_true]at h⊢
  rw[Gd d h.1,Ge ds h.2]
end
mutual
theorem Gf {x:Nat}:∀a:I,(cl x a).clean=true→cl x a=a
 | .h y q,h=>by
   simp only[cl]at h⊢
   split
   ·rename_i e;rw[if_pos e]at h;simp[I.clean]at h
   ·rfl
 | .ao y q,h=>by
   simp only[cl]at h⊢
   split
   ·rename_i e;rw[if_pos e]at h;simp[I.clean]at h
   ·rfl
 | .U y q,h=>by
   simp only[cl]at h⊢
   split
   ·rename_i e;rw[if_pos e]at h;simp[I.clean]at h
   ·rfl
 | .fn f cap,h=>by simp only[cl,I.clean]at h⊢;rw[Gg cap h]
 | .hole,_=>rfl
 | .bool _,_=>rfl
 | .et,_=>rfl
 | .int _ _,_=>rfl
 | .str _,_=>rfl
 | .cS,_=>rfl
 | .bk,_=>rfl
 | .slice _,_=>rfl
 | .aL _ _,_=>rfl
 | .ref _,_=>rfl
 | .bM _,_=>rfl
 | .agg _,_=>rfl
 | .tuple _,_=>rfl
 | .dq _,_=>rfl
theorem Gg {x:Nat}:∀ds:List I,I.sN (iF x ds)=true→iF x ds=ds
 |[],_=>rfl
 |d::ds,h=>by
  simp only[iF,I.sN,Bool.and_eq_true]at h⊢
  rw[Gf d h.1,Gg ds h.2]
end
theorem Od {k:oI} {x:Nat} {a:I} (h:(k.app x a).clean=true):k.app x a=a:=by
 cases k with
 |no=>rfl
 |bR=>exact Gd a h
 |cl=>exact Gf a h
theorem Oe:∀(ms:List gu) (u:Nat) (a:I),(∀m∈ms,m.x≠u)→(jt ms u a).clean=true→jt ms u a=a:=by
 intro ms
 induction ms with
 |nil=>intros;rfl
 |cons m ms ih=>
  intro u a ai aj
  simp only[jt]at aj⊢
  have e:=ih u _ (fun jq rq=>ai jq (by simp[rq])) aj
  have hm:m.at u a=m.k.app m.x a:=by
   simp only[gu.at];rw[if_neg (fun e=>ai m (by simp) e.symm)]
  rw[e,hm]
  rw[e,hm]at aj
  exact Od aj
theorem Of:∀(ms:List gu) (u:Nat) (a:I),(∀m∈ms,m.x≠u∧m.x∉a.aa)→jt ms u a=a:=by
 intro ms
 induction ms with
 |nil=>intros;rfl
 |cons m ms ih=>
  intro u a ai
  simp only[jt]
  have hm:m.at u a=a:=by
   simp only[gu.at];rw[if_neg (fun e=>(ai m (by simp)).1 e.symm)]
   exact uW (.inr (ai m (by simp)).2)
  rw[hm]
  exact ih u a fun jq rq=>ai jq (by simp[rq])
theorem Og (m:gu):∀(ms:List gu) (u:Nat) (a:I),(∀jq∈ms,jq.x≠m.x∧jq.x∉m.d.aa∧m.x∉jq.d.aa)→jt ms u (m.at u a)=m.at u (jt ms u a):=by
 intro ms
 induction ms with
 |nil=>intros;rfl
 |cons n ms ih=>
  intro u a ai
  simp only[jt]
  have aV:=ai n (by simp)
  have aj:n.at u (m.at u a)=m.at u (n.at u a):=by
   simp only[gu.at]
   by_cases aT:u=n.x
   ·subst aT
    rw[if_pos rfl,if_neg aV.1,if_pos rfl]
    exact(uW (.inr aV.2.2)).symm
   ·rw[if_neg aT]
    by_cases aX:u=m.x
    ·subst aX
     rw[if_pos rfl,if_pos rfl]
     exact uW (.inr aV.2.1)
    ·rw[if_neg aX,if_neg aT,if_neg aX]
     exact My _ _ _ _ _
  rw[aj]
  exact ih u _ fun jq rq=>ai jq (by simp[rq])
theorem Oh:∀(ms kt:List gu) (s:an),(∀m∈ms,∀n∈kt,n.x≠m.x∧n.x∉m.d.aa∧m.x∉n.d.aa)→cX kt (cX ms s)=cX ms (cX kt s):=by
 intro ms
 induction ms with
 |nil=>intros;rfl
 |cons m ms ih=>
  intro kt s h
  have e:∀s,cX (m::ms) s=cX ms (cX [m] s):=fun s=>lg [m] ms s
  rw[e,e,ih kt _ (fun jq rq=>h jq (by simp[rq]))]
  congr 1
  funext u
  simp only[cX,jt]
  exact Og m kt u _ (h m (by simp))
def BZ (C:bS) (s:an) (f:aC) (args:List aC) (K:List Nat→I→an→Prop):Prop:=
 ∃(g:FuncId) (caps:List I) (ps:List cR) (r:I),aE s f= .fn g caps∧I.fK caps=true∧ps.map (·.a)=args.map (aE s)++caps∧(∀p∈ps,p.ok s)∧iS ps=true∧
   bh C g (ps.map (·.d)) r (ps.map (·.o))∧r.res=true∧(lh ps=true→r.cU=true∧∀p∈ps,p.o.cU=true)∧K (I.dK ((ps.filter (·.g)).map (·.a))) r (ju (fG s ps) ps)
def oR (C:bS) (s:an) (bA:fj) (K:List Nat→I→an→Prop):Prop:=
 match bA with
 | .call f args=>∃(g:FuncId) (caps:List I) (ps:List cR) (r:I),aE s f= .fn g caps∧I.fK caps=true∧ps.map (·.a)=args.map (aE s)++caps∧(∀p∈ps,p.ok s)∧iS ps=true∧
   bh C g (ps.map (·.d)) r (ps.map (·.o))∧r.res=true∧(lh ps=true→r.cU=true∧∀p∈ps,p.o.cU=true)∧K (I.dK ((ps.filter (·.g)).map (·.a))) r (ju (fG s ps) ps)
 | .shr bA=>∃av s1,bq C s bA=some (av,s1)∧av.tree=true∧(∀vs,av≠.tuple vs)∧K (cO s bA) av.share s1
 | .me f args u x=>s u= .h x []∧(s x).own=true∧BZ C s f args fun ch av s1=>s1 u= .hole∧(s1 x).own=true∧K (u::ch) av (c7 s1 u (.h x []))
 | .mf f args us=>oN s (lN s us)=true∧BZ C s f args fun ch av s1=>oN s1 (lN s us)=true∧K (us++ch) av (pk s1 (lN s us))
 |bA=>∃av s1,bq C s bA=some (av,s1)∧K (cO s bA) av s1
def iq (s:an) (bz:List Nat) (dst:Option Nat) (ch:List Nat) (av:I):eU:=
 ⟨bz,bz.flatMap (fun u=>(s u).aa)++av.aa,dst.toList++ch,bz.all fun u=>(s u).clean⟩
def n9 (C:bS) (s:an) (o:bO) (K:eU→an→Prop):Prop:=
 match o.guard with
 |none=>oR C s o.bA fun ch av s1=>K (iq s (use s o.bA) o.dst ch av) (fin s1 o.dst av)
 |some (t,b)=>match s t with
  | .bool e8=>if e8=b then oR C s o.bA (fun ch av s1=>K (iq s (t::use s o.bA) o.dst ch av) (fin s1 o.dst av))else K (iq s [t] o.dst [] (.tuple [])) (fin s o.dst (.tuple []))
  | .tuple []=>K (iq s [t] o.dst [] (.tuple [])) (fin s o.dst (.tuple []))
  |_=>False
def qg:Option (List eU)→eU→Option (List eU)
 |none,_=>none
 |some l,f=>some (f::l)
def cj (C:bS) (s:an):List bO→Option (List eU)→(Option (List eU)→an→Prop)→Prop
 |[],acc,K=>K acc s
 |o::os,acc,K=>n9 C s o fun f s1=>cj C s1 os (qg acc f) K
section
variable {C:bS}
theorem Gh {s:an} {bA:fj} {K:List Nat→I→an→Prop} {cV:I→an→Prop} (ax:∀ch av s,K ch av s→cV av s) (h:oR C s bA K):nq C s bA cV:=by
 cases bA with
 |call f args=>
  obtain⟨g,caps,ps,r,ad,gO,ag,aF,a8,bF,cn,cD,eu⟩:=h
  exact⟨g,caps,ps,r,ad,gO,ag,aF,a8,bF,cn,cD,ax _ _ _ eu⟩
 |me f args u x=>
  obtain⟨bV,b7,g,caps,ps,r,ad,gO,ag,aF,a8,bF,cn,cD,eu,gK,hn⟩:=h
  exact⟨bV,b7,g,caps,ps,r,ad,gO,ag,aF,a8,bF,cn,cD,eu,gK,ax _ _ _ hn⟩
 |mf f args us=>
  obtain⟨b7,g,caps,ps,r,ad,gO,ag,aF,a8,bF,cn,cD,eu,gK⟩:=h
  exact⟨b7,g,caps,ps,r,ad,gO,ag,aF,a8,bF,cn,cD,eu,ax _ _ _ gK⟩
 |shr bA=>
  obtain⟨av,s1,ad,ag,aF,a8⟩:=h
  exact⟨av,s1,ad,ag,aF,ax _ _ _ a8⟩
 |_=>
  obtain⟨av,s1,ad,ag⟩:=h
  exact⟨av,s1,ad,ax _ _ _ ag⟩
theorem Oi {s:an} {o:bO} {K:eU→an→Prop} {cV:an→Prop} (ax:∀f s,K f s→cV s) (h:n9 C s o K):lj C s o cV:=by
 unfold n9 at h
 unfold lj
 split
 ·rename_i hg;rw[hg]at h;exact Gh (fun _ _ _=>ax _ _) h
 ·rename_i t b hg
  rw[hg]at h
  simp only at h
  split
  ·rename_i e8 aa
   rw[aa]at h
   simp only at h
   split
   ·rename_i U;rw[if_pos U]at h;exact Gh (fun _ _ _=>ax _ _) h
   ·rename_i U;rw[if_neg U]at h;exact ax _ _ h
  ·rename_i aa;rw[aa]at h;exact ax _ _ h
  ·rename_i ad ag
   split at h
   ·exact ad _ (by assumption)
   ·exact ag (by assumption)
   ·exact h
theorem xE {K:an→Prop}:∀{ros:List bO} {s:an} {acc:Option (List eU)} {cV:Option (List eU)→an→Prop},(∀a s,cV a s→K s)→cj C s ros acc cV→kS C s ros K:=by
 intro ros
 induction ros with
 |nil=>intro s acc cV ax h;exact ax _ _ h
 |cons o ros ih=>intro s acc cV ax h;exact Oi (fun f s h=>ih ax h) h
theorem Gi {q:List Nat} {a d:I} (h:I.sub q a=some d) (cM:q≠[]∨d.aa=[]):a.aa=[]:=by
 cases q with
 |nil=>
  simp only[I.sub,Option.some.injEq]at h;subst h
  exact cM.resolve_left (fun e=>e rfl)
 |cons k q=>cases a<;>first|rfl|(simp[I.sub]at h)
def xF (s:an) (p:cR) (e:I→Prop):Prop:=p.g=true→∃x q d,p.a= .h x q∧I.sub q (s x)=some d∧e d∧(p.o= .hole∨p.o.hz=true)
theorem Gj {d:I} (h:d.hz=true):d.aa=[]:=FC (p8 h).2.1
theorem Gk {d:I} (h:d.hz=true):d.cG.aa=[]:=by cases d<;>first|rfl|(simp[I.hz]at h)
theorem Gl {p:cR} {ps:List cR} (h:iS (p::ps)=true):iS ps=true∧∀ca∈ps,(p.g=true∨ca.g=true)→∀u∈p.a.aa,u∉ca.a.aa:=by
 simp only[iS,Bool.and_eq_true,List.all_eq_true,Bool.or_eq_true,Bool.not_eq_true']at h
 refine⟨h.2,fun ca dY hg u hu=> ?_⟩
 rcases h.1 ca dY with e|e
 ·rcases hg with hg|hg<;>simp[hg]at e
 ·simpa using e u hu
def rr (ps:List cR):List Nat:=I.dK ((ps.filter (·.g)).map (·.a))
theorem sO (p:cR) (ps:List cR):(∀u∈rr ps,u∈rr (p::ps))∧(p.g=true→∀u∈p.a.aa,u∈rr (p::ps)):=by
 unfold rr
 by_cases hg:p.g=true
 ·simp only[List.filter_cons,hg,if_true,List.map_cons,I.dK,List.mem_append]
  exact⟨fun u h=>.inr h,fun _ u h=>.inl h⟩
 ·simp only[List.filter_cons,hg]
  exact⟨fun u h=>h,fun h=>by simp at h⟩
theorem Oj {p:cR} {ps:List cR} (h:p∈ps):∀u∈p.a.aa,u∈I.dK (ps.map (·.a)):=by
 induction ps with
 |nil=>cases h
 |cons ca ps ih=>
  intro u hu
  simp only[List.map_cons,I.dK,List.mem_append]
  rcases List.mem_cons.1 h with rfl|h
  ·exact .inl hu
  ·exact .inr (ih h u hu)
theorem Ok:∀(ps:List cR) (s:an),(∀p∈ps,xF s p (fun d=>d=p.d∧p.d.hz=true))→iS ps=true→
  (∃ms:List gu,(∀m∈ms,m.x∈rr ps∧m.d.aa=[])∧∀aw,c8 (I.dK (ps.map (·.a))) aw s→fG aw ps=cX ms aw)∧∀p∈ps,xF (fG s ps) p (fun d=>d=p.d.cG∧p.d.hz=true):=by
 intro ps
 induction ps with
 |nil=>intro s _ _;exact⟨⟨[],by simp,fun aw _=>rfl⟩,fun p ao=>by cases ao⟩
 |cons p ps ih=>
  intro s hg ks
  obtain⟨n1,nn⟩:=Gl ks
  by_cases lP:p.g=true
  ·obtain⟨x,q,d,cb,aa,⟨rfl,ah⟩,cd⟩:=hg p (by simp) lP
   have jO:(I.put q p.d.cG (s x)).aa=[]:=sB q _ _ _ aa (.inl (p8 ah).1) fun _=>Gk ah
   have vh:∀aw:an,aw x=s x→p.take aw=cX [⟨.bR,x,I.put q p.d.cG (s x)⟩] aw:=by
    intro aw e
    simp only[cR.take,lP,if_true,cb,e,ri]
   have dr:∀ca∈ps,∀dv h5,ca.a= .h dv h5→dv≠x:=by
    intro ca dY dv h5 e fQ
    have:=nn ca dY (.inl lP) x (by simp[cb,I.aa])
    rw[e,fQ]at this;simp[I.aa]at this
   have p9:∀dv,dv≠x→(s dv).aa=[]→cX [⟨.bR,x,I.put q p.d.cG (s x)⟩] s dv=s dv:=by
    intro dv sl bm
    simp only[cX,jt,gu.at]
    rw[if_neg sl]
    exact uW (.inr (by rw[bm];simp))
   obtain⟨⟨ms,m1,m2⟩,m3⟩:=ih (cX [⟨.bR,x,I.put q p.d.cG (s x)⟩] s) (fun ca dY B0=>by
    obtain⟨dv,h5,bf,pj,fM,gL,vi⟩:=hg ca (by simp[dY]) B0
    refine⟨dv,h5,bf,pj,?_,gL,vi⟩
    rw[p9 dv (dr ca dY dv h5 pj) (Gi fM (.inr (by rw[gL.1];exact Gj gL.2)))];exact fM) n1
   refine⟨⟨[⟨.bR,x,I.put q p.d.cG (s x)⟩]++ms,?_,?_⟩,?_⟩
   ·intro m hm
    rcases List.mem_append.1 hm with hm|hm
    ·simp only[List.mem_singleton]at hm;subst hm
     exact⟨(sO p ps).2 lP x (by simp[cb,I.aa]),jO⟩
    ·exact⟨(sO p ps).1 _ (m1 m hm).1,(m1 m hm).2⟩
   ·intro aw fM
    simp only[List.map_cons,I.dK]at fM
    have e:aw x=s x:=fM x (by simp[cb,I.aa])
    rw[lg]
    show fG (p.take aw) ps=_
    rw[vh aw e]
    exact m2 _ (c8.cX fM.right _)
   ·have aT:fG s (p::ps)=fG (cX [⟨.bR,x,I.put q p.d.cG (s x)⟩] s) ps:=by
     show fG (p.take s) ps=_
     rw[vh s rfl]
    rw[aT]
    intro ca dY
    rcases List.mem_cons.1 dY with rfl|dY
    ·intro _
     refine⟨x,q,ca.d.cG,cb,?_,⟨rfl,ah⟩,cd⟩
     have aI:cX [⟨.bR,x,I.put q ca.d.cG (s x)⟩] s x=I.put q ca.d.cG (s x):=by
      simp only[cX,jt,gu.at,if_true]
     rw[Bw (by rw[aI];exact jO) (fun Ol Om al4=> ?_),aI]
     ·exact Fz q _ _ _ aa
     ·exact nn Ol Om (.inl lP) x (by simp[cb,I.aa])
    ·exact m3 ca dY
  ·have vh:∀aw:an,p.take aw=aw:=by intro aw;simp only[cR.take,lP];rfl
   obtain⟨⟨ms,m1,m2⟩,m3⟩:=ih s (fun ca dY=>hg ca (by simp[dY])) n1
   refine⟨⟨ms,fun m hm=>⟨(sO p ps).1 _ (m1 m hm).1,(m1 m hm).2⟩,?_⟩,?_⟩
   ·intro aw fM
    simp only[List.map_cons,I.dK]at fM
    show fG (p.take aw) ps=_
    rw[vh];exact m2 aw fM.right
   ·intro ca dY
    have aT:fG s (p::ps)=fG s ps:=by show fG (p.take s) ps=_;rw[vh]
    rw[aT]
    rcases List.mem_cons.1 dY with rfl|dY
    ·intro h;exact(lP h).elim
    ·exact m3 ca dY
theorem On:∀(ps:List cR) (s:an),(∀p∈ps,xF s p (fun d=>d=p.d.cG∧p.d.hz=true))→iS ps=true→
  (∃ms:List gu,(∀m∈ms,m.x∈rr ps∧m.d.aa=[])∧∀aw,c8 (I.dK (ps.map (·.a))) aw s→ju aw ps=cX ms aw):=by
 intro ps
 induction ps with
 |nil=>intro s _ _;exact⟨[],by simp,fun aw _=>rfl⟩
 |cons p ps ih=>
  intro s hg ks
  obtain⟨n1,nn⟩:=Gl ks
  by_cases lP:p.g=true∧p.o≠.hole
  ·obtain⟨lP,Oo⟩:=lP
   obtain⟨x,q,d,cb,aa,⟨rfl,ah⟩,cd⟩:=hg p (by simp) lP
   have cd:p.o.hz=true:=cd.resolve_left Oo
   have jO:(I.put q p.o (s x)).aa=[]:=by
    cases q with
    |nil=>simp only[I.put];exact Gj cd
    |cons k q=>exact sB _ _ _ _ aa (.inr (by simp)) (by simp)
   have B1:∀aw:an,aw x=s x→p.kd aw=cX [⟨.cl,x,I.put q p.o (s x)⟩] aw:=by
    intro aw e
    simp only[cR.kd,lP,if_true,cb]
    rw[e,Fg]
   have dr:∀ca∈ps,∀dv h5,ca.a= .h dv h5→dv≠x:=by
    intro ca dY dv h5 e fQ
    have:=nn ca dY (.inl lP) x (by simp[cb,I.aa])
    rw[e,fQ]at this;simp[I.aa]at this
   obtain⟨ms,m1,m2⟩:=ih (cX [⟨.cl,x,I.put q p.o (s x)⟩] s) (fun ca dY B0=>by
    obtain⟨dv,h5,bf,pj,fM,gL,vi⟩:=hg ca (by simp[dY]) B0
    refine⟨dv,h5,bf,pj,?_,gL,vi⟩
    have bm:=Gi fM (.inr (by rw[gL.1];exact Gk gL.2))
    have p9:cX [⟨.cl,x,I.put q p.o (s x)⟩] s dv=s dv:=by
     simp only[cX,jt,gu.at]
     rw[if_neg (dr ca dY dv h5 pj)]
     exact uW (.inr (by rw[bm];simp))
    rw[p9];exact fM) n1
   refine⟨[⟨.cl,x,I.put q p.o (s x)⟩]++ms,?_,?_⟩
   ·intro m hm
    rcases List.mem_append.1 hm with hm|hm
    ·simp only[List.mem_singleton]at hm;subst hm
     exact⟨(sO p ps).2 lP x (by simp[cb,I.aa]),jO⟩
    ·exact⟨(sO p ps).1 _ (m1 m hm).1,(m1 m hm).2⟩
   ·intro aw fM
    simp only[List.map_cons,I.dK]at fM
    have e:aw x=s x:=fM x (by simp[cb,I.aa])
    rw[lg]
    show ju (p.kd aw) ps=_
    rw[B1 aw e]
    exact m2 _ (c8.cX fM.right _)
  ·have B1:∀aw:an,p.kd aw=aw:=by
    intro aw
    unfold cR.kd
    split
    ·rename_i gN
     have:p.o= .hole:=by
      by_cases h:p.o= .hole
      ·exact h
      ·exact(lP ⟨gN,h⟩).elim
     rw[this]
    ·rfl
   obtain⟨ms,m1,m2⟩:=ih s (fun ca dY=>hg ca (by simp[dY])) n1
   refine⟨ms,fun m hm=>⟨(sO p ps).1 _ (m1 m hm).1,(m1 m hm).2⟩,?_⟩
   intro aw fM
   simp only[List.map_cons,I.dK]at fM
   show ju (p.kd aw) ps=_
   rw[B1];exact m2 aw fM.right
theorem Oq {s aw:an}:∀(a:I) (d:I),c8 a.aa aw s→view s a=some d→view aw a=some d:=by
 intro a d h
 have:=BA (s:=s) (aw:=aw) a d
 intro aI
 cases a with
 |h x q=>simp only[view]at aI⊢;rw[h x (by simp[I.aa])];exact aI
 |ao x q=>simp only[view]at aI⊢;rw[h x (by simp[I.aa])];exact aI
 |fn f cap=>
  refine this (fun u hu _=>h u hu) aI
 |_=>exact aI
theorem Ot {p:cR} {s aw:an} (h:c8 p.a.aa aw s) (gv:p.ok s):p.ok aw:=by
 unfold cR.ok at gv⊢
 split
 ·rename_i hg
  rw[if_pos hg]at gv
  cases cb:p.a with
  |h x q=>
   rw[cb]at gv
   simp only at gv⊢
   rw[h x (by simp[cb,I.aa])];exact gv
  |_=>rw[cb]at gv;exact gv.elim
 ·rename_i hg
  rw[if_neg hg]at gv
  exact Oq _ _ h gv
def xG (C:bS) (o:bO) (s:an) (ke:eU) (ms:List gu):Prop:=
 (∀aw,c8 ke.bz aw s→∀K:an→Prop,K (cX ms aw)→lj C aw o K)∧(∀m∈ms,m.x∈ke.T∧∀u∈m.d.aa,u∈ke.H)∧(∀u∈ke.bz,∀x∈(s u).aa,x∈ke.H)∧(ke.c=true→∀u∈ke.bz,(s u).clean=true)
theorem Gm (dst:Option Nat) (av:I):∃ms:List gu,(∀m∈ms,m.x∈dst.toList∧m.d=av)∧∀s1:an,fin s1 dst av=cX ms s1:=by
 cases dst with
 |none=>exact⟨[],by simp,fun s=>rfl⟩
 |some t=>
  simp only[fin]
  by_cases h:av.plain=true
  ·exact⟨[⟨.no,t,av⟩],by simp,fun s=>by rw[if_pos h,Bj]⟩
  ·exact⟨[⟨.cl,t,av⟩],by simp,fun s=>by rw[if_neg h,Fg]⟩
theorem xH {s:an} {bz:List Nat} {dst:Option Nat} {ch:List Nat} {av:I}:(∀u∈(iq s bz dst ch av).bz,∀x∈(s u).aa,x∈(iq s bz dst ch av).H)∧((iq s bz dst ch av).c=true→∀u∈(iq s bz dst ch av).bz,(s u).clean=true):=by
 refine⟨fun u hu x ai=> ?_,fun aj=> ?_⟩
 ·simp only[iq,List.mem_append,List.mem_flatMap];exact .inl ⟨u,hu,ai⟩
 ·simp only[iq,List.all_eq_true]at aj;exact aj
theorem B2 {s:an} {f:aC} {args:List aC} {K:List Nat→I→an→Prop} (h:BZ C s f args K):
  ∃ch av ms,K ch av (cX ms s)∧(∀m∈ms,m.x∈ch∧m.d.aa=[])∧∀aw,c8 (use s (.call f args)) aw s→∀cV:I→an→Prop,cV av (cX ms aw)→xw C aw f args cV:=by
 obtain⟨g,caps,ps,r,ad,gO,ag,aF,a8,bF,cn,cD,eu⟩:=h
 have Ou:∀p∈ps,xF s p (fun d=>d=p.d∧p.d.hz=true):=by
  intro p ao hg
  have:=aF p ao
  simp only[cR.ok,hg,if_true]at this
  cases cb:p.a with
  |h x q=>rw[cb]at this;exact⟨x,q,p.d,rfl,this.1,⟨rfl,this.2.1⟩,this.2.2.imp id fun h=>h.1⟩
  |_=>rw[cb]at this;exact this.elim
 obtain⟨⟨n0,ab,a2⟩,a3⟩:=Ok ps s Ou a8
 obtain⟨p4,kP,h8⟩:=On ps (fG s ps) a3 a8
 have oG:∀u∈I.dK (ps.map (·.a)),u∈use s (.call f args):=by
  rw[ag]
  intro u hu
  simp only[use,List.mem_append]
  have key:∀(gq l2:List I),u∈I.dK (gq++l2)→u∈I.dK gq∨u∈I.dK l2:=by
   intro gq
   induction gq with
   |nil=>intro l2 h;exact .inr h
   |cons a gq ih=>
    intro l2 h
    simp only[List.cons_append,I.dK,List.mem_append]at h⊢
    rcases h with h|h
    ·exact .inl (.inl h)
    ·exact(ih l2 h).imp .inr id
  rcases key _ _ hu with hu|hu
  ·exact .inr (aC.xq u hu)
  ·refine .inl (aC.rj u ?_)
   rw[ad];exact hu
 have gf:ju (fG s ps) ps=cX (n0++p4) s:=by
  rw[lg,←a2 s (fun _ _=>rfl),h8 _ (fun _ _=>rfl)]
 refine⟨rr ps,r,n0++p4,by rw[←gf];exact eu,?_,?_⟩
 ·intro m hm
  rcases List.mem_append.1 hm with hm|hm
  ·exact ab m hm
  ·exact kP m hm
 ·intro aw aa cV ax
  have pg:c8 (I.dK (ps.map (·.a))) aw s:=aa.sub oG
  have br:c8 (f.use s) aw s:=by simp only[use]at aa;exact aa.left
  have ai:c8 (aC.nm s args) aw s:=by simp only[use]at aa;exact aa.right
  have aT:ju (fG aw ps) ps=cX (n0++p4) aw:=by
   rw[lg,←a2 aw pg,h8]
   rw[a2 aw pg,a2 s (fun _ _=>rfl)]
   exact c8.cX pg _
  exact⟨g,caps,ps,r,by rw[aC.eP br];exact ad,gO,by rw[aC.Bn ai];exact ag,fun p ao=>Ot (pg.sub (Oj ao)) (aF p ao),a8,bF,cn,cD,by rw[aT];exact ax⟩
mutual
theorem Gn {s aw:an}:∀(d:I),c8 d.aa aw s→d.gW aw=d.gW s
 | .h x q,h=>by simp only[I.gW];rw[h x (by simp[I.aa])]
 | .U x q,h=>by simp only[I.gW];rw[h x (by simp[I.aa])]
 | .fn f cap,h=>by simp only[I.gW];exact Gp cap (by simpa only[I.aa]using h)
 | .ao _ _,_=>by simp only[I.gW]
 | .hole,_=>by simp only[I.gW]
 | .bool _,_=>by simp only[I.gW]
 | .et,_=>by simp only[I.gW]
 | .int _ _,_=>by simp only[I.gW]
 | .str _,_=>by simp only[I.gW]
 | .cS,_=>by simp only[I.gW]
 | .bk,_=>by simp only[I.gW]
 | .slice _,_=>by simp only[I.gW]
 | .aL _ _,_=>by simp only[I.gW]
 | .ref _,_=>by simp only[I.gW]
 | .bM _,_=>by simp only[I.gW]
 | .agg _,_=>by simp only[I.gW]
 | .tuple _,_=>by simp only[I.gW]
 | .dq _,_=>by simp only[I.gW]
theorem Gp {s aw:an}:∀(ds:List I),c8 (I.dK ds) aw s→I.qa aw ds=I.qa s ds
 |[],_=>rfl
 |d::ds,h=>by
  simp only[I.dK]at h
  simp only[I.qa];rw[Gn d h.left,Gp ds h.right]
end
theorem B3 {s aw:an} {us:List Nat} (h:c8 (us.flatMap fun u=>u::(s u).aa) aw s):lN aw us=lN s us:=by
 unfold lN
 refine List.map_congr_left fun u hu=> ?_
 rw[h u (List.mem_flatMap.2 ⟨u,hu,by simp⟩)]
theorem B4 {s aw:an}:∀(L:List (Nat×I)),(∀p∈L,c8 p.2.aa aw s)→oN aw L=oN s L
 |[],_=>rfl
 |p::L,h=>by
  simp only[oN];rw[Gn p.2 (h p (by simp)),B4 L (fun q cM=>h q (by simp[cM]))]
theorem Gq:∀(L:List (Nat×I)) (s:an),pk s L=cX (L.map fun p=>⟨.no,p.1,p.2⟩) s
 |[],s=>rfl
 |p::L,s=>by
  simp only[pk,List.map_cons]
  rw[Gq L,Bj]
  exact(lg [⟨.no,p.1,p.2⟩] _ s).symm
theorem Ov {s:an} {bA:fj} {K:List Nat→I→an→Prop} (h:oR C s bA K):
  ∃ch av ms,K ch av (cX ms s)∧(∀m∈ms,m.x∈ch∧∀v∈m.d.aa,∃u∈use s bA,v∈(s u).aa)∧∀aw,c8 (use s bA) aw s→∀cV:I→an→Prop,cV av (cX ms aw)→nq C aw bA cV:=by
 have plain:(∃av s1,bq C s bA=some (av,s1)∧K (cO s bA) av s1)→(∀aw (cV:I→an→Prop) av s1,bq C aw bA=some (av,s1)→cV av s1→nq C aw bA cV)→
   ∃ch av ms,K ch av (cX ms s)∧(∀m∈ms,m.x∈ch∧∀v∈m.d.aa,∃u∈use s bA,v∈(s u).aa)∧∀aw,c8 (use s bA) aw s→∀cV:I→an→Prop,cV av (cX ms aw)→nq C aw bA cV:=by
  rintro⟨av,s1,ad,ag⟩ hw
  obtain⟨ms,aT,aX,aS⟩:=Fx ad
  subst aT
  exact⟨_,av,ms,ag,fun m hm=>⟨(aX m hm).1,fun v aI=>by rw[(aX m hm).2]at aI;cases aI⟩,fun aw aa cV ax=>hw aw cV av _ (aS aw aa) ax⟩
 cases bA with
 |call f args=>
  obtain⟨ch,av,ms,ab,a2,a3⟩:=B2 h
  exact⟨ch,av,ms,ab,fun m hm=>⟨(a2 m hm).1,fun v aI=>by rw[(a2 m hm).2]at aI;cases aI⟩,fun aw aa cV ax=>a3 aw aa cV ax⟩
 |me f args u x=>
  obtain⟨bV,b7,aj⟩:=h
  obtain⟨ch,av,ms,⟨ab,B5,Ow⟩,a2,a3⟩:=B2 aj
  have e:∀s:an,c7 (cX ms s) u (.h x [])=cX (ms++[⟨.no,u,.h x []⟩]) s:=fun s=>by rw[lg,←Bj]
  refine⟨u::ch,av,ms++[⟨.no,u,.h x []⟩],by rw[←e];exact Ow,?_,?_⟩
  ·intro m hm
   rcases List.mem_append.1 hm with hm|hm
   ·exact⟨by simp[(a2 m hm).1],fun v aI=>by rw[(a2 m hm).2]at aI;cases aI⟩
   ·simp only[List.mem_singleton]at hm;subst hm
    refine⟨by simp,fun v aI=>⟨u,by simp[use],?_⟩⟩
    rw[bV];exact aI
  ·intro aw aa cV ax
   have Gr:aw u=s u:=aa u (by simp[use])
   have ex:aw x=s x:=aa x (by simp[use])
   refine⟨by rw[Gr];exact bV,by rw[ex];exact b7,a3 aw (fun y hy=>aa y (by simp only[use,List.mem_cons]at hy⊢;exact .inr (.inr hy))) _ ⟨?_,?_,?_⟩⟩
   ·have:=ab;simp only[cX]at this⊢;rw[Gr];exact this
   ·have:=B5;simp only[cX]at this⊢;rw[ex];exact this
   ·rw[e];exact ax
 |mf f args us=>
  obtain⟨b7,aj⟩:=h
  obtain⟨ch,av,ms,⟨ab,B5⟩,a2,a3⟩:=B2 aj
  have e:∀aw:an,pk (cX ms aw) (lN s us)=cX (ms++(lN s us).map fun p=>⟨.no,p.1,p.2⟩) aw:=fun aw=>by rw[lg,Gq]
  have hD:∀{aw:an},c8 (us.flatMap fun u=>u::(s u).aa) aw s→∀p∈lN s us,c8 p.2.aa aw s:=fun {aw} aa p ao v aI=>by
   obtain⟨u,hu,rfl⟩:=List.mem_map.1 ao
   exact aa v (List.mem_flatMap.2 ⟨u,hu,by simp[aI]⟩)
  refine⟨us++ch,av,ms++(lN s us).map fun p=>⟨.no,p.1,p.2⟩,by rw[←e];exact B5,?_,?_⟩
  ·intro m hm
   rcases List.mem_append.1 hm with hm|hm
   ·exact⟨by simp[(a2 m hm).1],fun v aI=>by rw[(a2 m hm).2]at aI;cases aI⟩
   ·obtain⟨p,ao,rfl⟩:=List.mem_map.1 hm
    obtain⟨u,hu,rfl⟩:=List.mem_map.1 ao
    exact⟨List.mem_append_left _ hu,fun v aI=>⟨u,by simp only[use,List.mem_append,List.mem_flatMap];exact .inl ⟨u,hu,by simp⟩,aI⟩⟩
  ·intro aw aa cV ax
   simp only[use]at aa
   refine⟨by rw[B3 aa.left,B4 _ (hD aa.left)];exact b7,a3 aw aa.right _ ⟨?_,?_⟩⟩
   ·rw[B3 aa.left,B4 _ (fun p ao=>(hD aa.left p ao).cX ms)];exact ab
   ·rw[B3 aa.left,e];exact ax
 |shr bA=>
  obtain⟨av,s1,ad,ag,aF,a8⟩:=h
  obtain⟨ms,aT,aX,aS⟩:=Fx ad
  subst aT
  exact⟨_,av.share,ms,a8,fun m hm=>⟨(aX m hm).1,fun v aI=>by rw[(aX m hm).2]at aI;cases aI⟩,fun aw aa cV ax=>⟨av,_,aS aw aa,ag,aF,ax⟩⟩
 |_=>exact plain h (fun aw cV av s1 ad ag=>⟨av,s1,ad,ag⟩)
theorem Ox {s:an} {o:bO} {K:eU→an→Prop} (h:n9 C s o K):∃ke ms,K ke (cX ms s)∧xG C o s ke ms:=by
 have op:∀(bz:List Nat),(∀u∈use s o.bA,u∈bz)→(∀aw,c8 bz aw s→∀cV:an→Prop,nq C aw o.bA (fun av s1=>cV (fin s1 o.dst av))→lj C aw o cV)→
   oR C s o.bA (fun ch av s1=>K (iq s bz o.dst ch av) (fin s1 o.dst av))→∃ke ms,K ke (cX ms s)∧xG C o s ke ms:=by
  intro bz oG lD hw
  obtain⟨ch,av,ms,ad,ag,aF⟩:=Ov hw
  obtain⟨kt,nt,cA⟩:=Gm o.dst av
  refine⟨iq s bz o.dst ch av,ms++kt,?_,?_,?_,xH.1,xH.2⟩
  ·rw[lg,←cA];exact ad
  ·intro aw aa cV ax
   refine lD aw aa cV (aF aw (aa.sub oG) _ ?_)
   rw[cA,←lg];exact ax
  ·intro m hm
   simp only[iq,List.mem_append]
   rcases List.mem_append.1 hm with hm|hm
   ·refine⟨.inr (ag m hm).1,fun v aI=>.inl ?_⟩
    obtain⟨u,hu,kK⟩:=(ag m hm).2 v aI
    exact List.mem_flatMap.2 ⟨u,oG u hu,kK⟩
   ·exact⟨.inl (nt m hm).1,fun u hu=>.inr (by rw[(nt m hm).2]at hu;exact hu)⟩
 have skip:∀t,(∀aw,c8 [t] aw s→∀cV:an→Prop,cV (fin aw o.dst (.tuple []))→lj C aw o cV)→K (iq s [t] o.dst [] (.tuple [])) (fin s o.dst (.tuple []))→∃ke ms,K ke (cX ms s)∧xG C o s ke ms:=by
  intro t lD ax
  obtain⟨kt,nt,cA⟩:=Gm o.dst (.tuple [])
  refine⟨_,kt,by rw[←cA];exact ax,?_,?_,xH.1,xH.2⟩
  ·intro aw aa cV ld
   exact lD aw aa cV (by rw[cA];exact ld)
  ·intro m hm
   simp only[iq,List.mem_append]
   exact⟨.inl (nt m hm).1,fun u hu=>by rw[(nt m hm).2]at hu;simp[I.aa]at hu⟩
 unfold n9 at h
 split at h
 ·rename_i hg
  exact op _ (fun _ h=>h) (fun aw _ cV hw=>by unfold lj;rw[hg];exact hw) h
 ·rename_i t b hg
  split at h
  ·rename_i e8 U
   split at h
   ·rename_i e
    refine op (t::use s o.bA) (fun u hu=>by simp[hu]) (fun aw aa cV hw=> ?_) h
    have:aw t=s t:=aa t (by simp)
    unfold lj
    rw[hg]
    simp only[this,U,if_pos e]
    exact hw
   ·rename_i e
    refine skip t (fun aw aa cV ax=> ?_) h
    have:aw t=s t:=aa t (by simp)
    unfold lj
    rw[hg]
    simp only[this,U,if_neg e]
    exact ax
  ·rename_i U
   refine skip t (fun aw aa cV ax=> ?_) h
   have:aw t=s t:=aa t (by simp)
   unfold lj
   rw[hg]
   simp only[this,U]
   exact ax
  ·exact h.elim
def qh (C:bS) (ros:List bO):an→List (Nat×eU×List gu)→Prop
 |_,[]=>True
 |s,e::r=>(∃o,ros[e.1]? =some o∧xG C o s e.2.1 e.2.2)∧qh C ros (cX e.2.2 s) r
def n_ (s:an) (r:List (Nat×eU×List gu)):an:=r.foldl (fun s e=>cX e.2.2 s) s
def ng (a b:List Nat):Bool:=a.all fun x=> !b.contains x
theorem sP {a b:List Nat} (h:ng a b=true):∀x∈a,x∉b:=by
 intro x ai
 simp only[ng,List.all_eq_true]at h
 simpa using h x ai
def ru (a b:eU):Bool:=ng b.T a.bz&&ng b.T a.H&&ng b.T a.T&&ng a.T b.bz&&ng a.T b.H&&b.c
theorem Oy {ros:List bO} {s:an} {a b:Nat×eU×List gu} {r:List (Nat×eU×List gu)} (h:qh C ros s (a::b::r)) (ay:ru a.2.1 b.2.1=true):
  qh C ros s (b::a::r)∧n_ s (b::a::r)=n_ s (a::b::r):=by
 obtain⟨⟨Oz,cb,ab,a2,a3,a4⟩,⟨dq,U,kP,h8,lJ,cq⟩,aH⟩:=h
 simp only[ru,Bool.and_eq_true]at ay
 obtain⟨⟨⟨⟨⟨pT,i2⟩,i3⟩,i4⟩,i5⟩,Am⟩:=ay
 have B6:∀u∈b.2.1.bz,cX a.2.2 s u=s u:=by
  intro u hu
  refine Oe _ _ _ (fun m hm e=> ?_) (cq Am u hu)
  exact sP i4 m.x (a2 m hm).1 (e▸hu)
 have B7:∀u∈a.2.1.bz,cX b.2.2 s u=s u:=by
  intro u hu
  refine Of _ _ _ fun m hm=>⟨fun e=> ?_,fun ai=> ?_⟩
  ·exact sP pT m.x (h8 m hm).1 (e▸hu)
  ·exact sP i2 m.x (h8 m hm).1 (a3 u hu _ ai)
 have Gs:cX b.2.2 (cX a.2.2 s)=cX a.2.2 (cX b.2.2 s):=by
  refine Oh _ _ _ fun m hm n aV=>⟨fun e=> ?_,fun h=> ?_,fun h=> ?_⟩
  ·exact sP i3 n.x (h8 n aV).1 (e▸(a2 m hm).1)
  ·exact sP i2 n.x (h8 n aV).1 ((a2 m hm).2 _ h)
  ·exact sP i5 m.x (a2 m hm).1 ((h8 n aV).2 _ h)
 refine⟨⟨⟨dq,U,?_,h8,?_,?_⟩,⟨Oz,cb,?_,a2,?_,?_⟩,?_⟩,?_⟩
 ·intro aw aa K ax
  exact kP aw (fun u hu=>(aa u hu).trans (B6 u hu).symm) K ax
 ·intro u hu x ai
  exact lJ u hu x (by rw[B6 u hu];exact ai)
 ·intro aj u hu
  have:=cq aj u hu
  rwa [B6 u hu]at this
 ·intro aw aa K ax
  exact ab aw (fun u hu=>(aa u hu).trans (B7 u hu)) K ax
 ·intro u hu x ai
  rw[B7 u hu]at ai
  exact a3 u hu x ai
 ·intro aj u hu
  rw[B7 u hu]
  exact a4 aj u hu
 ·rw[←Gs];exact aH
 ·simp only[n_,List.foldl_cons]
  rw[Gs]
theorem OA {ros:List bO} {e:Nat×eU×List gu} {post:List (Nat×eU×List gu)}:∀(pre:List (Nat×eU×List gu)) (s:an),qh C ros s (pre++e::post)→(∀a∈pre,ru a.2.1 e.2.1=true)→
  qh C ros s (e::(pre++post))∧n_ s (e::(pre++post))=n_ s (pre++e::post):=by
 intro pre
 induction pre with
 |nil=>intro s h _;exact⟨h,rfl⟩
 |cons a pre ih=>
  intro s h ay
  obtain⟨ad,ag⟩:=h
  obtain⟨g1,g2⟩:=ih _ ag fun b U=>ay b (by simp[U])
  have aj:qh C ros s (a::e::(pre++post)):=⟨ad,g1⟩
  obtain⟨bV,b7⟩:=Oy aj (ay a (by simp))
  refine⟨bV,b7.trans ?_⟩
  simp only[n_,List.foldl_cons,List.cons_append]at g2⊢
  exact g2
end
def vj:List (List Nat)→List (List Nat)→List (List Nat)
 |done,[]=>done
 |done,a::r=>vj (done++[a++a.flatMap fun e=>(done[e]?).getD []]) r
def sQ (gG:List (List Nat)):List (List Nat):=vj [] gG
theorem OB {gG:List (List Nat)} {l:List Nat} (aO:∀u i v,l=u++i::v→∀e∈(gG[i]?).getD [],e∈u):∀(rest pre done:List (List Nat)),gG=pre++rest→done.length=pre.length→
  (∀u i v,l=u++i::v→∀e∈(done[i]?).getD [],e∈u)→∀u i v,l=u++i::v→∀e∈((vj done rest)[i]?).getD [],e∈u:=by
 intro rest
 induction rest with
 |nil=>intro pre done _ _ h;exact h
 |cons a rest ih=>
  intro pre done Gt hlen h
  simp only[vj]
  refine ih (pre++[a]) _ (by simp[Gt]) (by simp[hlen]) ?_
  intro u i v hu e he
  by_cases ay:i<done.length
  ·rw[List.getElem?_append_left ay]at he
   exact h u i v hu e he
  ·rw[List.getElem?_append_right (by omega)]at he
   by_cases Fe:i-done.length=0
   ·rw[Fe]at he
    simp only[List.getElem?_cons_zero,Option.getD_some,List.mem_append,List.mem_flatMap]at he
    have Gu:(gG[i]?).getD []=a:=by
     have:i=pre.length:=by omega
     rw[Gt,this,List.getElem?_append_right (Nat.le_refl _)];simp
    rcases he with he|⟨fQ,u7,he⟩
    ·exact aO u i v hu e (by rw[Gu];exact he)
    ·have uY:=aO u i v hu fQ (by rw[Gu];exact u7)
     obtain⟨sw,E1,rfl⟩:=List.append_of_mem uY
     have:=h sw fQ (E1++i::v) (by rw[hu];simp) e he
     simp[this]
   ·rw[List.getElem?_eq_none (by simp;omega)]at he
    simp at he
theorem OC {gG:List (List Nat)} {l:List Nat} (aO:∀u i v,l=u++i::v→∀e∈(gG[i]?).getD [],e∈u):∀u i v,l=u++i::v→∀e∈((sQ gG)[i]?).getD [],e∈u:=
 OB aO gG [] [] rfl rfl fun u i v _ e he=>by simp at he
def ml (mm:List (List Nat)):Nat→List (Nat×eU)→List eU→Bool
 |_,_,[]=>true
 |j,es,f::aq=>(es.all fun e=>((mm[j]?).getD []).contains e.1||ru e.2 f)&&ml mm (j+1) ((j,f)::es) aq
def B8 (mm:List (List Nat)) (a b:Nat×eU×List gu):Prop:=a.1∈(mm[b.1]?).getD []∨ru a.2.1 b.2.1=true
theorem OD {mm:List (List Nat)}:∀(gP:List (Nat×eU×List gu)) (j:Nat) (es:List (Nat×eU)),gP.map (·.1)=(List.range gP.length).map (·+j)→ml mm j es (gP.map (·.2.1))=true→
  gP.Pairwise (B8 mm)∧∀e∈es,∀b∈gP,e.1∈(mm[b.1]?).getD []∨ru e.2 b.2.1=true:=by
 intro gP
 induction gP with
 |nil=>intro j es _ _;exact⟨.nil,fun e _ b U=>by cases U⟩
 |cons a gP ih=>
  intro j es rv gv
  rw[List.length_cons,List.range_succ_eq_map,List.map_cons,List.map_cons,List.map_map]at rv
  simp only[List.cons.injEq,Nat.zero_add]at rv
  obtain⟨b6,rv⟩:=rv
  simp only[List.map_cons,ml,Bool.and_eq_true,List.all_eq_true,Bool.or_eq_true]at gv
  obtain⟨ad,ag⟩:=gv
  obtain⟨g1,g2⟩:=ih (j+1) _ (by rw[rv];congr 1;funext x;simp;omega) ag
  refine⟨.cons (fun b U=> ?_) g1,fun e he b U=> ?_⟩
  ·have:=g2 (j,a.2.1) (by simp) b U
   simp only[B8,b6];exact this
  ·rcases List.mem_cons.1 U with rfl|U
   ·rw[b6]
    exact(ad e he).imp (fun h=>by simpa using h) id
   ·exact g2 e (by simp[he]) b U
section
variable {C:bS}
theorem OE {K:Option (List eU)→an→Prop}:∀(os pre:List bO) (s:an) (acc:List eU),cj C s os (some acc) K→
  ∃gP,qh C (pre++os) s gP∧gP.map (·.1)=(List.range os.length).map (·+pre.length)∧K (some ((gP.map (·.2.1)).reverse++acc)) (n_ s gP):=by
 intro os
 induction os with
 |nil=>intro pre s acc h;exact⟨[],trivial,rfl,h⟩
 |cons o os ih=>
  intro pre s acc h
  obtain⟨ke,ms,ad,ag⟩:=Ox h
  obtain⟨gP,g1,g2,g3⟩:=ih (pre++[o]) _ (ke::acc) ad
  refine⟨(pre.length,ke,ms)::gP,⟨⟨o,?_,ag⟩,?_⟩,?_,?_⟩
  ·rw[List.getElem?_append_right (Nat.le_refl _)];simp
  ·simpa using g1
  ·rw[List.length_cons,List.range_succ_eq_map,List.map_cons,List.map_cons,List.map_map,g2]
   simp only[List.cons.injEq,Nat.zero_add,true_and]
   congr 1;funext x;simp;omega
  ·simpa [n_]using g3
theorem OG {ros:List bO} {mm:List (List Nat)} {K:an→Prop}:∀(l:List Nat) (gP:List (Nat×eU×List gu)) (s:an),qh C ros s gP→gP.Pairwise (B8 mm)→l.Nodup→(gP.map (·.1)).Nodup→
  (∀i,i∈l↔i∈gP.map (·.1))→(∀u i v,l=u++i::v→∀e∈(mm[i]?).getD [],e∈gP.map (·.1)→e∈u)→K (n_ s gP)→jv C ros s l K:=by
 intro l
 induction l with
 |nil=>
  intro gP s _ _ _ _ hm _ ax
  cases gP with
  |nil=>exact ax
  |cons e gP=>have:=(hm e.1).2 (by simp);cases this
 |cons i l ih=>
  intro gP s aj ao aV lf hm cd ax
  obtain⟨e,he,ay⟩:=List.mem_map.1 ((hm i).1 (by simp))
  obtain⟨pre,post,rfl⟩:=List.append_of_mem he
  have OH:∀a∈pre,ru a.2.1 e.2.1=true:=by
   intro a cb
   have aH:=(List.pairwise_append.1 ao).2.2 a cb e (by simp)
   rcases aH with aH|aH
   ·rw[ay]at aH
    have:=cd [] i l rfl a.1 aH (by simp only[List.map_append,List.mem_append,List.mem_map];exact .inl ⟨a,cb,rfl⟩)
    cases this
   ·exact aH
  obtain⟨g1,g2⟩:=OA pre s aj OH
  obtain⟨⟨o,OI,OJ⟩,g3⟩:=g1
  have Gv:i∉(pre++post).map (·.1):=by
   have:(pre.map (·.1)++e.1::post.map (·.1)).Nodup:=by simpa using lf
   have bb:=(List.perm_middle.nodup_iff.1 this)
   rw[List.nodup_cons]at bb
   rw[←ay];simpa using bb.1
  simp only[jv]
  rw[←ay,OI]
  refine OJ.1 s (fun _ _=>rfl) _ ?_
  rw[List.nodup_cons]at aV
  refine ih (pre++post) _ g3 ?_ aV.2 ?_ ?_ ?_ ?_
  ·exact ao.sublist ((List.Sublist.refl pre).append (List.sublist_cons_self e post))
  ·have:(pre.map (·.1)++e.1::post.map (·.1)).Nodup:=by simpa using lf
   have bb:=(List.perm_middle.nodup_iff.1 this)
   rw[List.nodup_cons]at bb
   simpa using bb.2
  ·intro j
   constructor
   ·intro b6
    have ad:=(hm j).1 (by simp[b6])
    simp only[List.map_append,List.map_cons,List.mem_append,List.mem_cons]at ad⊢
    rcases ad with ad|rfl|ad
    ·exact .inl ad
    ·exact(aV.1 (ay▸b6)).elim
    ·exact .inr ad
   ·intro b6
    have ad:=(hm j).2 (by
     simp only[List.map_append,List.map_cons,List.mem_append,List.mem_cons]at b6⊢
     exact b6.imp id .inr)
    rcases List.mem_cons.1 ad with rfl|ad
    ·exact(Gv b6).elim
    ·exact ad
  ·intro u j v hu x ai B9
   have ad:=cd (i::u) j v (by rw[hu];rfl) x ai (by
    simp only[List.map_append,List.map_cons,List.mem_append,List.mem_cons]at B9⊢
    exact B9.imp id .inr)
   rcases List.mem_cons.1 ad with rfl|ad
   ·exact(Gv B9).elim
   ·exact ad
  ·have:n_ s (e::(pre++post))=n_ (cX e.2.2 s) (pre++post):=rfl
   rw[←this,g2];exact ax
theorem OK {ros:List bO} {gG:List (List Nat)} {s:an} {K:an→Prop} (hlen:gG.length=ros.length)
  (h:cj C s ros (some []) (fun acc s=>ml (sQ gG) 0 [] (acc.getD []).reverse=true∧K s)):∀l,BP gG l→jv C ros s l K:=by
 intro l ⟨gq,l2,BF⟩
 obtain⟨gP,g1,g2,g3,g4⟩:=OE ros [] s [] h
 simp only[List.nil_append,List.append_nil,List.length_nil,Option.getD_some,List.reverse_reverse]at g1 g2 g3
 have aO:gP.length=ros.length:=by have:=congrArg List.length g2;simpa using this
 have rv:gP.map (·.1)=(List.range gP.length).map (·+0):=by rw[g2,aO]
 have aH:gP.map (·.1)=List.range ros.length:=by rw[g2];simp
 obtain⟨fg,_⟩:=OD gP 0 [] rv g3
 refine OG l gP s g1 fg gq (by rw[aH];exact List.nodup_range) (fun i=> ?_) (fun u i v hu e he _=>OC BF u i v hu e he) g4
 rw[aH,l2,hlen,List.mem_range]
end
def de (C:bS) (dst:Option Nat) (os:List bO) (K:Option (List eU)→an→Prop):Option (I×an)→Prop
 |some (av,s1)=>cj C (fin s1 dst av) os none K
 |none=>False
def df (C:bS) (l:List (Nat×I)) (bz ch:List Nat) (dst:Option Nat) (os:List bO) (a:List eU) (K:Option (List eU)→an→Prop):Option (I×an)→Prop
 |some (av,s1)=>cj C (fin s1 dst av) os (some (iq (R l) bz dst ch av::a)) K
 |none=>False
def b8 (C:bS) (l:List (Nat×I)) (dst:Option Nat) (bA:fj) (t:Nat) (b:Bool) (os:List bO) (acc:Option (List eU)) (K:Option (List eU)→an→Prop):I→Prop
 | .bool e8=>if e8=b then oR C (R l) bA (fun ch av s1=>cj C (fin s1 dst av) os (qg acc (iq (R l) (t::use (R l) bA) dst ch av)) K)else cj C (fin (R l) dst (.tuple [])) os (qg acc (iq (R l) [t] dst [] (.tuple []))) K
 | .tuple []=>cj C (fin (R l) dst (.tuple [])) os (qg acc (iq (R l) [t] dst [] (.tuple []))) K
 |_=>False
section
variable {C:bS} {l:List (Nat×I)} {os:List bO} {K:Option (List eU)→an→Prop} {dst:Option Nat} {a:List eU} {acc:Option (List eU)}
theorem xI {s:an} {bA:fj} {K:List Nat→I→an→Prop} (aV:bA.rp=false):oR C s bA K=(match bq C s bA with
  |some (av,s1)=>K (cO s bA) av s1
  |none=>False):=by
 apply propext
 constructor
 ·intro h
  cases bA<;>first
   |(simp[fj.rp]at aV;done)
   |(obtain⟨av,s1,ad,ag⟩:=h;rw[ad];exact ag)
 ·intro h
  split at h
  ·rename_i av s1 he
   cases bA<;>first
    |(simp[fj.rp]at aV;done)
    |exact⟨av,s1,he,h⟩
  ·exact h.elim
theorem Gw:cj C (R l) [] acc K=K acc (R l):=rfl
theorem iU {bA:fj} (aV:bA.rp=false):cj C (R l) (⟨dst,bA,none⟩::os) none K=de C dst os K (bq C (R l) bA):=by
 simp only[cj,n9,qg]
 rw[xI aV]
 cases bq C (R l) bA with
 |none=>rfl
 |some p=>rfl
theorem iV {bA:fj} (aV:bA.rp=false):cj C (R l) (⟨dst,bA,none⟩::os) (some a) K=df C l (use (R l) bA) (cO (R l) bA) dst os a K (bq C (R l) bA):=by
 simp only[cj,n9,qg]
 rw[xI aV]
 cases bq C (R l) bA with
 |none=>rfl
 |some p=>rfl
theorem Gx {bA:fj} {t:Nat} {b:Bool}:cj C (R l) (⟨dst,bA,some (t,b)⟩::os) acc K=b8 C l dst bA t b os acc K (R l t):=by
 simp only[cj,n9]
 generalize R l t=v
 cases v<;>first|rfl|(rename_i vs;cases vs<;>rfl)
theorem e5 {bA:fj} {t:Nat} {b:Bool} (aV:bA.rp=false):b8 C l dst bA t b os none K (.bool b)=de C dst os K (bq C (R l) bA):=by
 simp only[b8,if_true]
 rw[xI aV]
 cases bq C (R l) bA with
 |none=>rfl
 |some p=>rfl
theorem e6 {bA:fj} {t:Nat} {b:Bool} (aV:bA.rp=false):b8 C l dst bA t b os (some a) K (.bool b)=df C l (t::use (R l) bA) (cO (R l) bA) dst os a K (bq C (R l) bA):=by
 simp only[b8,if_true]
 rw[xI aV]
 cases bq C (R l) bA with
 |none=>rfl
 |some p=>rfl
theorem OL {bA:fj} {t:Nat}:b8 C l dst bA t true os none K (.bool false)=cj C (fin (R l) dst (.tuple [])) os none K∧b8 C l dst bA t false os none K (.bool true)=cj C (fin (R l) dst (.tuple [])) os none K∧
  (∀b,b8 C l dst bA t b os none K (.tuple [])=cj C (fin (R l) dst (.tuple [])) os none K):=⟨rfl,rfl,fun _=>rfl⟩
theorem OM {bA:fj} {t:Nat}:b8 C l dst bA t true os (some a) K (.bool false)=cj C (fin (R l) dst (.tuple [])) os (some (iq (R l) [t] dst [] (.tuple [])::a)) K∧
  b8 C l dst bA t false os (some a) K (.bool true)=cj C (fin (R l) dst (.tuple [])) os (some (iq (R l) [t] dst [] (.tuple [])::a)) K∧
  (∀b,b8 C l dst bA t b os (some a) K (.tuple [])=cj C (fin (R l) dst (.tuple [])) os (some (iq (R l) [t] dst [] (.tuple [])::a)) K):=⟨rfl,rfl,fun _=>rfl⟩
theorem ON (av:I) (s1:an):de C dst os K (some (av,s1))=cj C (fin s1 dst av) os none K:=rfl
theorem OO (bz ch:List Nat) (av:I) (s1:an):df C l bz ch dst os a K (some (av,s1))=cj C (fin s1 dst av) os (some (iq (R l) bz dst ch av::a)) K:=rfl
def iW (s:an):I→Option (I×an)
 | .h y q=>ch s (.h y q)
 |d=>some (d,s)
def qi (s:an):I→I→I→Option (I×an)
 | .bool e8,x,y=>some (if e8 then x else y,s)
 |_,_,_=>none
def cx (s:an):Option I→Option (I×an)
 |some d=>some (d,s)
 |none=>none
def gw:Option an→Option (I×an)
 |some s1=>some (.hole,s1)
 |none=>none
def iJ (s:an):List aC→List I
 |[]=>[]
 |x::xs=>aE s x::iJ s xs
def jV (s:an):List (Nat×aC)→List (Nat×I)
 |[]=>[]
 |(k,x)::xs=>(k,aE s x)::jV s xs
def kV (s:an):Option aC→Option I
 |none=>none
 |some x=>some (aE s x)
theorem mN (s:an) (x:Option I):(x.map fun d=>(d,s))=cx s x:=by cases x<;>rfl
theorem OP (x:Option an):(x.map fun s1=>(I.hole,s1))=gw x:=by cases x<;>rfl
theorem B_ (s:an):∀xs:List aC,xs.map (aE s)=iJ s xs
 |[]=>rfl
 |x::xs=>by simp only[List.map_cons,iJ,B_ s xs]
theorem Ca (s:an):∀xs:List (Nat×aC),(xs.map fun p=>(p.1,aE s p.2))=jV s xs
 |[]=>rfl
 |(k,x)::xs=>by simp only[List.map_cons,jV,Ca s xs]
theorem OQ (s:an) (x:Option aC):x.map (aE s)=kV s x:=by cases x<;>rfl
theorem sR (x:aC):bq C (R l) (.bg x)=some (aE (R l) x,R l):=by
 rfl
theorem sS (x:aC):bq C (R l) (.fk x)=iW (R l) (aE (R l) x):=by
 simp only[bq];cases aE (R l) x<;>rfl
theorem sT (c x y:aC):bq C (R l) (.pick c x y)=qi (R l) (aE (R l) c) (aE (R l) x) (aE (R l) y):=by
 simp only[bq];cases aE (R l) c<;>first|rfl|(rename_i b;cases b<;>rfl)
theorem sU (T:TypeId):bq C (R l) (.gU T)=cx (R l) (gU C T):=by
 simp only[bq,mN]
theorem sV (T:TypeId) (x:aC):bq C (R l) (.cQ T x)=cQ (R l) (aE (R l) x):=by
 rfl
theorem sW (T:TypeId) (ps:List (Nat×aC)):bq C (R l) (.fE T ps)=fE C (R l) T (jV (R l) ps):=by
 simp only[bq,Ca]
theorem sX (T:TypeId) (n:Nat) (ps:List (Nat×aC)):bq C (R l) (.dT T n ps)=dT C (R l) T n (jV (R l) ps):=by
 simp only[bq,Ca]
theorem sY (T:TypeId) (x:aC):bq C (R l) (.bY T x)=cx (R l) (bY C (R l) T (aE (R l) x)):=by
 simp only[bq,mN]
theorem sZ (T:TypeId) (x y:aC):bq C (R l) (.gd T x y)=gw (gd C (R l) T (aE (R l) x) (aE (R l) y)):=by
 simp only[bq,OP]
theorem s0 (x:aC):bq C (R l) (.eo x)=cx (R l) (eo (R l) (aE (R l) x)):=by
 simp only[bq,mN]
theorem s3 (op:BinOp) (T:TypeId) (x y:aC):bq C (R l) (.bx op T x y)=cx (R l) (bx C (R l) op T (aE (R l) x) (aE (R l) y)):=by
 simp only[bq,mN]
theorem s4 (op:UnOp) (x:aC):bq C (R l) (.un op x)=cx (R l) (un op (aE (R l) x)):=by
 simp only[bq,mN]
theorem s5 (A B:TypeId) (x:aC):bq C (R l) (.gr A B x)=cx (R l) (gr C (R l) A B (aE (R l) x)):=by
 simp only[bq,mN]
theorem s6 (f:FuncId) (cs:List aC):bq C (R l) (.kc f cs)=some (.fn f (iJ (R l) cs),R l):=by
 simp only[bq,B_]
theorem s7 (T:TypeId) (x y:aC):bq C (R l) (.dX T x y)=cx (R l) (dX C T (aE (R l) x) (aE (R l) y)):=by
 simp only[bq,mN]
theorem s8 (T:TypeId) (x:aC) (cJ ay:Option aC):bq C (R l) (.dh T x cJ ay)=dh C (R l) T (aE (R l) x) (kV (R l) cJ) (kV (R l) ay):=by
 simp only[bq,OQ]
theorem s9 (T:TypeId) (x:aC) (k:Nat):bq C (R l) (.cH T x k)=cx (R l) (cH C (R l) T (aE (R l) x) k):=by
 simp only[bq,mN]
theorem s_ (T:TypeId) (x y:aC):bq C (R l) (.dO T x y)=cx (R l) (dO C (R l) T (aE (R l) x) (aE (R l) y)):=by
 simp only[bq,mN]
theorem ta (T:TypeId) (x y:aC):bq C (R l) (.idx T x y)=cx (R l) (idx C T (aE (R l) x) (aE (R l) y)):=by
 simp only[bq,mN]
theorem tb (x:aC) (k:Nat):bq C (R l) (.ex x k)=cx (R l) (ex (R l) (aE (R l) x) k):=by
 simp only[bq,mN]
theorem tc (T:TypeId) (x:aC):bq C (R l) (.len T x)=cx (R l) (lG C (R l) T (aE (R l) x)):=by
 simp only[bq,mN]
theorem td (T bz:TypeId) (x y:aC):bq C (R l) (.app T bz x y)=lI C (R l) T bz (aE (R l) x) (aE (R l) y):=by
 rfl
theorem OR:
  (∀(x:aC),cj C (R l) (⟨dst,.bg x,none⟩::os) none K=de C dst os K (some (aE (R l) x,R l)))∧
  (∀(x:aC),cj C (R l) (⟨dst,.fk x,none⟩::os) none K=de C dst os K (iW (R l) (aE (R l) x)))∧
  (∀(c x y:aC),cj C (R l) (⟨dst,.pick c x y,none⟩::os) none K=de C dst os K (qi (R l) (aE (R l) c) (aE (R l) x) (aE (R l) y)))∧
  (∀(T:TypeId),cj C (R l) (⟨dst,.gU T,none⟩::os) none K=de C dst os K (cx (R l) (gU C T)))∧
  (∀(T:TypeId) (x:aC),cj C (R l) (⟨dst,.cQ T x,none⟩::os) none K=de C dst os K (cQ (R l) (aE (R l) x)))∧
  (∀(T:TypeId) (ps:List (Nat×aC)),cj C (R l) (⟨dst,.fE T ps,none⟩::os) none K=de C dst os K (fE C (R l) T (jV (R l) ps)))∧
  (∀(T:TypeId) (n:Nat) (ps:List (Nat×aC)),cj C (R l) (⟨dst,.dT T n ps,none⟩::os) none K=de C dst os K (dT C (R l) T n (jV (R l) ps)))∧
  (∀(T:TypeId) (x:aC),cj C (R l) (⟨dst,.bY T x,none⟩::os) none K=de C dst os K (cx (R l) (bY C (R l) T (aE (R l) x))))∧
  (∀(T:TypeId) (x y:aC),cj C (R l) (⟨dst,.gd T x y,none⟩::os) none K=de C dst os K (gw (gd C (R l) T (aE (R l) x) (aE (R l) y))))∧
  (∀(x:aC),cj C (R l) (⟨dst,.eo x,none⟩::os) none K=de C dst os K (cx (R l) (eo (R l) (aE (R l) x))))∧
  (∀(op:BinOp) (T:TypeId) (x y:aC),cj C (R l) (⟨dst,.bx op T x y,none⟩::os) none K=de C dst os K (cx (R l) (bx C (R l) op T (aE (R l) x) (aE (R l) y))))∧
  (∀(op:UnOp) (x:aC),cj C (R l) (⟨dst,.un op x,none⟩::os) none K=de C dst os K (cx (R l) (un op (aE (R l) x))))∧
  (∀(A B:TypeId) (x:aC),cj C (R l) (⟨dst,.gr A B x,none⟩::os) none K=de C dst os K (cx (R l) (gr C (R l) A B (aE (R l) x))))∧
  (∀(f:FuncId) (cs:List aC),cj C (R l) (⟨dst,.kc f cs,none⟩::os) none K=de C dst os K (some (.fn f (iJ (R l) cs),R l)))∧
  (∀(T:TypeId) (x y:aC),cj C (R l) (⟨dst,.dX T x y,none⟩::os) none K=de C dst os K (cx (R l) (dX C T (aE (R l) x) (aE (R l) y))))∧
  (∀(T:TypeId) (x:aC) (cJ ay:Option aC),cj C (R l) (⟨dst,.dh T x cJ ay,none⟩::os) none K=de C dst os K (dh C (R l) T (aE (R l) x) (kV (R l) cJ) (kV (R l) ay)))∧
  (∀(T:TypeId) (x:aC) (k:Nat),cj C (R l) (⟨dst,.cH T x k,none⟩::os) none K=de C dst os K (cx (R l) (cH C (R l) T (aE (R l) x) k)))∧
  (∀(T:TypeId) (x y:aC),cj C (R l) (⟨dst,.dO T x y,none⟩::os) none K=de C dst os K (cx (R l) (dO C (R l) T (aE (R l) x) (aE (R l) y))))∧
  (∀(T:TypeId) (x y:aC),cj C (R l) (⟨dst,.idx T x y,none⟩::os) none K=de C dst os K (cx (R l) (idx C T (aE (R l) x) (aE (R l) y))))∧
  (∀(x:aC) (k:Nat),cj C (R l) (⟨dst,.ex x k,none⟩::os) none K=de C dst os K (cx (R l) (ex (R l) (aE (R l) x) k)))∧
  (∀(T:TypeId) (x:aC),cj C (R l) (⟨dst,.len T x,none⟩::os) none K=de C dst os K (cx (R l) (lG C (R l) T (aE (R l) x))))∧
  (∀(T bz:TypeId) (x y:aC),cj C (R l) (⟨dst,.app T bz x y,none⟩::os) none K=de C dst os K (lI C (R l) T bz (aE (R l) x) (aE (R l) y))):=
 ⟨fun x=>(iU rfl).trans (congrArg _ (sR x)),fun x=>(iU rfl).trans (congrArg _ (sS x)),fun c x y=>(iU rfl).trans (congrArg _ (sT c x y)),fun T=>(iU rfl).trans (congrArg _ (sU T)),fun T x=>(iU rfl).trans (congrArg _ (sV T x)),fun T ps=>(iU rfl).trans (congrArg _ (sW T ps)),fun T n ps=>(iU rfl).trans (congrArg _ (sX T n ps)),fun T x=>(iU rfl).trans (congrArg _ (sY T x)),fun T x y=>(iU rfl).trans (congrArg _ (sZ T x y)),fun x=>(iU rfl).trans (congrArg _ (s0 x)),fun op T x y=>(iU rfl).trans (congrArg _ (s3 op T x y)),fun op x=>(iU rfl).trans (congrArg _ (s4 op x)),fun A B x=>(iU rfl).trans (congrArg _ (s5 A B x)),fun f cs=>(iU rfl).trans (congrArg _ (s6 f cs)),fun T x y=>(iU rfl).trans (congrArg _ (s7 T x y)),fun T x cJ ay=>(iU rfl).trans (congrArg _ (s8 T x cJ ay)),fun T x k=>(iU rfl).trans (congrArg _ (s9 T x k)),fun T x y=>(iU rfl).trans (congrArg _ (s_ T x y)),fun T x y=>(iU rfl).trans (congrArg _ (ta T x y)),fun x k=>(iU rfl).trans (congrArg _ (tb x k)),fun T x=>(iU rfl).trans (congrArg _ (tc T x)),fun T bz x y=>(iU rfl).trans (congrArg _ (td T bz x y))⟩
theorem OS:
  (∀(x:aC),cj C (R l) (⟨dst,.bg x,none⟩::os) (some a) K=df C l (use (R l) (.bg x)) (cO (R l) (.bg x)) dst os a K (some (aE (R l) x,R l)))∧
  (∀(x:aC),cj C (R l) (⟨dst,.fk x,none⟩::os) (some a) K=df C l (use (R l) (.fk x)) (cO (R l) (.fk x)) dst os a K (iW (R l) (aE (R l) x)))∧
  (∀(c x y:aC),cj C (R l) (⟨dst,.pick c x y,none⟩::os) (some a) K=df C l (use (R l) (.pick c x y)) (cO (R l) (.pick c x y)) dst os a K (qi (R l) (aE (R l) c) (aE (R l) x) (aE (R l) y)))∧
  (∀(T:TypeId),cj C (R l) (⟨dst,.gU T,none⟩::os) (some a) K=df C l (use (R l) (.gU T)) (cO (R l) (.gU T)) dst os a K (cx (R l) (gU C T)))∧
  (∀(T:TypeId) (x:aC),cj C (R l) (⟨dst,.cQ T x,none⟩::os) (some a) K=df C l (use (R l) (.cQ T x)) (cO (R l) (.cQ T x)) dst os a K (cQ (R l) (aE (R l) x)))∧
  (∀(T:TypeId) (ps:List (Nat×aC)),cj C (R l) (⟨dst,.fE T ps,none⟩::os) (some a) K=df C l (use (R l) (.fE T ps)) (cO (R l) (.fE T ps)) dst os a K (fE C (R l) T (jV (R l) ps)))∧
  (∀(T:TypeId) (n:Nat) (ps:List (Nat×aC)),cj C (R l) (⟨dst,.dT T n ps,none⟩::os) (some a) K=df C l (use (R l) (.dT T n ps)) (cO (R l) (.dT T n ps)) dst os a K (dT C (R l) T n (jV (R l) ps)))∧
  (∀(T:TypeId) (x:aC),cj C (R l) (⟨dst,.bY T x,none⟩::os) (some a) K=df C l (use (R l) (.bY T x)) (cO (R l) (.bY T x)) dst os a K (cx (R l) (bY C (R l) T (aE (R l) x))))∧
  (∀(T:TypeId) (x y:aC),cj C (R l) (⟨dst,.gd T x y,none⟩::os) (some a) K=df C l (use (R l) (.gd T x y)) (cO (R l) (.gd T x y)) dst os a K (gw (gd C (R l) T (aE (R l) x) (aE (R l) y))))∧
  (∀(x:aC),cj C (R l) (⟨dst,.eo x,none⟩::os) (some a) K=df C l (use (R l) (.eo x)) (cO (R l) (.eo x)) dst os a K (cx (R l) (eo (R l) (aE (R l) x))))∧
  (∀(op:BinOp) (T:TypeId) (x y:aC),cj C (R l) (⟨dst,.bx op T x y,none⟩::os) (some a) K=df C l (use (R l) (.bx op T x y)) (cO (R l) (.bx op T x y)) dst os a K (cx (R l) (bx C (R l) op T (aE (R l) x) (aE (R l) y))))∧
  (∀(op:UnOp) (x:aC),cj C (R l) (⟨dst,.un op x,none⟩::os) (some a) K=df C l (use (R l) (.un op x)) (cO (R l) (.un op x)) dst os a K (cx (R l) (un op (aE (R l) x))))∧
  (∀(A B:TypeId) (x:aC),cj C (R l) (⟨dst,.gr A B x,none⟩::os) (some a) K=df C l (use (R l) (.gr A B x)) (cO (R l) (.gr A B x)) dst os a K (cx (R l) (gr C (R l) A B (aE (R l) x))))∧
  (∀(f:FuncId) (cs:List aC),cj C (R l) (⟨dst,.kc f cs,none⟩::os) (some a) K=df C l (use (R l) (.kc f cs)) (cO (R l) (.kc f cs)) dst os a K (some (.fn f (iJ (R l) cs),R l)))∧
  (∀(T:TypeId) (x y:aC),cj C (R l) (⟨dst,.dX T x y,none⟩::os) (some a) K=df C l (use (R l) (.dX T x y)) (cO (R l) (.dX T x y)) dst os a K (cx (R l) (dX C T (aE (R l) x) (aE (R l) y))))∧
  (∀(T:TypeId) (x:aC) (cJ ay:Option aC),cj C (R l) (⟨dst,.dh T x cJ ay,none⟩::os) (some a) K=df C l (use (R l) (.dh T x cJ ay)) (cO (R l) (.dh T x cJ ay)) dst os a K (dh C (R l) T (aE (R l) x) (kV (R l) cJ) (kV (R l) ay)))∧
  (∀(T:TypeId) (x:aC) (k:Nat),cj C (R l) (⟨dst,.cH T x k,none⟩::os) (some a) K=df C l (use (R l) (.cH T x k)) (cO (R l) (.cH T x k)) dst os a K (cx (R l) (cH C (R l) T (aE (R l) x) k)))∧
  (∀(T:TypeId) (x y:aC),cj C (R l) (⟨dst,.dO T x y,none⟩::os) (some a) K=df C l (use (R l) (.dO T x y)) (cO (R l) (.dO T x y)) dst os a K (cx (R l) (dO C (R l) T (aE (R l) x) (aE (R l) y))))∧
  (∀(T:TypeId) (x y:aC),cj C (R l) (⟨dst,.idx T x y,none⟩::os) (some a) K=df C l (use (R l) (.idx T x y)) (cO (R l) (.idx T x y)) dst os a K (cx (R l) (idx C T (aE (R l) x) (aE (R l) y))))∧
  (∀(x:aC) (k:Nat),cj C (R l) (⟨dst,.ex x k,none⟩::os) (some a) K=df C l (use (R l) (.ex x k)) (cO (R l) (.ex x k)) dst os a K (cx (R l) (ex (R l) (aE (R l) x) k)))∧
  (∀(T:TypeId) (x:aC),cj C (R l) (⟨dst,.len T x,none⟩::os) (some a) K=df C l (use (R l) (.len T x)) (cO (R l) (.len T x)) dst os a K (cx (R l) (lG C (R l) T (aE (R l) x))))∧
  (∀(T bz:TypeId) (x y:aC),cj C (R l) (⟨dst,.app T bz x y,none⟩::os) (some a) K=df C l (use (R l) (.app T bz x y)) (cO (R l) (.app T bz x y)) dst os a K (lI C (R l) T bz (aE (R l) x) (aE (R l) y))):=
 ⟨fun x=>(iV rfl).trans (congrArg _ (sR x)),fun x=>(iV rfl).trans (congrArg _ (sS x)),fun c x y=>(iV rfl).trans (congrArg _ (sT c x y)),fun T=>(iV rfl).trans (congrArg _ (sU T)),fun T x=>(iV rfl).trans (congrArg _ (sV T x)),fun T ps=>(iV rfl).trans (congrArg _ (sW T ps)),fun T n ps=>(iV rfl).trans (congrArg _ (sX T n ps)),fun T x=>(iV rfl).trans (congrArg _ (sY T x)),fun T x y=>(iV rfl).trans (congrArg _ (sZ T x y)),fun x=>(iV rfl).trans (congrArg _ (s0 x)),fun op T x y=>(iV rfl).trans (congrArg _ (s3 op T x y)),fun op x=>(iV rfl).trans (congrArg _ (s4 op x)),fun A B x=>(iV rfl).trans (congrArg _ (s5 A B x)),fun f cs=>(iV rfl).trans (congrArg _ (s6 f cs)),fun T x y=>(iV rfl).trans (congrArg _ (s7 T x y)),fun T x cJ ay=>(iV rfl).trans (congrArg _ (s8 T x cJ ay)),fun T x k=>(iV rfl).trans (congrArg _ (s9 T x k)),fun T x y=>(iV rfl).trans (congrArg _ (s_ T x y)),fun T x y=>(iV rfl).trans (congrArg _ (ta T x y)),fun x k=>(iV rfl).trans (congrArg _ (tb x k)),fun T x=>(iV rfl).trans (congrArg _ (tc T x)),fun T bz x y=>(iV rfl).trans (congrArg _ (td T bz x y))⟩
theorem OT:
  (∀(x:aC) (t:Nat),b8 C l dst (.bg x) t true os none K (.bool true)=de C dst os K (some (aE (R l) x,R l)))∧
  (∀(x:aC) (t:Nat),b8 C l dst (.bg x) t false os none K (.bool false)=de C dst os K (some (aE (R l) x,R l)))∧
  (∀(x:aC) (t:Nat),b8 C l dst (.fk x) t true os none K (.bool true)=de C dst os K (iW (R l) (aE (R l) x)))∧
  (∀(x:aC) (t:Nat),b8 C l dst (.fk x) t false os none K (.bool false)=de C dst os K (iW (R l) (aE (R l) x)))∧
  (∀(c x y:aC) (t:Nat),b8 C l dst (.pick c x y) t true os none K (.bool true)=de C dst os K (qi (R l) (aE (R l) c) (aE (R l) x) (aE (R l) y)))∧
  (∀(c x y:aC) (t:Nat),b8 C l dst (.pick c x y) t false os none K (.bool false)=de C dst os K (qi (R l) (aE (R l) c) (aE (R l) x) (aE (R l) y)))∧
  (∀(T:TypeId) (t:Nat),b8 C l dst (.gU T) t true os none K (.bool true)=de C dst os K (cx (R l) (gU C T)))∧
  (∀(T:TypeId) (t:Nat),b8 C l dst (.gU T) t false os none K (.bool false)=de C dst os K (cx (R l) (gU C T)))∧
  (∀(T:TypeId) (x:aC) (t:Nat),b8 C l dst (.cQ T x) t true os none K (.bool true)=de C dst os K (cQ (R l) (aE (R l) x)))∧
  (∀(T:TypeId) (x:aC) (t:Nat),b8 C l dst (.cQ T x) t false os none K (.bool false)=de C dst os K (cQ (R l) (aE (R l) x)))∧
  (∀(T:TypeId) (ps:List (Nat×aC)) (t:Nat),b8 C l dst (.fE T ps) t true os none K (.bool true)=de C dst os K (fE C (R l) T (jV (R l) ps)))∧
  (∀(T:TypeId) (ps:List (Nat×aC)) (t:Nat),b8 C l dst (.fE T ps) t false os none K (.bool false)=de C dst os K (fE C (R l) T (jV (R l) ps)))∧
  (∀(T:TypeId) (n:Nat) (ps:List (Nat×aC)) (t:Nat),b8 C l dst (.dT T n ps) t true os none K (.bool true)=de C dst os K (dT C (R l) T n (jV (R l) ps)))∧
  (∀(T:TypeId) (n:Nat) (ps:List (Nat×aC)) (t:Nat),b8 C l dst (.dT T n ps) t false os none K (.bool false)=de C dst os K (dT C (R l) T n (jV (R l) ps)))∧
  (∀(T:TypeId) (x:aC) (t:Nat),b8 C l dst (.bY T x) t true os none K (.bool true)=de C dst os K (cx (R l) (bY C (R l) T (aE (R l) x))))∧
  (∀(T:TypeId) (x:aC) (t:Nat),b8 C l dst (.bY T x) t false os none K (.bool false)=de C dst os K (cx (R l) (bY C (R l) T (aE (R l) x))))∧
  (∀(T:TypeId) (x y:aC) (t:Nat),b8 C l dst (.gd T x y) t true os none K (.bool true)=de C dst os K (gw (gd C (R l) T (aE (R l) x) (aE (R l) y))))∧
  (∀(T:TypeId) (x y:aC) (t:Nat),b8 C l dst (.gd T x y) t false os none K (.bool false)=de C dst os K (gw (gd C (R l) T (aE (R l) x) (aE (R l) y))))∧
  (∀(x:aC) (t:Nat),b8 C l dst (.eo x) t true os none K (.bool true)=de C dst os K (cx (R l) (eo (R l) (aE (R l) x))))∧
  (∀(x:aC) (t:Nat),b8 C l dst (.eo x) t false os none K (.bool false)=de C dst os K (cx (R l) (eo (R l) (aE (R l) x))))∧
  (∀(op:BinOp) (T:TypeId) (x y:aC) (t:Nat),b8 C l dst (.bx op T x y) t true os none K (.bool true)=de C dst os K (cx (R l) (bx C (R l) op T (aE (R l) x) (aE (R l) y))))∧
  (∀(op:BinOp) (T:TypeId) (x y:aC) (t:Nat),b8 C l dst (.bx op T x y) t false os none K (.bool false)=de C dst os K (cx (R l) (bx C (R l) op T (aE (R l) x) (aE (R l) y))))∧
  (∀(op:UnOp) (x:aC) (t:Nat),b8 C l dst (.un op x) t true os none K (.bool true)=de C dst os K (cx (R l) (un op (aE (R l) x))))∧
  (∀(op:UnOp) (x:aC) (t:Nat),b8 C l dst (.un op x) t false os none K (.bool false)=de C dst os K (cx (R l) (un op (aE (R l) x))))∧
  (∀(A B:TypeId) (x:aC) (t:Nat),b8 C l dst (.gr A B x) t true os none K (.bool true)=de C dst os K (cx (R l) (gr C (R l) A B (aE (R l) x))))∧
  (∀(A B:TypeId) (x:aC) (t:Nat),b8 C l dst (.gr A B x) t false os none K (.bool false)=de C dst os K (cx (R l) (gr C (R l) A B (aE (R l) x))))∧
  (∀(f:FuncId) (cs:List aC) (t:Nat),b8 C l dst (.kc f cs) t true os none K (.bool true)=de C dst os K (some (.fn f (iJ (R l) cs),R l)))∧
  (∀(f:FuncId) (cs:List aC) (t:Nat),b8 C l dst (.kc f cs) t false os none K (.bool false)=de C dst os K (some (.fn f (iJ (R l) cs),R l)))∧
  (∀(T:TypeId) (x y:aC) (t:Nat),b8 C l dst (.dX T x y) t true os none K (.bool true)=de C dst os K (cx (R l) (dX C T (aE (R l) x) (aE (R l) y))))∧
  (∀(T:TypeId) (x y:aC) (t:Nat),b8 C l dst (.dX T x y) t false os none K (.bool false)=de C dst os K (cx (R l) (dX C T (aE (R l) x) (aE (R l) y))))∧
  (∀(T:TypeId) (x:aC) (cJ ay:Option aC) (t:Nat),b8 C l dst (.dh T x cJ ay) t true os none K (.bool true)=de C dst os K (dh C (R l) T (aE (R l) x) (kV (R l) cJ) (kV (R l) ay)))∧
  (∀(T:TypeId) (x:aC) (cJ ay:Option aC) (t:Nat),b8 C l dst (.dh T x cJ ay) t false os none K (.bool false)=de C dst os K (dh C (R l) T (aE (R l) x) (kV (R l) cJ) (kV (R l) ay)))∧
  (∀(T:TypeId) (x:aC) (k:Nat) (t:Nat),b8 C l dst (.cH T x k) t true os none K (.bool true)=de C dst os K (cx (R l) (cH C (R l) T (aE (R l) x) k)))∧
  (∀(T:TypeId) (x:aC) (k:Nat) (t:Nat),b8 C l dst (.cH T x k) t false os none K (.bool false)=de C dst os K (cx (R l) (cH C (R l) T (aE (R l) x) k)))∧
  (∀(T:TypeId) (x y:aC) (t:Nat),b8 C l dst (.dO T x y) t true os none K (.bool true)=de C dst os K (cx (R l) (dO C (R l) T (aE (R l) x) (aE (R l) y))))∧
  (∀(T:TypeId) (x y:aC) (t:Nat),b8 C l dst (.dO T x y) t false os none K (.bool false)=de C dst os K (cx (R l) (dO C (R l) T (aE (R l) x) (aE (R l) y))))∧
  (∀(T:TypeId) (x y:aC) (t:Nat),b8 C l dst (.idx T x y) t true os none K (.bool true)=de C dst os K (cx (R l) (idx C T (aE (R l) x) (aE (R l) y))))∧
  (∀(T:TypeId) (x y:aC) (t:Nat),b8 C l dst (.idx T x y) t false os none K (.bool false)=de C dst os K (cx (R l) (idx C T (aE (R l) x) (aE (R l) y))))∧
  (∀(x:aC) (k:Nat) (t:Nat),b8 C l dst (.ex x k) t true os none K (.bool true)=de C dst os K (cx (R l) (ex (R l) (aE (R l) x) k)))∧
  (∀(x:aC) (k:Nat) (t:Nat),b8 C l dst (.ex x k) t false os none K (.bool false)=de C dst os K (cx (R l) (ex (R l) (aE (R l) x) k)))∧
  (∀(T:TypeId) (x:aC) (t:Nat),b8 C l dst (.len T x) t true os none K (.bool true)=de C dst os K (cx (R l) (lG C (R l) T (aE (R l) x))))∧
  (∀(T:TypeId) (x:aC) (t:Nat),b8 C l dst (.len T x) t false os none K (.bool false)=de C dst os K (cx (R l) (lG C (R l) T (aE (R l) x))))∧
  (∀(T bz:TypeId) (x y:aC) (t:Nat),b8 C l dst (.app T bz x y) t true os none K (.bool true)=de C dst os K (lI C (R l) T bz (aE (R l) x) (aE (R l) y)))∧
  (∀(T bz:TypeId) (x y:aC) (t:Nat),b8 C l dst (.app T bz x y) t false os none K (.bool false)=de C dst os K (lI C (R l) T bz (aE (R l) x) (aE (R l) y))):=
 ⟨fun x _=>(e5 rfl).trans (congrArg _ (sR x)),fun x _=>(e5 rfl).trans (congrArg _ (sR x)),fun x _=>(e5 rfl).trans (congrArg _ (sS x)),fun x _=>(e5 rfl).trans (congrArg _ (sS x)),fun c x y _=>(e5 rfl).trans (congrArg _ (sT c x y)),fun c x y _=>(e5 rfl).trans (congrArg _ (sT c x y)),fun T _=>(e5 rfl).trans (congrArg _ (sU T)),fun T _=>(e5 rfl).trans (congrArg _ (sU T)),fun T x _=>(e5 rfl).trans (congrArg _ (sV T x)),fun T x _=>(e5 rfl).trans (congrArg _ (sV T x)),fun T ps _=>(e5 rfl).trans (congrArg _ (sW T ps)),fun T ps _=>(e5 rfl).trans (congrArg _ (sW T ps)),fun T n ps _=>(e5 rfl).trans (congrArg _ (sX T n ps)),fun T n ps _=>(e5 rfl).trans (congrArg _ (sX T n ps)),fun T x _=>(e5 rfl).trans (congrArg _ (sY T x)),fun T x _=>(e5 rfl).trans (congrArg _ (sY T x)),fun T x y _=>(e5 rfl).trans (congrArg _ (sZ T x y)),fun T x y _=>(e5 rfl).trans (congrArg _ (sZ T x y)),fun x _=>(e5 rfl).trans (congrArg _ (s0 x)),fun x _=>(e5 rfl).trans (congrArg _ (s0 x)),fun op T x y _=>(e5 rfl).trans (congrArg _ (s3 op T x y)),fun op T x y _=>(e5 rfl).trans (congrArg _ (s3 op T x y)),fun op x _=>(e5 rfl).trans (congrArg _ (s4 op x)),fun op x _=>(e5 rfl).trans (congrArg _ (s4 op x)),fun A B x _=>(e5 rfl).trans (congrArg _ (s5 A B x)),fun A B x _=>(e5 rfl).trans (congrArg _ (s5 A B x)),fun f cs _=>(e5 rfl).trans (congrArg _ (s6 f cs)),fun f cs _=>(e5 rfl).trans (congrArg _ (s6 f cs)),fun T x y _=>(e5 rfl).trans (congrArg _ (s7 T x y)),fun T x y _=>(e5 rfl).trans (congrArg _ (s7 T x y)),fun T x cJ ay _=>(e5 rfl).trans (congrArg _ (s8 T x cJ ay)),fun T x cJ ay _=>(e5 rfl).trans (congrArg _ (s8 T x cJ ay)),fun T x k _=>(e5 rfl).trans (congrArg _ (s9 T x k)),fun T x k _=>(e5 rfl).trans (congrArg _ (s9 T x k)),fun T x y _=>(e5 rfl).trans (congrArg _ (s_ T x y)),fun T x y _=>(e5 rfl).trans (congrArg _ (s_ T x y)),fun T x y _=>(e5 rfl).trans (congrArg _ (ta T x y)),fun T x y _=>(e5 rfl).trans (congrArg _ (ta T x y)),fun x k _=>(e5 rfl).trans (congrArg _ (tb x k)),fun x k _=>(e5 rfl).trans (congrArg _ (tb x k)),fun T x _=>(e5 rfl).trans (congrArg _ (tc T x)),fun T x _=>(e5 rfl).trans (congrArg _ (tc T x)),fun T bz x y _=>(e5 rfl).trans (congrArg _ (td T bz x y)),fun T bz x y _=>(e5 rfl).trans (congrArg _ (td T bz x y))⟩
theorem OU:
  (∀(x:aC) (t:Nat),b8 C l dst (.bg x) t true os (some a) K (.bool true)=df C l (t::use (R l) (.bg x)) (cO (R l) (.bg x)) dst os a K (some (aE (R l) x,R l)))∧
  (∀(x:aC) (t:Nat),b8 C l dst (.bg x) t false os (some a) K (.bool false)=df C l (t::use (R l) (.bg x)) (cO (R l) (.bg x)) dst os a K (some (aE (R l) x,R l)))∧
  (∀(x:aC) (t:Nat),b8 C l dst (.fk x) t true os (some a) K (.bool true)=df C l (t::use (R l) (.fk x)) (cO (R l) (.fk x)) dst os a K (iW (R l) (aE (R l) x)))∧
  (∀(x:aC) (t:Nat),b8 C l dst (.fk x) t false os (some a) K (.bool false)=df C l (t::use (R l) (.fk x)) (cO (R l) (.fk x)) dst os a K (iW (R l) (aE (R l) x)))∧
  (∀(c x y:aC) (t:Nat),b8 C l dst (.pick c x y) t true os (some a) K (.bool true)=df C l (t::use (R l) (.pick c x y)) (cO (R l) (.pick c x y)) dst os a K (qi (R l) (aE (R l) c) (aE (R l) x) (aE (R l) y)))∧
  (∀(c x y:aC) (t:Nat),b8 C l dst (.pick c x y) t false os (some a) K (.bool false)=df C l (t::use (R l) (.pick c x y)) (cO (R l) (.pick c x y)) dst os a K (qi (R l) (aE (R l) c) (aE (R l) x) (aE (R l) y)))∧
  (∀(T:TypeId) (t:Nat),b8 C l dst (.gU T) t true os (some a) K (.bool true)=df C l (t::use (R l) (.gU T)) (cO (R l) (.gU T)) dst os a K (cx (R l) (gU C T)))∧
  (∀(T:TypeId) (t:Nat),b8 C l dst (.gU T) t false os (some a) K (.bool false)=df C l (t::use (R l) (.gU T)) (cO (R l) (.gU T)) dst os a K (cx (R l) (gU C T)))∧
  (∀(T:TypeId) (x:aC) (t:Nat),b8 C l dst (.cQ T x) t true os (some a) K (.bool true)=df C l (t::use (R l) (.cQ T x)) (cO (R l) (.cQ T x)) dst os a K (cQ (R l) (aE (R l) x)))∧
  (∀(T:TypeId) (x:aC) (t:Nat),b8 C l dst (.cQ T x) t false os (some a) K (.bool false)=df C l (t::use (R l) (.cQ T x)) (cO (R l) (.cQ T x)) dst os a K (cQ (R l) (aE (R l) x)))∧
  (∀(T:TypeId) (ps:List (Nat×aC)) (t:Nat),b8 C l dst (.fE T ps) t true os (some a) K (.bool true)=df C l (t::use (R l) (.fE T ps)) (cO (R l) (.fE T ps)) dst os a K (fE C (R l) T (jV (R l) ps)))∧
  (∀(T:TypeId) (ps:List (Nat×aC)) (t:Nat),b8 C l dst (.fE T ps) t false os (some a) K (.bool false)=df C l (t::use (R l) (.fE T ps)) (cO (R l) (.fE T ps)) dst os a K (fE C (R l) T (jV (R l) ps)))∧
  (∀(T:TypeId) (n:Nat) (ps:List (Nat×aC)) (t:Nat),b8 C l dst (.dT T n ps) t true os (some a) K (.bool true)=df C l (t::use (R l) (.dT T n ps)) (cO (R l) (.dT T n ps)) dst os a K (dT C (R l) T n (jV (R l) ps)))∧
  (∀(T:TypeId) (n:Nat) (ps:List (Nat×aC)) (t:Nat),b8 C l dst (.dT T n ps) t false os (some a) K (.bool false)=df C l (t::use (R l) (.dT T n ps)) (cO (R l) (.dT T n ps)) dst os a K (dT C (R l) T n (jV (R l) ps)))∧
  (∀(T:TypeId) (x:aC) (t:Nat),b8 C l dst (.bY T x) t true os (some a) K (.bool true)=df C l (t::use (R l) (.bY T x)) (cO (R l) (.bY T x)) dst os a K (cx (R l) (bY C (R l) T (aE (R l) x))))∧
  (∀(T:TypeId) (x:aC) (t:Nat),b8 C l dst (.bY T x) t false os (some a) K (.bool false)=df C l (t::use (R l) (.bY T x)) (cO (R l) (.bY T x)) dst os a K (cx (R l) (bY C (R l) T (aE (R l) x))))∧
  (∀(T:TypeId) (x y:aC) (t:Nat),b8 C l dst (.gd T x y) t true os (some a) K (.bool true)=df C l (t::use (R l) (.gd T x y)) (cO (R l) (.gd T x y)) dst os a K (gw (gd C (R l) T (aE (R l) x) (aE (R l) y))))∧
  (∀(T:TypeId) (x y:aC) (t:Nat),b8 C l dst (.gd T x y) t false os (some a) K (.bool false)=df C l (t::use (R l) (.gd T x y)) (cO (R l) (.gd T x y)) dst os a K (gw (gd C (R l) T (aE (R l) x) (aE (R l) y))))∧
  (∀(x:aC) (t:Nat),b8 C l dst (.eo x) t true os (some a) K (.bool true)=df C l (t::use (R l) (.eo x)) (cO (R l) (.eo x)) dst os a K (cx (R l) (eo (R l) (aE (R l) x))))∧
  (∀(x:aC) (t:Nat),b8 C l dst (.eo x) t false os (some a) K (.bool false)=df C l (t::use (R l) (.eo x)) (cO (R l) (.eo x)) dst os a K (cx (R l) (eo (R l) (aE (R l) x))))∧
  (∀(op:BinOp) (T:TypeId) (x y:aC) (t:Nat),b8 C l dst (.bx op T x y) t true os (some a) K (.bool true)=df C l (t::use (R l) (.bx op T x y)) (cO (R l) (.bx op T x y)) dst os a K (cx (R l) (bx C (R l) op T (aE (R l) x) (aE (R l) y))))∧
  (∀(op:BinOp) (T:TypeId) (x y:aC) (t:Nat),b8 C l dst (.bx op T x y) t false os (some a) K (.bool false)=df C l (t::use (R l) (.bx op T x y)) (cO (R l) (.bx op T x y)) dst os a K (cx (R l) (bx C (R l) op T (aE (R l) x) (aE (R l) y))))∧
  (∀(op:UnOp) (x:aC) (t:Nat),b8 C l dst (.un op x) t true os (some a) K (.bool true)=df C l (t::use (R l) (.un op x)) (cO (R l) (.un op x)) dst os a K (cx (R l) (un op (aE (R l) x))))∧
  (∀(op:UnOp) (x:aC) (t:Nat),b8 C l dst (.un op x) t false os (some a) K (.bool false)=df C l (t::use (R l) (.un op x)) (cO (R l) (.un op x)) dst os a K (cx (R l) (un op (aE (R l) x))))∧
  (∀(A B:TypeId) (x:aC) (t:Nat),b8 C l dst (.gr A B x) t true os (some a) K (.bool true)=df C l (t::use (R l) (.gr A B x)) (cO (R l) (.gr A B x)) dst os a K (cx (R l) (gr C (R l) A B (aE (R l) x))))∧
  (∀(A B:TypeId) (x:aC) (t:Nat),b8 C l dst (.gr A B x) t false os (some a) K (.bool false)=df C l (t::use (R l) (.gr A B x)) (cO (R l) (.gr A B x)) dst os a K (cx (R l) (gr C (R l) A B (aE (R l) x))))∧
  (∀(f:FuncId) (cs:List aC) (t:Nat),b8 C l dst (.kc f cs) t true os (some a) K (.bool true)=df C l (t::use (R l) (.kc f cs)) (cO (R l) (.kc f cs)) dst os a K (some (.fn f (iJ (R l) cs),R l)))∧
  (∀(f:FuncId) (cs:List aC) (t:Nat),b8 C l dst (.kc f cs) t false os (some a) K (.bool false)=df C l (t::use (R l) (.kc f cs)) (cO (R l) (.kc f cs)) dst os a K (some (.fn f (iJ (R l) cs),R l)))∧
  (∀(T:TypeId) (x y:aC) (t:Nat),b8 C l dst (.dX T x y) t true os (some a) K (.bool true)=df C l (t::use (R l) (.dX T x y)) (cO (R l) (.dX T x y)) dst os a K (cx (R l) (dX C T (aE (R l) x) (aE (R l) y))))∧
  (∀(T:TypeId) (x y:aC) (t:Nat),b8 C l dst (.dX T x y) t false os (some a) K (.bool false)=df C l (t::use (R l) (.dX T x y)) (cO (R l) (.dX T x y)) dst os a K (cx (R l) (dX C T (aE (R l) x) (aE (R l) y))))∧
  (∀(T:TypeId) (x:aC) (cJ ay:Option aC) (t:Nat),b8 C l dst (.dh T x cJ ay) t true os (some a) K (.bool true)=df C l (t::use (R l) (.dh T x cJ ay)) (cO (R l) (.dh T x cJ ay)) dst os a K (dh C (R l) T (aE (R l) x) (kV (R l) cJ) (kV (R l) ay)))∧
  (∀(T:TypeId) (x:aC) (cJ ay:Option aC) (t:Nat),b8 C l dst (.dh T x cJ ay) t false os (some a) K (.bool false)=df C l (t::use (R l) (.dh T x cJ ay)) (cO (R l) (.dh T x cJ ay)) dst os a K (dh C (R l) T (aE (R l) x) (kV (R l) cJ) (kV (R l) ay)))∧
  (∀(T:TypeId) (x:aC) (k:Nat) (t:Nat),b8 C l dst (.cH T x k) t true os (some a) K (.bool true)=df C l (t::use (R l) (.cH T x k)) (cO (R l) (.cH T x k)) dst os a K (cx (R l) (cH C (R l) T (aE (R l) x) k)))∧
  (∀(T:TypeId) (x:aC) (k:Nat) (t:Nat),b8 C l dst (.cH T x k) t false os (some a) K (.bool false)=df C l (t::use (R l) (.cH T x k)) (cO (R l) (.cH T x k)) dst os a K (cx (R l) (cH C (R l) T (aE (R l) x) k)))∧
  (∀(T:TypeId) (x y:aC) (t:Nat),b8 C l dst (.dO T x y) t true os (some a) K (.bool true)=df C l (t::use (R l) (.dO T x y)) (cO (R l) (.dO T x y)) dst os a K (cx (R l) (dO C (R l) T (aE (R l) x) (aE (R l) y))))∧
  (∀(T:TypeId) (x y:aC) (t:Nat),b8 C l dst (.dO T x y) t false os (some a) K (.bool false)=df C l (t::use (R l) (.dO T x y)) (cO (R l) (.dO T x y)) dst os a K (cx (R l) (dO C (R l) T (aE (R l) x) (aE (R l) y))))∧
  (∀(T:TypeId) (x y:aC) (t:Nat),b8 C l dst (.idx T x y) t true os (some a) K (.bool true)=df C l (t::use (R l) (.idx T x y)) (cO (R l) (.idx T x y)) dst os a K (cx (R l) (idx C T (aE (R l) x) (aE (R l) y))))∧
  (∀(T:TypeId) (x y:aC) (t:Nat),b8 C l dst (.idx T x y) t false os (some a) K (.bool false)=df C l (t::use (R l) (.idx T x y)) (cO (R l) (.idx T x y)) dst os a K (cx (R l) (idx C T (aE (R l) x) (aE (R l) y))))∧
  (∀(x:aC) (k:Nat) (t:Nat),b8 C l dst (.ex x k) t true os (some a) K (.bool true)=df C l (t::use (R l) (.ex x k)) (cO (R l) (.ex x k)) dst os a K (cx (R l) (ex (R l) (aE (R l) x) k)))∧
  (∀(x:aC) (k:Nat) (t:Nat),b8 C l dst (.ex x k) t false os (some a) K (.bool false)=df C l (t::use (R l) (.ex x k)) (cO (R l) (.ex x k)) dst os a K (cx (R l) (ex (R l) (aE (R l) x) k)))∧
  (∀(T:TypeId) (x:aC) (t:Nat),b8 C l dst (.len T x) t true os (some a) K (.bool true)=df C l (t::use (R l) (.len T x)) (cO (R l) (.len T x)) dst os a K (cx (R l) (lG C (R l) T (aE (R l) x))))∧
  (∀(T:TypeId) (x:aC) (t:Nat),b8 C l dst (.len T x) t false os (some a) K (.bool false)=df C l (t::use (R l) (.len T x)) (cO (R l) (.len T x)) dst os a K (cx (R l) (lG C (R l) T (aE (R l) x))))∧
  (∀(T bz:TypeId) (x y:aC) (t:Nat),b8 C l dst (.app T bz x y) t true os (some a) K (.bool true)=df C l (t::use (R l) (.app T bz x y)) (cO (R l) (.app T bz x y)) dst os a K (lI C (R l) T bz (aE (R l) x) (aE (R l) y)))∧
  (∀(T bz:TypeId) (x y:aC) (t:Nat),b8 C l dst (.app T bz x y) t false os (some a) K (.bool false)=df C l (t::use (R l) (.app T bz x y)) (cO (R l) (.app T bz x y)) dst os a K (lI C (R l) T bz (aE (R l) x) (aE (R l) y))):=
 ⟨fun x _=>(e6 rfl).trans (congrArg _ (sR x)),fun x _=>(e6 rfl).trans (congrArg _ (sR x)),fun x _=>(e6 rfl).trans (congrArg _ (sS x)),fun x _=>(e6 rfl).trans (congrArg _ (sS x)),fun c x y _=>(e6 rfl).trans (congrArg _ (sT c x y)),fun c x y _=>(e6 rfl).trans (congrArg _ (sT c x y)),fun T _=>(e6 rfl).trans (congrArg _ (sU T)),fun T _=>(e6 rfl).trans (congrArg _ (sU T)),fun T x _=>(e6 rfl).trans (congrArg _ (sV T x)),fun T x _=>(e6 rfl).trans (congrArg _ (sV T x)),fun T ps _=>(e6 rfl).trans (congrArg _ (sW T ps)),fun T ps _=>(e6 rfl).trans (congrArg _ (sW T ps)),fun T n ps _=>(e6 rfl).trans (congrArg _ (sX T n ps)),fun T n ps _=>(e6 rfl).trans (congrArg _ (sX T n ps)),fun T x _=>(e6 rfl).trans (congrArg _ (sY T x)),fun T x _=>(e6 rfl).trans (congrArg _ (sY T x)),fun T x y _=>(e6 rfl).trans (congrArg _ (sZ T x y)),fun T x y _=>(e6 rfl).trans (congrArg _ (sZ T x y)),fun x _=>(e6 rfl).trans (congrArg _ (s0 x)),fun x _=>(e6 rfl).trans (congrArg _ (s0 x)),fun op T x y _=>(e6 rfl).trans (congrArg _ (s3 op T x y)),fun op T x y _=>(e6 rfl).trans (congrArg _ (s3 op T x y)),fun op x _=>(e6 rfl).trans (congrArg _ (s4 op x)),fun op x _=>(e6 rfl).trans (congrArg _ (s4 op x)),fun A B x _=>(e6 rfl).trans (congrArg _ (s5 A B x)),fun A B x _=>(e6 rfl).trans (congrArg _ (s5 A B x)),fun f cs _=>(e6 rfl).trans (congrArg _ (s6 f cs)),fun f cs _=>(e6 rfl).trans (congrArg _ (s6 f cs)),fun T x y _=>(e6 rfl).trans (congrArg _ (s7 T x y)),fun T x y _=>(e6 rfl).trans (congrArg _ (s7 T x y)),fun T x cJ ay _=>(e6 rfl).trans (congrArg _ (s8 T x cJ ay)),fun T x cJ ay _=>(e6 rfl).trans (congrArg _ (s8 T x cJ ay)),fun T x k _=>(e6 rfl).trans (congrArg _ (s9 T x k)),fun T x k _=>(e6 rfl).trans (congrArg _ (s9 T x k)),fun T x y _=>(e6 rfl).trans (congrArg _ (s_ T x y)),fun T x y _=>(e6 rfl).trans (congrArg _ (s_ T x y)),fun T x y _=>(e6 rfl).trans (congrArg _ (ta T x y)),fun T x y _=>(e6 rfl).trans (congrArg _ (ta T x y)),fun x k _=>(e6 rfl).trans (congrArg _ (tb x k)),fun x k _=>(e6 rfl).trans (congrArg _ (tb x k)),fun T x _=>(e6 rfl).trans (congrArg _ (tc T x)),fun T x _=>(e6 rfl).trans (congrArg _ (tc T x)),fun T bz x y _=>(e6 rfl).trans (congrArg _ (td T bz x y)),fun T bz x y _=>(e6 rfl).trans (congrArg _ (td T bz x y))⟩
end
theorem Gy:
  (∀(t:Nat) (k:IntKind) (n:Int),iG t (.int k n)=(.int k n))∧
  (∀(t:Nat) (b:Bool),iG t (.bool b)=(.bool b))∧
  (∀(t:Nat) (x:List UInt8),iG t (.str x)=(.str x))∧
  (∀(t:Nat) (xs:List I),iG t (.slice xs)=(.slice xs))∧
  (∀(t:Nat) (d:I),iG t (.ref d)=(.ref d))∧
  (∀(t:Nat) (f:FuncId) (cap:List I),iG t (.fn f cap)=(.fn f cap))∧
  (∀(t:Nat) (x:Nat) (q:List Nat),iG t (.h x q)=(.h x q))∧
  (∀(t:Nat) (x:Nat) (q:List Nat),iG t (.ao x q)=(.ao x q))∧
  (∀(t:Nat),iG t .cS= .cS)∧
  (∀(t:Nat),iG t .bk= .bk)∧
  (∀(t:Nat),iG t .et= .et)∧
  (∀(t:Nat),iG t .hole= .hole)∧
  (∀(t:Nat) (sz:Nat) (xs:List I),iG t (.aL sz xs)= .h t [])∧
  (∀(t:Nat) (d:I),iG t (.bM d)= .h t [])∧
  (∀(t:Nat) (aq:List I),iG t (.agg aq)=if I.fK aq=true then(.agg aq)else .h t [])∧
  (∀(t:Nat) (aq:List I),iG t (.tuple aq)=if I.fK aq=true then(.tuple aq)else .h t []):=
 ⟨fun _ _ _=>rfl,fun _ _=>rfl,fun _ _=>rfl,fun _ _=>rfl,fun _ _=>rfl,fun _ _ _=>rfl,fun _ _ _=>rfl,fun _ _ _=>rfl,fun _=>rfl,fun _=>rfl,fun _=>rfl,fun _=>rfl,fun _ _ _=>rfl,fun _ _=>rfl,fun _ _=>rfl,fun _ _=>rfl⟩
theorem Gz:
  (∀(l:List (Nat×I)) (av:I),fin (R l) none av=R l)∧
  (∀(l:List (Nat×I)) (t:Nat) (k:IntKind) (n:Int),fin (R l) (some t) (.int k n)=R ((t,(.int k n))::l))∧
  (∀(l:List (Nat×I)) (t:Nat) (b:Bool),fin (R l) (some t) (.bool b)=R ((t,(.bool b))::l))∧
  (∀(l:List (Nat×I)) (t:Nat) (x:List UInt8),fin (R l) (some t) (.str x)=R ((t,(.str x))::l))∧
  (∀(l:List (Nat×I)) (t:Nat) (xs:List I),fin (R l) (some t) (.slice xs)=R ((t,(.slice xs))::l))∧
  (∀(l:List (Nat×I)) (t:Nat) (d:I),fin (R l) (some t) (.ref d)=R ((t,(.ref d))::l))∧
  (∀(l:List (Nat×I)) (t:Nat) (f:FuncId) (cap:List I),fin (R l) (some t) (.fn f cap)=R ((t,(.fn f cap))::l))∧
  (∀(l:List (Nat×I)) (t:Nat) (x:Nat) (q:List Nat),fin (R l) (some t) (.h x q)=R ((t,(.h x q))::l))∧
  (∀(l:List (Nat×I)) (t:Nat) (x:Nat) (q:List Nat),fin (R l) (some t) (.ao x q)=R ((t,(.ao x q))::l))∧
  (∀(l:List (Nat×I)) (t:Nat),fin (R l) (some t) .cS=R ((t,.cS)::l))∧
  (∀(l:List (Nat×I)) (t:Nat),fin (R l) (some t) .bk=R ((t,.bk)::l))∧
  (∀(l:List (Nat×I)) (t:Nat),fin (R l) (some t) .et=R ((t,.et)::l))∧
  (∀(l:List (Nat×I)) (t:Nat),fin (R l) (some t) .hole=R ((t,.hole)::l))∧
  (∀(l:List (Nat×I)) (t:Nat) (sz:Nat) (xs:List I),fin (R l) (some t) (.aL sz xs)=R ((t,(.aL sz xs))::ns t l))∧
  (∀(l:List (Nat×I)) (t:Nat) (d:I),fin (R l) (some t) (.bM d)=R ((t,(.bM d))::ns t l))∧
  (∀(l:List (Nat×I)) (t:Nat) (aq:List I),fin (R l) (some t) (.agg aq)=R ((t,(.agg aq))::if I.fK aq=true then l else ns t l))∧
  (∀(l:List (Nat×I)) (t:Nat) (aq:List I),fin (R l) (some t) (.tuple aq)=R ((t,(.tuple aq))::if I.fK aq=true then l else ns t l)):=
 ⟨fun _ _=>rfl,fun l t _ _=>by simp only[fin,I.plain,if_true,kx],fun l t _=>by simp only[fin,I.plain,if_true,kx],fun l t _=>by simp only[fin,I.plain,if_true,kx],fun l t _=>by simp only[fin,I.plain,if_true,kx],fun l t _=>by simp only[fin,I.plain,if_true,kx],fun l t _ _=>by simp only[fin,I.plain,if_true,kx],fun l t _ _=>by simp only[fin,I.plain,if_true,kx],fun l t _ _=>by simp only[fin,I.plain,if_true,kx],fun l t=>by simp only[fin,I.plain,if_true,kx],fun l t=>by simp only[fin,I.plain,if_true,kx],fun l t=>by simp only[fin,I.plain,if_true,kx],fun l t=>by simp only[fin,I.plain,if_true,kx],fun l t _ _=>by simp only[fin,I.plain,Bool.false_eq_true,if_false,sM,kx],fun l t _=>by simp only[fin,I.plain,Bool.false_eq_true,if_false,sM,kx],fun l t _=>by simp only[fin,I.plain,sM,kx];split<;>rfl,fun l t _=>by simp only[fin,I.plain,sM,kx];split<;>rfl⟩
theorem GA:
  (∀(k:IntKind) (n:Int),I.plain (.int k n)=true)∧
  (∀(b:Bool),I.plain (.bool b)=true)∧
  (∀(x:List UInt8),I.plain (.str x)=true)∧
  (∀(xs:List I),I.plain (.slice xs)=true)∧
  (∀(d:I),I.plain (.ref d)=true)∧
  (∀(f:FuncId) (cap:List I),I.plain (.fn f cap)=true)∧
  (∀(x:Nat) (q:List Nat),I.plain (.h x q)=true)∧
  (∀(x:Nat) (q:List Nat),I.plain (.ao x q)=true)∧
  (I.plain .cS=true)∧
  (I.plain .bk=true)∧
  (I.plain .et=true)∧
  (I.plain .hole=true)∧
  (∀(sz:Nat) (xs:List I),I.plain (.aL sz xs)=false)∧
  (∀(d:I),I.plain (.bM d)=false)∧
  (∀(aq:List I),I.plain (.agg aq)=I.fK aq)∧
  (∀(aq:List I),I.plain (.tuple aq)=I.fK aq)∧
  (I.fK []=true)∧
  (∀d ds,I.fK (d::ds)=(d.plain&&I.fK ds)):=
 ⟨fun _ _=>rfl,fun _=>rfl,fun _=>rfl,fun _=>rfl,fun _=>rfl,fun _ _=>rfl,fun _ _=>rfl,fun _ _=>rfl,rfl,rfl,rfl,rfl,fun _ _=>rfl,fun _=>rfl,fun _=>rfl,fun _=>rfl,rfl,fun _ _=>rfl⟩
theorem GB:
  (∀(s:an) (k:IntKind) (n:Int),iW s (.int k n)=some ((.int k n),s))∧
  (∀(s:an) (b:Bool),iW s (.bool b)=some ((.bool b),s))∧
  (∀(s:an) (x:List UInt8),iW s (.str x)=some ((.str x),s))∧
  (∀(s:an) (xs:List I),iW s (.slice xs)=some ((.slice xs),s))∧
  (∀(s:an) (d:I),iW s (.ref d)=some ((.ref d),s))∧
  (∀(s:an) (f:FuncId) (cap:List I),iW s (.fn f cap)=some ((.fn f cap),s))∧
  (∀(s:an) (x:Nat) (q:List Nat),iW s (.ao x q)=some ((.ao x q),s))∧
  (∀(s:an),iW s .cS=some (.cS,s))∧
  (∀(s:an),iW s .bk=some (.bk,s))∧
  (∀(s:an),iW s .et=some (.et,s))∧
  (∀(s:an),iW s .hole=some (.hole,s))∧
  (∀(s:an) (sz:Nat) (xs:List I),iW s (.aL sz xs)=some ((.aL sz xs),s))∧
  (∀(s:an) (d:I),iW s (.bM d)=some ((.bM d),s))∧
  (∀(s:an) (aq:List I),iW s (.agg aq)=some ((.agg aq),s))∧
  (∀(s:an) (aq:List I),iW s (.tuple aq)=some ((.tuple aq),s))∧
  (∀(s:an) y q,iW s (.h y q)=ch s (.h y q)):=
 ⟨fun _ _ _=>rfl,fun _ _=>rfl,fun _ _=>rfl,fun _ _=>rfl,fun _ _=>rfl,fun _ _ _=>rfl,fun _ _ _=>rfl,fun _=>rfl,fun _=>rfl,fun _=>rfl,fun _=>rfl,fun _ _ _=>rfl,fun _ _=>rfl,fun _ _=>rfl,fun _ _=>rfl,fun _ _ _=>rfl⟩
theorem GC:
  (∀(t:Nat) (k:IntKind) (n:Int),cl t (.int k n)=(.int k n))∧
  (∀(t:Nat) (b:Bool),cl t (.bool b)=(.bool b))∧
  (∀(t:Nat) (x:List UInt8),cl t (.str x)=(.str x))∧
  (∀(t:Nat) (xs:List I),cl t (.slice xs)=(.slice xs))∧
  (∀(t:Nat) (d:I),cl t (.ref d)=(.ref d))∧
  (∀(t:Nat),cl t .cS= .cS)∧
  (∀(t:Nat),cl t .bk= .bk)∧
  (∀(t:Nat),cl t .et= .et)∧
  (∀(t:Nat),cl t .hole= .hole)∧
  (∀(t:Nat) (sz:Nat) (xs:List I),cl t (.aL sz xs)=(.aL sz xs))∧
  (∀(t:Nat) (d:I),cl t (.bM d)=(.bM d))∧
  (∀(t:Nat) (aq:List I),cl t (.agg aq)=(.agg aq))∧
  (∀(t:Nat) (aq:List I),cl t (.tuple aq)=(.tuple aq))∧
  (∀(t y:Nat) q,cl t (.h y q)=if y=t then .hole else .h y q)∧
  (∀(t y:Nat) q,cl t (.ao y q)=if y=t then .hole else .ao y q)∧
  (∀(t:Nat) f c,cl t (.fn f c)= .fn f (iF t c))∧
  (∀t,iF t []=[])∧
  (∀t d ds,iF t (d::ds)=cl t d::iF t ds)∧
  (∀t,ns t []=[])∧
  (∀t u d l,ns t ((u,d)::l)=(u,cl t d)::ns t l)∧
  (∀t l,mD t (R l)=R (ns t l)):=
 ⟨fun _ _ _=>by unfold cl;rfl,fun _ _=>by unfold cl;rfl,fun _ _=>by unfold cl;rfl,fun _ _=>by unfold cl;rfl,fun _ _=>by unfold cl;rfl,fun _=>by unfold cl;rfl,fun _=>by unfold cl;rfl,fun _=>by unfold cl;rfl,fun _=>by unfold cl;rfl,fun _ _ _=>by unfold cl;rfl,fun _ _=>by unfold cl;rfl,fun _ _=>by unfold cl;rfl,fun _ _=>by unfold cl;rfl,fun _ _ _=>by unfold cl;rfl,fun _ _ _=>by unfold cl;rfl,fun _ _ _=>by simp only[cl],fun _=>by simp only[iF],fun _ _ _=>by simp only[iF],fun _=>rfl,fun _ _ _ _=>rfl,fun t l=>sM t l⟩
theorem GD:
  (∀(t:Nat) (k:IntKind) (n:Int),bR t (.int k n)=(.int k n))∧
  (∀(t:Nat) (b:Bool),bR t (.bool b)=(.bool b))∧
  (∀(t:Nat) (x:List UInt8),bR t (.str x)=(.str x))∧
  (∀(t:Nat) (xs:List I),bR t (.slice xs)=(.slice xs))∧
  (∀(t:Nat) (d:I),bR t (.ref d)=(.ref d))∧
  (∀(t:Nat),bR t .cS= .cS)∧
  (∀(t:Nat),bR t .bk= .bk)∧
  (∀(t:Nat),bR t .et= .et)∧
  (∀(t:Nat),bR t .hole= .hole)∧
  (∀(t:Nat) (sz:Nat) (xs:List I),bR t (.aL sz xs)=(.aL sz xs))∧
  (∀(t:Nat) (d:I),bR t (.bM d)=(.bM d))∧
  (∀(t:Nat) (aq:List I),bR t (.agg aq)=(.agg aq))∧
  (∀(t:Nat) (aq:List I),bR t (.tuple aq)=(.tuple aq))∧
  (∀(t y:Nat),bR t (.h y [])= .h y [])∧
  (∀(t y k:Nat) q,bR t (.h y (k::q))=if y=t then .hole else .h y (k::q))∧
  (∀(t y:Nat) q,bR t (.ao y q)=if y=t then .hole else .ao y q)∧
  (∀(t:Nat) f c,bR t (.fn f c)= .fn f (h4 t c))∧
  (∀t,h4 t []=[])∧
  (∀t d ds,h4 t (d::ds)=bR t d::h4 t ds)∧
  (∀t,rn t []=[])∧
  (∀t u d l,rn t ((u,d)::l)=(u,bR t d)::rn t l)∧
  (∀t l,hR t (R l)=R (rn t l)):=
 ⟨fun _ _ _=>by unfold bR;rfl,fun _ _=>by unfold bR;rfl,fun _ _=>by unfold bR;rfl,fun _ _=>by unfold bR;rfl,fun _ _=>by unfold bR;rfl,fun _=>by unfold bR;rfl,fun _=>by unfold bR;rfl,fun _=>by unfold bR;rfl,fun _=>by unfold bR;rfl,fun _ _ _=>by unfold bR;rfl,fun _ _=>by unfold bR;rfl,fun _ _=>by unfold bR;rfl,fun _ _=>by unfold bR;rfl,fun _ _=>by simp[bR],fun _ _ _ _=>by simp[bR],fun _ _ _=>by unfold bR;rfl,fun _ _ _=>by simp only[bR],fun _=>by simp only[h4],fun _ _ _=>by simp only[h4],fun _=>rfl,fun _ _ _ _=>rfl,fun t l=>Oa t l⟩
def Cb:mE→Bool→Option I
 | .bool,b=>some (.bool b)
 |_,_=>none
def ry (neg:Bool):mE→Option (Option Bool)→Option I
 | .slice _,some r=>some (uE neg r)
 |_,_=>none
def rz (neg:Bool):mE→Option Bool→Option I
 | .ptr _,some b=>some (.bool (b !=neg))
 |_,_=>none
theorem GF (C:bS) (s:an) (T:TypeId):
  (∀op k a dj b,bx C s op T (.int k a) (.int dj b)=ka op k a dj b)∧
  (∀op a b,bx C s op T (.str a) (.str b)=mG op a b)∧
  (∀a b,bx C s .eql T (.bool a) (.bool b)=Cb (C.T T).k (a==b))∧
  (∀a b,bx C s .neq T (.bool a) (.bool b)=Cb (C.T T).k (!(a==b)))∧
  (∀xs,bx C s .eql T (.slice xs) .bk=ry false (C.T T).k (kN s (.slice xs)))∧
  (∀xs,bx C s .neq T (.slice xs) .bk=ry true (C.T T).k (kN s (.slice xs)))∧
  (bx C s .eql T .bk .bk=ry false (C.T T).k (kN s .bk))∧
  (bx C s .neq T .bk .bk=ry true (C.T T).k (kN s .bk))∧
  (∀x q,bx C s .eql T (.h x q) .bk=ry false (C.T T).k (kN s (.h x q)))∧
  (∀x q,bx C s .neq T (.h x q) .bk=ry true (C.T T).k (kN s (.h x q)))∧
  (∀x q,bx C s .eql T (.h x q) .cS=rz false (C.T T).k (kO s (.h x q)))∧
  (∀x q,bx C s .neq T (.h x q) .cS=rz true (C.T T).k (kO s (.h x q)))∧
  (∀d,bx C s .eql T (.ref d) .cS=rz false (C.T T).k (kO s (.ref d)))∧
  (∀d,bx C s .neq T (.ref d) .cS=rz true (C.T T).k (kO s (.ref d)))∧
  (bx C s .eql T .cS .cS=rz false (C.T T).k (kO s .cS))∧
  (bx C s .neq T .cS .cS=rz true (C.T T).k (kO s .cS)):=by
 refine⟨?_,?_,?_,?_,?_,?_,?_,?_,?_,?_,?_,?_,?_,?_,?_,?_⟩<;>intros<;>first
  |rfl
  |(simp only[bx]
    generalize (C.T T).k=kL
    cases kL<;>first|rfl|(simp only[ry];generalize kN s _=v;cases v<;>rfl)|(simp only[rz];generalize kO s _=v;cases v<;>(try (rename_i b;cases b))<;>rfl))
theorem GG (k:IntKind) (a b:Int):
  ka .add k a k b=some (.int k (k.wrap (a+b)))∧ka .sub k a k b=some (.int k (k.wrap (a-b)))∧ka .mul k a k b=some (.int k (k.wrap (a*b)))∧
  ka .eql k a k b=some (.bool (a==b))∧ka .neq k a k b=some (.bool (a !=b))∧ka .lss k a k b=some (.bool (decide (a<b)))∧ka .leq k a k b=some (.bool (decide (a≤b)))∧
  ka .gtr k a k b=some (.bool (decide (b<a)))∧ka .geq k a k b=some (.bool (decide (b≤a)))∧
  ka .and k a k b=some (.int k (bitsOf .and k a b))∧ka .or k a k b=some (.int k (bitsOf .or k a b))∧ka .xor k a k b=some (.int k (bitsOf .xor k a b))∧ka .andNot k a k b=some (.int k (bitsOf .andNot k a b)):=by
 simp[ka]
theorem GH (a b:List UInt8):
  mG .eql a b=some (.bool (a==b))∧mG .neq a b=some (.bool !(a==b))∧mG .lss a b=some (.bool (Op.bytesLess a b))∧
  mG .leq a b=some (.bool (Op.bytesLess a b||a==b))∧mG .gtr a b=some (.bool !(Op.bytesLess a b||a==b))∧mG .geq a b=some (.bool !(Op.bytesLess a b)):=by
 refine⟨rfl,rfl,rfl,rfl,rfl,rfl⟩
theorem GI:(∀b,un .not (.bool b)=some (.bool !b))∧(un .not .et=some .et)∧(∀k n,un .neg (.int k n)=some (.int k (k.wrap (0-n)))):=⟨fun _=>rfl,rfl,fun _ _=>rfl⟩
def Cc:mE→Option UInt8→Option I
 | .str,some c=>some (.int .u8 c.toNat)
 |_,_=>none
theorem GJ (C:bS) (T:TypeId) (l:List UInt8) (k:IntKind) (n:Int):idx C T (.str l) (.int k n)=Cc (C.T T).k (bX l n):=by
 simp only[idx,bX]
 generalize (C.T T).k=kL
 cases kL<;>first|rfl|(simp only[Cc];split<;>first|rfl|(cases l[n.toNat]? <;>rfl))
def Cd (C:bS):mE→Option I→Option I
 | .slice e,some d=>if(C.T e).ok=true∧d.wd=(C.T e).sz then some (.ref d)else none
 |_,_=>none
theorem GK (C:bS) (s:an) (T:TypeId) (xs:List I) (k:IntKind) (n:Int):dO C s T (.slice xs) (.int k n)=Cd C (C.T T).k (bX xs n):=by
 simp only[dO,bX]
 generalize (C.T T).k=kL
 cases kL<;>first|rfl|skip
 simp only[Cd]
 by_cases bm:0≤n
 ·simp only[bm,true_and,if_true]
  split
  ·cases xs[n.toNat]? <;>simp[*]
  ·cases xs[n.toNat]? <;>simp[*]
 ·simp only[bm,false_and,if_false]
def vk (C:bS) (y:Nat) (q:List Nat) (n:Int):mE→Option I→Option I
 | .slice e,some (.aL sz xs)=>if(bX xs n).isSome=true∧(C.T e).ok=true∧sz=(C.T e).sz then some (.ao y (q++[n.toNat]))else none
 |_,_=>none
theorem GL (C:bS) (s:an) (T:TypeId) (y:Nat) (q:List Nat) (k:IntKind) (n:Int):dO C s T (.h y q) (.int k n)=vk C y q n (C.T T).k (I.sub q (s y)):=by
 simp only[dO]
 generalize (C.T T).k=kL
 cases kL<;>first|rfl|skip
 rename_i e
 cases aa:I.sub q (s y)with
 |none=>simp[vk]
 |some d=>
  cases d<;>first
   |(simp[vk];done)
   |skip
  rename_i sz xs
  have hg:(bX xs n).isSome=true↔0≤n∧n.toNat<xs.length:=by
   unfold bX;split<;>simp_all<;>omega
  simp only[vk,hg]
  by_cases bm:0≤n<;>by_cases ad:(C.T e).ok=true<;>simp[bm,ad]
def te:mE→an→Option (List UInt8)→Option (I×an)
 | .str,s,some t=>some (.str t,s)
 |_,_,_=>none
def tf (C:bS):mE→an→List I→Option (List I)→Option (I×an)
 | .slice e,s,xs,some t=>if(C.T e).ok=true∧∀d∈xs,d.wd=(C.T e).sz then some (.slice t,s)else none
 |_,_,_,_=>none
theorem GM (C:bS) (s:an) (T:TypeId) (l:List UInt8):
  (∀k a dj b,dh C s T (.str l) (some (.int k a)) (some (.int dj b))=te (C.T T).k s (e1 l a b))∧
  (∀dj b,dh C s T (.str l) none (some (.int dj b))=te (C.T T).k s (e1 l 0 b))∧
  (∀k a,dh C s T (.str l) (some (.int k a)) none=te (C.T T).k s (e1 l a l.length)):=by
 have e:∀(cJ ay:Option I) (a b:Int),(hC 0 cJ=if 0≤a then some a.toNat else none)→(hC l.length ay=if 0≤b then some b.toNat else none)→dh C s T (.str l) cJ ay=te (C.T T).k s (e1 l a b):=by
  intro cJ ay a b ad ag
  simp only[dh]
  generalize (C.T T).k=kL
  cases kL<;>first|rfl|skip
  simp only[ad,ag,e1]
  by_cases cb:0≤a<;>by_cases U:0≤b<;>simp only[cb,U,if_true,if_false,te,true_and,false_and]
  ·by_cases aj:a≤b∧b≤l.length
   ·rw[if_pos ⟨by omega,by omega⟩,if_pos aj]
   ·rw[if_neg (fun h=>aj ⟨by omega,by omega⟩),if_neg aj]
  ·rw[if_neg (by omega)]
 exact⟨fun k a dj b=>e _ _ a b rfl rfl,fun dj b=>e _ _ 0 b rfl rfl,fun k a=>e _ _ a l.length rfl (by simp[hC])⟩
theorem GN (C:bS) (s:an) (T:TypeId) (xs:List I):
  (∀k a dj b,dh C s T (.slice xs) (some (.int k a)) (some (.int dj b))=tf C (C.T T).k s xs (e1 xs a b))∧
  (∀dj b,dh C s T (.slice xs) none (some (.int dj b))=tf C (C.T T).k s xs (e1 xs 0 b))∧
  (∀k a,dh C s T (.slice xs) (some (.int k a)) none=tf C (C.T T).k s xs (e1 xs a xs.length)):=by
 have e:∀(cJ ay:Option I) (a b:Int),(hC 0 cJ=if 0≤a then some a.toNat else none)→(hC xs.length ay=if 0≤b then some b.toNat else none)→dh C s T (.slice xs) cJ ay=tf C (C.T T).k s xs (e1 xs a b):=by
  intro cJ ay a b ad ag
  simp only[dh]
  generalize (C.T T).k=kL
  cases kL<;>first|rfl|skip
  simp only[ad,ag,e1]
  by_cases cb:0≤a<;>by_cases U:0≤b<;>simp only[cb,U,if_true,if_false,tf,true_and,false_and]
  ·by_cases aj:a≤b∧b≤xs.length
   ·rw[if_pos aj]
    have ad:a.toNat≤b.toNat:=by omega
    have ag:b.toNat≤xs.length:=by omega
    simp only[ad,ag,true_and]
   ·rw[if_neg (fun h=>aj ⟨by omega,by omega⟩),if_neg aj]
  ·rw[if_neg (by omega)]
 exact⟨fun k a dj b=>e _ _ a b rfl rfl,fun dj b=>e _ _ 0 b rfl rfl,fun k a=>e _ _ a xs.length rfl (by simp[hC])⟩
def vl (q:List Nat):Option I→Option I
 |some d=>I.sub q d
 |none=>none
theorem GO:(∀d,I.sub [] d=some d)∧(∀k q aq,I.sub (k::q) (.agg aq)=vl q aq[k]?)∧(∀k q aq,I.sub (k::q) (.tuple aq)=vl q aq[k]?)∧(∀k q sz xs,I.sub (k::q) (.aL sz xs)=vl q xs[k]?)∧
  (∀q d,I.sub (0::q) (.bM d)=I.sub q d)∧(∀q d,vl q (some d)=I.sub q d)∧
  (∀k q a b,I.sub (k::q) (.int a b)=none):=by
 refine⟨fun d=>by simp[I.sub],?_,?_,?_,fun q d=>by simp[I.sub],fun _ _=>rfl,fun _ _ _ _=>by simp[I.sub]⟩
 ·intro k q aq;simp only[I.sub];cases aq[k]? <;>rfl
 ·intro k q aq;simp only[I.sub];cases aq[k]? <;>rfl
 ·intro k q sz aq;simp only[I.sub];cases aq[k]? <;>rfl
def GP (k:Nat) (q:List Nat) (n:I) (aq:List I):Option I→I
 |some d=>.agg (aq.set k (I.put q n d))
 |none=>.agg aq
def GQ (k:Nat) (q:List Nat) (n:I) (aq:List I):Option I→I
 |some d=>.tuple (aq.set k (I.put q n d))
 |none=>.tuple aq
def GR (k:Nat) (q:List Nat) (n:I) (sz:Nat) (xs:List I):Option I→I
 |some d=>.aL sz (xs.set k (I.put q n d))
 |none=>.aL sz xs
theorem GS:(∀n d,I.put [] n d=n)∧(∀k q n aq,I.put (k::q) n (.agg aq)=GP k q n aq aq[k]?)∧(∀k q n aq,I.put (k::q) n (.tuple aq)=GQ k q n aq aq[k]?)∧
  (∀k q n sz xs,I.put (k::q) n (.aL sz xs)=GR k q n sz xs xs[k]?)∧(∀q n d,I.put (0::q) n (.bM d)= .bM (I.put q n d))∧
  (∀k q n aq d,GP k q n aq (some d)= .agg (aq.set k (I.put q n d)))∧(∀k q n aq d,GQ k q n aq (some d)= .tuple (aq.set k (I.put q n d)))∧
  (∀k q n sz xs d,GR k q n sz xs (some d)= .aL sz (xs.set k (I.put q n d))):=by
 refine⟨fun n d=>by simp[I.put],?_,?_,?_,fun q n d=>by simp[I.put],fun _ _ _ _ _=>rfl,fun _ _ _ _ _=>rfl,fun _ _ _ _ _ _=>rfl⟩
 ·intro k q n aq;simp only[I.put];cases aq[k]? <;>rfl
 ·intro k q n aq;simp only[I.put];cases aq[k]? <;>rfl
 ·intro k q n sz aq;simp only[I.put];cases aq[k]? <;>rfl
theorem Ce:(∀k n,I.wd (.int k n)=1)∧(∀b,I.wd (.bool b)=1)∧(∀x,I.wd (.str x)=1)∧(∀x,I.wd (.slice x)=1)∧(∀n x,I.wd (.aL n x)=1)∧(∀x,I.wd (.ref x)=1)∧(∀x,I.wd (.bM x)=1)∧
  I.wd .bk=1∧I.wd .cS=1∧I.wd .hole=1∧I.wd .et=1∧(∀x y,I.wd (.h x y)=1)∧(∀x y,I.wd (.ao x y)=1)∧(∀x y,I.wd (.fn x y)=1)∧(∀aq,I.wd (.agg aq)=I.dD aq)∧(∀aq,I.wd (.tuple aq)=I.dD aq)∧I.dD []=0∧(∀d ds,I.dD (d::ds)=d.wd+I.dD ds):=by
 simp[I.wd,I.dD]
theorem OV {α:Type} {e:α→I} {n:Nat} (h:∀x,(e x).wd=n) (xs:List α):(∀d∈xs.map e,d.wd=n)=True:=by
 simp only[List.mem_map,eq_iff_iff,iff_true]
 rintro d ⟨x,_,rfl⟩;exact h x
theorem OW (C:bS) (s:an) (A B:TypeId) (k dj:IntKind) (n:Int) (jS:(C.T A).ok=true) (hr:(C.T B).k= .int dj):gr C s A B (.int k n)=some (.int dj (dj.wrap n)):=by
 simp only[gr,jS,hr,if_true]
theorem OX (m:Int):na (Ai m)= .int .u8 (IntKind.u8.wrap m):=by
 have h:0≤IntKind.u8.wrap m∧IntKind.u8.wrap m<256:=by rw[IntKind.wrap_u8];omega
 simp only[na,Ai,UInt8.toNat_ofNat']
 congr 1
 omega
theorem Cf (m:Int):((Ai m).toNat:Int)=IntKind.u8.wrap m:=by
 have h:=OX m
 simpa [na]using h
section
variable {C:bS} {l:List (Nat×I)} {Q:Exit→an→Prop} {s:an}
theorem mn {ros:List bO} {k:List Nat} (h:cj C (R l) ros none (fun _ s=>Q .normal (R (iT k s)))):cK C (.ct ros (some k)) Q (R l):=xE (fun _ _ h=>h) h
theorem OY {a b:J} (h:∀dZ:Exit→an→Prop,(∀s,fU (cK C b Q) s→dZ .normal s)→(∀s,Q .ret s→dZ .ret s)→(∀i s,Q (.exit i) s→dZ (.exit i) s)→cK C a dZ s):cK C (.seq a b) Q s:=
 h _ (fun _ h=>h) (fun _ h=>h) (fun _ _ h=>h)
theorem cP {ros:List bO} {k:List Nat} {b:J} (h:cj C (R l) ros none (fun _ s=>cK C b Q (R (iT k s)))):cK C (.seq (.ct ros (some k)) b) Q (R l):=xE (fun _ _ h=>.inl h) h
theorem fm {ros:List bO} {gG:List (List Nat)} {k:List Nat} {b:J} (hlen:gG.length=ros.length) (h:cj C (R l) ros (some []) (fun acc s=>ml (sQ gG) 0 [] (acc.getD []).reverse=true∧cK C b Q (R (iT k s)))):
  cK C (.seq (.mj ros gG (some k)) b) Q (R l):=OK (K:=fun s=>fU (cK C b Q) (R (iT k s))) hlen (by
   have key:∀(os:List bO) (s:an) (acc:Option (List eU)),cj C s os acc (fun acc s=>ml (sQ gG) 0 [] (acc.getD []).reverse=true∧cK C b Q (R (iT k s)))→
     cj C s os acc (fun acc s=>ml (sQ gG) 0 [] (acc.getD []).reverse=true∧fU (cK C b Q) (R (iT k s))):=by
    intro os
    induction os with
    |nil=>intro s acc h;exact⟨h.1,.inl h.2⟩
    |cons o os ih=>
     intro s acc h
     have mono:∀{s:an} {bA:fj} {K cV:List Nat→I→an→Prop},(∀a b c,K a b c→cV a b c)→oR C s bA K→oR C s bA cV:=by
      intro s bA K cV ax h
      cases bA with
      |call f args=>
       obtain⟨g,caps,ps,r,ad,gO,ag,aF,a8,bF,cn,cD,eu⟩:=h
       exact⟨g,caps,ps,r,ad,gO,ag,aF,a8,bF,cn,cD,ax _ _ _ eu⟩
      |shr bA=>obtain⟨av,s1,ad,ag,aF,a8⟩:=h;exact⟨av,s1,ad,ag,aF,ax _ _ _ a8⟩
      |me f args u x=>
       obtain⟨bV,b7,g,caps,ps,r,ad,gO,ag,aF,a8,bF,cn,cD,eu,gK,hn⟩:=h
       exact⟨bV,b7,g,caps,ps,r,ad,gO,ag,aF,a8,bF,cn,cD,eu,gK,ax _ _ _ hn⟩
      |mf f args us=>
       obtain⟨b7,g,caps,ps,r,ad,gO,ag,aF,a8,bF,cn,cD,eu,gK⟩:=h
       exact⟨b7,g,caps,ps,r,ad,gO,ag,aF,a8,bF,cn,cD,eu,ax _ _ _ gK⟩
      |_=>obtain⟨av,s1,ad,ag⟩:=h;exact⟨av,s1,ad,ax _ _ _ ag⟩
     simp only[cj,n9]at h⊢
     split
     ·rename_i hg;rw[hg]at h;exact mono (fun _ _ _=>ih _ _) h
     ·rename_i t e8 hg
      rw[hg]at h
      simp only at h
      split
      ·rename_i al5 aa
       rw[aa]at h
       simp only at h
       split
       ·rename_i U;rw[if_pos U]at h;exact mono (fun _ _ _=>ih _ _) h
       ·rename_i U;rw[if_neg U]at h;exact ih _ _ h
      ·rename_i aa;rw[aa]at h;exact ih _ _ h
      ·rename_i ad ag
       split at h
       ·exact ad _ (by assumption)
       ·exact ag (by assumption)
       ·exact h
   exact key _ _ _ h)
theorem fC {c:aC} {a b:J} (aj:aE s c= .bool true) (h:cK C a Q s):cK C (.cond c a b) Q s:=by simp only[cK,aj,if_true];exact h
theorem lk {c:aC} {a b:J} (aj:aE s c= .bool false) (h:cK C b Q s):cK C (.cond c a b) Q s:=by simp only[cK,aj];exact h
theorem OZ {id:Nat} {b:J} (h:∀dZ:Exit→an→Prop,(∀s,Q .normal s→dZ .normal s)→(∀s,Q .ret s→dZ .ret s)→(∀s,Q .normal s→dZ (.exit id) s)→(∀i s,i≠id→Q (.exit i) s→dZ (.exit i) s)→cK C b dZ s):cK C (.block id b) Q s:=
 h (sH id Q) (fun _ h=>h) (fun _ h=>h) (fun s h=>by simp only[sH,if_true];exact h) (fun i s ay h=>by simp only[sH,if_neg ay];exact h)
theorem eG {id:Nat} (h:Q (.exit id) s):cK C (.exit id) Q s:=h
theorem aJ (h:Q .ret s):cK C .ret Q s:=h
theorem a6 (h:Q .normal s):cK C .skip Q s:=h
def ei (C:bS) (b:J) (Q:Exit→an→Prop) (s:an):Prop:=∀Z:an→Prop,(∀aw,cK C b (andThen (fU Z) Q) aw→Z aw)→Z s
theorem eH {b:J} (h:fU (ei C b Q) s):cK C (.loop b) Q s:=h
theorem O0 {b:J} (h:∀dZ:Exit→an→Prop,(∀s,fU (ei C b Q) s→dZ .normal s)→(∀s,Q .ret s→dZ .ret s)→(∀i s,Q (.exit i) s→dZ (.exit i) s)→cK C b dZ s):ei C b Q s:=by
 intro Z sJ
 refine sJ s (F3 b ?_ (h (andThen (fU (ei C b Q)) Q) (fun _ h=>h) (fun _ h=>h) (fun _ _ h=>h)))
 intro e aw bb
 cases e with
 |normal=>exact sI (fun s h=>h Z sJ) aw bb
 |_=>exact bb
theorem bJ {dW:List (Nat×I)} (h:dW.map (·.2)=dW.map fun p=>s p.1):vd s dW:=by
 intro p ao
 left
 induction dW with
 |nil=>cases ao
 |cons a dW ih=>
  simp only[List.map_cons,List.cons.injEq]at h
  rcases List.mem_cons.1 ao with rfl|ao
  ·exact h.1
  ·exact ih h.2 ao
end
section
variable {C:bS} {l:List (Nat×I)} {Q:Exit→an→Prop} {s:an} {os ros:List bO} {K:Option (List eU)→an→Prop} {dst:Option Nat}
theorem GU (l:List (Nat×I)):(∀n,aE (R l) (.t n)=iG n (R l n))∧(∀av,aE (R l) (.c av)=av)∧(∀g,aE (R l) (.f g)= .fn g []):=⟨fun _=>rfl,fun _=>rfl,fun _=>rfl⟩
theorem GV:(∀t,R [] t= .hole)∧(∀u d (l:List (Nat×I)) t,R ((u,d)::l) t=if t=u then d else R l t):=⟨fun _=>rfl,fun _ _ _ _=>rfl⟩
theorem GW (s:an):iT [] s=[]∧(∀t k,iT (t::k) s=(t,s t)::iT k s):=⟨rfl,fun _ _=>rfl⟩
theorem GX (s:an):(∀d,cx s (some d)=some (d,s))∧(∀s1,gw (some s1)=some (.hole,s1))∧iJ s []=[]∧(∀x xs,iJ s (x::xs)=aE s x::iJ s xs)∧jV s []=[]∧(∀k x xs,jV s ((k,x)::xs)=(k,aE s x)::jV s xs)∧
  kV s none=none∧(∀x,kV s (some x)=some (aE s x))∧(∀b x y,qi s (.bool b) x y=some (if b=true then x else y,s)):=
 ⟨fun _=>rfl,fun _=>rfl,rfl,fun _ _=>rfl,rfl,fun _ _ _=>rfl,rfl,fun _=>rfl,fun b _ _=>by cases b<;>rfl⟩
theorem GY (C:bS):(∀e d,Cd C (.slice e) (some d)=if(C.T e).ok=true∧d.wd=(C.T e).sz then some (.ref d)else none)∧
  (∀y q n e sz xs,vk C y q n (.slice e) (some (.aL sz xs))=if(bX xs n).isSome=true∧(C.T e).ok=true∧sz=(C.T e).sz then some (.ao y (q++[n.toNat]))else none)∧
  (∀e s xs t,tf C (.slice e) s xs (some t)=if(C.T e).ok=true∧∀d∈xs,d.wd=(C.T e).sz then some (.slice t,s)else none):=
 ⟨fun _ _=>rfl,fun _ _ _ _ _ _=>rfl,fun _ _ _ _=>rfl⟩
theorem GZ:(∀b,Cb .bool b=some (.bool b))∧(∀c,Cc .str (some c)=some (.int .u8 c.toNat))∧(∀s t,te .str s (some t)=some (.str t,s))∧(∀q d,vl q (some d)=I.sub q d):=
 ⟨fun _=>rfl,fun _=>rfl,fun _ _=>rfl,fun _ _=>rfl⟩
theorem G0 (sz bytes:Nat) (z:I):(∀k,fS.ok ⟨.int k,sz,bytes,z⟩=true)∧fS.ok ⟨.bool,sz,bytes,z⟩=true∧fS.ok ⟨.str,sz,bytes,z⟩=true∧(∀e,fS.ok ⟨.ptr e,sz,bytes,z⟩=true)∧(∀e,fS.ok ⟨.slice e,sz,bytes,z⟩=true)∧(∀e,fS.ok ⟨.struct e,sz,bytes,z⟩=true)∧fS.ok ⟨.fn,sz,bytes,z⟩=true:=by
 simp[fS.ok]
theorem G1 (sz bytes:Nat) (z:I):(∀k,fS.flat ⟨.int k,sz,bytes,z⟩=true)∧fS.flat ⟨.bool,sz,bytes,z⟩=true∧fS.flat ⟨.str,sz,bytes,z⟩=true∧(∀e,fS.flat ⟨.ptr e,sz,bytes,z⟩=true)∧(∀e,fS.flat ⟨.slice e,sz,bytes,z⟩=true)∧(∀e,fS.flat ⟨.struct e,sz,bytes,z⟩=false)∧fS.flat ⟨.fn,sz,bytes,z⟩=true:=by
 simp[fS.flat]
theorem vm (c:UInt8) (k:IntKind) (ax:k≠.i8):k.wrap (c.toNat:Int)=(c.toNat:Int):=by
 have:=c.toNat_lt
 cases k<;>first|(exact(ax rfl).elim)|(simp[IntKind.wrap,IntKind.bits,IntKind.signed];try omega)
theorem Cg (c:UInt8):IntKind.i64.wrap (c.toNat:Int)=(c.toNat:Int)∧IntKind.u64.wrap (c.toNat:Int)=(c.toNat:Int)∧IntKind.u8.wrap (c.toNat:Int)=(c.toNat:Int)∧IntKind.i32.wrap (c.toNat:Int)=(c.toNat:Int)∧IntKind.u32.wrap (c.toNat:Int)=(c.toNat:Int):=
 ⟨vm c _ (by simp),vm c _ (by simp),vm c _ (by simp),vm c _ (by simp),vm c _ (by simp)⟩
theorem cv {k:List Nat} {K:an→Prop} (dW:List (Nat×I)) (h:∀P:List (Nat×I)→Prop,P dW→cj C (R l) ros none (fun _ s=>P (iT k s))) (ax:K (R dW)):cj C (R l) ros none (fun _ s=>K (R (iT k s))):=
 h (fun l=>K (R l)) ax
theorem fo {k:List Nat} {mm:List (List Nat)} {K:an→Prop} (dW:List (Nat×I)) (h:∀P:List (Nat×I)→Prop,P dW→cj C (R l) ros (some []) (fun acc s=>ml mm 0 [] (acc.getD []).reverse=true∧P (iT k s))) (ax:K (R dW)):
  cj C (R l) ros (some []) (fun acc s=>ml mm 0 [] (acc.getD []).reverse=true∧K (R (iT k s))):=
 h (fun l=>K (R l)) ax
theorem bh.O1 (bc:C.en) {f:FuncId} {fn:Func} {c:Code} {e4:J} {fx:List Nat} {as outs:List I} {r:I} (br:C.P.funcs[f]? =some fn) (U:fn.body=some c)
  (kU:(fn.name== "runtime.NumGoroutine")=false) (aa:bt ⟨fn.ntmps,fx⟩ c=some e4.strip) (aV:as.length≤fn.ntmps)
  (h:∀Q:Exit→an→Prop,(∀s,fU (Ends C fx fn.results.toList r outs) s→Q .ret s)→(∀s,fU (Ends C fx fn.results.toList r outs) s→Q .normal s)→cK C e4 Q (R (num 0 as))) (ao:e4.plain=true:=by kernel_rfl):bh C f as r outs:=by
 refine bh.of_wp bc br U kU aa aV ?_ ao
 rw[Gb]
 exact h _ (fun s h=>⟨.inr rfl,h⟩) (fun s h=>⟨.inl rfl,h⟩)
def G2:List I→I
 |[d]=>d
 |ds=>.tuple ds
theorem O2 {fx:List Nat} {fN:List ResultVar} {r:I} {outs:List I} (ds:List I) (ad:fN.map (po C s)=ds.map some) (ag:r=G2 ds) (aF:(fN.map kv).Nodup)
  (a8:∀(i:Nat) (o:I),outs[i]? =some o→o= .hole∨(o=s i∧o.hz=true∧i∈fx∧i∉fN.map kv)):Ends C fx fN r outs s:=.inl ⟨ds,ad,by subst ag;cases ds with|nil=>rfl|cons a t=>cases t<;>rfl,aF,a8⟩
theorem O3 {fx:List Nat} {fN:List ResultVar}:∀(i:Nat) (o:I),([]:List I)[i]? =some o→o= .hole∨(o=s i∧o.hz=true∧i∈fx∧i∉fN.map kv):=fun i o h=>by simp at h
theorem G3:∀(as ds:List I),(lO as ds).filter (·.g)=[]
 |[],_=>rfl
 |_::_,[]=>rfl
 |a::as,d::ds=>by simp only[lO,List.filter_cons];exact G3 as ds
theorem xJ {f:aC} {args:List aC} {g:FuncId} {caps:List I} {K:List Nat→I→an→Prop} (ds:List I) (r:I)
  (ad:aE (R l) f= .fn g caps) (gO:I.fK caps=true) (iR:views (R l) (iJ (R l) args++caps)=some ds)
  (bF:bh C g ds r []) (cn:r.res=true) (cD:I.dK (iJ (R l) args++caps)=[]∨r.cU=true) (n7:K [] r (R l)):oR C (R l) (.call f args) K:=by
 obtain⟨aT,aX,aS,bQ,cp,bK,bH⟩:=Ob _ _ iR
 refine⟨g,caps,lO (iJ (R l) args++caps) ds,r,ad,gO,by rw[aT,B_],fun p ao=>(aS p ao).1,bQ,by rw[aX];exact bF.outs cp.symm,cn,?_,by rw[bK,bH,G3];exact n7⟩
 intro aO
 refine⟨?_,fun p ao=>by rw[(aS p ao).2.2.1];rfl⟩
 rcases cD with cD|cD
 ·exfalso
  simp only[lh,List.any_eq_true]at aO
  obtain⟨p,ao,gT⟩:=aO
  have hm:=(aS p ao).2.2.2
  have:p.a.aa=[]:=by
   have key:∀(as:List I) (a:I),a∈as→I.dK as=[]→a.aa=[]:=by
    intro as
    induction as with
    |nil=>intro a h;cases h
    |cons b as ih=>
     intro a h he
     simp only[I.dK,List.append_eq_nil_iff]at he
     rcases List.mem_cons.1 h with rfl|h
     ·exact he.1
     ·exact ih a h he.2
   exact key _ _ hm cD
  rw[this]at gT;simp at gT
 ·exact cD
theorem ev {f:aC} {args:List aC} {g:FuncId} {caps:List I} {ds:List I} {r:I} (bF:bh C g ds r [])
  (ad:aE (R l) f= .fn g caps) (gO:I.fK caps=true) (iR:views (R l) (iJ (R l) args++caps)=some ds)
  (cn:r.res=true) (cD:I.dK (iJ (R l) args++caps)=[]∨r.cU=true)
  (n7:cj C (fin (R l) dst r) os none K):cj C (R l) (⟨dst,.call f args,none⟩::os) none K:=by
 simp only[cj,n9,qg]
 exact xJ ds r ad gO iR bF cn cD n7
theorem fD {a:List eU} {f:aC} {args:List aC} {g:FuncId} {caps:List I} {ds:List I} {r:I} (bF:bh C g ds r [])
  (ad:aE (R l) f= .fn g caps) (gO:I.fK caps=true) (iR:views (R l) (iJ (R l) args++caps)=some ds)
  (cn:r.res=true) (cD:I.dK (iJ (R l) args++caps)=[]∨r.cU=true)
  (n7:cj C (fin (R l) dst r) os (some (iq (R l) (use (R l) (.call f args)) dst [] r::a)) K):cj C (R l) (⟨dst,.call f args,none⟩::os) (some a) K:=by
 simp only[cj,n9,qg]
 exact xJ ds r ad gO iR bF cn cD n7
theorem eQ {t:Nat} {b:Bool} {f:aC} {args:List aC} {g:FuncId} {caps:List I} {ds:List I} {r:I} (bF:bh C g ds r [])
  (ad:aE (R l) f= .fn g caps) (gO:I.fK caps=true) (iR:views (R l) (iJ (R l) args++caps)=some ds)
  (cn:r.res=true) (cD:I.dK (iJ (R l) args++caps)=[]∨r.cU=true)
  (n7:cj C (fin (R l) dst r) os none K):b8 C l dst (.call f args) t b os none K (.bool b):=by
 simp only[b8,if_true]
 exact xJ ds r ad gO iR bF cn cD n7
theorem jA {a:List eU} {t:Nat} {b:Bool} {f:aC} {args:List aC} {g:FuncId} {caps:List I} {ds:List I} {r:I} (bF:bh C g ds r [])
  (ad:aE (R l) f= .fn g caps) (gO:I.fK caps=true) (iR:views (R l) (iJ (R l) args++caps)=some ds)
  (cn:r.res=true) (cD:I.dK (iJ (R l) args++caps)=[]∨r.cU=true)
  (n7:cj C (fin (R l) dst r) os (some (iq (R l) (t::use (R l) (.call f args)) dst [] r::a)) K):b8 C l dst (.call f args) t b os (some a) K (.bool b):=by
 simp only[b8,if_true]
 exact xJ ds r ad gO iR bF cn cD n7
theorem nu (s:an):views s []=some []∧(∀d ds,views s (d::ds)=(match view s d,views s ds with|some a,some b=>some (a::b)|_,_=>none))∧
  (∀k n,view s (.int k n)=some (.int k n))∧(∀b,view s (.bool b)=some (.bool b))∧(∀x,view s (.str x)=some (.str x))∧(∀x,view s (.slice x)=some (.slice x))∧(∀x,view s (.ref x)=some (.ref x))∧
  view s .bk=some .bk∧view s .cS=some .cS∧(∀aq,view s (.agg aq)=some (.agg aq))∧(∀f cap,view s (.fn f cap)=(views s cap).map (.fn f)):=by
 refine⟨rfl,fun d ds=> ?_,fun _ _=>rfl,fun _=>rfl,fun _=>rfl,fun _=>rfl,fun _=>rfl,rfl,rfl,fun _=>rfl,fun _ _=>by simp only[view]⟩
 simp only[views];rfl
theorem c_ {α:Type} {u e:α→I} (h:∀x,(u x).share=e x) (xs:List α):I.shares (xs.map u)=xs.map e:=by
 rw[I.qQ];simp[h]
theorem lQ {α:Type} {u:α→I} (h:∀x,(u x).cU=true) (xs:List α):I.ia (xs.map u)=true:=by
 induction xs with
 |nil=>rfl
 |cons x xs ih=>simp only[List.map_cons,I.ia,h,ih,Bool.and_self]
def qj (s:an) (H:List Nat):List (Nat×I)→Prop
 |[]=>True
 |p::l=>(p.2=s p.1∨((s p.1).tree=true∧eA (s p.1) p.2∧p.1∉H))∧qj s H l
theorem mO {dW:List (Nat×I)} (H:List Nat) (mM:I.dK (dW.map (·.2))=H) (h:qj s H dW):vd s dW:=by
 have key:∀(gq:List (Nat×I)),qj s H gq→∀p∈gq,p.2=s p.1∨((s p.1).tree=true∧eA (s p.1) p.2∧p.1∉H):=by
  intro gq
  induction gq with
  |nil=>intro _ p ao;cases ao
  |cons a gq ih=>
   intro h p ao
   rcases List.mem_cons.1 ao with rfl|ao
   ·exact h.1
   ·exact ih h.2 p ao
 have aa:∀(gq:List (Nat×I)),∀ca∈gq,∀u∈ca.2.aa,u∈I.dK (gq.map (·.2)):=by
  intro gq
  induction gq with
  |nil=>intro p ao;cases ao
  |cons a gq ih=>
   intro p ao u hu
   simp only[List.map_cons,I.dK,List.mem_append]
   rcases List.mem_cons.1 ao with rfl|ao
   ·exact .inl hu
   ·exact .inr (ih p ao u hu)
 intro p ao
 rcases key _ h p ao with ad|⟨ad,ag,aF⟩
 ·exact .inl ad
 ·refine .inr ⟨ad,ag,fun ca dY=>.inl fun hm=>aF ?_⟩
  rw[←mM];exact aa dW ca dY _ hm
theorem mP {H:List Nat}:qj s H []:=trivial
theorem jW {H:List Nat} {t:Nat} {d:I} {dW:List (Nat×I)} (h:d=s t) (aO:qj s H dW):qj s H ((t,d)::dW):=⟨.inl h,aO⟩
theorem mQ {H:List Nat} {t:Nat} {d bf:I} {dW:List (Nat×I)} (e:s t=d) (aY:d.tree=true) (ah:eA d bf) (mM:t∉H) (aO:qj s H dW):qj s H ((t,bf)::dW):=⟨.inr ⟨by rw[e];exact aY,by rw[e];exact ah,mM⟩,aO⟩
theorem G4 {a b:I} (h:eA a b):∀n,jU (List.replicate n a) (List.replicate n b)
 |0=>.nil
 |n+1=>by simp only[List.replicate_succ];exact .cons h (G4 h n)
theorem Ch {α:Type} {sz:Nat} {u:α→I} {z:α} {a:I} (h:eA a (u z)) (n:Nat):eA (.aL sz (List.replicate n a)) (.aL sz ((List.replicate n z).map u)):=by
 rw[List.map_replicate];exact .aL (G4 h n)
end
theorem G5 {C:bS} {A B:TypeId} {dj:IntKind} (jS:(C.T A).ok=true) (hr:(C.T B).k= .int dj):∀s k n,gr C s A B (.int k n)=some (.int dj (dj.wrap n)):=fun s k n=>OW C s A B k dj n jS hr
theorem ib {α:Type} {e:α→I} {n:Nat} (h:∀x,(e x).wd=n):∀xs:List α,(∀d∈xs.map e,d.wd=n)=True:=OV h
theorem all_cons {P:I→Prop} (d:I) (ds:List I):(∀x∈d::ds,P x)=(P d∧∀x∈ds,P x):=by simp
theorem all_nil {P:I→Prop}:(∀x∈([]:List I),P x)=True:=by simp
def G6 (a b:List UInt8):Option Unit→Option I
 |some _=>some (.str (a++b))
 |none=>none
theorem Ci (a b:List UInt8):mG .add a b=G6 a b (qO (a.length+b.length)):=by
 simp only[mG,qO];split<;>rfl
theorem Cj (a b:List UInt8) (u:Unit):G6 a b (some u)=some (.str (a++b)):=rfl
theorem G7:(∀l:List Nat,[]++l=l)∧(∀a (l m:List Nat),(a::l)++m=a::(l++m)):=⟨fun _=>rfl,fun _ _ _=>rfl⟩
def G8 (C:bS) (e bz:TypeId):Bool:=(C.T e).ok&&((C.T e).zero.wd==(C.T e).sz)&&(flat (C.T e).zero).isSome&&xg C e bz
def xK (C:bS) (e:TypeId) (xs:List I):Option (List I×an)→Option (I×an)
 |some (cf,s2)=>if(∀d∈cf,d.wd=(C.T e).sz)∧(room (C.T e).bytes (xs.length+cf.length)).isSome=true then some (.aL (C.T e).sz (xs++cf),s2)else none
 |none=>none
def Ck (C:bS) (e:TypeId) (y:I) (o:Option Nat):Option (I×an)→Option (I×an)
 |some (.aL sz xs,s1)=>if sz=(C.T e).sz then xK C e xs (kR s1 (kq o y))else none
 |_=>none
theorem O4 (b n:Nat):(room b n).isSome=true↔n*b≤140737488355328∧n≤9223372036854775807:=by unfold room;split<;>simp_all
theorem qk {C:bS} {T bz e:TypeId} (lb:(C.T T).k= .slice e) (gv:G8 C e bz=true):∀s x y,lI C s T bz x y=Ck C e y x.owner (oJ C e s x):=by
 intro s x y
 simp only[G8,Bool.and_eq_true,beq_iff_eq]at gv
 rw[Bs,lb]
 simp only
 rw[if_pos ⟨gv.1.1.1,gv.1.1.2,gv.1.2,gv.2⟩]
 generalize x.owner=o
 cases oJ C e s x with
 |none=>rfl
 |some p=>
  obtain⟨d,s1⟩:=p
  cases d<;>first
   |rfl
   |(simp only[Ck]
     split
     ·rename_i h;subst h
      generalize kR s1 (kq o y)=z
      cases z with
      |none=>rfl
      |some p=>simp only[xK,O4]
     ·rfl)
def G9:Option (I×an)→Option (List I×an)
 |some (.aL _ cf,s2)=>some (cf,s2)
 |_=>none
theorem ql (s:an):kR s .bk=some ([],s)∧(∀cf,kR s (.slice cf)=some (cf,s))∧(∀l,kR s (.str l)=some (l.map na,s))∧
  (∀a q,kR s (.h a q)=G9 (ch s (.h a q)))∧(∀n cf,G9 (some (.aL n cf,s))=some (cf,s)):=
 ⟨rfl,fun _=>rfl,fun _=>rfl,fun _ _=>by simp only[kR];rfl,fun _ _=>rfl⟩
theorem qm (C:bS) (e:TypeId):(∀s,oJ C e s .bk=some (.aL (C.T e).sz [],s))∧(∀s a q,oJ C e s (.h a q)=ch s (.h a q))∧
  (∀y o sz xs s1,Ck C e y o (some (.aL sz xs,s1))=if sz=(C.T e).sz then xK C e xs (kR s1 (kq o y))else none)∧
  (∀xs cf s2,xK C e xs (some (cf,s2))=if(∀d∈cf,d.wd=(C.T e).sz)∧(room (C.T e).bytes (xs.length+cf.length)).isSome=true then some (.aL (C.T e).sz (xs++cf),s2)else none):=
 ⟨fun _=>rfl,fun _ _ _=>rfl,fun _ _ _ _ _=>rfl,fun _ _ _=>rfl⟩
theorem qn:(∀d,kq none d=d)∧(∀x d,kq (some x) d=bR x d)∧(∀x q,I.owner (.h x q)=some x)∧I.owner .bk=none:=
 ⟨fun _=>rfl,fun _ _=>rfl,fun _ _=>rfl,rfl⟩
def G_ (s:an) (x:Nat) (q:List Nat):Option I→Option (I×an)
 |some d=>if d.plain=true then none else some (d,c7 (hR x s) x (I.put q d.cG (s x)))
 |none=>none
theorem Ha (s:an) (x:Nat) (q:List Nat):ch s (.h x q)=G_ s x q (I.sub q (s x)):=by
 simp only[ch];cases I.sub q (s x)<;>rfl
theorem Hb (s:an):(∀x q d,G_ s x q (some d)=if d.plain=true then none else some (d,c7 (hR x s) x (I.put q d.cG (s x))))∧(∀k n,ch s (.int k n)=some (.int k n,s))∧(∀b,ch s (.bool b)=some (.bool b,s))∧(∀x,ch s (.str x)=some (.str x,s))∧
  (∀x,ch s (.slice x)=some (.slice x,s))∧(∀x,ch s (.ref x)=some (.ref x,s))∧(∀x,ch s (.agg x)=some (.agg x,s))∧ch s .bk=some (.bk,s)∧ch s .cS=some (.cS,s):=
 ⟨fun _ _ _=>rfl,fun _ _=>rfl,fun _=>rfl,fun _=>rfl,fun _=>rfl,fun _=>rfl,fun _=>rfl,rfl,rfl⟩
theorem Hc (l:List (Nat×I)) (t:Nat) (d:I):c7 (R l) t d=R ((t,d)::l):=kx l t d
theorem Hd:(∀n x,I.cG (.aL n x)= .hole)∧(∀x,I.cG (.bM x)= .hole)∧(∀aq,I.cG (.agg aq)= .agg (I.kG aq))∧(∀aq,I.cG (.tuple aq)= .tuple (I.kG aq))∧I.kG []=[]∧(∀d ds,I.kG (d::ds)=d.cG::I.kG ds)∧
  (∀k n,I.cG (.int k n)= .int k n)∧(∀b,I.cG (.bool b)= .bool b)∧(∀x,I.cG (.str x)= .str x)∧(∀x,I.cG (.slice x)= .slice x)∧(∀x,I.cG (.ref x)= .ref x)∧I.cG .bk= .bk∧I.cG .cS= .cS∧I.cG .hole= .hole:=by
 simp[I.cG,I.kG]
def rA:Option I→Option I
 |some d=>(match d with| .tuple _=>none| .dq _=>none|d=>if d.plain=true then none else some d.share)
 |none=>none
def rB:Option I→Option I
 |some d=>(match d with| .tuple _=>none|d=>some (.ref d.share))
 |none=>none
theorem nv (s:an) (x:Nat) (q:List Nat):view s (.h x q)=rA (I.sub q (s x))∧view s (.ao x q)=(if I.e2 q (s x)=true then rB (I.sub q (s x))else none):=by
 constructor
 ·simp only[view];rfl
 ·simp only[view];rfl
theorem nw:(∀n xs,rA (some (.aL n xs))=some (.slice (I.shares xs)))∧(∀d,rA (some (.bM d))=some (.ref d.share))∧(∀aq,rA (some (.agg aq))=if I.fK aq=true then none else some (.agg (I.shares aq)))∧
  (∀aq,rB (some (.agg aq))=some (.ref (.agg (I.shares aq))))∧(∀k n,rB (some (.int k n))=some (.ref (.int k n)))∧(∀x,rB (some (.str x))=some (.ref (.str x))):=
 ⟨fun _ _=>by simp[rA,I.plain,I.share],fun _=>by simp[rA,I.plain,I.share],fun aq=>by cases h:I.fK aq<;>simp[rA,I.plain,I.share,h],fun _=>by simp[rB,I.share],fun _ _=>by simp[rB,I.share],fun _=>by simp[rB,I.share]⟩
theorem eV:(∀n xs,I.share (.aL n xs)= .slice (I.shares xs))∧(∀d,I.share (.bM d)= .ref d.share)∧(∀xs,I.share (.slice xs)= .slice (I.shares xs))∧(∀d,I.share (.ref d)= .ref d.share)∧(∀aq,I.share (.agg aq)= .agg (I.shares aq))∧(∀aq,I.share (.tuple aq)= .tuple (I.shares aq))∧
  (∀k n,I.share (.int k n)= .int k n)∧(∀b,I.share (.bool b)= .bool b)∧(∀x,I.share (.str x)= .str x)∧I.share .bk= .bk∧I.share .cS= .cS∧I.shares []=[]∧(∀d ds,I.shares (d::ds)=d.share::I.shares ds):=by
 simp[I.share,I.shares]
theorem ic:(∀k n,I.owner (.int k n)=none)∧(∀b,I.owner (.bool b)=none)∧(∀x,I.owner (.str x)=none)∧(∀x,I.owner (.slice x)=none)∧(∀x,I.owner (.ref x)=none)∧(∀x,I.owner (.agg x)=none)∧I.owner .cS=none∧I.owner .bk=none∧(∀x q,I.owner (.h x q)=some x):=
 ⟨fun _ _=>rfl,fun _=>rfl,fun _=>rfl,fun _=>rfl,fun _=>rfl,fun _=>rfl,rfl,rfl,fun _ _=>rfl⟩
end Go.cI
