/- Part of a proof that a law returns true for every input. No condition. -/
import Derived.Test.YtikimdcnadipbaaGreatDoorFwE
import Derived.Orders
import Derived.KernelRfl
import Derived.Test.YtikimdcnadipbaaGreatDoorFwA
namespace Go.bZ
section
variable {C:bm} {w0 w:World} {F0 X:Nat→Prop} {n:Fr} {ρ:Nat→Value} {s s1:ag} {a:Act} {av:I} {Q:Exit→Act→World→Prop}
def bn.un (o:bn):bn:=⟨o.dst,o.a7.base,o.guard⟩
theorem x3 {ops:Array Oper}:∀{os:List Oper} {rs:List bn},mf n ops os=some rs→os.length=rs.length∧∀(i:Nat) (o:Oper),os[i]? =some o→∃r,rs[i]? =some r∧me n ops o=some r:=by
 intro os
 induction os with
 |nil=>intro rs h;simp only[mf,Option.some.injEq]at h;subst h;exact⟨rfl,fun i o h=>by simp at h⟩
 |cons o os ih=>
  intro rs h
  simp only[mf]at h
  split at h
  ·rename_i r Yo aa ab
   simp only[Option.some.injEq]at h;subst h
   obtain⟨bg,bw⟩:=ih ab
   refine⟨by simp[bg],fun i km bH=> ?_⟩
   cases i with
   |zero=>simp at bH;subst bH;exact⟨r,rfl,aa⟩
   |succ i=>simpa using bw i km (by simpa using bH)
  ·cases h
theorem x4 {o:Oper} {y:Nat→Option Bool} (h:o.guard=none):Region.wanted o y=true:=by simp[Region.wanted,h]
theorem Ja (h:Rel w0 F0 X n ρ s a w) {ops:Array Oper} {j t:Nat} (bE:(ops[j]?).bind (·.dst)=some t):
  (∀b,s t= .bool b→yielded ops a.tmps j=some b)∧(s t= .tuple []→yielded ops a.tmps j=none):=by
 obtain⟨ae,U,bc,F,S,aC⟩:=h
 have gu:=aC.b2 t
 refine⟨fun b J=> ?_,fun J=> ?_⟩
 ·rw[J]at gu
  have aD:=nT gu
  simp only[yielded,bE,Option.bind_some]
  rw[Array.getD_eq_getD_getElem?]at aD
  cases hg:a.tmps[t]? with
  |none=>rw[hg]at aD;simp[undef]at aD
  |some v=>rw[hg]at aD;simp at aD;subst aD;rfl
 ·rw[J]at gu
  obtain⟨⟨arr,aa,ab⟩,_⟩:=(au.bB (d:=.tuple []) rfl).1 gu
  simp only[yielded,bE,Option.bind_some]
  rw[Array.getD_eq_getD_getElem?]at aa
  cases hg:a.tmps[t]? with
  |none=>rfl
  |some v=>rw[hg]at aa;simp at aa;subst aa;rfl
theorem x5 (aV:C.db) {ops:Array Oper} {ros:List bn} {l2:List Nat} {K:ag→Prop} (aQ:∀ao bU ar,K ao→Rel w0 F0 X n ρ ao bU ar→wpOps C.P ops Q l2 bU ar):
  ∀(l:List Nat),(∀i∈l,(ops[i]? =none→ros[i]? =none)∧∀o,ops[i]? =some o→∃r,ros[i]? =some r∧me n ops o=some r.un)→
  ∀(s:ag) (a:Act) (w:World),ha C ros s l K→Rel w0 F0 X n ρ s a w→wpOps C.P ops Q (l++l2) a w:=by
 intro l
 induction l with
 |nil=>intro _ s a w h aC;exact aQ s a w h aC
 |cons i l ih=>
  intro n9 s a w h aC
  replace ih:=ih fun i ay=>n9 i (List.mem_cons_of_mem _ ay)
  rw[List.cons_append]
  simp only[wpOps]
  cases bH:ops[i]? with
  |none=>
   simp only[ha,(n9 i (by simp)).1 bH]at h
   exact ih s a w h aC
  |some o=>
   obtain⟨r,aa,ab⟩:=(n9 i (by simp)).2 o bH
   simp only[ha,aa]at h
   show(if Region.wanted o (yielded ops a.tmps)=true then o.wp C.P a w (wpOps C.P ops Q (l++l2)) Q∨(o.asks C.P a w∧LetsOut Q)else wpOps C.P ops Q (l++l2) (a.put o.dst undef) w)
   simp only[me]at ab
   split at ab
   ·rename_i uJ
    split at ab
    ·rename_i g hg
     obtain⟨rd,a7,rg⟩:=r
     simp only[bn.un,Option.some.injEq,bn.mk.injEq]at ab
     obtain⟨rfl,bx,rfl⟩:=ab
     simp only[iP]at h
     have run:∀(ch:ag→Prop),(∀ao,ch ao→ha C ros ao l K)→k1 C s a7 (fun av s1=>ch (fin s1 o.dst av))→o.wp C.P a w (wpOps C.P ops Q (l++l2)) Q:=
      fun ch jv hw=>I8 aV aC bx uJ hw (fun ao bU ar al cW=>ih ao bU ar (jv ao al) cW)
     cases ql:o.guard with
     |none=>
      rw[ql]at hg
      simp only[sw,Option.some.injEq]at hg;subst hg
      simp only at h
      rw[if_pos (x4 ql)]
      exact .inl (run _ (fun _ h=>h) h)
     |some x6=>
      obtain⟨j,b⟩:=x6
      rw[ql]at hg
      simp only[sw]at hg
      split at hg
      ·rename_i t aK
       simp only[Option.some.injEq]at hg;subst hg
       simp only at h
       obtain⟨l_,ma⟩:=Ja aC aK
       have BZ:∀(ch:ha C ros (fin s o.dst (.tuple [])) l K),wpOps C.P ops Q (l++l2) (a.put o.dst undef) w:=fun ch=>ih _ _ _ ch (Rel.skip aC uJ)
       split at h
       ·rename_i dK U
        have hy:=l_ dK U
        split at h
        ·rename_i J;subst J
         rw[if_pos (by simp[Region.wanted,ql,hy])]
         exact .inl (run _ (fun _ h=>h) h)
        ·rename_i J
         rw[if_neg (by simp[Region.wanted,ql,hy,J])]
         exact BZ h
       ·rename_i U
        have hy:=ma U
        rw[if_neg (by simp[Region.wanted,ql,hy])]
        exact BZ h
       ·exact h.elim
      ·cases hg
    ·cases ab
   ·cases ab
theorem B0 (aV:C.db) {ops:Array Oper} {ros:List bn} (n_:mf n ops ops.toList=some (ros.map bn.un)) {K:ag→Prop} (aQ:∀ao bU ar,K ao→Rel w0 F0 X n ρ ao bU ar→Q .normal bU ar):
  ∀(l:List Nat) (s:ag) (a:Act) (w:World),ha C ros s l K→Rel w0 F0 X n ρ s a w→wpOps C.P ops Q l a w:=by
 obtain⟨aI,n9⟩:=x3 n_
 intro l s a w h aC
 have:=x5 (Q:=Q) aV (ros:=ros) (ops:=ops) (l2:=[]) (K:=K) (n:=n) (ρ:=ρ) (w0:=w0) (F0:=F0) (X:=X) (fun ao bU ar al cW=>aQ ao bU ar al cW) l (fun i _=>⟨fun bH=>by
   rw[List.getElem?_eq_none_iff,←List.length_map (f:=bn.un),←aI]
   have:=Array.getElem?_eq_none_iff.1 bH
   simpa using this,fun o bH=>by
   obtain⟨aR,eZ,ab⟩:=n9 i o (by simpa using bH)
   obtain⟨r,aa,rfl⟩:∃r,ros[i]? =some r∧r.un=aR:=by simpa using eZ
   exact⟨r,aa,ab⟩⟩) s a w h aC
 rwa [List.append_nil]at this
theorem Rel.drawn (h:Rel w0 F0 X n ρ s a w) (k:Nat) (al:w.drawn≤k):Rel w0 F0 X n ρ s a {w with drawn:=k}:=by
 obtain⟨aa,ab,bc,F,S,aB⟩:=h
 exact⟨aa,ab,bc,F,S,aB.grow (fun _ _=>rfl) (Nat.le_refl _) rfl rfl ⟨rfl,fun _=>al⟩⟩
theorem Jb (aV:C.db) {id:Nat} {ops:Array Oper} {ros:List bn} (n_:mf n ops ops.toList=some (ros.map bn.un)) {K:ag→Prop} (aQ:∀ao bU ar,K ao→Rel w0 F0 X n ρ ao bU ar→Q .normal bU ar)
  (h:ix C s ros K) (aC:Rel w0 F0 X n ρ s a w):(Code.region id ops false).wp C.P Q a w:=by
 refine wp_region (B0 aV n_ aQ _ s a w ?_ aC)
 have:=IL C K ros [] s h
 have aI:=(x3 n_).1
 simp only[List.nil_append,List.length_nil,Nat.add_zero,List.map_id']at this
 rw[List.length_map]at aI
 rw[←aI]at this
 simpa using this
end
def x7 (lJ:List (List Nat)) (l:List Nat):Prop:=
 l.Nodup∧(∀i,i∈l↔i<lJ.length)∧∀u i v,l=u++i::v→∀e∈(lJ[i]?).getD [],e∈u
def k2 (ops:Array Oper):List (List Nat):=ops.toList.map fun o=>(o.after.toList.filter fun e=>Region.binds .any e).map (·.on)
def sB (lJ:List (List Nat)):Bool:=lJ.zipIdx.all fun p=>p.1.all fun e=>decide (e<p.2)
theorem Jc {lJ:List (List Nat)} (h:sB lJ=true) {i:Nat} {l:List Nat} (ay:lJ[i]? =some l):∀e∈l,e<i:=by
 intro e he
 simp only[sB,List.all_eq_true]at h
 have:=h (l,i) (by rw[List.mem_zipIdx_iff_getElem?];exact ay) e he
 simpa using this
theorem Jd {ops:Array Oper} (J:sB (k2 ops)=true):∀(fuel t:Nat) (listed:Array Bool),listed.size=ops.size→((List.range ops.size).filter fun i=> !listed.getD i true).length≤fuel→
  (Region.linearise.go .any ops fuel t listed []).Nodup∧(∀i,i∈Region.linearise.go .any ops fuel t listed []↔(i<ops.size∧listed.getD i true=false))∧
   ∀u i v,Region.linearise.go .any ops fuel t listed []=u++i::v→∀e∈((k2 ops)[i]?).getD [],listed.getD e false=true∨e∈u:=by
 intro fuel
 induction fuel with
 |zero=>
  intro t listed U aI
  have sd:((List.range ops.size).filter fun i=> !listed.getD i true)=[]:=List.length_eq_zero_iff.1 (Nat.le_zero.1 aI)
  refine⟨by simp[Region.linearise.go],fun i=> ?_,fun u i v h=>by simp[Region.linearise.go]at h⟩
  simp only[Region.linearise.go,List.reverse_nil,List.not_mem_nil,false_iff,not_and]
  intro ay bc
  have:i∈((List.range ops.size).filter fun i=> !listed.getD i true):=List.mem_filter.2 ⟨List.mem_range.2 ay,by rw[bc];rfl⟩
  rw[sd]at this;cases this
 |succ fuel ih=>
  intro t listed U aI
  have B1:∀i,i∈Region.ready .any ops listed↔(i<ops.size∧listed.getD i true=false∧∀e∈((k2 ops)[i]?).getD [],listed.getD e false=true):=by
   intro i
   simp only[Region.ready,List.mem_filter,List.mem_range,Bool.and_eq_true,Bool.not_eq_true']
   constructor
   ·rintro⟨aa,ab,aB⟩
    refine⟨aa,ab,?_⟩
    rw[Array.getElem?_eq_getElem aa]at aB
    simp only[Option.map_some,Option.getD_some,Array.all_eq_true_iff_forall_mem]at aB
    simp only[k2,List.getElem?_map,Array.getElem?_toList,Array.getElem?_eq_getElem aa,Option.map_some,Option.getD_some,List.mem_map,List.mem_filter]
    rintro e ⟨x,⟨ai,o_⟩,rfl⟩
    have:=aB x (by simpa using ai)
    simpa [o_]using this
   ·rintro⟨aa,ab,aB⟩
    refine⟨aa,ab,?_⟩
    rw[Array.getElem?_eq_getElem aa]
    simp only[Option.map_some,Option.getD_some,Array.all_eq_true_iff_forall_mem]
    simp only[k2,List.getElem?_map,Array.getElem?_toList,Array.getElem?_eq_getElem aa,Option.map_some,Option.getD_some,List.mem_map,List.mem_filter]at aB
    intro x ai
    cases o_:Region.binds .any x with
    |false=>simp
    |true=>simpa using aB x.on ⟨x,⟨by simpa using ai,o_⟩,rfl⟩
  have hex:(∃i,i<ops.size∧listed.getD i true=false)→Region.ready .any ops listed≠[]:=by
   rintro⟨i,aa,ab⟩
   have:∃i,(i<ops.size∧listed.getD i true=false)∧∀j,j<i→¬(j<ops.size∧listed.getD j true=false):=by
    induction i using Nat.strongRecOn with
    |_ i Je=>
     by_cases bE:∃j,j<i∧(j<ops.size∧listed.getD j true=false)
     ·obtain⟨j,Jf,Jg,Jh⟩:=bE
      exact Je j Jf Jg Jh
     ·exact⟨i,⟨aa,ab⟩,fun j Ji af=>bE ⟨j,Ji,af⟩⟩
   obtain⟨k,⟨bg,bw⟩,cM⟩:=this
   have:k∈Region.ready .any ops listed:=(B1 k).2 ⟨bg,bw,fun e he=>by
    cases br:(k2 ops)[k]? with
    |none=>rw[br]at he;simp at he
    |some l=>
     rw[br]at he
     have cJ:=Jc J br e he
     have:=cM e cJ
     rw[not_and]at this
     have:=this (by omega)
     have x8:e<listed.size:=by omega
     simp only[Array.getD_eq_getD_getElem?,Array.getElem?_eq_getElem x8,Option.getD_some]at this⊢
     simpa using this⟩
   intro e;rw[e]at this;cases this
  have B2:Region.linearise.go .any ops (fuel+1) t listed []=(match(Region.ready .any ops listed)[t%(Region.ready .any ops listed).length]? with
   |some i=>Region.linearise.go .any ops fuel (t/(Region.ready .any ops listed).length) (listed.setIfInBounds i true) [i]
   |none=>[]):=rfl
  cases sC:(Region.ready .any ops listed)[t%(Region.ready .any ops listed).length]? with
  |none=>
   have sd:Region.ready .any ops listed=[]:=by
    cases aC:Region.ready .any ops listed with
    |nil=>rfl
    |cons a l=>
     rw[aC]at sC
     have:=List.getElem?_eq_none_iff.1 sC
     have ab:=Nat.mod_lt t (show 0<(a::l).length by simp)
     omega
   rw[B2,sC]
   refine⟨by simp,fun i=> ?_,fun u i v h=>by simp at h⟩
   simp only[List.not_mem_nil,false_iff]
   intro ay
   exact hex ⟨i,ay⟩ sd
  |some i=>
   have ay:=(B1 i).1 (List.mem_of_getElem? sC)
   obtain⟨sD,B3,Jj⟩:=ay
   rw[B2,sC]
   simp only
   rw[linearise_go_acc]
   simp only[List.reverse_singleton,List.singleton_append]
   have nS:∀j d,(listed.setIfInBounds i true).getD j d=if j=i then true else listed.getD j d:=by
    intro j d
    split
    ·rename_i e;subst e
     simp[Array.getD_eq_getD_getElem?,Array.getElem?_setIfInBounds_self_of_lt (show j<listed.size by omega)]
    ·rename_i e
     simp[Array.getD_eq_getD_getElem?,Array.getElem?_setIfInBounds_ne (fun h=>e h.symm)]
   obtain⟨g1,g2,g3⟩:=ih (t/(Region.ready .any ops listed).length) (listed.setIfInBounds i true) (by simpa using U) (by
    have du:((List.range ops.size).filter fun j=> !(listed.setIfInBounds i true).getD j true)=((List.range ops.size).filter fun i=> !listed.getD i true).filter fun j=>decide (j≠i):=by
     rw[List.filter_filter]
     apply List.filter_congr
     intro j _
     rw[nS]
     by_cases e:j=i<;>simp[e]
    rw[du]
    have cJ:(((List.range ops.size).filter fun i=> !listed.getD i true).filter fun j=>decide (j≠i)).length<((List.range ops.size).filter fun i=> !listed.getD i true).length:=by
     rw[List.length_filter_lt_length_iff_exists]
     exact⟨i,List.mem_filter.2 ⟨List.mem_range.2 sD,by rw[B3];rfl⟩,by simp⟩
    omega)
   refine⟨?_,fun j=> ?_,?_⟩
   ·rw[List.nodup_cons]
    refine⟨fun hm=> ?_,g1⟩
    have:=((g2 i).1 hm).2
    rw[nS,if_pos rfl]at this;cases this
   ·rw[List.mem_cons,g2,nS]
    by_cases e:j=i
    ·subst e;simp[sD,B3]
    ·simp[e]
   ·intro u j v h e he
    cases u with
    |nil=>
     simp only[List.nil_append,List.cons.injEq]at h
     obtain⟨rfl,rfl⟩:=h
     exact .inl (Jj e he)
    |cons uK u=>
     simp only[List.cons_append,List.cons.injEq]at h
     obtain⟨rfl,h⟩:=h
     rcases g3 u j v h e he with aT|aT
     ·rw[nS]at aT
      split at aT
      ·rename_i eA;subst eA;exact .inr (by simp)
      ·exact .inl aT
     ·exact .inr (by simp[aT])
theorem Jk {ops:Array Oper} (J:sB (k2 ops)=true) (t:Nat):x7 (k2 ops) (Region.linearise .any ops t):=by
 have B4:∀i d,i<ops.size→(Array.replicate ops.size false).getD i d=false:=by
  intro i d ay
  simp[Array.getD_eq_getD_getElem?,ay]
 obtain⟨g1,g2,g3⟩:=Jd J ops.size t (Array.replicate ops.size false) (by simp) (by
  have:=List.length_filter_le (fun i=> !(Array.replicate ops.size false).getD i true) (List.range ops.size)
  simpa using this)
 have hlen:(k2 ops).length=ops.size:=by simp[k2]
 refine⟨g1,fun i=> ?_,fun u i v h e he=> ?_⟩
 ·rw[hlen]
  rw[show Region.linearise .any ops t=Region.linearise.go .any ops ops.size t (Array.replicate ops.size false) []from rfl,g2]
  exact⟨fun h=>h.1,fun h=>⟨h,B4 i true h⟩⟩
 ·rcases g3 u i v h e he with aT|aT
  ·exfalso
   by_cases B5:e<ops.size
   ·rw[B4 e false B5]at aT;cases aT
   ·simp[Array.getD_eq_getD_getElem?,B5]at aT
  ·exact aT
def R:List (Nat×I)→ag
 |[],_=>.hole
 |(u,d)::l,t=>if t=u then d else R l t
mutual
inductive dC:I→I→Prop
 |refl (d:I):dC d d
 |iR (sz:Nat):dC .bu (.aG sz [])
 |qm:dC .bu (.slice [])
 |any (b:Bool):dC (.bool b) .di
 |share (d:I):d.tree=true→(∀vs,d≠.tuple vs)→(∀o,d≠.b9 o)→dC d d.share
 |agg {ds es:List I}:hF ds es→dC (.agg ds) (.agg es)
 |bG {d e:I}:dC d e→dC (.bG d) (.bG e)
 |aG {sz:Nat} {ds es:List I}:hF ds es→dC (.aG sz ds) (.aG sz es)
 |tuple {ds es:List I}:hF ds es→dC (.tuple ds) (.tuple es)
 |ref {d e:I}:dC d e→dC (.ref d) (.ref e)
 |trans {d e f:I}:dC d e→dC e f→dC d f
inductive hF:List I→List I→Prop
 |nil:hF [] []
 |cons {d e:I} {ds es:List I}:dC d e→hF ds es→hF (d::ds) (e::es)
end
mutual
theorem dC.wd:∀{d e:I},dC d e→e.wd=d.wd
 |_,_,.refl _=>rfl
 |_,_,.iR _=>rfl
 |_,_,.qm=>rfl
 |_,_,.any _=>rfl
 |_,_,.share d _ _ _=>I.tV d
 |_,_,.agg h=>by simp only[I.wd];exact hF.wd h
 |_,_,.bG _=>rfl
 |_,_,.aG _=>rfl
 |_,_,.tuple h=>by simp only[I.wd];exact hF.wd h
 |_,_,.ref _=>rfl
 |_,_,.trans h k=>(dC.wd k).trans (dC.wd h)
theorem hF.wd:∀{ds es:List I},hF ds es→I.cI es=I.cI ds
 |_,_,.nil=>rfl
 |_,_,.cons h U=>by simp only[I.cI];rw[dC.wd h,hF.wd U]
end
theorem hF.len {ds es:List I} (h:hF ds es):es.length=ds.length:=by
 induction ds generalizing es with
 |nil=>cases h;rfl
 |cons d ds ih=>cases h with|cons h U=>simp[ih U]
theorem hF.all {sz:Nat} {ds es:List I} (h:hF ds es) (ae:∀d∈ds,d.wd=sz):∀d∈es,d.wd=sz:=by
 induction ds generalizing es with
 |nil=>cases h;intro d ae;cases ae
 |cons d ds ih=>
  cases h with
  |cons h U=>
   intro x ai
   rcases List.mem_cons.1 ai with rfl|ai
   ·rw[h.wd];exact ae d (by simp)
   ·exact ih U (fun d hm=>ae d (by simp[hm])) x ai
section
variable {w0 w:World} {F0 X F:Nat→Prop} {S:Nat→Nat→Prop} {s ao:ag} {an:Nat→Value}
def Jl (w:World) (F:Nat→Prop) (_d e:I) (cs:List Value) (S:Nat→Prop):Prop:=
 ∃fu fv:Nat→Prop,(∀b,fu b→S b)∧(∀b,fv b→S b)∧(∀b,fv b→¬fu b)∧∀a8,(∀b,F b∨fu b→a8 b)→ak w a8 e cs fv
mutual
theorem ak.wider:∀{d e:I},dC d e→∀{F:Nat→Prop} {cs:List Value} {S:Nat→Prop},ak w F d cs S→Jl w F d e cs S
 |_,_,.refl _,F,cs,S,h=>⟨fun _=>False,S,fun _ h=>h.elim,fun _ h=>h,fun _ _ h=>h,fun a8 aW=>ak.mono (fun b J=>aW b (.inl J)) _ _ _ _ (fun _ h=>h) h⟩
 | .bu,_,.iR sz,F,cs,S,h=>⟨fun _=>False,S,fun _ h=>h.elim,fun _ h=>h,fun _ _ h=>h,fun a8 aW=>by simp only[ak]at h⊢;exact .inl ⟨trivial,_,h⟩⟩
 | .bu,_,.qm,F,cs,S,h=>⟨fun _=>False,S,fun _ h=>h.elim,fun _ h=>h,fun _ _ h=>h,fun a8 aW=>by simp only[ak]at h⊢;exact .inl ⟨trivial,none,0,h,Nat.zero_le _,fun _=>rfl⟩⟩
 | .bool _,_,.any b,F,cs,S,h=>⟨fun _=>False,S,fun _ h=>h.elim,fun _ h=>h,fun _ _ h=>h,fun a8 aW=>by simp only[ak]at h⊢;exact⟨b,h⟩⟩
 |_,_,.share d _ _ _,F,cs,S,h=>⟨S,fun _=>False,fun _ h=>h,fun _ h=>h.elim,fun _ h=>h.elim,fun a8 aW=>ak.shared (fun b J=>aW b (.inl J)) d cs S (fun b J=>aW b (.inr J)) h⟩
 |_,_,.agg gZ,F,cs,S,h=>by
  rw[ak]at h
  obtain⟨fu,fv,aa,ab,aB,aP⟩:=aL.wider gZ h
  exact⟨fu,fv,aa,ab,aB,fun a8 aW=>by rw[ak];exact aP a8 aW⟩
 |_,_,.bG ae,F,cs,S,h=>by
  rw[ak]at h
  obtain⟨b,cur,ty,fr,aE,bg,bw,cM,cc,c8,dj,fD⟩:=h
  obtain⟨fu,fv,aa,ab,aB,aP⟩:=ak.wider ae c8
  refine⟨fu,fun c=>c=b∨fv c,fun c af=>dj c (aa c af),?_,?_,fun a8 aW=> ?_⟩
  ·rintro c (rfl|af)
   ·exact bw
   ·exact dj c (ab c af)
  ·rintro c (rfl|af) bc
   ·exact fD (aa _ bc)
   ·exact aB c af bc
  ·rw[ak]
   exact⟨b,cur,ty,fr,fv,bg,.inl rfl,cM,cc,aP a8 aW,fun c af=>.inr af,fun af=>fD (ab _ af)⟩
 | .aG sz ds,.aG _ es,.aG gZ,F,cs,S,h=>by
   rw[ak]at h
   have aI:=gZ.len
   rcases h with⟨aa,ab⟩|⟨b,cap,cur,ty,fr,aE,bg,bw,cM,cc,c8,dj,fD,gW,jn,jo,B6⟩
   ·refine⟨fun _=>False,S,fun _ h=>h.elim,fun _ h=>h,fun _ _ h=>h,fun a8 _=> ?_⟩
    rw[ak]
    subst aa
    exact .inl ⟨List.length_eq_zero_iff.1 (by simpa using aI),ab⟩
   ·obtain⟨fu,fv,aa,ab,aB,aP⟩:=aL.wider gZ jn
    refine⟨fu,fun c=>c=b∨fv c,fun c af=>jo c (aa c af),?_,?_,fun a8 aW=> ?_⟩
    ·rintro c (rfl|af)
     ·exact bw
     ·exact jo c (ab c af)
    ·rintro c (rfl|af) bc
     ·exact B6 (aa _ bc)
     ·exact aB c af bc
    ·rw[ak]
     refine .inr ⟨b,cap,cur,ty,fr,fv,by rw[aI];exact bg,.inl rfl,cM,cc,by rw[aI];exact c8,dj,fD,gZ.all gW,by rw[aI];exact aP a8 aW,fun c af=>.inr af,fun af=>B6 (ab _ af)⟩
 |_,_,.tuple gZ,F,cs,S,h=>by
  rw[ak]at h
  obtain⟨fu,fv,aa,ab,aB,aP⟩:=aL.wider gZ h
  exact⟨fu,fv,aa,ab,aB,fun a8 aW=>by rw[ak];exact aP a8 aW⟩
 |_,_,.ref ae,F,cs,S,h=>by
  rw[ak]at h
  obtain⟨b,o,cN,aa,ab,aB,aP⟩:=h
  obtain⟨fu,fv,bg,bw,cM,cc⟩:=ak.wider ae aP
  refine⟨fun _=>False,S,fun _ h=>h.elim,fun _ h=>h,fun _ _ h=>h,fun a8 aW=> ?_⟩
  rw[ak]
  exact⟨b,o,cN,aa,aW _ (.inl ab),aB,ak.mono (fun _ h=>h) _ _ _ _ (fun b J=>bw b J) (cc a8 fun b J=>aW b (J.imp id fun h=>(bg b h).elim))⟩
 |_,_,.trans ae he,F,cs,S,h=>by
  obtain⟨fu,fv,aa,ab,aB,aP⟩:=ak.wider ae h
  obtain⟨x9,uL,bg,bw,cM,cc⟩:=ak.wider he (F:=fun b=>F b∨fu b) (aP _ fun _ h=>h)
  refine⟨fun b=>fu b∨x9 b,uL,?_,fun b J=>ab b (bw b J),?_,fun a8 aW=>cc a8 fun b J=> ?_⟩
  ·rintro b (h|h)
   ·exact aa b h
   ·exact ab b (bg b h)
  ·rintro b J (h|h)
   ·exact aB b (bw b J) h
   ·exact cM b J h
  ·rcases J with(J|J)|J
   ·exact aW b (.inl J)
   ·exact aW b (.inr (.inl J))
   ·exact aW b (.inr (.inr J))
theorem aL.wider:∀{ds es:List I},hF ds es→∀{F:Nat→Prop} {cs:List Value} {S:Nat→Prop},aL w F ds cs S→
  ∃fu fv:Nat→Prop,(∀b,fu b→S b)∧(∀b,fv b→S b)∧(∀b,fv b→¬fu b)∧∀a8,(∀b,F b∨fu b→a8 b)→aL w a8 es cs fv
 |_,_,.nil,F,cs,S,h=>⟨fun _=>False,fun _=>False,fun _ h=>h.elim,fun _ h=>h.elim,fun _ h=>h.elim,fun a8 aW=>by rw[aL]at h⊢;exact h⟩
 |_,_,.cons ae gZ,F,cs,S,h=>by
  rw[aL]at h
  obtain⟨bD,c2,bk,cx,rfl,g2,g3,g4,g5,g6⟩:=h
  obtain⟨Jm,B7,aA,a2,a3,a4⟩:=ak.wider ae g2
  obtain⟨x9,uL,jk,gr,gX,ck⟩:=aL.wider gZ g3
  refine⟨fun b=>Jm b∨x9 b,fun b=>B7 b∨uL b,?_,?_,?_,fun a8 aW=> ?_⟩
  ·rintro b (h|h)
   ·exact g4 b (aA b h)
   ·exact g5 b (jk b h)
  ·rintro b (h|h)
   ·exact g4 b (a2 b h)
   ·exact g5 b (gr b h)
  ·rintro b (h|h) (aT|aT)
   ·exact a3 b h aT
   ·exact g6 b (a2 b h) (jk b aT)
   ·exact g6 b (aA b aT) (gr b h)
   ·exact gX b h aT
  ·rw[aL]
   refine⟨bD,c2,B7,uL,rfl,a4 a8 (fun b J=>aW b (J.imp id .inl)),ck a8 (fun b J=>aW b (J.imp id .inr)),fun b J=>.inl J,fun b J=>.inr J,fun b aa ab=>g6 b (a2 b aa) (gr b ab)⟩
end
theorem dC.uM:∀{d e:I},dC d e→(∀vs,d≠.tuple vs)→∀vs,e≠.tuple vs
 |_,_,.refl _,h=>h
 |_,_,.iR _,_=>fun _ h=>by cases h
 |_,_,.qm,_=>fun _ h=>by cases h
 |_,_,.any _,_=>fun _ h=>by cases h
 |_,_,.share d _ _ _,h=>fun vs he=>by cases d<;>first|(cases he;done)|exact h _ rfl
 |_,_,.agg _,_=>fun _ h=>by cases h
 |_,_,.bG _,_=>fun _ h=>by cases h
 |_,_,.aG _,_=>fun _ h=>by cases h
 |_,_,.tuple _,h=>fun _ _=>h _ rfl
 |_,_,.ref _,_=>fun _ h=>by cases h
 |_,_,.trans h k,aQ=>dC.uM k (dC.uM h aQ)
theorem dC.fB:∀{d e:I} {v:Value},dC d e→(∀vs,d≠.tuple vs)→bZ.fB d v→bZ.fB e v
 |_,_,_,.refl _,_,h=>h
 |_,_,_,.iR _,_,h=>h
 |_,_,_,.qm,_,h=>h
 |_,_,_,.any _,_,h=>h
 |_,_,_,.share d _ aQ _,_,h=>by cases d<;>first|exact h|exact(aQ _ rfl).elim
 |_,_,_,.agg _,_,h=>h
 |_,_,_,.bG _,_,h=>h
 |_,_,_,.aG _,_,h=>h
 |_,_,_,.tuple _,aQ,_=>(aQ _ rfl).elim
 |_,_,_,.ref _,_,h=>h
 |_,_,_,.trans h k,aQ,U=>dC.fB k (dC.uM h aQ) (dC.fB h aQ U)
theorem hF.get:∀{ds es:List I},hF ds es→∀(k:Nat) (e:I),es[k]? =some e→∃d,ds[k]? =some d∧dC d e
 |_,_,.nil,k,e,h=>by simp at h
 |_,_,.cons ae U,0,e,h=>by simp at h;subst h;exact⟨_,rfl,ae⟩
 |_,_,.cons ae U,k+1,e,h=>hF.get U k e (by simpa using h)
theorem dC.cA:∀{d e:I} {v:Value},dC d e→bZ.cA d v→bZ.cA e v
 |_,_,_,.refl _,U=>U
 |_,_,_,.iR _,U=>U
 |_,_,_,.qm,U=>U
 |_,_,_,.any _,U=>U
 |_,_,_,.share _ _ jT _,U=>xP jT U
 |_,_,_,.agg _,U=>U
 |_,_,_,.bG _,U=>U
 |_,_,_,.aG _,U=>U
 |_,_,_,.ref _,U=>U
 |_,_,_,.tuple ae,U=>by
  obtain⟨arr,aa,ab,aB⟩:=U
  refine⟨arr,aa,ab.trans ae.len.symm,fun k e x he ai=> ?_⟩
  obtain⟨d,al,hw⟩:=ae.get k e he
  obtain⟨aA,a2,a3⟩:=aB k d x al ai
  exact⟨hw.fB a2 aA,hw.uM a2,a3.trans hw.wd.symm⟩
 |_,_,_,.trans h k,U=>dC.cA k (dC.cA h U)
theorem dC.tree:∀{d e:I},dC d e→d.tree=true→e.tree=true
 |_,_,.refl _,ae=>ae
 |_,_,.iR _,_=>rfl
 |_,_,.qm,_=>rfl
 |_,_,.any _,_=>rfl
 |_,_,.share d _ _ hO,ae=>by cases d<;>first|exact ae|rfl|exact(hO _ rfl).elim
 |_,_,.agg _,_=>rfl
 |_,_,.bG _,_=>rfl
 |_,_,.aG _,_=>rfl
 |_,_,.tuple _,_=>rfl
 |_,_,.ref _,_=>rfl
 |_,_,.trans h k,ae=>dC.tree k (dC.tree h ae)
mutual
def I.ph:I→List Nat
 | .h x q=>if q.isEmpty then []else [x]
 | .ah x _=>[x]
 | .J x _=>[x]
 | .fn _ cap=>I.sE cap
 |_=>[]
def I.sE:List I→List Nat
 |[]=>[]
 |d::ds=>d.ph++I.sE ds
end
def sF (s ao:ag) (x:Nat) (D:List Nat):Prop:=ao x=s x∨ao x= .hole∨((s x).own=true∧(ao x).own=true∧x∉D)
theorem sF.less {s ao:ag} {x:Nat} {D E:List Nat} (h:sF s ao x D) (x_:∀u∈E,u∈D):sF s ao x E:=by
 rcases h with h|h|⟨aa,ab,aB⟩
 ·exact .inl h
 ·exact .inr (.inl h)
 ·exact .inr (.inr ⟨aa,ab,fun ai=>aB (x_ x ai)⟩)
theorem au.keep {a8:Nat→Prop} (aW:∀b,F b→a8 b):∀n,(∀(d:I) (v:Value) (cp:Nat→Prop),SizeOf.sizeOf d≤n→(∀x∈d.U,sF s ao x d.ph)→au w F s an d v cp→au w a8 ao an d v cp)∧
  (∀(ds:List I) (vs:List Value),SizeOf.sizeOf ds≤n→(∀x∈I.cT ds,sF s ao x (I.sE ds))→cG w F s an ds vs→cG w a8 ao an ds vs):=by
 intro n
 induction n with
 |zero=>
  refine⟨fun d v cp bd=> ?_,fun ds vs bd=> ?_⟩
  ·cases d<;>simp at bd<;>omega
  ·cases ds<;>simp at bd<;>omega
 |succ n ih=>
  refine⟨fun d v cp bd al h=> ?_,fun ds vs bd al h=> ?_⟩
  ·cases d with
   |hole=>rw[au];trivial
   |h x q=>
    rw[au]at h⊢
    intro e du ah
    rcases al x (by simp[I.U])with he|he|⟨B8,Jn,sG⟩
    ·rw[he]at du⊢;exact h e du ah
    ·rw[he]at du
     cases q with
     |nil=>simp only[I.sub,Option.some.injEq]at du;subst du;simp[I.plain]at ah
     |cons k q=>simp[I.sub]at du
    ·cases q with
     |nil=>
      simp only[I.sub,Option.some.injEq]at du
      subst du
      obtain⟨bK,a0,d_,eW,fA⟩:=h (s x) (by simp only[I.sub]) (nd B8).1
      simp only[b_,Option.some.injEq,Prod.mk.injEq,true_and]at d_
      exact⟨bs (an x),none,by simp only[b_],by rw[eW,←d_.1],((nd Jn).2.2.2.2.2 _).2 (((nd B8).2.2.2.2.2 _).1 fA)⟩
     |cons k q=>exact(sG (by simp[I.ph])).elim
   |ah x q=>
    rw[au]at h⊢
    intro e du af
    rcases al x (by simp[I.U])with he|he|⟨_,_,sG⟩
    ·rw[he]at du af⊢;exact h e du af
    ·rw[he]at af
     cases q<;>simp[I.dD]at af
    ·exact(sG (by simp[I.ph])).elim
   |J x k=>
    rw[au]at h⊢
    intro ah
    rcases al x (by simp[I.U])with he|he|⟨_,_,sG⟩
    rotate_left 2
    ·exact(sG (by simp[I.ph])).elim
    ·rw[he]at ah
     obtain⟨b,cur,e,fr,aa,ab,aB,aP⟩:=h ah
     exact⟨b,cur,e,fr,aa,aW b ab,aB,aP⟩
    ·rw[he]at ah;simp[I.plain]at ah
   |fn f cap=>
    rw[au]at h⊢
    obtain⟨arr,rfl,af⟩:=h
    exact⟨arr,rfl,ih.2 _ _ (by simp at bd;omega) (by simpa [I.U,I.ph]using al) af⟩
   |_=>
    have aT:=(au.bB rfl).1 h
    exact(au.bB rfl).2 ⟨aT.1,ak.mono aW _ _ _ _ (fun _ h=>h) aT.2⟩
  ·cases ds with
   |nil=>rw[cG]at h⊢;exact h
   |cons d ds=>
    rw[cG]at h⊢
    obtain⟨v,gI,rfl,aa,ab⟩:=h
    simp at bd
    simp only[I.cT,List.mem_append]at al
    exact⟨v,gI,rfl,ih.1 _ _ _ (by omega) (fun x ai=>(al x (.inl ai)).less fun u hu=>by simp[I.sE,hu]) aa,ih.2 _ _ (by omega) (fun x ai=>(al x (.inr ai)).less fun u hu=>by simp[I.sE,hu]) ab⟩
def sH (s:ag) (l:List (Nat×I)):Prop:=
 ∀p∈l,p.2=s p.1∨((s p.1).tree=true∧dC (s p.1) p.2∧∀bJ∈l,p.1∉bJ.2.U∨((s p.1).own=true∧p.2.own=true∧p.1∉bJ.2.ph))
theorem B9:∀(l:List (Nat×I)) (t:Nat),R l t= .hole∨∃p∈l,p.1=t∧R l t=p.2:=by
 intro l
 induction l with
 |nil=>intro t;exact .inl rfl
 |cons p l ih=>
  intro t
  obtain⟨u,d⟩:=p
  simp only[R]
  split
  ·rename_i e;exact .inr ⟨(u,d),by simp,e.symm,rfl⟩
  ·rcases ih t with h|⟨p,ah,h⟩
   ·exact .inl h
   ·exact .inr ⟨p,by simp[ah],h⟩
theorem a1.Jo (h:a1 w0 F0 X F S s an w) {l:List (Nat×I)} (hw:sH s l):∃a8 aE,a1 w0 F0 X a8 aE (R l) an w:=by
 have each:∀t,∃fu fv:Nat→Prop,(∀b,fu b→S t b)∧(∀b,fv b→S t b)∧(∀b,fv b→¬fu b)∧∀a8,(∀b,F b∨fu b→a8 b)→au w a8 (R l) an (R l t) (an t) fv:=by
  intro t
  rcases B9 l t with e|⟨p,ah,rfl,e⟩
  ·exact⟨fun _=>False,fun _=>False,fun _ h=>h.elim,fun _ h=>h.elim,fun _ h=>h.elim,fun a8 _=>by rw[e,au];trivial⟩
  ·rw[e]
   rcases hw p ah with al|⟨aK,hC,_⟩
   ·refine⟨fun _=>False,S p.1,fun _ h=>h.elim,fun _ h=>h,fun _ _ h=>h,fun a8 aW=> ?_⟩
    rw[al]
    refine(au.keep (fun b J=>aW b (.inl J)) (SizeOf.sizeOf (s p.1))).1 _ _ _ (Nat.le_refl _) ?_ (h.b2 p.1)
    intro x ai
    rcases B9 l x with eA|⟨bJ,cY,rfl,eA⟩
    ·exact .inr (.inl eA)
    ·rcases hw bJ cY with iu|⟨_,_,hO⟩
     ·exact .inl (eA.trans iu)
     ·rcases hO p ah with hO|⟨ko,lE,uF⟩
      ·exact(hO (by rw[al];exact ai)).elim
      ·exact .inr (.inr ⟨ko,by rw[eA];exact lE,by rw[al]at uF;exact uF⟩)
   ·obtain⟨g1,g2⟩:=(au.bB aK).1 (h.b2 p.1)
    obtain⟨fu,fv,bg,bw,cM,cc⟩:=ak.wider hC g2
    exact⟨fu,fv,bg,bw,cM,fun a8 aW=>(au.bB (hC.tree aK)).2 ⟨hC.cA g1,cc a8 aW⟩⟩
 have bD:=fun t=>(each t).choose_spec
 let fu:=fun t=>(each t).choose
 have c2:=fun t=>(bD t).choose_spec
 let fv:=fun t=>(bD t).choose
 have fj:∀t b,fu t b→S t b:=fun t=>(c2 t).1
 have er:∀t b,fv t b→S t b:=fun t=>(c2 t).2.1
 have gM:∀t b,fv t b→¬fu t b:=fun t=>(c2 t).2.2.1
 have gN:=fun t=>(c2 t).2.2.2
 refine⟨fun b=>F b∨∃t,fu t b,fv,fun b J=>.inl (h.eB b J),?_,?_,fun t b J=>h.cV t b (er t b J),?_,fun t u b cj J hu=>h.dm t u b cj (er t b J) (er u b hu),fun t b J=>h.cp t b (er t b J),?_,h.old,h.size,h.os,h.tape,h.output,h.dW⟩
 ·rintro b (J|⟨t,J⟩)
  ·exact h.eQ b J
  ·exact .inr (h.cp t b (fj t b J))
 ·rintro b (J|⟨t,J⟩)
  ·exact h.de b J
  ·exact h.cV t b (fj t b J)
 ·rintro t b J (bc|⟨u,hu⟩)
  ·exact h.dy t b (er t b J) bc
  ·by_cases e:t=u
   ·subst e;exact gM t b J hu
   ·exact h.dm t u b e (er t b J) (fj u b hu)
 ·intro t
  exact gN t _ (fun b J=>J.imp id fun h=>⟨t,h⟩)
end
inductive ad where
 |skip
 |cB (ros:List bn) (keep:Option (List Nat))
 |jV (ros:List bn) (lJ:List (List Nat)) (keep:Option (List Nat))
 |seq (a b:ad)
 |cond (c:aw) (a b:ad)
 |block (id:Nat) (b:ad)
 |loop (b:ad)
 |exit (id:Nat)
 |ret
 |hb (T:(Exit→ag→Prop)→ag→Prop) (b:ad)
def bR (n:Fr):Code→Option ad
 | .skip=>some .skip
 | .region _ ops false=>(mf n ops ops.toList).map fun r=>.cB r none
 | .region _ ops true=>if sB (k2 ops)=true then(mf n ops ops.toList).map fun r=>.jV r (k2 ops) none else none
 | .seq a b=>match bR n a,bR n b with
   |some a,some b=>some (.seq a b)
   |_,_=>none
 | .cond c a b=>match cv c,bR n a,bR n b with
   |some c,some a,some b=>some (.cond c a b)
   |_,_,_=>none
 | .block id b=>(bR n b).map (.block id)
 | .loop b=>(bR n b).map .loop
 | .exit id=>some (.exit id)
 | .ret=>some .ret
 |_=>none
def ad.iy:ad→ad
 | .cB ros _=>.cB ros none
 | .jV ros eS _=>.jV ros eS none
 | .seq a b=>.seq a.iy b.iy
 | .cond c a b=>.cond c a.iy b.iy
 | .block id b=>.block id b.iy
 | .loop b=>.loop b.iy
 | .hb T b=>.hb T b.iy
 |c=>c
def ad.strip:ad→ad
 | .cB ros _=>.cB (ros.map bn.un) none
 | .jV ros eS _=>.jV (ros.map bn.un) eS none
 | .seq a b=>.seq a.strip b.strip
 | .cond c a b=>.cond c a.strip b.strip
 | .block id b=>.block id b.strip
 | .loop b=>.loop b.strip
 | .hb _ b=>b.strip
 |c=>c
theorem ad.B_:∀c:ad,c.iy.strip=c.strip:=by
 intro c
 induction c with
 |seq a b hc hd=>simp only[ad.iy,ad.strip,hc,hd]
 |cond c a b hc hd=>simp only[ad.iy,ad.strip,hc,hd]
 |block id b ih=>simp only[ad.iy,ad.strip,ih]
 |loop b ih=>simp only[ad.iy,ad.strip,ih]
 |hb T b ih=>simp only[ad.iy,ad.strip,ih]
 |_=>rfl
def ad.bare (H:((Exit→ag→Prop)→ag→Prop)→ad→Prop):ad→Prop
 | .cB _ k=>k=none
 | .jV _ _ k=>k=none
 | .seq a b=>a.bare H∧b.bare H
 | .cond _ a b=>a.bare H∧b.bare H
 | .block _ b=>b.bare H
 | .loop b=>b.bare H
 | .hb T b=>H T b
 |_=>True
def ad.mi (H:((Exit→ag→Prop)→ag→Prop)→ad→Prop):ad→Prop
 | .seq a b=>a.mi H∧b.mi H
 | .cond _ a b=>a.mi H∧b.mi H
 | .block _ b=>b.mi H
 | .loop b=>b.mi H
 | .hb T b=>H T b.iy
 |_=>True
theorem ad.Ca {H:((Exit→ag→Prop)→ag→Prop)→ad→Prop}:∀c:ad,c.mi H→c.iy.bare H:=by
 intro c
 induction c with
 |seq a b hc hd=>intro h;exact⟨hc h.1,hd h.2⟩
 |cond c a b hc hd=>intro h;exact⟨hc h.1,hd h.2⟩
 |block id b ih=>intro h;exact ih h
 |loop b ih=>intro h;exact ih h
 |cB=>intro _;rfl
 |jV=>intro _;rfl
 |hb T b _=>intro h;exact h
 |_=>intro _;trivial
def ad.plain:ad→Bool
 | .seq a b=>a.plain&&b.plain
 | .cond _ a b=>a.plain&&b.plain
 | .block _ b=>b.plain
 | .loop b=>b.plain
 | .hb _ _=>false
 |_=>true
theorem ad.Jp {H:((Exit→ag→Prop)→ag→Prop)→ad→Prop}:∀c:ad,c.plain=true→c.mi H:=by
 intro c
 induction c with
 |seq a b hc hd=>intro h;simp only[ad.plain,Bool.and_eq_true]at h;exact⟨hc h.1,hd h.2⟩
 |cond c a b hc hd=>intro h;simp only[ad.plain,Bool.and_eq_true]at h;exact⟨hc h.1,hd h.2⟩
 |block id b ih=>intro h;exact ih h
 |loop b ih=>intro h;exact ih h
 |hb T b _=>intro h;cases h
 |_=>intro _;trivial
def andThen (K:ag→Prop) (Q:Exit→ag→Prop):Exit→ag→Prop
 | .normal,s=>K s
 |e,s=>Q e s
def qn (id:Nat) (Q:Exit→ag→Prop):Exit→ag→Prop
 | .exit i,s=>if i=id then Q .normal s else Q (.exit i) s
 |e,s=>Q e s
def eo (K:ag→Prop) (s:ag):Prop:=K s∨∃l,sH s l∧K (R l)
def sI:Option (List Nat)→(ag→Prop)→ag→Prop
 |none,K,s=>eo K s
 |some k,K,s=>K (R (k.map fun t=>(t,s t)))
def ca (C:bm):ad→(Exit→ag→Prop)→ag→Prop
 | .skip,Q,s=>Q .normal s
 | .cB ros keep,Q,s=>ix C s ros (sI keep (Q .normal))
 | .jV ros lJ keep,Q,s=>∀l,x7 lJ l→ha C ros s l (sI keep (Q .normal))
 | .seq a b,Q,s=>ca C a (andThen (eo (ca C b Q)) Q) s
 | .cond c a b,Q,s=>match az s c with
   | .bool dK=>if dK=true then ca C a Q s else ca C b Q s
   | .di=>ca C a Q s∧ca C b Q s
   |_=>False
 | .block id b,Q,s=>ca C b (qn id Q) s
 | .loop b,Q,s=>eo (fun s=>∀Z:ag→Prop,(∀ao,ca C b (andThen (eo Z) Q) ao→Z ao)→Z s) s
 | .exit id,Q,s=>Q (.exit id) s
 | .ret,Q,s=>Q .ret s
 | .hb T _,Q,s=>∀cZ:Exit→ag→Prop,(∀e s,Q e s→cZ e s)→T cZ s
section
variable {C:bm}
theorem ya {s:ag} {o:bn} {K ch:ag→Prop} (h:iP C s o K) (al:∀s,K s→ch s):iP C s o ch:=by
 unfold iP at h⊢
 split
 ·rename_i hg;rw[hg]at h;exact uI h fun av s1=>al _
 ·rename_i t b hg
  rw[hg]at h
  simp only at h
  split
  ·rename_i dK U
   rw[U]at h
   simp only at h
   split
   ·rename_i J;rw[if_pos J]at h;exact uI h fun av s1=>al _
   ·rename_i J;rw[if_neg J]at h;exact al _ h
  ·rename_i U;rw[U]at h;exact al _ h
  ·rename_i aa ab
   split at h
   ·exact aa _ (by assumption)
   ·exact ab (by assumption)
   ·exact h
theorem Cb {K ch:ag→Prop} (al:∀s,K s→ch s):∀{ros:List bn} {s:ag},ix C s ros K→ix C s ros ch:=by
 intro ros
 induction ros with
 |nil=>intro s h;exact al s h
 |cons o ros ih=>intro s h;exact ya h fun s h=>ih h
theorem Cc {ros:List bn} {K ch:ag→Prop} (al:∀s,K s→ch s):∀{l:List Nat} {s:ag},ha C ros s l K→ha C ros s l ch:=by
 intro l
 induction l with
 |nil=>intro s h;exact al s h
 |cons i l ih=>
  intro s h
  simp only[ha]at h⊢
  split
  ·rename_i bH;rw[bH]at h;exact ih h
  ·rename_i o bH;rw[bH]at h;exact ya h fun s h=>ih h
theorem qo {K ch:ag→Prop} (al:∀s,K s→ch s) (s:ag) (h:eo K s):eo ch s:=
 h.imp (al s) fun⟨l,aa,ab⟩=>⟨l,aa,al _ ab⟩
theorem Cd {keep:Option (List Nat)} {K ch:ag→Prop} (al:∀s,K s→ch s) (s:ag) (h:sI keep K s):sI keep ch s:=by
 cases keep with
 |none=>exact qo al s h
 |some k=>exact al _ h
theorem Ce {keep:Option (List Nat)} {K:ag→Prop} {s:ag} (h:sI keep K s):eo K s:=by
 cases keep with
 |none=>exact h
 |some k=>
  refine .inr ⟨_,?_,h⟩
  intro p ah
  obtain⟨t,_,rfl⟩:=List.mem_map.1 ah
  exact .inl rfl
theorem yb {K ch:ag→Prop} {Q cZ:Exit→ag→Prop} (al:∀s,K s→ch s) (b6:∀e s,Q e s→cZ e s):∀e s,andThen K Q e s→andThen ch cZ e s:=by
 intro e s h
 cases e with
 |normal=>exact al s h
 |_=>exact b6 _ s h
theorem Cf:∀(c:ad) {Q cZ:Exit→ag→Prop} {s:ag},(∀e s,Q e s→cZ e s)→ca C c Q s→ca C c cZ s:=by
 intro c
 induction c with
 |skip=>intro Q cZ s b6 h;exact b6 _ _ h
 |cB ros keep=>intro Q cZ s b6 h;exact Cb (Cd (b6 _)) h
 |jV ros lJ keep=>intro Q cZ s b6 h l aI;exact Cc (Cd (b6 _)) (h l aI)
 |seq a b hc hd=>
  intro Q cZ s b6 h
  exact hc (yb (fun s h=>qo (fun _ h=>hd b6 h) s h) b6) h
 |cond c a b hc hd=>
  intro Q cZ s b6 h
  simp only[ca]at h⊢
  split
  ·rename_i dK J
   rw[J]at h
   simp only at h
   split
   ·rename_i e;rw[if_pos e]at h;exact hc b6 h
   ·rename_i e;rw[if_neg e]at h;exact hd b6 h
  ·rename_i J;rw[J]at h;exact⟨hc b6 h.1,hd b6 h.2⟩
  ·rename_i aa ab
   split at h
   ·exact aa _ (by assumption)
   ·exact ab (by assumption)
   ·exact h
 |block id b ih=>
  intro Q cZ s b6 h
  refine ih ?_ h
  intro e s h
  cases e with
  |exit i=>
   simp only[qn]at h⊢
   split
   ·rename_i e;rw[if_pos e]at h;exact b6 _ _ h
   ·rename_i e;rw[if_neg e]at h;exact b6 _ _ h
  |_=>exact b6 _ _ h
 |loop b ih=>
  intro Q cZ s b6 h
  refine qo (fun s h Z qp=> ?_) s h
  exact h Z fun ao eT=>qp ao (ih (yb (fun _ h=>h) b6) eT)
 |exit id=>intro Q cZ s b6 h;exact b6 _ _ h
 |ret=>intro Q cZ s b6 h;exact b6 _ _ h
 |hb T b _=>intro Q cZ s b6 h hG ab;exact h hG fun e s he=>ab e s (b6 e s he)
theorem Cg:∀(c:ad) {Q:Exit→ag→Prop} {s:ag},ca C c Q s→ca C c.iy Q s:=by
 intro c
 induction c with
 |cB ros keep=>intro Q s h;exact Cb (fun s h=>Ce h) h
 |jV ros eS keep=>intro Q s h l aI;exact Cc (fun s h=>Ce h) (h l aI)
 |seq a b hc hd=>intro Q s h;exact hc (Cf a (yb (fun s h=>qo (fun _ h=>hd h) s h) (fun _ _ h=>h)) h)
 |cond c a b hc hd=>
  intro Q s h
  simp only[ad.iy,ca]at h⊢
  split
  ·rename_i dK J
   rw[J]at h
   simp only at h
   split
   ·rename_i e;rw[if_pos e]at h;exact hc h
   ·rename_i e;rw[if_neg e]at h;exact hd h
  ·rename_i J;rw[J]at h;exact⟨hc h.1,hd h.2⟩
  ·rename_i aa ab
   split at h
   ·exact aa _ (by assumption)
   ·exact ab (by assumption)
   ·exact h
 |block id b ih=>intro Q s h;exact ih h
 |loop b ih=>
  intro Q s h
  refine qo (fun s h Z qp=> ?_) s h
  exact h Z fun ao eT=>qp ao (ih eT)
 |hb T b _=>intro Q s h;exact h
 |_=>intro Q s h;exact h
variable {w0 w:World} {F0 X:Nat→Prop} {n:Fr} {ρ:Nat→Value} {s:ag} {a:Act}
def qq (w0:World) (F0 X:Nat→Prop) (n:Fr) (ρ:Nat→Value) (Q:Exit→ag→Prop):Exit→Act→World→Prop:=fun e a w=>∃s,Q e s∧Rel w0 F0 X n ρ s a w
theorem Rel.eo {K:ag→Prop} {s:ag} {a:Act} {w:World} (aC:Rel w0 F0 X n ρ s a w) (h:eo K s):∃ao,K ao∧Rel w0 F0 X n ρ ao a w:=by
 rcases h with h|⟨l,aa,ab⟩
 ·exact⟨s,h,aC⟩
 ·obtain⟨g1,g2,g3,F,S,g4⟩:=aC
  obtain⟨a8,aE,g5⟩:=g4.Jo aa
  exact⟨R l,ab,g1,g2,g3,a8,aE,g5⟩
theorem ad.Jq {c:ad} (h:c.strip= .skip):c= .skip∨∃T b,c= .hb T b:=by cases c<;>first|exact .inl rfl|exact .inr ⟨_,_,rfl⟩|cases h
theorem ad.Jr {c:ad} (h:c.strip= .ret):c= .ret∨∃T b,c= .hb T b:=by cases c<;>first|exact .inl rfl|exact .inr ⟨_,_,rfl⟩|cases h
theorem ad.Js {c:ad} {i:Nat} (h:c.strip= .exit i):c= .exit i∨∃T b,c= .hb T b:=by cases c<;>first|exact .inl h|exact .inr ⟨_,_,rfl⟩|cases h
theorem ad.Jt {c:ad} {r:List bn} {k:Option (List Nat)} (h:c.strip= .cB r k):(∃ros cr,c= .cB ros cr∧ros.map bn.un=r)∨∃T b,c= .hb T b:=by
 cases c<;>first|(cases h;exact .inl ⟨_,_,rfl,rfl⟩)|exact .inr ⟨_,_,rfl⟩|cases h
theorem ad.Ju {c:ad} {r:List bn} {eS:List (List Nat)} {k:Option (List Nat)} (h:c.strip= .jV r eS k):(∃ros Ch cr,c= .jV ros Ch cr∧ros.map bn.un=r∧Ch=eS)∨∃T b,c= .hb T b:=by
 cases c<;>first|(cases h;exact .inl ⟨_,_,_,rfl,rfl,rfl⟩)|exact .inr ⟨_,_,rfl⟩|cases h
theorem ad.Jv {c x y:ad} (h:c.strip= .seq x y):(∃a b,c= .seq a b∧a.strip=x∧b.strip=y)∨∃T b,c= .hb T b:=by
 cases c<;>first|(cases h;exact .inl ⟨_,_,rfl,rfl,rfl⟩)|exact .inr ⟨_,_,rfl⟩|cases h
theorem ad.Jw {c x y:ad} {o:aw} (h:c.strip= .cond o x y):(∃km a b,c= .cond km a b∧km=o∧a.strip=x∧b.strip=y)∨∃T b,c= .hb T b:=by
 cases c<;>first|(cases h;exact .inl ⟨_,_,_,rfl,rfl,rfl,rfl⟩)|exact .inr ⟨_,_,rfl⟩|cases h
theorem ad.Jx {c x:ad} {i:Nat} (h:c.strip= .block i x):(∃a,c= .block i a∧a.strip=x)∨∃T b,c= .hb T b:=by
 cases c<;>first|(cases h;exact .inl ⟨_,rfl,rfl⟩)|exact .inr ⟨_,_,rfl⟩|cases h
theorem ad.Jy {c x:ad} (h:c.strip= .loop x):(∃a,c= .loop a∧a.strip=x)∨∃T b,c= .hb T b:=by
 cases c<;>first|(cases h;exact .inl ⟨_,rfl,rfl⟩)|exact .inr ⟨_,_,rfl⟩|cases h
theorem Ci (aV:C.db) {H:((Exit→ag→Prop)→ag→Prop)→ad→Prop}
  (kp:∀(c:Code) (T:(Exit→ag→Prop)→ag→Prop) (b:ad) (Q:Exit→ag→Prop) (s:ag) (a:Act) (w:World),H T b→bR n c=some b.strip→T Q s→Rel w0 F0 X n ρ s a w→c.wp C.P (qq w0 F0 X n ρ Q) a w):
  ∀(c:Code) {dF:ad} {Q:Exit→ag→Prop} {s:ag} {a:Act} {w:World},bR n c=some dF.strip→dF.bare H→ca C dF Q s→Rel w0 F0 X n ρ s a w→c.wp C.P (qq w0 F0 X n ρ Q) a w:=by
 intro c
 induction c with
 |skip=>
  intro dF Q s a w U fk h aC
  have hX:=U
  simp only[bR,Option.some.injEq]at U
  rcases ad.Jq U.symm with rfl|⟨T,b,rfl⟩
  ·exact wp_skip ⟨s,h,aC⟩
  ·exact kp _ T b Q s a w fk (by simpa only[ad.strip]using hX) (h Q fun _ _ h=>h) aC
 |region id ops draw=>
  intro dF Q s a w U fk h aC
  have hX:=U
  cases draw with
  |false=>
   simp only[bR,Option.map_eq_some_iff]at U
   obtain⟨Jz,sJ,U⟩:=U
   rcases ad.Jt U.symm with⟨ros,k,rfl,rfl⟩|⟨T,b,rfl⟩
   rotate_left
   ·exact kp _ T b Q s a w fk (by simpa only[ad.strip]using hX) (h Q fun _ _ h=>h) aC
   cases fk
   exact Jb aV sJ (fun ao bU ar al cW=>cW.eo al) h aC
  |true=>
   simp only[bR]at U
   split at U
   ·rename_i J
    simp only[Option.map_eq_some_iff]at U
    obtain⟨Jz,sJ,U⟩:=U
    rcases ad.Ju U.symm with⟨ros,eS,k,rfl,rfl,rfl⟩|⟨T,b,rfl⟩
    rotate_left
    ·exact kp _ T b Q s a w fk (by simpa only[ad.strip]using hX) (h Q fun _ _ h=>h) aC
    cases fk
    refine wp_region_draw fun t=> ?_
    rw[show Region.schedule (C.P.follows .mixedOrders) ops t=Region.linearise .any ops t by simp[Region.schedule,aV.mixed]]
    exact B0 aV sJ (fun ao bU ar al cW=>cW.eo al) _ s a _ (h _ (Jk J t)) (aC.drawn _ (by first|exact Nat.le_succ _|exact Nat.le_add_right _ _|omega))
   ·cases U
 |seq x y JA uN=>
  intro dF Q s a w U fk h aC
  have hX:=U
  simp only[bR]at U
  split at U
  ·rename_i si JB ai hy
   simp only[Option.some.injEq]at U
   rcases ad.Jv U.symm with⟨cE,hP,rfl,rfl,rfl⟩|⟨T,b,rfl⟩
   rotate_left
   ·exact kp _ T b Q s a w fk (by simpa only[ad.strip]using hX) (h Q fun _ _ h=>h) aC
   refine wp_seq (wp_mono (JA ai fk.1 h aC) ?_)
   rintro e bU ar ⟨ao,aT,cW⟩
   cases e with
   |normal=>
    obtain⟨ao,aT,cW⟩:=cW.eo aT
    exact uN hy fk.2 aT cW
   |_=>exact⟨ao,aT,cW⟩
  ·cases U
 |cond x y z uN Cj=>
  intro dF Q s a w U fk h aC
  have hX:=U
  simp only[bR]at U
  split at U
  ·rename_i si JB sz ai hy bd
   simp only[Option.some.injEq]at U
   rcases ad.Jw U.symm with⟨cE,hP,mR,rfl,rfl,rfl,rfl⟩|⟨T,b,rfl⟩
   rotate_left
   ·exact kp _ T b Q s a w fk (by simpa only[ad.strip]using hX) (h Q fun _ _ h=>h) aC
   have cW:=aC
   obtain⟨ae,cO,bc,F,S,nh⟩:=cW
   have aD:=(dv (a:=a) nh (fun _=>rfl) ai).2
   simp only[ca]at h
   split at h
   ·rename_i dK J
    rw[J]at aD
    have:=nT aD
    refine wp_cond this ?_
    split
    ·rename_i e;rw[if_pos e]at h;exact uN hy fk.1 h aC
    ·rename_i e;rw[if_neg e]at h;exact Cj bd fk.2 h aC
   ·rename_i J
    rw[J]at aD
    obtain⟨dK,ji⟩:=AE aD
    refine wp_cond ji ?_
    split
    ·exact uN hy fk.1 h.1 aC
    ·exact Cj bd fk.2 h.2 aC
   ·exact h.elim
  ·cases U
 |block id b ih=>
  intro dF Q s a w U fk h aC
  have hX:=U
  simp only[bR,Option.map_eq_some_iff]at U
  obtain⟨uu,J,U⟩:=U
  rcases ad.Jx U.symm with⟨dK,rfl,rfl⟩|⟨T,b,rfl⟩
  rotate_left
  ·exact kp _ T b Q s a w fk (by simpa only[ad.strip]using hX) (h Q fun _ _ h=>h) aC
  refine wp_block (wp_mono (ih J fk h aC) ?_)
  rintro e bU ar ⟨ao,aT,cW⟩
  cases e with
  |exit i=>
   simp only[qn]at aT
   simp only[Exit.inBlock]
   split
   ·rename_i e;rw[if_pos e]at aT;exact⟨ao,aT,cW⟩
   ·rename_i e;rw[if_neg e]at aT;exact⟨ao,aT,cW⟩
  |_=>exact⟨ao,aT,cW⟩
 |loop b ih=>
  intro dF Q s a w U fk h aC
  have hX:=U
  simp only[bR,Option.map_eq_some_iff]at U
  obtain⟨uu,J,U⟩:=U
  rcases ad.Jy U.symm with⟨dK,rfl,rfl⟩|⟨T,b,rfl⟩
  rotate_left
  ·exact kp _ T b Q s a w fk (by simpa only[ad.strip]using hX) (h Q fun _ _ h=>h) aC
  obtain⟨s,h,aC⟩:=aC.eo h
  have key:=h (fun s=>∀a w,Rel w0 F0 X n ρ s a w→∀(f:Frame) (k:List Item) (cs:List Frame),∃e bU ar,qq w0 F0 X n ρ Q e bU ar∧Arrives C.P (lone (f.at a (.code b:: .inLoop b::k)) cs w) f k cs e bU ar) ?_
  ·intro f k cs
   obtain⟨e,bU,ar,b6,oa⟩:=key a w aC f k cs
   exact⟨e,bU,ar,b6,.of_steps (.one step_loop) oa⟩
  ·intro ao eT a w aC f k cs
   obtain⟨e,a₁,w₁,⟨s1,b6,ob⟩,oa⟩:=ih J fk eT aC f (.inLoop b::k) cs
   cases e with
   |normal=>
    simp only[andThen]at b6
    obtain⟨s1,b6,ob⟩:=ob.eo b6
    obtain⟨e₂,a₂,w₂,hq₂,harr₂⟩:=b6 a₁ w₁ ob f k cs
    exact⟨e₂,a₂,w₂,hq₂,.of_steps (Steps.trans oa (.one step_inLoop)) harr₂⟩
   |exit id=>exact⟨_,a₁,w₁,⟨s1,b6,ob⟩,.pass (x:=.inLoop b) rfl (fun _ _=>.inl (by simp)) oa⟩
   |goto l=>exact⟨_,a₁,w₁,⟨s1,b6,ob⟩,.pass (x:=.inLoop b) rfl (fun _ _=>.inl (by simp)) oa⟩
   |ret=>exact⟨_,a₁,w₁,⟨s1,b6,ob⟩,.pass (x:=.inLoop b) rfl (fun _ _=>.inl (by simp)) oa⟩
   |panic Yp=>exact⟨_,a₁,w₁,⟨s1,b6,ob⟩,.pass (x:=.inLoop b) rfl (fun _ _=>.inl (by simp)) oa⟩
   |outgrown=>exact⟨_,a₁,w₁,⟨s1,b6,ob⟩,.pass (x:=.inLoop b) rfl (fun _ _=>.inl (by simp)) oa⟩
 |exit id=>
  intro dF Q s a w U fk h aC
  have hX:=U
  simp only[bR,Option.some.injEq]at U
  rcases ad.Js U.symm with rfl|⟨T,b,rfl⟩
  ·exact wp_exit ⟨s,h,aC⟩
  ·exact kp _ T b Q s a w fk (by simpa only[ad.strip]using hX) (h Q fun _ _ h=>h) aC
 |ret=>
  intro dF Q s a w U fk h aC
  have hX:=U
  simp only[bR,Option.some.injEq]at U
  rcases ad.Jr U.symm with rfl|⟨T,b,rfl⟩
  ·exact wp_ret ⟨s,h,aC⟩
  ·exact kp _ T b Q s a w fk (by simpa only[ad.strip]using hX) (h Q fun _ _ h=>h) aC
 |_=>intro dF Q s a w U;simp[bR]at U
theorem JC (aV:C.db) (c:Code) {dF:ad} {Q:Exit→ag→Prop} {s:ag} {a:Act} {w:World} (U:bR n c=some dF.strip) (J:dF.bare (fun _ _=>False)) (h:ca C dF Q s) (aC:Rel w0 F0 X n ρ s a w):c.wp C.P (qq w0 F0 X n ρ Q) a w:=
 Ci aV (fun _ _ _ _ _ _ _ bc=>bc.elim) c U J h aC
end
def hY:ResultVar→Nat
 | .tmp t=>t
 | .cell a _=>a
def ni (C:bm) (s:ag):ResultVar→Option I
 | .tmp t=>if(s t).tree=true then(match s t with| .tuple _=>none|d=>some d)else none
 | .cell a T=>match s a with
   | .bG d=>if fits C T d=true∧d.tree=true then some d else none
   |_=>none
def yc (C:bm) (fx:List Nat) (eg:List ResultVar) (r:I) (outs:List I) (s:ag):Prop:=
 ∃ds,eg.map (ni C s)=ds.map some∧r=(match ds with|[d]=>d|ds=>.tuple ds)∧(eg.map hY).Nodup∧
  ∀(i:Nat) (o:I),outs[i]? =some o→o= .hole∨(o=s i∧o.eI=true∧i∈fx∧i∉eg.map hY)
def Ends (C:bm) (fx:List Nat) (eg:List ResultVar) (r:I) (outs:List I) (s:ag):Prop:=
 yc C fx eg r outs s∨∃t y q d s1,s t= .h y q∧bM s (.h y q)=some (d,s1)∧yc C fx eg r outs (fin s1 (some t) d)
theorem a1.takes {w0 w:World} {F0 X F:Nat→Prop} {S:Nat→Nat→Prop} {s s1:ag} {an:Nat→Value} {t y:Nat} {q:List Nat} {d:I} (aC:a1 w0 F0 X F S s an w) (aa:s t= .h y q) (ab:bM s (.h y q)=some (d,s1)):
  ∃aE,a1 w0 F0 X F aE (bZ.fin s1 (some t) d) an w:=by
 have U:=aC.b2 t
 rw[aa,au]at U
 obtain⟨bk,k0,bg,bw,Sn,cM,cc,c8,dj,fD,_⟩:=lq aC (av:=.h y q) (v:=an t) rfl (by rw[au];exact U) ab
 obtain⟨aE,aT⟩:=k0.fin (.inr ⟨bg,bw,Sn,cM,cc,c8,dj,fD⟩) (some t)
 refine⟨aE,?_⟩
 have e:mP an (some t) (an t)=an:=by
  funext u
  simp only[mP,cf]
  split
  ·rename_i h;rw[h]
  ·rfl
 rwa [e]at aT
section
variable {C:bm} {w0 w:World} {F0 X F:Nat→Prop} {S:Nat→Nat→Prop} {s:ag} {tmps:Array Value}
theorem Ck {d:I} {x:Value} (ae:∀vs,d≠.tuple vs) (h:cA d x):bs x=ff x∧fB d x:=by
 have:fB d x:=by cases d<;>first|exact h|exact(ae _ rfl).elim
 refine⟨?_,this⟩
 cases d<;>first
  |(obtain⟨a,rfl⟩:=this;rfl)
  |(simp only[fB]at this
    rw[eC this]
    cases x<;>first|rfl|(simp[Value.ep]at this))
def sK (tmps:Array Value):ResultVar→Sem Value
 | .tmp t=>pure (tmps.getD t undef)
 | .cell a t=>do loadVar t (←asAddr (tmps.getD a undef))
theorem JD (aV:C.db) (h:a1 w0 F0 X F S s (fun t=>tmps.getD t undef) w) {v:ResultVar} {d:I} (aD:ni C s v=some d):
  ∃x,(sK tmps v).run C.P w= .ok x w∧d.tree=true∧(∀vs,d≠.tuple vs)∧cA d x∧ak w F d (bs x) (S (hY v)):=by
 cases v with
 |tmp t=>
  simp only[ni]at aD
  split at aD
  ·rename_i aK
   have jT:(∀vs,s t≠.tuple vs)∧d=s t:=by
    cases U:s t<;>rw[U]at aD<;>simp only at aD<;>first
     |(cases aD;done)
     |(simp only[Option.some.injEq]at aD;exact⟨(fun _ h=>by cases h),aD.symm⟩)
   obtain⟨jT,rfl⟩:=jT
   obtain⟨g1,g2⟩:=(au.bB aK).1 (h.b2 t)
   exact⟨_,by simp[sK],aK,jT,g1,g2⟩
  ·cases aD
 |cell a T=>
  simp only[ni]at aD
  split at aD
  ·rename_i e U
   split at aD
   ·rename_i JE
    obtain⟨ft,JF⟩:=JE
    simp only[Option.some.injEq]at aD;subst aD
    have gu:=h.b2 a
    rw[U]at gu
    obtain⟨g1,g2⟩:=(au.bB (d:=.bG e) rfl).1 gu
    rw[eC g1,ak]at g2
    obtain⟨b,cur,ty,fr,aE,bg,bw,cM,cc,c8,dj,fD⟩:=g2
    simp only[List.cons.injEq,and_true]at bg
    have gQ:fc w b 0 cur.toList:=by
     have:=p2 cM cur.size
     rwa [List.take_of_length_le (by simp)]at this
    obtain⟨x,ed,cn,e8⟩:=uf (C:=C) aV gQ c8 ft
    refine⟨x,?_,JF,?_,e8,?_⟩
    ·simp only[sK]
     rw[bg]
     simpa [asAddr]using ed
    ·intro vs eA;subst eA
     unfold fits at ft
     split at ft<;>simp_all
    ·rw[cn];exact ak.mono (fun _ h=>h) _ _ _ _ dj c8
   ·cases aD
  ·cases aD
theorem JG (aV:C.db) (h:a1 w0 F0 X F S s (fun t=>tmps.getD t undef) w):∀(eg:List ResultVar) (ds:List I),eg.map (ni C s)=ds.map some→(eg.map hY).Nodup→
  ∃xs,(eg.mapM (sK tmps)).run C.P w= .ok xs w∧xs.length=ds.length∧aL w F ds (xs.flatMap ff) (fun b=>∃t∈eg.map hY,S t b)∧
   ∀(k:Nat) (d:I) (x:Value),ds[k]? =some d→xs[k]? =some x→cA d x∧(∀vs,d≠.tuple vs)∧(ff x).length=d.wd∧bs x=ff x∧d.tree=true:=by
 intro eg
 induction eg with
 |nil=>
  intro ds he _
  have:ds=[]:=by simpa using he.symm
  subst this
  exact⟨[],by simp,rfl,by simp only[List.flatMap_nil];rw[aL],fun k d x ae=>by simp at ae⟩
 |cons v eg ih=>
  intro ds he qs
  cases ds with
  |nil=>simp at he
  |cons d ds=>
   simp only[List.map_cons,List.cons.injEq]at he
   simp only[List.map_cons,List.nodup_cons]at qs
   obtain⟨x,ed,rt,cn,e8,ef⟩:=JD aV h he.1
   obtain⟨xs,fj,er,gM,gN⟩:=ih ds he.2 qs.2
   obtain⟨aF,aJ⟩:=Ck cn e8
   refine⟨x::xs,by simp[List.mapM_cons,ed,fj],by simp[er],?_,?_⟩
   ·simp only[List.flatMap_cons]
    rw[aL]
    rw[aF]at ef
    refine⟨ff x,xs.flatMap ff,S (hY v),fun b=>∃t∈eg.map hY,S t b,rfl,ef,gM,fun b J=>⟨hY v,by simp,J⟩,?_,?_⟩
    ·rintro b ⟨t,aK,J⟩;exact⟨t,by simp[aK],J⟩
    ·rintro b J ⟨t,aK,ji⟩
     have:t≠hY v:=fun e=>qs.1 (e▸aK)
     exact h.dm t (hY v) b this ji J
   ·intro k aX cE ae ai
    cases k with
    |zero=>
     simp at ae ai;subst ae ai
     refine⟨e8,cn,?_,aF,rt⟩
     rw[←aF];exact ak.length _ _ _ ef
    |succ k=>exact gN k aX cE (by simpa using ae) (by simpa using ai)
theorem Cl (aV:C.db) {f:FuncId} {fn:Func} {c:Code} {fx:List Nat} {as outs:List I} {r:I} (bc:C.P.funcs[f]? =some fn) (J:fn.body=some c)
  (iz:(fn.name== "runtime.NumGoroutine")=false) (aQ:as.length≤fn.ntmps)
  {w:World} {F X:Nat→Prop} {S:Nat→Nat→Prop} {vs:List Value} (aI:vs.length=as.length) (aC:a1 w F X F S (dL as) (eJ vs) w)
  (yd:∀a,Rel w F X ⟨fn.ntmps,fx⟩ (eJ vs) (dL as) a w→(∀t,a.tmps.getD t undef=eJ vs t)→c.wp C.P (qq w F X ⟨fn.ntmps,fx⟩ (eJ vs) (fun e s=>(e= .normal∨e= .ret)∧eo (Ends C fx fn.results.toList r outs) s)) a w):
  lF C.P f vs.toArray w fun v ar=>∃a8 aE,a1 w F X a8 aE (dL (r::outs)) (eJ (v::vs)) ar:=by
 have jS:(vs.toArray++Array.replicate (fn.ntmps-vs.toArray.size) undef).size=fn.ntmps:=by simp;omega
 have cL:(fun t=>(vs.toArray++Array.replicate (fn.ntmps-vs.toArray.size) undef).getD t undef)=eJ vs:=by
  funext t
  simp only[eJ,Array.getD_eq_getD_getElem?,List.getD_eq_getElem?_getD]
  by_cases aK:t<vs.length
  ·rw[Array.getElem?_append_left (by simpa using aK)];simp
  ·rw[Array.getElem?_append_right (by simpa using aK)]
   rw[List.getElem?_eq_none (by omega)]
   simp only[Array.getElem?_replicate]
   split<;>rfl
 have nh:Rel w F X ⟨fn.ntmps,fx⟩ (eJ vs) (dL as) {tmps:=vs.toArray++Array.replicate (fn.ntmps-vs.toArray.size) undef,defers:=[]} w:=
  ⟨rfl,jS,fun i _=>congrFun cL i,F,S,by rw[cL];exact aC⟩
 have ye:fn.name≠ "runtime.NumGoroutine" :=by simpa using iz
 refine .inl ⟨by simp[callFunc,bc,ye,J],calls_of_wp bc J (wp_mono (yd _ nh (congrFun cL)) ?_)⟩
 rintro e bU ar ⟨ao,⟨he,JH⟩,JI⟩
 obtain⟨ao,⟨ds,gZ,Cm,qs,oT⟩,ae,cO,e9,a8,aE,cW⟩:∃ao,yc C fx fn.results.toList r outs ao∧Rel w F X ⟨fn.ntmps,fx⟩ (eJ vs) ao bU ar:=by
  obtain⟨ao,he,Cn⟩:=JI.eo JH
  rcases he with he|⟨t,y,q,d,s1,aa,ab,he⟩
  ·exact⟨ao,he,Cn⟩
  ·obtain⟨g1,g2,g3,F,S,g4⟩:=Cn
   obtain⟨aE,g5⟩:=g4.takes aa ab
   exact⟨_,he,g1,g2,g3,F,aE,g5⟩
 obtain⟨xs,fj,er,gM,gN⟩:=JG aV cW _ ds gZ qs
 have JJ:(results fn bU.tmps)=(do let vs←fn.results.mapM (sK bU.tmps);pure (if h:vs.size=1 then vs[0]else .tuple vs)):=by
  unfold results
  congr 1
 have oZ:(results fn bU.tmps).run C.P ar= .ok (if h:xs.toArray.size=1 then xs.toArray[0]else .tuple xs.toArray) ar:=by
  rw[JJ,Array.mapM_eq_mapM_toList]
  simp[fj]
 have pj:(r.tree=true∧cA r (if h:xs.toArray.size=1 then xs.toArray[0]else .tuple xs.toArray)∧
   ak ar a8 r (bs (if h:xs.toArray.size=1 then xs.toArray[0]else .tuple xs.toArray)) (fun b=>∃t∈fn.results.toList.map hY,aE t b)):=by
  by_cases aa:∃d,ds=[d]
  ·obtain⟨d,rfl⟩:=aa
   obtain⟨x,rfl⟩:∃x,xs=[x]:=by
    cases xs with
    |nil=>simp at er
    |cons x xs=>cases xs with
     |nil=>exact⟨x,rfl⟩
     |cons y bA=>simp at er
   obtain⟨bg,bw,cM,cc,c8⟩:=gN 0 d x rfl rfl
   have JK:d=r:=Cm.symm
   subst JK
   simp only[List.flatMap_cons,List.flatMap_nil,List.append_nil]at gM
   rw[aL]at gM
   obtain⟨bD,c2,bk,cx,aF,aJ,aN,bt,bN,bh⟩:=gM
   rw[aL]at aN;subst aN
   simp only[List.append_nil]at aF;subst aF
   have ai:(if h:([x]:List Value).toArray.size=1 then([x]:List Value).toArray[0]else .tuple ([x]:List Value).toArray)=x:=by simp
   rw[ai,cc]
   exact⟨c8,bg,ak.mono (fun _ h=>h) _ _ _ _ bt aJ⟩
  ·have JL:r= .tuple ds:=by
    rw[Cm]
    cases ds with
    |nil=>rfl
    |cons d ds=>cases ds with
     |nil=>exact(aa ⟨d,rfl⟩).elim
     |cons e ds=>rfl
   have ai:(if h:xs.toArray.size=1 then xs.toArray[0]else Value.tuple xs.toArray)= .tuple xs.toArray:=by
    rw[dif_neg]
    intro cO
    have:ds.length=1:=by rw[←er];simpa using cO
    obtain⟨d,ae⟩:=List.length_eq_one_iff.1 this
    exact aa ⟨d,ae⟩
   rw[ai,JL]
   refine⟨rfl,⟨xs.toArray,rfl,by simpa using er,fun k d x ae ai=> ?_⟩,?_⟩
   ·obtain⟨bg,bw,cM,cc,_⟩:=gN k d x ae (by simpa using ai)
    exact⟨(Ck bw bg).2,bw,cM⟩
   ·rw[ak]
    simpa [bs]using gM
 have post:∀(v:Value),(r.tree=true∧cA r v∧ak ar a8 r (bs v) (fun b=>∃t∈fn.results.toList.map hY,aE t b))→∃qk bk,a1 w F X qk bk (dL (r::outs)) (eJ (v::vs)) ar:=by
  rintro v ⟨v1,v2,v3⟩
  have yf:∀i,(outs.getD i .hole).eI=true→outs.getD i .hole=ao i∧i∈fx∧i∉fn.results.toList.map hY:=by
   intro i ay
   cases bH:outs[i]? with
   |none=>simp[List.getD,bH,I.eI]at ay
   |some o=>
    have e:outs.getD i .hole=o:=by simp[List.getD,bH]
    rw[e]at ay⊢
    rcases oT i o bH with h|h
    ·subst h;simp[I.eI]at ay
    ·exact⟨h.1,h.2.2⟩
  refine⟨a8,fun t b=>match t with|0=>∃t∈fn.results.toList.map hY,aE t b|i+1=>(outs.getD i .hole).eI=true∧aE i b,cW.eB,cW.eQ,cW.de,?_,?_,?_,?_,?_,cW.old,cW.size,cW.os,cW.tape,cW.output,aC.dW⟩
  ·intro t b J
   cases t with
   |zero=>obtain⟨t,_,J⟩:=J;exact cW.cV t b J
   |succ i=>exact cW.cV i b J.2
  ·intro t b J
   cases t with
   |zero=>obtain⟨t,_,J⟩:=J;exact cW.dy t b J
   |succ i=>exact cW.dy i b J.2
  ·intro t u b cj J hu
   cases t with
   |zero=>
    obtain⟨t,aK,J⟩:=J
    cases u with
    |zero=>exact cj rfl
    |succ j=>
     refine cW.dm t j b (fun e=> ?_) J hu.2
     subst e;exact(yf t hu.1).2.2 aK
   |succ i=>
    cases u with
    |zero=>
     obtain⟨t,aK,hu⟩:=hu
     refine cW.dm t i b (fun e=> ?_) hu J.2
     subst e;exact(yf t J.1).2.2 aK
    |succ j=>exact cW.dm i j b (by omega) J.2 hu.2
  ·intro t b J
   cases t with
   |zero=>obtain⟨t,_,J⟩:=J;exact cW.cp t b J
   |succ i=>exact cW.cp i b J.2
  ·intro t
   cases t with
   |zero=>exact(au.bB v1).2 ⟨v2,v3⟩
   |succ i=>
    show au ar a8 (dL (r::outs)) (eJ (v::vs)) (outs.getD i .hole) (vs.getD i undef) (fun b=>(outs.getD i .hole).eI=true∧aE i b)
    cases ay:(outs.getD i .hole).eI with
    |false=>
     have:outs.getD i .hole= .hole:=by
      cases bH:outs[i]? with
      |none=>simp[List.getD,bH]
      |some o=>
       have e:outs.getD i .hole=o:=by simp[List.getD,bH]
       rw[e]at ay⊢
       rcases oT i o bH with h|h
       ·exact h
       ·rw[h.2.1]at ay;cases ay
     rw[this,au];trivial
    |true=>
     obtain⟨ko,lE,uF⟩:=yf i ay
     have aK:=(n5 ay).2.1
     have gu:=cW.b2 i
     rw[←ko]at gu
     obtain⟨g1,g2⟩:=(au.bB aK).1 gu
     have aD:bU.tmps.getD i undef=vs.getD i undef:=e9 i lE
     rw[aD]at g1 g2
     exact(au.bB aK).2 ⟨g1,ak.mono (fun _ h=>h) _ _ _ _ (fun b J=>⟨rfl,J⟩) g2⟩
 rcases he with rfl|rfl
 ·exact⟨ae,_,oZ,_,rfl,post _ pj⟩
 ·exact⟨ae,_,oZ,_,rfl,post _ pj⟩
theorem bj.of_wp (aV:C.db) {f:FuncId} {fn:Func} {c:Code} {dF:ad} {fx:List Nat} {as outs:List I} {r:I} (bc:C.P.funcs[f]? =some fn) (J:fn.body=some c)
  (iz:(fn.name== "runtime.NumGoroutine")=false) (U:bR ⟨fn.ntmps,fx⟩ c=some dF.strip) (aQ:as.length≤fn.ntmps)
  (h:ca C dF (fun e s=>(e= .normal∨e= .ret)∧eo (Ends C fx fn.results.toList r outs) s) (dL as)) (ah:dF.plain=true:=by kernel_rfl):bj C f as r outs:=
 fun w F X S vs aI aC=>Cl aV bc J iz aQ aI aC fun a nh _=>JC aV c (by rw[ad.B_];exact U) (ad.Ca dF (ad.Jp dF ah)) (Cg dF h) nh
end
def num:Nat→List I→List (Nat×I)
 |_,[]=>[]
 |k,a::as=>(k,a)::num (k+1) as
theorem JM:∀(as:List I) (k t:Nat),R (num k as) (k+t)=as.getD t .hole:=by
 intro as
 induction as with
 |nil=>intro k t;simp[num,R]
 |cons a as ih=>
  intro k t
  cases t with
  |zero=>simp[num,R]
  |succ t=>
   have:=ih (k+1) t
   simp only[num,R]
   rw[if_neg (by omega)]
   rw[show k+(t+1)=k+1+t by omega,this]
   simp
theorem Co (as:List I):dL as=R (num 0 as):=by
 funext t
 have:=JM as 0 t
 rw[Nat.zero_add]at this
 rw[this];rfl
theorem hZ (l:List (Nat×I)) (t:Nat) (d:I):cf (R l) t d=R ((t,d)::l):=by
 funext u;simp only[cf,R]
def k3 (t:Nat):List (Nat×I)→List (Nat×I)
 |[]=>[]
 |(u,d)::l=>(u,bP t d)::k3 t l
def pk (t:Nat):List (Nat×I)→List (Nat×I)
 |[]=>[]
 |(u,d)::l=>(u,bo t d)::pk t l
theorem qt (t:Nat):∀l:List (Nat×I),iK t (R l)=R (k3 t l):=by
 intro l
 funext u
 induction l with
 |nil=>rfl
 |cons p l ih=>
  obtain⟨v,d⟩:=p
  simp only[iK,R,k3]at ih⊢
  split
  ·rfl
  ·exact ih
theorem JN (t:Nat):∀l:List (Nat×I),fq t (R l)=R (pk t l):=by
 intro l
 funext u
 induction l with
 |nil=>rfl
 |cons p l ih=>
  obtain⟨v,d⟩:=p
  simp only[fq,R,pk]at ih⊢
  split
  ·rfl
  ·exact ih
def gA (k:List Nat) (s:ag):List (Nat×I):=k.map fun t=>(t,s t)
section
variable {C:bm} {l:List (Nat×I)}
def dS.pn:dS→Bool
 | .call _ _=>true
 | .cg _=>false
 | .df _=>false
 | .pick _ _ _=>false
 | .e1 _=>false
 | .dB _ _=>false
 | .dP _ _=>false
 | .cF _ _ _=>false
 | .c7 _ _=>false
 | .et _ _ _=>false
 | .ek _=>false
 | .bC _ _ _ _=>false
 | .un _ _=>false
 | .dR _ _ _=>false
 | .hE _ _=>false
 | .en _ _ _=>false
 | .cD _ _ _ _=>false
 | .dX _ _ _=>false
 | .ej _ _ _=>false
 | .idx _ _ _=>false
 | .ex _ _=>false
 | .jl _ _ _=>false
 | .len _ _=>false
 | .app _ _ _ _=>false
 | .shr _=>true
 | .kS _ _ _ _=>false
 | .cap _ _=>false
 | .fQ _ _ _=>false
 | .bad=>false
 | .jQ _ _ _ _=>true
 | .jR _ _ _=>true
 | .il _ _=>false
 | .n2 _=>false
 | .nb _=>false
 | .sl=>false
 | .kR _ _ _=>false
 | .jP _ _ _ _=>false
variable {Q:Exit→ag→Prop}
def I.Cp:I→Bool
 | .tuple _=>true
 |_=>false
theorem Ends.one {fx:List Nat} {t:Nat} {r:I} {s:ag} (aa:s t=r) (ab:(r.tree&& !r.Cp)=true):Ends C fx [.tmp t] r [] s:=by
 simp only[Bool.and_eq_true,Bool.not_eq_true']at ab
 obtain⟨ab,uO⟩:=ab
 have aB:∀vs,r≠.tuple vs:=fun vs e=>by subst e;simp[I.Cp]at uO
 refine .inl ⟨[r],?_,rfl,by simp,fun i o h=>by simp at h⟩
 have:ni C s (.tmp t)=some r:=by
  simp only[ni,aa,ab,if_true]
  try (cases r<;>first|rfl|exact(aB _ rfl).elim)
 simp only[List.map_cons,List.map_nil,this]
end
section
variable {C:bm} {l:List (Nat×I)} {Q:Exit→ag→Prop}
theorem bj.outs {f:FuncId} {as:List I} {r:I} {ko lE:List I} (h:bj C f as r ko) (he:dL ko=dL lE):bj C f as r lE:=by
 intro w F X S vs aI aC
 refine lF.mono (h w F X S vs aI aC) ?_
 rintro v ar ⟨a8,aE,aT⟩
 refine⟨a8,aE,?_⟩
 have:dL (r::lE)=dL (r::ko):=by
  funext t
  cases t with
  |zero=>rfl
  |succ t=>exact(congrFun he t).symm
 rw[this];exact aT
def jw:List I→List I→List bO
 |a::as,d::ds=>⟨a,false,d,.hole⟩::jw as ds
 |_,_=>[]
theorem JO {s:ag}:∀(as ds:List I),views s as=some ds→(jw as ds).map (·.a)=as∧(jw as ds).map (·.d)=ds∧(∀p∈jw as ds,p.ok s∧p.g=false∧p.o= .hole∧p.a∈as)∧fZ (jw as ds)=true∧
  dL ((jw as ds).map (·.o))=dL []∧(∀nj,dE nj (jw as ds)=nj)∧(∀nj,fS nj (jw as ds)=nj):=by
 intro as
 induction as with
 |nil=>
  intro ds h
  simp only[views,Option.some.injEq]at h;subst h
  exact⟨rfl,rfl,(fun p ah=>by cases ah),rfl,rfl,fun _=>rfl,fun _=>rfl⟩
 |cons a as ih=>
  intro ds h
  simp only[views]at h
  split at h
  ·rename_i d JP aa ab
   simp only[Option.some.injEq]at h;subst h
   obtain⟨aF,aJ,aN,bt,bN,bh,ba⟩:=ih JP ab
   refine⟨by simp only[jw,List.map_cons,aF],by simp only[jw,List.map_cons,aJ],?_,?_,?_,?_,?_⟩
   ·intro p ah
    simp only[jw,List.mem_cons]at ah
    rcases ah with rfl|ah
    ·exact⟨by simp only[bO.ok];exact aa,rfl,rfl,by simp⟩
    ·obtain⟨g1,g2,g3,g4⟩:=aN p ah
     exact⟨g1,g2,g3,by simp[g4]⟩
   ·simp only[jw,fZ,bt,Bool.and_true,List.all_eq_true]
    intro p ah
    simp[(aN p ah).2.1]
   ·funext t
    cases t with
    |zero=>rfl
    |succ t=>exact(congrFun bN t).trans (by simp[dL])
   ·intro nj;exact bh nj
   ·intro nj;exact ba nj
  ·cases h
end
structure dG where
 a6:List Nat
 H:List Nat
 T:List Nat
 c:Bool
mutual
def I.clean:I→Bool
 | .hole=>false
 | .fn _ cap=>I.qu cap
 |_=>true
def I.qu:List I→Bool
 |[]=>true
 |d::ds=>d.clean&&I.qu ds
end
mutual
theorem Cq {x:Nat}:∀a:I,(bo x a).clean=true→bo x a=a
 | .h y q,h=>by
   simp only[bo]at h⊢
   split
   ·rename_i e;rw[if_pos e]at h
    split
    ·rfl
    ·rename_i eA;rw[if_neg eA]at h;simp[I.clean]at h
   ·rfl
 | .ah y q,h=>by
   simp only[bo]at h⊢
   split
   ·rename_i e;rw[if_pos e]at h;simp[I.clean]at h
   ·rfl
 | .J y q,h=>rfl
 | .fn f cap,h=>by simp only[bo,I.clean]at h⊢;rw[Cr cap h]
 | .hole,_=>rfl
 | .bool _,_=>rfl
 | .di,_=>rfl
 | .int _ _,_=>rfl
 | .str _,_=>rfl
 | .cw,_=>rfl
 | .bu,_=>rfl
 | .slice _,_=>rfl
 | .aG _ _,_=>rfl
 | .ref _,_=>rfl
 | .bG _,_=>rfl
 | .agg _,_=>rfl
 | .tuple _,_=>rfl
 | .b9 _,_=>rfl
theorem Cr {x:Nat}:∀ds:List I,I.qu (fM x ds)=true→fM x ds=ds
 |[],_=>rfl
 |d::ds,h=>by
  simp only[fM,I.qu,Bool.and_eq_true]at h⊢
  rw[Cq d h.1,Cr ds h.2]
end
mutual
theorem Cs {x:Nat}:∀a:I,(bP x a).clean=true→bP x a=a
 | .h y q,h=>by
   simp only[bP]at h⊢
   split
   ·rename_i e;rw[if_pos e]at h;simp[I.clean]at h
   ·rfl
 | .ah y q,h=>by
   simp only[bP]at h⊢
   split
   ·rename_i e;rw[if_pos e]at h;simp[I.clean]at h
   ·rfl
 | .J y q,h=>by
   simp only[bP]at h⊢
   split
   ·rename_i e;rw[if_pos e]at h;simp[I.clean]at h
   ·rfl
 | .fn f cap,h=>by simp only[bP,I.clean]at h⊢;rw[Ct cap h]
 | .hole,_=>rfl
 | .bool _,_=>rfl
 | .di,_=>rfl
 | .int _ _,_=>rfl
 | .str _,_=>rfl
 | .cw,_=>rfl
 | .bu,_=>rfl
 | .slice _,_=>rfl
 | .aG _ _,_=>rfl
 | .ref _,_=>rfl
 | .bG _,_=>rfl
 | .agg _,_=>rfl
 | .tuple _,_=>rfl
 | .b9 _,_=>rfl
theorem Ct {x:Nat}:∀ds:List I,I.qu (gm x ds)=true→gm x ds=ds
 |[],_=>rfl
 |d::ds,h=>by
  simp only[gm,I.qu,Bool.and_eq_true]at h⊢
  rw[Cs d h.1,Ct ds h.2]
end
theorem JQ {k:mb} {x:Nat} {a:I} (h:(k.app x a).clean=true):k.app x a=a:=by
 cases k with
 |no=>rfl
 |bo=>exact Cq a h
 |bP=>exact Cs a h
theorem JR:∀(ms:List eD) (u:Nat) (a:I),(∀m∈ms,m.x≠u)→(gY ms u a).clean=true→gY ms u a=a:=by
 intro ms
 induction ms with
 |nil=>intros;rfl
 |cons m ms ih=>
  intro u a ai af
  simp only[gY]at af⊢
  have e:=ih u _ (fun gS po=>ai gS (by simp[po])) af
  have hm:m.at u a=m.k.app m.x a:=by
   simp only[eD.at];rw[if_neg (fun e=>ai m (by simp) e.symm)]
  rw[e,hm]
  rw[e,hm]at af
  exact JQ af
theorem JS:∀(ms:List eD) (u:Nat) (a:I),(∀m∈ms,m.x≠u∧m.x∉a.U)→gY ms u a=a:=by
 intro ms
 induction ms with
 |nil=>intros;rfl
 |cons m ms ih=>
  intro u a ai
  simp only[gY]
  have hm:m.at u a=a:=by
   simp only[eD.at];rw[if_neg (fun e=>(ai m (by simp)).1 e.symm)]
   exact sq (.inr (ai m (by simp)).2)
  rw[hm]
  exact ih u a fun gS po=>ai gS (by simp[po])
theorem JT (m:eD):∀(ms:List eD) (u:Nat) (a:I),(∀gS∈ms,gS.x≠m.x∧gS.x∉m.d.U∧m.x∉gS.d.U)→gY ms u (m.at u a)=m.at u (gY ms u a):=by
 intro ms
 induction ms with
 |nil=>intros;rfl
 |cons n ms ih=>
  intro u a ai
  simp only[gY]
  have aQ:=ai n (by simp)
  have af:n.at u (m.at u a)=m.at u (n.at u a):=by
   simp only[eD.at]
   by_cases aF:u=n.x
   ·subst aF
    rw[if_pos rfl,if_neg aQ.1,if_pos rfl]
    exact(sq (.inr aQ.2.2)).symm
   ·rw[if_neg aF]
    by_cases aJ:u=m.x
    ·subst aJ
     rw[if_pos rfl,if_pos rfl]
     exact sq (.inr aQ.2.1)
    ·rw[if_neg aJ,if_neg aF,if_neg aJ]
     exact H7 _ _ _ _ _
  rw[af]
  exact ih u _ fun gS po=>ai gS (by simp[po])
theorem JU:∀(ms hU:List eD) (s:ag),(∀m∈ms,∀n∈hU,n.x≠m.x∧n.x∉m.d.U∧m.x∉n.d.U)→cl hU (cl ms s)=cl ms (cl hU s):=by
 intro ms
 induction ms with
 |nil=>intros;rfl
 |cons m ms ih=>
  intro hU s h
  have e:∀s,cl (m::ms) s=cl ms (cl [m] s):=fun s=>iO [m] ms s
  rw[e,e,ih hU _ (fun gS po=>h gS (by simp[po]))]
  congr 1
  funext u
  simp only[cl,gY]
  exact JT m hU u _ (h m (by simp))
def yg (C:bm) (s:ag) (f:aw) (args:List aw) (K:List Nat→I→ag→Prop):Prop:=
 ∃(g:FuncId) (caps:List I) (ps:List bO) (r:I),az s f= .fn g caps∧I.dV caps=true∧ps.map (·.a)=args.map (az s)++caps∧(∀p∈ps,p.ok s)∧fZ ps=true∧
   bj C g (ps.map (·.d)) r (ps.map (·.o))∧r.res=true∧(hW ps=true→r.c_=true∧∀p∈ps,p.o.c_=true)∧K (I.cT ((ps.filter (·.g)).map (·.a))) r (fS (dE s ps) ps)
def lK (C:bm) (s:ag) (a7:dS) (K:List Nat→I→ag→Prop):Prop:=
 match a7 with
 | .call f args=>∃(g:FuncId) (caps:List I) (ps:List bO) (r:I),az s f= .fn g caps∧I.dV caps=true∧ps.map (·.a)=args.map (az s)++caps∧(∀p∈ps,p.ok s)∧fZ ps=true∧
   bj C g (ps.map (·.d)) r (ps.map (·.o))∧r.res=true∧(hW ps=true→r.c_=true∧∀p∈ps,p.o.c_=true)∧K (I.cT ((ps.filter (·.g)).map (·.a))) r (fS (dE s ps) ps)
 | .shr a7=>∃av s1,aZ C s a7=some (av,s1)∧av.tree=true∧(∀vs,av≠.tuple vs)∧K (cd s a7) av.share s1
 | .jQ f args u x=>s u= .h x []∧(s x).own=true∧yg C s f args fun bM av s1=>s1 u= .hole∧(s1 x).own=true∧K (u::bM) av (cf s1 u (.h x []))
 | .jR f args us=>mg s (ju s us)=true∧yg C s f args fun bM av s1=>mg s1 (ju s us)=true∧K (us++bM) av (ng s1 (ju s us))
 |a7=>∃av s1,aZ C s a7=some (av,s1)∧K (cd s a7) av s1
def gv (s:ag) (a6:List Nat) (dst:Option Nat) (bM:List Nat) (av:I):dG:=
 ⟨a6,a6.flatMap (fun u=>(s u).U)++av.U,dst.toList++bM,a6.all fun u=>(s u).clean⟩
def k4 (C:bm) (s:ag) (o:bn) (K:dG→ag→Prop):Prop:=
 match o.guard with
 |none=>lK C s o.a7 fun bM av s1=>K (gv s (use s o.a7) o.dst bM av) (fin s1 o.dst av)
 |some (t,b)=>match s t with
  | .bool dK=>if dK=b then lK C s o.a7 (fun bM av s1=>K (gv s (t::use s o.a7) o.dst bM av) (fin s1 o.dst av))else K (gv s [t] o.dst [] (.tuple [])) (fin s o.dst (.tuple []))
  | .tuple []=>K (gv s [t] o.dst [] (.tuple [])) (fin s o.dst (.tuple []))
  |_=>False
def nk:Option (List dG)→dG→Option (List dG)
 |none,_=>none
 |some l,f=>some (f::l)
def bL (C:bm) (s:ag):List bn→Option (List dG)→(Option (List dG)→ag→Prop)→Prop
 |[],acc,K=>K acc s
 |o::os,acc,K=>k4 C s o fun f s1=>bL C s1 os (nk acc f) K
section
variable {C:bm}
theorem Cu {s:ag} {a7:dS} {K:List Nat→I→ag→Prop} {ch:I→ag→Prop} (al:∀bM av s,K bM av s→ch av s) (h:lK C s a7 K):k1 C s a7 ch:=by
 cases a7 with
 |call f args=>
  obtain⟨g,caps,ps,r,aa,eK,ab,aB,aP,bb,bQ,bT,dt⟩:=h
  exact⟨g,caps,ps,r,aa,eK,ab,aB,aP,bb,bQ,bT,al _ _ _ dt⟩
 |jQ f args u x=>
  obtain⟨bg,bw,g,caps,ps,r,aa,eK,ab,aB,aP,bb,bQ,bT,dt,eF,eZ⟩:=h
  exact⟨bg,bw,g,caps,ps,r,aa,eK,ab,aB,aP,bb,bQ,bT,dt,eF,al _ _ _ eZ⟩
 |jR f args us=>
  obtain⟨bw,g,caps,ps,r,aa,eK,ab,aB,aP,bb,bQ,bT,dt,eF⟩:=h
  exact⟨bw,g,caps,ps,r,aa,eK,ab,aB,aP,bb,bQ,bT,dt,al _ _ _ eF⟩
 |shr a7=>
  obtain⟨av,s1,aa,ab,aB,aP⟩:=h
  exact⟨av,s1,aa,ab,aB,al _ _ _ aP⟩
 |_=>
  obtain⟨av,s1,aa,ab⟩:=h
  exact⟨av,s1,aa,al _ _ _ ab⟩
theorem JV {s:ag} {o:bn} {K:dG→ag→Prop} {ch:ag→Prop} (al:∀f s,K f s→ch s) (h:k4 C s o K):iP C s o ch:=by
 unfold k4 at h
 unfold iP
 split
 ·rename_i hg;rw[hg]at h;exact Cu (fun _ _ _=>al _ _) h
 ·rename_i t b hg
  rw[hg]at h
  simp only at h
  split
  ·rename_i dK U
   rw[U]at h
   simp only at h
   split
   ·rename_i J;rw[if_pos J]at h;exact Cu (fun _ _ _=>al _ _) h
   ·rename_i J;rw[if_neg J]at h;exact al _ _ h
  ·rename_i U;rw[U]at h;exact al _ _ h
  ·rename_i aa ab
   split at h
   ·exact aa _ (by assumption)
   ·exact ab (by assumption)
   ·exact h
theorem uP {K:ag→Prop}:∀{ros:List bn} {s:ag} {acc:Option (List dG)} {ch:Option (List dG)→ag→Prop},(∀a s,ch a s→K s)→bL C s ros acc ch→ix C s ros K:=by
 intro ros
 induction ros with
 |nil=>intro s acc ch al h;exact al _ _ h
 |cons o ros ih=>intro s acc ch al h;exact JV (fun f s h=>ih al h) h
theorem Cv {q:List Nat} {a d:I} (h:I.sub q a=some d) (b6:q≠[]∨d.U=[]):a.U=[]:=by
 cases q with
 |nil=>
  simp only[I.sub,Option.some.injEq]at h;subst h
  exact b6.resolve_left (fun e=>e rfl)
 |cons k q=>cases a<;>first|rfl|(simp[I.sub]at h)
def uQ (s:ag) (p:bO) (e:I→Prop):Prop:=p.g=true→∃x q d,p.a= .h x q∧I.sub q (s x)=some d∧e d∧(p.o= .hole∨p.o.eI=true)
theorem Cw {d:I} (h:d.eI=true):d.U=[]:=BP (n5 h).2.1
theorem Cx {d:I} (h:d.eI=true):d.b0.U=[]:=by cases d<;>first|rfl|(simp[I.eI]at h)
theorem Cy {p:bO} {ps:List bO} (h:fZ (p::ps)=true):fZ ps=true∧∀bJ∈ps,(p.g=true∨bJ.g=true)→∀u∈p.a.U,u∉bJ.a.U:=by
 simp only[fZ,Bool.and_eq_true,List.all_eq_true,Bool.or_eq_true,Bool.not_eq_true']at h
 refine⟨h.2,fun bJ cY hg u hu=> ?_⟩
 rcases h.1 bJ cY with e|e
 ·rcases hg with hg|hg<;>simp[hg]at e
 ·simpa using e u hu
def oc (ps:List bO):List Nat:=I.cT ((ps.filter (·.g)).map (·.a))
theorem qv (p:bO) (ps:List bO):(∀u∈oc ps,u∈oc (p::ps))∧(p.g=true→∀u∈p.a.U,u∈oc (p::ps)):=by
 unfold oc
 by_cases hg:p.g=true
 ·simp only[List.filter_cons,hg,if_true,List.map_cons,I.cT,List.mem_append]
  exact⟨fun u h=>.inr h,fun _ u h=>.inl h⟩
 ·simp only[List.filter_cons,hg]
  exact⟨fun u h=>h,fun h=>by simp at h⟩
theorem JW {p:bO} {ps:List bO} (h:p∈ps):∀u∈p.a.U,u∈I.cT (ps.map (·.a)):=by
 induction ps with
 |nil=>cases h
 |cons bJ ps ih=>
  intro u hu
  simp only[List.map_cons,I.cT,List.mem_append]
  rcases List.mem_cons.1 h with rfl|h
  ·exact .inl hu
  ·exact .inr (ih h u hu)
theorem JX:∀(ps:List bO) (s:ag),(∀p∈ps,uQ s p (fun d=>d=p.d∧p.d.eI=true))→fZ ps=true→
  (∃ms:List eD,(∀m∈ms,m.x∈oc ps∧m.d.U=[])∧∀ao,cq (I.cT (ps.map (·.a))) ao s→dE ao ps=cl ms ao)∧∀p∈ps,uQ (dE s ps) p (fun d=>d=p.d.b0∧p.d.eI=true):=by
 intro ps
 induction ps with
 |nil=>intro s _ _;exact⟨⟨[],by simp,fun ao _=>rfl⟩,fun p ah=>by cases ah⟩
 |cons p ps ih=>
  intro s hg hT
  obtain⟨lD,kX⟩:=Cy hT
  by_cases jx:p.g=true
  ·obtain⟨x,q,d,br,U,⟨rfl,ae⟩,bH⟩:=hg p (by simp) jx
   have hj:(I.put q p.d.b0 (s x)).U=[]:=qh q _ _ _ U (.inl (n5 ae).1) fun _=>Cx ae
   have sL:∀ao:ag,ao x=s x→p.take ao=cl [⟨.bo,x,I.put q p.d.b0 (s x)⟩] ao:=by
    intro ao e
    simp only[bO.take,jx,if_true,br,e,pd]
   have cj:∀bJ∈ps,∀cE fN,bJ.a= .h cE fN→cE≠x:=by
    intro bJ cY cE fN e eA
    have:=kX bJ cY (.inl jx) x (by simp[br,I.U])
    rw[e,eA]at this;simp[I.U]at this
   have n6:∀cE,cE≠x→(s cE).U=[]→cl [⟨.bo,x,I.put q p.d.b0 (s x)⟩] s cE=s cE:=by
    intro cE p7 bl
    simp only[cl,gY,eD.at]
    rw[if_neg p7]
    exact sq (.inr (by rw[bl];simp))
   obtain⟨⟨ms,m1,m2⟩,m3⟩:=ih (cl [⟨.bo,x,I.put q p.d.b0 (s x)⟩] s) (fun bJ cY yh=>by
    obtain⟨cE,fN,aX,nf,eT,eV,sM⟩:=hg bJ (by simp[cY]) yh
    refine⟨cE,fN,aX,nf,?_,eV,sM⟩
    rw[n6 cE (cj bJ cY cE fN nf) (Cv eT (.inr (by rw[eV.1];exact Cw eV.2)))];exact eT) lD
   refine⟨⟨[⟨.bo,x,I.put q p.d.b0 (s x)⟩]++ms,?_,?_⟩,?_⟩
   ·intro m hm
    rcases List.mem_append.1 hm with hm|hm
    ·simp only[List.mem_singleton]at hm;subst hm
     exact⟨(qv p ps).2 jx x (by simp[br,I.U]),hj⟩
    ·exact⟨(qv p ps).1 _ (m1 m hm).1,(m1 m hm).2⟩
   ·intro ao eT
    simp only[List.map_cons,I.cT]at eT
    have e:ao x=s x:=eT x (by simp[br,I.U])
    rw[iO]
    show dE (p.take ao) ps=_
    rw[sL ao e]
    exact m2 _ (cq.cl eT.right _)
   ·have aF:dE s (p::ps)=dE (cl [⟨.bo,x,I.put q p.d.b0 (s x)⟩] s) ps:=by
     show dE (p.take s) ps=_
     rw[sL s rfl]
    rw[aF]
    intro bJ cY
    rcases List.mem_cons.1 cY with rfl|cY
    ·intro _
     refine⟨x,q,bJ.d.b0,br,?_,⟨rfl,ae⟩,bH⟩
     have aD:cl [⟨.bo,x,I.put q bJ.d.b0 (s x)⟩] s x=I.put q bJ.d.b0 (s x):=by
      simp only[cl,gY,eD.at,if_true]
     rw[xQ (by rw[aD];exact hj) (fun JY JZ Yq=> ?_),aD]
     ·exact BM q _ _ _ U
     ·exact kX JY JZ (.inl jx) x (by simp[br,I.U])
    ·exact m3 bJ cY
  ·have sL:∀ao:ag,p.take ao=ao:=by intro ao;simp only[bO.take,jx];rfl
   obtain⟨⟨ms,m1,m2⟩,m3⟩:=ih s (fun bJ cY=>hg bJ (by simp[cY])) lD
   refine⟨⟨ms,fun m hm=>⟨(qv p ps).1 _ (m1 m hm).1,(m1 m hm).2⟩,?_⟩,?_⟩
   ·intro ao eT
    simp only[List.map_cons,I.cT]at eT
    show dE (p.take ao) ps=_
    rw[sL];exact m2 ao eT.right
   ·intro bJ cY
    have aF:dE s (p::ps)=dE s ps:=by show dE (p.take s) ps=_;rw[sL]
    rw[aF]
    rcases List.mem_cons.1 cY with rfl|cY
    ·intro h;exact(jx h).elim
    ·exact m3 bJ cY
theorem J0:∀(ps:List bO) (s:ag),(∀p∈ps,uQ s p (fun d=>d=p.d.b0∧p.d.eI=true))→fZ ps=true→
  (∃ms:List eD,(∀m∈ms,m.x∈oc ps∧m.d.U=[])∧∀ao,cq (I.cT (ps.map (·.a))) ao s→fS ao ps=cl ms ao):=by
 intro ps
 induction ps with
 |nil=>intro s _ _;exact⟨[],by simp,fun ao _=>rfl⟩
 |cons p ps ih=>
  intro s hg hT
  obtain⟨lD,kX⟩:=Cy hT
  by_cases jx:p.g=true∧p.o≠.hole
  ·obtain⟨jx,J1⟩:=jx
   obtain⟨x,q,d,br,U,⟨rfl,ae⟩,bH⟩:=hg p (by simp) jx
   have bH:p.o.eI=true:=bH.resolve_left J1
   have hj:(I.put q p.o (s x)).U=[]:=by
    cases q with
    |nil=>simp only[I.put];exact Cw bH
    |cons k q=>exact qh _ _ _ _ U (.inr (by simp)) (by simp)
   have yi:∀ao:ag,ao x=s x→p.fR ao=cl [⟨.bP,x,I.put q p.o (s x)⟩] ao:=by
    intro ao e
    simp only[bO.fR,jx,if_true,br]
    rw[e,Bu]
   have cj:∀bJ∈ps,∀cE fN,bJ.a= .h cE fN→cE≠x:=by
    intro bJ cY cE fN e eA
    have:=kX bJ cY (.inl jx) x (by simp[br,I.U])
    rw[e,eA]at this;simp[I.U]at this
   obtain⟨ms,m1,m2⟩:=ih (cl [⟨.bP,x,I.put q p.o (s x)⟩] s) (fun bJ cY yh=>by
    obtain⟨cE,fN,aX,nf,eT,eV,sM⟩:=hg bJ (by simp[cY]) yh
    refine⟨cE,fN,aX,nf,?_,eV,sM⟩
    have bl:=Cv eT (.inr (by rw[eV.1];exact Cx eV.2))
    have n6:cl [⟨.bP,x,I.put q p.o (s x)⟩] s cE=s cE:=by
     simp only[cl,gY,eD.at]
     rw[if_neg (cj bJ cY cE fN nf)]
     exact sq (.inr (by rw[bl];simp))
    rw[n6];exact eT) lD
   refine⟨[⟨.bP,x,I.put q p.o (s x)⟩]++ms,?_,?_⟩
   ·intro m hm
    rcases List.mem_append.1 hm with hm|hm
    ·simp only[List.mem_singleton]at hm;subst hm
     exact⟨(qv p ps).2 jx x (by simp[br,I.U]),hj⟩
    ·exact⟨(qv p ps).1 _ (m1 m hm).1,(m1 m hm).2⟩
   ·intro ao eT
    simp only[List.map_cons,I.cT]at eT
    have e:ao x=s x:=eT x (by simp[br,I.U])
    rw[iO]
    show fS (p.fR ao) ps=_
    rw[yi ao e]
    exact m2 _ (cq.cl eT.right _)
  ·have yi:∀ao:ag,p.fR ao=ao:=by
    intro ao
    unfold bO.fR
    split
    ·rename_i ev
     have:p.o= .hole:=by
      by_cases h:p.o= .hole
      ·exact h
      ·exact(jx ⟨ev,h⟩).elim
     rw[this]
    ·rfl
   obtain⟨ms,m1,m2⟩:=ih s (fun bJ cY=>hg bJ (by simp[cY])) lD
   refine⟨ms,fun m hm=>⟨(qv p ps).1 _ (m1 m hm).1,(m1 m hm).2⟩,?_⟩
   intro ao eT
   simp only[List.map_cons,I.cT]at eT
   show fS (p.fR ao) ps=_
   rw[yi];exact m2 ao eT.right
theorem J2 {s ao:ag}:∀(a:I) (d:I),cq a.U ao s→view s a=some d→view ao a=some d:=by
 intro a d h
 have:=xT (s:=s) (ao:=ao) a d
 intro aD
 cases a with
 |h x q=>simp only[view]at aD⊢;rw[h x (by simp[I.U])];exact aD
 |ah x q=>simp only[view]at aD⊢;rw[h x (by simp[I.U])];exact aD
 |fn f cap=>
  refine this (fun u hu _=>h u hu) aD
 |_=>exact aD
theorem J3 {p:bO} {s ao:ag} (h:cq p.a.U ao s) (eE:p.ok s):p.ok ao:=by
 unfold bO.ok at eE⊢
 split
 ·rename_i hg
  rw[if_pos hg]at eE
  cases br:p.a with
  |h x q=>
   rw[br]at eE
   simp only at eE⊢
   rw[h x (by simp[br,I.U])];exact eE
  |_=>rw[br]at eE;exact eE.elim
 ·rename_i hg
  rw[if_neg hg]at eE
  exact J2 _ _ h eE
def uR (C:bm) (o:bn) (s:ag) (hH:dG) (ms:List eD):Prop:=
 (∀ao,cq hH.a6 ao s→∀K:ag→Prop,K (cl ms ao)→iP C ao o K)∧(∀m∈ms,m.x∈hH.T∧∀u∈m.d.U,u∈hH.H)∧(∀u∈hH.a6,∀x∈(s u).U,x∈hH.H)∧(hH.c=true→∀u∈hH.a6,(s u).clean=true)
theorem Cz (dst:Option Nat) (av:I):∃ms:List eD,(∀m∈ms,m.x∈dst.toList∧m.d=av)∧∀s1:ag,fin s1 dst av=cl ms s1:=by
 cases dst with
 |none=>exact⟨[],by simp,fun s=>rfl⟩
 |some t=>
  simp only[fin]
  by_cases h:av.plain=true
  ·exact⟨[⟨.no,t,av⟩],by simp,fun s=>by rw[if_pos h,xD]⟩
  ·exact⟨[⟨.bP,t,av⟩],by simp,fun s=>by rw[if_neg h,Bu]⟩
theorem uS {s:ag} {a6:List Nat} {dst:Option Nat} {bM:List Nat} {av:I}:(∀u∈(gv s a6 dst bM av).a6,∀x∈(s u).U,x∈(gv s a6 dst bM av).H)∧((gv s a6 dst bM av).c=true→∀u∈(gv s a6 dst bM av).a6,(s u).clean=true):=by
 refine⟨fun u hu x ai=> ?_,fun af=> ?_⟩
 ·simp only[gv,List.mem_append,List.mem_flatMap];exact .inl ⟨u,hu,ai⟩
 ·simp only[gv,List.all_eq_true]at af;exact af
theorem yj {s:ag} {f:aw} {args:List aw} {K:List Nat→I→ag→Prop} (h:yg C s f args K):
  ∃bM av ms,K bM av (cl ms s)∧(∀m∈ms,m.x∈bM∧m.d.U=[])∧∀ao,cq (use s (.call f args)) ao s→∀ch:I→ag→Prop,ch av (cl ms ao)→uH C ao f args ch:=by
 obtain⟨g,caps,ps,r,aa,eK,ab,aB,aP,bb,bQ,bT,dt⟩:=h
 have J4:∀p∈ps,uQ s p (fun d=>d=p.d∧p.d.eI=true):=by
  intro p ah hg
  have:=aB p ah
  simp only[bO.ok,hg,if_true]at this
  cases br:p.a with
  |h x q=>rw[br]at this;exact⟨x,q,p.d,rfl,this.1,⟨rfl,this.2.1⟩,this.2.2.imp id fun h=>h.1⟩
  |_=>rw[br]at this;exact this.elim
 obtain⟨⟨lB,aA,a2⟩,a3⟩:=JX ps s J4 aP
 obtain⟨n0,jk,gr⟩:=J0 ps (dE s ps) a3 aP
 have l8:∀u∈I.cT (ps.map (·.a)),u∈use s (.call f args):=by
  rw[ab]
  intro u hu
  simp only[use,List.mem_append]
  have key:∀(eR l2:List I),u∈I.cT (eR++l2)→u∈I.cT eR∨u∈I.cT l2:=by
   intro eR
   induction eR with
   |nil=>intro l2 h;exact .inr h
   |cons a eR ih=>
    intro l2 h
    simp only[List.cons_append,I.cT,List.mem_append]at h⊢
    rcases h with h|h
    ·exact .inl (.inl h)
    ·exact(ih l2 h).imp .inr id
  rcases key _ _ hu with hu|hu
  ·exact .inr (aw.uD u hu)
  ·refine .inl (aw.pe u ?_)
   rw[aa];exact hu
 have eG:fS (dE s ps) ps=cl (lB++n0) s:=by
  rw[iO,←a2 s (fun _ _=>rfl),gr _ (fun _ _=>rfl)]
 refine⟨oc ps,r,lB++n0,by rw[←eG];exact dt,?_,?_⟩
 ·intro m hm
  rcases List.mem_append.1 hm with hm|hm
  ·exact aA m hm
  ·exact jk m hm
 ·intro ao U ch al
  have lC:cq (I.cT (ps.map (·.a))) ao s:=U.sub l8
  have bc:cq (f.use s) ao s:=by simp only[use]at U;exact U.left
  have ai:cq (aw.kW s args) ao s:=by simp only[use]at U;exact U.right
  have aF:fS (dE ao ps) ps=cl (lB++n0) ao:=by
   rw[iO,←a2 ao lC,gr]
   rw[a2 ao lC,a2 s (fun _ _=>rfl)]
   exact cq.cl lC _
  exact⟨g,caps,ps,r,by rw[aw.dz bc];exact aa,eK,by rw[aw.xH ai];exact ab,fun p ah=>J3 (lC.sub (JW ah)) (aB p ah),aP,bb,bQ,bT,by rw[aF];exact al⟩
mutual
theorem CA {s ao:ag}:∀(d:I),cq d.U ao s→d.e2 ao=d.e2 s
 | .h x q,h=>by simp only[I.e2];rw[h x (by simp[I.U])]
 | .J x q,h=>by simp only[I.e2];rw[h x (by simp[I.U])]
 | .fn f cap,h=>by simp only[I.e2];exact CB cap (by simpa only[I.U]using h)
 | .ah _ _,_=>by simp only[I.e2]
 | .hole,_=>by simp only[I.e2]
 | .bool _,_=>by simp only[I.e2]
 | .di,_=>by simp only[I.e2]
 | .int _ _,_=>by simp only[I.e2]
 | .str _,_=>by simp only[I.e2]
 | .cw,_=>by simp only[I.e2]
 | .bu,_=>by simp only[I.e2]
 | .slice _,_=>by simp only[I.e2]
 | .aG _ _,_=>by simp only[I.e2]
 | .ref _,_=>by simp only[I.e2]
 | .bG _,_=>by simp only[I.e2]
 | .agg _,_=>by simp only[I.e2]
 | .tuple _,_=>by simp only[I.e2]
 | .b9 _,_=>by simp only[I.e2]
theorem CB {s ao:ag}:∀(ds:List I),cq (I.cT ds) ao s→I.n8 ao ds=I.n8 s ds
 |[],_=>rfl
 |d::ds,h=>by
  simp only[I.cT]at h
  simp only[I.n8];rw[CA d h.left,CB ds h.right]
end
theorem yk {s ao:ag} {us:List Nat} (h:cq (us.flatMap fun u=>u::(s u).U) ao s):ju ao us=ju s us:=by
 unfold ju
 refine List.map_congr_left fun u hu=> ?_
 rw[h u (List.mem_flatMap.2 ⟨u,hu,by simp⟩)]
theorem yl {s ao:ag}:∀(L:List (Nat×I)),(∀p∈L,cq p.2.U ao s)→mg ao L=mg s L
 |[],_=>rfl
 |p::L,h=>by
  simp only[mg];rw[CA p.2 (h p (by simp)),yl L (fun q b6=>h q (by simp[b6]))]
theorem CC:∀(L:List (Nat×I)) (s:ag),ng s L=cl (L.map fun p=>⟨.no,p.1,p.2⟩) s
 |[],s=>rfl
 |p::L,s=>by
  simp only[ng,List.map_cons]
  rw[CC L,xD]
  exact(iO [⟨.no,p.1,p.2⟩] _ s).symm
theorem J5 {s:ag} {a7:dS} {K:List Nat→I→ag→Prop} (h:lK C s a7 K):
  ∃bM av ms,K bM av (cl ms s)∧(∀m∈ms,m.x∈bM∧∀v∈m.d.U,∃u∈use s a7,v∈(s u).U)∧∀ao,cq (use s a7) ao s→∀ch:I→ag→Prop,ch av (cl ms ao)→k1 C ao a7 ch:=by
 have plain:(∃av s1,aZ C s a7=some (av,s1)∧K (cd s a7) av s1)→(∀ao (ch:I→ag→Prop) av s1,aZ C ao a7=some (av,s1)→ch av s1→k1 C ao a7 ch)→
   ∃bM av ms,K bM av (cl ms s)∧(∀m∈ms,m.x∈bM∧∀v∈m.d.U,∃u∈use s a7,v∈(s u).U)∧∀ao,cq (use s a7) ao s→∀ch:I→ag→Prop,ch av (cl ms ao)→k1 C ao a7 ch:=by
  rintro⟨av,s1,aa,ab⟩ hw
  obtain⟨ms,aF,aJ,aN⟩:=BK aa
  subst aF
  exact⟨_,av,ms,ab,fun m hm=>⟨(aJ m hm).1,fun v aD=>by rw[(aJ m hm).2]at aD;cases aD⟩,fun ao U ch al=>hw ao ch av _ (aN ao U) al⟩
 cases a7 with
 |call f args=>
  obtain⟨bM,av,ms,aA,a2,a3⟩:=yj h
  exact⟨bM,av,ms,aA,fun m hm=>⟨(a2 m hm).1,fun v aD=>by rw[(a2 m hm).2]at aD;cases aD⟩,fun ao U ch al=>a3 ao U ch al⟩
 |jQ f args u x=>
  obtain⟨bg,bw,af⟩:=h
  obtain⟨bM,av,ms,⟨aA,ym,J6⟩,a2,a3⟩:=yj af
  have e:∀s:ag,cf (cl ms s) u (.h x [])=cl (ms++[⟨.no,u,.h x []⟩]) s:=fun s=>by rw[iO,←xD]
  refine⟨u::bM,av,ms++[⟨.no,u,.h x []⟩],by rw[←e];exact J6,?_,?_⟩
  ·intro m hm
   rcases List.mem_append.1 hm with hm|hm
   ·exact⟨by simp[(a2 m hm).1],fun v aD=>by rw[(a2 m hm).2]at aD;cases aD⟩
   ·simp only[List.mem_singleton]at hm;subst hm
    refine⟨by simp,fun v aD=>⟨u,by simp[use],?_⟩⟩
    rw[bg];exact aD
  ·intro ao U ch al
   have CD:ao u=s u:=U u (by simp[use])
   have ex:ao x=s x:=U x (by simp[use])
   refine⟨by rw[CD];exact bg,by rw[ex];exact bw,a3 ao (fun y hy=>U y (by simp only[use,List.mem_cons]at hy⊢;exact .inr (.inr hy))) _ ⟨?_,?_,?_⟩⟩
   ·have:=aA;simp only[cl]at this⊢;rw[CD];exact this
   ·have:=ym;simp only[cl]at this⊢;rw[ex];exact this
   ·rw[e];exact al
 |jR f args us=>
  obtain⟨bw,af⟩:=h
  obtain⟨bM,av,ms,⟨aA,ym⟩,a2,a3⟩:=yj af
  have e:∀ao:ag,ng (cl ms ao) (ju s us)=cl (ms++(ju s us).map fun p=>⟨.no,p.1,p.2⟩) ao:=fun ao=>by rw[iO,CC]
  have fs:∀{ao:ag},cq (us.flatMap fun u=>u::(s u).U) ao s→∀p∈ju s us,cq p.2.U ao s:=fun {ao} U p ah v aD=>by
   obtain⟨u,hu,rfl⟩:=List.mem_map.1 ah
   exact U v (List.mem_flatMap.2 ⟨u,hu,by simp[aD]⟩)
  refine⟨us++bM,av,ms++(ju s us).map fun p=>⟨.no,p.1,p.2⟩,by rw[←e];exact ym,?_,?_⟩
  ·intro m hm
   rcases List.mem_append.1 hm with hm|hm
   ·exact⟨by simp[(a2 m hm).1],fun v aD=>by rw[(a2 m hm).2]at aD;cases aD⟩
   ·obtain⟨p,ah,rfl⟩:=List.mem_map.1 hm
    obtain⟨u,hu,rfl⟩:=List.mem_map.1 ah
    exact⟨List.mem_append_left _ hu,fun v aD=>⟨u,by simp only[use,List.mem_append,List.mem_flatMap];exact .inl ⟨u,hu,by simp⟩,aD⟩⟩
  ·intro ao U ch al
   simp only[use]at U
   refine⟨by rw[yk U.left,yl _ (fs U.left)];exact bw,a3 ao U.right _ ⟨?_,?_⟩⟩
   ·rw[yk U.left,yl _ (fun p ah=>(fs U.left p ah).cl ms)];exact aA
   ·rw[yk U.left,e];exact al
 |shr a7=>
  obtain⟨av,s1,aa,ab,aB,aP⟩:=h
  obtain⟨ms,aF,aJ,aN⟩:=BK aa
  subst aF
  exact⟨_,av.share,ms,aP,fun m hm=>⟨(aJ m hm).1,fun v aD=>by rw[(aJ m hm).2]at aD;cases aD⟩,fun ao U ch al=>⟨av,_,aN ao U,ab,aB,al⟩⟩
 |_=>exact plain h (fun ao ch av s1 aa ab=>⟨av,s1,aa,ab⟩)
theorem J7 {s:ag} {o:bn} {K:dG→ag→Prop} (h:k4 C s o K):∃hH ms,K hH (cl ms s)∧uR C o s hH ms:=by
 have op:∀(a6:List Nat),(∀u∈use s o.a7,u∈a6)→(∀ao,cq a6 ao s→∀ch:ag→Prop,k1 C ao o.a7 (fun av s1=>ch (fin s1 o.dst av))→iP C ao o ch)→
   lK C s o.a7 (fun bM av s1=>K (gv s a6 o.dst bM av) (fin s1 o.dst av))→∃hH ms,K hH (cl ms s)∧uR C o s hH ms:=by
  intro a6 l8 hl hw
  obtain⟨bM,av,ms,aa,ab,aB⟩:=J5 hw
  obtain⟨hU,k5,dY⟩:=Cz o.dst av
  refine⟨gv s a6 o.dst bM av,ms++hU,?_,?_,?_,uS.1,uS.2⟩
  ·rw[iO,←dY];exact aa
  ·intro ao U ch al
   refine hl ao U ch (aB ao (U.sub l8) _ ?_)
   rw[dY,←iO];exact al
  ·intro m hm
   simp only[gv,List.mem_append]
   rcases List.mem_append.1 hm with hm|hm
   ·refine⟨.inr (ab m hm).1,fun v aD=>.inl ?_⟩
    obtain⟨u,hu,ij⟩:=(ab m hm).2 v aD
    exact List.mem_flatMap.2 ⟨u,l8 u hu,ij⟩
   ·exact⟨.inl (k5 m hm).1,fun u hu=>.inr (by rw[(k5 m hm).2]at hu;exact hu)⟩
 have skip:∀t,(∀ao,cq [t] ao s→∀ch:ag→Prop,ch (fin ao o.dst (.tuple []))→iP C ao o ch)→K (gv s [t] o.dst [] (.tuple [])) (fin s o.dst (.tuple []))→∃hH ms,K hH (cl ms s)∧uR C o s hH ms:=by
  intro t hl al
  obtain⟨hU,k5,dY⟩:=Cz o.dst (.tuple [])
  refine⟨_,hU,by rw[←dY];exact al,?_,?_,uS.1,uS.2⟩
  ·intro ao U ch iu
   exact hl ao U ch (by rw[dY];exact iu)
  ·intro m hm
   simp only[gv,List.mem_append]
   exact⟨.inl (k5 m hm).1,fun u hu=>by rw[(k5 m hm).2]at hu;simp[I.U]at hu⟩
 unfold k4 at h
 split at h
 ·rename_i hg
  exact op _ (fun _ h=>h) (fun ao _ ch hw=>by unfold iP;rw[hg];exact hw) h
 ·rename_i t b hg
  split at h
  ·rename_i dK J
   split at h
   ·rename_i e
    refine op (t::use s o.a7) (fun u hu=>by simp[hu]) (fun ao U ch hw=> ?_) h
    have:ao t=s t:=U t (by simp)
    unfold iP
    rw[hg]
    simp only[this,J,if_pos e]
    exact hw
   ·rename_i e
    refine skip t (fun ao U ch al=> ?_) h
    have:ao t=s t:=U t (by simp)
    unfold iP
    rw[hg]
    simp only[this,J,if_neg e]
    exact al
  ·rename_i J
   refine skip t (fun ao U ch al=> ?_) h
   have:ao t=s t:=U t (by simp)
   unfold iP
   rw[hg]
   simp only[this,J]
   exact al
  ·exact h.elim
def od (C:bm) (ros:List bn):ag→List (Nat×dG×List eD)→Prop
 |_,[]=>True
 |s,e::r=>(∃o,ros[e.1]? =some o∧uR C o s e.2.1 e.2.2)∧od C ros (cl e.2.2 s) r
def lL (s:ag) (r:List (Nat×dG×List eD)):ag:=r.foldl (fun s e=>cl e.2.2 s) s
def kQ (a b:List Nat):Bool:=a.all fun x=> !b.contains x
theorem qw {a b:List Nat} (h:kQ a b=true):∀x∈a,x∉b:=by
 intro x ai
 simp only[kQ,List.all_eq_true]at h
 simpa using h x ai
def pq (a b:dG):Bool:=kQ b.T a.a6&&kQ b.T a.H&&kQ b.T a.T&&kQ a.T b.a6&&kQ a.T b.H&&b.c
theorem J8 {ros:List bn} {s:ag} {a b:Nat×dG×List eD} {r:List (Nat×dG×List eD)} (h:od C ros s (a::b::r)) (ay:pq a.2.1 b.2.1=true):
  od C ros s (b::a::r)∧lL s (b::a::r)=lL s (a::b::r):=by
 obtain⟨⟨J9,br,aA,a2,a3,a4⟩,⟨b9,J,jk,gr,gX,ck⟩,aC⟩:=h
 simp only[pq,Bool.and_eq_true]at ay
 obtain⟨⟨⟨⟨⟨kG,i2⟩,i3⟩,i4⟩,i5⟩,wM⟩:=ay
 have yn:∀u∈b.2.1.a6,cl a.2.2 s u=s u:=by
  intro u hu
  refine JR _ _ _ (fun m hm e=> ?_) (ck wM u hu)
  exact qw i4 m.x (a2 m hm).1 (e▸hu)
 have yo:∀u∈a.2.1.a6,cl b.2.2 s u=s u:=by
  intro u hu
  refine JS _ _ _ fun m hm=>⟨fun e=> ?_,fun ai=> ?_⟩
  ·exact qw kG m.x (gr m hm).1 (e▸hu)
  ·exact qw i2 m.x (gr m hm).1 (a3 u hu _ ai)
 have CE:cl b.2.2 (cl a.2.2 s)=cl a.2.2 (cl b.2.2 s):=by
  refine JU _ _ _ fun m hm n aQ=>⟨fun e=> ?_,fun h=> ?_,fun h=> ?_⟩
  ·exact qw i3 n.x (gr n aQ).1 (e▸(a2 m hm).1)
  ·exact qw i2 n.x (gr n aQ).1 ((a2 m hm).2 _ h)
  ·exact qw i5 m.x (a2 m hm).1 ((gr n aQ).2 _ h)
 refine⟨⟨⟨b9,J,?_,gr,?_,?_⟩,⟨J9,br,?_,a2,?_,?_⟩,?_⟩,?_⟩
 ·intro ao U K al
  exact jk ao (fun u hu=>(U u hu).trans (yn u hu).symm) K al
 ·intro u hu x ai
  exact gX u hu x (by rw[yn u hu];exact ai)
 ·intro af u hu
  have:=ck af u hu
  rwa [yn u hu]at this
 ·intro ao U K al
  exact aA ao (fun u hu=>(U u hu).trans (yo u hu)) K al
 ·intro u hu x ai
  rw[yo u hu]at ai
  exact a3 u hu x ai
 ·intro af u hu
  rw[yo u hu]
  exact a4 af u hu
 ·rw[←CE];exact aC
 ·simp only[lL,List.foldl_cons]
  rw[CE]
theorem J_ {ros:List bn} {e:Nat×dG×List eD} {post:List (Nat×dG×List eD)}:∀(pre:List (Nat×dG×List eD)) (s:ag),od C ros s (pre++e::post)→(∀a∈pre,pq a.2.1 e.2.1=true)→
  od C ros s (e::(pre++post))∧lL s (e::(pre++post))=lL s (pre++e::post):=by
 intro pre
 induction pre with
 |nil=>intro s h _;exact⟨h,rfl⟩
 |cons a pre ih=>
  intro s h ay
  obtain⟨aa,ab⟩:=h
  obtain⟨g1,g2⟩:=ih _ ab fun b J=>ay b (by simp[J])
  have af:od C ros s (a::e::(pre++post)):=⟨aa,g1⟩
  obtain⟨bg,bw⟩:=J8 af (ay a (by simp))
  refine⟨bg,bw.trans ?_⟩
  simp only[lL,List.foldl_cons,List.cons_append]at g2⊢
  exact g2
end
def sN:List (List Nat)→List (List Nat)→List (List Nat)
 |done,[]=>done
 |done,a::r=>sN (done++[a++a.flatMap fun e=>(done[e]?).getD []]) r
def qx (eS:List (List Nat)):List (List Nat):=sN [] eS
theorem Ka {eS:List (List Nat)} {l:List Nat} (aI:∀u i v,l=u++i::v→∀e∈(eS[i]?).getD [],e∈u):∀(rest pre done:List (List Nat)),eS=pre++rest→done.length=pre.length→
  (∀u i v,l=u++i::v→∀e∈(done[i]?).getD [],e∈u)→∀u i v,l=u++i::v→∀e∈((sN done rest)[i]?).getD [],e∈u:=by
 intro rest
 induction rest with
 |nil=>intro pre done _ _ h;exact h
 |cons a rest ih=>
  intro pre done CF hlen h
  simp only[sN]
  refine ih (pre++[a]) _ (by simp[CF]) (by simp[hlen]) ?_
  intro u i v hu e he
  by_cases ay:i<done.length
  ·rw[List.getElem?_append_left ay]at he
   exact h u i v hu e he
  ·rw[List.getElem?_append_right (by omega)]at he
   by_cases Bs:i-done.length=0
   ·rw[Bs]at he
    simp only[List.getElem?_cons_zero,Option.getD_some,List.mem_append,List.mem_flatMap]at he
    have CG:(eS[i]?).getD []=a:=by
     have:i=pre.length:=by omega
     rw[CF,this,List.getElem?_append_right (Nat.le_refl _)];simp
    rcases he with he|⟨eA,x8,he⟩
    ·exact aI u i v hu e (by rw[CG];exact he)
    ·have sr:=aI u i v hu eA (by rw[CG];exact x8)
     obtain⟨Bd,Be,rfl⟩:=List.append_of_mem sr
     have:=h Bd eA (Be++i::v) (by rw[hu];simp) e he
     simp[this]
   ·rw[List.getElem?_eq_none (by simp;omega)]at he
    simp at he
theorem Kb {eS:List (List Nat)} {l:List Nat} (aI:∀u i v,l=u++i::v→∀e∈(eS[i]?).getD [],e∈u):∀u i v,l=u++i::v→∀e∈((qx eS)[i]?).getD [],e∈u:=
 Ka aI eS [] [] rfl rfl fun u i v _ e he=>by simp at he
def jW (jX:List (List Nat)):Nat→List (Nat×dG)→List dG→Bool
 |_,_,[]=>true
 |j,es,f::aj=>(es.all fun e=>((jX[j]?).getD []).contains e.1||pq e.2 f)&&jW jX (j+1) ((j,f)::es) aj
def yp (jX:List (List Nat)) (a b:Nat×dG×List eD):Prop:=a.1∈(jX[b.1]?).getD []∨pq a.2.1 b.2.1=true
theorem Kc {jX:List (List Nat)}:∀(eX:List (Nat×dG×List eD)) (j:Nat) (es:List (Nat×dG)),eX.map (·.1)=(List.range eX.length).map (·+j)→jW jX j es (eX.map (·.2.1))=true→
  eX.Pairwise (yp jX)∧∀e∈es,∀b∈eX,e.1∈(jX[b.1]?).getD []∨pq e.2 b.2.1=true:=by
 intro eX
 induction eX with
 |nil=>intro j es _ _;exact⟨.nil,fun e _ b J=>by cases J⟩
 |cons a eX ih=>
  intro j es pr eE
  rw[List.length_cons,List.range_succ_eq_map,List.map_cons,List.map_cons,List.map_map]at pr
  simp only[List.cons.injEq,Nat.zero_add]at pr
  obtain⟨bE,pr⟩:=pr
  simp only[List.map_cons,jW,Bool.and_eq_true,List.all_eq_true,Bool.or_eq_true]at eE
  obtain⟨aa,ab⟩:=eE
  obtain⟨g1,g2⟩:=ih (j+1) _ (by rw[pr];congr 1;funext x;simp;omega) ab
  refine⟨.cons (fun b J=> ?_) g1,fun e he b J=> ?_⟩
  ·have:=g2 (j,a.2.1) (by simp) b J
   simp only[yp,bE];exact this
  ·rcases List.mem_cons.1 J with rfl|J
   ·rw[bE]
    exact(aa e he).imp (fun h=>by simpa using h) id
   ·exact g2 e (by simp[he]) b J
section
variable {C:bm}
theorem Kd {K:Option (List dG)→ag→Prop}:∀(os pre:List bn) (s:ag) (acc:List dG),bL C s os (some acc) K→
  ∃eX,od C (pre++os) s eX∧eX.map (·.1)=(List.range os.length).map (·+pre.length)∧K (some ((eX.map (·.2.1)).reverse++acc)) (lL s eX):=by
 intro os
 induction os with
 |nil=>intro pre s acc h;exact⟨[],trivial,rfl,h⟩
 |cons o os ih=>
  intro pre s acc h
  obtain⟨hH,ms,aa,ab⟩:=J7 h
  obtain⟨eX,g1,g2,g3⟩:=ih (pre++[o]) _ (hH::acc) aa
  refine⟨(pre.length,hH,ms)::eX,⟨⟨o,?_,ab⟩,?_⟩,?_,?_⟩
  ·rw[List.getElem?_append_right (Nat.le_refl _)];simp
  ·simpa using g1
  ·rw[List.length_cons,List.range_succ_eq_map,List.map_cons,List.map_cons,List.map_map,g2]
   simp only[List.cons.injEq,Nat.zero_add,true_and]
   congr 1;funext x;simp;omega
  ·simpa [lL]using g3
theorem Ke {ros:List bn} {jX:List (List Nat)} {K:ag→Prop}:∀(l:List Nat) (eX:List (Nat×dG×List eD)) (s:ag),od C ros s eX→eX.Pairwise (yp jX)→l.Nodup→(eX.map (·.1)).Nodup→
  (∀i,i∈l↔i∈eX.map (·.1))→(∀u i v,l=u++i::v→∀e∈(jX[i]?).getD [],e∈eX.map (·.1)→e∈u)→K (lL s eX)→ha C ros s l K:=by
 intro l
 induction l with
 |nil=>
  intro eX s _ _ _ _ hm _ al
  cases eX with
  |nil=>exact al
  |cons e eX=>have:=(hm e.1).2 (by simp);cases this
 |cons i l ih=>
  intro eX s af ah aQ iN hm bH al
  obtain⟨e,he,ay⟩:=List.mem_map.1 ((hm i).1 (by simp))
  obtain⟨pre,post,rfl⟩:=List.append_of_mem he
  have Kf:∀a∈pre,pq a.2.1 e.2.1=true:=by
   intro a br
   have aC:=(List.pairwise_append.1 ah).2.2 a br e (by simp)
   rcases aC with aC|aC
   ·rw[ay]at aC
    have:=bH [] i l rfl a.1 aC (by simp only[List.map_append,List.mem_append,List.mem_map];exact .inl ⟨a,br,rfl⟩)
    cases this
   ·exact aC
  obtain⟨g1,g2⟩:=J_ pre s af Kf
  obtain⟨⟨o,yq,Kg⟩,g3⟩:=g1
  have CH:i∉(pre++post).map (·.1):=by
   have:(pre.map (·.1)++e.1::post.map (·.1)).Nodup:=by simpa using iN
   have aT:=(List.perm_middle.nodup_iff.1 this)
   rw[List.nodup_cons]at aT
   rw[←ay];simpa using aT.1
  simp only[ha]
  rw[←ay,yq]
  refine Kg.1 s (fun _ _=>rfl) _ ?_
  rw[List.nodup_cons]at aQ
  refine ih (pre++post) _ g3 ?_ aQ.2 ?_ ?_ ?_ ?_
  ·exact ah.sublist ((List.Sublist.refl pre).append (List.sublist_cons_self e post))
  ·have:(pre.map (·.1)++e.1::post.map (·.1)).Nodup:=by simpa using iN
   have aT:=(List.perm_middle.nodup_iff.1 this)
   rw[List.nodup_cons]at aT
   simpa using aT.2
  ·intro j
   constructor
   ·intro bE
    have aa:=(hm j).1 (by simp[bE])
    simp only[List.map_append,List.map_cons,List.mem_append,List.mem_cons]at aa⊢
    rcases aa with aa|rfl|aa
    ·exact .inl aa
    ·exact(aQ.1 (ay▸bE)).elim
    ·exact .inr aa
   ·intro bE
    have aa:=(hm j).2 (by
     simp only[List.map_append,List.map_cons,List.mem_append,List.mem_cons]at bE⊢
     exact bE.imp id .inr)
    rcases List.mem_cons.1 aa with rfl|aa
    ·exact(CH bE).elim
    ·exact aa
  ·intro u j v hu x ai yr
   have aa:=bH (i::u) j v (by rw[hu];rfl) x ai (by
    simp only[List.map_append,List.map_cons,List.mem_append,List.mem_cons]at yr⊢
    exact yr.imp id .inr)
   rcases List.mem_cons.1 aa with rfl|aa
   ·exact(CH yr).elim
   ·exact aa
  ·have:lL s (e::(pre++post))=lL (cl e.2.2 s) (pre++post):=rfl
   rw[←this,g2];exact al
theorem Kh {ros:List bn} {eS:List (List Nat)} {s:ag} {K:ag→Prop} (hlen:eS.length=ros.length)
  (h:bL C s ros (some []) (fun acc s=>jW (qx eS) 0 [] (acc.getD []).reverse=true∧K s)):∀l,x7 eS l→ha C ros s l K:=by
 intro l ⟨eR,l2,xX⟩
 obtain⟨eX,g1,g2,g3,g4⟩:=Kd ros [] s [] h
 simp only[List.nil_append,List.append_nil,List.length_nil,Option.getD_some,List.reverse_reverse]at g1 g2 g3
 have aI:eX.length=ros.length:=by have:=congrArg List.length g2;simpa using this
 have pr:eX.map (·.1)=(List.range eX.length).map (·+0):=by rw[g2,aI]
 have aC:eX.map (·.1)=List.range ros.length:=by rw[g2];simp
 obtain⟨d_,_⟩:=Kc eX 0 [] pr g3
 refine Ke l eX s g1 d_ eR (by rw[aC];exact List.nodup_range) (fun i=> ?_) (fun u i v hu e he _=>Kb xX u i v hu e he) g4
 rw[aC,l2,hlen,List.mem_range]
end
def cy (C:bm) (dst:Option Nat) (os:List bn) (K:Option (List dG)→ag→Prop):Option (I×ag)→Prop
 |some (av,s1)=>bL C (fin s1 dst av) os none K
 |none=>False
def cz (C:bm) (l:List (Nat×I)) (a6 bM:List Nat) (dst:Option Nat) (os:List bn) (a:List dG) (K:Option (List dG)→ag→Prop):Option (I×ag)→Prop
 |some (av,s1)=>bL C (fin s1 dst av) os (some (gv (R l) a6 dst bM av::a)) K
 |none=>False
def bF (C:bm) (l:List (Nat×I)) (dst:Option Nat) (a7:dS) (t:Nat) (b:Bool) (os:List bn) (acc:Option (List dG)) (K:Option (List dG)→ag→Prop):I→Prop
 | .bool dK=>if dK=b then lK C (R l) a7 (fun bM av s1=>bL C (fin s1 dst av) os (nk acc (gv (R l) (t::use (R l) a7) dst bM av)) K)else bL C (fin (R l) dst (.tuple [])) os (nk acc (gv (R l) [t] dst [] (.tuple []))) K
 | .tuple []=>bL C (fin (R l) dst (.tuple [])) os (nk acc (gv (R l) [t] dst [] (.tuple []))) K
 |_=>False
section
variable {C:bm} {l:List (Nat×I)} {os:List bn} {K:Option (List dG)→ag→Prop} {dst:Option Nat} {a:List dG} {acc:Option (List dG)}
theorem uT {s:ag} {a7:dS} {K:List Nat→I→ag→Prop} (aQ:a7.pn=false):lK C s a7 K=(match aZ C s a7 with
  |some (av,s1)=>K (cd s a7) av s1
  |none=>False):=by
 apply propext
 constructor
 ·intro h
  cases a7<;>first
   |(simp[dS.pn]at aQ;done)
   |(obtain⟨av,s1,aa,ab⟩:=h;rw[aa];exact ab)
 ·intro h
  split at h
  ·rename_i av s1 he
   cases a7<;>first
    |(simp[dS.pn]at aQ;done)
    |exact⟨av,s1,he,h⟩
  ·exact h.elim
theorem CI:bL C (R l) [] acc K=K acc (R l):=rfl
theorem gB {a7:dS} (aQ:a7.pn=false):bL C (R l) (⟨dst,a7,none⟩::os) none K=cy C dst os K (aZ C (R l) a7):=by
 simp only[bL,k4,nk]
 rw[uT aQ]
 cases aZ C (R l) a7 with
 |none=>rfl
 |some p=>rfl
theorem gC {a7:dS} (aQ:a7.pn=false):bL C (R l) (⟨dst,a7,none⟩::os) (some a) K=cz C l (use (R l) a7) (cd (R l) a7) dst os a K (aZ C (R l) a7):=by
 simp only[bL,k4,nk]
 rw[uT aQ]
 cases aZ C (R l) a7 with
 |none=>rfl
 |some p=>rfl
theorem CJ {a7:dS} {t:Nat} {b:Bool}:bL C (R l) (⟨dst,a7,some (t,b)⟩::os) acc K=bF C l dst a7 t b os acc K (R l t):=by
 simp only[bL,k4]
 generalize R l t=v
 cases v<;>first|rfl|(rename_i vs;cases vs<;>rfl)
theorem dH {a7:dS} {t:Nat} {b:Bool} (aQ:a7.pn=false):bF C l dst a7 t b os none K (.bool b)=cy C dst os K (aZ C (R l) a7):=by
 simp only[bF,if_true]
 rw[uT aQ]
 cases aZ C (R l) a7 with
 |none=>rfl
 |some p=>rfl
theorem dI {a7:dS} {t:Nat} {b:Bool} (aQ:a7.pn=false):bF C l dst a7 t b os (some a) K (.bool b)=cz C l (t::use (R l) a7) (cd (R l) a7) dst os a K (aZ C (R l) a7):=by
 simp only[bF,if_true]
 rw[uT aQ]
 cases aZ C (R l) a7 with
 |none=>rfl
 |some p=>rfl
theorem Ki {a7:dS} {t:Nat}:bF C l dst a7 t true os none K (.bool false)=bL C (fin (R l) dst (.tuple [])) os none K∧bF C l dst a7 t false os none K (.bool true)=bL C (fin (R l) dst (.tuple [])) os none K∧
  (∀b,bF C l dst a7 t b os none K (.tuple [])=bL C (fin (R l) dst (.tuple [])) os none K):=⟨rfl,rfl,fun _=>rfl⟩
theorem Kj {a7:dS} {t:Nat}:bF C l dst a7 t true os (some a) K (.bool false)=bL C (fin (R l) dst (.tuple [])) os (some (gv (R l) [t] dst [] (.tuple [])::a)) K∧
  bF C l dst a7 t false os (some a) K (.bool true)=bL C (fin (R l) dst (.tuple [])) os (some (gv (R l) [t] dst [] (.tuple [])::a)) K∧
  (∀b,bF C l dst a7 t b os (some a) K (.tuple [])=bL C (fin (R l) dst (.tuple [])) os (some (gv (R l) [t] dst [] (.tuple [])::a)) K):=⟨rfl,rfl,fun _=>rfl⟩
theorem Kk (av:I) (s1:ag):cy C dst os K (some (av,s1))=bL C (fin s1 dst av) os none K:=rfl
theorem Kl (a6 bM:List Nat) (av:I) (s1:ag):cz C l a6 bM dst os a K (some (av,s1))=bL C (fin s1 dst av) os (some (gv (R l) a6 dst bM av::a)) K:=rfl
def gD (s:ag):I→Option (I×ag)
 | .h y q=>bM s (.h y q)
 |d=>some (d,s)
def oe (s:ag):I→I→I→Option (I×ag)
 | .bool dK,x,y=>some (if dK then x else y,s)
 |_,_,_=>none
def bS (s:ag):Option I→Option (I×ag)
 |some d=>some (d,s)
 |none=>none
def hr:Option ag→Option (I×ag)
 |some s1=>some (.hole,s1)
 |none=>none
def gw (s:ag):List aw→List I
 |[]=>[]
 |x::xs=>az s x::gw s xs
def hs (s:ag):List (Nat×aw)→List (Nat×I)
 |[]=>[]
 |(k,x)::xs=>(k,az s x)::hs s xs
def iA (s:ag):Option aw→Option I
 |none=>none
 |some x=>some (az s x)
theorem kq (s:ag) (x:Option I):(x.map fun d=>(d,s))=bS s x:=by cases x<;>rfl
theorem Km (x:Option ag):(x.map fun s1=>(I.hole,s1))=hr x:=by cases x<;>rfl
theorem uU (s:ag):∀xs:List aw,xs.map (az s)=gw s xs
 |[]=>rfl
 |x::xs=>by simp only[List.map_cons,gw,uU s xs]
theorem ys (s:ag):∀xs:List (Nat×aw),(xs.map fun p=>(p.1,az s p.2))=hs s xs
 |[]=>rfl
 |(k,x)::xs=>by simp only[List.map_cons,hs,ys s xs]
theorem Kn (s:ag) (x:Option aw):x.map (az s)=iA s x:=by cases x<;>rfl
theorem qy (x:aw):aZ C (R l) (.cg x)=some (az (R l) x,R l):=by
 rfl
theorem qz (x:aw):aZ C (R l) (.df x)=gD (R l) (az (R l) x):=by
 simp only[aZ];cases az (R l) x<;>rfl
theorem qA (c x y:aw):aZ C (R l) (.pick c x y)=oe (R l) (az (R l) c) (az (R l) x) (az (R l) y):=by
 simp only[aZ];cases az (R l) c<;>first|rfl|(rename_i b;cases b<;>rfl)
theorem qB (T:TypeId):aZ C (R l) (.e1 T)=bS (R l) (e1 C T):=by
 simp only[aZ,kq]
theorem qC (T:TypeId) (x:aw):aZ C (R l) (.dB T x)=dB (R l) (az (R l) x):=by
 rfl
theorem qD (T:TypeId) (ps:List (Nat×aw)):aZ C (R l) (.dP T ps)=dP C (R l) T (hs (R l) ps):=by
 simp only[aZ,ys]
theorem qE (T:TypeId) (n:Nat) (ps:List (Nat×aw)):aZ C (R l) (.cF T n ps)=cF C (R l) T n (hs (R l) ps):=by
 simp only[aZ,ys]
theorem qF (T:TypeId) (x:aw):aZ C (R l) (.c7 T x)=bS (R l) (c7 C (R l) T (az (R l) x)):=by
 simp only[aZ,kq]
theorem qG (T:TypeId) (x y:aw):aZ C (R l) (.et T x y)=hr (et C (R l) T (az (R l) x) (az (R l) y)):=by
 simp only[aZ,Km]
theorem qH (x:aw):aZ C (R l) (.ek x)=bS (R l) (ek (R l) (az (R l) x)):=by
 simp only[aZ,kq]
theorem qI (op:BinOp) (T:TypeId) (x y:aw):aZ C (R l) (.bC op T x y)=bS (R l) (bC C (R l) op T (az (R l) x) (az (R l) y)):=by
 simp only[aZ,kq]
theorem qJ (op:UnOp) (x:aw):aZ C (R l) (.un op x)=bS (R l) (un op (az (R l) x)):=by
 simp only[aZ,kq]
theorem qK (A B:TypeId) (x:aw):aZ C (R l) (.dR A B x)=bS (R l) (dR C (R l) A B (az (R l) x)):=by
 simp only[aZ,kq]
theorem qL (f:FuncId) (cs:List aw):aZ C (R l) (.hE f cs)=some (.fn f (gw (R l) cs),R l):=by
 simp only[aZ,uU]
theorem qM (T:TypeId) (x y:aw):aZ C (R l) (.en T x y)=bS (R l) (en C T (az (R l) x) (az (R l) y)):=by
 simp only[aZ,kq]
theorem qN (T:TypeId) (x:aw) (b5 ay:Option aw):aZ C (R l) (.cD T x b5 ay)=cD C (R l) T (az (R l) x) (iA (R l) b5) (iA (R l) ay):=by
 simp only[aZ,Kn]
theorem qO (T:TypeId) (x:aw) (k:Nat):aZ C (R l) (.dX T x k)=bS (R l) (dX C (R l) T (az (R l) x) k):=by
 simp only[aZ,kq]
theorem qP (T:TypeId) (x y:aw):aZ C (R l) (.ej T x y)=bS (R l) (ej C (R l) T (az (R l) x) (az (R l) y)):=by
 simp only[aZ,kq]
theorem qQ (T:TypeId) (x y:aw):aZ C (R l) (.idx T x y)=bS (R l) (idx C T (az (R l) x) (az (R l) y)):=by
 simp only[aZ,kq]
theorem qR (x:aw) (k:Nat):aZ C (R l) (.ex x k)=bS (R l) (ex (R l) (az (R l) x) k):=by
 simp only[aZ,kq]
theorem qS (T:TypeId) (x:aw):aZ C (R l) (.len T x)=bS (R l) (jm C (R l) T (az (R l) x)):=by
 simp only[aZ,kq]
theorem qT (T a6:TypeId) (x y:aw):aZ C (R l) (.app T a6 x y)=jq C (R l) T a6 (az (R l) x) (az (R l) y):=by
 rfl
theorem Ko:
  (∀(x:aw),bL C (R l) (⟨dst,.cg x,none⟩::os) none K=cy C dst os K (some (az (R l) x,R l)))∧
  (∀(x:aw),bL C (R l) (⟨dst,.df x,none⟩::os) none K=cy C dst os K (gD (R l) (az (R l) x)))∧
  (∀(c x y:aw),bL C (R l) (⟨dst,.pick c x y,none⟩::os) none K=cy C dst os K (oe (R l) (az (R l) c) (az (R l) x) (az (R l) y)))∧
  (∀(T:TypeId),bL C (R l) (⟨dst,.e1 T,none⟩::os) none K=cy C dst os K (bS (R l) (e1 C T)))∧
  (∀(T:TypeId) (x:aw),bL C (R l) (⟨dst,.dB T x,none⟩::os) none K=cy C dst os K (dB (R l) (az (R l) x)))∧
  (∀(T:TypeId) (ps:List (Nat×aw)),bL C (R l) (⟨dst,.dP T ps,none⟩::os) none K=cy C dst os K (dP C (R l) T (hs (R l) ps)))∧
  (∀(T:TypeId) (n:Nat) (ps:List (Nat×aw)),bL C (R l) (⟨dst,.cF T n ps,none⟩::os) none K=cy C dst os K (cF C (R l) T n (hs (R l) ps)))∧
  (∀(T:TypeId) (x:aw),bL C (R l) (⟨dst,.c7 T x,none⟩::os) none K=cy C dst os K (bS (R l) (c7 C (R l) T (az (R l) x))))∧
  (∀(T:TypeId) (x y:aw),bL C (R l) (⟨dst,.et T x y,none⟩::os) none K=cy C dst os K (hr (et C (R l) T (az (R l) x) (az (R l) y))))∧
  (∀(x:aw),bL C (R l) (⟨dst,.ek x,none⟩::os) none K=cy C dst os K (bS (R l) (ek (R l) (az (R l) x))))∧
  (∀(op:BinOp) (T:TypeId) (x y:aw),bL C (R l) (⟨dst,.bC op T x y,none⟩::os) none K=cy C dst os K (bS (R l) (bC C (R l) op T (az (R l) x) (az (R l) y))))∧
  (∀(op:UnOp) (x:aw),bL C (R l) (⟨dst,.un op x,none⟩::os) none K=cy C dst os K (bS (R l) (un op (az (R l) x))))∧
  (∀(A B:TypeId) (x:aw),bL C (R l) (⟨dst,.dR A B x,none⟩::os) none K=cy C dst os K (bS (R l) (dR C (R l) A B (az (R l) x))))∧
  (∀(f:FuncId) (cs:List aw),bL C (R l) (⟨dst,.hE f cs,none⟩::os) none K=cy C dst os K (some (.fn f (gw (R l) cs),R l)))∧
  (∀(T:TypeId) (x y:aw),bL C (R l) (⟨dst,.en T x y,none⟩::os) none K=cy C dst os K (bS (R l) (en C T (az (R l) x) (az (R l) y))))∧
  (∀(T:TypeId) (x:aw) (b5 ay:Option aw),bL C (R l) (⟨dst,.cD T x b5 ay,none⟩::os) none K=cy C dst os K (cD C (R l) T (az (R l) x) (iA (R l) b5) (iA (R l) ay)))∧
  (∀(T:TypeId) (x:aw) (k:Nat),bL C (R l) (⟨dst,.dX T x k,none⟩::os) none K=cy C dst os K (bS (R l) (dX C (R l) T (az (R l) x) k)))∧
  (∀(T:TypeId) (x y:aw),bL C (R l) (⟨dst,.ej T x y,none⟩::os) none K=cy C dst os K (bS (R l) (ej C (R l) T (az (R l) x) (az (R l) y))))∧
  (∀(T:TypeId) (x y:aw),bL C (R l) (⟨dst,.idx T x y,none⟩::os) none K=cy C dst os K (bS (R l) (idx C T (az (R l) x) (az (R l) y))))∧
  (∀(x:aw) (k:Nat),bL C (R l) (⟨dst,.ex x k,none⟩::os) none K=cy C dst os K (bS (R l) (ex (R l) (az (R l) x) k)))∧
  (∀(T:TypeId) (x:aw),bL C (R l) (⟨dst,.len T x,none⟩::os) none K=cy C dst os K (bS (R l) (jm C (R l) T (az (R l) x))))∧
  (∀(T a6:TypeId) (x y:aw),bL C (R l) (⟨dst,.app T a6 x y,none⟩::os) none K=cy C dst os K (jq C (R l) T a6 (az (R l) x) (az (R l) y))):=
 ⟨fun x=>(gB rfl).trans (congrArg _ (qy x)),fun x=>(gB rfl).trans (congrArg _ (qz x)),fun c x y=>(gB rfl).trans (congrArg _ (qA c x y)),fun T=>(gB rfl).trans (congrArg _ (qB T)),fun T x=>(gB rfl).trans (congrArg _ (qC T x)),fun T ps=>(gB rfl).trans (congrArg _ (qD T ps)),fun T n ps=>(gB rfl).trans (congrArg _ (qE T n ps)),fun T x=>(gB rfl).trans (congrArg _ (qF T x)),fun T x y=>(gB rfl).trans (congrArg _ (qG T x y)),fun x=>(gB rfl).trans (congrArg _ (qH x)),fun op T x y=>(gB rfl).trans (congrArg _ (qI op T x y)),fun op x=>(gB rfl).trans (congrArg _ (qJ op x)),fun A B x=>(gB rfl).trans (congrArg _ (qK A B x)),fun f cs=>(gB rfl).trans (congrArg _ (qL f cs)),fun T x y=>(gB rfl).trans (congrArg _ (qM T x y)),fun T x b5 ay=>(gB rfl).trans (congrArg _ (qN T x b5 ay)),fun T x k=>(gB rfl).trans (congrArg _ (qO T x k)),fun T x y=>(gB rfl).trans (congrArg _ (qP T x y)),fun T x y=>(gB rfl).trans (congrArg _ (qQ T x y)),fun x k=>(gB rfl).trans (congrArg _ (qR x k)),fun T x=>(gB rfl).trans (congrArg _ (qS T x)),fun T a6 x y=>(gB rfl).trans (congrArg _ (qT T a6 x y))⟩
theorem Kp:
  (∀(x:aw),bL C (R l) (⟨dst,.cg x,none⟩::os) (some a) K=cz C l (use (R l) (.cg x)) (cd (R l) (.cg x)) dst os a K (some (az (R l) x,R l)))∧
  (∀(x:aw),bL C (R l) (⟨dst,.df x,none⟩::os) (some a) K=cz C l (use (R l) (.df x)) (cd (R l) (.df x)) dst os a K (gD (R l) (az (R l) x)))∧
  (∀(c x y:aw),bL C (R l) (⟨dst,.pick c x y,none⟩::os) (some a) K=cz C l (use (R l) (.pick c x y)) (cd (R l) (.pick c x y)) dst os a K (oe (R l) (az (R l) c) (az (R l) x) (az (R l) y)))∧
  (∀(T:TypeId),bL C (R l) (⟨dst,.e1 T,none⟩::os) (some a) K=cz C l (use (R l) (.e1 T)) (cd (R l) (.e1 T)) dst os a K (bS (R l) (e1 C T)))∧
  (∀(T:TypeId) (x:aw),bL C (R l) (⟨dst,.dB T x,none⟩::os) (some a) K=cz C l (use (R l) (.dB T x)) (cd (R l) (.dB T x)) dst os a K (dB (R l) (az (R l) x)))∧
  (∀(T:TypeId) (ps:List (Nat×aw)),bL C (R l) (⟨dst,.dP T ps,none⟩::os) (some a) K=cz C l (use (R l) (.dP T ps)) (cd (R l) (.dP T ps)) dst os a K (dP C (R l) T (hs (R l) ps)))∧
  (∀(T:TypeId) (n:Nat) (ps:List (Nat×aw)),bL C (R l) (⟨dst,.cF T n ps,none⟩::os) (some a) K=cz C l (use (R l) (.cF T n ps)) (cd (R l) (.cF T n ps)) dst os a K (cF C (R l) T n (hs (R l) ps)))∧
  (∀(T:TypeId) (x:aw),bL C (R l) (⟨dst,.c7 T x,none⟩::os) (some a) K=cz C l (use (R l) (.c7 T x)) (cd (R l) (.c7 T x)) dst os a K (bS (R l) (c7 C (R l) T (az (R l) x))))∧
  (∀(T:TypeId) (x y:aw),bL C (R l) (⟨dst,.et T x y,none⟩::os) (some a) K=cz C l (use (R l) (.et T x y)) (cd (R l) (.et T x y)) dst os a K (hr (et C (R l) T (az (R l) x) (az (R l) y))))∧
  (∀(x:aw),bL C (R l) (⟨dst,.ek x,none⟩::os) (some a) K=cz C l (use (R l) (.ek x)) (cd (R l) (.ek x)) dst os a K (bS (R l) (ek (R l) (az (R l) x))))∧
  (∀(op:BinOp) (T:TypeId) (x y:aw),bL C (R l) (⟨dst,.bC op T x y,none⟩::os) (some a) K=cz C l (use (R l) (.bC op T x y)) (cd (R l) (.bC op T x y)) dst os a K (bS (R l) (bC C (R l) op T (az (R l) x) (az (R l) y))))∧
  (∀(op:UnOp) (x:aw),bL C (R l) (⟨dst,.un op x,none⟩::os) (some a) K=cz C l (use (R l) (.un op x)) (cd (R l) (.un op x)) dst os a K (bS (R l) (un op (az (R l) x))))∧
  (∀(A B:TypeId) (x:aw),bL C (R l) (⟨dst,.dR A B x,none⟩::os) (some a) K=cz C l (use (R l) (.dR A B x)) (cd (R l) (.dR A B x)) dst os a K (bS (R l) (dR C (R l) A B (az (R l) x))))∧
  (∀(f:FuncId) (cs:List aw),bL C (R l) (⟨dst,.hE f cs,none⟩::os) (some a) K=cz C l (use (R l) (.hE f cs)) (cd (R l) (.hE f cs)) dst os a K (some (.fn f (gw (R l) cs),R l)))∧
  (∀(T:TypeId) (x y:aw),bL C (R l) (⟨dst,.en T x y,none⟩::os) (some a) K=cz C l (use (R l) (.en T x y)) (cd (R l) (.en T x y)) dst os a K (bS (R l) (en C T (az (R l) x) (az (R l) y))))∧
  (∀(T:TypeId) (x:aw) (b5 ay:Option aw),bL C (R l) (⟨dst,.cD T x b5 ay,none⟩::os) (some a) K=cz C l (use (R l) (.cD T x b5 ay)) (cd (R l) (.cD T x b5 ay)) dst os a K (cD C (R l) T (az (R l) x) (iA (R l) b5) (iA (R l) ay)))∧
  (∀(T:TypeId) (x:aw) (k:Nat),bL C (R l) (⟨dst,.dX T x k,none⟩::os) (some a) K=cz C l (use (R l) (.dX T x k)) (cd (R l) (.dX T x k)) dst os a K (bS (R l) (dX C (R l) T (az (R l) x) k)))∧
  (∀(T:TypeId) (x y:aw),bL C (R l) (⟨dst,.ej T x y,none⟩::os) (some a) K=cz C l (use (R l) (.ej T x y)) (cd (R l) (.ej T x y)) dst os a K (bS (R l) (ej C (R l) T (az (R l) x) (az (R l) y))))∧
  (∀(T:TypeId) (x y:aw),bL C (R l) (⟨dst,.idx T x y,none⟩::os) (some a) K=cz C l (use (R l) (.idx T x y)) (cd (R l) (.idx T x y)) dst os a K (bS (R l) (idx C T (az (R l) x) (az (R l) y))))∧
  (∀(x:aw) (k:Nat),bL C (R l) (⟨dst,.ex x k,none⟩::os) (some a) K=cz C l (use (R l) (.ex x k)) (cd (R l) (.ex x k)) dst os a K (bS (R l) (ex (R l) (az (R l) x) k)))∧
  (∀(T:TypeId) (x:aw),bL C (R l) (⟨dst,.len T x,none⟩::os) (some a) K=cz C l (use (R l) (.len T x)) (cd (R l) (.len T x)) dst os a K (bS (R l) (jm C (R l) T (az (R l) x))))∧
  (∀(T a6:TypeId) (x y:aw),bL C (R l) (⟨dst,.app T a6 x y,none⟩::os) (some a) K=cz C l (use (R l) (.app T a6 x y)) (cd (R l) (.app T a6 x y)) dst os a K (jq C (R l) T a6 (az (R l) x) (az (R l) y))):=
 ⟨fun x=>(gC rfl).trans (congrArg _ (qy x)),fun x=>(gC rfl).trans (congrArg _ (qz x)),fun c x y=>(gC rfl).trans (congrArg _ (qA c x y)),fun T=>(gC rfl).trans (congrArg _ (qB T)),fun T x=>(gC rfl).trans (congrArg _ (qC T x)),fun T ps=>(gC rfl).trans (congrArg _ (qD T ps)),fun T n ps=>(gC rfl).trans (congrArg _ (qE T n ps)),fun T x=>(gC rfl).trans (congrArg _ (qF T x)),fun T x y=>(gC rfl).trans (congrArg _ (qG T x y)),fun x=>(gC rfl).trans (congrArg _ (qH x)),fun op T x y=>(gC rfl).trans (congrArg _ (qI op T x y)),fun op x=>(gC rfl).trans (congrArg _ (qJ op x)),fun A B x=>(gC rfl).trans (congrArg _ (qK A B x)),fun f cs=>(gC rfl).trans (congrArg _ (qL f cs)),fun T x y=>(gC rfl).trans (congrArg _ (qM T x y)),fun T x b5 ay=>(gC rfl).trans (congrArg _ (qN T x b5 ay)),fun T x k=>(gC rfl).trans (congrArg _ (qO T x k)),fun T x y=>(gC rfl).trans (congrArg _ (qP T x y)),fun T x y=>(gC rfl).trans (congrArg _ (qQ T x y)),fun x k=>(gC rfl).trans (congrArg _ (qR x k)),fun T x=>(gC rfl).trans (congrArg _ (qS T x)),fun T a6 x y=>(gC rfl).trans (congrArg _ (qT T a6 x y))⟩
theorem Kq:
  (∀(x:aw) (t:Nat),bF C l dst (.cg x) t true os none K (.bool true)=cy C dst os K (some (az (R l) x,R l)))∧
  (∀(x:aw) (t:Nat),bF C l dst (.cg x) t false os none K (.bool false)=cy C dst os K (some (az (R l) x,R l)))∧
  (∀(x:aw) (t:Nat),bF C l dst (.df x) t true os none K (.bool true)=cy C dst os K (gD (R l) (az (R l) x)))∧
  (∀(x:aw) (t:Nat),bF C l dst (.df x) t false os none K (.bool false)=cy C dst os K (gD (R l) (az (R l) x)))∧
  (∀(c x y:aw) (t:Nat),bF C l dst (.pick c x y) t true os none K (.bool true)=cy C dst os K (oe (R l) (az (R l) c) (az (R l) x) (az (R l) y)))∧
  (∀(c x y:aw) (t:Nat),bF C l dst (.pick c x y) t false os none K (.bool false)=cy C dst os K (oe (R l) (az (R l) c) (az (R l) x) (az (R l) y)))∧
  (∀(T:TypeId) (t:Nat),bF C l dst (.e1 T) t true os none K (.bool true)=cy C dst os K (bS (R l) (e1 C T)))∧
  (∀(T:TypeId) (t:Nat),bF C l dst (.e1 T) t false os none K (.bool false)=cy C dst os K (bS (R l) (e1 C T)))∧
  (∀(T:TypeId) (x:aw) (t:Nat),bF C l dst (.dB T x) t true os none K (.bool true)=cy C dst os K (dB (R l) (az (R l) x)))∧
  (∀(T:TypeId) (x:aw) (t:Nat),bF C l dst (.dB T x) t false os none K (.bool false)=cy C dst os K (dB (R l) (az (R l) x)))∧
  (∀(T:TypeId) (ps:List (Nat×aw)) (t:Nat),bF C l dst (.dP T ps) t true os none K (.bool true)=cy C dst os K (dP C (R l) T (hs (R l) ps)))∧
  (∀(T:TypeId) (ps:List (Nat×aw)) (t:Nat),bF C l dst (.dP T ps) t false os none K (.bool false)=cy C dst os K (dP C (R l) T (hs (R l) ps)))∧
  (∀(T:TypeId) (n:Nat) (ps:List (Nat×aw)) (t:Nat),bF C l dst (.cF T n ps) t true os none K (.bool true)=cy C dst os K (cF C (R l) T n (hs (R l) ps)))∧
  (∀(T:TypeId) (n:Nat) (ps:List (Nat×aw)) (t:Nat),bF C l dst (.cF T n ps) t false os none K (.bool false)=cy C dst os K (cF C (R l) T n (hs (R l) ps)))∧
  (∀(T:TypeId) (x:aw) (t:Nat),bF C l dst (.c7 T x) t true os none K (.bool true)=cy C dst os K (bS (R l) (c7 C (R l) T (az (R l) x))))∧
  (∀(T:TypeId) (x:aw) (t:Nat),bF C l dst (.c7 T x) t false os none K (.bool false)=cy C dst os K (bS (R l) (c7 C (R l) T (az (R l) x))))∧
  (∀(T:TypeId) (x y:aw) (t:Nat),bF C l dst (.et T x y) t true os none K (.bool true)=cy C dst os K (hr (et C (R l) T (az (R l) x) (az (R l) y))))∧
  (∀(T:TypeId) (x y:aw) (t:Nat),bF C l dst (.et T x y) t false os none K (.bool false)=cy C dst os K (hr (et C (R l) T (az (R l) x) (az (R l) y))))∧
  (∀(x:aw) (t:Nat),bF C l dst (.ek x) t true os none K (.bool true)=cy C dst os K (bS (R l) (ek (R l) (az (R l) x))))∧
  (∀(x:aw) (t:Nat),bF C l dst (.ek x) t false os none K (.bool false)=cy C dst os K (bS (R l) (ek (R l) (az (R l) x))))∧
  (∀(op:BinOp) (T:TypeId) (x y:aw) (t:Nat),bF C l dst (.bC op T x y) t true os none K (.bool true)=cy C dst os K (bS (R l) (bC C (R l) op T (az (R l) x) (az (R l) y))))∧
  (∀(op:BinOp) (T:TypeId) (x y:aw) (t:Nat),bF C l dst (.bC op T x y) t false os none K (.bool false)=cy C dst os K (bS (R l) (bC C (R l) op T (az (R l) x) (az (R l) y))))∧
  (∀(op:UnOp) (x:aw) (t:Nat),bF C l dst (.un op x) t true os none K (.bool true)=cy C dst os K (bS (R l) (un op (az (R l) x))))∧
  (∀(op:UnOp) (x:aw) (t:Nat),bF C l dst (.un op x) t false os none K (.bool false)=cy C dst os K (bS (R l) (un op (az (R l) x))))∧
  (∀(A B:TypeId) (x:aw) (t:Nat),bF C l dst (.dR A B x) t true os none K (.bool true)=cy C dst os K (bS (R l) (dR C (R l) A B (az (R l) x))))∧
  (∀(A B:TypeId) (x:aw) (t:Nat),bF C l dst (.dR A B x) t false os none K (.bool false)=cy C dst os K (bS (R l) (dR C (R l) A B (az (R l) x))))∧
  (∀(f:FuncId) (cs:List aw) (t:Nat),bF C l dst (.hE f cs) t true os none K (.bool true)=cy C dst os K (some (.fn f (gw (R l) cs),R l)))∧
  (∀(f:FuncId) (cs:List aw) (t:Nat),bF C l dst (.hE f cs) t false os none K (.bool false)=cy C dst os K (some (.fn f (gw (R l) cs),R l)))∧
  (∀(T:TypeId) (x y:aw) (t:Nat),bF C l dst (.en T x y) t true os none K (.bool true)=cy C dst os K (bS (R l) (en C T (az (R l) x) (az (R l) y))))∧
  (∀(T:TypeId) (x y:aw) (t:Nat),bF C l dst (.en T x y) t false os none K (.bool false)=cy C dst os K (bS (R l) (en C T (az (R l) x) (az (R l) y))))∧
  (∀(T:TypeId) (x:aw) (b5 ay:Option aw) (t:Nat),bF C l dst (.cD T x b5 ay) t true os none K (.bool true)=cy C dst os K (cD C (R l) T (az (R l) x) (iA (R l) b5) (iA (R l) ay)))∧
  (∀(T:TypeId) (x:aw) (b5 ay:Option aw) (t:Nat),bF C l dst (.cD T x b5 ay) t false os none K (.bool false)=cy C dst os K (cD C (R l) T (az (R l) x) (iA (R l) b5) (iA (R l) ay)))∧
  (∀(T:TypeId) (x:aw) (k:Nat) (t:Nat),bF C l dst (.dX T x k) t true os none K (.bool true)=cy C dst os K (bS (R l) (dX C (R l) T (az (R l) x) k)))∧
  (∀(T:TypeId) (x:aw) (k:Nat) (t:Nat),bF C l dst (.dX T x k) t false os none K (.bool false)=cy C dst os K (bS (R l) (dX C (R l) T (az (R l) x) k)))∧
  (∀(T:TypeId) (x y:aw) (t:Nat),bF C l dst (.ej T x y) t true os none K (.bool true)=cy C dst os K (bS (R l) (ej C (R l) T (az (R l) x) (az (R l) y))))∧
  (∀(T:TypeId) (x y:aw) (t:Nat),bF C l dst (.ej T x y) t false os none K (.bool false)=cy C dst os K (bS (R l) (ej C (R l) T (az (R l) x) (az (R l) y))))∧
  (∀(T:TypeId) (x y:aw) (t:Nat),bF C l dst (.idx T x y) t true os none K (.bool true)=cy C dst os K (bS (R l) (idx C T (az (R l) x) (az (R l) y))))∧
  (∀(T:TypeId) (x y:aw) (t:Nat),bF C l dst (.idx T x y) t false os none K (.bool false)=cy C dst os K (bS (R l) (idx C T (az (R l) x) (az (R l) y))))∧
  (∀(x:aw) (k:Nat) (t:Nat),bF C l dst (.ex x k) t true os none K (.bool true)=cy C dst os K (bS (R l) (ex (R l) (az (R l) x) k)))∧
  (∀(x:aw) (k:Nat) (t:Nat),bF C l dst (.ex x k) t false os none K (.bool false)=cy C dst os K (bS (R l) (ex (R l) (az (R l) x) k)))∧
  (∀(T:TypeId) (x:aw) (t:Nat),bF C l dst (.len T x) t true os none K (.bool true)=cy C dst os K (bS (R l) (jm C (R l) T (az (R l) x))))∧
  (∀(T:TypeId) (x:aw) (t:Nat),bF C l dst (.len T x) t false os none K (.bool false)=cy C dst os K (bS (R l) (jm C (R l) T (az (R l) x))))∧
  (∀(T a6:TypeId) (x y:aw) (t:Nat),bF C l dst (.app T a6 x y) t true os none K (.bool true)=cy C dst os K (jq C (R l) T a6 (az (R l) x) (az (R l) y)))∧
  (∀(T a6:TypeId) (x y:aw) (t:Nat),bF C l dst (.app T a6 x y) t false os none K (.bool false)=cy C dst os K (jq C (R l) T a6 (az (R l) x) (az (R l) y))):=
 ⟨fun x _=>(dH rfl).trans (congrArg _ (qy x)),fun x _=>(dH rfl).trans (congrArg _ (qy x)),fun x _=>(dH rfl).trans (congrArg _ (qz x)),fun x _=>(dH rfl).trans (congrArg _ (qz x)),fun c x y _=>(dH rfl).trans (congrArg _ (qA c x y)),fun c x y _=>(dH rfl).trans (congrArg _ (qA c x y)),fun T _=>(dH rfl).trans (congrArg _ (qB T)),fun T _=>(dH rfl).trans (congrArg _ (qB T)),fun T x _=>(dH rfl).trans (congrArg _ (qC T x)),fun T x _=>(dH rfl).trans (congrArg _ (qC T x)),fun T ps _=>(dH rfl).trans (congrArg _ (qD T ps)),fun T ps _=>(dH rfl).trans (congrArg _ (qD T ps)),fun T n ps _=>(dH rfl).trans (congrArg _ (qE T n ps)),fun T n ps _=>(dH rfl).trans (congrArg _ (qE T n ps)),fun T x _=>(dH rfl).trans (congrArg _ (qF T x)),fun T x _=>(dH rfl).trans (congrArg _ (qF T x)),fun T x y _=>(dH rfl).trans (congrArg _ (qG T x y)),fun T x y _=>(dH rfl).trans (congrArg _ (qG T x y)),fun x _=>(dH rfl).trans (congrArg _ (qH x)),fun x _=>(dH rfl).trans (congrArg _ (qH x)),fun op T x y _=>(dH rfl).trans (congrArg _ (qI op T x y)),fun op T x y _=>(dH rfl).trans (congrArg _ (qI op T x y)),fun op x _=>(dH rfl).trans (congrArg _ (qJ op x)),fun op x _=>(dH rfl).trans (congrArg _ (qJ op x)),fun A B x _=>(dH rfl).trans (congrArg _ (qK A B x)),fun A B x _=>(dH rfl).trans (congrArg _ (qK A B x)),fun f cs _=>(dH rfl).trans (congrArg _ (qL f cs)),fun f cs _=>(dH rfl).trans (congrArg _ (qL f cs)),fun T x y _=>(dH rfl).trans (congrArg _ (qM T x y)),fun T x y _=>(dH rfl).trans (congrArg _ (qM T x y)),fun T x b5 ay _=>(dH rfl).trans (congrArg _ (qN T x b5 ay)),fun T x b5 ay _=>(dH rfl).trans (congrArg _ (qN T x b5 ay)),fun T x k _=>(dH rfl).trans (congrArg _ (qO T x k)),fun T x k _=>(dH rfl).trans (congrArg _ (qO T x k)),fun T x y _=>(dH rfl).trans (congrArg _ (qP T x y)),fun T x y _=>(dH rfl).trans (congrArg _ (qP T x y)),fun T x y _=>(dH rfl).trans (congrArg _ (qQ T x y)),fun T x y _=>(dH rfl).trans (congrArg _ (qQ T x y)),fun x k _=>(dH rfl).trans (congrArg _ (qR x k)),fun x k _=>(dH rfl).trans (congrArg _ (qR x k)),fun T x _=>(dH rfl).trans (congrArg _ (qS T x)),fun T x _=>(dH rfl).trans (congrArg _ (qS T x)),fun T a6 x y _=>(dH rfl).trans (congrArg _ (qT T a6 x y)),fun T a6 x y _=>(dH rfl).trans (congrArg _ (qT T a6 x y))⟩
theorem Kr:
  (∀(x:aw) (t:Nat),bF C l dst (.cg x) t true os (some a) K (.bool true)=cz C l (t::use (R l) (.cg x)) (cd (R l) (.cg x)) dst os a K (some (az (R l) x,R l)))∧
  (∀(x:aw) (t:Nat),bF C l dst (.cg x) t false os (some a) K (.bool false)=cz C l (t::use (R l) (.cg x)) (cd (R l) (.cg x)) dst os a K (some (az (R l) x,R l)))∧
  (∀(x:aw) (t:Nat),bF C l dst (.df x) t true os (some a) K (.bool true)=cz C l (t::use (R l) (.df x)) (cd (R l) (.df x)) dst os a K (gD (R l) (az (R l) x)))∧
  (∀(x:aw) (t:Nat),bF C l dst (.df x) t false os (some a) K (.bool false)=cz C l (t::use (R l) (.df x)) (cd (R l) (.df x)) dst os a K (gD (R l) (az (R l) x)))∧
  (∀(c x y:aw) (t:Nat),bF C l dst (.pick c x y) t true os (some a) K (.bool true)=cz C l (t::use (R l) (.pick c x y)) (cd (R l) (.pick c x y)) dst os a K (oe (R l) (az (R l) c) (az (R l) x) (az (R l) y)))∧
  (∀(c x y:aw) (t:Nat),bF C l dst (.pick c x y) t false os (some a) K (.bool false)=cz C l (t::use (R l) (.pick c x y)) (cd (R l) (.pick c x y)) dst os a K (oe (R l) (az (R l) c) (az (R l) x) (az (R l) y)))∧
  (∀(T:TypeId) (t:Nat),bF C l dst (.e1 T) t true os (some a) K (.bool true)=cz C l (t::use (R l) (.e1 T)) (cd (R l) (.e1 T)) dst os a K (bS (R l) (e1 C T)))∧
  (∀(T:TypeId) (t:Nat),bF C l dst (.e1 T) t false os (some a) K (.bool false)=cz C l (t::use (R l) (.e1 T)) (cd (R l) (.e1 T)) dst os a K (bS (R l) (e1 C T)))∧
  (∀(T:TypeId) (x:aw) (t:Nat),bF C l dst (.dB T x) t true os (some a) K (.bool true)=cz C l (t::use (R l) (.dB T x)) (cd (R l) (.dB T x)) dst os a K (dB (R l) (az (R l) x)))∧
  (∀(T:TypeId) (x:aw) (t:Nat),bF C l dst (.dB T x) t false os (some a) K (.bool false)=cz C l (t::use (R l) (.dB T x)) (cd (R l) (.dB T x)) dst os a K (dB (R l) (az (R l) x)))∧
  (∀(T:TypeId) (ps:List (Nat×aw)) (t:Nat),bF C l dst (.dP T ps) t true os (some a) K (.bool true)=cz C l (t::use (R l) (.dP T ps)) (cd (R l) (.dP T ps)) dst os a K (dP C (R l) T (hs (R l) ps)))∧
  (∀(T:TypeId) (ps:List (Nat×aw)) (t:Nat),bF C l dst (.dP T ps) t false os (some a) K (.bool false)=cz C l (t::use (R l) (.dP T ps)) (cd (R l) (.dP T ps)) dst os a K (dP C (R l) T (hs (R l) ps)))∧
  (∀(T:TypeId) (n:Nat) (ps:List (Nat×aw)) (t:Nat),bF C l dst (.cF T n ps) t true os (some a) K (.bool true)=cz C l (t::use (R l) (.cF T n ps)) (cd (R l) (.cF T n ps)) dst os a K (cF C (R l) T n (hs (R l) ps)))∧
  (∀(T:TypeId) (n:Nat) (ps:List (Nat×aw)) (t:Nat),bF C l dst (.cF T n ps) t false os (some a) K (.bool false)=cz C l (t::use (R l) (.cF T n ps)) (cd (R l) (.cF T n ps)) dst os a K (cF C (R l) T n (hs (R l) ps)))∧
  (∀(T:TypeId) (x:aw) (t:Nat),bF C l dst (.c7 T x) t true os (some a) K (.bool true)=cz C l (t::use (R l) (.c7 T x)) (cd (R l) (.c7 T x)) dst os a K (bS (R l) (c7 C (R l) T (az (R l) x))))∧
  (∀(T:TypeId) (x:aw) (t:Nat),bF C l dst (.c7 T x) t false os (some a) K (.bool false)=cz C l (t::use (R l) (.c7 T x)) (cd (R l) (.c7 T x)) dst os a K (bS (R l) (c7 C (R l) T (az (R l) x))))∧
  (∀(T:TypeId) (x y:aw) (t:Nat),bF C l dst (.et T x y) t true os (some a) K (.bool true)=cz C l (t::use (R l) (.et T x y)) (cd (R l) (.et T x y)) dst os a K (hr (et C (R l) T (az (R l) x) (az (R l) y))))∧
  (∀(T:TypeId) (x y:aw) (t:Nat),bF C l dst (.et T x y) t false os (some a) K (.bool false)=cz C l (t::use (R l) (.et T x y)) (cd (R l) (.et T x y)) dst os a K (hr (et C (R l) T (az (R l) x) (az (R l) y))))∧
  (∀(x:aw) (t:Nat),bF C l dst (.ek x) t true os (some a) K (.bool true)=cz C l (t::use (R l) (.ek x)) (cd (R l) (.ek x)) dst os a K (bS (R l) (ek (R l) (az (R l) x))))∧
  (∀(x:aw) (t:Nat),bF C l dst (.ek x) t false os (some a) K (.bool false)=cz C l (t::use (R l) (.ek x)) (cd (R l) (.ek x)) dst os a K (bS (R l) (ek (R l) (az (R l) x))))∧
  (∀(op:BinOp) (T:TypeId) (x y:aw) (t:Nat),bF C l dst (.bC op T x y) t true os (some a) K (.bool true)=cz C l (t::use (R l) (.bC op T x y)) (cd (R l) (.bC op T x y)) dst os a K (bS (R l) (bC C (R l) op T (az (R l) x) (az (R l) y))))∧
  (∀(op:BinOp) (T:TypeId) (x y:aw) (t:Nat),bF C l dst (.bC op T x y) t false os (some a) K (.bool false)=cz C l (t::use (R l) (.bC op T x y)) (cd (R l) (.bC op T x y)) dst os a K (bS (R l) (bC C (R l) op T (az (R l) x) (az (R l) y))))∧
  (∀(op:UnOp) (x:aw) (t:Nat),bF C l dst (.un op x) t true os (some a) K (.bool true)=cz C l (t::use (R l) (.un op x)) (cd (R l) (.un op x)) dst os a K (bS (R l) (un op (az (R l) x))))∧
  (∀(op:UnOp) (x:aw) (t:Nat),bF C l dst (.un op x) t false os (some a) K (.bool false)=cz C l (t::use (R l) (.un op x)) (cd (R l) (.un op x)) dst os a K (bS (R l) (un op (az (R l) x))))∧
  (∀(A B:TypeId) (x:aw) (t:Nat),bF C l dst (.dR A B x) t true os (some a) K (.bool true)=cz C l (t::use (R l) (.dR A B x)) (cd (R l) (.dR A B x)) dst os a K (bS (R l) (dR C (R l) A B (az (R l) x))))∧
  (∀(A B:TypeId) (x:aw) (t:Nat),bF C l dst (.dR A B x) t false os (some a) K (.bool false)=cz C l (t::use (R l) (.dR A B x)) (cd (R l) (.dR A B x)) dst os a K (bS (R l) (dR C (R l) A B (az (R l) x))))∧
  (∀(f:FuncId) (cs:List aw) (t:Nat),bF C l dst (.hE f cs) t true os (some a) K (.bool true)=cz C l (t::use (R l) (.hE f cs)) (cd (R l) (.hE f cs)) dst os a K (some (.fn f (gw (R l) cs),R l)))∧
  (∀(f:FuncId) (cs:List aw) (t:Nat),bF C l dst (.hE f cs) t false os (some a) K (.bool false)=cz C l (t::use (R l) (.hE f cs)) (cd (R l) (.hE f cs)) dst os a K (some (.fn f (gw (R l) cs),R l)))∧
  (∀(T:TypeId) (x y:aw) (t:Nat),bF C l dst (.en T x y) t true os (some a) K (.bool true)=cz C l (t::use (R l) (.en T x y)) (cd (R l) (.en T x y)) dst os a K (bS (R l) (en C T (az (R l) x) (az (R l) y))))∧
  (∀(T:TypeId) (x y:aw) (t:Nat),bF C l dst (.en T x y) t false os (some a) K (.bool false)=cz C l (t::use (R l) (.en T x y)) (cd (R l) (.en T x y)) dst os a K (bS (R l) (en C T (az (R l) x) (az (R l) y))))∧
  (∀(T:TypeId) (x:aw) (b5 ay:Option aw) (t:Nat),bF C l dst (.cD T x b5 ay) t true os (some a) K (.bool true)=cz C l (t::use (R l) (.cD T x b5 ay)) (cd (R l) (.cD T x b5 ay)) dst os a K (cD C (R l) T (az (R l) x) (iA (R l) b5) (iA (R l) ay)))∧
  (∀(T:TypeId) (x:aw) (b5 ay:Option aw) (t:Nat),bF C l dst (.cD T x b5 ay) t false os (some a) K (.bool false)=cz C l (t::use (R l) (.cD T x b5 ay)) (cd (R l) (.cD T x b5 ay)) dst os a K (cD C (R l) T (az (R l) x) (iA (R l) b5) (iA (R l) ay)))∧
  (∀(T:TypeId) (x:aw) (k:Nat) (t:Nat),bF C l dst (.dX T x k) t true os (some a) K (.bool true)=cz C l (t::use (R l) (.dX T x k)) (cd (R l) (.dX T x k)) dst os a K (bS (R l) (dX C (R l) T (az (R l) x) k)))∧
  (∀(T:TypeId) (x:aw) (k:Nat) (t:Nat),bF C l dst (.dX T x k) t false os (some a) K (.bool false)=cz C l (t::use (R l) (.dX T x k)) (cd (R l) (.dX T x k)) dst os a K (bS (R l) (dX C (R l) T (az (R l) x) k)))∧
  (∀(T:TypeId) (x y:aw) (t:Nat),bF C l dst (.ej T x y) t true os (some a) K (.bool true)=cz C l (t::use (R l) (.ej T x y)) (cd (R l) (.ej T x y)) dst os a K (bS (R l) (ej C (R l) T (az (R l) x) (az (R l) y))))∧
  (∀(T:TypeId) (x y:aw) (t:Nat),bF C l dst (.ej T x y) t false os (some a) K (.bool false)=cz C l (t::use (R l) (.ej T x y)) (cd (R l) (.ej T x y)) dst os a K (bS (R l) (ej C (R l) T (az (R l) x) (az (R l) y))))∧
  (∀(T:TypeId) (x y:aw) (t:Nat),bF C l dst (.idx T x y) t true os (some a) K (.bool true)=cz C l (t::use (R l) (.idx T x y)) (cd (R l) (.idx T x y)) dst os a K (bS (R l) (idx C T (az (R l) x) (az (R l) y))))∧
  (∀(T:TypeId) (x y:aw) (t:Nat),bF C l dst (.idx T x y) t false os (some a) K (.bool false)=cz C l (t::use (R l) (.idx T x y)) (cd (R l) (.idx T x y)) dst os a K (bS (R l) (idx C T (az (R l) x) (az (R l) y))))∧
  (∀(x:aw) (k:Nat) (t:Nat),bF C l dst (.ex x k) t true os (some a) K (.bool true)=cz C l (t::use (R l) (.ex x k)) (cd (R l) (.ex x k)) dst os a K (bS (R l) (ex (R l) (az (R l) x) k)))∧
  (∀(x:aw) (k:Nat) (t:Nat),bF C l dst (.ex x k) t false os (some a) K (.bool false)=cz C l (t::use (R l) (.ex x k)) (cd (R l) (.ex x k)) dst os a K (bS (R l) (ex (R l) (az (R l) x) k)))∧
  (∀(T:TypeId) (x:aw) (t:Nat),bF C l dst (.len T x) t true os (some a) K (.bool true)=cz C l (t::use (R l) (.len T x)) (cd (R l) (.len T x)) dst os a K (bS (R l) (jm C (R l) T (az (R l) x))))∧
  (∀(T:TypeId) (x:aw) (t:Nat),bF C l dst (.len T x) t false os (some a) K (.bool false)=cz C l (t::use (R l) (.len T x)) (cd (R l) (.len T x)) dst os a K (bS (R l) (jm C (R l) T (az (R l) x))))∧
  (∀(T a6:TypeId) (x y:aw) (t:Nat),bF C l dst (.app T a6 x y) t true os (some a) K (.bool true)=cz C l (t::use (R l) (.app T a6 x y)) (cd (R l) (.app T a6 x y)) dst os a K (jq C (R l) T a6 (az (R l) x) (az (R l) y)))∧
  (∀(T a6:TypeId) (x y:aw) (t:Nat),bF C l dst (.app T a6 x y) t false os (some a) K (.bool false)=cz C l (t::use (R l) (.app T a6 x y)) (cd (R l) (.app T a6 x y)) dst os a K (jq C (R l) T a6 (az (R l) x) (az (R l) y))):=
 ⟨fun x _=>(dI rfl).trans (congrArg _ (qy x)),fun x _=>(dI rfl).trans (congrArg _ (qy x)),fun x _=>(dI rfl).trans (congrArg _ (qz x)),fun x _=>(dI rfl).trans (congrArg _ (qz x)),fun c x y _=>(dI rfl).trans (congrArg _ (qA c x y)),fun c x y _=>(dI rfl).trans (congrArg _ (qA c x y)),fun T _=>(dI rfl).trans (congrArg _ (qB T)),fun T _=>(dI rfl).trans (congrArg _ (qB T)),fun T x _=>(dI rfl).trans (congrArg _ (qC T x)),fun T x _=>(dI rfl).trans (congrArg _ (qC T x)),fun T ps _=>(dI rfl).trans (congrArg _ (qD T ps)),fun T ps _=>(dI rfl).trans (congrArg _ (qD T ps)),fun T n ps _=>(dI rfl).trans (congrArg _ (qE T n ps)),fun T n ps _=>(dI rfl).trans (congrArg _ (qE T n ps)),fun T x _=>(dI rfl).trans (congrArg _ (qF T x)),fun T x _=>(dI rfl).trans (congrArg _ (qF T x)),fun T x y _=>(dI rfl).trans (congrArg _ (qG T x y)),fun T x y _=>(dI rfl).trans (congrArg _ (qG T x y)),fun x _=>(dI rfl).trans (congrArg _ (qH x)),fun x _=>(dI rfl).trans (congrArg _ (qH x)),fun op T x y _=>(dI rfl).trans (congrArg _ (qI op T x y)),fun op T x y _=>(dI rfl).trans (congrArg _ (qI op T x y)),fun op x _=>(dI rfl).trans (congrArg _ (qJ op x)),fun op x _=>(dI rfl).trans (congrArg _ (qJ op x)),fun A B x _=>(dI rfl).trans (congrArg _ (qK A B x)),fun A B x _=>(dI rfl).trans (congrArg _ (qK A B x)),fun f cs _=>(dI rfl).trans (congrArg _ (qL f cs)),fun f cs _=>(dI rfl).trans (congrArg _ (qL f cs)),fun T x y _=>(dI rfl).trans (congrArg _ (qM T x y)),fun T x y _=>(dI rfl).trans (congrArg _ (qM T x y)),fun T x b5 ay _=>(dI rfl).trans (congrArg _ (qN T x b5 ay)),fun T x b5 ay _=>(dI rfl).trans (congrArg _ (qN T x b5 ay)),fun T x k _=>(dI rfl).trans (congrArg _ (qO T x k)),fun T x k _=>(dI rfl).trans (congrArg _ (qO T x k)),fun T x y _=>(dI rfl).trans (congrArg _ (qP T x y)),fun T x y _=>(dI rfl).trans (congrArg _ (qP T x y)),fun T x y _=>(dI rfl).trans (congrArg _ (qQ T x y)),fun T x y _=>(dI rfl).trans (congrArg _ (qQ T x y)),fun x k _=>(dI rfl).trans (congrArg _ (qR x k)),fun x k _=>(dI rfl).trans (congrArg _ (qR x k)),fun T x _=>(dI rfl).trans (congrArg _ (qS T x)),fun T x _=>(dI rfl).trans (congrArg _ (qS T x)),fun T a6 x y _=>(dI rfl).trans (congrArg _ (qT T a6 x y)),fun T a6 x y _=>(dI rfl).trans (congrArg _ (qT T a6 x y))⟩
end
theorem CK:
  (∀(t:Nat) (k:IntKind) (n:Int),gp t (.int k n)=(.int k n))∧
  (∀(t:Nat) (b:Bool),gp t (.bool b)=(.bool b))∧
  (∀(t:Nat) (x:List UInt8),gp t (.str x)=(.str x))∧
  (∀(t:Nat) (xs:List I),gp t (.slice xs)=(.slice xs))∧
  (∀(t:Nat) (d:I),gp t (.ref d)=(.ref d))∧
  (∀(t:Nat) (f:FuncId) (cap:List I),gp t (.fn f cap)=(.fn f cap))∧
  (∀(t:Nat) (x:Nat) (q:List Nat),gp t (.h x q)=(.h x q))∧
  (∀(t:Nat) (x:Nat) (q:List Nat),gp t (.ah x q)=(.ah x q))∧
  (∀(t:Nat),gp t .cw= .cw)∧
  (∀(t:Nat),gp t .bu= .bu)∧
  (∀(t:Nat),gp t .di= .di)∧
  (∀(t:Nat),gp t .hole= .hole)∧
  (∀(t:Nat) (sz:Nat) (xs:List I),gp t (.aG sz xs)= .h t [])∧
  (∀(t:Nat) (d:I),gp t (.bG d)= .h t [])∧
  (∀(t:Nat) (aj:List I),gp t (.agg aj)=if I.dV aj=true then(.agg aj)else .h t [])∧
  (∀(t:Nat) (aj:List I),gp t (.tuple aj)=if I.dV aj=true then(.tuple aj)else .h t []):=
 ⟨fun _ _ _=>rfl,fun _ _=>rfl,fun _ _=>rfl,fun _ _=>rfl,fun _ _=>rfl,fun _ _ _=>rfl,fun _ _ _=>rfl,fun _ _ _=>rfl,fun _=>rfl,fun _=>rfl,fun _=>rfl,fun _=>rfl,fun _ _ _=>rfl,fun _ _=>rfl,fun _ _=>rfl,fun _ _=>rfl⟩
theorem CL:
  (∀(l:List (Nat×I)) (av:I),fin (R l) none av=R l)∧
  (∀(l:List (Nat×I)) (t:Nat) (k:IntKind) (n:Int),fin (R l) (some t) (.int k n)=R ((t,(.int k n))::l))∧
  (∀(l:List (Nat×I)) (t:Nat) (b:Bool),fin (R l) (some t) (.bool b)=R ((t,(.bool b))::l))∧
  (∀(l:List (Nat×I)) (t:Nat) (x:List UInt8),fin (R l) (some t) (.str x)=R ((t,(.str x))::l))∧
  (∀(l:List (Nat×I)) (t:Nat) (xs:List I),fin (R l) (some t) (.slice xs)=R ((t,(.slice xs))::l))∧
  (∀(l:List (Nat×I)) (t:Nat) (d:I),fin (R l) (some t) (.ref d)=R ((t,(.ref d))::l))∧
  (∀(l:List (Nat×I)) (t:Nat) (f:FuncId) (cap:List I),fin (R l) (some t) (.fn f cap)=R ((t,(.fn f cap))::l))∧
  (∀(l:List (Nat×I)) (t:Nat) (x:Nat) (q:List Nat),fin (R l) (some t) (.h x q)=R ((t,(.h x q))::l))∧
  (∀(l:List (Nat×I)) (t:Nat) (x:Nat) (q:List Nat),fin (R l) (some t) (.ah x q)=R ((t,(.ah x q))::l))∧
  (∀(l:List (Nat×I)) (t:Nat),fin (R l) (some t) .cw=R ((t,.cw)::l))∧
  (∀(l:List (Nat×I)) (t:Nat),fin (R l) (some t) .bu=R ((t,.bu)::l))∧
  (∀(l:List (Nat×I)) (t:Nat),fin (R l) (some t) .di=R ((t,.di)::l))∧
  (∀(l:List (Nat×I)) (t:Nat),fin (R l) (some t) .hole=R ((t,.hole)::l))∧
  (∀(l:List (Nat×I)) (t:Nat) (sz:Nat) (xs:List I),fin (R l) (some t) (.aG sz xs)=R ((t,(.aG sz xs))::k3 t l))∧
  (∀(l:List (Nat×I)) (t:Nat) (d:I),fin (R l) (some t) (.bG d)=R ((t,(.bG d))::k3 t l))∧
  (∀(l:List (Nat×I)) (t:Nat) (aj:List I),fin (R l) (some t) (.agg aj)=R ((t,(.agg aj))::if I.dV aj=true then l else k3 t l))∧
  (∀(l:List (Nat×I)) (t:Nat) (aj:List I),fin (R l) (some t) (.tuple aj)=R ((t,(.tuple aj))::if I.dV aj=true then l else k3 t l)):=
 ⟨fun _ _=>rfl,fun l t _ _=>by simp only[fin,I.plain,if_true,hZ],fun l t _=>by simp only[fin,I.plain,if_true,hZ],fun l t _=>by simp only[fin,I.plain,if_true,hZ],fun l t _=>by simp only[fin,I.plain,if_true,hZ],fun l t _=>by simp only[fin,I.plain,if_true,hZ],fun l t _ _=>by simp only[fin,I.plain,if_true,hZ],fun l t _ _=>by simp only[fin,I.plain,if_true,hZ],fun l t _ _=>by simp only[fin,I.plain,if_true,hZ],fun l t=>by simp only[fin,I.plain,if_true,hZ],fun l t=>by simp only[fin,I.plain,if_true,hZ],fun l t=>by simp only[fin,I.plain,if_true,hZ],fun l t=>by simp only[fin,I.plain,if_true,hZ],fun l t _ _=>by simp only[fin,I.plain,Bool.false_eq_true,if_false,qt,hZ],fun l t _=>by simp only[fin,I.plain,Bool.false_eq_true,if_false,qt,hZ],fun l t _=>by simp only[fin,I.plain,qt,hZ];split<;>rfl,fun l t _=>by simp only[fin,I.plain,qt,hZ];split<;>rfl⟩
theorem CM:
  (∀(k:IntKind) (n:Int),I.plain (.int k n)=true)∧
  (∀(b:Bool),I.plain (.bool b)=true)∧
  (∀(x:List UInt8),I.plain (.str x)=true)∧
  (∀(xs:List I),I.plain (.slice xs)=true)∧
  (∀(d:I),I.plain (.ref d)=true)∧
  (∀(f:FuncId) (cap:List I),I.plain (.fn f cap)=true)∧
  (∀(x:Nat) (q:List Nat),I.plain (.h x q)=true)∧
  (∀(x:Nat) (q:List Nat),I.plain (.ah x q)=true)∧
  (I.plain .cw=true)∧
  (I.plain .bu=true)∧
  (I.plain .di=true)∧
  (I.plain .hole=true)∧
  (∀(sz:Nat) (xs:List I),I.plain (.aG sz xs)=false)∧
  (∀(d:I),I.plain (.bG d)=false)∧
  (∀(aj:List I),I.plain (.agg aj)=I.dV aj)∧
  (∀(aj:List I),I.plain (.tuple aj)=I.dV aj)∧
  (I.dV []=true)∧
  (∀d ds,I.dV (d::ds)=(d.plain&&I.dV ds)):=
 ⟨fun _ _=>rfl,fun _=>rfl,fun _=>rfl,fun _=>rfl,fun _=>rfl,fun _ _=>rfl,fun _ _=>rfl,fun _ _=>rfl,rfl,rfl,rfl,rfl,fun _ _=>rfl,fun _=>rfl,fun _=>rfl,fun _=>rfl,rfl,fun _ _=>rfl⟩
theorem CN:
  (∀(s:ag) (k:IntKind) (n:Int),gD s (.int k n)=some ((.int k n),s))∧
  (∀(s:ag) (b:Bool),gD s (.bool b)=some ((.bool b),s))∧
  (∀(s:ag) (x:List UInt8),gD s (.str x)=some ((.str x),s))∧
  (∀(s:ag) (xs:List I),gD s (.slice xs)=some ((.slice xs),s))∧
  (∀(s:ag) (d:I),gD s (.ref d)=some ((.ref d),s))∧
  (∀(s:ag) (f:FuncId) (cap:List I),gD s (.fn f cap)=some ((.fn f cap),s))∧
  (∀(s:ag) (x:Nat) (q:List Nat),gD s (.ah x q)=some ((.ah x q),s))∧
  (∀(s:ag),gD s .cw=some (.cw,s))∧
  (∀(s:ag),gD s .bu=some (.bu,s))∧
  (∀(s:ag),gD s .di=some (.di,s))∧
  (∀(s:ag),gD s .hole=some (.hole,s))∧
  (∀(s:ag) (sz:Nat) (xs:List I),gD s (.aG sz xs)=some ((.aG sz xs),s))∧
  (∀(s:ag) (d:I),gD s (.bG d)=some ((.bG d),s))∧
  (∀(s:ag) (aj:List I),gD s (.agg aj)=some ((.agg aj),s))∧
  (∀(s:ag) (aj:List I),gD s (.tuple aj)=some ((.tuple aj),s))∧
  (∀(s:ag) y q,gD s (.h y q)=bM s (.h y q)):=
 ⟨fun _ _ _=>rfl,fun _ _=>rfl,fun _ _=>rfl,fun _ _=>rfl,fun _ _=>rfl,fun _ _ _=>rfl,fun _ _ _=>rfl,fun _=>rfl,fun _=>rfl,fun _=>rfl,fun _=>rfl,fun _ _ _=>rfl,fun _ _=>rfl,fun _ _=>rfl,fun _ _=>rfl,fun _ _ _=>rfl⟩
theorem CO:
  (∀(t:Nat) (k:IntKind) (n:Int),bP t (.int k n)=(.int k n))∧
  (∀(t:Nat) (b:Bool),bP t (.bool b)=(.bool b))∧
  (∀(t:Nat) (x:List UInt8),bP t (.str x)=(.str x))∧
  (∀(t:Nat) (xs:List I),bP t (.slice xs)=(.slice xs))∧
  (∀(t:Nat) (d:I),bP t (.ref d)=(.ref d))∧
  (∀(t:Nat),bP t .cw= .cw)∧
  (∀(t:Nat),bP t .bu= .bu)∧
  (∀(t:Nat),bP t .di= .di)∧
  (∀(t:Nat),bP t .hole= .hole)∧
  (∀(t:Nat) (sz:Nat) (xs:List I),bP t (.aG sz xs)=(.aG sz xs))∧
  (∀(t:Nat) (d:I),bP t (.bG d)=(.bG d))∧
  (∀(t:Nat) (aj:List I),bP t (.agg aj)=(.agg aj))∧
  (∀(t:Nat) (aj:List I),bP t (.tuple aj)=(.tuple aj))∧
  (∀(t y:Nat) q,bP t (.h y q)=if y=t then .hole else .h y q)∧
  (∀(t y:Nat) q,bP t (.ah y q)=if y=t then .hole else .ah y q)∧
  (∀(t:Nat) f c,bP t (.fn f c)= .fn f (gm t c))∧
  (∀t,gm t []=[])∧
  (∀t d ds,gm t (d::ds)=bP t d::gm t ds)∧
  (∀t,k3 t []=[])∧
  (∀t u d l,k3 t ((u,d)::l)=(u,bP t d)::k3 t l)∧
  (∀t l,iK t (R l)=R (k3 t l)):=
 ⟨fun _ _ _=>by unfold bP;rfl,fun _ _=>by unfold bP;rfl,fun _ _=>by unfold bP;rfl,fun _ _=>by unfold bP;rfl,fun _ _=>by unfold bP;rfl,fun _=>by unfold bP;rfl,fun _=>by unfold bP;rfl,fun _=>by unfold bP;rfl,fun _=>by unfold bP;rfl,fun _ _ _=>by unfold bP;rfl,fun _ _=>by unfold bP;rfl,fun _ _=>by unfold bP;rfl,fun _ _=>by unfold bP;rfl,fun _ _ _=>by unfold bP;rfl,fun _ _ _=>by unfold bP;rfl,fun _ _ _=>by simp only[bP],fun _=>by simp only[gm],fun _ _ _=>by simp only[gm],fun _=>rfl,fun _ _ _ _=>rfl,fun t l=>qt t l⟩
theorem CP:
  (∀(t:Nat) (k:IntKind) (n:Int),bo t (.int k n)=(.int k n))∧
  (∀(t:Nat) (b:Bool),bo t (.bool b)=(.bool b))∧
  (∀(t:Nat) (x:List UInt8),bo t (.str x)=(.str x))∧
  (∀(t:Nat) (xs:List I),bo t (.slice xs)=(.slice xs))∧
  (∀(t:Nat) (d:I),bo t (.ref d)=(.ref d))∧
  (∀(t:Nat),bo t .cw= .cw)∧
  (∀(t:Nat),bo t .bu= .bu)∧
  (∀(t:Nat),bo t .di= .di)∧
  (∀(t:Nat),bo t .hole= .hole)∧
  (∀(t:Nat) (sz:Nat) (xs:List I),bo t (.aG sz xs)=(.aG sz xs))∧
  (∀(t:Nat) (d:I),bo t (.bG d)=(.bG d))∧
  (∀(t:Nat) (aj:List I),bo t (.agg aj)=(.agg aj))∧
  (∀(t:Nat) (aj:List I),bo t (.tuple aj)=(.tuple aj))∧
  (∀(t y:Nat),bo t (.h y [])= .h y [])∧
  (∀(t y k:Nat) q,bo t (.h y (k::q))=if y=t then .hole else .h y (k::q))∧
  (∀(t y:Nat) q,bo t (.ah y q)=if y=t then .hole else .ah y q)∧
  (∀(t:Nat) f c,bo t (.fn f c)= .fn f (fM t c))∧
  (∀t,fM t []=[])∧
  (∀t d ds,fM t (d::ds)=bo t d::fM t ds)∧
  (∀t,pk t []=[])∧
  (∀t u d l,pk t ((u,d)::l)=(u,bo t d)::pk t l)∧
  (∀t l,fq t (R l)=R (pk t l)):=
 ⟨fun _ _ _=>by unfold bo;rfl,fun _ _=>by unfold bo;rfl,fun _ _=>by unfold bo;rfl,fun _ _=>by unfold bo;rfl,fun _ _=>by unfold bo;rfl,fun _=>by unfold bo;rfl,fun _=>by unfold bo;rfl,fun _=>by unfold bo;rfl,fun _=>by unfold bo;rfl,fun _ _ _=>by unfold bo;rfl,fun _ _=>by unfold bo;rfl,fun _ _=>by unfold bo;rfl,fun _ _=>by unfold bo;rfl,fun _ _=>by simp[bo],fun _ _ _ _=>by simp[bo],fun _ _ _=>by unfold bo;rfl,fun _ _ _=>by simp only[bo],fun _=>by simp only[fM],fun _ _ _=>by simp only[fM],fun _=>rfl,fun _ _ _ _=>rfl,fun t l=>JN t l⟩
def yt:ki→Bool→Option I
 | .bool,b=>some (.bool b)
 |_,_=>none
def pt (neg:Bool):ki→Option (Option Bool)→Option I
 | .slice _,some r=>some (r4 neg r)
 |_,_=>none
def pv (neg:Bool):ki→Option Bool→Option I
 | .ptr _,some b=>some (.bool (b !=neg))
 |_,_=>none
theorem CQ (C:bm) (s:ag) (T:TypeId):
  (∀op k a cr b,bC C s op T (.int k a) (.int cr b)=fC op k a cr b)∧
  (∀op a b,bC C s op T (.str a) (.str b)=kk op a b)∧
  (∀a b,bC C s .eql T (.bool a) (.bool b)=yt (C.T T).k (a==b))∧
  (∀a b,bC C s .neq T (.bool a) (.bool b)=yt (C.T T).k (!(a==b)))∧
  (∀xs,bC C s .eql T (.slice xs) .bu=pt false (C.T T).k (im s (.slice xs)))∧
  (∀xs,bC C s .neq T (.slice xs) .bu=pt true (C.T T).k (im s (.slice xs)))∧
  (bC C s .eql T .bu .bu=pt false (C.T T).k (im s .bu))∧
  (bC C s .neq T .bu .bu=pt true (C.T T).k (im s .bu))∧
  (∀x q,bC C s .eql T (.h x q) .bu=pt false (C.T T).k (im s (.h x q)))∧
  (∀x q,bC C s .neq T (.h x q) .bu=pt true (C.T T).k (im s (.h x q)))∧
  (∀x q,bC C s .eql T (.h x q) .cw=pv false (C.T T).k (iq s (.h x q)))∧
  (∀x q,bC C s .neq T (.h x q) .cw=pv true (C.T T).k (iq s (.h x q)))∧
  (∀d,bC C s .eql T (.ref d) .cw=pv false (C.T T).k (iq s (.ref d)))∧
  (∀d,bC C s .neq T (.ref d) .cw=pv true (C.T T).k (iq s (.ref d)))∧
  (bC C s .eql T .cw .cw=pv false (C.T T).k (iq s .cw))∧
  (bC C s .neq T .cw .cw=pv true (C.T T).k (iq s .cw)):=by
 refine⟨?_,?_,?_,?_,?_,?_,?_,?_,?_,?_,?_,?_,?_,?_,?_,?_⟩<;>intros<;>first
  |rfl
  |(simp only[bC]
    generalize (C.T T).k=ik
    cases ik<;>first|rfl|(simp only[pt];generalize im s _=v;cases v<;>rfl)|(simp only[pv];generalize iq s _=v;cases v<;>(try (rename_i b;cases b))<;>rfl))
theorem CR (k:IntKind) (a b:Int):
  fC .add k a k b=some (.int k (k.wrap (a+b)))∧fC .sub k a k b=some (.int k (k.wrap (a-b)))∧fC .mul k a k b=some (.int k (k.wrap (a*b)))∧
  fC .eql k a k b=some (.bool (a==b))∧fC .neq k a k b=some (.bool (a !=b))∧fC .lss k a k b=some (.bool (decide (a<b)))∧fC .leq k a k b=some (.bool (decide (a≤b)))∧
  fC .gtr k a k b=some (.bool (decide (b<a)))∧fC .geq k a k b=some (.bool (decide (b≤a)))∧
  fC .and k a k b=some (.int k (bitsOf .and k a b))∧fC .or k a k b=some (.int k (bitsOf .or k a b))∧fC .xor k a k b=some (.int k (bitsOf .xor k a b))∧fC .andNot k a k b=some (.int k (bitsOf .andNot k a b)):=by
 simp[fC]
theorem Ks {k:IntKind} {a b:Int} (h:b≠0):fC .quo k a k b=some (.int k (k.wrap (a.tdiv b))):=by simp[fC,h]
theorem Kt {k:IntKind} {a b:Int} (h:b≠0):fC .rem k a k b=some (.int k (a.tmod b)):=by simp[fC,h]
theorem Ku {k cr:IntKind} {a b:Int} (h:¬b<0):fC .shl k a cr b=some (.int k (k.wrap (a*2^(min b.toNat k.bits)))):=by simp[fC,h]
theorem CS (a b:List UInt8):
  kk .eql a b=some (.bool (a==b))∧kk .neq a b=some (.bool !(a==b))∧kk .lss a b=some (.bool (Op.bytesLess a b))∧
  kk .leq a b=some (.bool (Op.bytesLess a b||a==b))∧kk .gtr a b=some (.bool !(Op.bytesLess a b||a==b))∧kk .geq a b=some (.bool !(Op.bytesLess a b)):=by
 refine⟨rfl,rfl,rfl,rfl,rfl,rfl⟩
theorem CT:(∀b,un .not (.bool b)=some (.bool !b))∧(un .not .di=some .di)∧(∀k n,un .neg (.int k n)=some (.int k (k.wrap (0-n)))):=⟨fun _=>rfl,rfl,fun _ _=>rfl⟩
def yu:ki→Option UInt8→Option I
 | .str,some c=>some (.int .u8 c.toNat)
 |_,_=>none
theorem CU (C:bm) (T:TypeId) (l:List UInt8) (k:IntKind) (n:Int):idx C T (.str l) (.int k n)=yu (C.T T).k (c1 l n):=by
 simp only[idx,c1]
 generalize (C.T T).k=ik
 cases ik<;>first|rfl|(simp only[yu];split<;>first|rfl|(cases l[n.toNat]? <;>rfl))
def yv (C:bm):ki→Option I→Option I
 | .slice e,some d=>if(C.T e).ok=true∧d.wd=(C.T e).sz then some (.ref d)else none
 |_,_=>none
theorem CV (C:bm) (s:ag) (T:TypeId) (xs:List I) (k:IntKind) (n:Int):ej C s T (.slice xs) (.int k n)=yv C (C.T T).k (c1 xs n):=by
 simp only[ej,c1]
 generalize (C.T T).k=ik
 cases ik<;>first|rfl|skip
 simp only[yv]
 by_cases bl:0≤n
 ·simp only[bl,true_and,if_true]
  split
  ·cases xs[n.toNat]? <;>simp[*]
  ·cases xs[n.toNat]? <;>simp[*]
 ·simp only[bl,false_and,if_false]
def sO (C:bm) (y:Nat) (q:List Nat) (n:Int):ki→Option I→Option I
 | .slice e,some (.aG sz xs)=>if(c1 xs n).isSome=true∧(C.T e).ok=true∧sz=(C.T e).sz then some (.ah y (q++[n.toNat]))else none
 |_,_=>none
theorem CW (C:bm) (s:ag) (T:TypeId) (y:Nat) (q:List Nat) (k:IntKind) (n:Int):ej C s T (.h y q) (.int k n)=sO C y q n (C.T T).k (I.sub q (s y)):=by
 simp only[ej]
 generalize (C.T T).k=ik
 cases ik<;>first|rfl|skip
 rename_i e
 cases U:I.sub q (s y)with
 |none=>simp[sO]
 |some d=>
  cases d<;>first
   |(simp[sO];done)
   |skip
  rename_i sz xs
  have hg:(c1 xs n).isSome=true↔0≤n∧n.toNat<xs.length:=by
   unfold c1;split<;>simp_all<;>omega
  simp only[sO,hg]
  by_cases bl:0≤n<;>by_cases aa:(C.T e).ok=true<;>simp[bl,aa]
def qU:ki→ag→Option (List UInt8)→Option (I×ag)
 | .str,s,some t=>some (.str t,s)
 |_,_,_=>none
def qV (C:bm):ki→ag→List I→Option (List I)→Option (I×ag)
 | .slice e,s,xs,some t=>if(C.T e).ok=true∧∀d∈xs,d.wd=(C.T e).sz then some (.slice t,s)else none
 |_,_,_,_=>none
theorem CX (C:bm) (s:ag) (T:TypeId) (l:List UInt8):
  (∀k a cr b,cD C s T (.str l) (some (.int k a)) (some (.int cr b))=qU (C.T T).k s (dZ l a b))∧
  (∀cr b,cD C s T (.str l) none (some (.int cr b))=qU (C.T T).k s (dZ l 0 b))∧
  (∀k a,cD C s T (.str l) (some (.int k a)) none=qU (C.T T).k s (dZ l a l.length)):=by
 have e:∀(b5 ay:Option I) (a b:Int),(dM 0 b5=if 0≤a then some a.toNat else none)→(dM l.length ay=if 0≤b then some b.toNat else none)→cD C s T (.str l) b5 ay=qU (C.T T).k s (dZ l a b):=by
  intro b5 ay a b aa ab
  simp only[cD]
  generalize (C.T T).k=ik
  cases ik<;>first|rfl|skip
  simp only[aa,ab,dZ]
  by_cases br:0≤a<;>by_cases J:0≤b<;>simp only[br,J,if_true,if_false,qU,true_and,false_and]
  ·by_cases af:a≤b∧b≤l.length
   ·rw[if_pos ⟨by omega,by omega⟩,if_pos af]
   ·rw[if_neg (fun h=>af ⟨by omega,by omega⟩),if_neg af]
  ·rw[if_neg (by omega)]
 exact⟨fun k a cr b=>e _ _ a b rfl rfl,fun cr b=>e _ _ 0 b rfl rfl,fun k a=>e _ _ a l.length rfl (by simp[dM])⟩
theorem CY (C:bm) (s:ag) (T:TypeId) (xs:List I):
  (∀k a cr b,cD C s T (.slice xs) (some (.int k a)) (some (.int cr b))=qV C (C.T T).k s xs (dZ xs a b))∧
  (∀cr b,cD C s T (.slice xs) none (some (.int cr b))=qV C (C.T T).k s xs (dZ xs 0 b))∧
  (∀k a,cD C s T (.slice xs) (some (.int k a)) none=qV C (C.T T).k s xs (dZ xs a xs.length)):=by
 have e:∀(b5 ay:Option I) (a b:Int),(dM 0 b5=if 0≤a then some a.toNat else none)→(dM xs.length ay=if 0≤b then some b.toNat else none)→cD C s T (.slice xs) b5 ay=qV C (C.T T).k s xs (dZ xs a b):=by
  intro b5 ay a b aa ab
  simp only[cD]
  generalize (C.T T).k=ik
  cases ik<;>first|rfl|skip
  simp only[aa,ab,dZ]
  by_cases br:0≤a<;>by_cases J:0≤b<;>simp only[br,J,if_true,if_false,qV,true_and,false_and]
  ·by_cases af:a≤b∧b≤xs.length
   ·rw[if_pos af]
    have aa:a.toNat≤b.toNat:=by omega
    have ab:b.toNat≤xs.length:=by omega
    simp only[aa,ab,true_and]
   ·rw[if_neg (fun h=>af ⟨by omega,by omega⟩),if_neg af]
  ·rw[if_neg (by omega)]
 exact⟨fun k a cr b=>e _ _ a b rfl rfl,fun cr b=>e _ _ 0 b rfl rfl,fun k a=>e _ _ a xs.length rfl (by simp[dM])⟩
def sP (q:List Nat):Option I→Option I
 |some d=>I.sub q d
 |none=>none
theorem CZ:(∀d,I.sub [] d=some d)∧(∀k q aj,I.sub (k::q) (.agg aj)=sP q aj[k]?)∧(∀k q aj,I.sub (k::q) (.tuple aj)=sP q aj[k]?)∧(∀k q sz xs,I.sub (k::q) (.aG sz xs)=sP q xs[k]?)∧
  (∀q d,I.sub (0::q) (.bG d)=I.sub q d)∧(∀q d,sP q (some d)=I.sub q d)∧
  (∀k q a b,I.sub (k::q) (.int a b)=none):=by
 refine⟨fun d=>by simp[I.sub],?_,?_,?_,fun q d=>by simp[I.sub],fun _ _=>rfl,fun _ _ _ _=>by simp[I.sub]⟩
 ·intro k q aj;simp only[I.sub];cases aj[k]? <;>rfl
 ·intro k q aj;simp only[I.sub];cases aj[k]? <;>rfl
 ·intro k q sz aj;simp only[I.sub];cases aj[k]? <;>rfl
def C0 (k:Nat) (q:List Nat) (n:I) (aj:List I):Option I→I
 |some d=>.agg (aj.set k (I.put q n d))
 |none=>.agg aj
def C1 (k:Nat) (q:List Nat) (n:I) (aj:List I):Option I→I
 |some d=>.tuple (aj.set k (I.put q n d))
 |none=>.tuple aj
def C2 (k:Nat) (q:List Nat) (n:I) (sz:Nat) (xs:List I):Option I→I
 |some d=>.aG sz (xs.set k (I.put q n d))
 |none=>.aG sz xs
theorem C3:(∀n d,I.put [] n d=n)∧(∀k q n aj,I.put (k::q) n (.agg aj)=C0 k q n aj aj[k]?)∧(∀k q n aj,I.put (k::q) n (.tuple aj)=C1 k q n aj aj[k]?)∧
  (∀k q n sz xs,I.put (k::q) n (.aG sz xs)=C2 k q n sz xs xs[k]?)∧(∀q n d,I.put (0::q) n (.bG d)= .bG (I.put q n d))∧
  (∀k q n aj d,C0 k q n aj (some d)= .agg (aj.set k (I.put q n d)))∧(∀k q n aj d,C1 k q n aj (some d)= .tuple (aj.set k (I.put q n d)))∧
  (∀k q n sz xs d,C2 k q n sz xs (some d)= .aG sz (xs.set k (I.put q n d))):=by
 refine⟨fun n d=>by simp[I.put],?_,?_,?_,fun q n d=>by simp[I.put],fun _ _ _ _ _=>rfl,fun _ _ _ _ _=>rfl,fun _ _ _ _ _ _=>rfl⟩
 ·intro k q n aj;simp only[I.put];cases aj[k]? <;>rfl
 ·intro k q n aj;simp only[I.put];cases aj[k]? <;>rfl
 ·intro k q n sz aj;simp only[I.put];cases aj[k]? <;>rfl
theorem yw:(∀k n,I.wd (.int k n)=1)∧(∀b,I.wd (.bool b)=1)∧(∀x,I.wd (.str x)=1)∧(∀x,I.wd (.slice x)=1)∧(∀n x,I.wd (.aG n x)=1)∧(∀x,I.wd (.ref x)=1)∧(∀x,I.wd (.bG x)=1)∧
  I.wd .bu=1∧I.wd .cw=1∧I.wd .hole=1∧I.wd .di=1∧(∀x y,I.wd (.h x y)=1)∧(∀x y,I.wd (.ah x y)=1)∧(∀x y,I.wd (.fn x y)=1)∧(∀aj,I.wd (.agg aj)=I.cI aj)∧(∀aj,I.wd (.tuple aj)=I.cI aj)∧I.cI []=0∧(∀d ds,I.cI (d::ds)=d.wd+I.cI ds):=by
 simp[I.wd,I.cI]
theorem qW (l:List UInt8):(∀d∈l.map ea,d.wd=1)=True:=by simp[ea,I.wd]
theorem Kv {α:Type} {e:α→I} {n:Nat} (h:∀x,(e x).wd=n) (xs:List α):(∀d∈xs.map e,d.wd=n)=True:=by
 simp only[List.mem_map,eq_iff_iff,iff_true]
 rintro d ⟨x,_,rfl⟩;exact h x
theorem Kw (C:bm) (s:ag) (A B:TypeId) (k cr:IntKind) (n:Int) (fY:(C.T A).ok=true) (eP:(C.T B).k= .int cr):dR C s A B (.int k n)=some (.int cr (cr.wrap n)):=by
 simp only[dR,fY,eP,if_true]
theorem C4 (m:Int):ea (kF m)= .int .u8 (IntKind.u8.wrap m):=by
 have h:0≤IntKind.u8.wrap m∧IntKind.u8.wrap m<256:=by rw[IntKind.wrap_u8];omega
 simp only[ea,kF,UInt8.toNat_ofNat']
 congr 1
 omega
theorem yx (m:Int):((kF m).toNat:Int)=IntKind.u8.wrap m:=by
 have h:=C4 m
 simpa [ea]using h
section
variable {C:bm} {l:List (Nat×I)} {Q:Exit→ag→Prop} {s:ag}
theorem k6 {ros:List bn} {k:List Nat} (h:bL C (R l) ros none (fun _ s=>Q .normal (R (gA k s)))):ca C (.cB ros (some k)) Q (R l):=uP (fun _ _ h=>h) h
theorem Kx {a b:ad} (h:∀cZ:Exit→ag→Prop,(∀s,eo (ca C b Q) s→cZ .normal s)→(∀s,Q .ret s→cZ .ret s)→(∀i s,Q (.exit i) s→cZ (.exit i) s)→ca C a cZ s):ca C (.seq a b) Q s:=
 h _ (fun _ h=>h) (fun _ h=>h) (fun _ _ h=>h)
theorem dw {ros:List bn} {k:List Nat} {b:ad} (h:bL C (R l) ros none (fun _ s=>ca C b Q (R (gA k s)))):ca C (.seq (.cB ros (some k)) b) Q (R l):=uP (fun _ _ h=>.inl h) h
theorem uV {ros:List bn} {eS:List (List Nat)} {k:List Nat} {b:ad} (hlen:eS.length=ros.length) (h:bL C (R l) ros (some []) (fun acc s=>jW (qx eS) 0 [] (acc.getD []).reverse=true∧ca C b Q (R (gA k s)))):
  ca C (.seq (.jV ros eS (some k)) b) Q (R l):=Kh (K:=fun s=>eo (ca C b Q) (R (gA k s))) hlen (by
   have key:∀(os:List bn) (s:ag) (acc:Option (List dG)),bL C s os acc (fun acc s=>jW (qx eS) 0 [] (acc.getD []).reverse=true∧ca C b Q (R (gA k s)))→
     bL C s os acc (fun acc s=>jW (qx eS) 0 [] (acc.getD []).reverse=true∧eo (ca C b Q) (R (gA k s))):=by
    intro os
    induction os with
    |nil=>intro s acc h;exact⟨h.1,.inl h.2⟩
    |cons o os ih=>
     intro s acc h
     have mono:∀{s:ag} {a7:dS} {K ch:List Nat→I→ag→Prop},(∀a b c,K a b c→ch a b c)→lK C s a7 K→lK C s a7 ch:=by
      intro s a7 K ch al h
      cases a7 with
      |call f args=>
       obtain⟨g,caps,ps,r,aa,eK,ab,aB,aP,bb,bQ,bT,dt⟩:=h
       exact⟨g,caps,ps,r,aa,eK,ab,aB,aP,bb,bQ,bT,al _ _ _ dt⟩
      |shr a7=>obtain⟨av,s1,aa,ab,aB,aP⟩:=h;exact⟨av,s1,aa,ab,aB,al _ _ _ aP⟩
      |jQ f args u x=>
       obtain⟨bg,bw,g,caps,ps,r,aa,eK,ab,aB,aP,bb,bQ,bT,dt,eF,eZ⟩:=h
       exact⟨bg,bw,g,caps,ps,r,aa,eK,ab,aB,aP,bb,bQ,bT,dt,eF,al _ _ _ eZ⟩
      |jR f args us=>
       obtain⟨bw,g,caps,ps,r,aa,eK,ab,aB,aP,bb,bQ,bT,dt,eF⟩:=h
       exact⟨bw,g,caps,ps,r,aa,eK,ab,aB,aP,bb,bQ,bT,dt,al _ _ _ eF⟩
      |_=>obtain⟨av,s1,aa,ab⟩:=h;exact⟨av,s1,aa,al _ _ _ ab⟩
     simp only[bL,k4]at h⊢
     split
     ·rename_i hg;rw[hg]at h;exact mono (fun _ _ _=>ih _ _) h
     ·rename_i t dK hg
      rw[hg]at h
      simp only at h
      split
      ·rename_i Yr U
       rw[U]at h
       simp only at h
       split
       ·rename_i J;rw[if_pos J]at h;exact mono (fun _ _ _=>ih _ _) h
       ·rename_i J;rw[if_neg J]at h;exact ih _ _ h
      ·rename_i U;rw[U]at h;exact ih _ _ h
      ·rename_i aa ab
       split at h
       ·exact aa _ (by assumption)
       ·exact ab (by assumption)
       ·exact h
   exact key _ _ _ h)
theorem mj {c:aw} {a b:ad} (af:az s c= .bool true) (h:ca C a Q s):ca C (.cond c a b) Q s:=by simp only[ca,af,if_true];exact h
theorem sQ {c:aw} {a b:ad} (af:az s c= .bool false) (h:ca C b Q s):ca C (.cond c a b) Q s:=by simp only[ca,af];exact h
theorem Ky {id:Nat} {b:ad} (h:∀cZ:Exit→ag→Prop,(∀s,Q .normal s→cZ .normal s)→(∀s,Q .ret s→cZ .ret s)→(∀s,Q .normal s→cZ (.exit id) s)→(∀i s,i≠id→Q (.exit i) s→cZ (.exit i) s)→ca C b cZ s):ca C (.block id b) Q s:=
 h (qn id Q) (fun _ h=>h) (fun _ h=>h) (fun s h=>by simp only[qn,if_true];exact h) (fun i s ay h=>by simp only[qn,if_neg ay];exact h)
theorem ga {id:Nat} (h:Q (.exit id) s):ca C (.exit id) Q s:=h
theorem bp (h:Q .ret s):ca C .ret Q s:=h
theorem cb (h:Q .normal s):ca C .skip Q s:=h
def e_ (C:bm) (b:ad) (Q:Exit→ag→Prop) (s:ag):Prop:=∀Z:ag→Prop,(∀ao,ca C b (andThen (eo Z) Q) ao→Z ao)→Z s
theorem gb {b:ad} (h:eo (e_ C b Q) s):ca C (.loop b) Q s:=h
theorem Kz {b:ad} (h:∀cZ:Exit→ag→Prop,(∀s,eo (e_ C b Q) s→cZ .normal s)→(∀s,Q .ret s→cZ .ret s)→(∀i s,Q (.exit i) s→cZ (.exit i) s)→ca C b cZ s):e_ C b Q s:=by
 intro Z qp
 refine qp s (Cf b ?_ (h (andThen (eo (e_ C b Q)) Q) (fun _ h=>h) (fun _ h=>h) (fun _ _ h=>h)))
 intro e ao aT
 cases e with
 |normal=>exact qo (fun s h=>h Z qp) ao aT
 |_=>exact aT
theorem cu {cX:List (Nat×I)} (h:cX.map (·.2)=cX.map fun p=>s p.1):sH s cX:=by
 intro p ah
 left
 induction cX with
 |nil=>cases ah
 |cons a cX ih=>
  simp only[List.map_cons,List.cons.injEq]at h
  rcases List.mem_cons.1 ah with rfl|ah
  ·exact h.1
  ·exact ih h.2 ah
end
section
variable {C:bm} {l:List (Nat×I)} {Q:Exit→ag→Prop} {s:ag} {os ros:List bn} {K:Option (List dG)→ag→Prop} {dst:Option Nat}
theorem C5 (l:List (Nat×I)):(∀n,az (R l) (.t n)=gp n (R l n))∧(∀av,az (R l) (.c av)=av)∧(∀g,az (R l) (.f g)= .fn g []):=⟨fun _=>rfl,fun _=>rfl,fun _=>rfl⟩
theorem C6:(∀t,R [] t= .hole)∧(∀u d (l:List (Nat×I)) t,R ((u,d)::l) t=if t=u then d else R l t):=⟨fun _=>rfl,fun _ _ _ _=>rfl⟩
theorem C7 (s:ag):gA [] s=[]∧(∀t k,gA (t::k) s=(t,s t)::gA k s):=⟨rfl,fun _ _=>rfl⟩
theorem C8 (s:ag):(∀d,bS s (some d)=some (d,s))∧(∀s1,hr (some s1)=some (.hole,s1))∧gw s []=[]∧(∀x xs,gw s (x::xs)=az s x::gw s xs)∧hs s []=[]∧(∀k x xs,hs s ((k,x)::xs)=(k,az s x)::hs s xs)∧
  iA s none=none∧(∀x,iA s (some x)=some (az s x))∧(∀b x y,oe s (.bool b) x y=some (if b=true then x else y,s)):=
 ⟨fun _=>rfl,fun _=>rfl,rfl,fun _ _=>rfl,rfl,fun _ _ _=>rfl,rfl,fun _=>rfl,fun b _ _=>by cases b<;>rfl⟩
theorem C9 (C:bm):(∀e d,yv C (.slice e) (some d)=if(C.T e).ok=true∧d.wd=(C.T e).sz then some (.ref d)else none)∧
  (∀y q n e sz xs,sO C y q n (.slice e) (some (.aG sz xs))=if(c1 xs n).isSome=true∧(C.T e).ok=true∧sz=(C.T e).sz then some (.ah y (q++[n.toNat]))else none)∧
  (∀e s xs t,qV C (.slice e) s xs (some t)=if(C.T e).ok=true∧∀d∈xs,d.wd=(C.T e).sz then some (.slice t,s)else none):=
 ⟨fun _ _=>rfl,fun _ _ _ _ _ _=>rfl,fun _ _ _ _=>rfl⟩
theorem C_:(∀b,yt .bool b=some (.bool b))∧(∀c,yu .str (some c)=some (.int .u8 c.toNat))∧(∀s t,qU .str s (some t)=some (.str t,s))∧(∀q d,sP q (some d)=I.sub q d):=
 ⟨fun _=>rfl,fun _=>rfl,fun _ _=>rfl,fun _ _=>rfl⟩
theorem Da (sz bytes:Nat) (z:I):(∀k,ee.ok ⟨.int k,sz,bytes,z⟩=true)∧ee.ok ⟨.bool,sz,bytes,z⟩=true∧ee.ok ⟨.str,sz,bytes,z⟩=true∧(∀e,ee.ok ⟨.ptr e,sz,bytes,z⟩=true)∧(∀e,ee.ok ⟨.slice e,sz,bytes,z⟩=true)∧(∀e,ee.ok ⟨.struct e,sz,bytes,z⟩=true)∧ee.ok ⟨.fn,sz,bytes,z⟩=true:=by
 simp[ee.ok]
theorem Db (sz bytes:Nat) (z:I):(∀k,ee.flat ⟨.int k,sz,bytes,z⟩=true)∧ee.flat ⟨.bool,sz,bytes,z⟩=true∧ee.flat ⟨.str,sz,bytes,z⟩=true∧(∀e,ee.flat ⟨.ptr e,sz,bytes,z⟩=true)∧(∀e,ee.flat ⟨.slice e,sz,bytes,z⟩=true)∧(∀e,ee.flat ⟨.struct e,sz,bytes,z⟩=false)∧ee.flat ⟨.fn,sz,bytes,z⟩=true:=by
 simp[ee.flat]
theorem sR (c:UInt8) (k:IntKind) (al:k≠.i8):k.wrap (c.toNat:Int)=(c.toNat:Int):=by
 have:=c.toNat_lt
 cases k<;>first|(exact(al rfl).elim)|(simp[IntKind.wrap,IntKind.bits,IntKind.signed];try omega)
theorem yy (c:UInt8):IntKind.i64.wrap (c.toNat:Int)=(c.toNat:Int)∧IntKind.u64.wrap (c.toNat:Int)=(c.toNat:Int)∧IntKind.u8.wrap (c.toNat:Int)=(c.toNat:Int)∧IntKind.i32.wrap (c.toNat:Int)=(c.toNat:Int)∧IntKind.u32.wrap (c.toNat:Int)=(c.toNat:Int):=
 ⟨sR c _ (by simp),sR c _ (by simp),sR c _ (by simp),sR c _ (by simp),sR c _ (by simp)⟩
theorem cQ {k:List Nat} {K:ag→Prop} (cX:List (Nat×I)) (h:∀P:List (Nat×I)→Prop,P cX→bL C (R l) ros none (fun _ s=>P (gA k s))) (al:K (R cX)):bL C (R l) ros none (fun _ s=>K (R (gA k s))):=
 h (fun l=>K (R l)) al
theorem uW {k:List Nat} {jX:List (List Nat)} {K:ag→Prop} (cX:List (Nat×I)) (h:∀P:List (Nat×I)→Prop,P cX→bL C (R l) ros (some []) (fun acc s=>jW jX 0 [] (acc.getD []).reverse=true∧P (gA k s))) (al:K (R cX)):
  bL C (R l) ros (some []) (fun acc s=>jW jX 0 [] (acc.getD []).reverse=true∧K (R (gA k s))):=
 h (fun l=>K (R l)) al
theorem bj.KA (aV:C.db) {f:FuncId} {fn:Func} {c:Code} {dF:ad} {fx:List Nat} {as outs:List I} {r:I} (bc:C.P.funcs[f]? =some fn) (J:fn.body=some c)
  (iz:(fn.name== "runtime.NumGoroutine")=false) (U:bR ⟨fn.ntmps,fx⟩ c=some dF.strip) (aQ:as.length≤fn.ntmps)
  (h:∀Q:Exit→ag→Prop,(∀s,eo (Ends C fx fn.results.toList r outs) s→Q .ret s)→(∀s,eo (Ends C fx fn.results.toList r outs) s→Q .normal s)→ca C dF Q (R (num 0 as))) (ah:dF.plain=true:=by kernel_rfl):bj C f as r outs:=by
 refine bj.of_wp aV bc J iz U aQ ?_ ah
 rw[Co]
 exact h _ (fun s h=>⟨.inr rfl,h⟩) (fun s h=>⟨.inl rfl,h⟩)
def Dc:List I→I
 |[d]=>d
 |ds=>.tuple ds
theorem KB {fx:List Nat} {eg:List ResultVar} {r:I} {outs:List I} (ds:List I) (aa:eg.map (ni C s)=ds.map some) (ab:r=Dc ds) (aB:(eg.map hY).Nodup)
  (aP:∀(i:Nat) (o:I),outs[i]? =some o→o= .hole∨(o=s i∧o.eI=true∧i∈fx∧i∉eg.map hY)):Ends C fx eg r outs s:=.inl ⟨ds,aa,by subst ab;cases ds with|nil=>rfl|cons a t=>cases t<;>rfl,aB,aP⟩
theorem KC {fx:List Nat} {eg:List ResultVar}:∀(i:Nat) (o:I),([]:List I)[i]? =some o→o= .hole∨(o=s i∧o.eI=true∧i∈fx∧i∉eg.map hY):=fun i o h=>by simp at h
theorem Dd:∀(as ds:List I),(jw as ds).filter (·.g)=[]
 |[],_=>rfl
 |_::_,[]=>rfl
 |a::as,d::ds=>by simp only[jw,List.filter_cons];exact Dd as ds
theorem yz {f:aw} {args:List aw} {g:FuncId} {caps:List I} {K:List Nat→I→ag→Prop} (ds:List I) (r:I)
  (aa:az (R l) f= .fn g caps) (eK:I.dV caps=true) (gZ:views (R l) (gw (R l) args++caps)=some ds)
  (bb:bj C g ds r []) (bQ:r.res=true) (bT:I.cT (gw (R l) args++caps)=[]∨r.c_=true) (jv:K [] r (R l)):lK C (R l) (.call f args) K:=by
 obtain⟨aF,aJ,aN,bt,bN,bh,ba⟩:=JO _ _ gZ
 refine⟨g,caps,jw (gw (R l) args++caps) ds,r,aa,eK,by rw[aF,uU],fun p ah=>(aN p ah).1,bt,by rw[aJ];exact bb.outs bN.symm,bQ,?_,by rw[bh,ba,Dd];exact jv⟩
 intro aI
 refine⟨?_,fun p ah=>by rw[(aN p ah).2.2.1];rfl⟩
 rcases bT with bT|bT
 ·exfalso
  simp only[hW,List.any_eq_true]at aI
  obtain⟨p,ah,e0⟩:=aI
  have hm:=(aN p ah).2.2.2
  have:p.a.U=[]:=by
   have key:∀(as:List I) (a:I),a∈as→I.cT as=[]→a.U=[]:=by
    intro as
    induction as with
    |nil=>intro a h;cases h
    |cons b as ih=>
     intro a h he
     simp only[I.cT,List.append_eq_nil_iff]at he
     rcases List.mem_cons.1 h with rfl|h
     ·exact he.1
     ·exact ih a h he.2
   exact key _ _ hm bT
  rw[this]at e0;simp at e0
 ·exact bT
theorem fa {f:aw} {args:List aw} {g:FuncId} {caps:List I} {ds:List I} {r:I} (bb:bj C g ds r [])
  (aa:az (R l) f= .fn g caps) (eK:I.dV caps=true) (gZ:views (R l) (gw (R l) args++caps)=some ds)
  (bQ:r.res=true) (bT:I.cT (gw (R l) args++caps)=[]∨r.c_=true)
  (jv:bL C (fin (R l) dst r) os none K):bL C (R l) (⟨dst,.call f args,none⟩::os) none K:=by
 simp only[bL,k4,nk]
 exact yz ds r aa eK gZ bb bQ bT jv
theorem sS {a:List dG} {f:aw} {args:List aw} {g:FuncId} {caps:List I} {ds:List I} {r:I} (bb:bj C g ds r [])
  (aa:az (R l) f= .fn g caps) (eK:I.dV caps=true) (gZ:views (R l) (gw (R l) args++caps)=some ds)
  (bQ:r.res=true) (bT:I.cT (gw (R l) args++caps)=[]∨r.c_=true)
  (jv:bL C (fin (R l) dst r) os (some (gv (R l) (use (R l) (.call f args)) dst [] r::a)) K):bL C (R l) (⟨dst,.call f args,none⟩::os) (some a) K:=by
 simp only[bL,k4,nk]
 exact yz ds r aa eK gZ bb bQ bT jv
theorem h0 {t:Nat} {b:Bool} {f:aw} {args:List aw} {g:FuncId} {caps:List I} {ds:List I} {r:I} (bb:bj C g ds r [])
  (aa:az (R l) f= .fn g caps) (eK:I.dV caps=true) (gZ:views (R l) (gw (R l) args++caps)=some ds)
  (bQ:r.res=true) (bT:I.cT (gw (R l) args++caps)=[]∨r.c_=true)
  (jv:bL C (fin (R l) dst r) os none K):bF C l dst (.call f args) t b os none K (.bool b):=by
 simp only[bF,if_true]
 exact yz ds r aa eK gZ bb bQ bT jv
theorem nm (s:ag):views s []=some []∧(∀d ds,views s (d::ds)=(match view s d,views s ds with|some a,some b=>some (a::b)|_,_=>none))∧
  (∀k n,view s (.int k n)=some (.int k n))∧(∀b,view s (.bool b)=some (.bool b))∧(∀x,view s (.str x)=some (.str x))∧(∀x,view s (.slice x)=some (.slice x))∧(∀x,view s (.ref x)=some (.ref x))∧
  view s .bu=some .bu∧view s .cw=some .cw∧(∀aj,view s (.agg aj)=some (.agg aj))∧(∀f cap,view s (.fn f cap)=(views s cap).map (.fn f)):=by
 refine⟨rfl,fun d ds=> ?_,fun _ _=>rfl,fun _=>rfl,fun _=>rfl,fun _=>rfl,fun _=>rfl,rfl,rfl,fun _=>rfl,fun _ _=>by simp only[view]⟩
 simp only[views];rfl
theorem og {α:Type} {u e:α→I} (h:∀x,(u x).share=e x) (xs:List α):I.shares (xs.map u)=xs.map e:=by
 rw[I.oO];simp[h]
theorem KD {α:Type} {u:α→I} (h:∀x,(u x).c_=true) (xs:List α):I.kn (xs.map u)=true:=by
 induction xs with
 |nil=>rfl
 |cons x xs ih=>simp only[List.map_cons,I.kn,h,ih,Bool.and_self]
def oh (s:ag) (H:List Nat):List (Nat×I)→Prop
 |[]=>True
 |p::l=>(p.2=s p.1∨((s p.1).tree=true∧dC (s p.1) p.2∧p.1∉H))∧oh s H l
theorem ml {cX:List (Nat×I)} (H:List Nat) (kp:I.cT (cX.map (·.2))=H) (h:oh s H cX):sH s cX:=by
 have key:∀(eR:List (Nat×I)),oh s H eR→∀p∈eR,p.2=s p.1∨((s p.1).tree=true∧dC (s p.1) p.2∧p.1∉H):=by
  intro eR
  induction eR with
  |nil=>intro _ p ah;cases ah
  |cons a eR ih=>
   intro h p ah
   rcases List.mem_cons.1 ah with rfl|ah
   ·exact h.1
   ·exact ih h.2 p ah
 have U:∀(eR:List (Nat×I)),∀bJ∈eR,∀u∈bJ.2.U,u∈I.cT (eR.map (·.2)):=by
  intro eR
  induction eR with
  |nil=>intro p ah;cases ah
  |cons a eR ih=>
   intro p ah u hu
   simp only[List.map_cons,I.cT,List.mem_append]
   rcases List.mem_cons.1 ah with rfl|ah
   ·exact .inl hu
   ·exact .inr (ih p ah u hu)
 intro p ah
 rcases key _ h p ah with aa|⟨aa,ab,aB⟩
 ·exact .inl aa
 ·refine .inr ⟨aa,ab,fun bJ cY=>.inl fun hm=>aB ?_⟩
  rw[←kp];exact U cX bJ cY _ hm
theorem mm {H:List Nat}:oh s H []:=trivial
theorem jY {H:List Nat} {t:Nat} {d:I} {cX:List (Nat×I)} (h:d=s t) (aI:oh s H cX):oh s H ((t,d)::cX):=⟨.inl h,aI⟩
theorem mn {H:List Nat} {t:Nat} {d aX:I} {cX:List (Nat×I)} (e:s t=d) (aK:d.tree=true) (ae:dC d aX) (kp:t∉H) (aI:oh s H cX):oh s H ((t,aX)::cX):=⟨.inr ⟨by rw[e];exact aK,by rw[e];exact ae,kp⟩,aI⟩
end
theorem qX {C:bm} {A B:TypeId} {cr:IntKind} (fY:(C.T A).ok=true) (eP:(C.T B).k= .int cr):∀s k n,dR C s A B (.int k n)=some (.int cr (cr.wrap n)):=fun s k n=>Kw C s A B k cr n fY eP
def De:Option I→Option I
 |some (.aG 1 xs)=>(bytesOf xs).map .str
 |_=>none
theorem Df {C:bm} {A B e:TypeId} (fY:(C.T A).k= .slice e) (eP:(C.T B).k= .str) (he:(C.T e).k= .int .u8):
  (∀s xs,dR C s A B (.slice xs)=(bytesOf xs).map .str)∧(∀s,dR C s A B .bu=some (.str []))∧(∀s x q,dR C s A B (.h x q)=De (I.sub q (s x))):=by
 have sj:(C.T A).ok=true:=by simp[ee.ok,fY]
 refine⟨fun s xs=> ?_,fun s=> ?_,fun s x q=> ?_⟩
 ·simp only[dR,sj,fY,eP,he,if_true]
 ·simp only[dR,sj,fY,eP,he,if_true]
 ·simp only[dR,sj,fY,eP,he,if_true]
  rfl
theorem Dg (xs:List I):De (some (.aG 1 xs))=(bytesOf xs).map .str:=rfl
theorem Dh (c:UInt8) (r:List I):bytesOf (ea c::r)=(bytesOf r).map (c::·):=by
 have:=c.toNat_lt
 simp only[ea,bytesOf]
 rw[if_pos (by omega)]
 simp
theorem Di:bytesOf []=some []∧(∀l:List UInt8,bytesOf (l.map ea)=some l)∧(∀(c:UInt8) r,bytesOf (.int .u8 (c.toNat:Int)::r)=(bytesOf r).map (c::·))∧
  (∀m r,bytesOf (.int .u8 (IntKind.u8.wrap m)::r)=(bytesOf r).map (kF m::·)):=
 ⟨rfl,Hg,fun c r=>Dh c r,fun m r=>by rw[←C4];exact Dh _ r⟩
theorem KE {k:IntKind} {b:Int} (h:b≠0):∀a,fC .quo k a k b=some (.int k (k.wrap (a.tdiv b))):=fun _=>Ks h
theorem KF {k:IntKind} {b:Int} (h:b≠0):∀a,fC .rem k a k b=some (.int k (a.tmod b)):=fun _=>Kt h
theorem oi {α:Type} {e:α→I} {n:Nat} (h:∀x,(e x).wd=n):∀xs:List α,(∀d∈xs.map e,d.wd=n)=True:=Kv h
theorem all_cons {P:I→Prop} (d:I) (ds:List I):(∀x∈d::ds,P x)=(P d∧∀x∈ds,P x):=by simp
theorem all_nil {P:I→Prop}:(∀x∈([]:List I),P x)=True:=by simp
def Dj (a b:List UInt8):Option Unit→Option I
 |some _=>some (.str (a++b))
 |none=>none
theorem ht (a b:List UInt8):kk .add a b=Dj a b (fp (a.length+b.length)):=by
 simp only[kk,fp];split<;>rfl
theorem hv (a b:List UInt8) (u:Unit):Dj a b (some u)=some (.str (a++b)):=rfl
theorem Dk:(∀l:List Nat,[]++l=l)∧(∀a (l m:List Nat),(a::l)++m=a::(l++m)):=⟨fun _=>rfl,fun _ _ _=>rfl⟩
def Dl (C:bm) (e a6:TypeId):Bool:=(C.T e).ok&&((C.T e).zero.wd==(C.T e).sz)&&(flat (C.T e).zero).isSome&&ur C e a6
def uX (C:bm) (e:TypeId) (xs:List I):Option (List I×ag)→Option (I×ag)
 |some (bA,s2)=>if(∀d∈bA,d.wd=(C.T e).sz)∧(room (C.T e).bytes (xs.length+bA.length)).isSome=true then some (.aG (C.T e).sz (xs++bA),s2)else none
 |none=>none
def yA (C:bm) (e:TypeId) (y:I) (o:Option Nat):Option (I×ag)→Option (I×ag)
 |some (.aG sz xs,s1)=>if sz=(C.T e).sz then uX C e xs (iw s1 (hQ o y))else none
 |_=>none
theorem KG (b n:Nat):(room b n).isSome=true↔n*b≤140737488355328∧n≤9223372036854775807:=by unfold room;split<;>simp_all
theorem jZ {C:bm} {T a6 e:TypeId} (iL:(C.T T).k= .slice e) (eE:Dl C e a6=true):∀s x y,jq C s T a6 x y=yA C e y x.owner (mc C e s x):=by
 intro s x y
 simp only[Dl,Bool.and_eq_true,beq_iff_eq]at eE
 rw[xM,iL]
 simp only
 rw[if_pos ⟨eE.1.1.1,eE.1.1.2,eE.1.2,eE.2⟩]
 generalize x.owner=o
 cases mc C e s x with
 |none=>rfl
 |some p=>
  obtain⟨d,s1⟩:=p
  cases d<;>first
   |rfl
   |(simp only[yA]
     split
     ·rename_i h;subst h
      generalize iw s1 (hQ o y)=z
      cases z with
      |none=>rfl
      |some p=>simp only[uX,KG]
     ·rfl)
def Dm:Option (I×ag)→Option (List I×ag)
 |some (.aG _ bA,s2)=>some (bA,s2)
 |_=>none
theorem j0 (s:ag):iw s .bu=some ([],s)∧(∀bA,iw s (.slice bA)=some (bA,s))∧(∀l,iw s (.str l)=some (l.map ea,s))∧
  (∀a q,iw s (.h a q)=Dm (bM s (.h a q)))∧(∀n bA,Dm (some (.aG n bA,s))=some (bA,s)):=
 ⟨rfl,fun _=>rfl,fun _=>rfl,fun _ _=>by simp only[iw];rfl,fun _ _=>rfl⟩
theorem j1 (C:bm) (e:TypeId):(∀s,mc C e s .bu=some (.aG (C.T e).sz [],s))∧(∀s a q,mc C e s (.h a q)=bM s (.h a q))∧
  (∀y o sz xs s1,yA C e y o (some (.aG sz xs,s1))=if sz=(C.T e).sz then uX C e xs (iw s1 (hQ o y))else none)∧
  (∀xs bA s2,uX C e xs (some (bA,s2))=if(∀d∈bA,d.wd=(C.T e).sz)∧(room (C.T e).bytes (xs.length+bA.length)).isSome=true then some (.aG (C.T e).sz (xs++bA),s2)else none):=
 ⟨fun _=>rfl,fun _ _ _=>rfl,fun _ _ _ _ _=>rfl,fun _ _ _=>rfl⟩
theorem j2:(∀d,hQ none d=d)∧(∀x d,hQ (some x) d=bo x d)∧(∀x q,I.owner (.h x q)=some x)∧I.owner .bu=none:=
 ⟨fun _=>rfl,fun _ _=>rfl,fun _ _=>rfl,rfl⟩
def Dn (s:ag) (x:Nat) (q:List Nat):Option I→Option (I×ag)
 |some d=>if d.plain=true then none else some (d,cf (fq x s) x (I.put q d.b0 (s x)))
 |none=>none
theorem Dp (s:ag) (x:Nat) (q:List Nat):bM s (.h x q)=Dn s x q (I.sub q (s x)):=by
 simp only[bM];cases I.sub q (s x)<;>rfl
theorem Dq (s:ag):(∀x q d,Dn s x q (some d)=if d.plain=true then none else some (d,cf (fq x s) x (I.put q d.b0 (s x))))∧(∀k n,bM s (.int k n)=some (.int k n,s))∧(∀b,bM s (.bool b)=some (.bool b,s))∧(∀x,bM s (.str x)=some (.str x,s))∧
  (∀x,bM s (.slice x)=some (.slice x,s))∧(∀x,bM s (.ref x)=some (.ref x,s))∧(∀x,bM s (.agg x)=some (.agg x,s))∧bM s .bu=some (.bu,s)∧bM s .cw=some (.cw,s):=
 ⟨fun _ _ _=>rfl,fun _ _=>rfl,fun _=>rfl,fun _=>rfl,fun _=>rfl,fun _=>rfl,fun _=>rfl,rfl,rfl⟩
theorem Dr (l:List (Nat×I)) (t:Nat) (d:I):cf (R l) t d=R ((t,d)::l):=hZ l t d
theorem Ds:(∀n x,I.b0 (.aG n x)= .hole)∧(∀x,I.b0 (.bG x)= .hole)∧(∀aj,I.b0 (.agg aj)= .agg (I.ib aj))∧(∀aj,I.b0 (.tuple aj)= .tuple (I.ib aj))∧I.ib []=[]∧(∀d ds,I.ib (d::ds)=d.b0::I.ib ds)∧
  (∀k n,I.b0 (.int k n)= .int k n)∧(∀b,I.b0 (.bool b)= .bool b)∧(∀x,I.b0 (.str x)= .str x)∧(∀x,I.b0 (.slice x)= .slice x)∧(∀x,I.b0 (.ref x)= .ref x)∧I.b0 .bu= .bu∧I.b0 .cw= .cw∧I.b0 .hole= .hole:=by
 simp[I.b0,I.ib]
def pw:Option I→Option I
 |some d=>(match d with| .tuple _=>none| .b9 _=>none|d=>if d.plain=true then none else some d.share)
 |none=>none
def px:Option I→Option I
 |some d=>(match d with| .tuple _=>none|d=>some (.ref d.share))
 |none=>none
theorem nn (s:ag) (x:Nat) (q:List Nat):view s (.h x q)=pw (I.sub q (s x))∧view s (.ah x q)=(if I.dD q (s x)=true then px (I.sub q (s x))else none):=by
 constructor
 ·simp only[view];rfl
 ·simp only[view];rfl
theorem np:(∀n xs,pw (some (.aG n xs))=some (.slice (I.shares xs)))∧(∀d,pw (some (.bG d))=some (.ref d.share))∧(∀aj,pw (some (.agg aj))=if I.dV aj=true then none else some (.agg (I.shares aj)))∧
  (∀aj,px (some (.agg aj))=some (.ref (.agg (I.shares aj))))∧(∀k n,px (some (.int k n))=some (.ref (.int k n)))∧(∀x,px (some (.str x))=some (.ref (.str x))):=
 ⟨fun _ _=>by simp[pw,I.plain,I.share],fun _=>by simp[pw,I.plain,I.share],fun aj=>by cases h:I.dV aj<;>simp[pw,I.plain,I.share,h],fun _=>by simp[px,I.share],fun _ _=>by simp[px,I.share],fun _=>by simp[px,I.share]⟩
theorem kr:(∀n xs,I.share (.aG n xs)= .slice (I.shares xs))∧(∀d,I.share (.bG d)= .ref d.share)∧(∀xs,I.share (.slice xs)= .slice (I.shares xs))∧(∀d,I.share (.ref d)= .ref d.share)∧(∀aj,I.share (.agg aj)= .agg (I.shares aj))∧(∀aj,I.share (.tuple aj)= .tuple (I.shares aj))∧
  (∀k n,I.share (.int k n)= .int k n)∧(∀b,I.share (.bool b)= .bool b)∧(∀x,I.share (.str x)= .str x)∧I.share .bu= .bu∧I.share .cw= .cw∧I.shares []=[]∧(∀d ds,I.shares (d::ds)=d.share::I.shares ds):=by
 simp[I.share,I.shares]
theorem mo:(∀k n,I.owner (.int k n)=none)∧(∀b,I.owner (.bool b)=none)∧(∀x,I.owner (.str x)=none)∧(∀x,I.owner (.slice x)=none)∧(∀x,I.owner (.ref x)=none)∧(∀x,I.owner (.agg x)=none)∧I.owner .cw=none∧I.owner .bu=none∧(∀x q,I.owner (.h x q)=some x):=
 ⟨fun _ _=>rfl,fun _=>rfl,fun _=>rfl,fun _=>rfl,fun _=>rfl,fun _=>rfl,rfl,rfl,fun _ _=>rfl⟩
end Go.bZ
