/- Part of a proof that a law returns true for every input. No condition. -/
import Derived.Test.YtipllbfpaepajaaGreatDoorFwE
import Derived.Orders
import Derived.KernelRfl
import Derived.Test.YtipllbfpaepajaaGreatDoorFwA
namespace Go.ca
section
variable {C:bt} {w0 w:World} {F0 X:Nat→Prop} {n:Fr} {ρ:Nat→Value} {s s1:aj} {a:Act} {av:I} {Q:Exit→Act→World→Prop}
def br.un (o:br):br:=⟨o.dst,o.bd.base,o.guard⟩
theorem yT {ops:Array Oper}:∀{os:List Oper} {rs:List br},mZ n ops os=some rs→os.length=rs.length∧∀(i:Nat) (o:Oper),os[i]? =some o→∃r,rs[i]? =some r∧mY n ops o=some r:=by
 intro os
 induction os with
 |nil=>intro rs h;simp only[mZ,Option.some.injEq]at h;subst h;exact⟨rfl,fun i o h=>by simp at h⟩
 |cons o os ih=>
  intro rs h
  simp only[mZ]at h
  split at h
  ·rename_i r abC ab ad
   simp only[Option.some.injEq]at h;subst h
   obtain⟨bz,bK⟩:=ih ad
   refine⟨by simp[bz],fun i kX bL=> ?_⟩
   cases i with
   |zero=>simp at bL;subst bL;exact⟨r,rfl,ab⟩
   |succ i=>simpa using bK i kX (by simpa using bL)
  ·cases h
theorem yU {o:Oper} {y:Nat→Option Bool} (h:o.guard=none):Region.wanted o y=true:=by simp[Region.wanted,h]
theorem Kl (h:Rel w0 F0 X n ρ s a w) {ops:Array Oper} {j t:Nat} (b2:(ops[j]?).bind (·.dst)=some t):
  (∀b,s t= .bool b→yielded ops a.tmps j=some b)∧(s t= .tuple []→yielded ops a.tmps j=none):=by
 obtain⟨ae,U,bk,F,S,aD⟩:=h
 have gT:=aD.cj t
 refine⟨fun b R=> ?_,fun R=> ?_⟩
 ·rw[R]at gT
  have aG:=oz gT
  simp only[yielded,b2,Option.bind_some]
  rw[Array.getD_eq_getD_getElem?]at aG
  cases hg:a.tmps[t]? with
  |none=>rw[hg]at aG;simp[undef]at aG
  |some v=>rw[hg]at aG;simp at aG;subst aG;rfl
 ·rw[R]at gT
  obtain⟨⟨arr,ab,ad⟩,_⟩:=(ay.bM (d:=.tuple []) rfl).1 gT
  simp only[yielded,b2,Option.bind_some]
  rw[Array.getD_eq_getD_getElem?]at ab
  cases hg:a.tmps[t]? with
  |none=>rfl
  |some v=>rw[hg]at ab;simp at ab;subst ab;rfl
theorem yV (aU:C.dn) {ops:Array Oper} {ros:List br} {l2:List Nat} {K:aj→Prop} (aW:∀ar bU aw,K ar→Rel w0 F0 X n ρ ar bU aw→wpOps C.P ops Q l2 bU aw):
  ∀(l:List Nat),(∀i∈l,(ops[i]? =none→ros[i]? =none)∧∀o,ops[i]? =some o→∃r,ros[i]? =some r∧mY n ops o=some r.un)→
  ∀(s:aj) (a:Act) (w:World),hC C ros s l K→Rel w0 F0 X n ρ s a w→wpOps C.P ops Q (l++l2) a w:=by
 intro l
 induction l with
 |nil=>intro _ s a w h aD;exact aW s a w h aD
 |cons i l ih=>
  intro oN s a w h aD
  replace ih:=ih fun i aA=>oN i (List.mem_cons_of_mem _ aA)
  rw[List.cons_append]
  simp only[wpOps]
  cases bL:ops[i]? with
  |none=>
   simp only[hC,(oN i (by simp)).1 bL]at h
   exact ih s a w h aD
  |some o=>
   obtain⟨r,ab,ad⟩:=(oN i (by simp)).2 o bL
   simp only[hC,ab]at h
   show(if Region.wanted o (yielded ops a.tmps)=true then o.wp C.P a w (wpOps C.P ops Q (l++l2)) Q∨(o.asks C.P a w∧LetsOut Q)else wpOps C.P ops Q (l++l2) (a.put o.dst undef) w)
   simp only[mY]at ad
   split at ad
   ·rename_i vz
    split at ad
    ·rename_i g hg
     obtain⟨rd,bd,rg⟩:=r
     simp only[br.un,Option.some.injEq,br.mk.injEq]at ad
     obtain⟨rfl,bC,rfl⟩:=ad
     simp only[jz]at h
     have run:∀(bF:aj→Prop),(∀ar,bF ar→hC C ros ar l K)→lP C s bd (fun av s1=>bF (fin s1 o.dst av))→o.wp C.P a w (wpOps C.P ops Q (l++l2)) Q:=
      fun bF hD hw=>Ki aU aD bC vz hw (fun ar bU aw al c1=>ih ar bU aw (hD ar al) c1)
     cases q6:o.guard with
     |none=>
      rw[q6]at hg
      simp only[tl,Option.some.injEq]at hg;subst hg
      simp only at h
      rw[if_pos (yU q6)]
      exact .inl (run _ (fun _ h=>h) h)
     |some yW=>
      obtain⟨j,b⟩:=yW
      rw[q6]at hg
      simp only[tl]at hg
      split at hg
      ·rename_i t aO
       simp only[Option.some.injEq]at hg;subst hg
       simp only at h
       obtain⟨kW,td⟩:=Kl aD aO
       have CQ:∀(bF:hC C ros (fin s o.dst (.tuple [])) l K),wpOps C.P ops Q (l++l2) (a.put o.dst undef) w:=fun bF=>ih _ _ _ bF (Rel.skip aD vz)
       split at h
       ·rename_i dQ U
        have hy:=kW dQ U
        split at h
        ·rename_i R;subst R
         rw[if_pos (by simp[Region.wanted,q6,hy])]
         exact .inl (run _ (fun _ h=>h) h)
        ·rename_i R
         rw[if_neg (by simp[Region.wanted,q6,hy,R])]
         exact CQ h
       ·rename_i U
        have hy:=td U
        rw[if_neg (by simp[Region.wanted,q6,hy])]
        exact CQ h
       ·exact h.elim
      ·cases hg
    ·cases ad
   ·cases ad
theorem CR (aU:C.dn) {ops:Array Oper} {ros:List br} (oO:mZ n ops ops.toList=some (ros.map br.un)) {K:aj→Prop} (aW:∀ar bU aw,K ar→Rel w0 F0 X n ρ ar bU aw→Q .normal bU aw):
  ∀(l:List Nat) (s:aj) (a:Act) (w:World),hC C ros s l K→Rel w0 F0 X n ρ s a w→wpOps C.P ops Q l a w:=by
 obtain⟨hl,oN⟩:=yT oO
 intro l s a w h aD
 have:=yV (Q:=Q) aU (ros:=ros) (ops:=ops) (l2:=[]) (K:=K) (n:=n) (ρ:=ρ) (w0:=w0) (F0:=F0) (X:=X) (fun ar bU aw al c1=>aW ar bU aw al c1) l (fun i _=>⟨fun bL=>by
   rw[List.getElem?_eq_none_iff,←List.length_map (f:=br.un),←hl]
   have:=Array.getElem?_eq_none_iff.1 bL
   simpa using this,fun o bL=>by
   obtain⟨aQ,fB,ad⟩:=oN i o (by simpa using bL)
   obtain⟨r,ab,rfl⟩:∃r,ros[i]? =some r∧r.un=aQ:=by simpa using fB
   exact⟨r,ab,ad⟩⟩) s a w h aD
 rwa [List.append_nil]at this
theorem Rel.drawn (h:Rel w0 F0 X n ρ s a w) (k:Nat) (al:w.drawn≤k):Rel w0 F0 X n ρ s a {w with drawn:=k}:=by
 obtain⟨ab,ad,bk,F,S,aB⟩:=h
 exact⟨ab,ad,bk,F,S,aB.grow (fun _ _=>rfl) (Nat.le_refl _) rfl rfl ⟨rfl,fun _=>al⟩⟩
theorem Km (aU:C.dn) {id:Nat} {ops:Array Oper} {ros:List br} (oO:mZ n ops ops.toList=some (ros.map br.un)) {K:aj→Prop} (aW:∀ar bU aw,K ar→Rel w0 F0 X n ρ ar bU aw→Q .normal bU aw)
  (h:i_ C s ros K) (aD:Rel w0 F0 X n ρ s a w):(Code.region id ops false).wp C.P Q a w:=by
 refine wp_region (CR aU oO aW _ s a w ?_ aD)
 have:=J1 C K ros [] s h
 have hl:=(yT oO).1
 simp only[List.nil_append,List.length_nil,Nat.add_zero,List.map_id']at this
 rw[List.length_map]at hl
 rw[←hl]at this
 simpa using this
end
def yX (mq:List (List Nat)) (l:List Nat):Prop:=
 l.Nodup∧(∀i,i∈l↔i<mq.length)∧∀u i v,l=u++i::v→∀e∈(mq[i]?).getD [],e∈u
def lQ (ops:Array Oper):List (List Nat):=ops.toList.map fun o=>(o.after.toList.filter fun e=>Region.binds .any e).map (·.on)
def tq (mq:List (List Nat)):Bool:=mq.zipIdx.all fun p=>p.1.all fun e=>decide (e<p.2)
theorem Kn {mq:List (List Nat)} (h:tq mq=true) {i:Nat} {l:List Nat} (aA:mq[i]? =some l):∀e∈l,e<i:=by
 intro e he
 simp only[tq,List.all_eq_true]at h
 have:=h (l,i) (by rw[List.mem_zipIdx_iff_getElem?];exact aA) e he
 simpa using this
theorem Ko {ops:Array Oper} (R:tq (lQ ops)=true):∀(fuel t:Nat) (listed:Array Bool),listed.size=ops.size→((List.range ops.size).filter fun i=> !listed.getD i true).length≤fuel→
  (Region.linearise.go .any ops fuel t listed []).Nodup∧(∀i,i∈Region.linearise.go .any ops fuel t listed []↔(i<ops.size∧listed.getD i true=false))∧
   ∀u i v,Region.linearise.go .any ops fuel t listed []=u++i::v→∀e∈((lQ ops)[i]?).getD [],listed.getD e false=true∨e∈u:=by
 intro fuel
 induction fuel with
 |zero=>
  intro t listed U hl
  have s6:((List.range ops.size).filter fun i=> !listed.getD i true)=[]:=List.length_eq_zero_iff.1 (Nat.le_zero.1 hl)
  refine⟨by simp[Region.linearise.go],fun i=> ?_,fun u i v h=>by simp[Region.linearise.go]at h⟩
  simp only[Region.linearise.go,List.reverse_nil,List.not_mem_nil,false_iff,not_and]
  intro aA bk
  have:i∈((List.range ops.size).filter fun i=> !listed.getD i true):=List.mem_filter.2 ⟨List.mem_range.2 aA,by rw[bk];rfl⟩
  rw[s6]at this;cases this
 |succ fuel ih=>
  intro t listed U hl
  have CS:∀i,i∈Region.ready .any ops listed↔(i<ops.size∧listed.getD i true=false∧∀e∈((lQ ops)[i]?).getD [],listed.getD e false=true):=by
   intro i
   simp only[Region.ready,List.mem_filter,List.mem_range,Bool.and_eq_true,Bool.not_eq_true']
   constructor
   ·rintro⟨ab,ad,aB⟩
    refine⟨ab,ad,?_⟩
    rw[Array.getElem?_eq_getElem ab]at aB
    simp only[Option.map_some,Option.getD_some,Array.all_eq_true_iff_forall_mem]at aB
    simp only[lQ,List.getElem?_map,Array.getElem?_toList,Array.getElem?_eq_getElem ab,Option.map_some,Option.getD_some,List.mem_map,List.mem_filter]
    rintro e ⟨x,⟨aq,pN⟩,rfl⟩
    have:=aB x (by simpa using aq)
    simpa [pN]using this
   ·rintro⟨ab,ad,aB⟩
    refine⟨ab,ad,?_⟩
    rw[Array.getElem?_eq_getElem ab]
    simp only[Option.map_some,Option.getD_some,Array.all_eq_true_iff_forall_mem]
    simp only[lQ,List.getElem?_map,Array.getElem?_toList,Array.getElem?_eq_getElem ab,Option.map_some,Option.getD_some,List.mem_map,List.mem_filter]at aB
    intro x aq
    cases pN:Region.binds .any x with
    |false=>simp
    |true=>simpa using aB x.on ⟨x,⟨by simpa using aq,pN⟩,rfl⟩
  have hex:(∃i,i<ops.size∧listed.getD i true=false)→Region.ready .any ops listed≠[]:=by
   rintro⟨i,ab,ad⟩
   have:∃i,(i<ops.size∧listed.getD i true=false)∧∀j,j<i→¬(j<ops.size∧listed.getD j true=false):=by
    induction i using Nat.strongRecOn with
    |_ i Kp=>
     by_cases b2:∃j,j<i∧(j<ops.size∧listed.getD j true=false)
     ·obtain⟨j,Kq,Kr,Ks⟩:=b2
      exact Kp j Kq Kr Ks
     ·exact⟨i,⟨ab,ad⟩,fun j Kt ai=>b2 ⟨j,Kt,ai⟩⟩
   obtain⟨k,⟨bz,bK⟩,df⟩:=this
   have:k∈Region.ready .any ops listed:=(CS k).2 ⟨bz,bK,fun e he=>by
    cases bT:(lQ ops)[k]? with
    |none=>rw[bT]at he;simp at he
    |some l=>
     rw[bT]at he
     have c_:=Kn R bT e he
     have:=df e c_
     rw[not_and]at this
     have:=this (by omega)
     have yY:e<listed.size:=by omega
     simp only[Array.getD_eq_getD_getElem?,Array.getElem?_eq_getElem yY,Option.getD_some]at this⊢
     simpa using this⟩
   intro e;rw[e]at this;cases this
  have CT:Region.linearise.go .any ops (fuel+1) t listed []=(match(Region.ready .any ops listed)[t%(Region.ready .any ops listed).length]? with
   |some i=>Region.linearise.go .any ops fuel (t/(Region.ready .any ops listed).length) (listed.setIfInBounds i true) [i]
   |none=>[]):=rfl
  cases tr:(Region.ready .any ops listed)[t%(Region.ready .any ops listed).length]? with
  |none=>
   have s6:Region.ready .any ops listed=[]:=by
    cases aD:Region.ready .any ops listed with
    |nil=>rfl
    |cons a l=>
     rw[aD]at tr
     have:=List.getElem?_eq_none_iff.1 tr
     have ad:=Nat.mod_lt t (show 0<(a::l).length by simp)
     omega
   rw[CT,tr]
   refine⟨by simp,fun i=> ?_,fun u i v h=>by simp at h⟩
   simp only[List.not_mem_nil,false_iff]
   intro aA
   exact hex ⟨i,aA⟩ s6
  |some i=>
   have aA:=(CS i).1 (List.mem_of_getElem? tr)
   obtain⟨ts,CU,Ku⟩:=aA
   rw[CT,tr]
   simp only
   rw[linearise_go_acc]
   simp only[List.reverse_singleton,List.singleton_append]
   have oy:∀j d,(listed.setIfInBounds i true).getD j d=if j=i then true else listed.getD j d:=by
    intro j d
    split
    ·rename_i e;subst e
     simp[Array.getD_eq_getD_getElem?,Array.getElem?_setIfInBounds_self_of_lt (show j<listed.size by omega)]
    ·rename_i e
     simp[Array.getD_eq_getD_getElem?,Array.getElem?_setIfInBounds_ne (fun h=>e h.symm)]
   obtain⟨g1,g2,g3⟩:=ih (t/(Region.ready .any ops listed).length) (listed.setIfInBounds i true) (by simpa using U) (by
    have dx:((List.range ops.size).filter fun j=> !(listed.setIfInBounds i true).getD j true)=((List.range ops.size).filter fun i=> !listed.getD i true).filter fun j=>decide (j≠i):=by
     rw[List.filter_filter]
     apply List.filter_congr
     intro j _
     rw[oy]
     by_cases e:j=i<;>simp[e]
    rw[dx]
    have c_:(((List.range ops.size).filter fun i=> !listed.getD i true).filter fun j=>decide (j≠i)).length<((List.range ops.size).filter fun i=> !listed.getD i true).length:=by
     rw[List.length_filter_lt_length_iff_exists]
     exact⟨i,List.mem_filter.2 ⟨List.mem_range.2 ts,by rw[CU];rfl⟩,by simp⟩
    omega)
   refine⟨?_,fun j=> ?_,?_⟩
   ·rw[List.nodup_cons]
    refine⟨fun hm=> ?_,g1⟩
    have:=((g2 i).1 hm).2
    rw[oy,if_pos rfl]at this;cases this
   ·rw[List.mem_cons,g2,oy]
    by_cases e:j=i
    ·subst e;simp[ts,CU]
    ·simp[e]
   ·intro u j v h e he
    cases u with
    |nil=>
     simp only[List.nil_append,List.cons.injEq]at h
     obtain⟨rfl,rfl⟩:=h
     exact .inl (Ku e he)
    |cons vA u=>
     simp only[List.cons_append,List.cons.injEq]at h
     obtain⟨rfl,h⟩:=h
     rcases g3 u j v h e he with aS|aS
     ·rw[oy]at aS
      split at aS
      ·rename_i eG;subst eG;exact .inr (by simp)
      ·exact .inl aS
     ·exact .inr (by simp[aS])
theorem Kv {ops:Array Oper} (R:tq (lQ ops)=true) (t:Nat):yX (lQ ops) (Region.linearise .any ops t):=by
 have CV:∀i d,i<ops.size→(Array.replicate ops.size false).getD i d=false:=by
  intro i d aA
  simp[Array.getD_eq_getD_getElem?,aA]
 obtain⟨g1,g2,g3⟩:=Ko R ops.size t (Array.replicate ops.size false) (by simp) (by
  have:=List.length_filter_le (fun i=> !(Array.replicate ops.size false).getD i true) (List.range ops.size)
  simpa using this)
 have hlen:(lQ ops).length=ops.size:=by simp[lQ]
 refine⟨g1,fun i=> ?_,fun u i v h e he=> ?_⟩
 ·rw[hlen]
  rw[show Region.linearise .any ops t=Region.linearise.go .any ops ops.size t (Array.replicate ops.size false) []from rfl,g2]
  exact⟨fun h=>h.1,fun h=>⟨h,CV i true h⟩⟩
 ·rcases g3 u i v h e he with aS|aS
  ·exfalso
   by_cases CW:e<ops.size
   ·rw[CV e false CW]at aS;cases aS
   ·simp[Array.getD_eq_getD_getElem?,CW]at aS
  ·exact aS
def J:List (Nat×I)→aj
 |[],_=>.hole
 |(u,d)::l,t=>if t=u then d else J l t
mutual
inductive dJ:I→I→Prop
 |refl (d:I):dJ d d
 |ib (sz:Nat):dJ .bD (.aE sz [])
 |q7:dJ .bD (.slice [])
 |any (b:Bool):dJ (.bool b) .dk
 |share (d:I):d.tree=true→(∀vs,d≠.tuple vs)→(∀o,d≠.cH o)→dJ d d.share
 |agg {ds es:List I}:ic ds es→dJ (.agg ds) (.agg es)
 |a_ {d e:I}:dJ d e→dJ (.a_ d) (.a_ e)
 |aE {sz:Nat} {ds es:List I}:ic ds es→dJ (.aE sz ds) (.aE sz es)
 |tuple {ds es:List I}:ic ds es→dJ (.tuple ds) (.tuple es)
 |ref {d e:I}:dJ d e→dJ (.ref d) (.ref e)
 |trans {d e f:I}:dJ d e→dJ e f→dJ d f
inductive ic:List I→List I→Prop
 |nil:ic [] []
 |cons {d e:I} {ds es:List I}:dJ d e→ic ds es→ic (d::ds) (e::es)
end
mutual
theorem dJ.wd:∀{d e:I},dJ d e→e.wd=d.wd
 |_,_,.refl _=>rfl
 |_,_,.ib _=>rfl
 |_,_,.q7=>rfl
 |_,_,.any _=>rfl
 |_,_,.share d _ _ _=>I.u1 d
 |_,_,.agg h=>by simp only[I.wd];exact ic.wd h
 |_,_,.a_ _=>rfl
 |_,_,.aE _=>rfl
 |_,_,.tuple h=>by simp only[I.wd];exact ic.wd h
 |_,_,.ref _=>rfl
 |_,_,.trans h k=>(dJ.wd k).trans (dJ.wd h)
theorem ic.wd:∀{ds es:List I},ic ds es→I.cO es=I.cO ds
 |_,_,.nil=>rfl
 |_,_,.cons h U=>by simp only[I.cO];rw[dJ.wd h,ic.wd U]
end
theorem ic.len {ds es:List I} (h:ic ds es):es.length=ds.length:=by
 induction ds generalizing es with
 |nil=>cases h;rfl
 |cons d ds ih=>cases h with|cons h U=>simp[ih U]
theorem ic.all {sz:Nat} {ds es:List I} (h:ic ds es) (ae:∀d∈ds,d.wd=sz):∀d∈es,d.wd=sz:=by
 induction ds generalizing es with
 |nil=>cases h;intro d ae;cases ae
 |cons d ds ih=>
  cases h with
  |cons h U=>
   intro x aq
   rcases List.mem_cons.1 aq with rfl|aq
   ·rw[h.wd];exact ae d (by simp)
   ·exact ih U (fun d hm=>ae d (by simp[hm])) x aq
section
variable {w0 w:World} {F0 X F:Nat→Prop} {S:Nat→Nat→Prop} {s ar:aj} {ao:Nat→Value}
def Kw (w:World) (F:Nat→Prop) (_d e:I) (cs:List Value) (S:Nat→Prop):Prop:=
 ∃fQ fR:Nat→Prop,(∀b,fQ b→S b)∧(∀b,fR b→S b)∧(∀b,fR b→¬fQ b)∧∀bf,(∀b,F b∨fQ b→bf b)→an w bf e cs fR
mutual
theorem an.wider:∀{d e:I},dJ d e→∀{F:Nat→Prop} {cs:List Value} {S:Nat→Prop},an w F d cs S→Kw w F d e cs S
 |_,_,.refl _,F,cs,S,h=>⟨fun _=>False,S,fun _ h=>h.elim,fun _ h=>h,fun _ _ h=>h,fun bf a1=>an.mono (fun b R=>a1 b (.inl R)) _ _ _ _ (fun _ h=>h) h⟩
 | .bD,_,.ib sz,F,cs,S,h=>⟨fun _=>False,S,fun _ h=>h.elim,fun _ h=>h,fun _ _ h=>h,fun bf a1=>by simp only[an]at h⊢;exact .inl ⟨trivial,_,h⟩⟩
 | .bD,_,.q7,F,cs,S,h=>⟨fun _=>False,S,fun _ h=>h.elim,fun _ h=>h,fun _ _ h=>h,fun bf a1=>by simp only[an]at h⊢;exact .inl ⟨trivial,none,0,h,Nat.zero_le _,fun _=>rfl⟩⟩
 | .bool _,_,.any b,F,cs,S,h=>⟨fun _=>False,S,fun _ h=>h.elim,fun _ h=>h,fun _ _ h=>h,fun bf a1=>by simp only[an]at h⊢;exact⟨b,h⟩⟩
 |_,_,.share d _ _ _,F,cs,S,h=>⟨S,fun _=>False,fun _ h=>h,fun _ h=>h.elim,fun _ h=>h.elim,fun bf a1=>an.shared (fun b R=>a1 b (.inl R)) d cs S (fun b R=>a1 b (.inr R)) h⟩
 |_,_,.agg hB,F,cs,S,h=>by
  rw[an]at h
  obtain⟨fQ,fR,ab,ad,aB,aR⟩:=aN.wider hB h
  exact⟨fQ,fR,ab,ad,aB,fun bf a1=>by rw[an];exact aR bf a1⟩
 |_,_,.a_ ae,F,cs,S,h=>by
  rw[an]at h
  obtain⟨b,cur,ty,fr,aF,bz,bK,df,cx,dB,dZ,gu⟩:=h
  obtain⟨fQ,fR,ab,ad,aB,aR⟩:=an.wider ae dB
  refine⟨fQ,fun c=>c=b∨fR c,fun c ai=>dZ c (ab c ai),?_,?_,fun bf a1=> ?_⟩
  ·rintro c (rfl|ai)
   ·exact bK
   ·exact dZ c (ad c ai)
  ·rintro c (rfl|ai) bk
   ·exact gu (ab _ bk)
   ·exact aB c ai bk
  ·rw[an]
   exact⟨b,cur,ty,fr,fR,bz,.inl rfl,df,cx,aR bf a1,fun c ai=>.inr ai,fun ai=>gu (ad _ ai)⟩
 | .aE sz ds,.aE _ es,.aE hB,F,cs,S,h=>by
   rw[an]at h
   have hl:=hB.len
   rcases h with⟨ab,ad⟩|⟨b,cap,cur,ty,fr,aF,bz,bK,df,cx,dB,dZ,gu,gZ,hT,kT,CX⟩
   ·refine⟨fun _=>False,S,fun _ h=>h.elim,fun _ h=>h,fun _ _ h=>h,fun bf _=> ?_⟩
    rw[an]
    subst ab
    exact .inl ⟨List.length_eq_zero_iff.1 (by simpa using hl),ad⟩
   ·obtain⟨fQ,fR,ab,ad,aB,aR⟩:=aN.wider hB hT
    refine⟨fQ,fun c=>c=b∨fR c,fun c ai=>kT c (ab c ai),?_,?_,fun bf a1=> ?_⟩
    ·rintro c (rfl|ai)
     ·exact bK
     ·exact kT c (ad c ai)
    ·rintro c (rfl|ai) bk
     ·exact CX (ab _ bk)
     ·exact aB c ai bk
    ·rw[an]
     refine .inr ⟨b,cap,cur,ty,fr,fR,by rw[hl];exact bz,.inl rfl,df,cx,by rw[hl];exact dB,dZ,gu,hB.all gZ,by rw[hl];exact aR bf a1,fun c ai=>.inr ai,fun ai=>CX (ad _ ai)⟩
 |_,_,.tuple hB,F,cs,S,h=>by
  rw[an]at h
  obtain⟨fQ,fR,ab,ad,aB,aR⟩:=aN.wider hB h
  exact⟨fQ,fR,ab,ad,aB,fun bf a1=>by rw[an];exact aR bf a1⟩
 |_,_,.ref ae,F,cs,S,h=>by
  rw[an]at h
  obtain⟨b,o,cU,ab,ad,aB,aR⟩:=h
  obtain⟨fQ,fR,bz,bK,df,cx⟩:=an.wider ae aR
  refine⟨fun _=>False,S,fun _ h=>h.elim,fun _ h=>h,fun _ _ h=>h,fun bf a1=> ?_⟩
  rw[an]
  exact⟨b,o,cU,ab,a1 _ (.inl ad),aB,an.mono (fun _ h=>h) _ _ _ _ (fun b R=>bK b R) (cx bf fun b R=>a1 b (R.imp id fun h=>(bz b h).elim))⟩
 |_,_,.trans ae he,F,cs,S,h=>by
  obtain⟨fQ,fR,ab,ad,aB,aR⟩:=an.wider ae h
  obtain⟨yZ,vB,bz,bK,df,cx⟩:=an.wider he (F:=fun b=>F b∨fQ b) (aR _ fun _ h=>h)
  refine⟨fun b=>fQ b∨yZ b,vB,?_,fun b R=>ad b (bK b R),?_,fun bf a1=>cx bf fun b R=> ?_⟩
  ·rintro b (h|h)
   ·exact ab b h
   ·exact ad b (bz b h)
  ·rintro b R (h|h)
   ·exact aB b (bK b R) h
   ·exact df b R h
  ·rcases R with(R|R)|R
   ·exact a1 b (.inl R)
   ·exact a1 b (.inr (.inl R))
   ·exact a1 b (.inr (.inr R))
theorem aN.wider:∀{ds es:List I},ic ds es→∀{F:Nat→Prop} {cs:List Value} {S:Nat→Prop},aN w F ds cs S→
  ∃fQ fR:Nat→Prop,(∀b,fQ b→S b)∧(∀b,fR b→S b)∧(∀b,fR b→¬fQ b)∧∀bf,(∀b,F b∨fQ b→bf b)→aN w bf es cs fR
 |_,_,.nil,F,cs,S,h=>⟨fun _=>False,fun _=>False,fun _ h=>h.elim,fun _ h=>h.elim,fun _ h=>h.elim,fun bf a1=>by rw[aN]at h⊢;exact h⟩
 |_,_,.cons ae hB,F,cs,S,h=>by
  rw[aN]at h
  obtain⟨bJ,c2,bo,cu,rfl,g2,g3,g4,g5,g6⟩:=h
  obtain⟨Kx,CY,ah,a2,a3,a4⟩:=an.wider ae g2
  obtain⟨yZ,vB,jR,gQ,jw,cY⟩:=aN.wider hB g3
  refine⟨fun b=>Kx b∨yZ b,fun b=>CY b∨vB b,?_,?_,?_,fun bf a1=> ?_⟩
  ·rintro b (h|h)
   ·exact g4 b (ah b h)
   ·exact g5 b (jR b h)
  ·rintro b (h|h)
   ·exact g4 b (a2 b h)
   ·exact g5 b (gQ b h)
  ·rintro b (h|h) (aS|aS)
   ·exact a3 b h aS
   ·exact g6 b (a2 b h) (jR b aS)
   ·exact g6 b (ah b aS) (gQ b h)
   ·exact jw b h aS
  ·rw[aN]
   refine⟨bJ,c2,CY,vB,rfl,a4 bf (fun b R=>a1 b (R.imp id .inl)),cY bf (fun b R=>a1 b (R.imp id .inr)),fun b R=>.inl R,fun b R=>.inr R,fun b ab ad=>g6 b (a2 b ab) (gQ b ad)⟩
end
theorem dJ.vC:∀{d e:I},dJ d e→(∀vs,d≠.tuple vs)→∀vs,e≠.tuple vs
 |_,_,.refl _,h=>h
 |_,_,.ib _,_=>fun _ h=>by cases h
 |_,_,.q7,_=>fun _ h=>by cases h
 |_,_,.any _,_=>fun _ h=>by cases h
 |_,_,.share d _ _ _,h=>fun vs he=>by cases d<;>first|(cases he;done)|exact h _ rfl
 |_,_,.agg _,_=>fun _ h=>by cases h
 |_,_,.a_ _,_=>fun _ h=>by cases h
 |_,_,.aE _,_=>fun _ h=>by cases h
 |_,_,.tuple _,h=>fun _ _=>h _ rfl
 |_,_,.ref _,_=>fun _ h=>by cases h
 |_,_,.trans h k,aW=>dJ.vC k (dJ.vC h aW)
theorem dJ.fY:∀{d e:I} {v:Value},dJ d e→(∀vs,d≠.tuple vs)→ca.fY d v→ca.fY e v
 |_,_,_,.refl _,_,h=>h
 |_,_,_,.ib _,_,h=>h
 |_,_,_,.q7,_,h=>h
 |_,_,_,.any _,_,h=>h
 |_,_,_,.share d _ aW _,_,h=>by cases d<;>first|exact h|exact(aW _ rfl).elim
 |_,_,_,.agg _,_,h=>h
 |_,_,_,.a_ _,_,h=>h
 |_,_,_,.aE _,_,h=>h
 |_,_,_,.tuple _,aW,_=>(aW _ rfl).elim
 |_,_,_,.ref _,_,h=>h
 |_,_,_,.trans h k,aW,U=>dJ.fY k (dJ.vC h aW) (dJ.fY h aW U)
theorem ic.get:∀{ds es:List I},ic ds es→∀(k:Nat) (e:I),es[k]? =some e→∃d,ds[k]? =some d∧dJ d e
 |_,_,.nil,k,e,h=>by simp at h
 |_,_,.cons ae U,0,e,h=>by simp at h;subst h;exact⟨_,rfl,ae⟩
 |_,_,.cons ae U,k+1,e,h=>ic.get U k e (by simpa using h)
theorem dJ.cA:∀{d e:I} {v:Value},dJ d e→ca.cA d v→ca.cA e v
 |_,_,_,.refl _,U=>U
 |_,_,_,.ib _,U=>U
 |_,_,_,.q7,U=>U
 |_,_,_,.any _,U=>U
 |_,_,_,.share _ _ kt _,U=>yG kt U
 |_,_,_,.agg _,U=>U
 |_,_,_,.a_ _,U=>U
 |_,_,_,.aE _,U=>U
 |_,_,_,.ref _,U=>U
 |_,_,_,.tuple ae,U=>by
  obtain⟨arr,ab,ad,aB⟩:=U
  refine⟨arr,ab,ad.trans ae.len.symm,fun k e x he aq=> ?_⟩
  obtain⟨d,al,hw⟩:=ae.get k e he
  obtain⟨ah,a2,a3⟩:=aB k d x al aq
  exact⟨hw.fY a2 ah,hw.vC a2,a3.trans hw.wd.symm⟩
 |_,_,_,.trans h k,U=>dJ.cA k (dJ.cA h U)
theorem dJ.tree:∀{d e:I},dJ d e→d.tree=true→e.tree=true
 |_,_,.refl _,ae=>ae
 |_,_,.ib _,_=>rfl
 |_,_,.q7,_=>rfl
 |_,_,.any _,_=>rfl
 |_,_,.share d _ _ iu,ae=>by cases d<;>first|exact ae|rfl|exact(iu _ rfl).elim
 |_,_,.agg _,_=>rfl
 |_,_,.a_ _,_=>rfl
 |_,_,.aE _,_=>rfl
 |_,_,.tuple _,_=>rfl
 |_,_,.ref _,_=>rfl
 |_,_,.trans h k,ae=>dJ.tree k (dJ.tree h ae)
mutual
def I.pW:I→List Nat
 | .h x q=>if q.isEmpty then []else [x]
 | .ak x _=>[x]
 | .R x _=>[x]
 | .fn _ cap=>I.tt cap
 |_=>[]
def I.tt:List I→List Nat
 |[]=>[]
 |d::ds=>d.pW++I.tt ds
end
def tu (s ar:aj) (x:Nat) (D:List Nat):Prop:=ar x=s x∨ar x= .hole∨((s x).own=true∧(ar x).own=true∧x∉D)
theorem tu.less {s ar:aj} {x:Nat} {D E:List Nat} (h:tu s ar x D) (y0:∀u∈E,u∈D):tu s ar x E:=by
 rcases h with h|h|⟨ab,ad,aB⟩
 ·exact .inl h
 ·exact .inr (.inl h)
 ·exact .inr (.inr ⟨ab,ad,fun aq=>aB (y0 x aq)⟩)
theorem ay.keep {bf:Nat→Prop} (a1:∀b,F b→bf b):∀n,(∀(d:I) (v:Value) (cE:Nat→Prop),SizeOf.sizeOf d≤n→(∀x∈d.U,tu s ar x d.pW)→ay w F s ao d v cE→ay w bf ar ao d v cE)∧
  (∀(ds:List I) (vs:List Value),SizeOf.sizeOf ds≤n→(∀x∈I.cZ ds,tu s ar x (I.tt ds))→cL w F s ao ds vs→cL w bf ar ao ds vs):=by
 intro n
 induction n with
 |zero=>
  refine⟨fun d v cE bp=> ?_,fun ds vs bp=> ?_⟩
  ·cases d<;>simp at bp<;>omega
  ·cases ds<;>simp at bp<;>omega
 |succ n ih=>
  refine⟨fun d v cE bp al h=> ?_,fun ds vs bp al h=> ?_⟩
  ·cases d with
   |hole=>rw[ay];trivial
   |h x q=>
    rw[ay]at h⊢
    intro e dx ak
    rcases al x (by simp[I.U])with he|he|⟨CZ,Ky,tv⟩
    ·rw[he]at dx⊢;exact h e dx ak
    ·rw[he]at dx
     cases q with
     |nil=>simp only[I.sub,Option.some.injEq]at dx;subst dx;simp[I.plain]at ak
     |cons k q=>simp[I.sub]at dx
    ·cases q with
     |nil=>
      simp only[I.sub,Option.some.injEq]at dx
      subst dx
      obtain⟨bR,a0,ee,e7,fX⟩:=h (s x) (by simp only[I.sub]) (nV CZ).1
      simp only[cg,Option.some.injEq,Prod.mk.injEq,true_and]at ee
      exact⟨bx (ao x),none,by simp only[cg],by rw[e7,←ee.1],((nV Ky).2.2.2.2.2 _).2 (((nV CZ).2.2.2.2.2 _).1 fX)⟩
     |cons k q=>exact(tv (by simp[I.pW])).elim
   |ak x q=>
    rw[ay]at h⊢
    intro e dx ai
    rcases al x (by simp[I.U])with he|he|⟨_,_,tv⟩
    ·rw[he]at dx ai⊢;exact h e dx ai
    ·rw[he]at ai
     cases q<;>simp[I.dL]at ai
    ·exact(tv (by simp[I.pW])).elim
   |R x k=>
    rw[ay]at h⊢
    intro ak
    rcases al x (by simp[I.U])with he|he|⟨_,_,tv⟩
    rotate_left 2
    ·exact(tv (by simp[I.pW])).elim
    ·rw[he]at ak
     obtain⟨b,cur,e,fr,ab,ad,aB,aR⟩:=h ak
     exact⟨b,cur,e,fr,ab,a1 b ad,aB,aR⟩
    ·rw[he]at ak;simp[I.plain]at ak
   |fn f cap=>
    rw[ay]at h⊢
    obtain⟨arr,rfl,ai⟩:=h
    exact⟨arr,rfl,ih.2 _ _ (by simp at bp;omega) (by simpa [I.U,I.pW]using al) ai⟩
   |_=>
    have aS:=(ay.bM rfl).1 h
    exact(ay.bM rfl).2 ⟨aS.1,an.mono a1 _ _ _ _ (fun _ h=>h) aS.2⟩
  ·cases ds with
   |nil=>rw[cL]at h⊢;exact h
   |cons d ds=>
    rw[cL]at h⊢
    obtain⟨v,hj,rfl,ab,ad⟩:=h
    simp at bp
    simp only[I.cZ,List.mem_append]at al
    exact⟨v,hj,rfl,ih.1 _ _ _ (by omega) (fun x aq=>(al x (.inl aq)).less fun u hu=>by simp[I.tt,hu]) ab,ih.2 _ _ (by omega) (fun x aq=>(al x (.inr aq)).less fun u hu=>by simp[I.tt,hu]) ad⟩
def tw (s:aj) (l:List (Nat×I)):Prop:=
 ∀p∈l,p.2=s p.1∨((s p.1).tree=true∧dJ (s p.1) p.2∧∀bQ∈l,p.1∉bQ.2.U∨((s p.1).own=true∧p.2.own=true∧p.1∉bQ.2.pW))
theorem C0:∀(l:List (Nat×I)) (t:Nat),J l t= .hole∨∃p∈l,p.1=t∧J l t=p.2:=by
 intro l
 induction l with
 |nil=>intro t;exact .inl rfl
 |cons p l ih=>
  intro t
  obtain⟨u,d⟩:=p
  simp only[J]
  split
  ·rename_i e;exact .inr ⟨(u,d),by simp,e.symm,rfl⟩
  ·rcases ih t with h|⟨p,ak,h⟩
   ·exact .inl h
   ·exact .inr ⟨p,by simp[ak],h⟩
theorem bb.Kz (h:bb w0 F0 X F S s ao w) {l:List (Nat×I)} (hw:tw s l):∃bf aF,bb w0 F0 X bf aF (J l) ao w:=by
 have each:∀t,∃fQ fR:Nat→Prop,(∀b,fQ b→S t b)∧(∀b,fR b→S t b)∧(∀b,fR b→¬fQ b)∧∀bf,(∀b,F b∨fQ b→bf b)→ay w bf (J l) ao (J l t) (ao t) fR:=by
  intro t
  rcases C0 l t with e|⟨p,ak,rfl,e⟩
  ·exact⟨fun _=>False,fun _=>False,fun _ h=>h.elim,fun _ h=>h.elim,fun _ h=>h.elim,fun bf _=>by rw[e,ay];trivial⟩
  ·rw[e]
   rcases hw p ak with al|⟨aO,h4,_⟩
   ·refine⟨fun _=>False,S p.1,fun _ h=>h.elim,fun _ h=>h,fun _ _ h=>h,fun bf a1=> ?_⟩
    rw[al]
    refine(ay.keep (fun b R=>a1 b (.inl R)) (SizeOf.sizeOf (s p.1))).1 _ _ _ (Nat.le_refl _) ?_ (h.cj p.1)
    intro x aq
    rcases C0 l x with eG|⟨bQ,c7,rfl,eG⟩
    ·exact .inr (.inl eG)
    ·rcases hw bQ c7 with jv|⟨_,_,iu⟩
     ·exact .inl (eG.trans jv)
     ·rcases iu p ak with iu|⟨kY,mj,vv⟩
      ·exact(iu (by rw[al];exact aq)).elim
      ·exact .inr (.inr ⟨kY,by rw[eG];exact mj,by rw[al]at vv;exact vv⟩)
   ·obtain⟨g1,g2⟩:=(ay.bM aO).1 (h.cj p.1)
    obtain⟨fQ,fR,bz,bK,df,cx⟩:=an.wider h4 g2
    exact⟨fQ,fR,bz,bK,df,fun bf a1=>(ay.bM (h4.tree aO)).2 ⟨h4.cA g1,cx bf a1⟩⟩
 have bJ:=fun t=>(each t).choose_spec
 let fQ:=fun t=>(each t).choose
 have c2:=fun t=>(bJ t).choose_spec
 let fR:=fun t=>(bJ t).choose
 have e_:∀t b,fQ t b→S t b:=fun t=>(c2 t).1
 have eB:∀t b,fR t b→S t b:=fun t=>(c2 t).2.1
 have gR:∀t b,fR t b→¬fQ t b:=fun t=>(c2 t).2.2.1
 have gS:=fun t=>(c2 t).2.2.2
 refine⟨fun b=>F b∨∃t,fQ t b,fR,fun b R=>.inl (h.e3 b R),?_,?_,fun t b R=>h.de t b (eB t b R),?_,fun t u b cI R hu=>h.dA t u b cI (eB t b R) (eB u b hu),fun t b R=>h.cE t b (eB t b R),?_,h.old,h.size,h.os,h.tape,h.output,h.eT⟩
 ·rintro b (R|⟨t,R⟩)
  ·exact h.fh b R
  ·exact .inr (h.cE t b (e_ t b R))
 ·rintro b (R|⟨t,R⟩)
  ·exact h.dH b R
  ·exact h.de t b (e_ t b R)
 ·rintro t b R (bk|⟨u,hu⟩)
  ·exact h.dY t b (eB t b R) bk
  ·by_cases e:t=u
   ·subst e;exact gR t b R hu
   ·exact h.dA t u b e (eB t b R) (e_ u b hu)
 ·intro t
  exact gS t _ (fun b R=>R.imp id fun h=>⟨t,h⟩)
end
inductive aa where
 |skip
 |b9 (ros:List br) (keep:Option (List Nat))
 |ja (ros:List br) (mq:List (List Nat)) (keep:Option (List Nat))
 |seq (a b:aa)
 |cond (c:ax) (a b:aa)
 |block (id:Nat) (b:aa)
 |loop (b:aa)
 |exit (id:Nat)
 |ret
 |hE (T:(Exit→aj→Prop)→aj→Prop) (b:aa)
def bS (n:Fr):Code→Option aa
 | .skip=>some .skip
 | .region _ ops false=>(mZ n ops ops.toList).map fun r=>.b9 r none
 | .region _ ops true=>if tq (lQ ops)=true then(mZ n ops ops.toList).map fun r=>.ja r (lQ ops) none else none
 | .seq a b=>match bS n a,bS n b with
   |some a,some b=>some (.seq a b)
   |_,_=>none
 | .cond c a b=>match cv c,bS n a,bS n b with
   |some c,some a,some b=>some (.cond c a b)
   |_,_,_=>none
 | .block id b=>(bS n b).map (.block id)
 | .loop b=>(bS n b).map .loop
 | .exit id=>some (.exit id)
 | .ret=>some .ret
 |_=>none
def aa.jb:aa→aa
 | .b9 ros _=>.b9 ros none
 | .ja ros eL _=>.ja ros eL none
 | .seq a b=>.seq a.jb b.jb
 | .cond c a b=>.cond c a.jb b.jb
 | .block id b=>.block id b.jb
 | .loop b=>.loop b.jb
 | .hE T b=>.hE T b.jb
 |c=>c
def aa.strip:aa→aa
 | .b9 ros _=>.b9 (ros.map br.un) none
 | .ja ros eL _=>.ja (ros.map br.un) eL none
 | .seq a b=>.seq a.strip b.strip
 | .cond c a b=>.cond c a.strip b.strip
 | .block id b=>.block id b.strip
 | .loop b=>.loop b.strip
 | .hE _ b=>b.strip
 |c=>c
theorem aa.C1:∀c:aa,c.jb.strip=c.strip:=by
 intro c
 induction c with
 |seq a b hF hG=>simp only[aa.jb,aa.strip,hF,hG]
 |cond c a b hF hG=>simp only[aa.jb,aa.strip,hF,hG]
 |block id b ih=>simp only[aa.jb,aa.strip,ih]
 |loop b ih=>simp only[aa.jb,aa.strip,ih]
 |hE T b ih=>simp only[aa.jb,aa.strip,ih]
 |_=>rfl
def aa.bare (H:((Exit→aj→Prop)→aj→Prop)→aa→Prop):aa→Prop
 | .b9 _ k=>k=none
 | .ja _ _ k=>k=none
 | .seq a b=>a.bare H∧b.bare H
 | .cond _ a b=>a.bare H∧b.bare H
 | .block _ b=>b.bare H
 | .loop b=>b.bare H
 | .hE T b=>H T b
 |_=>True
def aa.nc (H:((Exit→aj→Prop)→aj→Prop)→aa→Prop):aa→Prop
 | .seq a b=>a.nc H∧b.nc H
 | .cond _ a b=>a.nc H∧b.nc H
 | .block _ b=>b.nc H
 | .loop b=>b.nc H
 | .hE T b=>H T b.jb
 |_=>True
theorem aa.C2 {H:((Exit→aj→Prop)→aj→Prop)→aa→Prop}:∀c:aa,c.nc H→c.jb.bare H:=by
 intro c
 induction c with
 |seq a b hF hG=>intro h;exact⟨hF h.1,hG h.2⟩
 |cond c a b hF hG=>intro h;exact⟨hF h.1,hG h.2⟩
 |block id b ih=>intro h;exact ih h
 |loop b ih=>intro h;exact ih h
 |b9=>intro _;rfl
 |ja=>intro _;rfl
 |hE T b _=>intro h;exact h
 |_=>intro _;trivial
def aa.plain:aa→Bool
 | .seq a b=>a.plain&&b.plain
 | .cond _ a b=>a.plain&&b.plain
 | .block _ b=>b.plain
 | .loop b=>b.plain
 | .hE _ _=>false
 |_=>true
theorem aa.KA {H:((Exit→aj→Prop)→aj→Prop)→aa→Prop}:∀c:aa,c.plain=true→c.nc H:=by
 intro c
 induction c with
 |seq a b hF hG=>intro h;simp only[aa.plain,Bool.and_eq_true]at h;exact⟨hF h.1,hG h.2⟩
 |cond c a b hF hG=>intro h;simp only[aa.plain,Bool.and_eq_true]at h;exact⟨hF h.1,hG h.2⟩
 |block id b ih=>intro h;exact ih h
 |loop b ih=>intro h;exact ih h
 |hE T b _=>intro h;cases h
 |_=>intro _;trivial
def andThen (K:aj→Prop) (Q:Exit→aj→Prop):Exit→aj→Prop
 | .normal,s=>K s
 |e,s=>Q e s
def q8 (id:Nat) (Q:Exit→aj→Prop):Exit→aj→Prop
 | .exit i,s=>if i=id then Q .normal s else Q (.exit i) s
 |e,s=>Q e s
def eM (K:aj→Prop) (s:aj):Prop:=K s∨∃l,tw s l∧K (J l)
def tx:Option (List Nat)→(aj→Prop)→aj→Prop
 |none,K,s=>eM K s
 |some k,K,s=>K (J (k.map fun t=>(t,s t)))
def b1 (C:bt):aa→(Exit→aj→Prop)→aj→Prop
 | .skip,Q,s=>Q .normal s
 | .b9 ros keep,Q,s=>i_ C s ros (tx keep (Q .normal))
 | .ja ros mq keep,Q,s=>∀l,yX mq l→hC C ros s l (tx keep (Q .normal))
 | .seq a b,Q,s=>b1 C a (andThen (eM (b1 C b Q)) Q) s
 | .cond c a b,Q,s=>match az s c with
   | .bool dQ=>if dQ=true then b1 C a Q s else b1 C b Q s
   | .dk=>b1 C a Q s∧b1 C b Q s
   |_=>False
 | .block id b,Q,s=>b1 C b (q8 id Q) s
 | .loop b,Q,s=>eM (fun s=>∀Z:aj→Prop,(∀ar,b1 C b (andThen (eM Z) Q) ar→Z ar)→Z s) s
 | .exit id,Q,s=>Q (.exit id) s
 | .ret,Q,s=>Q .ret s
 | .hE T _,Q,s=>∀c8:Exit→aj→Prop,(∀e s,Q e s→c8 e s)→T c8 s
section
variable {C:bt}
theorem y1 {s:aj} {o:br} {K bF:aj→Prop} (h:jz C s o K) (al:∀s,K s→bF s):jz C s o bF:=by
 unfold jz at h⊢
 split
 ·rename_i hg;rw[hg]at h;exact vy h fun av s1=>al _
 ·rename_i t b hg
  rw[hg]at h
  simp only at h
  split
  ·rename_i dQ U
   rw[U]at h
   simp only at h
   split
   ·rename_i R;rw[if_pos R]at h;exact vy h fun av s1=>al _
   ·rename_i R;rw[if_neg R]at h;exact al _ h
  ·rename_i U;rw[U]at h;exact al _ h
  ·rename_i ab ad
   split at h
   ·exact ab _ (by assumption)
   ·exact ad (by assumption)
   ·exact h
theorem C3 {K bF:aj→Prop} (al:∀s,K s→bF s):∀{ros:List br} {s:aj},i_ C s ros K→i_ C s ros bF:=by
 intro ros
 induction ros with
 |nil=>intro s h;exact al s h
 |cons o ros ih=>intro s h;exact y1 h fun s h=>ih h
theorem C4 {ros:List br} {K bF:aj→Prop} (al:∀s,K s→bF s):∀{l:List Nat} {s:aj},hC C ros s l K→hC C ros s l bF:=by
 intro l
 induction l with
 |nil=>intro s h;exact al s h
 |cons i l ih=>
  intro s h
  simp only[hC]at h⊢
  split
  ·rename_i bL;rw[bL]at h;exact ih h
  ·rename_i o bL;rw[bL]at h;exact y1 h fun s h=>ih h
theorem q9 {K bF:aj→Prop} (al:∀s,K s→bF s) (s:aj) (h:eM K s):eM bF s:=
 h.imp (al s) fun⟨l,ab,ad⟩=>⟨l,ab,al _ ad⟩
theorem C5 {keep:Option (List Nat)} {K bF:aj→Prop} (al:∀s,K s→bF s) (s:aj) (h:tx keep K s):tx keep bF s:=by
 cases keep with
 |none=>exact q9 al s h
 |some k=>exact al _ h
theorem C6 {keep:Option (List Nat)} {K:aj→Prop} {s:aj} (h:tx keep K s):eM K s:=by
 cases keep with
 |none=>exact h
 |some k=>
  refine .inr ⟨_,?_,h⟩
  intro p ak
  obtain⟨t,_,rfl⟩:=List.mem_map.1 ak
  exact .inl rfl
theorem y2 {K bF:aj→Prop} {Q c8:Exit→aj→Prop} (al:∀s,K s→bF s) (cf:∀e s,Q e s→c8 e s):∀e s,andThen K Q e s→andThen bF c8 e s:=by
 intro e s h
 cases e with
 |normal=>exact al s h
 |_=>exact cf _ s h
theorem C7:∀(c:aa) {Q c8:Exit→aj→Prop} {s:aj},(∀e s,Q e s→c8 e s)→b1 C c Q s→b1 C c c8 s:=by
 intro c
 induction c with
 |skip=>intro Q c8 s cf h;exact cf _ _ h
 |b9 ros keep=>intro Q c8 s cf h;exact C3 (C5 (cf _)) h
 |ja ros mq keep=>intro Q c8 s cf h l hl;exact C4 (C5 (cf _)) (h l hl)
 |seq a b hF hG=>
  intro Q c8 s cf h
  exact hF (y2 (fun s h=>q9 (fun _ h=>hG cf h) s h) cf) h
 |cond c a b hF hG=>
  intro Q c8 s cf h
  simp only[b1]at h⊢
  split
  ·rename_i dQ R
   rw[R]at h
   simp only at h
   split
   ·rename_i e;rw[if_pos e]at h;exact hF cf h
   ·rename_i e;rw[if_neg e]at h;exact hG cf h
  ·rename_i R;rw[R]at h;exact⟨hF cf h.1,hG cf h.2⟩
  ·rename_i ab ad
   split at h
   ·exact ab _ (by assumption)
   ·exact ad (by assumption)
   ·exact h
 |block id b ih=>
  intro Q c8 s cf h
  refine ih ?_ h
  intro e s h
  cases e with
  |exit i=>
   simp only[q8]at h⊢
   split
   ·rename_i e;rw[if_pos e]at h;exact cf _ _ h
   ·rename_i e;rw[if_neg e]at h;exact cf _ _ h
  |_=>exact cf _ _ h
 |loop b ih=>
  intro Q c8 s cf h
  refine q9 (fun s h Z q_=> ?_) s h
  exact h Z fun ar e5=>q_ ar (ih (y2 (fun _ h=>h) cf) e5)
 |exit id=>intro Q c8 s cf h;exact cf _ _ h
 |ret=>intro Q c8 s cf h;exact cf _ _ h
 |hE T b _=>intro Q c8 s cf h gF ad;exact h gF fun e s he=>ad e s (cf e s he)
theorem C8:∀(c:aa) {Q:Exit→aj→Prop} {s:aj},b1 C c Q s→b1 C c.jb Q s:=by
 intro c
 induction c with
 |b9 ros keep=>intro Q s h;exact C3 (fun s h=>C6 h) h
 |ja ros eL keep=>intro Q s h l hl;exact C4 (fun s h=>C6 h) (h l hl)
 |seq a b hF hG=>intro Q s h;exact hF (C7 a (y2 (fun s h=>q9 (fun _ h=>hG h) s h) (fun _ _ h=>h)) h)
 |cond c a b hF hG=>
  intro Q s h
  simp only[aa.jb,b1]at h⊢
  split
  ·rename_i dQ R
   rw[R]at h
   simp only at h
   split
   ·rename_i e;rw[if_pos e]at h;exact hF h
   ·rename_i e;rw[if_neg e]at h;exact hG h
  ·rename_i R;rw[R]at h;exact⟨hF h.1,hG h.2⟩
  ·rename_i ab ad
   split at h
   ·exact ab _ (by assumption)
   ·exact ad (by assumption)
   ·exact h
 |block id b ih=>intro Q s h;exact ih h
 |loop b ih=>
  intro Q s h
  refine q9 (fun s h Z q_=> ?_) s h
  exact h Z fun ar e5=>q_ ar (ih e5)
 |hE T b _=>intro Q s h;exact h
 |_=>intro Q s h;exact h
variable {w0 w:World} {F0 X:Nat→Prop} {n:Fr} {ρ:Nat→Value} {s:aj} {a:Act}
def ra (w0:World) (F0 X:Nat→Prop) (n:Fr) (ρ:Nat→Value) (Q:Exit→aj→Prop):Exit→Act→World→Prop:=fun e a w=>∃s,Q e s∧Rel w0 F0 X n ρ s a w
theorem Rel.eM {K:aj→Prop} {s:aj} {a:Act} {w:World} (aD:Rel w0 F0 X n ρ s a w) (h:eM K s):∃ar,K ar∧Rel w0 F0 X n ρ ar a w:=by
 rcases h with h|⟨l,ab,ad⟩
 ·exact⟨s,h,aD⟩
 ·obtain⟨g1,g2,g3,F,S,g4⟩:=aD
  obtain⟨bf,aF,g5⟩:=g4.Kz ab
  exact⟨J l,ad,g1,g2,g3,bf,aF,g5⟩
theorem aa.KB {c:aa} (h:c.strip= .skip):c= .skip∨∃T b,c= .hE T b:=by cases c<;>first|exact .inl rfl|exact .inr ⟨_,_,rfl⟩|cases h
theorem aa.KC {c:aa} (h:c.strip= .ret):c= .ret∨∃T b,c= .hE T b:=by cases c<;>first|exact .inl rfl|exact .inr ⟨_,_,rfl⟩|cases h
theorem aa.KD {c:aa} {i:Nat} (h:c.strip= .exit i):c= .exit i∨∃T b,c= .hE T b:=by cases c<;>first|exact .inl h|exact .inr ⟨_,_,rfl⟩|cases h
theorem aa.KE {c:aa} {r:List br} {k:Option (List Nat)} (h:c.strip= .b9 r k):(∃ros cB,c= .b9 ros cB∧ros.map br.un=r)∨∃T b,c= .hE T b:=by
 cases c<;>first|(cases h;exact .inl ⟨_,_,rfl,rfl⟩)|exact .inr ⟨_,_,rfl⟩|cases h
theorem aa.KF {c:aa} {r:List br} {eL:List (List Nat)} {k:Option (List Nat)} (h:c.strip= .ja r eL k):(∃ros C9 cB,c= .ja ros C9 cB∧ros.map br.un=r∧C9=eL)∨∃T b,c= .hE T b:=by
 cases c<;>first|(cases h;exact .inl ⟨_,_,_,rfl,rfl,rfl⟩)|exact .inr ⟨_,_,rfl⟩|cases h
theorem aa.KG {c x y:aa} (h:c.strip= .seq x y):(∃a b,c= .seq a b∧a.strip=x∧b.strip=y)∨∃T b,c= .hE T b:=by
 cases c<;>first|(cases h;exact .inl ⟨_,_,rfl,rfl,rfl⟩)|exact .inr ⟨_,_,rfl⟩|cases h
theorem aa.KH {c x y:aa} {o:ax} (h:c.strip= .cond o x y):(∃kX a b,c= .cond kX a b∧kX=o∧a.strip=x∧b.strip=y)∨∃T b,c= .hE T b:=by
 cases c<;>first|(cases h;exact .inl ⟨_,_,_,rfl,rfl,rfl,rfl⟩)|exact .inr ⟨_,_,rfl⟩|cases h
theorem aa.KI {c x:aa} {i:Nat} (h:c.strip= .block i x):(∃a,c= .block i a∧a.strip=x)∨∃T b,c= .hE T b:=by
 cases c<;>first|(cases h;exact .inl ⟨_,rfl,rfl⟩)|exact .inr ⟨_,_,rfl⟩|cases h
theorem aa.KJ {c x:aa} (h:c.strip= .loop x):(∃a,c= .loop a∧a.strip=x)∨∃T b,c= .hE T b:=by
 cases c<;>first|(cases h;exact .inl ⟨_,rfl,rfl⟩)|exact .inr ⟨_,_,rfl⟩|cases h
theorem C_ (aU:C.dn) {H:((Exit→aj→Prop)→aj→Prop)→aa→Prop}
  (kZ:∀(c:Code) (T:(Exit→aj→Prop)→aj→Prop) (b:aa) (Q:Exit→aj→Prop) (s:aj) (a:Act) (w:World),H T b→bS n c=some b.strip→T Q s→Rel w0 F0 X n ρ s a w→c.wp C.P (ra w0 F0 X n ρ Q) a w):
  ∀(c:Code) {dN:aa} {Q:Exit→aj→Prop} {s:aj} {a:Act} {w:World},bS n c=some dN.strip→dN.bare H→b1 C dN Q s→Rel w0 F0 X n ρ s a w→c.wp C.P (ra w0 F0 X n ρ Q) a w:=by
 intro c
 induction c with
 |skip=>
  intro dN Q s a w U fG h aD
  have iB:=U
  simp only[bS,Option.some.injEq]at U
  rcases aa.KB U.symm with rfl|⟨T,b,rfl⟩
  ·exact wp_skip ⟨s,h,aD⟩
  ·exact kZ _ T b Q s a w fG (by simpa only[aa.strip]using iB) (h Q fun _ _ h=>h) aD
 |region id ops draw=>
  intro dN Q s a w U fG h aD
  have iB:=U
  cases draw with
  |false=>
   simp only[bS,Option.map_eq_some_iff]at U
   obtain⟨KK,tz,U⟩:=U
   rcases aa.KE U.symm with⟨ros,k,rfl,rfl⟩|⟨T,b,rfl⟩
   rotate_left
   ·exact kZ _ T b Q s a w fG (by simpa only[aa.strip]using iB) (h Q fun _ _ h=>h) aD
   cases fG
   exact Km aU tz (fun ar bU aw al c1=>c1.eM al) h aD
  |true=>
   simp only[bS]at U
   split at U
   ·rename_i R
    simp only[Option.map_eq_some_iff]at U
    obtain⟨KK,tz,U⟩:=U
    rcases aa.KF U.symm with⟨ros,eL,k,rfl,rfl,rfl⟩|⟨T,b,rfl⟩
    rotate_left
    ·exact kZ _ T b Q s a w fG (by simpa only[aa.strip]using iB) (h Q fun _ _ h=>h) aD
    cases fG
    refine wp_region_draw fun t=> ?_
    rw[show Region.schedule (C.P.follows .mixedOrders) ops t=Region.linearise .any ops t by simp[Region.schedule,aU.mixed]]
    exact CR aU tz (fun ar bU aw al c1=>c1.eM al) _ s a _ (h _ (Kv R t)) (aD.drawn _ (by first|exact Nat.le_succ _|exact Nat.le_add_right _ _|omega))
   ·cases U
 |seq x y KL vD=>
  intro dN Q s a w U fG h aD
  have iB:=U
  simp only[bS]at U
  split at U
  ·rename_i s_ KM aq hy
   simp only[Option.some.injEq]at U
   rcases aa.KG U.symm with⟨b6,h7,rfl,rfl,rfl⟩|⟨T,b,rfl⟩
   rotate_left
   ·exact kZ _ T b Q s a w fG (by simpa only[aa.strip]using iB) (h Q fun _ _ h=>h) aD
   refine wp_seq (wp_mono (KL aq fG.1 h aD) ?_)
   rintro e bU aw ⟨ar,aS,c1⟩
   cases e with
   |normal=>
    obtain⟨ar,aS,c1⟩:=c1.eM aS
    exact vD hy fG.2 aS c1
   |_=>exact⟨ar,aS,c1⟩
  ·cases U
 |cond x y z vD Da=>
  intro dN Q s a w U fG h aD
  have iB:=U
  simp only[bS]at U
  split at U
  ·rename_i s_ KM sz aq hy bp
   simp only[Option.some.injEq]at U
   rcases aa.KH U.symm with⟨b6,h7,mL,rfl,rfl,rfl,rfl⟩|⟨T,b,rfl⟩
   rotate_left
   ·exact kZ _ T b Q s a w fG (by simpa only[aa.strip]using iB) (h Q fun _ _ h=>h) aD
   have c1:=aD
   obtain⟨ae,cV,bk,F,S,nY⟩:=c1
   have aG:=(dy (a:=a) nY (fun _=>rfl) aq).2
   simp only[b1]at h
   split at h
   ·rename_i dQ R
    rw[R]at aG
    have:=oz aG
    refine wp_cond this ?_
    split
    ·rename_i e;rw[if_pos e]at h;exact vD hy fG.1 h aD
    ·rename_i e;rw[if_neg e]at h;exact Da bp fG.2 h aD
   ·rename_i R
    rw[R]at aG
    obtain⟨dQ,jO⟩:=BC aG
    refine wp_cond jO ?_
    split
    ·exact vD hy fG.1 h.1 aD
    ·exact Da bp fG.2 h.2 aD
   ·exact h.elim
  ·cases U
 |block id b ih=>
  intro dN Q s a w U fG h aD
  have iB:=U
  simp only[bS,Option.map_eq_some_iff]at U
  obtain⟨vi,R,U⟩:=U
  rcases aa.KI U.symm with⟨dQ,rfl,rfl⟩|⟨T,b,rfl⟩
  rotate_left
  ·exact kZ _ T b Q s a w fG (by simpa only[aa.strip]using iB) (h Q fun _ _ h=>h) aD
  refine wp_block (wp_mono (ih R fG h aD) ?_)
  rintro e bU aw ⟨ar,aS,c1⟩
  cases e with
  |exit i=>
   simp only[q8]at aS
   simp only[Exit.inBlock]
   split
   ·rename_i e;rw[if_pos e]at aS;exact⟨ar,aS,c1⟩
   ·rename_i e;rw[if_neg e]at aS;exact⟨ar,aS,c1⟩
  |_=>exact⟨ar,aS,c1⟩
 |loop b ih=>
  intro dN Q s a w U fG h aD
  have iB:=U
  simp only[bS,Option.map_eq_some_iff]at U
  obtain⟨vi,R,U⟩:=U
  rcases aa.KJ U.symm with⟨dQ,rfl,rfl⟩|⟨T,b,rfl⟩
  rotate_left
  ·exact kZ _ T b Q s a w fG (by simpa only[aa.strip]using iB) (h Q fun _ _ h=>h) aD
  obtain⟨s,h,aD⟩:=aD.eM h
  have key:=h (fun s=>∀a w,Rel w0 F0 X n ρ s a w→∀(f:Frame) (k:List Item) (cs:List Frame),∃e bU aw,ra w0 F0 X n ρ Q e bU aw∧Arrives C.P (lone (f.at a (.code b:: .inLoop b::k)) cs w) f k cs e bU aw) ?_
  ·intro f k cs
   obtain⟨e,bU,aw,cf,oP⟩:=key a w aD f k cs
   exact⟨e,bU,aw,cf,.of_steps (.one step_loop) oP⟩
  ·intro ar e5 a w aD f k cs
   obtain⟨e,a₁,w₁,⟨s1,cf,oQ⟩,oP⟩:=ih R fG e5 aD f (.inLoop b::k) cs
   cases e with
   |normal=>
    simp only[andThen]at cf
    obtain⟨s1,cf,oQ⟩:=oQ.eM cf
    obtain⟨e₂,a₂,w₂,hq₂,harr₂⟩:=cf a₁ w₁ oQ f k cs
    exact⟨e₂,a₂,w₂,hq₂,.of_steps (Steps.trans oP (.one step_inLoop)) harr₂⟩
   |exit id=>exact⟨_,a₁,w₁,⟨s1,cf,oQ⟩,.pass (x:=.inLoop b) rfl (fun _ _=>.inl (by simp)) oP⟩
   |goto l=>exact⟨_,a₁,w₁,⟨s1,cf,oQ⟩,.pass (x:=.inLoop b) rfl (fun _ _=>.inl (by simp)) oP⟩
   |ret=>exact⟨_,a₁,w₁,⟨s1,cf,oQ⟩,.pass (x:=.inLoop b) rfl (fun _ _=>.inl (by simp)) oP⟩
   |panic abD=>exact⟨_,a₁,w₁,⟨s1,cf,oQ⟩,.pass (x:=.inLoop b) rfl (fun _ _=>.inl (by simp)) oP⟩
   |outgrown=>exact⟨_,a₁,w₁,⟨s1,cf,oQ⟩,.pass (x:=.inLoop b) rfl (fun _ _=>.inl (by simp)) oP⟩
 |exit id=>
  intro dN Q s a w U fG h aD
  have iB:=U
  simp only[bS,Option.some.injEq]at U
  rcases aa.KD U.symm with rfl|⟨T,b,rfl⟩
  ·exact wp_exit ⟨s,h,aD⟩
  ·exact kZ _ T b Q s a w fG (by simpa only[aa.strip]using iB) (h Q fun _ _ h=>h) aD
 |ret=>
  intro dN Q s a w U fG h aD
  have iB:=U
  simp only[bS,Option.some.injEq]at U
  rcases aa.KC U.symm with rfl|⟨T,b,rfl⟩
  ·exact wp_ret ⟨s,h,aD⟩
  ·exact kZ _ T b Q s a w fG (by simpa only[aa.strip]using iB) (h Q fun _ _ h=>h) aD
 |_=>intro dN Q s a w U;simp[bS]at U
theorem KN (aU:C.dn) (c:Code) {dN:aa} {Q:Exit→aj→Prop} {s:aj} {a:Act} {w:World} (U:bS n c=some dN.strip) (R:dN.bare (fun _ _=>False)) (h:b1 C dN Q s) (aD:Rel w0 F0 X n ρ s a w):c.wp C.P (ra w0 F0 X n ρ Q) a w:=
 C_ aU (fun _ _ _ _ _ _ _ bk=>bk.elim) c U R h aD
end
def hp:ResultVar→Nat
 | .tmp t=>t
 | .cell a _=>a
def nZ (C:bt) (s:aj):ResultVar→Option I
 | .tmp t=>if(s t).tree=true then(match s t with| .tuple _=>none|d=>some d)else none
 | .cell a T=>match s a with
   | .a_ d=>if fits C T d=true∧d.tree=true then some d else none
   |_=>none
def y3 (C:bt) (fx:List Nat) (dU:List ResultVar) (r:I) (outs:List I) (s:aj):Prop:=
 ∃ds,dU.map (nZ C s)=ds.map some∧r=(match ds with|[d]=>d|ds=>.tuple ds)∧(dU.map hp).Nodup∧
  ∀(i:Nat) (o:I),outs[i]? =some o→o= .hole∨(o=s i∧o.eD=true∧i∈fx∧i∉dU.map hp)
def Ends (C:bt) (fx:List Nat) (dU:List ResultVar) (r:I) (outs:List I) (s:aj):Prop:=
 y3 C fx dU r outs s∨∃t y q d s1,s t= .h y q∧bV s (.h y q)=some (d,s1)∧y3 C fx dU r outs (fin s1 (some t) d)
theorem bb.takes {w0 w:World} {F0 X F:Nat→Prop} {S:Nat→Nat→Prop} {s s1:aj} {ao:Nat→Value} {t y:Nat} {q:List Nat} {d:I} (aD:bb w0 F0 X F S s ao w) (ab:s t= .h y q) (ad:bV s (.h y q)=some (d,s1)):
  ∃aF,bb w0 F0 X F aF (ca.fin s1 (some t) d) ao w:=by
 have U:=aD.cj t
 rw[ab,ay]at U
 obtain⟨bo,k0,bz,bK,Sn,df,cx,dB,dZ,gu,_⟩:=l7 aD (av:=.h y q) (v:=ao t) rfl (by rw[ay];exact U) ad
 obtain⟨aF,aS⟩:=k0.fin (.inr ⟨bz,bK,Sn,df,cx,dB,dZ,gu⟩) (some t)
 refine⟨aF,?_⟩
 have e:nJ ao (some t) (ao t)=ao:=by
  funext u
  simp only[nJ,cm]
  split
  ·rename_i h;rw[h]
  ·rfl
 rwa [e]at aS
section
variable {C:bt} {w0 w:World} {F0 X F:Nat→Prop} {S:Nat→Nat→Prop} {s:aj} {tmps:Array Value}
theorem Db {d:I} {x:Value} (ae:∀vs,d≠.tuple vs) (h:cA d x):bx x=fD x∧fY d x:=by
 have:fY d x:=by cases d<;>first|exact h|exact(ae _ rfl).elim
 refine⟨?_,this⟩
 cases d<;>first
  |(obtain⟨a,rfl⟩:=this;rfl)
  |(simp only[fY]at this
    rw[eU this]
    cases x<;>first|rfl|(simp[Value.eO]at this))
def tA (tmps:Array Value):ResultVar→Sem Value
 | .tmp t=>pure (tmps.getD t undef)
 | .cell a t=>do loadVar t (←asAddr (tmps.getD a undef))
theorem KO (aU:C.dn) (h:bb w0 F0 X F S s (fun t=>tmps.getD t undef) w) {v:ResultVar} {d:I} (aG:nZ C s v=some d):
  ∃x,(tA tmps v).run C.P w= .ok x w∧d.tree=true∧(∀vs,d≠.tuple vs)∧cA d x∧an w F d (bx x) (S (hp v)):=by
 cases v with
 |tmp t=>
  simp only[nZ]at aG
  split at aG
  ·rename_i aO
   have kt:(∀vs,s t≠.tuple vs)∧d=s t:=by
    cases U:s t<;>rw[U]at aG<;>simp only at aG<;>first
     |(cases aG;done)
     |(simp only[Option.some.injEq]at aG;exact⟨(fun _ h=>by cases h),aG.symm⟩)
   obtain⟨kt,rfl⟩:=kt
   obtain⟨g1,g2⟩:=(ay.bM aO).1 (h.cj t)
   exact⟨_,by simp[tA],aO,kt,g1,g2⟩
  ·cases aG
 |cell a T=>
  simp only[nZ]at aG
  split at aG
  ·rename_i e U
   split at aG
   ·rename_i KP
    obtain⟨fP,KQ⟩:=KP
    simp only[Option.some.injEq]at aG;subst aG
    have gT:=h.cj a
    rw[U]at gT
    obtain⟨g1,g2⟩:=(ay.bM (d:=.a_ e) rfl).1 gT
    rw[eU g1,an]at g2
    obtain⟨b,cur,ty,fr,aF,bz,bK,df,cx,dB,dZ,gu⟩:=g2
    simp only[List.cons.injEq,and_true]at bz
    have ht:fA w b 0 cur.toList:=by
     have:=qM df cur.size
     rwa [List.take_of_length_le (by simp)]at this
    obtain⟨x,eF,cd,fj⟩:=u_ (C:=C) aU ht dB fP
    refine⟨x,?_,KQ,?_,fj,?_⟩
    ·simp only[tA]
     rw[bz]
     simpa [asAddr]using eF
    ·intro vs eG;subst eG
     unfold fits at fP
     split at fP<;>simp_all
    ·rw[cd];exact an.mono (fun _ h=>h) _ _ _ _ dZ dB
   ·cases aG
  ·cases aG
theorem KR (aU:C.dn) (h:bb w0 F0 X F S s (fun t=>tmps.getD t undef) w):∀(dU:List ResultVar) (ds:List I),dU.map (nZ C s)=ds.map some→(dU.map hp).Nodup→
  ∃xs,(dU.mapM (tA tmps)).run C.P w= .ok xs w∧xs.length=ds.length∧aN w F ds (xs.flatMap fD) (fun b=>∃t∈dU.map hp,S t b)∧
   ∀(k:Nat) (d:I) (x:Value),ds[k]? =some d→xs[k]? =some x→cA d x∧(∀vs,d≠.tuple vs)∧(fD x).length=d.wd∧bx x=fD x∧d.tree=true:=by
 intro dU
 induction dU with
 |nil=>
  intro ds he _
  have:ds=[]:=by simpa using he.symm
  subst this
  exact⟨[],by simp,rfl,by simp only[List.flatMap_nil];rw[aN],fun k d x ae=>by simp at ae⟩
 |cons v dU ih=>
  intro ds he rb
  cases ds with
  |nil=>simp at he
  |cons d ds=>
   simp only[List.map_cons,List.cons.injEq]at he
   simp only[List.map_cons,List.nodup_cons]at rb
   obtain⟨x,eF,rt,cd,fj,dt⟩:=KO aU h he.1
   obtain⟨xs,e_,eB,gR,gS⟩:=ih ds he.2 rb.2
   obtain⟨aH,aJ⟩:=Db cd fj
   refine⟨x::xs,by simp[List.mapM_cons,eF,e_],by simp[eB],?_,?_⟩
   ·simp only[List.flatMap_cons]
    rw[aN]
    rw[aH]at dt
    refine⟨fD x,xs.flatMap fD,S (hp v),fun b=>∃t∈dU.map hp,S t b,rfl,dt,gR,fun b R=>⟨hp v,by simp,R⟩,?_,?_⟩
    ·rintro b ⟨t,aO,R⟩;exact⟨t,by simp[aO],R⟩
    ·rintro b R ⟨t,aO,jO⟩
     have:t≠hp v:=fun e=>rb.1 (e▸aO)
     exact h.dA t (hp v) b this jO R
   ·intro k aY b6 ae aq
    cases k with
    |zero=>
     simp at ae aq;subst ae aq
     refine⟨fj,cd,?_,aH,rt⟩
     rw[←aH];exact an.length _ _ _ dt
    |succ k=>exact gS k aY b6 (by simpa using ae) (by simpa using aq)
theorem Dc (aU:C.dn) {f:FuncId} {fn:Func} {c:Code} {fx:List Nat} {as outs:List I} {r:I} (bk:C.P.funcs[f]? =some fn) (R:fn.body=some c)
  (jc:(fn.name== "runtime.NumGoroutine")=false) (aW:as.length≤fn.ntmps)
  {w:World} {F X:Nat→Prop} {S:Nat→Nat→Prop} {vs:List Value} (hl:vs.length=as.length) (aD:bb w F X F S (dT as) (e0 vs) w)
  (y4:∀a,Rel w F X ⟨fn.ntmps,fx⟩ (e0 vs) (dT as) a w→(∀t,a.tmps.getD t undef=e0 vs t)→c.wp C.P (ra w F X ⟨fn.ntmps,fx⟩ (e0 vs) (fun e s=>(e= .normal∨e= .ret)∧eM (Ends C fx fn.results.toList r outs) s)) a w):
  ml C.P f vs.toArray w fun v aw=>∃bf aF,bb w F X bf aF (dT (r::outs)) (e0 (v::vs)) aw:=by
 have ks:(vs.toArray++Array.replicate (fn.ntmps-vs.toArray.size) undef).size=fn.ntmps:=by simp;omega
 have cR:(fun t=>(vs.toArray++Array.replicate (fn.ntmps-vs.toArray.size) undef).getD t undef)=e0 vs:=by
  funext t
  simp only[e0,Array.getD_eq_getD_getElem?,List.getD_eq_getElem?_getD]
  by_cases aO:t<vs.length
  ·rw[Array.getElem?_append_left (by simpa using aO)];simp
  ·rw[Array.getElem?_append_right (by simpa using aO)]
   rw[List.getElem?_eq_none (by omega)]
   simp only[Array.getElem?_replicate]
   split<;>rfl
 have nY:Rel w F X ⟨fn.ntmps,fx⟩ (e0 vs) (dT as) {tmps:=vs.toArray++Array.replicate (fn.ntmps-vs.toArray.size) undef,defers:=[]} w:=
  ⟨rfl,ks,fun i _=>congrFun cR i,F,S,by rw[cR];exact aD⟩
 have y5:fn.name≠ "runtime.NumGoroutine" :=by simpa using jc
 refine .inl ⟨by simp[callFunc,bk,y5,R],calls_of_wp bk R (wp_mono (y4 _ nY (congrFun cR)) ?_)⟩
 rintro e bU aw ⟨ar,⟨he,KS⟩,KT⟩
 obtain⟨ar,⟨ds,hB,Dd,rb,pw⟩,ae,cV,fw,bf,aF,c1⟩:∃ar,y3 C fx fn.results.toList r outs ar∧Rel w F X ⟨fn.ntmps,fx⟩ (e0 vs) ar bU aw:=by
  obtain⟨ar,he,De⟩:=KT.eM KS
  rcases he with he|⟨t,y,q,d,s1,ab,ad,he⟩
  ·exact⟨ar,he,De⟩
  ·obtain⟨g1,g2,g3,F,S,g4⟩:=De
   obtain⟨aF,g5⟩:=g4.takes ab ad
   exact⟨_,he,g1,g2,g3,F,aF,g5⟩
 obtain⟨xs,e_,eB,gR,gS⟩:=KR aU c1 _ ds hB rb
 have KU:(results fn bU.tmps)=(do let vs←fn.results.mapM (tA bU.tmps);pure (if h:vs.size=1 then vs[0]else .tuple vs)):=by
  unfold results
  congr 1
 have pD:(results fn bU.tmps).run C.P aw= .ok (if h:xs.toArray.size=1 then xs.toArray[0]else .tuple xs.toArray) aw:=by
  rw[KU,Array.mapM_eq_mapM_toList]
  simp[e_]
 have oR:(r.tree=true∧cA r (if h:xs.toArray.size=1 then xs.toArray[0]else .tuple xs.toArray)∧
   an aw bf r (bx (if h:xs.toArray.size=1 then xs.toArray[0]else .tuple xs.toArray)) (fun b=>∃t∈fn.results.toList.map hp,aF t b)):=by
  by_cases ab:∃d,ds=[d]
  ·obtain⟨d,rfl⟩:=ab
   obtain⟨x,rfl⟩:∃x,xs=[x]:=by
    cases xs with
    |nil=>simp at eB
    |cons x xs=>cases xs with
     |nil=>exact⟨x,rfl⟩
     |cons y bG=>simp at eB
   obtain⟨bz,bK,df,cx,dB⟩:=gS 0 d x rfl rfl
   have KV:d=r:=Dd.symm
   subst KV
   simp only[List.flatMap_cons,List.flatMap_nil,List.append_nil]at gR
   rw[aN]at gR
   obtain⟨bJ,c2,bo,cu,aH,aJ,aK,b0,b_,bw⟩:=gR
   rw[aN]at aK;subst aK
   simp only[List.append_nil]at aH;subst aH
   have aq:(if h:([x]:List Value).toArray.size=1 then([x]:List Value).toArray[0]else .tuple ([x]:List Value).toArray)=x:=by simp
   rw[aq,cx]
   exact⟨dB,bz,an.mono (fun _ h=>h) _ _ _ _ b0 aJ⟩
  ·have KW:r= .tuple ds:=by
    rw[Dd]
    cases ds with
    |nil=>rfl
    |cons d ds=>cases ds with
     |nil=>exact(ab ⟨d,rfl⟩).elim
     |cons e ds=>rfl
   have aq:(if h:xs.toArray.size=1 then xs.toArray[0]else Value.tuple xs.toArray)= .tuple xs.toArray:=by
    rw[dif_neg]
    intro cV
    have:ds.length=1:=by rw[←eB];simpa using cV
    obtain⟨d,ae⟩:=List.length_eq_one_iff.1 this
    exact ab ⟨d,ae⟩
   rw[aq,KW]
   refine⟨rfl,⟨xs.toArray,rfl,by simpa using eB,fun k d x ae aq=> ?_⟩,?_⟩
   ·obtain⟨bz,bK,df,cx,_⟩:=gS k d x ae (by simpa using aq)
    exact⟨(Db bK bz).2,bK,df⟩
   ·rw[an]
    simpa [bx]using gR
 have post:∀(v:Value),(r.tree=true∧cA r v∧an aw bf r (bx v) (fun b=>∃t∈fn.results.toList.map hp,aF t b))→∃q5 bo,bb w F X q5 bo (dT (r::outs)) (e0 (v::vs)) aw:=by
  rintro v ⟨v1,v2,v3⟩
  have y6:∀i,(outs.getD i .hole).eD=true→outs.getD i .hole=ar i∧i∈fx∧i∉fn.results.toList.map hp:=by
   intro i aA
   cases bL:outs[i]? with
   |none=>simp[List.getD,bL,I.eD]at aA
   |some o=>
    have e:outs.getD i .hole=o:=by simp[List.getD,bL]
    rw[e]at aA⊢
    rcases pw i o bL with h|h
    ·subst h;simp[I.eD]at aA
    ·exact⟨h.1,h.2.2⟩
  refine⟨bf,fun t b=>match t with|0=>∃t∈fn.results.toList.map hp,aF t b|i+1=>(outs.getD i .hole).eD=true∧aF i b,c1.e3,c1.fh,c1.dH,?_,?_,?_,?_,?_,c1.old,c1.size,c1.os,c1.tape,c1.output,aD.eT⟩
  ·intro t b R
   cases t with
   |zero=>obtain⟨t,_,R⟩:=R;exact c1.de t b R
   |succ i=>exact c1.de i b R.2
  ·intro t b R
   cases t with
   |zero=>obtain⟨t,_,R⟩:=R;exact c1.dY t b R
   |succ i=>exact c1.dY i b R.2
  ·intro t u b cI R hu
   cases t with
   |zero=>
    obtain⟨t,aO,R⟩:=R
    cases u with
    |zero=>exact cI rfl
    |succ j=>
     refine c1.dA t j b (fun e=> ?_) R hu.2
     subst e;exact(y6 t hu.1).2.2 aO
   |succ i=>
    cases u with
    |zero=>
     obtain⟨t,aO,hu⟩:=hu
     refine c1.dA t i b (fun e=> ?_) hu R.2
     subst e;exact(y6 t R.1).2.2 aO
    |succ j=>exact c1.dA i j b (by omega) R.2 hu.2
  ·intro t b R
   cases t with
   |zero=>obtain⟨t,_,R⟩:=R;exact c1.cE t b R
   |succ i=>exact c1.cE i b R.2
  ·intro t
   cases t with
   |zero=>exact(ay.bM v1).2 ⟨v2,v3⟩
   |succ i=>
    show ay aw bf (dT (r::outs)) (e0 (v::vs)) (outs.getD i .hole) (vs.getD i undef) (fun b=>(outs.getD i .hole).eD=true∧aF i b)
    cases aA:(outs.getD i .hole).eD with
    |false=>
     have:outs.getD i .hole= .hole:=by
      cases bL:outs[i]? with
      |none=>simp[List.getD,bL]
      |some o=>
       have e:outs.getD i .hole=o:=by simp[List.getD,bL]
       rw[e]at aA⊢
       rcases pw i o bL with h|h
       ·exact h
       ·rw[h.2.1]at aA;cases aA
     rw[this,ay];trivial
    |true=>
     obtain⟨kY,mj,vv⟩:=y6 i aA
     have aO:=(oJ aA).2.1
     have gT:=c1.cj i
     rw[←kY]at gT
     obtain⟨g1,g2⟩:=(ay.bM aO).1 gT
     have aG:bU.tmps.getD i undef=vs.getD i undef:=fw i mj
     rw[aG]at g1 g2
     exact(ay.bM aO).2 ⟨g1,an.mono (fun _ h=>h) _ _ _ _ (fun b R=>⟨rfl,R⟩) g2⟩
 rcases he with rfl|rfl
 ·exact⟨ae,_,pD,_,rfl,post _ oR⟩
 ·exact⟨ae,_,pD,_,rfl,post _ oR⟩
theorem bq.of_wp (aU:C.dn) {f:FuncId} {fn:Func} {c:Code} {dN:aa} {fx:List Nat} {as outs:List I} {r:I} (bk:C.P.funcs[f]? =some fn) (R:fn.body=some c)
  (jc:(fn.name== "runtime.NumGoroutine")=false) (U:bS ⟨fn.ntmps,fx⟩ c=some dN.strip) (aW:as.length≤fn.ntmps)
  (h:b1 C dN (fun e s=>(e= .normal∨e= .ret)∧eM (Ends C fx fn.results.toList r outs) s) (dT as)) (ak:dN.plain=true:=by kernel_rfl):bq C f as r outs:=
 fun w F X S vs hl aD=>Dc aU bk R jc aW hl aD fun a nY _=>KN aU c (by rw[aa.C1];exact U) (aa.C2 dN (aa.KA dN ak)) (C8 dN h) nY
end
def num:Nat→List I→List (Nat×I)
 |_,[]=>[]
 |k,a::as=>(k,a)::num (k+1) as
theorem KX:∀(as:List I) (k t:Nat),J (num k as) (k+t)=as.getD t .hole:=by
 intro as
 induction as with
 |nil=>intro k t;simp[num,J]
 |cons a as ih=>
  intro k t
  cases t with
  |zero=>simp[num,J]
  |succ t=>
   have:=ih (k+1) t
   simp only[num,J]
   rw[if_neg (by omega)]
   rw[show k+(t+1)=k+1+t by omega,this]
   simp
theorem Df (as:List I):dT as=J (num 0 as):=by
 funext t
 have:=KX as 0 t
 rw[Nat.zero_add]at this
 rw[this];rfl
theorem iC (l:List (Nat×I)) (t:Nat) (d:I):cm (J l) t d=J ((t,d)::l):=by
 funext u;simp only[cm,J]
def lR (t:Nat):List (Nat×I)→List (Nat×I)
 |[]=>[]
 |(u,d)::l=>(u,bY t d)::lR t l
def pX (t:Nat):List (Nat×I)→List (Nat×I)
 |[]=>[]
 |(u,d)::l=>(u,bs t d)::pX t l
theorem re (t:Nat):∀l:List (Nat×I),jt t (J l)=J (lR t l):=by
 intro l
 funext u
 induction l with
 |nil=>rfl
 |cons p l ih=>
  obtain⟨v,d⟩:=p
  simp only[jt,J,lR]at ih⊢
  split
  ·rfl
  ·exact ih
theorem KY (t:Nat):∀l:List (Nat×I),fO t (J l)=J (pX t l):=by
 intro l
 funext u
 induction l with
 |nil=>rfl
 |cons p l ih=>
  obtain⟨v,d⟩:=p
  simp only[fO,J,pX]at ih⊢
  split
  ·rfl
  ·exact ih
def gU (k:List Nat) (s:aj):List (Nat×I):=k.map fun t=>(t,s t)
section
variable {C:bt} {l:List (Nat×I)}
def ej.pY:ej→Bool
 | .call _ _=>true
 | .bZ _=>false
 | .dM _=>false
 | .pick _ _ _=>false
 | .fv _=>false
 | .ep _ _=>false
 | .dR _ _=>false
 | .cX _ _ _=>false
 | .dh _ _=>false
 | .eh _ _ _=>false
 | .ew _=>false
 | .bB _ _ _ _=>false
 | .un _ _=>false
 | .ei _ _ _=>false
 | .h_ _ _=>false
 | .er _ _ _=>false
 | .cF _ _ _ _=>false
 | .ev _ _ _=>false
 | .eI _ _ _=>false
 | .idx _ _ _=>false
 | .ex _ _=>false
 | .jS _ _ _=>false
 | .len _ _=>false
 | .app _ _ _ _=>false
 | .shr _=>true
 | .lI _ _ _ _=>false
 | .cap _ _=>false
 | .gd _ _ _=>false
 | .bad=>false
 | .kq _ _ _ _=>true
 | .kr _ _ _=>true
 | .iZ _ _=>false
 | .oG _=>false
 | .nS _=>false
 | .tb=>false
 | .lH _ _ _=>false
 | .kp _ _ _ _=>false
variable {Q:Exit→aj→Prop}
def I.Dg:I→Bool
 | .tuple _=>true
 |_=>false
theorem Ends.one {fx:List Nat} {t:Nat} {r:I} {s:aj} (ab:s t=r) (ad:(r.tree&& !r.Dg)=true):Ends C fx [.tmp t] r [] s:=by
 simp only[Bool.and_eq_true,Bool.not_eq_true']at ad
 obtain⟨ad,vE⟩:=ad
 have aB:∀vs,r≠.tuple vs:=fun vs e=>by subst e;simp[I.Dg]at vE
 refine .inl ⟨[r],?_,rfl,by simp,fun i o h=>by simp at h⟩
 have:nZ C s (.tmp t)=some r:=by
  simp only[nZ,ab,ad,if_true]
  try (cases r<;>first|rfl|exact(aB _ rfl).elim)
 simp only[List.map_cons,List.map_nil,this]
end
section
variable {C:bt} {l:List (Nat×I)} {Q:Exit→aj→Prop}
theorem bq.outs {f:FuncId} {as:List I} {r:I} {kY mj:List I} (h:bq C f as r kY) (he:dT kY=dT mj):bq C f as r mj:=by
 intro w F X S vs hl aD
 refine ml.mono (h w F X S vs hl aD) ?_
 rintro v aw ⟨bf,aF,aS⟩
 refine⟨bf,aF,?_⟩
 have:dT (r::mj)=dT (r::kY):=by
  funext t
  cases t with
  |zero=>rfl
  |succ t=>exact(congrFun he t).symm
 rw[this];exact aS
def jY:List I→List I→List bW
 |a::as,d::ds=>⟨a,false,d,.hole⟩::jY as ds
 |_,_=>[]
theorem KZ {s:aj}:∀(as ds:List I),views s as=some ds→(jY as ds).map (·.a)=as∧(jY as ds).map (·.d)=ds∧(∀p∈jY as ds,p.ok s∧p.g=false∧p.o= .hole∧p.a∈as)∧gw (jY as ds)=true∧
  dT ((jY as ds).map (·.o))=dT []∧(∀n0,dI n0 (jY as ds)=n0)∧(∀n0,gf n0 (jY as ds)=n0):=by
 intro as
 induction as with
 |nil=>
  intro ds h
  simp only[views,Option.some.injEq]at h;subst h
  exact⟨rfl,rfl,(fun p ak=>by cases ak),rfl,rfl,fun _=>rfl,fun _=>rfl⟩
 |cons a as ih=>
  intro ds h
  simp only[views]at h
  split at h
  ·rename_i d K0 ab ad
   simp only[Option.some.injEq]at h;subst h
   obtain⟨aH,aJ,aK,b0,b_,bw,bn⟩:=ih K0 ad
   refine⟨by simp only[jY,List.map_cons,aH],by simp only[jY,List.map_cons,aJ],?_,?_,?_,?_,?_⟩
   ·intro p ak
    simp only[jY,List.mem_cons]at ak
    rcases ak with rfl|ak
    ·exact⟨by simp only[bW.ok];exact ab,rfl,rfl,by simp⟩
    ·obtain⟨g1,g2,g3,g4⟩:=aK p ak
     exact⟨g1,g2,g3,by simp[g4]⟩
   ·simp only[jY,gw,b0,Bool.and_true,List.all_eq_true]
    intro p ak
    simp[(aK p ak).2.1]
   ·funext t
    cases t with
    |zero=>rfl
    |succ t=>exact(congrFun b_ t).trans (by simp[dT])
   ·intro n0;exact bw n0
   ·intro n0;exact bn n0
  ·cases h
end
structure dK where
 bc:List Nat
 H:List Nat
 T:List Nat
 c:Bool
mutual
def I.clean:I→Bool
 | .hole=>false
 | .fn _ cap=>I.rf cap
 |_=>true
def I.rf:List I→Bool
 |[]=>true
 |d::ds=>d.clean&&I.rf ds
end
mutual
theorem Dh {x:Nat}:∀a:I,(bs x a).clean=true→bs x a=a
 | .h y q,h=>by
   simp only[bs]at h⊢
   split
   ·rename_i e;rw[if_pos e]at h
    split
    ·rfl
    ·rename_i eG;rw[if_neg eG]at h;simp[I.clean]at h
   ·rfl
 | .ak y q,h=>by
   simp only[bs]at h⊢
   split
   ·rename_i e;rw[if_pos e]at h;simp[I.clean]at h
   ·rfl
 | .R y q,h=>rfl
 | .fn f cap,h=>by simp only[bs,I.clean]at h⊢;rw[Di cap h]
 | .hole,_=>rfl
 | .bool _,_=>rfl
 | .dk,_=>rfl
 | .int _ _,_=>rfl
 | .str _,_=>rfl
 | .ct,_=>rfl
 | .bD,_=>rfl
 | .slice _,_=>rfl
 | .aE _ _,_=>rfl
 | .ref _,_=>rfl
 | .a_ _,_=>rfl
 | .agg _,_=>rfl
 | .tuple _,_=>rfl
 | .cH _,_=>rfl
theorem Di {x:Nat}:∀ds:List I,I.rf (gp x ds)=true→gp x ds=ds
 |[],_=>rfl
 |d::ds,h=>by
  simp only[gp,I.rf,Bool.and_eq_true]at h⊢
  rw[Dh d h.1,Di ds h.2]
end
mutual
theorem Dj {x:Nat}:∀a:I,(bY x a).clean=true→bY x a=a
 | .h y q,h=>by
   simp only[bY]at h⊢
   split
   ·rename_i e;rw[if_pos e]at h;simp[I.clean]at h
   ·rfl
 | .ak y q,h=>by
   simp only[bY]at h⊢
   split
   ·rename_i e;rw[if_pos e]at h;simp[I.clean]at h
   ·rfl
 | .R y q,h=>by
   simp only[bY]at h⊢
   split
   ·rename_i e;rw[if_pos e]at h;simp[I.clean]at h
   ·rfl
 | .fn f cap,h=>by simp only[bY,I.clean]at h⊢;rw[Dk cap h]
 | .hole,_=>rfl
 | .bool _,_=>rfl
 | .dk,_=>rfl
 | .int _ _,_=>rfl
 | .str _,_=>rfl
 | .ct,_=>rfl
 | .bD,_=>rfl
 | .slice _,_=>rfl
 | .aE _ _,_=>rfl
 | .ref _,_=>rfl
 | .a_ _,_=>rfl
 | .agg _,_=>rfl
 | .tuple _,_=>rfl
 | .cH _,_=>rfl
theorem Dk {x:Nat}:∀ds:List I,I.rf (gN x ds)=true→gN x ds=ds
 |[],_=>rfl
 |d::ds,h=>by
  simp only[gN,I.rf,Bool.and_eq_true]at h⊢
  rw[Dj d h.1,Dk ds h.2]
end
theorem K1 {k:mV} {x:Nat} {a:I} (h:(k.app x a).clean=true):k.app x a=a:=by
 cases k with
 |no=>rfl
 |bs=>exact Dh a h
 |bY=>exact Dj a h
theorem K2:∀(ms:List eV) (u:Nat) (a:I),(∀m∈ms,m.x≠u)→(hA ms u a).clean=true→hA ms u a=a:=by
 intro ms
 induction ms with
 |nil=>intros;rfl
 |cons m ms ih=>
  intro u a aq ai
  simp only[hA]at ai⊢
  have e:=ih u _ (fun hv pZ=>aq hv (by simp[pZ])) ai
  have hm:m.at u a=m.k.app m.x a:=by
   simp only[eV.at];rw[if_neg (fun e=>aq m (by simp) e.symm)]
  rw[e,hm]
  rw[e,hm]at ai
  exact K1 ai
theorem K3:∀(ms:List eV) (u:Nat) (a:I),(∀m∈ms,m.x≠u∧m.x∉a.U)→hA ms u a=a:=by
 intro ms
 induction ms with
 |nil=>intros;rfl
 |cons m ms ih=>
  intro u a aq
  simp only[hA]
  have hm:m.at u a=a:=by
   simp only[eV.at];rw[if_neg (fun e=>(aq m (by simp)).1 e.symm)]
   exact tf (.inr (aq m (by simp)).2)
  rw[hm]
  exact ih u a fun hv pZ=>aq hv (by simp[pZ])
theorem K4 (m:eV):∀(ms:List eV) (u:Nat) (a:I),(∀hv∈ms,hv.x≠m.x∧hv.x∉m.d.U∧m.x∉hv.d.U)→hA ms u (m.at u a)=m.at u (hA ms u a):=by
 intro ms
 induction ms with
 |nil=>intros;rfl
 |cons n ms ih=>
  intro u a aq
  simp only[hA]
  have aW:=aq n (by simp)
  have ai:n.at u (m.at u a)=m.at u (n.at u a):=by
   simp only[eV.at]
   by_cases aH:u=n.x
   ·subst aH
    rw[if_pos rfl,if_neg aW.1,if_pos rfl]
    exact(tf (.inr aW.2.2)).symm
   ·rw[if_neg aH]
    by_cases aJ:u=m.x
    ·subst aJ
     rw[if_pos rfl,if_pos rfl]
     exact tf (.inr aW.2.1)
    ·rw[if_neg aJ,if_neg aH,if_neg aJ]
     exact Jo _ _ _ _ _
  rw[ai]
  exact ih u _ fun hv pZ=>aq hv (by simp[pZ])
theorem K5:∀(ms iA:List eV) (s:aj),(∀m∈ms,∀n∈iA,n.x≠m.x∧n.x∉m.d.U∧m.x∉n.d.U)→cq iA (cq ms s)=cq ms (cq iA s):=by
 intro ms
 induction ms with
 |nil=>intros;rfl
 |cons m ms ih=>
  intro iA s h
  have e:∀s,cq (m::ms) s=cq ms (cq [m] s):=fun s=>jx [m] ms s
  rw[e,e,ih iA _ (fun hv pZ=>h hv (by simp[pZ]))]
  congr 1
  funext u
  simp only[cq,hA]
  exact K4 m iA u _ (h m (by simp))
def y7 (C:bt) (s:aj) (f:ax) (args:List ax) (K:List Nat→I→aj→Prop):Prop:=
 ∃(g:FuncId) (caps:List I) (ps:List bW) (r:I),az s f= .fn g caps∧I.ef caps=true∧ps.map (·.a)=args.map (az s)++caps∧(∀p∈ps,p.ok s)∧gw ps=true∧
   bq C g (ps.map (·.d)) r (ps.map (·.o))∧r.res=true∧(ia ps=true→r.di=true∧∀p∈ps,p.o.di=true)∧K (I.cZ ((ps.filter (·.g)).map (·.a))) r (gf (dI s ps) ps)
def mr (C:bt) (s:aj) (bd:ej) (K:List Nat→I→aj→Prop):Prop:=
 match bd with
 | .call f args=>∃(g:FuncId) (caps:List I) (ps:List bW) (r:I),az s f= .fn g caps∧I.ef caps=true∧ps.map (·.a)=args.map (az s)++caps∧(∀p∈ps,p.ok s)∧gw ps=true∧
   bq C g (ps.map (·.d)) r (ps.map (·.o))∧r.res=true∧(ia ps=true→r.di=true∧∀p∈ps,p.o.di=true)∧K (I.cZ ((ps.filter (·.g)).map (·.a))) r (gf (dI s ps) ps)
 | .shr bd=>∃av s1,a8 C s bd=some (av,s1)∧av.tree=true∧(∀vs,av≠.tuple vs)∧K (ck s bd) av.share s1
 | .kq f args u x=>s u= .h x []∧(s x).own=true∧y7 C s f args fun bV av s1=>s1 u= .hole∧(s1 x).own=true∧K (u::bV) av (cm s1 u (.h x []))
 | .kr f args us=>na s (jX s us)=true∧y7 C s f args fun bV av s1=>na s1 (jX s us)=true∧K (us++bV) av (nX s1 (jX s us))
 |bd=>∃av s1,a8 C s bd=some (av,s1)∧K (ck s bd) av s1
def gG (s:aj) (bc:List Nat) (dst:Option Nat) (bV:List Nat) (av:I):dK:=
 ⟨bc,bc.flatMap (fun u=>(s u).U)++av.U,dst.toList++bV,bc.all fun u=>(s u).clean⟩
def k1 (C:bt) (s:aj) (o:br) (K:dK→aj→Prop):Prop:=
 match o.guard with
 |none=>mr C s o.bd fun bV av s1=>K (gG s (use s o.bd) o.dst bV av) (fin s1 o.dst av)
 |some (t,b)=>match s t with
  | .bool dQ=>if dQ=b then mr C s o.bd (fun bV av s1=>K (gG s (t::use s o.bd) o.dst bV av) (fin s1 o.dst av))else K (gG s [t] o.dst [] (.tuple [])) (fin s o.dst (.tuple []))
  | .tuple []=>K (gG s [t] o.dst [] (.tuple [])) (fin s o.dst (.tuple []))
  |_=>False
def nd:Option (List dK)→dK→Option (List dK)
 |none,_=>none
 |some l,f=>some (f::l)
def bN (C:bt) (s:aj):List br→Option (List dK)→(Option (List dK)→aj→Prop)→Prop
 |[],acc,K=>K acc s
 |o::os,acc,K=>k1 C s o fun f s1=>bN C s1 os (nd acc f) K
section
variable {C:bt}
theorem Dl {s:aj} {bd:ej} {K:List Nat→I→aj→Prop} {bF:I→aj→Prop} (al:∀bV av s,K bV av s→bF av s) (h:mr C s bd K):lP C s bd bF:=by
 cases bd with
 |call f args=>
  obtain⟨g,caps,ps,r,ab,eQ,ad,aB,aR,ba,bu,bE,cK⟩:=h
  exact⟨g,caps,ps,r,ab,eQ,ad,aB,aR,ba,bu,bE,al _ _ _ cK⟩
 |kq f args u x=>
  obtain⟨bz,bK,g,caps,ps,r,ab,eQ,ad,aB,aR,ba,bu,bE,cK,eR,fB⟩:=h
  exact⟨bz,bK,g,caps,ps,r,ab,eQ,ad,aB,aR,ba,bu,bE,cK,eR,al _ _ _ fB⟩
 |kr f args us=>
  obtain⟨bK,g,caps,ps,r,ab,eQ,ad,aB,aR,ba,bu,bE,cK,eR⟩:=h
  exact⟨bK,g,caps,ps,r,ab,eQ,ad,aB,aR,ba,bu,bE,cK,al _ _ _ eR⟩
 |shr bd=>
  obtain⟨av,s1,ab,ad,aB,aR⟩:=h
  exact⟨av,s1,ab,ad,aB,al _ _ _ aR⟩
 |_=>
  obtain⟨av,s1,ab,ad⟩:=h
  exact⟨av,s1,ab,al _ _ _ ad⟩
theorem K6 {s:aj} {o:br} {K:dK→aj→Prop} {bF:aj→Prop} (al:∀f s,K f s→bF s) (h:k1 C s o K):jz C s o bF:=by
 unfold k1 at h
 unfold jz
 split
 ·rename_i hg;rw[hg]at h;exact Dl (fun _ _ _=>al _ _) h
 ·rename_i t b hg
  rw[hg]at h
  simp only at h
  split
  ·rename_i dQ U
   rw[U]at h
   simp only at h
   split
   ·rename_i R;rw[if_pos R]at h;exact Dl (fun _ _ _=>al _ _) h
   ·rename_i R;rw[if_neg R]at h;exact al _ _ h
  ·rename_i U;rw[U]at h;exact al _ _ h
  ·rename_i ab ad
   split at h
   ·exact ab _ (by assumption)
   ·exact ad (by assumption)
   ·exact h
theorem vF {K:aj→Prop}:∀{ros:List br} {s:aj} {acc:Option (List dK)} {bF:Option (List dK)→aj→Prop},(∀a s,bF a s→K s)→bN C s ros acc bF→i_ C s ros K:=by
 intro ros
 induction ros with
 |nil=>intro s acc bF al h;exact al _ _ h
 |cons o ros ih=>intro s acc bF al h;exact K6 (fun f s h=>ih al h) h
theorem Dm {q:List Nat} {a d:I} (h:I.sub q a=some d) (cf:q≠[]∨d.U=[]):a.U=[]:=by
 cases q with
 |nil=>
  simp only[I.sub,Option.some.injEq]at h;subst h
  exact cf.resolve_left (fun e=>e rfl)
 |cons k q=>cases a<;>first|rfl|(simp[I.sub]at h)
def vG (s:aj) (p:bW) (e:I→Prop):Prop:=p.g=true→∃x q d,p.a= .h x q∧I.sub q (s x)=some d∧e d∧(p.o= .hole∨p.o.eD=true)
theorem Dn {d:I} (h:d.eD=true):d.U=[]:=CH (oJ h).2.1
theorem Dp {d:I} (h:d.eD=true):d.b8.U=[]:=by cases d<;>first|rfl|(simp[I.eD]at h)
theorem Dq {p:bW} {ps:List bW} (h:gw (p::ps)=true):gw ps=true∧∀bQ∈ps,(p.g=true∨bQ.g=true)→∀u∈p.a.U,u∉bQ.a.U:=by
 simp only[gw,Bool.and_eq_true,List.all_eq_true,Bool.or_eq_true,Bool.not_eq_true']at h
 refine⟨h.2,fun bQ c7 hg u hu=> ?_⟩
 rcases h.1 bQ c7 with e|e
 ·rcases hg with hg|hg<;>simp[hg]at e
 ·simpa using e u hu
def n1 (ps:List bW):List Nat:=I.cZ ((ps.filter (·.g)).map (·.a))
theorem rh (p:bW) (ps:List bW):(∀u∈n1 ps,u∈n1 (p::ps))∧(p.g=true→∀u∈p.a.U,u∈n1 (p::ps)):=by
 unfold n1
 by_cases hg:p.g=true
 ·simp only[List.filter_cons,hg,if_true,List.map_cons,I.cZ,List.mem_append]
  exact⟨fun u h=>.inr h,fun _ u h=>.inl h⟩
 ·simp only[List.filter_cons,hg]
  exact⟨fun u h=>h,fun h=>by simp at h⟩
theorem K7 {p:bW} {ps:List bW} (h:p∈ps):∀u∈p.a.U,u∈I.cZ (ps.map (·.a)):=by
 induction ps with
 |nil=>cases h
 |cons bQ ps ih=>
  intro u hu
  simp only[List.map_cons,I.cZ,List.mem_append]
  rcases List.mem_cons.1 h with rfl|h
  ·exact .inl hu
  ·exact .inr (ih h u hu)
theorem K8:∀(ps:List bW) (s:aj),(∀p∈ps,vG s p (fun d=>d=p.d∧p.d.eD=true))→gw ps=true→
  (∃ms:List eV,(∀m∈ms,m.x∈n1 ps∧m.d.U=[])∧∀ar,cr (I.cZ (ps.map (·.a))) ar s→dI ar ps=cq ms ar)∧∀p∈ps,vG (dI s ps) p (fun d=>d=p.d.b8∧p.d.eD=true):=by
 intro ps
 induction ps with
 |nil=>intro s _ _;exact⟨⟨[],by simp,fun ar _=>rfl⟩,fun p ak=>by cases ak⟩
 |cons p ps ih=>
  intro s hg iz
  obtain⟨mi,lN⟩:=Dq iz
  by_cases jZ:p.g=true
  ·obtain⟨x,q,d,bT,U,⟨rfl,ae⟩,bL⟩:=hg p (by simp) jZ
   have hO:(I.put q p.d.b8 (s x)).U=[]:=q2 q _ _ _ U (.inl (oJ ae).1) fun _=>Dp ae
   have tB:∀ar:aj,ar x=s x→p.take ar=cq [⟨.bs,x,I.put q p.d.b8 (s x)⟩] ar:=by
    intro ar e
    simp only[bW.take,jZ,if_true,bT,e,pS]
   have cI:∀bQ∈ps,∀b6 gq,bQ.a= .h b6 gq→b6≠x:=by
    intro bQ c7 b6 gq e eG
    have:=lN bQ c7 (.inl jZ) x (by simp[bT,I.U])
    rw[e,eG]at this;simp[I.U]at this
   have oK:∀b6,b6≠x→(s b6).U=[]→cq [⟨.bs,x,I.put q p.d.b8 (s x)⟩] s b6=s b6:=by
    intro b6 qR bm
    simp only[cq,hA,eV.at]
    rw[if_neg qR]
    exact tf (.inr (by rw[bm];simp))
   obtain⟨⟨ms,m1,m2⟩,m3⟩:=ih (cq [⟨.bs,x,I.put q p.d.b8 (s x)⟩] s) (fun bQ c7 y8=>by
    obtain⟨b6,gq,aY,nW,e5,e6,tC⟩:=hg bQ (by simp[c7]) y8
    refine⟨b6,gq,aY,nW,?_,e6,tC⟩
    rw[oK b6 (cI bQ c7 b6 gq nW) (Dm e5 (.inr (by rw[e6.1];exact Dn e6.2)))];exact e5) mi
   refine⟨⟨[⟨.bs,x,I.put q p.d.b8 (s x)⟩]++ms,?_,?_⟩,?_⟩
   ·intro m hm
    rcases List.mem_append.1 hm with hm|hm
    ·simp only[List.mem_singleton]at hm;subst hm
     exact⟨(rh p ps).2 jZ x (by simp[bT,I.U]),hO⟩
    ·exact⟨(rh p ps).1 _ (m1 m hm).1,(m1 m hm).2⟩
   ·intro ar e5
    simp only[List.map_cons,I.cZ]at e5
    have e:ar x=s x:=e5 x (by simp[bT,I.U])
    rw[jx]
    show dI (p.take ar) ps=_
    rw[tB ar e]
    exact m2 _ (cr.cq e5.right _)
   ·have aH:dI s (p::ps)=dI (cq [⟨.bs,x,I.put q p.d.b8 (s x)⟩] s) ps:=by
     show dI (p.take s) ps=_
     rw[tB s rfl]
    rw[aH]
    intro bQ c7
    rcases List.mem_cons.1 c7 with rfl|c7
    ·intro _
     refine⟨x,q,bQ.d.b8,bT,?_,⟨rfl,ae⟩,bL⟩
     have aG:cq [⟨.bs,x,I.put q bQ.d.b8 (s x)⟩] s x=I.put q bQ.d.b8 (s x):=by
      simp only[cq,hA,eV.at,if_true]
     rw[yH (by rw[aG];exact hO) (fun K9 K_ abE=> ?_),aG]
     ·exact CE q _ _ _ U
     ·exact lN K9 K_ (.inl jZ) x (by simp[bT,I.U])
    ·exact m3 bQ c7
  ·have tB:∀ar:aj,p.take ar=ar:=by intro ar;simp only[bW.take,jZ];rfl
   obtain⟨⟨ms,m1,m2⟩,m3⟩:=ih s (fun bQ c7=>hg bQ (by simp[c7])) mi
   refine⟨⟨ms,fun m hm=>⟨(rh p ps).1 _ (m1 m hm).1,(m1 m hm).2⟩,?_⟩,?_⟩
   ·intro ar e5
    simp only[List.map_cons,I.cZ]at e5
    show dI (p.take ar) ps=_
    rw[tB];exact m2 ar e5.right
   ·intro bQ c7
    have aH:dI s (p::ps)=dI s ps:=by show dI (p.take s) ps=_;rw[tB]
    rw[aH]
    rcases List.mem_cons.1 c7 with rfl|c7
    ·intro h;exact(jZ h).elim
    ·exact m3 bQ c7
theorem La:∀(ps:List bW) (s:aj),(∀p∈ps,vG s p (fun d=>d=p.d.b8∧p.d.eD=true))→gw ps=true→
  (∃ms:List eV,(∀m∈ms,m.x∈n1 ps∧m.d.U=[])∧∀ar,cr (I.cZ (ps.map (·.a))) ar s→gf ar ps=cq ms ar):=by
 intro ps
 induction ps with
 |nil=>intro s _ _;exact⟨[],by simp,fun ar _=>rfl⟩
 |cons p ps ih=>
  intro s hg iz
  obtain⟨mi,lN⟩:=Dq iz
  by_cases jZ:p.g=true∧p.o≠.hole
  ·obtain⟨jZ,Lb⟩:=jZ
   obtain⟨x,q,d,bT,U,⟨rfl,ae⟩,bL⟩:=hg p (by simp) jZ
   have bL:p.o.eD=true:=bL.resolve_left Lb
   have hO:(I.put q p.o (s x)).U=[]:=by
    cases q with
    |nil=>simp only[I.put];exact Dn bL
    |cons k q=>exact q2 _ _ _ _ U (.inr (by simp)) (by simp)
   have y9:∀ar:aj,ar x=s x→p.gv ar=cq [⟨.bY,x,I.put q p.o (s x)⟩] ar:=by
    intro ar e
    simp only[bW.gv,jZ,if_true,bT]
    rw[e,Cn]
   have cI:∀bQ∈ps,∀b6 gq,bQ.a= .h b6 gq→b6≠x:=by
    intro bQ c7 b6 gq e eG
    have:=lN bQ c7 (.inl jZ) x (by simp[bT,I.U])
    rw[e,eG]at this;simp[I.U]at this
   obtain⟨ms,m1,m2⟩:=ih (cq [⟨.bY,x,I.put q p.o (s x)⟩] s) (fun bQ c7 y8=>by
    obtain⟨b6,gq,aY,nW,e5,e6,tC⟩:=hg bQ (by simp[c7]) y8
    refine⟨b6,gq,aY,nW,?_,e6,tC⟩
    have bm:=Dm e5 (.inr (by rw[e6.1];exact Dp e6.2))
    have oK:cq [⟨.bY,x,I.put q p.o (s x)⟩] s b6=s b6:=by
     simp only[cq,hA,eV.at]
     rw[if_neg (cI bQ c7 b6 gq nW)]
     exact tf (.inr (by rw[bm];simp))
    rw[oK];exact e5) mi
   refine⟨[⟨.bY,x,I.put q p.o (s x)⟩]++ms,?_,?_⟩
   ·intro m hm
    rcases List.mem_append.1 hm with hm|hm
    ·simp only[List.mem_singleton]at hm;subst hm
     exact⟨(rh p ps).2 jZ x (by simp[bT,I.U]),hO⟩
    ·exact⟨(rh p ps).1 _ (m1 m hm).1,(m1 m hm).2⟩
   ·intro ar e5
    simp only[List.map_cons,I.cZ]at e5
    have e:ar x=s x:=e5 x (by simp[bT,I.U])
    rw[jx]
    show gf (p.gv ar) ps=_
    rw[y9 ar e]
    exact m2 _ (cr.cq e5.right _)
  ·have y9:∀ar:aj,p.gv ar=ar:=by
    intro ar
    unfold bW.gv
    split
    ·rename_i fa
     have:p.o= .hole:=by
      by_cases h:p.o= .hole
      ·exact h
      ·exact(jZ ⟨fa,h⟩).elim
     rw[this]
    ·rfl
   obtain⟨ms,m1,m2⟩:=ih s (fun bQ c7=>hg bQ (by simp[c7])) mi
   refine⟨ms,fun m hm=>⟨(rh p ps).1 _ (m1 m hm).1,(m1 m hm).2⟩,?_⟩
   intro ar e5
   simp only[List.map_cons,I.cZ]at e5
   show gf (p.gv ar) ps=_
   rw[y9];exact m2 ar e5.right
theorem Lc {s ar:aj}:∀(a:I) (d:I),cr a.U ar s→view s a=some d→view ar a=some d:=by
 intro a d h
 have:=yK (s:=s) (ar:=ar) a d
 intro aG
 cases a with
 |h x q=>simp only[view]at aG⊢;rw[h x (by simp[I.U])];exact aG
 |ak x q=>simp only[view]at aG⊢;rw[h x (by simp[I.U])];exact aG
 |fn f cap=>
  refine this (fun u hu _=>h u hu) aG
 |_=>exact aG
theorem Ld {p:bW} {s ar:aj} (h:cr p.a.U ar s) (eW:p.ok s):p.ok ar:=by
 unfold bW.ok at eW⊢
 split
 ·rename_i hg
  rw[if_pos hg]at eW
  cases bT:p.a with
  |h x q=>
   rw[bT]at eW
   simp only at eW⊢
   rw[h x (by simp[bT,I.U])];exact eW
  |_=>rw[bT]at eW;exact eW.elim
 ·rename_i hg
  rw[if_neg hg]at eW
  exact Lc _ _ h eW
def vH (C:bt) (o:br) (s:aj) (ie:dK) (ms:List eV):Prop:=
 (∀ar,cr ie.bc ar s→∀K:aj→Prop,K (cq ms ar)→jz C ar o K)∧(∀m∈ms,m.x∈ie.T∧∀u∈m.d.U,u∈ie.H)∧(∀u∈ie.bc,∀x∈(s u).U,x∈ie.H)∧(ie.c=true→∀u∈ie.bc,(s u).clean=true)
theorem Dr (dst:Option Nat) (av:I):∃ms:List eV,(∀m∈ms,m.x∈dst.toList∧m.d=av)∧∀s1:aj,fin s1 dst av=cq ms s1:=by
 cases dst with
 |none=>exact⟨[],by simp,fun s=>rfl⟩
 |some t=>
  simp only[fin]
  by_cases h:av.plain=true
  ·exact⟨[⟨.no,t,av⟩],by simp,fun s=>by rw[if_pos h,yu]⟩
  ·exact⟨[⟨.bY,t,av⟩],by simp,fun s=>by rw[if_neg h,Cn]⟩
theorem vI {s:aj} {bc:List Nat} {dst:Option Nat} {bV:List Nat} {av:I}:(∀u∈(gG s bc dst bV av).bc,∀x∈(s u).U,x∈(gG s bc dst bV av).H)∧((gG s bc dst bV av).c=true→∀u∈(gG s bc dst bV av).bc,(s u).clean=true):=by
 refine⟨fun u hu x aq=> ?_,fun ai=> ?_⟩
 ·simp only[gG,List.mem_append,List.mem_flatMap];exact .inl ⟨u,hu,aq⟩
 ·simp only[gG,List.all_eq_true]at ai;exact ai
theorem y_ {s:aj} {f:ax} {args:List ax} {K:List Nat→I→aj→Prop} (h:y7 C s f args K):
  ∃bV av ms,K bV av (cq ms s)∧(∀m∈ms,m.x∈bV∧m.d.U=[])∧∀ar,cr (use s (.call f args)) ar s→∀bF:I→aj→Prop,bF av (cq ms ar)→vx C ar f args bF:=by
 obtain⟨g,caps,ps,r,ab,eQ,ad,aB,aR,ba,bu,bE,cK⟩:=h
 have Le:∀p∈ps,vG s p (fun d=>d=p.d∧p.d.eD=true):=by
  intro p ak hg
  have:=aB p ak
  simp only[bW.ok,hg,if_true]at this
  cases bT:p.a with
  |h x q=>rw[bT]at this;exact⟨x,q,p.d,rfl,this.1,⟨rfl,this.2.1⟩,this.2.2.imp id fun h=>h.1⟩
  |_=>rw[bT]at this;exact this.elim
 obtain⟨⟨mh,ah,a2⟩,a3⟩:=K8 ps s Le aR
 obtain⟨oF,jR,gQ⟩:=La ps (dI s ps) a3 aR
 have mS:∀u∈I.cZ (ps.map (·.a)),u∈use s (.call f args):=by
  rw[ad]
  intro u hu
  simp only[use,List.mem_append]
  have key:∀(e4 l2:List I),u∈I.cZ (e4++l2)→u∈I.cZ e4∨u∈I.cZ l2:=by
   intro e4
   induction e4 with
   |nil=>intro l2 h;exact .inr h
   |cons a e4 ih=>
    intro l2 h
    simp only[List.cons_append,I.cZ,List.mem_append]at h⊢
    rcases h with h|h
    ·exact .inl (.inl h)
    ·exact(ih l2 h).imp .inr id
  rcases key _ _ hu with hu|hu
  ·exact .inr (ax.vt u hu)
  ·refine .inl (ax.pT u ?_)
   rw[ab];exact hu
 have eY:gf (dI s ps) ps=cq (mh++oF) s:=by
  rw[jx,←a2 s (fun _ _=>rfl),gQ _ (fun _ _=>rfl)]
 refine⟨n1 ps,r,mh++oF,by rw[←eY];exact cK,?_,?_⟩
 ·intro m hm
  rcases List.mem_append.1 hm with hm|hm
  ·exact ah m hm
  ·exact jR m hm
 ·intro ar U bF al
  have nU:cr (I.cZ (ps.map (·.a))) ar s:=U.sub mS
  have bk:cr (f.use s) ar s:=by simp only[use]at U;exact U.left
  have aq:cr (ax.lM s args) ar s:=by simp only[use]at U;exact U.right
  have aH:gf (dI ar ps) ps=cq (mh++oF) ar:=by
   rw[jx,←a2 ar nU,gQ]
   rw[a2 ar nU,a2 s (fun _ _=>rfl)]
   exact cr.cq nU _
  exact⟨g,caps,ps,r,by rw[ax.dC bk];exact ab,eQ,by rw[ax.yy aq];exact ad,fun p ak=>Ld (nU.sub (K7 ak)) (aB p ak),aR,ba,bu,bE,by rw[aH];exact al⟩
mutual
theorem Ds {s ar:aj}:∀(d:I),cr d.U ar s→d.fm ar=d.fm s
 | .h x q,h=>by simp only[I.fm];rw[h x (by simp[I.U])]
 | .R x q,h=>by simp only[I.fm];rw[h x (by simp[I.U])]
 | .fn f cap,h=>by simp only[I.fm];exact Dt cap (by simpa only[I.U]using h)
 | .ak _ _,_=>by simp only[I.fm]
 | .hole,_=>by simp only[I.fm]
 | .bool _,_=>by simp only[I.fm]
 | .dk,_=>by simp only[I.fm]
 | .int _ _,_=>by simp only[I.fm]
 | .str _,_=>by simp only[I.fm]
 | .ct,_=>by simp only[I.fm]
 | .bD,_=>by simp only[I.fm]
 | .slice _,_=>by simp only[I.fm]
 | .aE _ _,_=>by simp only[I.fm]
 | .ref _,_=>by simp only[I.fm]
 | .a_ _,_=>by simp only[I.fm]
 | .agg _,_=>by simp only[I.fm]
 | .tuple _,_=>by simp only[I.fm]
 | .cH _,_=>by simp only[I.fm]
theorem Dt {s ar:aj}:∀(ds:List I),cr (I.cZ ds) ar s→I.oM ar ds=I.oM s ds
 |[],_=>rfl
 |d::ds,h=>by
  simp only[I.cZ]at h
  simp only[I.oM];rw[Ds d h.left,Dt ds h.right]
end
theorem za {s ar:aj} {us:List Nat} (h:cr (us.flatMap fun u=>u::(s u).U) ar s):jX ar us=jX s us:=by
 unfold jX
 refine List.map_congr_left fun u hu=> ?_
 rw[h u (List.mem_flatMap.2 ⟨u,hu,by simp⟩)]
theorem zb {s ar:aj}:∀(L:List (Nat×I)),(∀p∈L,cr p.2.U ar s)→na ar L=na s L
 |[],_=>rfl
 |p::L,h=>by
  simp only[na];rw[Ds p.2 (h p (by simp)),zb L (fun q cf=>h q (by simp[cf]))]
theorem Du:∀(L:List (Nat×I)) (s:aj),nX s L=cq (L.map fun p=>⟨.no,p.1,p.2⟩) s
 |[],s=>rfl
 |p::L,s=>by
  simp only[nX,List.map_cons]
  rw[Du L,yu]
  exact(jx [⟨.no,p.1,p.2⟩] _ s).symm
theorem Lf {s:aj} {bd:ej} {K:List Nat→I→aj→Prop} (h:mr C s bd K):
  ∃bV av ms,K bV av (cq ms s)∧(∀m∈ms,m.x∈bV∧∀v∈m.d.U,∃u∈use s bd,v∈(s u).U)∧∀ar,cr (use s bd) ar s→∀bF:I→aj→Prop,bF av (cq ms ar)→lP C ar bd bF:=by
 have plain:(∃av s1,a8 C s bd=some (av,s1)∧K (ck s bd) av s1)→(∀ar (bF:I→aj→Prop) av s1,a8 C ar bd=some (av,s1)→bF av s1→lP C ar bd bF)→
   ∃bV av ms,K bV av (cq ms s)∧(∀m∈ms,m.x∈bV∧∀v∈m.d.U,∃u∈use s bd,v∈(s u).U)∧∀ar,cr (use s bd) ar s→∀bF:I→aj→Prop,bF av (cq ms ar)→lP C ar bd bF:=by
  rintro⟨av,s1,ab,ad⟩ hw
  obtain⟨ms,aH,aJ,aK⟩:=CC ab
  subst aH
  exact⟨_,av,ms,ad,fun m hm=>⟨(aJ m hm).1,fun v aG=>by rw[(aJ m hm).2]at aG;cases aG⟩,fun ar U bF al=>hw ar bF av _ (aK ar U) al⟩
 cases bd with
 |call f args=>
  obtain⟨bV,av,ms,ah,a2,a3⟩:=y_ h
  exact⟨bV,av,ms,ah,fun m hm=>⟨(a2 m hm).1,fun v aG=>by rw[(a2 m hm).2]at aG;cases aG⟩,fun ar U bF al=>a3 ar U bF al⟩
 |kq f args u x=>
  obtain⟨bz,bK,ai⟩:=h
  obtain⟨bV,av,ms,⟨ah,zc,Lg⟩,a2,a3⟩:=y_ ai
  have e:∀s:aj,cm (cq ms s) u (.h x [])=cq (ms++[⟨.no,u,.h x []⟩]) s:=fun s=>by rw[jx,←yu]
  refine⟨u::bV,av,ms++[⟨.no,u,.h x []⟩],by rw[←e];exact Lg,?_,?_⟩
  ·intro m hm
   rcases List.mem_append.1 hm with hm|hm
   ·exact⟨by simp[(a2 m hm).1],fun v aG=>by rw[(a2 m hm).2]at aG;cases aG⟩
   ·simp only[List.mem_singleton]at hm;subst hm
    refine⟨by simp,fun v aG=>⟨u,by simp[use],?_⟩⟩
    rw[bz];exact aG
  ·intro ar U bF al
   have Dv:ar u=s u:=U u (by simp[use])
   have ex:ar x=s x:=U x (by simp[use])
   refine⟨by rw[Dv];exact bz,by rw[ex];exact bK,a3 ar (fun y hy=>U y (by simp only[use,List.mem_cons]at hy⊢;exact .inr (.inr hy))) _ ⟨?_,?_,?_⟩⟩
   ·have:=ah;simp only[cq]at this⊢;rw[Dv];exact this
   ·have:=zc;simp only[cq]at this⊢;rw[ex];exact this
   ·rw[e];exact al
 |kr f args us=>
  obtain⟨bK,ai⟩:=h
  obtain⟨bV,av,ms,⟨ah,zc⟩,a2,a3⟩:=y_ ai
  have e:∀ar:aj,nX (cq ms ar) (jX s us)=cq (ms++(jX s us).map fun p=>⟨.no,p.1,p.2⟩) ar:=fun ar=>by rw[jx,Du]
  have fu:∀{ar:aj},cr (us.flatMap fun u=>u::(s u).U) ar s→∀p∈jX s us,cr p.2.U ar s:=fun {ar} U p ak v aG=>by
   obtain⟨u,hu,rfl⟩:=List.mem_map.1 ak
   exact U v (List.mem_flatMap.2 ⟨u,hu,by simp[aG]⟩)
  refine⟨us++bV,av,ms++(jX s us).map fun p=>⟨.no,p.1,p.2⟩,by rw[←e];exact zc,?_,?_⟩
  ·intro m hm
   rcases List.mem_append.1 hm with hm|hm
   ·exact⟨by simp[(a2 m hm).1],fun v aG=>by rw[(a2 m hm).2]at aG;cases aG⟩
   ·obtain⟨p,ak,rfl⟩:=List.mem_map.1 hm
    obtain⟨u,hu,rfl⟩:=List.mem_map.1 ak
    exact⟨List.mem_append_left _ hu,fun v aG=>⟨u,by simp only[use,List.mem_append,List.mem_flatMap];exact .inl ⟨u,hu,by simp⟩,aG⟩⟩
  ·intro ar U bF al
   simp only[use]at U
   refine⟨by rw[za U.left,zb _ (fu U.left)];exact bK,a3 ar U.right _ ⟨?_,?_⟩⟩
   ·rw[za U.left,zb _ (fun p ak=>(fu U.left p ak).cq ms)];exact ah
   ·rw[za U.left,e];exact al
 |shr bd=>
  obtain⟨av,s1,ab,ad,aB,aR⟩:=h
  obtain⟨ms,aH,aJ,aK⟩:=CC ab
  subst aH
  exact⟨_,av.share,ms,aR,fun m hm=>⟨(aJ m hm).1,fun v aG=>by rw[(aJ m hm).2]at aG;cases aG⟩,fun ar U bF al=>⟨av,_,aK ar U,ad,aB,al⟩⟩
 |_=>exact plain h (fun ar bF av s1 ab ad=>⟨av,s1,ab,ad⟩)
theorem Lh {s:aj} {o:br} {K:dK→aj→Prop} (h:k1 C s o K):∃ie ms,K ie (cq ms s)∧vH C o s ie ms:=by
 have op:∀(bc:List Nat),(∀u∈use s o.bd,u∈bc)→(∀ar,cr bc ar s→∀bF:aj→Prop,lP C ar o.bd (fun av s1=>bF (fin s1 o.dst av))→jz C ar o bF)→
   mr C s o.bd (fun bV av s1=>K (gG s bc o.dst bV av) (fin s1 o.dst av))→∃ie ms,K ie (cq ms s)∧vH C o s ie ms:=by
  intro bc mS jP hw
  obtain⟨bV,av,ms,ab,ad,aB⟩:=Lf hw
  obtain⟨iA,j0,db⟩:=Dr o.dst av
  refine⟨gG s bc o.dst bV av,ms++iA,?_,?_,?_,vI.1,vI.2⟩
  ·rw[jx,←db];exact ab
  ·intro ar U bF al
   refine jP ar U bF (aB ar (U.sub mS) _ ?_)
   rw[db,←jx];exact al
  ·intro m hm
   simp only[gG,List.mem_append]
   rcases List.mem_append.1 hm with hm|hm
   ·refine⟨.inr (ad m hm).1,fun v aG=>.inl ?_⟩
    obtain⟨u,hu,iX⟩:=(ad m hm).2 v aG
    exact List.mem_flatMap.2 ⟨u,mS u hu,iX⟩
   ·exact⟨.inl (j0 m hm).1,fun u hu=>.inr (by rw[(j0 m hm).2]at hu;exact hu)⟩
 have skip:∀t,(∀ar,cr [t] ar s→∀bF:aj→Prop,bF (fin ar o.dst (.tuple []))→jz C ar o bF)→K (gG s [t] o.dst [] (.tuple [])) (fin s o.dst (.tuple []))→∃ie ms,K ie (cq ms s)∧vH C o s ie ms:=by
  intro t jP al
  obtain⟨iA,j0,db⟩:=Dr o.dst (.tuple [])
  refine⟨_,iA,by rw[←db];exact al,?_,?_,vI.1,vI.2⟩
  ·intro ar U bF jv
   exact jP ar U bF (by rw[db];exact jv)
  ·intro m hm
   simp only[gG,List.mem_append]
   exact⟨.inl (j0 m hm).1,fun u hu=>by rw[(j0 m hm).2]at hu;simp[I.U]at hu⟩
 unfold k1 at h
 split at h
 ·rename_i hg
  exact op _ (fun _ h=>h) (fun ar _ bF hw=>by unfold jz;rw[hg];exact hw) h
 ·rename_i t b hg
  split at h
  ·rename_i dQ R
   split at h
   ·rename_i e
    refine op (t::use s o.bd) (fun u hu=>by simp[hu]) (fun ar U bF hw=> ?_) h
    have:ar t=s t:=U t (by simp)
    unfold jz
    rw[hg]
    simp only[this,R,if_pos e]
    exact hw
   ·rename_i e
    refine skip t (fun ar U bF al=> ?_) h
    have:ar t=s t:=U t (by simp)
    unfold jz
    rw[hg]
    simp only[this,R,if_neg e]
    exact al
  ·rename_i R
   refine skip t (fun ar U bF al=> ?_) h
   have:ar t=s t:=U t (by simp)
   unfold jz
   rw[hg]
   simp only[this,R]
   exact al
  ·exact h.elim
def oS (C:bt) (ros:List br):aj→List (Nat×dK×List eV)→Prop
 |_,[]=>True
 |s,e::r=>(∃o,ros[e.1]? =some o∧vH C o s e.2.1 e.2.2)∧oS C ros (cq e.2.2 s) r
def mu (s:aj) (r:List (Nat×dK×List eV)):aj:=r.foldl (fun s e=>cq e.2.2 s) s
def lG (a b:List Nat):Bool:=a.all fun x=> !b.contains x
theorem ri {a b:List Nat} (h:lG a b=true):∀x∈a,x∉b:=by
 intro x aq
 simp only[lG,List.all_eq_true]at h
 simpa using h x aq
def p0 (a b:dK):Bool:=lG b.T a.bc&&lG b.T a.H&&lG b.T a.T&&lG a.T b.bc&&lG a.T b.H&&b.c
theorem Li {ros:List br} {s:aj} {a b:Nat×dK×List eV} {r:List (Nat×dK×List eV)} (h:oS C ros s (a::b::r)) (aA:p0 a.2.1 b.2.1=true):
  oS C ros s (b::a::r)∧mu s (b::a::r)=mu s (a::b::r):=by
 obtain⟨⟨Lj,bT,ah,a2,a3,a4⟩,⟨cH,R,jR,gQ,jw,cY⟩,aD⟩:=h
 simp only[p0,Bool.and_eq_true]at aA
 obtain⟨⟨⟨⟨⟨mH,i2⟩,i3⟩,i4⟩,i5⟩,xB⟩:=aA
 have zd:∀u∈b.2.1.bc,cq a.2.2 s u=s u:=by
  intro u hu
  refine K2 _ _ _ (fun m hm e=> ?_) (cY xB u hu)
  exact ri i4 m.x (a2 m hm).1 (e▸hu)
 have ze:∀u∈a.2.1.bc,cq b.2.2 s u=s u:=by
  intro u hu
  refine K3 _ _ _ fun m hm=>⟨fun e=> ?_,fun aq=> ?_⟩
  ·exact ri mH m.x (gQ m hm).1 (e▸hu)
  ·exact ri i2 m.x (gQ m hm).1 (a3 u hu _ aq)
 have Dw:cq b.2.2 (cq a.2.2 s)=cq a.2.2 (cq b.2.2 s):=by
  refine K5 _ _ _ fun m hm n aW=>⟨fun e=> ?_,fun h=> ?_,fun h=> ?_⟩
  ·exact ri i3 n.x (gQ n aW).1 (e▸(a2 m hm).1)
  ·exact ri i2 n.x (gQ n aW).1 ((a2 m hm).2 _ h)
  ·exact ri i5 m.x (a2 m hm).1 ((gQ n aW).2 _ h)
 refine⟨⟨⟨cH,R,?_,gQ,?_,?_⟩,⟨Lj,bT,?_,a2,?_,?_⟩,?_⟩,?_⟩
 ·intro ar U K al
  exact jR ar (fun u hu=>(U u hu).trans (zd u hu).symm) K al
 ·intro u hu x aq
  exact jw u hu x (by rw[zd u hu];exact aq)
 ·intro ai u hu
  have:=cY ai u hu
  rwa [zd u hu]at this
 ·intro ar U K al
  exact ah ar (fun u hu=>(U u hu).trans (ze u hu)) K al
 ·intro u hu x aq
  rw[ze u hu]at aq
  exact a3 u hu x aq
 ·intro ai u hu
  rw[ze u hu]
  exact a4 ai u hu
 ·rw[←Dw];exact aD
 ·simp only[mu,List.foldl_cons]
  rw[Dw]
theorem Lk {ros:List br} {e:Nat×dK×List eV} {post:List (Nat×dK×List eV)}:∀(pre:List (Nat×dK×List eV)) (s:aj),oS C ros s (pre++e::post)→(∀a∈pre,p0 a.2.1 e.2.1=true)→
  oS C ros s (e::(pre++post))∧mu s (e::(pre++post))=mu s (pre++e::post):=by
 intro pre
 induction pre with
 |nil=>intro s h _;exact⟨h,rfl⟩
 |cons a pre ih=>
  intro s h aA
  obtain⟨ab,ad⟩:=h
  obtain⟨g1,g2⟩:=ih _ ad fun b R=>aA b (by simp[R])
  have ai:oS C ros s (a::e::(pre++post)):=⟨ab,g1⟩
  obtain⟨bz,bK⟩:=Li ai (aA a (by simp))
  refine⟨bz,bK.trans ?_⟩
  simp only[mu,List.foldl_cons,List.cons_append]at g2⊢
  exact g2
end
def tD:List (List Nat)→List (List Nat)→List (List Nat)
 |done,[]=>done
 |done,a::r=>tD (done++[a++a.flatMap fun e=>(done[e]?).getD []]) r
def p1 (eL:List (List Nat)):List (List Nat):=tD [] eL
theorem Ll {eL:List (List Nat)} {l:List Nat} (hl:∀u i v,l=u++i::v→∀e∈(eL[i]?).getD [],e∈u):∀(rest pre done:List (List Nat)),eL=pre++rest→done.length=pre.length→
  (∀u i v,l=u++i::v→∀e∈(done[i]?).getD [],e∈u)→∀u i v,l=u++i::v→∀e∈((tD done rest)[i]?).getD [],e∈u:=by
 intro rest
 induction rest with
 |nil=>intro pre done _ _ h;exact h
 |cons a rest ih=>
  intro pre done Dx hlen h
  simp only[tD]
  refine ih (pre++[a]) _ (by simp[Dx]) (by simp[hlen]) ?_
  intro u i v hu e he
  by_cases aA:i<done.length
  ·rw[List.getElem?_append_left aA]at he
   exact h u i v hu e he
  ·rw[List.getElem?_append_right (by omega)]at he
   by_cases Cl:i-done.length=0
   ·rw[Cl]at he
    simp only[List.getElem?_cons_zero,Option.getD_some,List.mem_append,List.mem_flatMap]at he
    have Dy:(eL[i]?).getD []=a:=by
     have:i=pre.length:=by omega
     rw[Dx,this,List.getElem?_append_right (Nat.le_refl _)];simp
    rcases he with he|⟨eG,yY,he⟩
    ·exact hl u i v hu e (by rw[Dy];exact he)
    ·have th:=hl u i v hu eG (by rw[Dy];exact yY)
     obtain⟨s8,B_,rfl⟩:=List.append_of_mem th
     have:=h s8 eG (B_++i::v) (by rw[hu];simp) e he
     simp[this]
   ·rw[List.getElem?_eq_none (by simp;omega)]at he
    simp at he
theorem Lm {eL:List (List Nat)} {l:List Nat} (hl:∀u i v,l=u++i::v→∀e∈(eL[i]?).getD [],e∈u):∀u i v,l=u++i::v→∀e∈((p1 eL)[i]?).getD [],e∈u:=
 Ll hl eL [] [] rfl rfl fun u i v _ e he=>by simp at he
def j1 (kx:List (List Nat)):Nat→List (Nat×dK)→List dK→Bool
 |_,_,[]=>true
 |j,es,f::ag=>(es.all fun e=>((kx[j]?).getD []).contains e.1||p0 e.2 f)&&j1 kx (j+1) ((j,f)::es) ag
def zf (kx:List (List Nat)) (a b:Nat×dK×List eV):Prop:=a.1∈(kx[b.1]?).getD []∨p0 a.2.1 b.2.1=true
theorem Ln {kx:List (List Nat)}:∀(fb:List (Nat×dK×List eV)) (j:Nat) (es:List (Nat×dK)),fb.map (·.1)=(List.range fb.length).map (·+j)→j1 kx j es (fb.map (·.2.1))=true→
  fb.Pairwise (zf kx)∧∀e∈es,∀b∈fb,e.1∈(kx[b.1]?).getD []∨p0 e.2 b.2.1=true:=by
 intro fb
 induction fb with
 |nil=>intro j es _ _;exact⟨.nil,fun e _ b R=>by cases R⟩
 |cons a fb ih=>
  intro j es p2 eW
  rw[List.length_cons,List.range_succ_eq_map,List.map_cons,List.map_cons,List.map_map]at p2
  simp only[List.cons.injEq,Nat.zero_add]at p2
  obtain⟨b2,p2⟩:=p2
  simp only[List.map_cons,j1,Bool.and_eq_true,List.all_eq_true,Bool.or_eq_true]at eW
  obtain⟨ab,ad⟩:=eW
  obtain⟨g1,g2⟩:=ih (j+1) _ (by rw[p2];congr 1;funext x;simp;omega) ad
  refine⟨.cons (fun b R=> ?_) g1,fun e he b R=> ?_⟩
  ·have:=g2 (j,a.2.1) (by simp) b R
   simp only[zf,b2];exact this
  ·rcases List.mem_cons.1 R with rfl|R
   ·rw[b2]
    exact(ab e he).imp (fun h=>by simpa using h) id
   ·exact g2 e (by simp[he]) b R
section
variable {C:bt}
theorem Lo {K:Option (List dK)→aj→Prop}:∀(os pre:List br) (s:aj) (acc:List dK),bN C s os (some acc) K→
  ∃fb,oS C (pre++os) s fb∧fb.map (·.1)=(List.range os.length).map (·+pre.length)∧K (some ((fb.map (·.2.1)).reverse++acc)) (mu s fb):=by
 intro os
 induction os with
 |nil=>intro pre s acc h;exact⟨[],trivial,rfl,h⟩
 |cons o os ih=>
  intro pre s acc h
  obtain⟨ie,ms,ab,ad⟩:=Lh h
  obtain⟨fb,g1,g2,g3⟩:=ih (pre++[o]) _ (ie::acc) ab
  refine⟨(pre.length,ie,ms)::fb,⟨⟨o,?_,ad⟩,?_⟩,?_,?_⟩
  ·rw[List.getElem?_append_right (Nat.le_refl _)];simp
  ·simpa using g1
  ·rw[List.length_cons,List.range_succ_eq_map,List.map_cons,List.map_cons,List.map_map,g2]
   simp only[List.cons.injEq,Nat.zero_add,true_and]
   congr 1;funext x;simp;omega
  ·simpa [mu]using g3
theorem Lp {ros:List br} {kx:List (List Nat)} {K:aj→Prop}:∀(l:List Nat) (fb:List (Nat×dK×List eV)) (s:aj),oS C ros s fb→fb.Pairwise (zf kx)→l.Nodup→(fb.map (·.1)).Nodup→
  (∀i,i∈l↔i∈fb.map (·.1))→(∀u i v,l=u++i::v→∀e∈(kx[i]?).getD [],e∈fb.map (·.1)→e∈u)→K (mu s fb)→hC C ros s l K:=by
 intro l
 induction l with
 |nil=>
  intro fb s _ _ _ _ hm _ al
  cases fb with
  |nil=>exact al
  |cons e fb=>have:=(hm e.1).2 (by simp);cases this
 |cons i l ih=>
  intro fb s ai ak aW mT hm bL al
  obtain⟨e,he,aA⟩:=List.mem_map.1 ((hm i).1 (by simp))
  obtain⟨pre,post,rfl⟩:=List.append_of_mem he
  have Lq:∀a∈pre,p0 a.2.1 e.2.1=true:=by
   intro a bT
   have aD:=(List.pairwise_append.1 ak).2.2 a bT e (by simp)
   rcases aD with aD|aD
   ·rw[aA]at aD
    have:=bL [] i l rfl a.1 aD (by simp only[List.map_append,List.mem_append,List.mem_map];exact .inl ⟨a,bT,rfl⟩)
    cases this
   ·exact aD
  obtain⟨g1,g2⟩:=Lk pre s ai Lq
  obtain⟨⟨o,Lr,Ls⟩,g3⟩:=g1
  have Dz:i∉(pre++post).map (·.1):=by
   have:(pre.map (·.1)++e.1::post.map (·.1)).Nodup:=by simpa using mT
   have aS:=(List.perm_middle.nodup_iff.1 this)
   rw[List.nodup_cons]at aS
   rw[←aA];simpa using aS.1
  simp only[hC]
  rw[←aA,Lr]
  refine Ls.1 s (fun _ _=>rfl) _ ?_
  rw[List.nodup_cons]at aW
  refine ih (pre++post) _ g3 ?_ aW.2 ?_ ?_ ?_ ?_
  ·exact ak.sublist ((List.Sublist.refl pre).append (List.sublist_cons_self e post))
  ·have:(pre.map (·.1)++e.1::post.map (·.1)).Nodup:=by simpa using mT
   have aS:=(List.perm_middle.nodup_iff.1 this)
   rw[List.nodup_cons]at aS
   simpa using aS.2
  ·intro j
   constructor
   ·intro b2
    have ab:=(hm j).1 (by simp[b2])
    simp only[List.map_append,List.map_cons,List.mem_append,List.mem_cons]at ab⊢
    rcases ab with ab|rfl|ab
    ·exact .inl ab
    ·exact(aW.1 (aA▸b2)).elim
    ·exact .inr ab
   ·intro b2
    have ab:=(hm j).2 (by
     simp only[List.map_append,List.map_cons,List.mem_append,List.mem_cons]at b2⊢
     exact b2.imp id .inr)
    rcases List.mem_cons.1 ab with rfl|ab
    ·exact(Dz b2).elim
    ·exact ab
  ·intro u j v hu x aq zg
   have ab:=bL (i::u) j v (by rw[hu];rfl) x aq (by
    simp only[List.map_append,List.map_cons,List.mem_append,List.mem_cons]at zg⊢
    exact zg.imp id .inr)
   rcases List.mem_cons.1 ab with rfl|ab
   ·exact(Dz zg).elim
   ·exact ab
  ·have:mu s (e::(pre++post))=mu (cq e.2.2 s) (pre++post):=rfl
   rw[←this,g2];exact al
theorem DA {ros:List br} {eL:List (List Nat)} {s:aj} {K:aj→Prop} (hlen:eL.length=ros.length)
  (h:bN C s ros (some []) (fun acc s=>j1 (p1 eL) 0 [] (acc.getD []).reverse=true∧K s)):∀l,yX eL l→hC C ros s l K:=by
 intro l ⟨e4,l2,yN⟩
 obtain⟨fb,g1,g2,g3,g4⟩:=Lo ros [] s [] h
 simp only[List.nil_append,List.append_nil,List.length_nil,Option.getD_some,List.reverse_reverse]at g1 g2 g3
 have hl:fb.length=ros.length:=by have:=congrArg List.length g2;simpa using this
 have p2:fb.map (·.1)=(List.range fb.length).map (·+0):=by rw[g2,hl]
 have aD:fb.map (·.1)=List.range ros.length:=by rw[g2];simp
 obtain⟨ee,_⟩:=Ln fb 0 [] p2 g3
 refine Lp l fb s g1 ee e4 (by rw[aD];exact List.nodup_range) (fun i=> ?_) (fun u i v hu e he _=>Lm yN u i v hu e he) g4
 rw[aD,l2,hlen,List.mem_range]
end
def cy (C:bt) (dst:Option Nat) (os:List br) (K:Option (List dK)→aj→Prop):Option (I×aj)→Prop
 |some (av,s1)=>bN C (fin s1 dst av) os none K
 |none=>False
def cz (C:bt) (l:List (Nat×I)) (bc bV:List Nat) (dst:Option Nat) (os:List br) (a:List dK) (K:Option (List dK)→aj→Prop):Option (I×aj)→Prop
 |some (av,s1)=>bN C (fin s1 dst av) os (some (gG (J l) bc dst bV av::a)) K
 |none=>False
def bP (C:bt) (l:List (Nat×I)) (dst:Option Nat) (bd:ej) (t:Nat) (b:Bool) (os:List br) (acc:Option (List dK)) (K:Option (List dK)→aj→Prop):I→Prop
 | .bool dQ=>if dQ=b then mr C (J l) bd (fun bV av s1=>bN C (fin s1 dst av) os (nd acc (gG (J l) (t::use (J l) bd) dst bV av)) K)else bN C (fin (J l) dst (.tuple [])) os (nd acc (gG (J l) [t] dst [] (.tuple []))) K
 | .tuple []=>bN C (fin (J l) dst (.tuple [])) os (nd acc (gG (J l) [t] dst [] (.tuple []))) K
 |_=>False
section
variable {C:bt} {l:List (Nat×I)} {os:List br} {K:Option (List dK)→aj→Prop} {dst:Option Nat} {a:List dK} {acc:Option (List dK)}
theorem vJ {s:aj} {bd:ej} {K:List Nat→I→aj→Prop} (aW:bd.pY=false):mr C s bd K=(match a8 C s bd with
  |some (av,s1)=>K (ck s bd) av s1
  |none=>False):=by
 apply propext
 constructor
 ·intro h
  cases bd<;>first
   |(simp[ej.pY]at aW;done)
   |(obtain⟨av,s1,ab,ad⟩:=h;rw[ab];exact ad)
 ·intro h
  split at h
  ·rename_i av s1 he
   cases bd<;>first
    |(simp[ej.pY]at aW;done)
    |exact⟨av,s1,he,h⟩
  ·exact h.elim
theorem DB:bN C (J l) [] acc K=K acc (J l):=rfl
theorem g_ {bd:ej} (aW:bd.pY=false):bN C (J l) (⟨dst,bd,none⟩::os) none K=cy C dst os K (a8 C (J l) bd):=by
 simp only[bN,k1,nd]
 rw[vJ aW]
 cases a8 C (J l) bd with
 |none=>rfl
 |some p=>rfl
theorem ha {bd:ej} (aW:bd.pY=false):bN C (J l) (⟨dst,bd,none⟩::os) (some a) K=cz C l (use (J l) bd) (ck (J l) bd) dst os a K (a8 C (J l) bd):=by
 simp only[bN,k1,nd]
 rw[vJ aW]
 cases a8 C (J l) bd with
 |none=>rfl
 |some p=>rfl
theorem DC {bd:ej} {t:Nat} {b:Bool}:bN C (J l) (⟨dst,bd,some (t,b)⟩::os) acc K=bP C l dst bd t b os acc K (J l t):=by
 simp only[bN,k1]
 generalize J l t=v
 cases v<;>first|rfl|(rename_i vs;cases vs<;>rfl)
theorem dO {bd:ej} {t:Nat} {b:Bool} (aW:bd.pY=false):bP C l dst bd t b os none K (.bool b)=cy C dst os K (a8 C (J l) bd):=by
 simp only[bP,if_true]
 rw[vJ aW]
 cases a8 C (J l) bd with
 |none=>rfl
 |some p=>rfl
theorem dP {bd:ej} {t:Nat} {b:Bool} (aW:bd.pY=false):bP C l dst bd t b os (some a) K (.bool b)=cz C l (t::use (J l) bd) (ck (J l) bd) dst os a K (a8 C (J l) bd):=by
 simp only[bP,if_true]
 rw[vJ aW]
 cases a8 C (J l) bd with
 |none=>rfl
 |some p=>rfl
theorem Lt {bd:ej} {t:Nat}:bP C l dst bd t true os none K (.bool false)=bN C (fin (J l) dst (.tuple [])) os none K∧bP C l dst bd t false os none K (.bool true)=bN C (fin (J l) dst (.tuple [])) os none K∧
  (∀b,bP C l dst bd t b os none K (.tuple [])=bN C (fin (J l) dst (.tuple [])) os none K):=⟨rfl,rfl,fun _=>rfl⟩
theorem Lu {bd:ej} {t:Nat}:bP C l dst bd t true os (some a) K (.bool false)=bN C (fin (J l) dst (.tuple [])) os (some (gG (J l) [t] dst [] (.tuple [])::a)) K∧
  bP C l dst bd t false os (some a) K (.bool true)=bN C (fin (J l) dst (.tuple [])) os (some (gG (J l) [t] dst [] (.tuple [])::a)) K∧
  (∀b,bP C l dst bd t b os (some a) K (.tuple [])=bN C (fin (J l) dst (.tuple [])) os (some (gG (J l) [t] dst [] (.tuple [])::a)) K):=⟨rfl,rfl,fun _=>rfl⟩
theorem Lv (av:I) (s1:aj):cy C dst os K (some (av,s1))=bN C (fin s1 dst av) os none K:=rfl
theorem Lw (bc bV:List Nat) (av:I) (s1:aj):cz C l bc bV dst os a K (some (av,s1))=bN C (fin s1 dst av) os (some (gG (J l) bc dst bV av::a)) K:=rfl
def hb (s:aj):I→Option (I×aj)
 | .h y q=>bV s (.h y q)
 |d=>some (d,s)
def oT (s:aj):I→I→I→Option (I×aj)
 | .bool dQ,x,y=>some (if dQ then x else y,s)
 |_,_,_=>none
def b3 (s:aj):Option I→Option (I×aj)
 |some d=>some (d,s)
 |none=>none
def gx:Option aj→Option (I×aj)
 |some s1=>some (.hole,s1)
 |none=>none
def gH (s:aj):List ax→List I
 |[]=>[]
 |x::xs=>az s x::gH s xs
def hU (s:aj):List (Nat×ax)→List (Nat×I)
 |[]=>[]
 |(k,x)::xs=>(k,az s x)::hU s xs
def jd (s:aj):Option ax→Option I
 |none=>none
 |some x=>some (az s x)
theorem k2 (s:aj) (x:Option I):(x.map fun d=>(d,s))=b3 s x:=by cases x<;>rfl
theorem Lx (x:Option aj):(x.map fun s1=>(I.hole,s1))=gx x:=by cases x<;>rfl
theorem vK (s:aj):∀xs:List ax,xs.map (az s)=gH s xs
 |[]=>rfl
 |x::xs=>by simp only[List.map_cons,gH,vK s xs]
theorem zh (s:aj):∀xs:List (Nat×ax),(xs.map fun p=>(p.1,az s p.2))=hU s xs
 |[]=>rfl
 |(k,x)::xs=>by simp only[List.map_cons,hU,zh s xs]
theorem Ly (s:aj) (x:Option ax):x.map (az s)=jd s x:=by cases x<;>rfl
theorem rj (x:ax):a8 C (J l) (.bZ x)=some (az (J l) x,J l):=by
 rfl
theorem rk (x:ax):a8 C (J l) (.dM x)=hb (J l) (az (J l) x):=by
 simp only[a8];cases az (J l) x<;>rfl
theorem rl (c x y:ax):a8 C (J l) (.pick c x y)=oT (J l) (az (J l) c) (az (J l) x) (az (J l) y):=by
 simp only[a8];cases az (J l) c<;>first|rfl|(rename_i b;cases b<;>rfl)
theorem rm (T:TypeId):a8 C (J l) (.fv T)=b3 (J l) (fv C T):=by
 simp only[a8,k2]
theorem rn (T:TypeId) (x:ax):a8 C (J l) (.ep T x)=ep (J l) (az (J l) x):=by
 rfl
theorem rp (T:TypeId) (ps:List (Nat×ax)):a8 C (J l) (.dR T ps)=dR C (J l) T (hU (J l) ps):=by
 simp only[a8,zh]
theorem rq (T:TypeId) (n:Nat) (ps:List (Nat×ax)):a8 C (J l) (.cX T n ps)=cX C (J l) T n (hU (J l) ps):=by
 simp only[a8,zh]
theorem rr (T:TypeId) (x:ax):a8 C (J l) (.dh T x)=b3 (J l) (dh C (J l) T (az (J l) x)):=by
 simp only[a8,k2]
theorem ru (T:TypeId) (x y:ax):a8 C (J l) (.eh T x y)=gx (eh C (J l) T (az (J l) x) (az (J l) y)):=by
 simp only[a8,Lx]
theorem rv (x:ax):a8 C (J l) (.ew x)=b3 (J l) (ew (J l) (az (J l) x)):=by
 simp only[a8,k2]
theorem ry (op:BinOp) (T:TypeId) (x y:ax):a8 C (J l) (.bB op T x y)=b3 (J l) (bB C (J l) op T (az (J l) x) (az (J l) y)):=by
 simp only[a8,k2]
theorem rz (op:UnOp) (x:ax):a8 C (J l) (.un op x)=b3 (J l) (un op (az (J l) x)):=by
 simp only[a8,k2]
theorem rA (A B:TypeId) (x:ax):a8 C (J l) (.ei A B x)=b3 (J l) (ei C (J l) A B (az (J l) x)):=by
 simp only[a8,k2]
theorem rB (f:FuncId) (cs:List ax):a8 C (J l) (.h_ f cs)=some (.fn f (gH (J l) cs),J l):=by
 simp only[a8,vK]
theorem rC (T:TypeId) (x y:ax):a8 C (J l) (.er T x y)=b3 (J l) (er C T (az (J l) x) (az (J l) y)):=by
 simp only[a8,k2]
theorem rD (T:TypeId) (x:ax) (cb aA:Option ax):a8 C (J l) (.cF T x cb aA)=cF C (J l) T (az (J l) x) (jd (J l) cb) (jd (J l) aA):=by
 simp only[a8,Ly]
theorem rE (T:TypeId) (x:ax) (k:Nat):a8 C (J l) (.ev T x k)=b3 (J l) (ev C (J l) T (az (J l) x) k):=by
 simp only[a8,k2]
theorem rF (T:TypeId) (x y:ax):a8 C (J l) (.eI T x y)=b3 (J l) (eI C (J l) T (az (J l) x) (az (J l) y)):=by
 simp only[a8,k2]
theorem rG (T:TypeId) (x y:ax):a8 C (J l) (.idx T x y)=b3 (J l) (idx C T (az (J l) x) (az (J l) y)):=by
 simp only[a8,k2]
theorem rH (x:ax) (k:Nat):a8 C (J l) (.ex x k)=b3 (J l) (ex (J l) (az (J l) x) k):=by
 simp only[a8,k2]
theorem rI (T:TypeId) (x:ax):a8 C (J l) (.len T x)=b3 (J l) (jT C (J l) T (az (J l) x)):=by
 simp only[a8,k2]
theorem rJ (T bc:TypeId) (x y:ax):a8 C (J l) (.app T bc x y)=jU C (J l) T bc (az (J l) x) (az (J l) y):=by
 rfl
theorem Lz:
  (∀(x:ax),bN C (J l) (⟨dst,.bZ x,none⟩::os) none K=cy C dst os K (some (az (J l) x,J l)))∧
  (∀(x:ax),bN C (J l) (⟨dst,.dM x,none⟩::os) none K=cy C dst os K (hb (J l) (az (J l) x)))∧
  (∀(c x y:ax),bN C (J l) (⟨dst,.pick c x y,none⟩::os) none K=cy C dst os K (oT (J l) (az (J l) c) (az (J l) x) (az (J l) y)))∧
  (∀(T:TypeId),bN C (J l) (⟨dst,.fv T,none⟩::os) none K=cy C dst os K (b3 (J l) (fv C T)))∧
  (∀(T:TypeId) (x:ax),bN C (J l) (⟨dst,.ep T x,none⟩::os) none K=cy C dst os K (ep (J l) (az (J l) x)))∧
  (∀(T:TypeId) (ps:List (Nat×ax)),bN C (J l) (⟨dst,.dR T ps,none⟩::os) none K=cy C dst os K (dR C (J l) T (hU (J l) ps)))∧
  (∀(T:TypeId) (n:Nat) (ps:List (Nat×ax)),bN C (J l) (⟨dst,.cX T n ps,none⟩::os) none K=cy C dst os K (cX C (J l) T n (hU (J l) ps)))∧
  (∀(T:TypeId) (x:ax),bN C (J l) (⟨dst,.dh T x,none⟩::os) none K=cy C dst os K (b3 (J l) (dh C (J l) T (az (J l) x))))∧
  (∀(T:TypeId) (x y:ax),bN C (J l) (⟨dst,.eh T x y,none⟩::os) none K=cy C dst os K (gx (eh C (J l) T (az (J l) x) (az (J l) y))))∧
  (∀(x:ax),bN C (J l) (⟨dst,.ew x,none⟩::os) none K=cy C dst os K (b3 (J l) (ew (J l) (az (J l) x))))∧
  (∀(op:BinOp) (T:TypeId) (x y:ax),bN C (J l) (⟨dst,.bB op T x y,none⟩::os) none K=cy C dst os K (b3 (J l) (bB C (J l) op T (az (J l) x) (az (J l) y))))∧
  (∀(op:UnOp) (x:ax),bN C (J l) (⟨dst,.un op x,none⟩::os) none K=cy C dst os K (b3 (J l) (un op (az (J l) x))))∧
  (∀(A B:TypeId) (x:ax),bN C (J l) (⟨dst,.ei A B x,none⟩::os) none K=cy C dst os K (b3 (J l) (ei C (J l) A B (az (J l) x))))∧
  (∀(f:FuncId) (cs:List ax),bN C (J l) (⟨dst,.h_ f cs,none⟩::os) none K=cy C dst os K (some (.fn f (gH (J l) cs),J l)))∧
  (∀(T:TypeId) (x y:ax),bN C (J l) (⟨dst,.er T x y,none⟩::os) none K=cy C dst os K (b3 (J l) (er C T (az (J l) x) (az (J l) y))))∧
  (∀(T:TypeId) (x:ax) (cb aA:Option ax),bN C (J l) (⟨dst,.cF T x cb aA,none⟩::os) none K=cy C dst os K (cF C (J l) T (az (J l) x) (jd (J l) cb) (jd (J l) aA)))∧
  (∀(T:TypeId) (x:ax) (k:Nat),bN C (J l) (⟨dst,.ev T x k,none⟩::os) none K=cy C dst os K (b3 (J l) (ev C (J l) T (az (J l) x) k)))∧
  (∀(T:TypeId) (x y:ax),bN C (J l) (⟨dst,.eI T x y,none⟩::os) none K=cy C dst os K (b3 (J l) (eI C (J l) T (az (J l) x) (az (J l) y))))∧
  (∀(T:TypeId) (x y:ax),bN C (J l) (⟨dst,.idx T x y,none⟩::os) none K=cy C dst os K (b3 (J l) (idx C T (az (J l) x) (az (J l) y))))∧
  (∀(x:ax) (k:Nat),bN C (J l) (⟨dst,.ex x k,none⟩::os) none K=cy C dst os K (b3 (J l) (ex (J l) (az (J l) x) k)))∧
  (∀(T:TypeId) (x:ax),bN C (J l) (⟨dst,.len T x,none⟩::os) none K=cy C dst os K (b3 (J l) (jT C (J l) T (az (J l) x))))∧
  (∀(T bc:TypeId) (x y:ax),bN C (J l) (⟨dst,.app T bc x y,none⟩::os) none K=cy C dst os K (jU C (J l) T bc (az (J l) x) (az (J l) y))):=
 ⟨fun x=>(g_ rfl).trans (congrArg _ (rj x)),fun x=>(g_ rfl).trans (congrArg _ (rk x)),fun c x y=>(g_ rfl).trans (congrArg _ (rl c x y)),fun T=>(g_ rfl).trans (congrArg _ (rm T)),fun T x=>(g_ rfl).trans (congrArg _ (rn T x)),fun T ps=>(g_ rfl).trans (congrArg _ (rp T ps)),fun T n ps=>(g_ rfl).trans (congrArg _ (rq T n ps)),fun T x=>(g_ rfl).trans (congrArg _ (rr T x)),fun T x y=>(g_ rfl).trans (congrArg _ (ru T x y)),fun x=>(g_ rfl).trans (congrArg _ (rv x)),fun op T x y=>(g_ rfl).trans (congrArg _ (ry op T x y)),fun op x=>(g_ rfl).trans (congrArg _ (rz op x)),fun A B x=>(g_ rfl).trans (congrArg _ (rA A B x)),fun f cs=>(g_ rfl).trans (congrArg _ (rB f cs)),fun T x y=>(g_ rfl).trans (congrArg _ (rC T x y)),fun T x cb aA=>(g_ rfl).trans (congrArg _ (rD T x cb aA)),fun T x k=>(g_ rfl).trans (congrArg _ (rE T x k)),fun T x y=>(g_ rfl).trans (congrArg _ (rF T x y)),fun T x y=>(g_ rfl).trans (congrArg _ (rG T x y)),fun x k=>(g_ rfl).trans (congrArg _ (rH x k)),fun T x=>(g_ rfl).trans (congrArg _ (rI T x)),fun T bc x y=>(g_ rfl).trans (congrArg _ (rJ T bc x y))⟩
theorem LA:
  (∀(x:ax),bN C (J l) (⟨dst,.bZ x,none⟩::os) (some a) K=cz C l (use (J l) (.bZ x)) (ck (J l) (.bZ x)) dst os a K (some (az (J l) x,J l)))∧
  (∀(x:ax),bN C (J l) (⟨dst,.dM x,none⟩::os) (some a) K=cz C l (use (J l) (.dM x)) (ck (J l) (.dM x)) dst os a K (hb (J l) (az (J l) x)))∧
  (∀(c x y:ax),bN C (J l) (⟨dst,.pick c x y,none⟩::os) (some a) K=cz C l (use (J l) (.pick c x y)) (ck (J l) (.pick c x y)) dst os a K (oT (J l) (az (J l) c) (az (J l) x) (az (J l) y)))∧
  (∀(T:TypeId),bN C (J l) (⟨dst,.fv T,none⟩::os) (some a) K=cz C l (use (J l) (.fv T)) (ck (J l) (.fv T)) dst os a K (b3 (J l) (fv C T)))∧
  (∀(T:TypeId) (x:ax),bN C (J l) (⟨dst,.ep T x,none⟩::os) (some a) K=cz C l (use (J l) (.ep T x)) (ck (J l) (.ep T x)) dst os a K (ep (J l) (az (J l) x)))∧
  (∀(T:TypeId) (ps:List (Nat×ax)),bN C (J l) (⟨dst,.dR T ps,none⟩::os) (some a) K=cz C l (use (J l) (.dR T ps)) (ck (J l) (.dR T ps)) dst os a K (dR C (J l) T (hU (J l) ps)))∧
  (∀(T:TypeId) (n:Nat) (ps:List (Nat×ax)),bN C (J l) (⟨dst,.cX T n ps,none⟩::os) (some a) K=cz C l (use (J l) (.cX T n ps)) (ck (J l) (.cX T n ps)) dst os a K (cX C (J l) T n (hU (J l) ps)))∧
  (∀(T:TypeId) (x:ax),bN C (J l) (⟨dst,.dh T x,none⟩::os) (some a) K=cz C l (use (J l) (.dh T x)) (ck (J l) (.dh T x)) dst os a K (b3 (J l) (dh C (J l) T (az (J l) x))))∧
  (∀(T:TypeId) (x y:ax),bN C (J l) (⟨dst,.eh T x y,none⟩::os) (some a) K=cz C l (use (J l) (.eh T x y)) (ck (J l) (.eh T x y)) dst os a K (gx (eh C (J l) T (az (J l) x) (az (J l) y))))∧
  (∀(x:ax),bN C (J l) (⟨dst,.ew x,none⟩::os) (some a) K=cz C l (use (J l) (.ew x)) (ck (J l) (.ew x)) dst os a K (b3 (J l) (ew (J l) (az (J l) x))))∧
  (∀(op:BinOp) (T:TypeId) (x y:ax),bN C (J l) (⟨dst,.bB op T x y,none⟩::os) (some a) K=cz C l (use (J l) (.bB op T x y)) (ck (J l) (.bB op T x y)) dst os a K (b3 (J l) (bB C (J l) op T (az (J l) x) (az (J l) y))))∧
  (∀(op:UnOp) (x:ax),bN C (J l) (⟨dst,.un op x,none⟩::os) (some a) K=cz C l (use (J l) (.un op x)) (ck (J l) (.un op x)) dst os a K (b3 (J l) (un op (az (J l) x))))∧
  (∀(A B:TypeId) (x:ax),bN C (J l) (⟨dst,.ei A B x,none⟩::os) (some a) K=cz C l (use (J l) (.ei A B x)) (ck (J l) (.ei A B x)) dst os a K (b3 (J l) (ei C (J l) A B (az (J l) x))))∧
  (∀(f:FuncId) (cs:List ax),bN C (J l) (⟨dst,.h_ f cs,none⟩::os) (some a) K=cz C l (use (J l) (.h_ f cs)) (ck (J l) (.h_ f cs)) dst os a K (some (.fn f (gH (J l) cs),J l)))∧
  (∀(T:TypeId) (x y:ax),bN C (J l) (⟨dst,.er T x y,none⟩::os) (some a) K=cz C l (use (J l) (.er T x y)) (ck (J l) (.er T x y)) dst os a K (b3 (J l) (er C T (az (J l) x) (az (J l) y))))∧
  (∀(T:TypeId) (x:ax) (cb aA:Option ax),bN C (J l) (⟨dst,.cF T x cb aA,none⟩::os) (some a) K=cz C l (use (J l) (.cF T x cb aA)) (ck (J l) (.cF T x cb aA)) dst os a K (cF C (J l) T (az (J l) x) (jd (J l) cb) (jd (J l) aA)))∧
  (∀(T:TypeId) (x:ax) (k:Nat),bN C (J l) (⟨dst,.ev T x k,none⟩::os) (some a) K=cz C l (use (J l) (.ev T x k)) (ck (J l) (.ev T x k)) dst os a K (b3 (J l) (ev C (J l) T (az (J l) x) k)))∧
  (∀(T:TypeId) (x y:ax),bN C (J l) (⟨dst,.eI T x y,none⟩::os) (some a) K=cz C l (use (J l) (.eI T x y)) (ck (J l) (.eI T x y)) dst os a K (b3 (J l) (eI C (J l) T (az (J l) x) (az (J l) y))))∧
  (∀(T:TypeId) (x y:ax),bN C (J l) (⟨dst,.idx T x y,none⟩::os) (some a) K=cz C l (use (J l) (.idx T x y)) (ck (J l) (.idx T x y)) dst os a K (b3 (J l) (idx C T (az (J l) x) (az (J l) y))))∧
  (∀(x:ax) (k:Nat),bN C (J l) (⟨dst,.ex x k,none⟩::os) (some a) K=cz C l (use (J l) (.ex x k)) (ck (J l) (.ex x k)) dst os a K (b3 (J l) (ex (J l) (az (J l) x) k)))∧
  (∀(T:TypeId) (x:ax),bN C (J l) (⟨dst,.len T x,none⟩::os) (some a) K=cz C l (use (J l) (.len T x)) (ck (J l) (.len T x)) dst os a K (b3 (J l) (jT C (J l) T (az (J l) x))))∧
  (∀(T bc:TypeId) (x y:ax),bN C (J l) (⟨dst,.app T bc x y,none⟩::os) (some a) K=cz C l (use (J l) (.app T bc x y)) (ck (J l) (.app T bc x y)) dst os a K (jU C (J l) T bc (az (J l) x) (az (J l) y))):=
 ⟨fun x=>(ha rfl).trans (congrArg _ (rj x)),fun x=>(ha rfl).trans (congrArg _ (rk x)),fun c x y=>(ha rfl).trans (congrArg _ (rl c x y)),fun T=>(ha rfl).trans (congrArg _ (rm T)),fun T x=>(ha rfl).trans (congrArg _ (rn T x)),fun T ps=>(ha rfl).trans (congrArg _ (rp T ps)),fun T n ps=>(ha rfl).trans (congrArg _ (rq T n ps)),fun T x=>(ha rfl).trans (congrArg _ (rr T x)),fun T x y=>(ha rfl).trans (congrArg _ (ru T x y)),fun x=>(ha rfl).trans (congrArg _ (rv x)),fun op T x y=>(ha rfl).trans (congrArg _ (ry op T x y)),fun op x=>(ha rfl).trans (congrArg _ (rz op x)),fun A B x=>(ha rfl).trans (congrArg _ (rA A B x)),fun f cs=>(ha rfl).trans (congrArg _ (rB f cs)),fun T x y=>(ha rfl).trans (congrArg _ (rC T x y)),fun T x cb aA=>(ha rfl).trans (congrArg _ (rD T x cb aA)),fun T x k=>(ha rfl).trans (congrArg _ (rE T x k)),fun T x y=>(ha rfl).trans (congrArg _ (rF T x y)),fun T x y=>(ha rfl).trans (congrArg _ (rG T x y)),fun x k=>(ha rfl).trans (congrArg _ (rH x k)),fun T x=>(ha rfl).trans (congrArg _ (rI T x)),fun T bc x y=>(ha rfl).trans (congrArg _ (rJ T bc x y))⟩
theorem LB:
  (∀(x:ax) (t:Nat),bP C l dst (.bZ x) t true os none K (.bool true)=cy C dst os K (some (az (J l) x,J l)))∧
  (∀(x:ax) (t:Nat),bP C l dst (.bZ x) t false os none K (.bool false)=cy C dst os K (some (az (J l) x,J l)))∧
  (∀(x:ax) (t:Nat),bP C l dst (.dM x) t true os none K (.bool true)=cy C dst os K (hb (J l) (az (J l) x)))∧
  (∀(x:ax) (t:Nat),bP C l dst (.dM x) t false os none K (.bool false)=cy C dst os K (hb (J l) (az (J l) x)))∧
  (∀(c x y:ax) (t:Nat),bP C l dst (.pick c x y) t true os none K (.bool true)=cy C dst os K (oT (J l) (az (J l) c) (az (J l) x) (az (J l) y)))∧
  (∀(c x y:ax) (t:Nat),bP C l dst (.pick c x y) t false os none K (.bool false)=cy C dst os K (oT (J l) (az (J l) c) (az (J l) x) (az (J l) y)))∧
  (∀(T:TypeId) (t:Nat),bP C l dst (.fv T) t true os none K (.bool true)=cy C dst os K (b3 (J l) (fv C T)))∧
  (∀(T:TypeId) (t:Nat),bP C l dst (.fv T) t false os none K (.bool false)=cy C dst os K (b3 (J l) (fv C T)))∧
  (∀(T:TypeId) (x:ax) (t:Nat),bP C l dst (.ep T x) t true os none K (.bool true)=cy C dst os K (ep (J l) (az (J l) x)))∧
  (∀(T:TypeId) (x:ax) (t:Nat),bP C l dst (.ep T x) t false os none K (.bool false)=cy C dst os K (ep (J l) (az (J l) x)))∧
  (∀(T:TypeId) (ps:List (Nat×ax)) (t:Nat),bP C l dst (.dR T ps) t true os none K (.bool true)=cy C dst os K (dR C (J l) T (hU (J l) ps)))∧
  (∀(T:TypeId) (ps:List (Nat×ax)) (t:Nat),bP C l dst (.dR T ps) t false os none K (.bool false)=cy C dst os K (dR C (J l) T (hU (J l) ps)))∧
  (∀(T:TypeId) (n:Nat) (ps:List (Nat×ax)) (t:Nat),bP C l dst (.cX T n ps) t true os none K (.bool true)=cy C dst os K (cX C (J l) T n (hU (J l) ps)))∧
  (∀(T:TypeId) (n:Nat) (ps:List (Nat×ax)) (t:Nat),bP C l dst (.cX T n ps) t false os none K (.bool false)=cy C dst os K (cX C (J l) T n (hU (J l) ps)))∧
  (∀(T:TypeId) (x:ax) (t:Nat),bP C l dst (.dh T x) t true os none K (.bool true)=cy C dst os K (b3 (J l) (dh C (J l) T (az (J l) x))))∧
  (∀(T:TypeId) (x:ax) (t:Nat),bP C l dst (.dh T x) t false os none K (.bool false)=cy C dst os K (b3 (J l) (dh C (J l) T (az (J l) x))))∧
  (∀(T:TypeId) (x y:ax) (t:Nat),bP C l dst (.eh T x y) t true os none K (.bool true)=cy C dst os K (gx (eh C (J l) T (az (J l) x) (az (J l) y))))∧
  (∀(T:TypeId) (x y:ax) (t:Nat),bP C l dst (.eh T x y) t false os none K (.bool false)=cy C dst os K (gx (eh C (J l) T (az (J l) x) (az (J l) y))))∧
  (∀(x:ax) (t:Nat),bP C l dst (.ew x) t true os none K (.bool true)=cy C dst os K (b3 (J l) (ew (J l) (az (J l) x))))∧
  (∀(x:ax) (t:Nat),bP C l dst (.ew x) t false os none K (.bool false)=cy C dst os K (b3 (J l) (ew (J l) (az (J l) x))))∧
  (∀(op:BinOp) (T:TypeId) (x y:ax) (t:Nat),bP C l dst (.bB op T x y) t true os none K (.bool true)=cy C dst os K (b3 (J l) (bB C (J l) op T (az (J l) x) (az (J l) y))))∧
  (∀(op:BinOp) (T:TypeId) (x y:ax) (t:Nat),bP C l dst (.bB op T x y) t false os none K (.bool false)=cy C dst os K (b3 (J l) (bB C (J l) op T (az (J l) x) (az (J l) y))))∧
  (∀(op:UnOp) (x:ax) (t:Nat),bP C l dst (.un op x) t true os none K (.bool true)=cy C dst os K (b3 (J l) (un op (az (J l) x))))∧
  (∀(op:UnOp) (x:ax) (t:Nat),bP C l dst (.un op x) t false os none K (.bool false)=cy C dst os K (b3 (J l) (un op (az (J l) x))))∧
  (∀(A B:TypeId) (x:ax) (t:Nat),bP C l dst (.ei A B x) t true os none K (.bool true)=cy C dst os K (b3 (J l) (ei C (J l) A B (az (J l) x))))∧
  (∀(A B:TypeId) (x:ax) (t:Nat),bP C l dst (.ei A B x) t false os none K (.bool false)=cy C dst os K (b3 (J l) (ei C (J l) A B (az (J l) x))))∧
  (∀(f:FuncId) (cs:List ax) (t:Nat),bP C l dst (.h_ f cs) t true os none K (.bool true)=cy C dst os K (some (.fn f (gH (J l) cs),J l)))∧
  (∀(f:FuncId) (cs:List ax) (t:Nat),bP C l dst (.h_ f cs) t false os none K (.bool false)=cy C dst os K (some (.fn f (gH (J l) cs),J l)))∧
  (∀(T:TypeId) (x y:ax) (t:Nat),bP C l dst (.er T x y) t true os none K (.bool true)=cy C dst os K (b3 (J l) (er C T (az (J l) x) (az (J l) y))))∧
  (∀(T:TypeId) (x y:ax) (t:Nat),bP C l dst (.er T x y) t false os none K (.bool false)=cy C dst os K (b3 (J l) (er C T (az (J l) x) (az (J l) y))))∧
  (∀(T:TypeId) (x:ax) (cb aA:Option ax) (t:Nat),bP C l dst (.cF T x cb aA) t true os none K (.bool true)=cy C dst os K (cF C (J l) T (az (J l) x) (jd (J l) cb) (jd (J l) aA)))∧
  (∀(T:TypeId) (x:ax) (cb aA:Option ax) (t:Nat),bP C l dst (.cF T x cb aA) t false os none K (.bool false)=cy C dst os K (cF C (J l) T (az (J l) x) (jd (J l) cb) (jd (J l) aA)))∧
  (∀(T:TypeId) (x:ax) (k:Nat) (t:Nat),bP C l dst (.ev T x k) t true os none K (.bool true)=cy C dst os K (b3 (J l) (ev C (J l) T (az (J l) x) k)))∧
  (∀(T:TypeId) (x:ax) (k:Nat) (t:Nat),bP C l dst (.ev T x k) t false os none K (.bool false)=cy C dst os K (b3 (J l) (ev C (J l) T (az (J l) x) k)))∧
  (∀(T:TypeId) (x y:ax) (t:Nat),bP C l dst (.eI T x y) t true os none K (.bool true)=cy C dst os K (b3 (J l) (eI C (J l) T (az (J l) x) (az (J l) y))))∧
  (∀(T:TypeId) (x y:ax) (t:Nat),bP C l dst (.eI T x y) t false os none K (.bool false)=cy C dst os K (b3 (J l) (eI C (J l) T (az (J l) x) (az (J l) y))))∧
  (∀(T:TypeId) (x y:ax) (t:Nat),bP C l dst (.idx T x y) t true os none K (.bool true)=cy C dst os K (b3 (J l) (idx C T (az (J l) x) (az (J l) y))))∧
  (∀(T:TypeId) (x y:ax) (t:Nat),bP C l dst (.idx T x y) t false os none K (.bool false)=cy C dst os K (b3 (J l) (idx C T (az (J l) x) (az (J l) y))))∧
  (∀(x:ax) (k:Nat) (t:Nat),bP C l dst (.ex x k) t true os none K (.bool true)=cy C dst os K (b3 (J l) (ex (J l) (az (J l) x) k)))∧
  (∀(x:ax) (k:Nat) (t:Nat),bP C l dst (.ex x k) t false os none K (.bool false)=cy C dst os K (b3 (J l) (ex (J l) (az (J l) x) k)))∧
  (∀(T:TypeId) (x:ax) (t:Nat),bP C l dst (.len T x) t true os none K (.bool true)=cy C dst os K (b3 (J l) (jT C (J l) T (az (J l) x))))∧
  (∀(T:TypeId) (x:ax) (t:Nat),bP C l dst (.len T x) t false os none K (.bool false)=cy C dst os K (b3 (J l) (jT C (J l) T (az (J l) x))))∧
  (∀(T bc:TypeId) (x y:ax) (t:Nat),bP C l dst (.app T bc x y) t true os none K (.bool true)=cy C dst os K (jU C (J l) T bc (az (J l) x) (az (J l) y)))∧
  (∀(T bc:TypeId) (x y:ax) (t:Nat),bP C l dst (.app T bc x y) t false os none K (.bool false)=cy C dst os K (jU C (J l) T bc (az (J l) x) (az (J l) y))):=
 ⟨fun x _=>(dO rfl).trans (congrArg _ (rj x)),fun x _=>(dO rfl).trans (congrArg _ (rj x)),fun x _=>(dO rfl).trans (congrArg _ (rk x)),fun x _=>(dO rfl).trans (congrArg _ (rk x)),fun c x y _=>(dO rfl).trans (congrArg _ (rl c x y)),fun c x y _=>(dO rfl).trans (congrArg _ (rl c x y)),fun T _=>(dO rfl).trans (congrArg _ (rm T)),fun T _=>(dO rfl).trans (congrArg _ (rm T)),fun T x _=>(dO rfl).trans (congrArg _ (rn T x)),fun T x _=>(dO rfl).trans (congrArg _ (rn T x)),fun T ps _=>(dO rfl).trans (congrArg _ (rp T ps)),fun T ps _=>(dO rfl).trans (congrArg _ (rp T ps)),fun T n ps _=>(dO rfl).trans (congrArg _ (rq T n ps)),fun T n ps _=>(dO rfl).trans (congrArg _ (rq T n ps)),fun T x _=>(dO rfl).trans (congrArg _ (rr T x)),fun T x _=>(dO rfl).trans (congrArg _ (rr T x)),fun T x y _=>(dO rfl).trans (congrArg _ (ru T x y)),fun T x y _=>(dO rfl).trans (congrArg _ (ru T x y)),fun x _=>(dO rfl).trans (congrArg _ (rv x)),fun x _=>(dO rfl).trans (congrArg _ (rv x)),fun op T x y _=>(dO rfl).trans (congrArg _ (ry op T x y)),fun op T x y _=>(dO rfl).trans (congrArg _ (ry op T x y)),fun op x _=>(dO rfl).trans (congrArg _ (rz op x)),fun op x _=>(dO rfl).trans (congrArg _ (rz op x)),fun A B x _=>(dO rfl).trans (congrArg _ (rA A B x)),fun A B x _=>(dO rfl).trans (congrArg _ (rA A B x)),fun f cs _=>(dO rfl).trans (congrArg _ (rB f cs)),fun f cs _=>(dO rfl).trans (congrArg _ (rB f cs)),fun T x y _=>(dO rfl).trans (congrArg _ (rC T x y)),fun T x y _=>(dO rfl).trans (congrArg _ (rC T x y)),fun T x cb aA _=>(dO rfl).trans (congrArg _ (rD T x cb aA)),fun T x cb aA _=>(dO rfl).trans (congrArg _ (rD T x cb aA)),fun T x k _=>(dO rfl).trans (congrArg _ (rE T x k)),fun T x k _=>(dO rfl).trans (congrArg _ (rE T x k)),fun T x y _=>(dO rfl).trans (congrArg _ (rF T x y)),fun T x y _=>(dO rfl).trans (congrArg _ (rF T x y)),fun T x y _=>(dO rfl).trans (congrArg _ (rG T x y)),fun T x y _=>(dO rfl).trans (congrArg _ (rG T x y)),fun x k _=>(dO rfl).trans (congrArg _ (rH x k)),fun x k _=>(dO rfl).trans (congrArg _ (rH x k)),fun T x _=>(dO rfl).trans (congrArg _ (rI T x)),fun T x _=>(dO rfl).trans (congrArg _ (rI T x)),fun T bc x y _=>(dO rfl).trans (congrArg _ (rJ T bc x y)),fun T bc x y _=>(dO rfl).trans (congrArg _ (rJ T bc x y))⟩
theorem LC:
  (∀(x:ax) (t:Nat),bP C l dst (.bZ x) t true os (some a) K (.bool true)=cz C l (t::use (J l) (.bZ x)) (ck (J l) (.bZ x)) dst os a K (some (az (J l) x,J l)))∧
  (∀(x:ax) (t:Nat),bP C l dst (.bZ x) t false os (some a) K (.bool false)=cz C l (t::use (J l) (.bZ x)) (ck (J l) (.bZ x)) dst os a K (some (az (J l) x,J l)))∧
  (∀(x:ax) (t:Nat),bP C l dst (.dM x) t true os (some a) K (.bool true)=cz C l (t::use (J l) (.dM x)) (ck (J l) (.dM x)) dst os a K (hb (J l) (az (J l) x)))∧
  (∀(x:ax) (t:Nat),bP C l dst (.dM x) t false os (some a) K (.bool false)=cz C l (t::use (J l) (.dM x)) (ck (J l) (.dM x)) dst os a K (hb (J l) (az (J l) x)))∧
  (∀(c x y:ax) (t:Nat),bP C l dst (.pick c x y) t true os (some a) K (.bool true)=cz C l (t::use (J l) (.pick c x y)) (ck (J l) (.pick c x y)) dst os a K (oT (J l) (az (J l) c) (az (J l) x) (az (J l) y)))∧
  (∀(c x y:ax) (t:Nat),bP C l dst (.pick c x y) t false os (some a) K (.bool false)=cz C l (t::use (J l) (.pick c x y)) (ck (J l) (.pick c x y)) dst os a K (oT (J l) (az (J l) c) (az (J l) x) (az (J l) y)))∧
  (∀(T:TypeId) (t:Nat),bP C l dst (.fv T) t true os (some a) K (.bool true)=cz C l (t::use (J l) (.fv T)) (ck (J l) (.fv T)) dst os a K (b3 (J l) (fv C T)))∧
  (∀(T:TypeId) (t:Nat),bP C l dst (.fv T) t false os (some a) K (.bool false)=cz C l (t::use (J l) (.fv T)) (ck (J l) (.fv T)) dst os a K (b3 (J l) (fv C T)))∧
  (∀(T:TypeId) (x:ax) (t:Nat),bP C l dst (.ep T x) t true os (some a) K (.bool true)=cz C l (t::use (J l) (.ep T x)) (ck (J l) (.ep T x)) dst os a K (ep (J l) (az (J l) x)))∧
  (∀(T:TypeId) (x:ax) (t:Nat),bP C l dst (.ep T x) t false os (some a) K (.bool false)=cz C l (t::use (J l) (.ep T x)) (ck (J l) (.ep T x)) dst os a K (ep (J l) (az (J l) x)))∧
  (∀(T:TypeId) (ps:List (Nat×ax)) (t:Nat),bP C l dst (.dR T ps) t true os (some a) K (.bool true)=cz C l (t::use (J l) (.dR T ps)) (ck (J l) (.dR T ps)) dst os a K (dR C (J l) T (hU (J l) ps)))∧
  (∀(T:TypeId) (ps:List (Nat×ax)) (t:Nat),bP C l dst (.dR T ps) t false os (some a) K (.bool false)=cz C l (t::use (J l) (.dR T ps)) (ck (J l) (.dR T ps)) dst os a K (dR C (J l) T (hU (J l) ps)))∧
  (∀(T:TypeId) (n:Nat) (ps:List (Nat×ax)) (t:Nat),bP C l dst (.cX T n ps) t true os (some a) K (.bool true)=cz C l (t::use (J l) (.cX T n ps)) (ck (J l) (.cX T n ps)) dst os a K (cX C (J l) T n (hU (J l) ps)))∧
  (∀(T:TypeId) (n:Nat) (ps:List (Nat×ax)) (t:Nat),bP C l dst (.cX T n ps) t false os (some a) K (.bool false)=cz C l (t::use (J l) (.cX T n ps)) (ck (J l) (.cX T n ps)) dst os a K (cX C (J l) T n (hU (J l) ps)))∧
  (∀(T:TypeId) (x:ax) (t:Nat),bP C l dst (.dh T x) t true os (some a) K (.bool true)=cz C l (t::use (J l) (.dh T x)) (ck (J l) (.dh T x)) dst os a K (b3 (J l) (dh C (J l) T (az (J l) x))))∧
  (∀(T:TypeId) (x:ax) (t:Nat),bP C l dst (.dh T x) t false os (some a) K (.bool false)=cz C l (t::use (J l) (.dh T x)) (ck (J l) (.dh T x)) dst os a K (b3 (J l) (dh C (J l) T (az (J l) x))))∧
  (∀(T:TypeId) (x y:ax) (t:Nat),bP C l dst (.eh T x y) t true os (some a) K (.bool true)=cz C l (t::use (J l) (.eh T x y)) (ck (J l) (.eh T x y)) dst os a K (gx (eh C (J l) T (az (J l) x) (az (J l) y))))∧
  (∀(T:TypeId) (x y:ax) (t:Nat),bP C l dst (.eh T x y) t false os (some a) K (.bool false)=cz C l (t::use (J l) (.eh T x y)) (ck (J l) (.eh T x y)) dst os a K (gx (eh C (J l) T (az (J l) x) (az (J l) y))))∧
  (∀(x:ax) (t:Nat),bP C l dst (.ew x) t true os (some a) K (.bool true)=cz C l (t::use (J l) (.ew x)) (ck (J l) (.ew x)) dst os a K (b3 (J l) (ew (J l) (az (J l) x))))∧
  (∀(x:ax) (t:Nat),bP C l dst (.ew x) t false os (some a) K (.bool false)=cz C l (t::use (J l) (.ew x)) (ck (J l) (.ew x)) dst os a K (b3 (J l) (ew (J l) (az (J l) x))))∧
  (∀(op:BinOp) (T:TypeId) (x y:ax) (t:Nat),bP C l dst (.bB op T x y) t true os (some a) K (.bool true)=cz C l (t::use (J l) (.bB op T x y)) (ck (J l) (.bB op T x y)) dst os a K (b3 (J l) (bB C (J l) op T (az (J l) x) (az (J l) y))))∧
  (∀(op:BinOp) (T:TypeId) (x y:ax) (t:Nat),bP C l dst (.bB op T x y) t false os (some a) K (.bool false)=cz C l (t::use (J l) (.bB op T x y)) (ck (J l) (.bB op T x y)) dst os a K (b3 (J l) (bB C (J l) op T (az (J l) x) (az (J l) y))))∧
  (∀(op:UnOp) (x:ax) (t:Nat),bP C l dst (.un op x) t true os (some a) K (.bool true)=cz C l (t::use (J l) (.un op x)) (ck (J l) (.un op x)) dst os a K (b3 (J l) (un op (az (J l) x))))∧
  (∀(op:UnOp) (x:ax) (t:Nat),bP C l dst (.un op x) t false os (some a) K (.bool false)=cz C l (t::use (J l) (.un op x)) (ck (J l) (.un op x)) dst os a K (b3 (J l) (un op (az (J l) x))))∧
  (∀(A B:TypeId) (x:ax) (t:Nat),bP C l dst (.ei A B x) t true os (some a) K (.bool true)=cz C l (t::use (J l) (.ei A B x)) (ck (J l) (.ei A B x)) dst os a K (b3 (J l) (ei C (J l) A B (az (J l) x))))∧
  (∀(A B:TypeId) (x:ax) (t:Nat),bP C l dst (.ei A B x) t false os (some a) K (.bool false)=cz C l (t::use (J l) (.ei A B x)) (ck (J l) (.ei A B x)) dst os a K (b3 (J l) (ei C (J l) A B (az (J l) x))))∧
  (∀(f:FuncId) (cs:List ax) (t:Nat),bP C l dst (.h_ f cs) t true os (some a) K (.bool true)=cz C l (t::use (J l) (.h_ f cs)) (ck (J l) (.h_ f cs)) dst os a K (some (.fn f (gH (J l) cs),J l)))∧
  (∀(f:FuncId) (cs:List ax) (t:Nat),bP C l dst (.h_ f cs) t false os (some a) K (.bool false)=cz C l (t::use (J l) (.h_ f cs)) (ck (J l) (.h_ f cs)) dst os a K (some (.fn f (gH (J l) cs),J l)))∧
  (∀(T:TypeId) (x y:ax) (t:Nat),bP C l dst (.er T x y) t true os (some a) K (.bool true)=cz C l (t::use (J l) (.er T x y)) (ck (J l) (.er T x y)) dst os a K (b3 (J l) (er C T (az (J l) x) (az (J l) y))))∧
  (∀(T:TypeId) (x y:ax) (t:Nat),bP C l dst (.er T x y) t false os (some a) K (.bool false)=cz C l (t::use (J l) (.er T x y)) (ck (J l) (.er T x y)) dst os a K (b3 (J l) (er C T (az (J l) x) (az (J l) y))))∧
  (∀(T:TypeId) (x:ax) (cb aA:Option ax) (t:Nat),bP C l dst (.cF T x cb aA) t true os (some a) K (.bool true)=cz C l (t::use (J l) (.cF T x cb aA)) (ck (J l) (.cF T x cb aA)) dst os a K (cF C (J l) T (az (J l) x) (jd (J l) cb) (jd (J l) aA)))∧
  (∀(T:TypeId) (x:ax) (cb aA:Option ax) (t:Nat),bP C l dst (.cF T x cb aA) t false os (some a) K (.bool false)=cz C l (t::use (J l) (.cF T x cb aA)) (ck (J l) (.cF T x cb aA)) dst os a K (cF C (J l) T (az (J l) x) (jd (J l) cb) (jd (J l) aA)))∧
  (∀(T:TypeId) (x:ax) (k:Nat) (t:Nat),bP C l dst (.ev T x k) t true os (some a) K (.bool true)=cz C l (t::use (J l) (.ev T x k)) (ck (J l) (.ev T x k)) dst os a K (b3 (J l) (ev C (J l) T (az (J l) x) k)))∧
  (∀(T:TypeId) (x:ax) (k:Nat) (t:Nat),bP C l dst (.ev T x k) t false os (some a) K (.bool false)=cz C l (t::use (J l) (.ev T x k)) (ck (J l) (.ev T x k)) dst os a K (b3 (J l) (ev C (J l) T (az (J l) x) k)))∧
  (∀(T:TypeId) (x y:ax) (t:Nat),bP C l dst (.eI T x y) t true os (some a) K (.bool true)=cz C l (t::use (J l) (.eI T x y)) (ck (J l) (.eI T x y)) dst os a K (b3 (J l) (eI C (J l) T (az (J l) x) (az (J l) y))))∧
  (∀(T:TypeId) (x y:ax) (t:Nat),bP C l dst (.eI T x y) t false os (some a) K (.bool false)=cz C l (t::use (J l) (.eI T x y)) (ck (J l) (.eI T x y)) dst os a K (b3 (J l) (eI C (J l) T (az (J l) x) (az (J l) y))))∧
  (∀(T:TypeId) (x y:ax) (t:Nat),bP C l dst (.idx T x y) t true os (some a) K (.bool true)=cz C l (t::use (J l) (.idx T x y)) (ck (J l) (.idx T x y)) dst os a K (b3 (J l) (idx C T (az (J l) x) (az (J l) y))))∧
  (∀(T:TypeId) (x y:ax) (t:Nat),bP C l dst (.idx T x y) t false os (some a) K (.bool false)=cz C l (t::use (J l) (.idx T x y)) (ck (J l) (.idx T x y)) dst os a K (b3 (J l) (idx C T (az (J l) x) (az (J l) y))))∧
  (∀(x:ax) (k:Nat) (t:Nat),bP C l dst (.ex x k) t true os (some a) K (.bool true)=cz C l (t::use (J l) (.ex x k)) (ck (J l) (.ex x k)) dst os a K (b3 (J l) (ex (J l) (az (J l) x) k)))∧
  (∀(x:ax) (k:Nat) (t:Nat),bP C l dst (.ex x k) t false os (some a) K (.bool false)=cz C l (t::use (J l) (.ex x k)) (ck (J l) (.ex x k)) dst os a K (b3 (J l) (ex (J l) (az (J l) x) k)))∧
  (∀(T:TypeId) (x:ax) (t:Nat),bP C l dst (.len T x) t true os (some a) K (.bool true)=cz C l (t::use (J l) (.len T x)) (ck (J l) (.len T x)) dst os a K (b3 (J l) (jT C (J l) T (az (J l) x))))∧
  (∀(T:TypeId) (x:ax) (t:Nat),bP C l dst (.len T x) t false os (some a) K (.bool false)=cz C l (t::use (J l) (.len T x)) (ck (J l) (.len T x)) dst os a K (b3 (J l) (jT C (J l) T (az (J l) x))))∧
  (∀(T bc:TypeId) (x y:ax) (t:Nat),bP C l dst (.app T bc x y) t true os (some a) K (.bool true)=cz C l (t::use (J l) (.app T bc x y)) (ck (J l) (.app T bc x y)) dst os a K (jU C (J l) T bc (az (J l) x) (az (J l) y)))∧
  (∀(T bc:TypeId) (x y:ax) (t:Nat),bP C l dst (.app T bc x y) t false os (some a) K (.bool false)=cz C l (t::use (J l) (.app T bc x y)) (ck (J l) (.app T bc x y)) dst os a K (jU C (J l) T bc (az (J l) x) (az (J l) y))):=
 ⟨fun x _=>(dP rfl).trans (congrArg _ (rj x)),fun x _=>(dP rfl).trans (congrArg _ (rj x)),fun x _=>(dP rfl).trans (congrArg _ (rk x)),fun x _=>(dP rfl).trans (congrArg _ (rk x)),fun c x y _=>(dP rfl).trans (congrArg _ (rl c x y)),fun c x y _=>(dP rfl).trans (congrArg _ (rl c x y)),fun T _=>(dP rfl).trans (congrArg _ (rm T)),fun T _=>(dP rfl).trans (congrArg _ (rm T)),fun T x _=>(dP rfl).trans (congrArg _ (rn T x)),fun T x _=>(dP rfl).trans (congrArg _ (rn T x)),fun T ps _=>(dP rfl).trans (congrArg _ (rp T ps)),fun T ps _=>(dP rfl).trans (congrArg _ (rp T ps)),fun T n ps _=>(dP rfl).trans (congrArg _ (rq T n ps)),fun T n ps _=>(dP rfl).trans (congrArg _ (rq T n ps)),fun T x _=>(dP rfl).trans (congrArg _ (rr T x)),fun T x _=>(dP rfl).trans (congrArg _ (rr T x)),fun T x y _=>(dP rfl).trans (congrArg _ (ru T x y)),fun T x y _=>(dP rfl).trans (congrArg _ (ru T x y)),fun x _=>(dP rfl).trans (congrArg _ (rv x)),fun x _=>(dP rfl).trans (congrArg _ (rv x)),fun op T x y _=>(dP rfl).trans (congrArg _ (ry op T x y)),fun op T x y _=>(dP rfl).trans (congrArg _ (ry op T x y)),fun op x _=>(dP rfl).trans (congrArg _ (rz op x)),fun op x _=>(dP rfl).trans (congrArg _ (rz op x)),fun A B x _=>(dP rfl).trans (congrArg _ (rA A B x)),fun A B x _=>(dP rfl).trans (congrArg _ (rA A B x)),fun f cs _=>(dP rfl).trans (congrArg _ (rB f cs)),fun f cs _=>(dP rfl).trans (congrArg _ (rB f cs)),fun T x y _=>(dP rfl).trans (congrArg _ (rC T x y)),fun T x y _=>(dP rfl).trans (congrArg _ (rC T x y)),fun T x cb aA _=>(dP rfl).trans (congrArg _ (rD T x cb aA)),fun T x cb aA _=>(dP rfl).trans (congrArg _ (rD T x cb aA)),fun T x k _=>(dP rfl).trans (congrArg _ (rE T x k)),fun T x k _=>(dP rfl).trans (congrArg _ (rE T x k)),fun T x y _=>(dP rfl).trans (congrArg _ (rF T x y)),fun T x y _=>(dP rfl).trans (congrArg _ (rF T x y)),fun T x y _=>(dP rfl).trans (congrArg _ (rG T x y)),fun T x y _=>(dP rfl).trans (congrArg _ (rG T x y)),fun x k _=>(dP rfl).trans (congrArg _ (rH x k)),fun x k _=>(dP rfl).trans (congrArg _ (rH x k)),fun T x _=>(dP rfl).trans (congrArg _ (rI T x)),fun T x _=>(dP rfl).trans (congrArg _ (rI T x)),fun T bc x y _=>(dP rfl).trans (congrArg _ (rJ T bc x y)),fun T bc x y _=>(dP rfl).trans (congrArg _ (rJ T bc x y))⟩
end
theorem DD:
  (∀(t:Nat) (k:IntKind) (n:Int),gO t (.int k n)=(.int k n))∧
  (∀(t:Nat) (b:Bool),gO t (.bool b)=(.bool b))∧
  (∀(t:Nat) (x:List UInt8),gO t (.str x)=(.str x))∧
  (∀(t:Nat) (xs:List I),gO t (.slice xs)=(.slice xs))∧
  (∀(t:Nat) (d:I),gO t (.ref d)=(.ref d))∧
  (∀(t:Nat) (f:FuncId) (cap:List I),gO t (.fn f cap)=(.fn f cap))∧
  (∀(t:Nat) (x:Nat) (q:List Nat),gO t (.h x q)=(.h x q))∧
  (∀(t:Nat) (x:Nat) (q:List Nat),gO t (.ak x q)=(.ak x q))∧
  (∀(t:Nat),gO t .ct= .ct)∧
  (∀(t:Nat),gO t .bD= .bD)∧
  (∀(t:Nat),gO t .dk= .dk)∧
  (∀(t:Nat),gO t .hole= .hole)∧
  (∀(t:Nat) (sz:Nat) (xs:List I),gO t (.aE sz xs)= .h t [])∧
  (∀(t:Nat) (d:I),gO t (.a_ d)= .h t [])∧
  (∀(t:Nat) (ag:List I),gO t (.agg ag)=if I.ef ag=true then(.agg ag)else .h t [])∧
  (∀(t:Nat) (ag:List I),gO t (.tuple ag)=if I.ef ag=true then(.tuple ag)else .h t []):=
 ⟨fun _ _ _=>rfl,fun _ _=>rfl,fun _ _=>rfl,fun _ _=>rfl,fun _ _=>rfl,fun _ _ _=>rfl,fun _ _ _=>rfl,fun _ _ _=>rfl,fun _=>rfl,fun _=>rfl,fun _=>rfl,fun _=>rfl,fun _ _ _=>rfl,fun _ _=>rfl,fun _ _=>rfl,fun _ _=>rfl⟩
theorem DE:
  (∀(l:List (Nat×I)) (av:I),fin (J l) none av=J l)∧
  (∀(l:List (Nat×I)) (t:Nat) (k:IntKind) (n:Int),fin (J l) (some t) (.int k n)=J ((t,(.int k n))::l))∧
  (∀(l:List (Nat×I)) (t:Nat) (b:Bool),fin (J l) (some t) (.bool b)=J ((t,(.bool b))::l))∧
  (∀(l:List (Nat×I)) (t:Nat) (x:List UInt8),fin (J l) (some t) (.str x)=J ((t,(.str x))::l))∧
  (∀(l:List (Nat×I)) (t:Nat) (xs:List I),fin (J l) (some t) (.slice xs)=J ((t,(.slice xs))::l))∧
  (∀(l:List (Nat×I)) (t:Nat) (d:I),fin (J l) (some t) (.ref d)=J ((t,(.ref d))::l))∧
  (∀(l:List (Nat×I)) (t:Nat) (f:FuncId) (cap:List I),fin (J l) (some t) (.fn f cap)=J ((t,(.fn f cap))::l))∧
  (∀(l:List (Nat×I)) (t:Nat) (x:Nat) (q:List Nat),fin (J l) (some t) (.h x q)=J ((t,(.h x q))::l))∧
  (∀(l:List (Nat×I)) (t:Nat) (x:Nat) (q:List Nat),fin (J l) (some t) (.ak x q)=J ((t,(.ak x q))::l))∧
  (∀(l:List (Nat×I)) (t:Nat),fin (J l) (some t) .ct=J ((t,.ct)::l))∧
  (∀(l:List (Nat×I)) (t:Nat),fin (J l) (some t) .bD=J ((t,.bD)::l))∧
  (∀(l:List (Nat×I)) (t:Nat),fin (J l) (some t) .dk=J ((t,.dk)::l))∧
  (∀(l:List (Nat×I)) (t:Nat),fin (J l) (some t) .hole=J ((t,.hole)::l))∧
  (∀(l:List (Nat×I)) (t:Nat) (sz:Nat) (xs:List I),fin (J l) (some t) (.aE sz xs)=J ((t,(.aE sz xs))::lR t l))∧
  (∀(l:List (Nat×I)) (t:Nat) (d:I),fin (J l) (some t) (.a_ d)=J ((t,(.a_ d))::lR t l))∧
  (∀(l:List (Nat×I)) (t:Nat) (ag:List I),fin (J l) (some t) (.agg ag)=J ((t,(.agg ag))::if I.ef ag=true then l else lR t l))∧
  (∀(l:List (Nat×I)) (t:Nat) (ag:List I),fin (J l) (some t) (.tuple ag)=J ((t,(.tuple ag))::if I.ef ag=true then l else lR t l)):=
 ⟨fun _ _=>rfl,fun l t _ _=>by simp only[fin,I.plain,if_true,iC],fun l t _=>by simp only[fin,I.plain,if_true,iC],fun l t _=>by simp only[fin,I.plain,if_true,iC],fun l t _=>by simp only[fin,I.plain,if_true,iC],fun l t _=>by simp only[fin,I.plain,if_true,iC],fun l t _ _=>by simp only[fin,I.plain,if_true,iC],fun l t _ _=>by simp only[fin,I.plain,if_true,iC],fun l t _ _=>by simp only[fin,I.plain,if_true,iC],fun l t=>by simp only[fin,I.plain,if_true,iC],fun l t=>by simp only[fin,I.plain,if_true,iC],fun l t=>by simp only[fin,I.plain,if_true,iC],fun l t=>by simp only[fin,I.plain,if_true,iC],fun l t _ _=>by simp only[fin,I.plain,Bool.false_eq_true,if_false,re,iC],fun l t _=>by simp only[fin,I.plain,Bool.false_eq_true,if_false,re,iC],fun l t _=>by simp only[fin,I.plain,re,iC];split<;>rfl,fun l t _=>by simp only[fin,I.plain,re,iC];split<;>rfl⟩
theorem DF:
  (∀(k:IntKind) (n:Int),I.plain (.int k n)=true)∧
  (∀(b:Bool),I.plain (.bool b)=true)∧
  (∀(x:List UInt8),I.plain (.str x)=true)∧
  (∀(xs:List I),I.plain (.slice xs)=true)∧
  (∀(d:I),I.plain (.ref d)=true)∧
  (∀(f:FuncId) (cap:List I),I.plain (.fn f cap)=true)∧
  (∀(x:Nat) (q:List Nat),I.plain (.h x q)=true)∧
  (∀(x:Nat) (q:List Nat),I.plain (.ak x q)=true)∧
  (I.plain .ct=true)∧
  (I.plain .bD=true)∧
  (I.plain .dk=true)∧
  (I.plain .hole=true)∧
  (∀(sz:Nat) (xs:List I),I.plain (.aE sz xs)=false)∧
  (∀(d:I),I.plain (.a_ d)=false)∧
  (∀(ag:List I),I.plain (.agg ag)=I.ef ag)∧
  (∀(ag:List I),I.plain (.tuple ag)=I.ef ag)∧
  (I.ef []=true)∧
  (∀d ds,I.ef (d::ds)=(d.plain&&I.ef ds)):=
 ⟨fun _ _=>rfl,fun _=>rfl,fun _=>rfl,fun _=>rfl,fun _=>rfl,fun _ _=>rfl,fun _ _=>rfl,fun _ _=>rfl,rfl,rfl,rfl,rfl,fun _ _=>rfl,fun _=>rfl,fun _=>rfl,fun _=>rfl,rfl,fun _ _=>rfl⟩
theorem DG:
  (∀(s:aj) (k:IntKind) (n:Int),hb s (.int k n)=some ((.int k n),s))∧
  (∀(s:aj) (b:Bool),hb s (.bool b)=some ((.bool b),s))∧
  (∀(s:aj) (x:List UInt8),hb s (.str x)=some ((.str x),s))∧
  (∀(s:aj) (xs:List I),hb s (.slice xs)=some ((.slice xs),s))∧
  (∀(s:aj) (d:I),hb s (.ref d)=some ((.ref d),s))∧
  (∀(s:aj) (f:FuncId) (cap:List I),hb s (.fn f cap)=some ((.fn f cap),s))∧
  (∀(s:aj) (x:Nat) (q:List Nat),hb s (.ak x q)=some ((.ak x q),s))∧
  (∀(s:aj),hb s .ct=some (.ct,s))∧
  (∀(s:aj),hb s .bD=some (.bD,s))∧
  (∀(s:aj),hb s .dk=some (.dk,s))∧
  (∀(s:aj),hb s .hole=some (.hole,s))∧
  (∀(s:aj) (sz:Nat) (xs:List I),hb s (.aE sz xs)=some ((.aE sz xs),s))∧
  (∀(s:aj) (d:I),hb s (.a_ d)=some ((.a_ d),s))∧
  (∀(s:aj) (ag:List I),hb s (.agg ag)=some ((.agg ag),s))∧
  (∀(s:aj) (ag:List I),hb s (.tuple ag)=some ((.tuple ag),s))∧
  (∀(s:aj) y q,hb s (.h y q)=bV s (.h y q)):=
 ⟨fun _ _ _=>rfl,fun _ _=>rfl,fun _ _=>rfl,fun _ _=>rfl,fun _ _=>rfl,fun _ _ _=>rfl,fun _ _ _=>rfl,fun _=>rfl,fun _=>rfl,fun _=>rfl,fun _=>rfl,fun _ _ _=>rfl,fun _ _=>rfl,fun _ _=>rfl,fun _ _=>rfl,fun _ _ _=>rfl⟩
theorem DH:
  (∀(t:Nat) (k:IntKind) (n:Int),bY t (.int k n)=(.int k n))∧
  (∀(t:Nat) (b:Bool),bY t (.bool b)=(.bool b))∧
  (∀(t:Nat) (x:List UInt8),bY t (.str x)=(.str x))∧
  (∀(t:Nat) (xs:List I),bY t (.slice xs)=(.slice xs))∧
  (∀(t:Nat) (d:I),bY t (.ref d)=(.ref d))∧
  (∀(t:Nat),bY t .ct= .ct)∧
  (∀(t:Nat),bY t .bD= .bD)∧
  (∀(t:Nat),bY t .dk= .dk)∧
  (∀(t:Nat),bY t .hole= .hole)∧
  (∀(t:Nat) (sz:Nat) (xs:List I),bY t (.aE sz xs)=(.aE sz xs))∧
  (∀(t:Nat) (d:I),bY t (.a_ d)=(.a_ d))∧
  (∀(t:Nat) (ag:List I),bY t (.agg ag)=(.agg ag))∧
  (∀(t:Nat) (ag:List I),bY t (.tuple ag)=(.tuple ag))∧
  (∀(t y:Nat) q,bY t (.h y q)=if y=t then .hole else .h y q)∧
  (∀(t y:Nat) q,bY t (.ak y q)=if y=t then .hole else .ak y q)∧
  (∀(t:Nat) f c,bY t (.fn f c)= .fn f (gN t c))∧
  (∀t,gN t []=[])∧
  (∀t d ds,gN t (d::ds)=bY t d::gN t ds)∧
  (∀t,lR t []=[])∧
  (∀t u d l,lR t ((u,d)::l)=(u,bY t d)::lR t l)∧
  (∀t l,jt t (J l)=J (lR t l)):=
 ⟨fun _ _ _=>by unfold bY;rfl,fun _ _=>by unfold bY;rfl,fun _ _=>by unfold bY;rfl,fun _ _=>by unfold bY;rfl,fun _ _=>by unfold bY;rfl,fun _=>by unfold bY;rfl,fun _=>by unfold bY;rfl,fun _=>by unfold bY;rfl,fun _=>by unfold bY;rfl,fun _ _ _=>by unfold bY;rfl,fun _ _=>by unfold bY;rfl,fun _ _=>by unfold bY;rfl,fun _ _=>by unfold bY;rfl,fun _ _ _=>by unfold bY;rfl,fun _ _ _=>by unfold bY;rfl,fun _ _ _=>by simp only[bY],fun _=>by simp only[gN],fun _ _ _=>by simp only[gN],fun _=>rfl,fun _ _ _ _=>rfl,fun t l=>re t l⟩
theorem DI:
  (∀(t:Nat) (k:IntKind) (n:Int),bs t (.int k n)=(.int k n))∧
  (∀(t:Nat) (b:Bool),bs t (.bool b)=(.bool b))∧
  (∀(t:Nat) (x:List UInt8),bs t (.str x)=(.str x))∧
  (∀(t:Nat) (xs:List I),bs t (.slice xs)=(.slice xs))∧
  (∀(t:Nat) (d:I),bs t (.ref d)=(.ref d))∧
  (∀(t:Nat),bs t .ct= .ct)∧
  (∀(t:Nat),bs t .bD= .bD)∧
  (∀(t:Nat),bs t .dk= .dk)∧
  (∀(t:Nat),bs t .hole= .hole)∧
  (∀(t:Nat) (sz:Nat) (xs:List I),bs t (.aE sz xs)=(.aE sz xs))∧
  (∀(t:Nat) (d:I),bs t (.a_ d)=(.a_ d))∧
  (∀(t:Nat) (ag:List I),bs t (.agg ag)=(.agg ag))∧
  (∀(t:Nat) (ag:List I),bs t (.tuple ag)=(.tuple ag))∧
  (∀(t y:Nat),bs t (.h y [])= .h y [])∧
  (∀(t y k:Nat) q,bs t (.h y (k::q))=if y=t then .hole else .h y (k::q))∧
  (∀(t y:Nat) q,bs t (.ak y q)=if y=t then .hole else .ak y q)∧
  (∀(t:Nat) f c,bs t (.fn f c)= .fn f (gp t c))∧
  (∀t,gp t []=[])∧
  (∀t d ds,gp t (d::ds)=bs t d::gp t ds)∧
  (∀t,pX t []=[])∧
  (∀t u d l,pX t ((u,d)::l)=(u,bs t d)::pX t l)∧
  (∀t l,fO t (J l)=J (pX t l)):=
 ⟨fun _ _ _=>by unfold bs;rfl,fun _ _=>by unfold bs;rfl,fun _ _=>by unfold bs;rfl,fun _ _=>by unfold bs;rfl,fun _ _=>by unfold bs;rfl,fun _=>by unfold bs;rfl,fun _=>by unfold bs;rfl,fun _=>by unfold bs;rfl,fun _=>by unfold bs;rfl,fun _ _ _=>by unfold bs;rfl,fun _ _=>by unfold bs;rfl,fun _ _=>by unfold bs;rfl,fun _ _=>by unfold bs;rfl,fun _ _=>by simp[bs],fun _ _ _ _=>by simp[bs],fun _ _ _=>by unfold bs;rfl,fun _ _ _=>by simp only[bs],fun _=>by simp only[gp],fun _ _ _=>by simp only[gp],fun _=>rfl,fun _ _ _ _=>rfl,fun t l=>KY t l⟩
def zi:kP→Bool→Option I
 | .bool,b=>some (.bool b)
 |_,_=>none
def oU (neg:Bool):kP→Option (Option Bool)→Option I
 | .slice _,some r=>some (mb neg r)
 |_,_=>none
def p3 (neg:Bool):kP→Option Bool→Option I
 | .ptr _,some b=>some (.bool (b !=neg))
 |_,_=>none
theorem DJ (C:bt) (s:aj) (T:TypeId):
  (∀op k a cB b,bB C s op T (.int k a) (.int cB b)=gD op k a cB b)∧
  (∀op a b,bB C s op T (.str a) (.str b)=kR op a b)∧
  (∀a b,bB C s .eql T (.bool a) (.bool b)=zi (C.T T).k (a==b))∧
  (∀a b,bB C s .neq T (.bool a) (.bool b)=zi (C.T T).k (!(a==b)))∧
  (∀xs,bB C s .eql T (.slice xs) .bD=oU false (C.T T).k (ho s (.slice xs)))∧
  (∀xs,bB C s .neq T (.slice xs) .bD=oU true (C.T T).k (ho s (.slice xs)))∧
  (bB C s .eql T .bD .bD=oU false (C.T T).k (ho s .bD))∧
  (bB C s .neq T .bD .bD=oU true (C.T T).k (ho s .bD))∧
  (∀x q,bB C s .eql T (.h x q) .bD=oU false (C.T T).k (ho s (.h x q)))∧
  (∀x q,bB C s .neq T (.h x q) .bD=oU true (C.T T).k (ho s (.h x q)))∧
  (∀x q,bB C s .eql T (.h x q) .ct=p3 false (C.T T).k (i1 s (.h x q)))∧
  (∀x q,bB C s .neq T (.h x q) .ct=p3 true (C.T T).k (i1 s (.h x q)))∧
  (∀d,bB C s .eql T (.ref d) .ct=p3 false (C.T T).k (i1 s (.ref d)))∧
  (∀d,bB C s .neq T (.ref d) .ct=p3 true (C.T T).k (i1 s (.ref d)))∧
  (bB C s .eql T .ct .ct=p3 false (C.T T).k (i1 s .ct))∧
  (bB C s .neq T .ct .ct=p3 true (C.T T).k (i1 s .ct)):=by
 refine⟨?_,?_,?_,?_,?_,?_,?_,?_,?_,?_,?_,?_,?_,?_,?_,?_⟩<;>intros<;>first
  |rfl
  |(simp only[bB]
    generalize (C.T T).k=iY
    cases iY<;>first|rfl|(simp only[oU];generalize ho s _=v;cases v<;>rfl)|(simp only[p3];generalize i1 s _=v;cases v<;>(try (rename_i b;cases b))<;>rfl))
theorem DK (k:IntKind) (a b:Int):
  gD .add k a k b=some (.int k (k.wrap (a+b)))∧gD .sub k a k b=some (.int k (k.wrap (a-b)))∧gD .mul k a k b=some (.int k (k.wrap (a*b)))∧
  gD .eql k a k b=some (.bool (a==b))∧gD .neq k a k b=some (.bool (a !=b))∧gD .lss k a k b=some (.bool (decide (a<b)))∧gD .leq k a k b=some (.bool (decide (a≤b)))∧
  gD .gtr k a k b=some (.bool (decide (b<a)))∧gD .geq k a k b=some (.bool (decide (b≤a)))∧
  gD .and k a k b=some (.int k (bitsOf .and k a b))∧gD .or k a k b=some (.int k (bitsOf .or k a b))∧gD .xor k a k b=some (.int k (bitsOf .xor k a b))∧gD .andNot k a k b=some (.int k (bitsOf .andNot k a b)):=by
 simp[gD]
theorem LD {k:IntKind} {a b:Int} (h:b≠0):gD .quo k a k b=some (.int k (k.wrap (a.tdiv b))):=by simp[gD,h]
theorem LF {k:IntKind} {a b:Int} (h:b≠0):gD .rem k a k b=some (.int k (a.tmod b)):=by simp[gD,h]
theorem DL (a b:List UInt8):
  kR .eql a b=some (.bool (a==b))∧kR .neq a b=some (.bool !(a==b))∧kR .lss a b=some (.bool (Op.bytesLess a b))∧
  kR .leq a b=some (.bool (Op.bytesLess a b||a==b))∧kR .gtr a b=some (.bool !(Op.bytesLess a b||a==b))∧kR .geq a b=some (.bool !(Op.bytesLess a b)):=by
 refine⟨rfl,rfl,rfl,rfl,rfl,rfl⟩
theorem DM:(∀b,un .not (.bool b)=some (.bool !b))∧(un .not .dk=some .dk)∧(∀k n,un .neg (.int k n)=some (.int k (k.wrap (0-n)))):=⟨fun _=>rfl,rfl,fun _ _=>rfl⟩
def zj:kP→Option UInt8→Option I
 | .str,some c=>some (.int .u8 c.toNat)
 |_,_=>none
theorem DN (C:bt) (T:TypeId) (l:List UInt8) (k:IntKind) (n:Int):idx C T (.str l) (.int k n)=zj (C.T T).k (cD l n):=by
 simp only[idx,cD]
 generalize (C.T T).k=iY
 cases iY<;>first|rfl|(simp only[zj];split<;>first|rfl|(cases l[n.toNat]? <;>rfl))
def zk (C:bt):kP→Option I→Option I
 | .slice e,some d=>if(C.T e).ok=true∧d.wd=(C.T e).sz then some (.ref d)else none
 |_,_=>none
theorem DO (C:bt) (s:aj) (T:TypeId) (xs:List I) (k:IntKind) (n:Int):eI C s T (.slice xs) (.int k n)=zk C (C.T T).k (cD xs n):=by
 simp only[eI,cD]
 generalize (C.T T).k=iY
 cases iY<;>first|rfl|skip
 simp only[zk]
 by_cases bm:0≤n
 ·simp only[bm,true_and,if_true]
  split
  ·cases xs[n.toNat]? <;>simp[*]
  ·cases xs[n.toNat]? <;>simp[*]
 ·simp only[bm,false_and,if_false]
def tE (C:bt) (y:Nat) (q:List Nat) (n:Int):kP→Option I→Option I
 | .slice e,some (.aE sz xs)=>if(cD xs n).isSome=true∧(C.T e).ok=true∧sz=(C.T e).sz then some (.ak y (q++[n.toNat]))else none
 |_,_=>none
theorem DP (C:bt) (s:aj) (T:TypeId) (y:Nat) (q:List Nat) (k:IntKind) (n:Int):eI C s T (.h y q) (.int k n)=tE C y q n (C.T T).k (I.sub q (s y)):=by
 simp only[eI]
 generalize (C.T T).k=iY
 cases iY<;>first|rfl|skip
 rename_i e
 cases U:I.sub q (s y)with
 |none=>simp[tE]
 |some d=>
  cases d<;>first
   |(simp[tE];done)
   |skip
  rename_i sz xs
  have hg:(cD xs n).isSome=true↔0≤n∧n.toNat<xs.length:=by
   unfold cD;split<;>simp_all<;>omega
  simp only[tE,hg]
  by_cases bm:0≤n<;>by_cases ab:(C.T e).ok=true<;>simp[bm,ab]
def rK:kP→aj→Option (List UInt8)→Option (I×aj)
 | .str,s,some t=>some (.str t,s)
 |_,_,_=>none
def rL (C:bt):kP→aj→List I→Option (List I)→Option (I×aj)
 | .slice e,s,xs,some t=>if(C.T e).ok=true∧∀d∈xs,d.wd=(C.T e).sz then some (.slice t,s)else none
 |_,_,_,_=>none
theorem DQ (C:bt) (s:aj) (T:TypeId) (l:List UInt8):
  (∀k a cB b,cF C s T (.str l) (some (.int k a)) (some (.int cB b))=rK (C.T T).k s (ea l a b))∧
  (∀cB b,cF C s T (.str l) none (some (.int cB b))=rK (C.T T).k s (ea l 0 b))∧
  (∀k a,cF C s T (.str l) (some (.int k a)) none=rK (C.T T).k s (ea l a l.length)):=by
 have e:∀(cb aA:Option I) (a b:Int),(fN 0 cb=if 0≤a then some a.toNat else none)→(fN l.length aA=if 0≤b then some b.toNat else none)→cF C s T (.str l) cb aA=rK (C.T T).k s (ea l a b):=by
  intro cb aA a b ab ad
  simp only[cF]
  generalize (C.T T).k=iY
  cases iY<;>first|rfl|skip
  simp only[ab,ad,ea]
  by_cases bT:0≤a<;>by_cases R:0≤b<;>simp only[bT,R,if_true,if_false,rK,true_and,false_and]
  ·by_cases ai:a≤b∧b≤l.length
   ·rw[if_pos ⟨by omega,by omega⟩,if_pos ai]
   ·rw[if_neg (fun h=>ai ⟨by omega,by omega⟩),if_neg ai]
  ·rw[if_neg (by omega)]
 exact⟨fun k a cB b=>e _ _ a b rfl rfl,fun cB b=>e _ _ 0 b rfl rfl,fun k a=>e _ _ a l.length rfl (by simp[fN])⟩
theorem DR (C:bt) (s:aj) (T:TypeId) (xs:List I):
  (∀k a cB b,cF C s T (.slice xs) (some (.int k a)) (some (.int cB b))=rL C (C.T T).k s xs (ea xs a b))∧
  (∀cB b,cF C s T (.slice xs) none (some (.int cB b))=rL C (C.T T).k s xs (ea xs 0 b))∧
  (∀k a,cF C s T (.slice xs) (some (.int k a)) none=rL C (C.T T).k s xs (ea xs a xs.length)):=by
 have e:∀(cb aA:Option I) (a b:Int),(fN 0 cb=if 0≤a then some a.toNat else none)→(fN xs.length aA=if 0≤b then some b.toNat else none)→cF C s T (.slice xs) cb aA=rL C (C.T T).k s xs (ea xs a b):=by
  intro cb aA a b ab ad
  simp only[cF]
  generalize (C.T T).k=iY
  cases iY<;>first|rfl|skip
  simp only[ab,ad,ea]
  by_cases bT:0≤a<;>by_cases R:0≤b<;>simp only[bT,R,if_true,if_false,rL,true_and,false_and]
  ·by_cases ai:a≤b∧b≤xs.length
   ·rw[if_pos ai]
    have ab:a.toNat≤b.toNat:=by omega
    have ad:b.toNat≤xs.length:=by omega
    simp only[ab,ad,true_and]
   ·rw[if_neg (fun h=>ai ⟨by omega,by omega⟩),if_neg ai]
  ·rw[if_neg (by omega)]
 exact⟨fun k a cB b=>e _ _ a b rfl rfl,fun cB b=>e _ _ 0 b rfl rfl,fun k a=>e _ _ a xs.length rfl (by simp[fN])⟩
def tF (q:List Nat):Option I→Option I
 |some d=>I.sub q d
 |none=>none
theorem DS:(∀d,I.sub [] d=some d)∧(∀k q ag,I.sub (k::q) (.agg ag)=tF q ag[k]?)∧(∀k q ag,I.sub (k::q) (.tuple ag)=tF q ag[k]?)∧(∀k q sz xs,I.sub (k::q) (.aE sz xs)=tF q xs[k]?)∧
  (∀q d,I.sub (0::q) (.a_ d)=I.sub q d)∧(∀q d,tF q (some d)=I.sub q d)∧
  (∀k q a b,I.sub (k::q) (.int a b)=none):=by
 refine⟨fun d=>by simp[I.sub],?_,?_,?_,fun q d=>by simp[I.sub],fun _ _=>rfl,fun _ _ _ _=>by simp[I.sub]⟩
 ·intro k q ag;simp only[I.sub];cases ag[k]? <;>rfl
 ·intro k q ag;simp only[I.sub];cases ag[k]? <;>rfl
 ·intro k q sz ag;simp only[I.sub];cases ag[k]? <;>rfl
def DT (k:Nat) (q:List Nat) (n:I) (ag:List I):Option I→I
 |some d=>.agg (ag.set k (I.put q n d))
 |none=>.agg ag
def DU (k:Nat) (q:List Nat) (n:I) (ag:List I):Option I→I
 |some d=>.tuple (ag.set k (I.put q n d))
 |none=>.tuple ag
def DV (k:Nat) (q:List Nat) (n:I) (sz:Nat) (xs:List I):Option I→I
 |some d=>.aE sz (xs.set k (I.put q n d))
 |none=>.aE sz xs
theorem DW:(∀n d,I.put [] n d=n)∧(∀k q n ag,I.put (k::q) n (.agg ag)=DT k q n ag ag[k]?)∧(∀k q n ag,I.put (k::q) n (.tuple ag)=DU k q n ag ag[k]?)∧
  (∀k q n sz xs,I.put (k::q) n (.aE sz xs)=DV k q n sz xs xs[k]?)∧(∀q n d,I.put (0::q) n (.a_ d)= .a_ (I.put q n d))∧
  (∀k q n ag d,DT k q n ag (some d)= .agg (ag.set k (I.put q n d)))∧(∀k q n ag d,DU k q n ag (some d)= .tuple (ag.set k (I.put q n d)))∧
  (∀k q n sz xs d,DV k q n sz xs (some d)= .aE sz (xs.set k (I.put q n d))):=by
 refine⟨fun n d=>by simp[I.put],?_,?_,?_,fun q n d=>by simp[I.put],fun _ _ _ _ _=>rfl,fun _ _ _ _ _=>rfl,fun _ _ _ _ _ _=>rfl⟩
 ·intro k q n ag;simp only[I.put];cases ag[k]? <;>rfl
 ·intro k q n ag;simp only[I.put];cases ag[k]? <;>rfl
 ·intro k q n sz ag;simp only[I.put];cases ag[k]? <;>rfl
theorem zl:(∀k n,I.wd (.int k n)=1)∧(∀b,I.wd (.bool b)=1)∧(∀x,I.wd (.str x)=1)∧(∀x,I.wd (.slice x)=1)∧(∀n x,I.wd (.aE n x)=1)∧(∀x,I.wd (.ref x)=1)∧(∀x,I.wd (.a_ x)=1)∧
  I.wd .bD=1∧I.wd .ct=1∧I.wd .hole=1∧I.wd .dk=1∧(∀x y,I.wd (.h x y)=1)∧(∀x y,I.wd (.ak x y)=1)∧(∀x y,I.wd (.fn x y)=1)∧(∀ag,I.wd (.agg ag)=I.cO ag)∧(∀ag,I.wd (.tuple ag)=I.cO ag)∧I.cO []=0∧(∀d ds,I.cO (d::ds)=d.wd+I.cO ds):=by
 simp[I.wd,I.cO]
theorem LG {α:Type} {e:α→I} {n:Nat} (h:∀x,(e x).wd=n) (xs:List α):(∀d∈xs.map e,d.wd=n)=True:=by
 simp only[List.mem_map,eq_iff_iff,iff_true]
 rintro d ⟨x,_,rfl⟩;exact h x
theorem LH (C:bt) (s:aj) (A B:TypeId) (k cB:IntKind) (n:Int) (dS:(C.T A).ok=true) (e2:(C.T B).k= .int cB):ei C s A B (.int k n)=some (.int cB (cB.wrap n)):=by
 simp only[ei,dS,e2,if_true]
theorem DX (m:Int):h8 (nE m)= .int .u8 (IntKind.u8.wrap m):=by
 have h:0≤IntKind.u8.wrap m∧IntKind.u8.wrap m<256:=by rw[IntKind.wrap_u8];omega
 simp only[h8,nE,UInt8.toNat_ofNat']
 congr 1
 omega
theorem zm (m:Int):((nE m).toNat:Int)=IntKind.u8.wrap m:=by
 have h:=DX m
 simpa [h8]using h
section
variable {C:bt} {l:List (Nat×I)} {Q:Exit→aj→Prop} {s:aj}
theorem je {ros:List br} {k:List Nat} (h:bN C (J l) ros none (fun _ s=>Q .normal (J (gU k s)))):b1 C (.b9 ros (some k)) Q (J l):=vF (fun _ _ h=>h) h
theorem DY {ros:List br} {eL:List (List Nat)} {k:List Nat} (hlen:eL.length=ros.length) (h:bN C (J l) ros (some []) (fun acc s=>j1 (p1 eL) 0 [] (acc.getD []).reverse=true∧Q .normal (J (gU k s)))):
  b1 C (.ja ros eL (some k)) Q (J l):=DA hlen h
theorem LI {a b:aa} (h:∀c8:Exit→aj→Prop,(∀s,eM (b1 C b Q) s→c8 .normal s)→(∀s,Q .ret s→c8 .ret s)→(∀i s,Q (.exit i) s→c8 (.exit i) s)→b1 C a c8 s):b1 C (.seq a b) Q s:=
 h _ (fun _ h=>h) (fun _ h=>h) (fun _ _ h=>h)
theorem cP {ros:List br} {k:List Nat} {b:aa} (h:bN C (J l) ros none (fun _ s=>b1 C b Q (J (gU k s)))):b1 C (.seq (.b9 ros (some k)) b) Q (J l):=vF (fun _ _ h=>.inl h) h
theorem nf {ros:List br} {eL:List (List Nat)} {k:List Nat} {b:aa} (hlen:eL.length=ros.length) (h:bN C (J l) ros (some []) (fun acc s=>j1 (p1 eL) 0 [] (acc.getD []).reverse=true∧b1 C b Q (J (gU k s)))):
  b1 C (.seq (.ja ros eL (some k)) b) Q (J l):=DA (K:=fun s=>eM (b1 C b Q) (J (gU k s))) hlen (by
   have key:∀(os:List br) (s:aj) (acc:Option (List dK)),bN C s os acc (fun acc s=>j1 (p1 eL) 0 [] (acc.getD []).reverse=true∧b1 C b Q (J (gU k s)))→
     bN C s os acc (fun acc s=>j1 (p1 eL) 0 [] (acc.getD []).reverse=true∧eM (b1 C b Q) (J (gU k s))):=by
    intro os
    induction os with
    |nil=>intro s acc h;exact⟨h.1,.inl h.2⟩
    |cons o os ih=>
     intro s acc h
     have mono:∀{s:aj} {bd:ej} {K bF:List Nat→I→aj→Prop},(∀a b c,K a b c→bF a b c)→mr C s bd K→mr C s bd bF:=by
      intro s bd K bF al h
      cases bd with
      |call f args=>
       obtain⟨g,caps,ps,r,ab,eQ,ad,aB,aR,ba,bu,bE,cK⟩:=h
       exact⟨g,caps,ps,r,ab,eQ,ad,aB,aR,ba,bu,bE,al _ _ _ cK⟩
      |shr bd=>obtain⟨av,s1,ab,ad,aB,aR⟩:=h;exact⟨av,s1,ab,ad,aB,al _ _ _ aR⟩
      |kq f args u x=>
       obtain⟨bz,bK,g,caps,ps,r,ab,eQ,ad,aB,aR,ba,bu,bE,cK,eR,fB⟩:=h
       exact⟨bz,bK,g,caps,ps,r,ab,eQ,ad,aB,aR,ba,bu,bE,cK,eR,al _ _ _ fB⟩
      |kr f args us=>
       obtain⟨bK,g,caps,ps,r,ab,eQ,ad,aB,aR,ba,bu,bE,cK,eR⟩:=h
       exact⟨bK,g,caps,ps,r,ab,eQ,ad,aB,aR,ba,bu,bE,cK,al _ _ _ eR⟩
      |_=>obtain⟨av,s1,ab,ad⟩:=h;exact⟨av,s1,ab,al _ _ _ ad⟩
     simp only[bN,k1]at h⊢
     split
     ·rename_i hg;rw[hg]at h;exact mono (fun _ _ _=>ih _ _) h
     ·rename_i t dQ hg
      rw[hg]at h
      simp only at h
      split
      ·rename_i abF U
       rw[U]at h
       simp only at h
       split
       ·rename_i R;rw[if_pos R]at h;exact mono (fun _ _ _=>ih _ _) h
       ·rename_i R;rw[if_neg R]at h;exact ih _ _ h
      ·rename_i U;rw[U]at h;exact ih _ _ h
      ·rename_i ab ad
       split at h
       ·exact ab _ (by assumption)
       ·exact ad (by assumption)
       ·exact h
   exact key _ _ _ h)
theorem k3 {c:ax} {a b:aa} (ai:az s c= .bool true) (h:b1 C a Q s):b1 C (.cond c a b) Q s:=by simp only[b1,ai,if_true];exact h
theorem rM {c:ax} {a b:aa} (ai:az s c= .bool false) (h:b1 C b Q s):b1 C (.cond c a b) Q s:=by simp only[b1,ai];exact h
theorem LJ {c:ax} {a b:aa} (ai:az s c= .dk) (ab:b1 C a Q s) (ad:b1 C b Q s):b1 C (.cond c a b) Q s:=by simp only[b1,ai];exact⟨ab,ad⟩
theorem LK {id:Nat} {b:aa} (h:∀c8:Exit→aj→Prop,(∀s,Q .normal s→c8 .normal s)→(∀s,Q .ret s→c8 .ret s)→(∀s,Q .normal s→c8 (.exit id) s)→(∀i s,i≠id→Q (.exit i) s→c8 (.exit i) s)→b1 C b c8 s):b1 C (.block id b) Q s:=
 h (q8 id Q) (fun _ h=>h) (fun _ h=>h) (fun s h=>by simp only[q8,if_true];exact h) (fun i s aA h=>by simp only[q8,if_neg aA];exact h)
theorem gg {id:Nat} (h:Q (.exit id) s):b1 C (.exit id) Q s:=h
theorem bj (h:Q .ret s):b1 C .ret Q s:=h
theorem bH (h:Q .normal s):b1 C .skip Q s:=h
def fc (C:bt) (b:aa) (Q:Exit→aj→Prop) (s:aj):Prop:=∀Z:aj→Prop,(∀ar,b1 C b (andThen (eM Z) Q) ar→Z ar)→Z s
theorem gh {b:aa} (h:eM (fc C b Q) s):b1 C (.loop b) Q s:=h
theorem LL {b:aa} (h:∀c8:Exit→aj→Prop,(∀s,eM (fc C b Q) s→c8 .normal s)→(∀s,Q .ret s→c8 .ret s)→(∀i s,Q (.exit i) s→c8 (.exit i) s)→b1 C b c8 s):fc C b Q s:=by
 intro Z q_
 refine q_ s (C7 b ?_ (h (andThen (eM (fc C b Q)) Q) (fun _ h=>h) (fun _ h=>h) (fun _ _ h=>h)))
 intro e ar aS
 cases e with
 |normal=>exact q9 (fun s h=>h Z q_) ar aS
 |_=>exact aS
theorem bX {c6:List (Nat×I)} (h:c6.map (·.2)=c6.map fun p=>s p.1):tw s c6:=by
 intro p ak
 left
 induction c6 with
 |nil=>cases ak
 |cons a c6 ih=>
  simp only[List.map_cons,List.cons.injEq]at h
  rcases List.mem_cons.1 ak with rfl|ak
  ·exact h.1
  ·exact ih h.2 ak
end
section
variable {C:bt} {l:List (Nat×I)} {Q:Exit→aj→Prop} {s:aj} {os ros:List br} {K:Option (List dK)→aj→Prop} {dst:Option Nat}
theorem DZ (l:List (Nat×I)):(∀n,az (J l) (.t n)=gO n (J l n))∧(∀av,az (J l) (.c av)=av)∧(∀g,az (J l) (.f g)= .fn g []):=⟨fun _=>rfl,fun _=>rfl,fun _=>rfl⟩
theorem D0:(∀t,J [] t= .hole)∧(∀u d (l:List (Nat×I)) t,J ((u,d)::l) t=if t=u then d else J l t):=⟨fun _=>rfl,fun _ _ _ _=>rfl⟩
theorem D1 (s:aj):gU [] s=[]∧(∀t k,gU (t::k) s=(t,s t)::gU k s):=⟨rfl,fun _ _=>rfl⟩
theorem D2 (s:aj):(∀d,b3 s (some d)=some (d,s))∧(∀s1,gx (some s1)=some (.hole,s1))∧gH s []=[]∧(∀x xs,gH s (x::xs)=az s x::gH s xs)∧hU s []=[]∧(∀k x xs,hU s ((k,x)::xs)=(k,az s x)::hU s xs)∧
  jd s none=none∧(∀x,jd s (some x)=some (az s x))∧(∀b x y,oT s (.bool b) x y=some (if b=true then x else y,s)):=
 ⟨fun _=>rfl,fun _=>rfl,rfl,fun _ _=>rfl,rfl,fun _ _ _=>rfl,rfl,fun _=>rfl,fun b _ _=>by cases b<;>rfl⟩
theorem D3 (C:bt):(∀e d,zk C (.slice e) (some d)=if(C.T e).ok=true∧d.wd=(C.T e).sz then some (.ref d)else none)∧
  (∀y q n e sz xs,tE C y q n (.slice e) (some (.aE sz xs))=if(cD xs n).isSome=true∧(C.T e).ok=true∧sz=(C.T e).sz then some (.ak y (q++[n.toNat]))else none)∧
  (∀e s xs t,rL C (.slice e) s xs (some t)=if(C.T e).ok=true∧∀d∈xs,d.wd=(C.T e).sz then some (.slice t,s)else none):=
 ⟨fun _ _=>rfl,fun _ _ _ _ _ _=>rfl,fun _ _ _ _=>rfl⟩
theorem D4:(∀b,zi .bool b=some (.bool b))∧(∀c,zj .str (some c)=some (.int .u8 c.toNat))∧(∀s t,rK .str s (some t)=some (.str t,s))∧(∀q d,tF q (some d)=I.sub q d):=
 ⟨fun _=>rfl,fun _=>rfl,fun _ _=>rfl,fun _ _=>rfl⟩
theorem D5 (sz bytes:Nat) (z:I):(∀k,eC.ok ⟨.int k,sz,bytes,z⟩=true)∧eC.ok ⟨.bool,sz,bytes,z⟩=true∧eC.ok ⟨.str,sz,bytes,z⟩=true∧(∀e,eC.ok ⟨.ptr e,sz,bytes,z⟩=true)∧(∀e,eC.ok ⟨.slice e,sz,bytes,z⟩=true)∧(∀e,eC.ok ⟨.struct e,sz,bytes,z⟩=true)∧eC.ok ⟨.fn,sz,bytes,z⟩=true:=by
 simp[eC.ok]
theorem D6 (sz bytes:Nat) (z:I):(∀k,eC.flat ⟨.int k,sz,bytes,z⟩=true)∧eC.flat ⟨.bool,sz,bytes,z⟩=true∧eC.flat ⟨.str,sz,bytes,z⟩=true∧(∀e,eC.flat ⟨.ptr e,sz,bytes,z⟩=true)∧(∀e,eC.flat ⟨.slice e,sz,bytes,z⟩=true)∧(∀e,eC.flat ⟨.struct e,sz,bytes,z⟩=false)∧eC.flat ⟨.fn,sz,bytes,z⟩=true:=by
 simp[eC.flat]
theorem tG (c:UInt8) (k:IntKind) (al:k≠.i8):k.wrap (c.toNat:Int)=(c.toNat:Int):=by
 have:=c.toNat_lt
 cases k<;>first|(exact(al rfl).elim)|(simp[IntKind.wrap,IntKind.bits,IntKind.signed];try omega)
theorem zn (c:UInt8):IntKind.i64.wrap (c.toNat:Int)=(c.toNat:Int)∧IntKind.u64.wrap (c.toNat:Int)=(c.toNat:Int)∧IntKind.u8.wrap (c.toNat:Int)=(c.toNat:Int)∧IntKind.i32.wrap (c.toNat:Int)=(c.toNat:Int)∧IntKind.u32.wrap (c.toNat:Int)=(c.toNat:Int):=
 ⟨tG c _ (by simp),tG c _ (by simp),tG c _ (by simp),tG c _ (by simp),tG c _ (by simp)⟩
theorem cl {k:List Nat} {K:aj→Prop} (c6:List (Nat×I)) (h:∀P:List (Nat×I)→Prop,P c6→bN C (J l) ros none (fun _ s=>P (gU k s))) (al:K (J c6)):bN C (J l) ros none (fun _ s=>K (J (gU k s))):=
 h (fun l=>K (J l)) al
theorem lS {k:List Nat} {kx:List (List Nat)} {K:aj→Prop} (c6:List (Nat×I)) (h:∀P:List (Nat×I)→Prop,P c6→bN C (J l) ros (some []) (fun acc s=>j1 kx 0 [] (acc.getD []).reverse=true∧P (gU k s))) (al:K (J c6)):
  bN C (J l) ros (some []) (fun acc s=>j1 kx 0 [] (acc.getD []).reverse=true∧K (J (gU k s))):=
 h (fun l=>K (J l)) al
theorem bq.LM (aU:C.dn) {f:FuncId} {fn:Func} {c:Code} {dN:aa} {fx:List Nat} {as outs:List I} {r:I} (bk:C.P.funcs[f]? =some fn) (R:fn.body=some c)
  (jc:(fn.name== "runtime.NumGoroutine")=false) (U:bS ⟨fn.ntmps,fx⟩ c=some dN.strip) (aW:as.length≤fn.ntmps)
  (h:∀Q:Exit→aj→Prop,(∀s,eM (Ends C fx fn.results.toList r outs) s→Q .ret s)→(∀s,eM (Ends C fx fn.results.toList r outs) s→Q .normal s)→b1 C dN Q (J (num 0 as))) (ak:dN.plain=true:=by kernel_rfl):bq C f as r outs:=by
 refine bq.of_wp aU bk R jc U aW ?_ ak
 rw[Df]
 exact h _ (fun s h=>⟨.inr rfl,h⟩) (fun s h=>⟨.inl rfl,h⟩)
def D7:List I→I
 |[d]=>d
 |ds=>.tuple ds
theorem ky {fx:List Nat} {dU:List ResultVar} {r:I} {outs:List I} (ds:List I) (ab:dU.map (nZ C s)=ds.map some) (ad:r=D7 ds) (aB:(dU.map hp).Nodup)
  (aR:∀(i:Nat) (o:I),outs[i]? =some o→o= .hole∨(o=s i∧o.eD=true∧i∈fx∧i∉dU.map hp)):Ends C fx dU r outs s:=.inl ⟨ds,ab,by subst ad;cases ds with|nil=>rfl|cons a t=>cases t<;>rfl,aB,aR⟩
theorem LN {fx:List Nat} {dU:List ResultVar}:∀(i:Nat) (o:I),([]:List I)[i]? =some o→o= .hole∨(o=s i∧o.eD=true∧i∈fx∧i∉dU.map hp):=fun i o h=>by simp at h
theorem D8:∀(as ds:List I),(jY as ds).filter (·.g)=[]
 |[],_=>rfl
 |_::_,[]=>rfl
 |a::as,d::ds=>by simp only[jY,List.filter_cons];exact D8 as ds
theorem zo {f:ax} {args:List ax} {g:FuncId} {caps:List I} {K:List Nat→I→aj→Prop} (ds:List I) (r:I)
  (ab:az (J l) f= .fn g caps) (eQ:I.ef caps=true) (hB:views (J l) (gH (J l) args++caps)=some ds)
  (ba:bq C g ds r []) (bu:r.res=true) (bE:I.cZ (gH (J l) args++caps)=[]∨r.di=true) (hD:K [] r (J l)):mr C (J l) (.call f args) K:=by
 obtain⟨aH,aJ,aK,b0,b_,bw,bn⟩:=KZ _ _ hB
 refine⟨g,caps,jY (gH (J l) args++caps) ds,r,ab,eQ,by rw[aH,vK],fun p ak=>(aK p ak).1,b0,by rw[aJ];exact ba.outs b_.symm,bu,?_,by rw[bw,bn,D8];exact hD⟩
 intro hl
 refine⟨?_,fun p ak=>by rw[(aK p ak).2.2.1];rfl⟩
 rcases bE with bE|bE
 ·exfalso
  simp only[ia,List.any_eq_true]at hl
  obtain⟨p,ak,fi⟩:=hl
  have hm:=(aK p ak).2.2.2
  have:p.a.U=[]:=by
   have key:∀(as:List I) (a:I),a∈as→I.cZ as=[]→a.U=[]:=by
    intro as
    induction as with
    |nil=>intro a h;cases h
    |cons b as ih=>
     intro a h he
     simp only[I.cZ,List.append_eq_nil_iff]at he
     rcases List.mem_cons.1 h with rfl|h
     ·exact he.1
     ·exact ih a h he.2
   exact key _ _ hm bE
  rw[this]at fi;simp at fi
 ·exact bE
theorem fe {f:ax} {args:List ax} {g:FuncId} {caps:List I} {ds:List I} {r:I} (ba:bq C g ds r [])
  (ab:az (J l) f= .fn g caps) (eQ:I.ef caps=true) (hB:views (J l) (gH (J l) args++caps)=some ds)
  (bu:r.res=true) (bE:I.cZ (gH (J l) args++caps)=[]∨r.di=true)
  (hD:bN C (fin (J l) dst r) os none K):bN C (J l) (⟨dst,.call f args,none⟩::os) none K:=by
 simp only[bN,k1,nd]
 exact zo ds r ab eQ hB ba bu bE hD
theorem zp {a:List dK} {f:ax} {args:List ax} {g:FuncId} {caps:List I} {ds:List I} {r:I} (ba:bq C g ds r [])
  (ab:az (J l) f= .fn g caps) (eQ:I.ef caps=true) (hB:views (J l) (gH (J l) args++caps)=some ds)
  (bu:r.res=true) (bE:I.cZ (gH (J l) args++caps)=[]∨r.di=true)
  (hD:bN C (fin (J l) dst r) os (some (gG (J l) (use (J l) (.call f args)) dst [] r::a)) K):bN C (J l) (⟨dst,.call f args,none⟩::os) (some a) K:=by
 simp only[bN,k1,nd]
 exact zo ds r ab eQ hB ba bu bE hD
theorem oV {t:Nat} {b:Bool} {f:ax} {args:List ax} {g:FuncId} {caps:List I} {ds:List I} {r:I} (ba:bq C g ds r [])
  (ab:az (J l) f= .fn g caps) (eQ:I.ef caps=true) (hB:views (J l) (gH (J l) args++caps)=some ds)
  (bu:r.res=true) (bE:I.cZ (gH (J l) args++caps)=[]∨r.di=true)
  (hD:bN C (fin (J l) dst r) os none K):bP C l dst (.call f args) t b os none K (.bool b):=by
 simp only[bP,if_true]
 exact zo ds r ab eQ hB ba bu bE hD
theorem fZ (s:aj):views s []=some []∧(∀d ds,views s (d::ds)=(match view s d,views s ds with|some a,some b=>some (a::b)|_,_=>none))∧
  (∀k n,view s (.int k n)=some (.int k n))∧(∀b,view s (.bool b)=some (.bool b))∧(∀x,view s (.str x)=some (.str x))∧(∀x,view s (.slice x)=some (.slice x))∧(∀x,view s (.ref x)=some (.ref x))∧
  view s .bD=some .bD∧view s .ct=some .ct∧(∀ag,view s (.agg ag)=some (.agg ag))∧(∀f cap,view s (.fn f cap)=(views s cap).map (.fn f)):=by
 refine⟨rfl,fun d ds=> ?_,fun _ _=>rfl,fun _=>rfl,fun _=>rfl,fun _=>rfl,fun _=>rfl,rfl,rfl,fun _=>rfl,fun _ _=>by simp only[view]⟩
 simp only[views];rfl
theorem gV {α:Type} {u e:α→I} (h:∀x,(u x).share=e x) (xs:List α):I.shares (xs.map u)=xs.map e:=by
 rw[I.po];simp[h]
theorem vL {α:Type} {u:α→I} (h:∀x,(u x).di=true) (xs:List α):I.ku (xs.map u)=true:=by
 induction xs with
 |nil=>rfl
 |cons x xs ih=>simp only[List.map_cons,I.ku,h,ih,Bool.and_self]
def oW (s:aj) (H:List Nat):List (Nat×I)→Prop
 |[]=>True
 |p::l=>(p.2=s p.1∨((s p.1).tree=true∧dJ (s p.1) p.2∧p.1∉H))∧oW s H l
theorem k4 {c6:List (Nat×I)} (H:List Nat) (kZ:I.cZ (c6.map (·.2))=H) (h:oW s H c6):tw s c6:=by
 have key:∀(e4:List (Nat×I)),oW s H e4→∀p∈e4,p.2=s p.1∨((s p.1).tree=true∧dJ (s p.1) p.2∧p.1∉H):=by
  intro e4
  induction e4 with
  |nil=>intro _ p ak;cases ak
  |cons a e4 ih=>
   intro h p ak
   rcases List.mem_cons.1 ak with rfl|ak
   ·exact h.1
   ·exact ih h.2 p ak
 have U:∀(e4:List (Nat×I)),∀bQ∈e4,∀u∈bQ.2.U,u∈I.cZ (e4.map (·.2)):=by
  intro e4
  induction e4 with
  |nil=>intro p ak;cases ak
  |cons a e4 ih=>
   intro p ak u hu
   simp only[List.map_cons,I.cZ,List.mem_append]
   rcases List.mem_cons.1 ak with rfl|ak
   ·exact .inl hu
   ·exact .inr (ih p ak u hu)
 intro p ak
 rcases key _ h p ak with ab|⟨ab,ad,aB⟩
 ·exact .inl ab
 ·refine .inr ⟨ab,ad,fun bQ c7=>.inl fun hm=>aB ?_⟩
  rw[←kZ];exact U c6 bQ c7 _ hm
theorem k5 {H:List Nat}:oW s H []:=trivial
theorem iD {H:List Nat} {t:Nat} {d:I} {c6:List (Nat×I)} (h:d=s t) (hl:oW s H c6):oW s H ((t,d)::c6):=⟨.inl h,hl⟩
theorem k6 {H:List Nat} {t:Nat} {d aY:I} {c6:List (Nat×I)} (e:s t=d) (aO:d.tree=true) (ae:dJ d aY) (kZ:t∉H) (hl:oW s H c6):oW s H ((t,aY)::c6):=⟨.inr ⟨by rw[e];exact aO,by rw[e];exact ae,kZ⟩,hl⟩
end
theorem vM {C:bt} {A B:TypeId} {cB:IntKind} (dS:(C.T A).ok=true) (e2:(C.T B).k= .int cB):∀s k n,ei C s A B (.int k n)=some (.int cB (cB.wrap n)):=fun s k n=>LH C s A B k cB n dS e2
def D9:Option I→Option I
 |some (.aE 1 xs)=>(bytesOf xs).map .str
 |_=>none
theorem D_ {C:bt} {A B e:TypeId} (dS:(C.T A).k= .slice e) (e2:(C.T B).k= .str) (he:(C.T e).k= .int .u8):
  (∀s xs,ei C s A B (.slice xs)=(bytesOf xs).map .str)∧(∀s,ei C s A B .bD=some (.str []))∧(∀s x q,ei C s A B (.h x q)=D9 (I.sub q (s x))):=by
 have ta:(C.T A).ok=true:=by simp[eC.ok,dS]
 refine⟨fun s xs=> ?_,fun s=> ?_,fun s x q=> ?_⟩
 ·simp only[ei,ta,dS,e2,he,if_true]
 ·simp only[ei,ta,dS,e2,he,if_true]
 ·simp only[ei,ta,dS,e2,he,if_true]
  rfl
theorem Ea (xs:List I):D9 (some (.aE 1 xs))=(bytesOf xs).map .str:=rfl
theorem Eb (c:UInt8) (r:List I):bytesOf (h8 c::r)=(bytesOf r).map (c::·):=by
 have:=c.toNat_lt
 simp only[h8,bytesOf]
 rw[if_pos (by omega)]
 simp
theorem Ec:bytesOf []=some []∧(∀l:List UInt8,bytesOf (l.map h8)=some l)∧(∀(c:UInt8) r,bytesOf (.int .u8 (c.toNat:Int)::r)=(bytesOf r).map (c::·))∧
  (∀m r,bytesOf (.int .u8 (IntKind.u8.wrap m)::r)=(bytesOf r).map (nE m::·)):=
 ⟨rfl,Iu,fun c r=>Eb c r,fun m r=>by rw[←DX];exact Eb _ r⟩
theorem LO {k:IntKind} {b:Int} (h:b≠0):∀a,gD .quo k a k b=some (.int k (k.wrap (a.tdiv b))):=fun _=>LD h
theorem Ed {k:IntKind} {b:Int} (h:b≠0):∀a,gD .rem k a k b=some (.int k (a.tmod b)):=fun _=>LF h
theorem jf {α:Type} {e:α→I} {n:Nat} (h:∀x,(e x).wd=n):∀xs:List α,(∀d∈xs.map e,d.wd=n)=True:=LG h
theorem all_cons {P:I→Prop} (d:I) (ds:List I):(∀x∈d::ds,P x)=(P d∧∀x∈ds,P x):=by simp
theorem all_nil {P:I→Prop}:(∀x∈([]:List I),P x)=True:=by simp
def Ee (a b:List UInt8):Option Unit→Option I
 |some _=>some (.str (a++b))
 |none=>none
theorem p4 (a b:List UInt8):kR .add a b=Ee a b (jL (a.length+b.length)):=by
 simp only[kR,jL];split<;>rfl
theorem p5 (a b:List UInt8) (u:Unit):Ee a b (some u)=some (.str (a++b)):=rfl
theorem Ef:(∀l:List Nat,[]++l=l)∧(∀a (l m:List Nat),(a::l)++m=a::(l++m)):=⟨fun _=>rfl,fun _ _ _=>rfl⟩
def Eg (C:bt) (e bc:TypeId):Bool:=(C.T e).ok&&((C.T e).zero.wd==(C.T e).sz)&&(flat (C.T e).zero).isSome&&vh C e bc
def vN (C:bt) (e:TypeId) (xs:List I):Option (List I×aj)→Option (I×aj)
 |some (bG,s2)=>if(∀d∈bG,d.wd=(C.T e).sz)∧(room (C.T e).bytes (xs.length+bG.length)).isSome=true then some (.aE (C.T e).sz (xs++bG),s2)else none
 |none=>none
def zq (C:bt) (e:TypeId) (y:I) (o:Option Nat):Option (I×aj)→Option (I×aj)
 |some (.aE sz xs,s1)=>if sz=(C.T e).sz then vN C e xs (i7 s1 (iv o y))else none
 |_=>none
theorem LP (b n:Nat):(room b n).isSome=true↔n*b≤140737488355328∧n≤9223372036854775807:=by unfold room;split<;>simp_all
theorem kz {C:bt} {T bc e:TypeId} (ju:(C.T T).k= .slice e) (eW:Eg C e bc=true):∀s x y,jU C s T bc x y=zq C e y x.owner (mW C e s x):=by
 intro s x y
 simp only[Eg,Bool.and_eq_true,beq_iff_eq]at eW
 rw[yD,ju]
 simp only
 rw[if_pos ⟨eW.1.1.1,eW.1.1.2,eW.1.2,eW.2⟩]
 generalize x.owner=o
 cases mW C e s x with
 |none=>rfl
 |some p=>
  obtain⟨d,s1⟩:=p
  cases d<;>first
   |rfl
   |(simp only[zq]
     split
     ·rename_i h;subst h
      generalize i7 s1 (iv o y)=z
      cases z with
      |none=>rfl
      |some p=>simp only[vN,LP]
     ·rfl)
def Eh:Option (I×aj)→Option (List I×aj)
 |some (.aE _ bG,s2)=>some (bG,s2)
 |_=>none
theorem kA (s:aj):i7 s .bD=some ([],s)∧(∀bG,i7 s (.slice bG)=some (bG,s))∧(∀l,i7 s (.str l)=some (l.map h8,s))∧
  (∀a q,i7 s (.h a q)=Eh (bV s (.h a q)))∧(∀n bG,Eh (some (.aE n bG,s))=some (bG,s)):=
 ⟨rfl,fun _=>rfl,fun _=>rfl,fun _ _=>by simp only[i7];rfl,fun _ _=>rfl⟩
theorem kB (C:bt) (e:TypeId):(∀s,mW C e s .bD=some (.aE (C.T e).sz [],s))∧(∀s a q,mW C e s (.h a q)=bV s (.h a q))∧
  (∀y o sz xs s1,zq C e y o (some (.aE sz xs,s1))=if sz=(C.T e).sz then vN C e xs (i7 s1 (iv o y))else none)∧
  (∀xs bG s2,vN C e xs (some (bG,s2))=if(∀d∈bG,d.wd=(C.T e).sz)∧(room (C.T e).bytes (xs.length+bG.length)).isSome=true then some (.aE (C.T e).sz (xs++bG),s2)else none):=
 ⟨fun _=>rfl,fun _ _ _=>rfl,fun _ _ _ _ _=>rfl,fun _ _ _=>rfl⟩
theorem kC:(∀d,iv none d=d)∧(∀x d,iv (some x) d=bs x d)∧(∀x q,I.owner (.h x q)=some x)∧I.owner .bD=none:=
 ⟨fun _=>rfl,fun _ _=>rfl,fun _ _=>rfl,rfl⟩
def Ei (s:aj) (x:Nat) (q:List Nat):Option I→Option (I×aj)
 |some d=>if d.plain=true then none else some (d,cm (fO x s) x (I.put q d.b8 (s x)))
 |none=>none
theorem Ej (s:aj) (x:Nat) (q:List Nat):bV s (.h x q)=Ei s x q (I.sub q (s x)):=by
 simp only[bV];cases I.sub q (s x)<;>rfl
theorem Ek (s:aj):(∀x q d,Ei s x q (some d)=if d.plain=true then none else some (d,cm (fO x s) x (I.put q d.b8 (s x))))∧(∀k n,bV s (.int k n)=some (.int k n,s))∧(∀b,bV s (.bool b)=some (.bool b,s))∧(∀x,bV s (.str x)=some (.str x,s))∧
  (∀x,bV s (.slice x)=some (.slice x,s))∧(∀x,bV s (.ref x)=some (.ref x,s))∧(∀x,bV s (.agg x)=some (.agg x,s))∧bV s .bD=some (.bD,s)∧bV s .ct=some (.ct,s):=
 ⟨fun _ _ _=>rfl,fun _ _=>rfl,fun _=>rfl,fun _=>rfl,fun _=>rfl,fun _=>rfl,fun _=>rfl,rfl,rfl⟩
theorem El (l:List (Nat×I)) (t:Nat) (d:I):cm (J l) t d=J ((t,d)::l):=iC l t d
theorem Em:(∀n x,I.b8 (.aE n x)= .hole)∧(∀x,I.b8 (.a_ x)= .hole)∧(∀ag,I.b8 (.agg ag)= .agg (I.iT ag))∧(∀ag,I.b8 (.tuple ag)= .tuple (I.iT ag))∧I.iT []=[]∧(∀d ds,I.iT (d::ds)=d.b8::I.iT ds)∧
  (∀k n,I.b8 (.int k n)= .int k n)∧(∀b,I.b8 (.bool b)= .bool b)∧(∀x,I.b8 (.str x)= .str x)∧(∀x,I.b8 (.slice x)= .slice x)∧(∀x,I.b8 (.ref x)= .ref x)∧I.b8 .bD= .bD∧I.b8 .ct= .ct∧I.b8 .hole= .hole:=by
 simp[I.b8,I.iT]
def p6:Option I→Option I
 |some d=>(match d with| .tuple _=>none| .cH _=>none|d=>if d.plain=true then none else some d.share)
 |none=>none
def p7:Option I→Option I
 |some d=>(match d with| .tuple _=>none|d=>some (.ref d.share))
 |none=>none
theorem f_ (s:aj) (x:Nat) (q:List Nat):view s (.h x q)=p6 (I.sub q (s x))∧view s (.ak x q)=(if I.dL q (s x)=true then p7 (I.sub q (s x))else none):=by
 constructor
 ·simp only[view];rfl
 ·simp only[view];rfl
theorem ga:(∀n xs,p6 (some (.aE n xs))=some (.slice (I.shares xs)))∧(∀d,p6 (some (.a_ d))=some (.ref d.share))∧(∀ag,p6 (some (.agg ag))=if I.ef ag=true then none else some (.agg (I.shares ag)))∧
  (∀ag,p7 (some (.agg ag))=some (.ref (.agg (I.shares ag))))∧(∀k n,p7 (some (.int k n))=some (.ref (.int k n)))∧(∀x,p7 (some (.str x))=some (.ref (.str x))):=
 ⟨fun _ _=>by simp[p6,I.plain,I.share],fun _=>by simp[p6,I.plain,I.share],fun ag=>by cases h:I.ef ag<;>simp[p6,I.plain,I.share,h],fun _=>by simp[p7,I.share],fun _ _=>by simp[p7,I.share],fun _=>by simp[p7,I.share]⟩
theorem fI:(∀n xs,I.share (.aE n xs)= .slice (I.shares xs))∧(∀d,I.share (.a_ d)= .ref d.share)∧(∀xs,I.share (.slice xs)= .slice (I.shares xs))∧(∀d,I.share (.ref d)= .ref d.share)∧(∀ag,I.share (.agg ag)= .agg (I.shares ag))∧(∀ag,I.share (.tuple ag)= .tuple (I.shares ag))∧
  (∀k n,I.share (.int k n)= .int k n)∧(∀b,I.share (.bool b)= .bool b)∧(∀x,I.share (.str x)= .str x)∧I.share .bD= .bD∧I.share .ct= .ct∧I.shares []=[]∧(∀d ds,I.shares (d::ds)=d.share::I.shares ds):=by
 simp[I.share,I.shares]
theorem jB:(∀k n,I.owner (.int k n)=none)∧(∀b,I.owner (.bool b)=none)∧(∀x,I.owner (.str x)=none)∧(∀x,I.owner (.slice x)=none)∧(∀x,I.owner (.ref x)=none)∧(∀x,I.owner (.agg x)=none)∧I.owner .ct=none∧I.owner .bD=none∧(∀x q,I.owner (.h x q)=some x):=
 ⟨fun _ _=>rfl,fun _=>rfl,fun _=>rfl,fun _=>rfl,fun _=>rfl,fun _=>rfl,rfl,rfl,fun _ _=>rfl⟩
end Go.ca
