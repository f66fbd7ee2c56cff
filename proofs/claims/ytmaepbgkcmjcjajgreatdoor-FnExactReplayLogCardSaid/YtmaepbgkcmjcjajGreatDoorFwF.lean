/- Part of a proof that a law returns true for every input. No condition. -/
import Derived.Test.YtmaepbgkcmjcjajGreatDoorFwE
import Derived.Orders
import Derived.KernelRfl
import Derived.Test.YtmaepbgkcmjcjajGreatDoorFwA
namespace Go.ep
open Go.IntKind Nat Or
section
variable {C:cx} {w0 w:World} {F0 X:Nat->Prop} {n:Fr} {ρ:Nat->Value} {s s1:al} {a:Act} {av:I} {Q:Exit->Act->World->Prop}
def cC.un (o:cC):cC:=⟨o.dst,o.b8.base,o.guard⟩
theorem E6 {ops:Array Oper}:∀{os:List Oper} {rs:List cC},ux n ops os=some rs->os.length=rs.length/\∀(i:Nat) (o:Oper),os[i]? =some o->∃r,rs[i]? =some r/\uw n ops o=some r:=by
 intro os;induction os with
 |nil=>intro rs h;simp only[ux,Option.some.injEq]at h;subst h;exact⟨rfl,λi o h=>by simp at h⟩
 |cons o os ih=>
  intro rs h;simp only[ux]at h;split at h
  .rename_i r axy ad af;simp only[Option.some.injEq]at h;subst h;obtain⟨bZ,cu⟩:=ih af;refine⟨by simp[bZ],λi qD bS=>?_⟩;cases i with
   |zero=>simp at bS;subst bS;exact⟨r,rfl,ad⟩
   |succ i=>simpa using cu i qD (by simpa using bS)
  .cases h
theorem IQ {o:Oper} {y:Nat->azu} (h:o.guard=none):Region.wanted o y=true:=by simp[Region.wanted,h]
theorem afe (h:Rel w0 F0 X n ρ s a w) {ops:Array Oper} {j t:Nat} (bQ:(ops[j]?).bind (·.dst)=some t):
  (∀b,s t= .bool b->yielded ops a.tmps j=some b)/\(s t= .tuple []->yielded ops a.tmps j=none):=by
 obtain⟨aq,aa,bK,F,S,aR⟩:=h;have lA:=aR.eB t;refine⟨λb ab=>?_,λab=>?_⟩
 .rw[ab]at lA;have aJ:=xD lA;simp only[yielded,bQ,Option.bind_some];rw[Array.getD_eq_getD_getElem?]at aJ;cases hg:a.tmps[t]? with
  |none=>rw[hg]at aJ;simp[undef]at aJ
  |some v=>rw[hg]at aJ;simp at aJ;subst aJ;rfl
 .rw[ab]at lA;obtain⟨⟨arr,ad,af⟩,_⟩:=(aQ.du (d:=.tuple []) rfl).1 lA;simp only[yielded,bQ,Option.bind_some];rw[Array.getD_eq_getD_getElem?]at ad;cases hg:a.tmps[t]? with
  |none=>rfl
  |some v=>rw[hg]at ad;simp at ad;subst ad;rfl
theorem NU (bW:C.fN) {ops:Array Oper} {ros:List cC} {l2:azt} {K:al->Prop} (aX:∀aH dF aO,K aH->Rel w0 F0 X n ρ aH dF aO->wpOps C.P ops Q l2 dF aO):
  ∀(l:azt),(∀i∈l,(ops[i]? =none->ros[i]? =none)/\∀o,ops[i]? =some o->∃r,ros[i]? =some r/\uw n ops o=some r.un)->
  ∀(s:al) (a:Act) (w:World),kW C ros s l K->Rel w0 F0 X n ρ s a w->wpOps C.P ops Q (l++l2) a w:=by
 intro l;induction l with
 |nil=>intro _ s a w h aR;exact aX s a w h aR
 |cons i l ih=>
  intro ru s a w h aR;replace ih:=ih λi ai=>ru i (List.mem_cons_of_mem _ ai);rw[List.cons_append];simp only[wpOps];cases bS:ops[i]? with
  |none=>
   simp only[kW,(ru i (by simp)).1 bS]at h;exact ih s a w h aR
  |some o=>
   obtain⟨r,ad,af⟩:=(ru i (by simp)).2 o bS;simp only[kW,ad]at h;show(if Region.wanted o (yielded ops a.tmps)=true then o.wp C.P a w (wpOps C.P ops Q (l++l2)) Q\/(o.asks C.P a w/\LetsOut Q)else wpOps C.P ops Q (l++l2) (a.put o.dst undef) w);simp only[uw]at af;split at af
   .rename_i IU;split at af
    .rename_i g hg;obtain⟨rd,b8,rg⟩:=r;simp only[cC.un,Option.some.injEq,cC.mk.injEq]at af;obtain⟨rfl,dk,rfl⟩:=af;simp only[oW]at h;have run:∀(eK:al->Prop),(∀aH,eK aH->kW C ros aH l K)->rr C s b8 (λav s1=>eK (fin s1 o.dst av))->o.wp C.P a w (wpOps C.P ops Q (l++l2)) Q:=
      λeK hK hw=>afc bW aR dk IU hw (λaH dF aO aw fF=>ih aH dF aO (hK aH aw) fF)
     cases BJ:o.guard with
     |none=>
      rw[BJ]at hg;simp only[E0,Option.some.injEq]at hg;subst hg;simp only at h;rw[if_pos (IQ BJ)];exact .inl (run _ (λ_ h=>h) h)
     |some NV=>
      obtain⟨j,b⟩:=NV;rw[BJ]at hg;simp only[E0]at hg;split at hg
      .rename_i t a8;simp only[Option.some.injEq]at hg;subst hg;simp only at h;obtain⟨fC,hG⟩:=afe aR a8;have VH:∀(eK:kW C ros (fin s o.dst (.tuple [])) l K),wpOps C.P ops Q (l++l2) (a.put o.dst undef) w:=λeK=>ih _ _ _ eK (Rel.skip aR IU);split at h
       .rename_i gW aa;have hy:=fC gW aa;split at h
        .rename_i ab;subst ab;rw[if_pos (by simp[Region.wanted,BJ,hy])];exact .inl (run _ (λ_ h=>h) h)
        .rename_i ab;rw[if_neg (by simp[Region.wanted,BJ,hy,ab])];exact VH h
       .rename_i aa;have hy:=hG aa;rw[if_neg (by simp[Region.wanted,BJ,hy])];exact VH h
       .exact h.elim
      .cases hg
    .cases af
   .cases af
theorem VI (bW:C.fN) {ops:Array Oper} {ros:List cC} (xT:ux n ops ops.toList=some (ros.map cC.un)) {K:al->Prop} (aX:∀aH dF aO,K aH->Rel w0 F0 X n ρ aH dF aO->Q .normal dF aO):
  ∀(l:azt) (s:al) (a:Act) (w:World),kW C ros s l K->Rel w0 F0 X n ρ s a w->wpOps C.P ops Q l a w:=by
 obtain⟨hl,ru⟩:=E6 xT;intro l s a w h aR;have:=NU (Q:=Q) bW (ros:=ros) (ops:=ops) (l2:=[]) (K:=K) (n:=n) (ρ:=ρ) (w0:=w0) (F0:=F0) (X:=X) (λaH dF aO aw fF=>aX aH dF aO aw fF) l (λi _=>⟨λbS=>by
   rw[List.getElem?_eq_none_iff,<-List.length_map (f:=cC.un),<-hl];have:=Array.getElem?_eq_none_iff.1 bS;simpa using this,λo bS=>by
   obtain⟨ak,lq,af⟩:=ru i o (by simpa using bS);obtain⟨r,ad,rfl⟩:∃r,ros[i]? =some r/\r.un=ak:=by simpa using lq
   exact⟨r,ad,af⟩⟩) s a w h aR
 rwa [List.append_nil]at this
theorem Rel.drawn (h:Rel w0 F0 X n ρ s a w) (k:Nat) (aw:w.drawn<=k):Rel w0 F0 X n ρ s a {w with drawn:=k}:=by
 obtain⟨ad,af,bK,F,S,aG⟩:=h;exact⟨ad,af,bK,F,S,aG.grow (λ_ _=>rfl) (Nat.le_refl _) rfl rfl ⟨rfl,λ_=>aw⟩⟩
theorem aff (bW:C.fN) {id:Nat} {ops:Array Oper} {ros:List cC} (xT:ux n ops ops.toList=some (ros.map cC.un)) {K:al->Prop} (aX:∀aH dF aO,K aH->Rel w0 F0 X n ρ aH dF aO->Q .normal dF aO)
  (h:oq C s ros K) (aR:Rel w0 F0 X n ρ s a w):(Code.region id ops false).wp C.P Q a w:=by
 refine wp_region (VI bW xT aX _ s a w ?_ aR);have:=aeZ C K ros [] s h;have hl:=(E6 xT).1;simp only[List.nil_append,List.length_nil,Nat.add_zero,List.map_id']at this;rw[List.length_map]at hl;rw[<-hl]at this;simpa using this
end
def sX (sY:azr) (l:azt):Prop:=
 l.Nodup/\(∀i,i∈l↔i<sY.length)/\∀u i v,l=u++i::v->∀e∈(sY[i]?).getD [],e∈u
def rv (ops:Array Oper):azr:=ops.toList.map λo=>(o.after.toList.filter λe=>Region.binds .any e).map (·.on)
def E7 (sY:azr):Bool:=sY.zipIdx.all λp=>p.1.all λe=>decide (e<p.2)
theorem afg {sY:azr} (h:E7 sY=true) {i:Nat} {l:azt} (ai:sY[i]? =some l):∀e∈l,e<i:=by
 intro e he;simp only[E7,List.all_eq_true]at h;have:=h (l,i) (by rw[List.mem_zipIdx_iff_getElem?];exact ai) e he;simpa using this
theorem afh {ops:Array Oper} (ab:E7 (rv ops)=true):∀(fuel t:Nat) (listed:Array Bool),listed.size=ops.size->((List.range ops.size).filter λi=> !listed.getD i true).length<=fuel->
  (Region.linearise.go .any ops fuel t listed []).Nodup/\(∀i,i∈Region.linearise.go .any ops fuel t listed []↔(i<ops.size/\listed.getD i true=false))/\
   ∀u i v,Region.linearise.go .any ops fuel t listed []=u++i::v->∀e∈((rv ops)[i]?).getD [],listed.getD e false=true\/e∈u:=by
 intro fuel;induction fuel with
 |zero=>
  intro t listed aa hl;have EL:((List.range ops.size).filter λi=> !listed.getD i true)=[]:=List.length_eq_zero_iff.1 (le_zero.1 hl);refine⟨by simp[Region.linearise.go],λi=>?_,λu i v h=>by simp[Region.linearise.go]at h⟩;simp only[Region.linearise.go,List.reverse_nil,List.not_mem_nil,false_iff,not_and];intro ai bK;have:i∈((List.range ops.size).filter λi=> !listed.getD i true):=List.mem_filter.2 ⟨List.mem_range.2 ai,by rw[bK];rfl⟩;rw[EL]at this;cases this
 |succ fuel ih=>
  intro t listed aa hl;have VJ:∀i,i∈Region.ready .any ops listed↔(i<ops.size/\listed.getD i true=false/\∀e∈((rv ops)[i]?).getD [],listed.getD e false=true):=by
   intro i;simp only[Region.ready,List.mem_filter,List.mem_range,Bool.and_eq_true,Bool.not_eq_true'];constructor
   .rintro⟨ad,af,aG⟩;refine⟨ad,af,?_⟩;rw[Array.getElem?_eq_getElem ad]at aG;simp only[Option.map_some,Option.getD_some,Array.all_eq_true_iff_forall_mem]at aG;simp only[rv,List.getElem?_map,Array.getElem?_toList,Array.getElem?_eq_getElem ad,Option.map_some,Option.getD_some,List.mem_map,List.mem_filter];rintro e ⟨x,⟨ao,zn⟩,rfl⟩;have:=aG x (by simpa using ao);simpa [zn]using this
   .rintro⟨ad,af,aG⟩;refine⟨ad,af,?_⟩;rw[Array.getElem?_eq_getElem ad];simp only[Option.map_some,Option.getD_some,Array.all_eq_true_iff_forall_mem];simp only[rv,List.getElem?_map,Array.getElem?_toList,Array.getElem?_eq_getElem ad,Option.map_some,Option.getD_some,List.mem_map,List.mem_filter]at aG;intro x ao;cases zn:Region.binds .any x with
    |false=>simp
    |true=>simpa using aG x.on ⟨x,⟨by simpa using ao,zn⟩,rfl⟩
  have hex:(∃i,i<ops.size/\listed.getD i true=false)->Region.ready .any ops listed≠[]:=by
   rintro⟨i,ad,af⟩;have:∃i,(i<ops.size/\listed.getD i true=false)/\∀j,j<i->¬(j<ops.size/\listed.getD j true=false):=by
    induction i using Nat.strongRecOn with
    |_ i afi=>
     by_cases bQ:∃j,j<i/\(j<ops.size/\listed.getD j true=false)
     .obtain⟨j,mm,qF,afj⟩:=bQ;exact afi j mm qF afj
     .exact⟨i,⟨ad,af⟩,λj afk au=>bQ ⟨j,afk,au⟩⟩
   obtain⟨k,⟨bZ,cu⟩,dY⟩:=this;have:k∈Region.ready .any ops listed:=(VJ k).2 ⟨bZ,cu,λe he=>by
    cases bq:(rv ops)[k]? with
    |none=>rw[bq]at he;simp at he
    |some l=>
     rw[bq]at he;have eQ:=afg ab bq e he;have:=dY e eQ;rw[not_and]at this;have:=this (by omega);have qG:e<listed.size:=by omega
     simp only[Array.getD_eq_getD_getElem?,Array.getElem?_eq_getElem qG,Option.getD_some]at this⊢;simpa using this⟩
   intro e;rw[e]at this;cases this
  have iH:Region.linearise.go .any ops (fuel+1) t listed []=(match(Region.ready .any ops listed)[t%(Region.ready .any ops listed).length]? with
   |some i=>Region.linearise.go .any ops fuel (t/(Region.ready .any ops listed).length) (listed.setIfInBounds i true) [i]
   |none=>[]):=rfl
  cases E8:(Region.ready .any ops listed)[t%(Region.ready .any ops listed).length]? with
  |none=>
   have EL:Region.ready .any ops listed=[]:=by
    cases aR:Region.ready .any ops listed with
    |nil=>rfl
    |cons a l=>
     rw[aR]at E8;have:=List.getElem?_eq_none_iff.1 E8;have af:=mod_lt t (show 0<(a::l).length by simp);omega
   rw[iH,E8];refine⟨by simp,λi=>?_,λu i v h=>by simp at h⟩;simp only[List.not_mem_nil,false_iff];intro ai;exact hex ⟨i,ai⟩ EL
  |some i=>
   have ai:=(VJ i).1 (List.mem_of_getElem? E8);obtain⟨E9,nf,afl⟩:=ai;rw[iH,E8];simp only;rw[linearise_go_acc];simp only[List.reverse_singleton,List.singleton_append];have xC:∀j d,(listed.setIfInBounds i true).getD j d=if j=i then true else listed.getD j d:=by
    intro j d;split
    .rename_i e;subst e;simp[Array.getD_eq_getD_getElem?,Array.getElem?_setIfInBounds_self_of_lt (show j<listed.size by omega)]
    .rename_i e;simp[Array.getD_eq_getD_getElem?,Array.getElem?_setIfInBounds_ne (λh=>e h.symm)]
   obtain⟨g1,g2,g3⟩:=ih (t/(Region.ready .any ops listed).length) (listed.setIfInBounds i true) (by simpa using aa) (by
    have gf:((List.range ops.size).filter λj=> !(listed.setIfInBounds i true).getD j true)=((List.range ops.size).filter λi=> !listed.getD i true).filter λj=>decide (j≠i):=by
     rw[List.filter_filter];apply List.filter_congr;intro j _;rw[xC];by_cases e:j=i<;>simp[e]
    rw[gf];have eQ:(((List.range ops.size).filter λi=> !listed.getD i true).filter λj=>decide (j≠i)).length<((List.range ops.size).filter λi=> !listed.getD i true).length:=by
     rw[List.length_filter_lt_length_iff_exists];exact⟨i,List.mem_filter.2 ⟨List.mem_range.2 E9,by rw[nf];rfl⟩,by simp⟩
    omega)
   refine⟨?_,λj=>?_,?_⟩
   .rw[List.nodup_cons];refine⟨λhm=>?_,g1⟩;have:=((g2 i).1 hm).2;rw[xC,if_pos rfl]at this;cases this
   .rw[List.mem_cons,g2,xC];by_cases e:j=i
    .subst e;simp[E9,nf]
    .simp[e]
   .intro u j v h e he;cases u with
    |nil=>
     simp only[List.nil_append,List.cons.injEq]at h;obtain⟨rfl,rfl⟩:=h;exact .inl (afl e he)
    |cons BK u=>
     simp only[List.cons_append,List.cons.injEq]at h;obtain⟨rfl,h⟩:=h;rcases g3 u j v h e he with bI|bI
     .rw[xC]at bI;split at bI
      .rename_i hE;subst hE;exact .inr (by simp)
      .exact .inl bI
     .exact .inr (by simp[bI])
theorem afm {ops:Array Oper} (ab:E7 (rv ops)=true) (t:Nat):sX (rv ops) (Region.linearise .any ops t):=by
 have VK:∀i d,i<ops.size->(Array.replicate ops.size false).getD i d=false:=by
  intro i d ai;simp[Array.getD_eq_getD_getElem?,ai]
 obtain⟨g1,g2,g3⟩:=afh ab ops.size t (Array.replicate ops.size false) (by simp) (by
  have:=List.length_filter_le (λi=> !(Array.replicate ops.size false).getD i true) (List.range ops.size);simpa using this)
 have hlen:(rv ops).length=ops.size:=by simp[rv]
 refine⟨g1,λi=>?_,λu i v h e he=>?_⟩
 .rw[hlen];rw[show Region.linearise .any ops t=Region.linearise.go .any ops ops.size t (Array.replicate ops.size false) []from rfl,g2];exact⟨λh=>h.1,λh=>⟨h,VK i true h⟩⟩
 .rcases g3 u i v h e he with bI|bI
  .exfalso;by_cases VL:e<ops.size
   .rw[VK e false VL]at bI;cases bI
   .simp[Array.getD_eq_getD_getElem?,VL]at bI
  .exact bI
def ar:azx->al
 |[],_=>.hole
 |(u,d)::l,t=>if t=u then d else ar l t
mutual
inductive fP:I->I->Prop
 |refl (d:I):fP d d
 |ix (sz:Nat):fP .bf (.ag sz [])
 |qH:fP .bf (.slice [])
 |any (b:Bool):fP (.bool b) .gx
 |share (d:I):d.tree=true->(∀vs,d≠.tuple vs)->(∀o,d≠.cj o)->fP d d.share
 |agg {ds es:azy}:mF ds es->fP (.agg ds) (.agg es)
 |aM {d e:I}:fP d e->fP (.aM d) (.aM e)
 |ag {sz:Nat} {ds es:azy}:mF ds es->fP (.ag sz ds) (.ag sz es)
 |tuple {ds es:azy}:mF ds es->fP (.tuple ds) (.tuple es)
 |ref {d e:I}:fP d e->fP (.ref d) (.ref e)
 |trans {d e f:I}:fP d e->fP e f->fP d f
inductive mF:azy->azy->Prop
 |nil:mF [] []
 |cons {d e:I} {ds es:azy}:fP d e->mF ds es->mF (d::ds) (e::es)
end
mutual
theorem fP.wd:∀{d e:I},fP d e->e.wd=d.wd
 |_,_,.refl _=>rfl
 |_,_,.ix _=>rfl
 |_,_,.qH=>rfl
 |_,_,.any _=>rfl
 |_,_,.share d _ _ _=>I.Ik d
 |_,_,.agg h=>by simp only[I.wd];exact mF.wd h
 |_,_,.aM _=>rfl
 |_,_,.ag _=>rfl
 |_,_,.tuple h=>by simp only[I.wd];exact mF.wd h
 |_,_,.ref _=>rfl
 |_,_,.trans h k=>(fP.wd k).trans (fP.wd h)
theorem mF.wd:∀{ds es:azy},mF ds es->I.fc es=I.fc ds
 |_,_,.nil=>rfl
 |_,_,.cons h aa=>by simp only[I.fc];rw[fP.wd h,mF.wd aa]
end
theorem mF.len {ds es:azy} (h:mF ds es):es.length=ds.length:=by
 induction ds generalizing es with
 |nil=>cases h;rfl
 |cons d ds ih=>cases h with|cons h aa=>simp[ih aa]
theorem mF.all {sz:Nat} {ds es:azy} (h:mF ds es) (aq:∀d∈ds,d.wd=sz):∀d∈es,d.wd=sz:=by
 induction ds generalizing es with
 |nil=>cases h;intro d aq;cases aq
 |cons d ds ih=>
  cases h with
  |cons h aa=>
   intro x ao;rcases List.mem_cons.1 ao with rfl|ao
   .rw[h.wd];exact aq d (by simp)
   .exact ih aa (λd hm=>aq d (by simp[hm])) x ao
section
variable {w0 w:World} {F0 X F:Nat->Prop} {S:Nat->Nat->Prop} {s aH:al} {aI:Nat->Value}
def afn (w:World) (F:Nat->Prop) (_d e:I) (cs:azw) (S:Nat->Prop):Prop:=
 ∃j1 j2:Nat->Prop,(∀b,j1 b->S b)/\(∀b,j2 b->S b)/\(∀b,j2 b->¬j1 b)/\∀cq,(∀b,F b\/j1 b->cq b)->aB w cq e cs j2
mutual
theorem aB.wider:∀{d e:I},fP d e->∀{F:Nat->Prop} {cs:azw} {S:Nat->Prop},aB w F d cs S->afn w F d e cs S
 |_,_,.refl _,F,cs,S,h=>⟨λ_=>False,S,λ_ h=>h.elim,λ_ h=>h,λ_ _ h=>h,λcq bM=>aB.mono (λb ab=>bM b (.inl ab)) _ _ _ _ (λ_ h=>h) h⟩
 | .bf,_,.ix sz,F,cs,S,h=>⟨λ_=>False,S,λ_ h=>h.elim,λ_ h=>h,λ_ _ h=>h,λcq bM=>by simp only[aB]at h⊢;exact .inl ⟨trivial,_,h⟩⟩
 | .bf,_,.qH,F,cs,S,h=>⟨λ_=>False,S,λ_ h=>h.elim,λ_ h=>h,λ_ _ h=>h,λcq bM=>by simp only[aB]at h⊢;exact .inl ⟨trivial,none,0,h,zero_le _,λ_=>rfl⟩⟩
 | .bool _,_,.any b,F,cs,S,h=>⟨λ_=>False,S,λ_ h=>h.elim,λ_ h=>h,λ_ _ h=>h,λcq bM=>by simp only[aB]at h⊢;exact⟨b,h⟩⟩
 |_,_,.share d _ _ _,F,cs,S,h=>⟨S,λ_=>False,λ_ h=>h,λ_ h=>h.elim,λ_ h=>h.elim,λcq bM=>aB.shared (λb ab=>bM b (.inl ab)) d cs S (λb ab=>bM b (.inr ab)) h⟩
 |_,_,.agg lV,F,cs,S,h=>by
  rw[aB]at h;obtain⟨j1,j2,ad,af,aG,bh⟩:=bz.wider lV h;exact⟨j1,j2,ad,af,aG,λcq bM=>by rw[aB];exact bh cq bM⟩
 |_,_,.aM aq,F,cs,S,h=>by
  rw[aB]at h;obtain⟨b,cur,ty,fr,a7,bZ,cu,dY,eb,eJ,dx,kT⟩:=h;obtain⟨j1,j2,ad,af,aG,bh⟩:=aB.wider aq eJ;refine⟨j1,λc=>c=b\/j2 c,λc au=>dx c (ad c au),?_,?_,λcq bM=>?_⟩
  .rintro c (rfl|au)
   .exact cu
   .exact dx c (af c au)
  .rintro c (rfl|au) bK
   .exact kT (ad _ bK)
   .exact aG c au bK
  .rw[aB];exact⟨b,cur,ty,fr,j2,bZ,.inl rfl,dY,eb,bh cq bM,λc au=>.inr au,λau=>kT (af _ au)⟩
 | .ag sz ds,.ag _ es,.ag lV,F,cs,S,h=>by
   rw[aB]at h;have hl:=lV.len;rcases h with⟨ad,af⟩|⟨b,cap,cur,ty,fr,a7,bZ,cu,dY,eb,eJ,dx,kT,fp,pr,kA,VM⟩
   .refine⟨λ_=>False,S,λ_ h=>h.elim,λ_ h=>h,λ_ _ h=>h,λcq _=>?_⟩;rw[aB];subst ad;exact .inl ⟨List.length_eq_zero_iff.1 (by simpa using hl),af⟩
   .obtain⟨j1,j2,ad,af,aG,bh⟩:=bz.wider lV pr;refine⟨j1,λc=>c=b\/j2 c,λc au=>kA c (ad c au),?_,?_,λcq bM=>?_⟩
    .rintro c (rfl|au)
     .exact cu
     .exact kA c (af c au)
    .rintro c (rfl|au) bK
     .exact VM (ad _ bK)
     .exact aG c au bK
    .rw[aB];refine .inr ⟨b,cap,cur,ty,fr,j2,by rw[hl];exact bZ,.inl rfl,dY,eb,by rw[hl];exact eJ,dx,kT,lV.all fp,by rw[hl];exact bh cq bM,λc au=>.inr au,λau=>VM (af _ au)⟩
 |_,_,.tuple lV,F,cs,S,h=>by
  rw[aB]at h;obtain⟨j1,j2,ad,af,aG,bh⟩:=bz.wider lV h;exact⟨j1,j2,ad,af,aG,λcq bM=>by rw[aB];exact bh cq bM⟩
 |_,_,.ref aq,F,cs,S,h=>by
  rw[aB]at h;obtain⟨b,o,fv,ad,af,aG,bh⟩:=h;obtain⟨j1,j2,bZ,cu,dY,eb⟩:=aB.wider aq bh;refine⟨λ_=>False,S,λ_ h=>h.elim,λ_ h=>h,λ_ _ h=>h,λcq bM=>?_⟩;rw[aB];exact⟨b,o,fv,ad,bM _ (.inl af),aG,aB.mono (λ_ h=>h) _ _ _ _ (λb ab=>cu b ab) (eb cq λb ab=>bM b (ab.imp id λh=>(bZ b h).elim))⟩
 |_,_,.trans aq he,F,cs,S,h=>by
  obtain⟨j1,j2,ad,af,aG,bh⟩:=aB.wider aq h;obtain⟨NW,IV,bZ,cu,dY,eb⟩:=aB.wider he (F:=λb=>F b\/j1 b) (bh _ λ_ h=>h);refine⟨λb=>j1 b\/NW b,IV,?_,λb ab=>af b (cu b ab),?_,λcq bM=>eb cq λb ab=>?_⟩
  .rintro b (h|h)
   .exact ad b h
   .exact af b (bZ b h)
  .rintro b ab (h|h)
   .exact aG b (cu b ab) h
   .exact dY b ab h
  .rcases ab with(ab|ab)|ab
   .exact bM b (.inl ab)
   .exact bM b (.inr (.inl ab))
   .exact bM b (.inr (.inr ab))
theorem bz.wider:∀{ds es:azy},mF ds es->∀{F:Nat->Prop} {cs:azw} {S:Nat->Prop},bz w F ds cs S->
  ∃j1 j2:Nat->Prop,(∀b,j1 b->S b)/\(∀b,j2 b->S b)/\(∀b,j2 b->¬j1 b)/\∀cq,(∀b,F b\/j1 b->cq b)->bz w cq es cs j2
 |_,_,.nil,F,cs,S,h=>⟨λ_=>False,λ_=>False,λ_ h=>h.elim,λ_ h=>h.elim,λ_ h=>h.elim,λcq bM=>by rw[bz]at h⊢;exact h⟩
 |_,_,.cons aq lV,F,cs,S,h=>by
  rw[bz]at h;obtain⟨ct,c2,cT,eM,rfl,g2,g3,g4,g5,g6⟩:=h;obtain⟨afo,VN,J,a2,a3,a4⟩:=aB.wider aq g2;obtain⟨NW,IV,h3,fZ,f_,bw⟩:=bz.wider lV g3;refine⟨λb=>afo b\/NW b,λb=>VN b\/IV b,?_,?_,?_,λcq bM=>?_⟩
  .rintro b (h|h)
   .exact g4 b (J b h)
   .exact g5 b (h3 b h)
  .rintro b (h|h)
   .exact g4 b (a2 b h)
   .exact g5 b (fZ b h)
  .rintro b (h|h) (bI|bI)
   .exact a3 b h bI
   .exact g6 b (a2 b h) (h3 b bI)
   .exact g6 b (J b bI) (fZ b h)
   .exact f_ b h bI
  .rw[bz];refine⟨ct,c2,VN,IV,rfl,a4 cq (λb ab=>bM b (ab.imp id .inl)),bw cq (λb ab=>bM b (ab.imp id .inr)),λb ab=>.inl ab,λb ab=>.inr ab,λb ad af=>g6 b (a2 b ad) (fZ b af)⟩
end
theorem fP.IW:∀{d e:I},fP d e->(∀vs,d≠.tuple vs)->∀vs,e≠.tuple vs
 |_,_,.refl _,h=>h
 |_,_,.ix _,_=>λ_ h=>by cases h
 |_,_,.qH,_=>λ_ h=>by cases h
 |_,_,.any _,_=>λ_ h=>by cases h
 |_,_,.share d _ _ _,h=>λvs he=>by cases d<;>first|(cases he;done)|exact h _ rfl
 |_,_,.agg _,_=>λ_ h=>by cases h
 |_,_,.aM _,_=>λ_ h=>by cases h
 |_,_,.ag _,_=>λ_ h=>by cases h
 |_,_,.tuple _,h=>λ_ _=>h _ rfl
 |_,_,.ref _,_=>λ_ h=>by cases h
 |_,_,.trans h k,aX=>fP.IW k (fP.IW h aX)
theorem fP.kj:∀{d e:I} {v:Value},fP d e->(∀vs,d≠.tuple vs)->ep.kj d v->ep.kj e v
 |_,_,_,.refl _,_,h=>h
 |_,_,_,.ix _,_,h=>h
 |_,_,_,.qH,_,h=>h
 |_,_,_,.any _,_,h=>h
 |_,_,_,.share d _ aX _,_,h=>by cases d<;>first|exact h|exact(aX _ rfl).elim
 |_,_,_,.agg _,_,h=>h
 |_,_,_,.aM _,_,h=>h
 |_,_,_,.ag _,_,h=>h
 |_,_,_,.tuple _,aX,_=>(aX _ rfl).elim
 |_,_,_,.ref _,_,h=>h
 |_,_,_,.trans h k,aX,aa=>fP.kj k (fP.IW h aX) (fP.kj h aX aa)
theorem mF.get:∀{ds es:azy},mF ds es->∀(k:Nat) (e:I),es[k]? =some e->∃d,ds[k]? =some d/\fP d e
 |_,_,.nil,k,e,h=>by simp at h
 |_,_,.cons aq aa,0,e,h=>by simp at h;subst h;exact⟨_,rfl,aq⟩
 |_,_,.cons aq aa,k+1,e,h=>mF.get aa k e (by simpa using h)
theorem fP.e2:∀{d e:I} {v:Value},fP d e->ep.e2 d v->ep.e2 e v
 |_,_,_,.refl _,aa=>aa
 |_,_,_,.ix _,aa=>aa
 |_,_,_,.qH,aa=>aa
 |_,_,_,.any _,aa=>aa
 |_,_,_,.share _ _ nW _,aa=>NG nW aa
 |_,_,_,.agg _,aa=>aa
 |_,_,_,.aM _,aa=>aa
 |_,_,_,.ag _,aa=>aa
 |_,_,_,.ref _,aa=>aa
 |_,_,_,.tuple aq,aa=>by
  obtain⟨arr,ad,af,aG⟩:=aa;refine⟨arr,ad,af.trans aq.len.symm,λk e x he ao=>?_⟩;obtain⟨d,aw,hw⟩:=aq.get k e he;obtain⟨J,a2,a3⟩:=aG k d x aw ao;exact⟨hw.kj a2 J,hw.IW a2,a3.trans hw.wd.symm⟩
 |_,_,_,.trans h k,aa=>fP.e2 k (fP.e2 h aa)
theorem fP.tree:∀{d e:I},fP d e->d.tree=true->e.tree=true
 |_,_,.refl _,aq=>aq
 |_,_,.ix _,_=>rfl
 |_,_,.qH,_=>rfl
 |_,_,.any _,_=>rfl
 |_,_,.share d _ _ nQ,aq=>by cases d<;>first|exact aq|rfl|exact(nQ _ rfl).elim
 |_,_,.agg _,_=>rfl
 |_,_,.aM _,_=>rfl
 |_,_,.ag _,_=>rfl
 |_,_,.tuple _,_=>rfl
 |_,_,.ref _,_=>rfl
 |_,_,.trans h k,aq=>fP.tree k (fP.tree h aq)
mutual
def I.zs:I->azt
 | .h x q=>if q.isEmpty then []else [x]
 | .ay x _=>[x]
 | .ab x _=>[x]
 | .fn _ cap=>I.E_ cap
 |_=>[]
def I.E_:azy->azt
 |[]=>[]
 |d::ds=>d.zs++I.E_ ds
end
def Fa (s aH:al) (x:Nat) (D:azt):Prop:=aH x=s x\/aH x= .hole\/((s x).own=true/\(aH x).own=true/\x∉D)
theorem Fa.less {s aH:al} {x:Nat} {D E:azt} (h:Fa s aH x D) (Fb:∀u∈E,u∈D):Fa s aH x E:=by
 rcases h with h|h|⟨ad,af,aG⟩
 .exact .inl h
 .exact .inr (.inl h)
 .exact .inr (.inr ⟨ad,af,λao=>aG (Fb x ao)⟩)
theorem aQ.keep {cq:Nat->Prop} (bM:∀b,F b->cq b):∀n,(∀(d:I) (v:Value) (e1:Nat->Prop),SizeOf.sizeOf d<=n->(∀x∈d.aa,Fa s aH x d.zs)->aQ w F s aI d v e1->aQ w cq aH aI d v e1)/\
  (∀(ds:azy) (vs:azw),SizeOf.sizeOf ds<=n->(∀x∈I.e7 ds,Fa s aH x (I.E_ ds))->fe w F s aI ds vs->fe w cq aH aI ds vs):=by
 intro n;induction n with
 |zero=>
  refine⟨λd v e1 cd=>?_,λds vs cd=>?_⟩
  .cases d<;>simp at cd<;>omega
  .cases ds<;>simp at cd<;>omega
 |succ n ih=>
  refine⟨λd v e1 cd aw h=>?_,λds vs cd aw h=>?_⟩
  .cases d with
   |hole=>rw[aQ];trivial
   |h x q=>
    rw[aQ]at h⊢;intro e gf ay;rcases aw x (by simp[I.aa])with he|he|⟨Fe,VO,BL⟩
    .rw[he]at gf⊢;exact h e gf ay
    .rw[he]at gf;cases q with
     |nil=>simp only[I.sub,Option.some.injEq]at gf;subst gf;simp[I.plain]at ay
     |cons k q=>simp[I.sub]at gf
    .cases q with
     |nil=>
      simp only[I.sub,Option.some.injEq]at gf;subst gf;obtain⟨dH,a0,hc,i7,ki⟩:=h (s x) (by simp only[I.sub]) (zr Fe).1;simp only[eF,Option.some.injEq,Prod.mk.injEq,true_and]at hc;exact⟨dd (aI x),none,by simp only[eF],by rw[i7,<-hc.1],((zr VO).2.2.2.2.2 _).2 (((zr Fe).2.2.2.2.2 _).1 ki)⟩
     |cons k q=>exact(BL (by simp[I.zs])).elim
   |ay x q=>
    rw[aQ]at h⊢;intro e gf au;rcases aw x (by simp[I.aa])with he|he|⟨_,_,BL⟩
    .rw[he]at gf au⊢;exact h e gf au
    .rw[he]at au;cases q<;>simp[I.gK]at au
    .exact(BL (by simp[I.zs])).elim
   |ab x k=>
    rw[aQ]at h⊢;intro ay;rcases aw x (by simp[I.aa])with he|he|⟨_,_,BL⟩
    rotate_left 2
    .exact(BL (by simp[I.zs])).elim
    .rw[he]at ay;obtain⟨b,cur,e,fr,ad,af,aG,bh⟩:=h ay;exact⟨b,cur,e,fr,ad,bM b af,aG,bh⟩
    .rw[he]at ay;simp[I.plain]at ay
   |fn f cap=>
    rw[aQ]at h⊢;obtain⟨arr,rfl,au⟩:=h;exact⟨arr,rfl,ih.2 _ _ (by simp at cd;omega) (by simpa [I.aa,I.zs]using aw) au⟩
   |_=>
    have bI:=(aQ.du rfl).1 h;exact(aQ.du rfl).2 ⟨bI.1,aB.mono bM _ _ _ _ (λ_ h=>h) bI.2⟩
  .cases ds with
   |nil=>rw[fe]at h⊢;exact h
   |cons d ds=>
    rw[fe]at h⊢;obtain⟨v,mc,rfl,ad,af⟩:=h;simp at cd;simp only[I.e7,List.mem_append]at aw;exact⟨v,mc,rfl,ih.1 _ _ _ (by omega) (λx ao=>(aw x (.inl ao)).less λu hu=>by simp[I.E_,hu]) ad,ih.2 _ _ (by omega) (λx ao=>(aw x (.inr ao)).less λu hu=>by simp[I.E_,hu]) af⟩
def xU (s:al) (l:azx):Prop:=
 ∀p∈l,p.2=s p.1\/((s p.1).tree=true/\fP (s p.1) p.2/\∀dp∈l,p.1∉dp.2.aa\/((s p.1).own=true/\p.2.own=true/\p.1∉dp.2.zs))
theorem VP:∀(l:azx) (t:Nat),ar l t= .hole\/∃p∈l,p.1=t/\ar l t=p.2:=by
 intro l;induction l with
 |nil=>intro t;exact .inl rfl
 |cons p l ih=>
  intro t;obtain⟨u,d⟩:=p;simp only[ar];split
  .rename_i e;exact .inr ⟨(u,d),by simp,e.symm,rfl⟩
  .rcases ih t with h|⟨p,ay,h⟩
   .exact .inl h
   .exact .inr ⟨p,by simp[ay],h⟩
theorem ch.NX (h:ch w0 F0 X F S s aI w) {l:azx} (hw:xU s l):∃cq a7,ch w0 F0 X cq a7 (ar l) aI w:=by
 have each:∀t,∃j1 j2:Nat->Prop,(∀b,j1 b->S t b)/\(∀b,j2 b->S t b)/\(∀b,j2 b->¬j1 b)/\∀cq,(∀b,F b\/j1 b->cq b)->aQ w cq (ar l) aI (ar l t) (aI t) j2:=by
  intro t;rcases VP l t with e|⟨p,ay,rfl,e⟩
  .exact⟨λ_=>False,λ_=>False,λ_ h=>h.elim,λ_ h=>h.elim,λ_ h=>h.elim,λcq _=>by rw[e,aQ];trivial⟩
  .rw[e];rcases hw p ay with aw|⟨a8,nw,_⟩
   .refine⟨λ_=>False,S p.1,λ_ h=>h.elim,λ_ h=>h,λ_ _ h=>h,λcq bM=>?_⟩;rw[aw];refine(aQ.keep (λb ab=>bM b (.inl ab)) (SizeOf.sizeOf (s p.1))).1 _ _ _ (Nat.le_refl _) ?_ (h.eB p.1);intro x ao;rcases VP l x with hE|⟨dp,fw,rfl,hE⟩
    .exact .inr (.inl hE)
    .rcases hw dp fw with nT|⟨_,_,nQ⟩
     .exact .inl (hE.trans nT)
     .rcases nQ p ay with nQ|⟨qE,nX,sS⟩
      .exact(nQ (by rw[aw];exact ao)).elim
      .exact .inr (.inr ⟨qE,by rw[hE];exact nX,by rw[aw]at sS;exact sS⟩)
   .obtain⟨g1,g2⟩:=(aQ.du a8).1 (h.eB p.1);obtain⟨j1,j2,bZ,cu,dY,eb⟩:=aB.wider nw g2;exact⟨j1,j2,bZ,cu,dY,λcq bM=>(aQ.du (nw.tree a8)).2 ⟨nw.e2 g1,eb cq bM⟩⟩
 have ct:=λt=>(each t).choose_spec;let j1:=λt=>(each t).choose
 have c2:=λt=>(ct t).choose_spec;let j2:=λt=>(ct t).choose
 have ia:∀t b,j1 t b->S t b:=λt=>(c2 t).1;have gX:∀t b,j2 t b->S t b:=λt=>(c2 t).2.1;have jm:∀t b,j2 t b->¬j1 t b:=λt=>(c2 t).2.2.1;have jR:=λt=>(c2 t).2.2.2;refine⟨λb=>F b\/∃t,j1 t b,j2,λb ab=>.inl (h.iq b ab),?_,?_,λt b ab=>h.fG t b (gX t b ab),?_,λt u b eo ab hu=>h.gj t u b eo (gX t b ab) (gX u b hu),λt b ab=>h.e1 t b (gX t b ab),?_,h.old,h.size,h.os,h.tape,h.output,h.gz⟩
 .rintro b (ab|⟨t,ab⟩)
  .exact h.iS b ab
  .exact .inr (h.e1 t b (ia t b ab))
 .rintro b (ab|⟨t,ab⟩)
  .exact h.gi b ab
  .exact h.fG t b (ia t b ab)
 .rintro t b ab (bK|⟨u,hu⟩)
  .exact h.gL t b (gX t b ab) bK
  .by_cases e:t=u
   .subst e;exact jm t b ab hu
   .exact h.gj t u b e (gX t b ab) (ia u b hu)
 .intro t;exact jR t _ (λb ab=>ab.imp id λh=>⟨t,h⟩)
end
inductive aA where
 |skip
 |eD (ros:List cC) (keep:Option azt)
 |j3 (ros:List cC) (sY:azr) (keep:Option azt)
 |seq (a b:aA)
 |cond (c:bC) (a b:aA)
 |block (id:Nat) (b:aA)
 |loop (b:aA)
 |exit (id:Nat)
 |ret
 |kX (T:(Exit->al->Prop)->al->Prop) (b:aA)
 |raw (c:Code)
def gg (n:Fr):Code->Option aA
 | .skip=>some .skip
 | .region id ops false=>match ux n ops ops.toList with
   |some r=>some (.eD r none)
   |none=>some (.raw (.region id ops false))
 | .region _ ops true=>if E7 (rv ops)=true then(ux n ops ops.toList).map λr=>.j3 r (rv ops) none else none
 | .seq a b=>match gg n a,gg n b with
   |some a,some b=>some (.seq a b)
   |_,_=>none
 | .cond c a b=>match eR c,gg n a,gg n b with
   |some c,some a,some b=>some (.cond c a b)
   |_,_,_=>none
 | .block id b=>(gg n b).map (.block id)
 | .loop b=>(gg n b).map .loop
 | .exit id=>some (.exit id)
 | .ret=>some .ret
 |_=>none
def aA.nE:aA->aA
 | .eD ros _=>.eD ros none
 | .j3 ros df _=>.j3 ros df none
 | .seq a b=>.seq a.nE b.nE
 | .cond c a b=>.cond c a.nE b.nE
 | .block id b=>.block id b.nE
 | .loop b=>.loop b.nE
 | .kX T b=>.kX T b.nE
 |c=>c
def aA.strip:aA->aA
 | .eD ros _=>.eD (ros.map cC.un) none
 | .j3 ros df _=>.j3 (ros.map cC.un) df none
 | .seq a b=>.seq a.strip b.strip
 | .cond c a b=>.cond c a.strip b.strip
 | .block id b=>.block id b.strip
 | .loop b=>.loop b.strip
 | .kX _ b=>b.strip
 |c=>c
theorem aA.NY:∀c:aA,c.nE.strip=c.strip:=by
 intro c;induction c with
 |seq a b mG mH=>simp only[aA.nE,aA.strip,mG,mH]
 |cond c a b mG mH=>simp only[aA.nE,aA.strip,mG,mH]
 |block id b ih=>simp only[aA.nE,aA.strip,ih]
 |loop b ih=>simp only[aA.nE,aA.strip,ih]
 |kX T b ih=>simp only[aA.nE,aA.strip,ih]
 |_=>rfl
def aA.bare (H:((Exit->al->Prop)->al->Prop)->aA->Prop):aA->Prop
 | .eD _ k=>k=none
 | .j3 _ _ k=>k=none
 | .seq a b=>a.bare H/\b.bare H
 | .cond _ a b=>a.bare H/\b.bare H
 | .block _ b=>b.bare H
 | .loop b=>b.bare H
 | .kX T b=>H T b
 |_=>True
def aA.p4 (H:((Exit->al->Prop)->al->Prop)->aA->Prop):aA->Prop
 | .seq a b=>a.p4 H/\b.p4 H
 | .cond _ a b=>a.p4 H/\b.p4 H
 | .block _ b=>b.p4 H
 | .loop b=>b.p4 H
 | .kX T b=>H T b.nE
 |_=>True
theorem aA.IX {H:((Exit->al->Prop)->al->Prop)->aA->Prop}:∀c:aA,c.p4 H->c.nE.bare H:=by
 intro c;induction c with
 |seq a b mG mH=>intro h;exact⟨mG h.1,mH h.2⟩
 |cond c a b mG mH=>intro h;exact⟨mG h.1,mH h.2⟩
 |block id b ih=>intro h;exact ih h
 |loop b ih=>intro h;exact ih h
 |eD=>intro _;rfl
 |j3=>intro _;rfl
 |kX T b _=>intro h;exact h
 |_=>intro _;trivial
def aA.plain:aA->Bool
 | .seq a b=>a.plain&&b.plain
 | .cond _ a b=>a.plain&&b.plain
 | .block _ b=>b.plain
 | .loop b=>b.plain
 | .kX _ _=>false
 |_=>true
theorem aA.VQ {H:((Exit->al->Prop)->al->Prop)->aA->Prop}:∀c:aA,c.plain=true->c.p4 H:=by
 intro c;induction c with
 |seq a b mG mH=>intro h;simp only[aA.plain,Bool.and_eq_true]at h;exact⟨mG h.1,mH h.2⟩
 |cond c a b mG mH=>intro h;simp only[aA.plain,Bool.and_eq_true]at h;exact⟨mG h.1,mH h.2⟩
 |block id b ih=>intro h;exact ih h
 |loop b ih=>intro h;exact ih h
 |kX T b _=>intro h;cases h
 |_=>intro _;trivial
def andThen (K:al->Prop) (Q:Exit->al->Prop):Exit->al->Prop
 | .normal,s=>K s
 |e,s=>Q e s
def BM (id:Nat) (Q:Exit->al->Prop):Exit->al->Prop
 | .exit i,s=>if i=id then Q .normal s else Q (.exit i) s
 |e,s=>Q e s
def eV (K:al->Prop) (s:al):Prop:=K s\/∃l,xU s l/\K (ar l)
def Ff:Option azt->(al->Prop)->al->Prop
 |none,K,s=>eV K s
 |some k,K,s=>K (ar (k.map λt=>(t,s t)))
def bm (C:cx):aA->(Exit->al->Prop)->al->Prop
 | .skip,Q,s=>Q .normal s
 | .eD ros keep,Q,s=>oq C s ros (Ff keep (Q .normal))
 | .j3 ros sY keep,Q,s=>∀l,sX sY l->kW C ros s l (Ff keep (Q .normal))
 | .seq a b,Q,s=>bm C a (andThen (eV (bm C b Q)) Q) s
 | .cond c a b,Q,s=>match bA s c with
   | .bool gW=>if gW=true then bm C a Q s else bm C b Q s
   | .gx=>bm C a Q s/\bm C b Q s
   |_=>False
 | .block id b,Q,s=>bm C b (BM id Q) s
 | .loop b,Q,s=>eV (λs=>∀Z:al->Prop,(∀aH,bm C b (andThen (eV Z) Q) aH->Z aH)->Z s) s
 | .exit id,Q,s=>Q (.exit id) s
 | .ret,Q,s=>Q .ret s
 | .kX T _,Q,s=>∀fs:Exit->al->Prop,(∀e s,Q e s->fs e s)->T fs s
 | .raw _,_,_=>False
section
variable {C:cx}
theorem IY {s:al} {o:cC} {K eK:al->Prop} (h:oW C s o K) (aw:∀s,K s->eK s):oW C s o eK:=by
 unfold oW at h⊢;split
 .rename_i hg;rw[hg]at h;exact IP h λav s1=>aw _
 .rename_i t b hg;rw[hg]at h;simp only at h;split
  .rename_i gW aa;rw[aa]at h;simp only at h;split
   .rename_i ab;rw[if_pos ab]at h;exact IP h λav s1=>aw _
   .rename_i ab;rw[if_neg ab]at h;exact aw _ h
  .rename_i aa;rw[aa]at h;exact aw _ h
  .rename_i ad af;split at h
   .exact ad _ (by assumption)
   .exact af (by assumption)
   .exact h
theorem VR {K eK:al->Prop} (aw:∀s,K s->eK s):∀{ros:List cC} {s:al},oq C s ros K->oq C s ros eK:=by
 intro ros;induction ros with
 |nil=>intro s h;exact aw s h
 |cons o ros ih=>intro s h;exact IY h λs h=>ih h
theorem VS {ros:List cC} {K eK:al->Prop} (aw:∀s,K s->eK s):∀{l:azt} {s:al},kW C ros s l K->kW C ros s l eK:=by
 intro l;induction l with
 |nil=>intro s h;exact aw s h
 |cons i l ih=>
  intro s h;simp only[kW]at h⊢;split
  .rename_i bS;rw[bS]at h;exact ih h
  .rename_i o bS;rw[bS]at h;exact IY h λs h=>ih h
theorem BN {K eK:al->Prop} (aw:∀s,K s->eK s) (s:al) (h:eV K s):eV eK s:=
 h.imp (aw s) λ⟨l,ad,af⟩=>⟨l,ad,aw _ af⟩
theorem VT {keep:Option azt} {K eK:al->Prop} (aw:∀s,K s->eK s) (s:al) (h:Ff keep K s):Ff keep eK s:=by
 cases keep with
 |none=>exact BN aw s h
 |some k=>exact aw _ h
theorem VU {keep:Option azt} {K:al->Prop} {s:al} (h:Ff keep K s):eV K s:=by
 cases keep with
 |none=>exact h
 |some k=>
  refine .inr ⟨_,?_,h⟩;intro p ay;obtain⟨t,_,rfl⟩:=List.mem_map.1 ay;exact .inl rfl
theorem NZ {K eK:al->Prop} {Q fs:Exit->al->Prop} (aw:∀s,K s->eK s) (c6:∀e s,Q e s->fs e s):∀e s,andThen K Q e s->andThen eK fs e s:=by
 intro e s h;cases e with
 |normal=>exact aw s h
 |_=>exact c6 _ s h
theorem N0:∀(c:aA) {Q fs:Exit->al->Prop} {s:al},(∀e s,Q e s->fs e s)->bm C c Q s->bm C c fs s:=by
 intro c;induction c with
 |skip=>intro Q fs s c6 h;exact c6 _ _ h
 |eD ros keep=>intro Q fs s c6 h;exact VR (VT (c6 _)) h
 |j3 ros sY keep=>intro Q fs s c6 h l hl;exact VS (VT (c6 _)) (h l hl)
 |seq a b mG mH=>
  intro Q fs s c6 h;exact mG (NZ (λs h=>BN (λ_ h=>mH c6 h) s h) c6) h
 |cond c a b mG mH=>
  intro Q fs s c6 h;simp only[bm]at h⊢;split
  .rename_i gW ab;rw[ab]at h;simp only at h;split
   .rename_i e;rw[if_pos e]at h;exact mG c6 h
   .rename_i e;rw[if_neg e]at h;exact mH c6 h
  .rename_i ab;rw[ab]at h;exact⟨mG c6 h.1,mH c6 h.2⟩
  .rename_i ad af;split at h
   .exact ad _ (by assumption)
   .exact af (by assumption)
   .exact h
 |block id b ih=>
  intro Q fs s c6 h;refine ih ?_ h;intro e s h;cases e with
  |exit i=>
   simp only[BM]at h⊢;split
   .rename_i e;rw[if_pos e]at h;exact c6 _ _ h
   .rename_i e;rw[if_neg e]at h;exact c6 _ _ h
  |_=>exact c6 _ _ h
 |loop b ih=>
  intro Q fs s c6 h;refine BN (λs h Z BO=>?_) s h;exact h Z λaH gh=>BO aH (ih (NZ (λ_ h=>h) c6) gh)
 |exit id=>intro Q fs s c6 h;exact c6 _ _ h
 |ret=>intro Q fs s c6 h;exact c6 _ _ h
 |kX T b _=>intro Q fs s c6 h N1 af;exact h N1 λe s he=>af e s (c6 e s he)
 |raw c=>intro Q fs s c6 h;exact h
theorem IZ:∀(c:aA) {Q:Exit->al->Prop} {s:al},bm C c Q s->bm C c.nE Q s:=by
 intro c;induction c with
 |eD ros keep=>intro Q s h;exact VR (λs h=>VU h) h
 |j3 ros df keep=>intro Q s h l hl;exact VS (λs h=>VU h) (h l hl)
 |seq a b mG mH=>intro Q s h;exact mG (N0 a (NZ (λs h=>BN (λ_ h=>mH h) s h) (λ_ _ h=>h)) h)
 |cond c a b mG mH=>
  intro Q s h;simp only[aA.nE,bm]at h⊢;split
  .rename_i gW ab;rw[ab]at h;simp only at h;split
   .rename_i e;rw[if_pos e]at h;exact mG h
   .rename_i e;rw[if_neg e]at h;exact mH h
  .rename_i ab;rw[ab]at h;exact⟨mG h.1,mH h.2⟩
  .rename_i ad af;split at h
   .exact ad _ (by assumption)
   .exact af (by assumption)
   .exact h
 |block id b ih=>intro Q s h;exact ih h
 |loop b ih=>
  intro Q s h;refine BN (λs h Z BO=>?_) s h;exact h Z λaH gh=>BO aH (ih gh)
 |kX T b _=>intro Q s h;exact h
 |_=>intro Q s h;exact h
variable {w0 w:World} {F0 X:Nat->Prop} {n:Fr} {ρ:Nat->Value} {s:al} {a:Act}
def zt (w0:World) (F0 X:Nat->Prop) (n:Fr) (ρ:Nat->Value) (Q:Exit->al->Prop):Exit->Act->World->Prop:=λe a w=>∃s,Q e s/\Rel w0 F0 X n ρ s a w
theorem Rel.eV {K:al->Prop} {s:al} {a:Act} {w:World} (aR:Rel w0 F0 X n ρ s a w) (h:eV K s):∃aH,K aH/\Rel w0 F0 X n ρ aH a w:=by
 rcases h with h|⟨l,ad,af⟩
 .exact⟨s,h,aR⟩
 .obtain⟨g1,g2,g3,F,S,g4⟩:=aR;obtain⟨cq,a7,g5⟩:=g4.NX ad;exact⟨ar l,af,g1,g2,g3,cq,a7,g5⟩
theorem aA.afp {c:aA} (h:c.strip= .skip):c= .skip\/∃T b,c= .kX T b:=by cases c<;>first|exact .inl rfl|exact .inr ⟨_,_,rfl⟩|cases h
theorem aA.afq {c:aA} (h:c.strip= .ret):c= .ret\/∃T b,c= .kX T b:=by cases c<;>first|exact .inl rfl|exact .inr ⟨_,_,rfl⟩|cases h
theorem aA.afr {c:aA} {i:Nat} (h:c.strip= .exit i):c= .exit i\/∃T b,c= .kX T b:=by cases c<;>first|exact .inl h|exact .inr ⟨_,_,rfl⟩|cases h
theorem aA.afs {c:aA} {x:Code} (h:c.strip= .raw x):c= .raw x\/∃T b,c= .kX T b:=by cases c<;>first|exact .inl h|exact .inr ⟨_,_,rfl⟩|cases h
theorem aA.aft {c:aA} {r:List cC} {k:Option azt} (h:c.strip= .eD r k):(∃ros dv,c= .eD ros dv/\ros.map cC.un=r)\/∃T b,c= .kX T b:=by
 cases c<;>first|(cases h;exact .inl ⟨_,_,rfl,rfl⟩)|exact .inr ⟨_,_,rfl⟩|cases h
theorem aA.afu {c:aA} {r:List cC} {df:azr} {k:Option azt} (h:c.strip= .j3 r df k):(∃ros VV dv,c= .j3 ros VV dv/\ros.map cC.un=r/\VV=df)\/∃T b,c= .kX T b:=by
 cases c<;>first|(cases h;exact .inl ⟨_,_,_,rfl,rfl,rfl⟩)|exact .inr ⟨_,_,rfl⟩|cases h
theorem aA.afv {c x y:aA} (h:c.strip= .seq x y):(∃a b,c= .seq a b/\a.strip=x/\b.strip=y)\/∃T b,c= .kX T b:=by
 cases c<;>first|(cases h;exact .inl ⟨_,_,rfl,rfl,rfl⟩)|exact .inr ⟨_,_,rfl⟩|cases h
theorem aA.afw {c x y:aA} {o:bC} (h:c.strip= .cond o x y):(∃qD a b,c= .cond qD a b/\qD=o/\a.strip=x/\b.strip=y)\/∃T b,c= .kX T b:=by
 cases c<;>first|(cases h;exact .inl ⟨_,_,_,rfl,rfl,rfl,rfl⟩)|exact .inr ⟨_,_,rfl⟩|cases h
theorem aA.afx {c x:aA} {i:Nat} (h:c.strip= .block i x):(∃a,c= .block i a/\a.strip=x)\/∃T b,c= .kX T b:=by
 cases c<;>first|(cases h;exact .inl ⟨_,rfl,rfl⟩)|exact .inr ⟨_,_,rfl⟩|cases h
theorem aA.afy {c x:aA} (h:c.strip= .loop x):(∃a,c= .loop a/\a.strip=x)\/∃T b,c= .kX T b:=by
 cases c<;>first|(cases h;exact .inl ⟨_,rfl,rfl⟩)|exact .inr ⟨_,_,rfl⟩|cases h
theorem N2 (bW:C.fN) {H:((Exit->al->Prop)->al->Prop)->aA->Prop}
  (nY:∀(c:Code) (T:(Exit->al->Prop)->al->Prop) (b:aA) (Q:Exit->al->Prop) (s:al) (a:Act) (w:World),H T b->gg n c=some b.strip->T Q s->Rel w0 F0 X n ρ s a w->c.wp C.P (zt w0 F0 X n ρ Q) a w):
  ∀(c:Code) {er:aA} {Q:Exit->al->Prop} {s:al} {a:Act} {w:World},gg n c=some er.strip->er.bare H->bm C er Q s->Rel w0 F0 X n ρ s a w->c.wp C.P (zt w0 F0 X n ρ Q) a w:=by
 intro c;induction c with
 |skip=>
  intro er Q s a w aa ib h aR;have nF:=aa;simp only[gg,Option.some.injEq]at aa;rcases aA.afp aa.symm with rfl|⟨T,b,rfl⟩
  .exact wp_skip ⟨s,h,aR⟩
  .exact nY _ T b Q s a w ib (by simpa only[aA.strip]using nF) (h Q λ_ _ h=>h) aR
 |region id ops draw=>
  intro er Q s a w aa ib h aR;have nF:=aa;cases draw with
  |false=>
   simp only[gg]at aa;split at aa
   rotate_left
   .have gh:=(Option.some.injEq _ _▸aa).symm;rcases aA.afs gh with rfl|⟨T,b,rfl⟩
    .exact h.elim
    .exact nY _ T b Q s a w ib (by simpa only[aA.strip]using nF) (h Q λ_ _ h=>h) aR
   rename_i afz Fg;simp only[Option.some.injEq]at aa;rcases aA.aft aa.symm with⟨ros,k,rfl,rfl⟩|⟨T,b,rfl⟩
   rotate_left
   .exact nY _ T b Q s a w ib (by simpa only[aA.strip]using nF) (h Q λ_ _ h=>h) aR
   cases ib;exact aff bW Fg (λaH dF aO aw fF=>fF.eV aw) h aR
  |true=>
   simp only[gg]at aa;split at aa
   .rename_i ab;simp only[Option.map_eq_some_iff]at aa;obtain⟨afz,Fg,aa⟩:=aa;rcases aA.afu aa.symm with⟨ros,df,k,rfl,rfl,rfl⟩|⟨T,b,rfl⟩
    rotate_left
    .exact nY _ T b Q s a w ib (by simpa only[aA.strip]using nF) (h Q λ_ _ h=>h) aR
    cases ib;refine wp_region_draw λt=>?_;rw[show Region.schedule (C.P.follows .mixedOrders) ops t=Region.linearise .any ops t by simp[Region.schedule,bW.mixed]];exact VI bW Fg (λaH dF aO aw fF=>fF.eV aw) _ s a _ (h _ (afm ab t)) (aR.drawn _ (by first|exact le_succ _|exact le_add_right _ _|omega))
   .cases aa
 |seq x y afA I0=>
  intro er Q s a w aa ib h aR;have nF:=aa;simp only[gg]at aa;split at aa
  .rename_i BC VW ao hy;simp only[Option.some.injEq]at aa;rcases aA.afv aa.symm with⟨da,oT,rfl,rfl,rfl⟩|⟨T,b,rfl⟩
   rotate_left
   .exact nY _ T b Q s a w ib (by simpa only[aA.strip]using nF) (h Q λ_ _ h=>h) aR
   refine wp_seq (wp_mono (afA ao ib.1 h aR) ?_);rintro e dF aO ⟨aH,bI,fF⟩;cases e with
   |normal=>
    obtain⟨aH,bI,fF⟩:=fF.eV bI;exact I0 hy ib.2 bI fF
   |_=>exact⟨aH,bI,fF⟩
  .cases aa
 |cond x y z I0 VX=>
  intro er Q s a w aa ib h aR;have nF:=aa;simp only[gg]at aa;split at aa
  .rename_i BC VW sz ao hy cd;simp only[Option.some.injEq]at aa;rcases aA.afw aa.symm with⟨da,oT,vH,rfl,rfl,rfl,rfl⟩|⟨T,b,rfl⟩
   rotate_left
   .exact nY _ T b Q s a w ib (by simpa only[aA.strip]using nF) (h Q λ_ _ h=>h) aR
   have fF:=aR;obtain⟨aq,fo,bK,F,S,sW⟩:=fF;have aJ:=(gI (a:=a) sW (λ_=>rfl) ao).2;simp only[bm]at h;split at h
   .rename_i gW ab;rw[ab]at aJ;have:=xD aJ;refine wp_cond this ?_;split
    .rename_i e;rw[if_pos e]at h;exact I0 hy ib.1 h aR
    .rename_i e;rw[if_neg e]at h;exact VX cd ib.2 h aR
   .rename_i ab;rw[ab]at aJ;obtain⟨gW,pg⟩:=Uu aJ;refine wp_cond pg ?_;split
    .exact I0 hy ib.1 h.1 aR
    .exact VX cd ib.2 h.2 aR
   .exact h.elim
  .cases aa
 |block id b ih=>
  intro er Q s a w aa ib h aR;have nF:=aa;simp only[gg,Option.map_eq_some_iff]at aa;obtain⟨EM,ab,aa⟩:=aa;rcases aA.afx aa.symm with⟨gW,rfl,rfl⟩|⟨T,b,rfl⟩
  rotate_left
  .exact nY _ T b Q s a w ib (by simpa only[aA.strip]using nF) (h Q λ_ _ h=>h) aR
  refine wp_block (wp_mono (ih ab ib h aR) ?_);rintro e dF aO ⟨aH,bI,fF⟩;cases e with
  |exit i=>
   simp only[BM]at bI;simp only[Exit.inBlock];split
   .rename_i e;rw[if_pos e]at bI;exact⟨aH,bI,fF⟩
   .rename_i e;rw[if_neg e]at bI;exact⟨aH,bI,fF⟩
  |_=>exact⟨aH,bI,fF⟩
 |loop b ih=>
  intro er Q s a w aa ib h aR;have nF:=aa;simp only[gg,Option.map_eq_some_iff]at aa;obtain⟨EM,ab,aa⟩:=aa;rcases aA.afy aa.symm with⟨gW,rfl,rfl⟩|⟨T,b,rfl⟩
  rotate_left
  .exact nY _ T b Q s a w ib (by simpa only[aA.strip]using nF) (h Q λ_ _ h=>h) aR
  obtain⟨s,h,aR⟩:=aR.eV h;have key:=h (λs=>∀a w,Rel w0 F0 X n ρ s a w->∀(f:Frame) (k:List Item) (cs:List Frame),∃e dF aO,zt w0 F0 X n ρ Q e dF aO/\Arrives C.P (lone (f.at a (.code b:: .inLoop b::k)) cs w) f k cs e dF aO) ?_
  .intro f k cs;obtain⟨e,dF,aO,c6,xV⟩:=key a w aR f k cs;exact⟨e,dF,aO,c6,.of_steps (.one step_loop) xV⟩
  .intro aH gh a w aR f k cs;obtain⟨e,a₁,w₁,⟨s1,c6,xW⟩,xV⟩:=ih ab ib gh aR f (.inLoop b::k) cs;cases e with
   |normal=>
    simp only[andThen]at c6;obtain⟨s1,c6,xW⟩:=xW.eV c6;obtain⟨e₂,a₂,w₂,hq₂,harr₂⟩:=c6 a₁ w₁ xW f k cs;exact⟨e₂,a₂,w₂,hq₂,.of_steps (Steps.trans xV (.one step_inLoop)) harr₂⟩
   |exit id=>exact⟨_,a₁,w₁,⟨s1,c6,xW⟩,.pass (x:=.inLoop b) rfl (λ_ _=>.inl (by simp)) xV⟩
   |goto l=>exact⟨_,a₁,w₁,⟨s1,c6,xW⟩,.pass (x:=.inLoop b) rfl (λ_ _=>.inl (by simp)) xV⟩
   |ret=>exact⟨_,a₁,w₁,⟨s1,c6,xW⟩,.pass (x:=.inLoop b) rfl (λ_ _=>.inl (by simp)) xV⟩
   |panic axz=>exact⟨_,a₁,w₁,⟨s1,c6,xW⟩,.pass (x:=.inLoop b) rfl (λ_ _=>.inl (by simp)) xV⟩
   |outgrown=>exact⟨_,a₁,w₁,⟨s1,c6,xW⟩,.pass (x:=.inLoop b) rfl (λ_ _=>.inl (by simp)) xV⟩
 |exit id=>
  intro er Q s a w aa ib h aR;have nF:=aa;simp only[gg,Option.some.injEq]at aa;rcases aA.afr aa.symm with rfl|⟨T,b,rfl⟩
  .exact wp_exit ⟨s,h,aR⟩
  .exact nY _ T b Q s a w ib (by simpa only[aA.strip]using nF) (h Q λ_ _ h=>h) aR
 |ret=>
  intro er Q s a w aa ib h aR;have nF:=aa;simp only[gg,Option.some.injEq]at aa;rcases aA.afq aa.symm with rfl|⟨T,b,rfl⟩
  .exact wp_ret ⟨s,h,aR⟩
  .exact nY _ T b Q s a w ib (by simpa only[aA.strip]using nF) (h Q λ_ _ h=>h) aR
 |_=>intro er Q s a w aa;simp[gg]at aa
theorem VY (bW:C.fN) (c:Code) {er:aA} {Q:Exit->al->Prop} {s:al} {a:Act} {w:World} (aa:gg n c=some er.strip) (ab:er.bare (λ_ _=>False)) (h:bm C er Q s) (aR:Rel w0 F0 X n ρ s a w):c.wp C.P (zt w0 F0 X n ρ Q) a w:=
 N2 bW (λ_ _ _ _ _ _ _ bK=>bK.elim) c aa ab h aR
end
def k_:ResultVar->Nat
 | .tmp t=>t
 | .cell a _=>a
def ry (C:cx) (s:al):ResultVar->Option I
 | .tmp t=>if(s t).tree=true then(match s t with| .tuple _=>none|d=>some d)else none
 | .cell a T=>match s a with
   | .aM d=>if fits C T d=true/\d.tree=true then some d else none
   |_=>none
def N3 (C:cx) (fx:azt) (fy:List ResultVar) (r:I) (outs:azy) (s:al):Prop:=
 ∃ds,fy.map (ry C s)=ds.map some/\r=(match ds with|[d]=>d|ds=>.tuple ds)/\(fy.map k_).Nodup/\
  ∀(i:Nat) (o:I),outs[i]? =some o->o= .hole\/(o=s i/\o.hX=true/\i∈fx/\i∉fy.map k_)
def Ends (C:cx) (fx:azt) (fy:List ResultVar) (r:I) (outs:azy) (s:al):Prop:=
 N3 C fx fy r outs s\/∃t y q d s1,s t= .h y q/\dL s (.h y q)=some (d,s1)/\N3 C fx fy r outs (fin s1 (some t) d)
theorem ch.takes {w0 w:World} {F0 X F:Nat->Prop} {S:Nat->Nat->Prop} {s s1:al} {aI:Nat->Value} {t y:Nat} {q:azt} {d:I} (aR:ch w0 F0 X F S s aI w) (ad:s t= .h y q) (af:dL s (.h y q)=some (d,s1)):
  ∃a7,ch w0 F0 X F a7 (ep.fin s1 (some t) d) aI w:=by
 have aa:=aR.eB t;rw[ad,aQ]at aa;obtain⟨cT,k0,bZ,cu,Sn,dY,eb,eJ,dx,kT,_⟩:=sF aR (av:=.h y q) (v:=aI t) rfl (by rw[aQ];exact aa) af;obtain⟨a7,bI⟩:=k0.fin (.inr ⟨bZ,cu,Sn,dY,eb,eJ,dx,kT⟩) (some t);refine⟨a7,?_⟩;have e:qw aI (some t) (aI t)=aI:=by
  funext u;simp only[qw,eu];split
  .rename_i h;rw[h]
  .rfl
 rwa [e]at bI
section
variable {C:cx} {w0 w:World} {F0 X F:Nat->Prop} {S:Nat->Nat->Prop} {s:al} {tmps:Array Value}
theorem VZ {d:I} {x:Value} (aq:∀vs,d≠.tuple vs) (h:e2 d x):dd x=jO x/\kj d x:=by
 have:kj d x:=by cases d<;>first|exact h|exact(aq _ rfl).elim
 refine⟨?_,this⟩;cases d<;>first
  |(obtain⟨a,rfl⟩:=this;rfl)
  |(simp only[kj]at this
    rw[ir this];cases x<;>first|rfl|(simp[Value.hV]at this))
def Fh (tmps:Array Value):ResultVar->Sem Value
 | .tmp t=>pure (tmps.getD t undef)
 | .cell a t=>do loadVar t (<-asAddr (tmps.getD a undef))
theorem afB (bW:C.fN) (h:ch w0 F0 X F S s (λt=>tmps.getD t undef) w) {v:ResultVar} {d:I} (aJ:ry C s v=some d):
  ∃x,(Fh tmps v).run C.P w= .ok x w/\d.tree=true/\(∀vs,d≠.tuple vs)/\e2 d x/\aB w F d (dd x) (S (k_ v)):=by
 cases v with
 |tmp t=>
  simp only[ry]at aJ;split at aJ
  .rename_i a8;have nW:(∀vs,s t≠.tuple vs)/\d=s t:=by
    cases aa:s t<;>rw[aa]at aJ<;>simp only at aJ<;>first
     |(cases aJ;done)
     |(simp only[Option.some.injEq]at aJ;exact⟨(λ_ h=>by cases h),aJ.symm⟩)
   obtain⟨nW,rfl⟩:=nW;obtain⟨g1,g2⟩:=(aQ.du a8).1 (h.eB t);exact⟨_,by simp[Fh],a8,nW,g1,g2⟩
  .cases aJ
 |cell a T=>
  simp only[ry]at aJ;split at aJ
  .rename_i e aa;split at aJ
   .rename_i afC;obtain⟨ky,afD⟩:=afC;simp only[Option.some.injEq]at aJ;subst aJ;have lA:=h.eB a;rw[aa]at lA;obtain⟨g1,g2⟩:=(aQ.du (d:=.aM e) rfl).1 lA;rw[ir g1,aB]at g2;obtain⟨b,cur,ty,fr,a7,bZ,cu,dY,eb,eJ,dx,kT⟩:=g2;simp only[List.cons.injEq,and_true]at bZ;have mB:jM w b 0 cur.toList:=by
     have:=Bm dY cur.size
     rwa [List.take_of_length_le (by simp)]at this
    obtain⟨x,en,bd,c_⟩:=Iv (C:=C) bW mB eJ ky;refine⟨x,?_,afD,?_,c_,?_⟩
    .simp only[Fh];rw[bZ];simpa [asAddr]using en
    .intro vs hE;subst hE;unfold fits at ky;split at ky<;>simp_all
    .rw[bd];exact aB.mono (λ_ h=>h) _ _ _ _ dx eJ
   .cases aJ
  .cases aJ
theorem afE (bW:C.fN) (h:ch w0 F0 X F S s (λt=>tmps.getD t undef) w):∀(fy:List ResultVar) (ds:azy),fy.map (ry C s)=ds.map some->(fy.map k_).Nodup->
  ∃xs,(fy.mapM (Fh tmps)).run C.P w= .ok xs w/\xs.length=ds.length/\bz w F ds (xs.flatMap jO) (λb=>∃t∈fy.map k_,S t b)/\
   ∀(k:Nat) (d:I) (x:Value),ds[k]? =some d->xs[k]? =some x->e2 d x/\(∀vs,d≠.tuple vs)/\(jO x).length=d.wd/\dd x=jO x/\d.tree=true:=by
 intro fy;induction fy with
 |nil=>
  intro ds he _;have:ds=[]:=by simpa using he.symm
  subst this;exact⟨[],by simp,rfl,by simp only[List.flatMap_nil];rw[bz],λk d x aq=>by simp at aq⟩
 |cons v fy ih=>
  intro ds he BP;cases ds with
  |nil=>simp at he
  |cons d ds=>
   simp only[List.map_cons,List.cons.injEq]at he;simp only[List.map_cons,List.nodup_cons]at BP;obtain⟨x,en,rt,bd,c_,bR⟩:=afB bW h he.1;obtain⟨xs,ia,gX,jm,jR⟩:=ih ds he.2 BP.2;obtain⟨aP,aW⟩:=VZ bd c_;refine⟨x::xs,by simp[List.mapM_cons,en,ia],by simp[gX],?_,?_⟩
   .simp only[List.flatMap_cons];rw[bz];rw[aP]at bR;refine⟨jO x,xs.flatMap jO,S (k_ v),λb=>∃t∈fy.map k_,S t b,rfl,bR,jm,λb ab=>⟨k_ v,by simp,ab⟩,?_,?_⟩
    .rintro b ⟨t,a8,ab⟩;exact⟨t,by simp[a8],ab⟩
    .rintro b ab ⟨t,a8,pg⟩;have:t≠k_ v:=λe=>BP.1 (e▸a8);exact h.gj t (k_ v) b this pg ab
   .intro k bT da aq ao;cases k with
    |zero=>
     simp at aq ao;subst aq ao;refine⟨c_,bd,?_,aP,rt⟩;rw[<-aP];exact aB.length _ _ _ bR
    |succ k=>exact jR k bT da (by simpa using aq) (by simpa using ao)
theorem N4 (bW:C.fN) {f:FuncId} {fn:Func} {c:Code} {fx:azt} {as outs:azy} {r:I} (bK:C.P.funcs[f]? =some fn) (ab:fn.body=some c)
  (mI:(fn.name== "runtime.NumGoroutine")=false) (aX:as.length<=fn.ntmps)
  {w:World} {F X:Nat->Prop} {S:Nat->Nat->Prop} {vs:azw} (hl:vs.length=as.length) (aR:ch w F X F S (gl as) (iG vs) w)
  (N5:∀a,Rel w F X ⟨fn.ntmps,fx⟩ (iG vs) (gl as) a w->(∀t,a.tmps.getD t undef=iG vs t)->c.wp C.P (zt w F X ⟨fn.ntmps,fx⟩ (iG vs) (λe s=>(e= .normal\/e= .ret)/\eV (Ends C fx fn.results.toList r outs) s)) a w):
  rn C.P f vs.toArray w λv aO=>∃cq a7,ch w F X cq a7 (gl (r::outs)) (iG (v::vs)) aO:=by
 have rl:(vs.toArray++Array.replicate (fn.ntmps-vs.toArray.size) undef).size=fn.ntmps:=by simp;omega
 have fg:(λt=>(vs.toArray++Array.replicate (fn.ntmps-vs.toArray.size) undef).getD t undef)=iG vs:=by
  funext t;simp only[iG,Array.getD_eq_getD_getElem?,List.getD_eq_getElem?_getD];by_cases a8:t<vs.length
  .rw[Array.getElem?_append_left (by simpa using a8)];simp
  .rw[Array.getElem?_append_right (by simpa using a8)];rw[List.getElem?_eq_none (by omega)];simp only[Array.getElem?_replicate];split<;>rfl
 have sW:Rel w F X ⟨fn.ntmps,fx⟩ (iG vs) (gl as) {tmps:=vs.toArray++Array.replicate (fn.ntmps-vs.toArray.size) undef,defers:=[]} w:=
  ⟨rfl,rl,λi _=>congrFun fg i,F,S,by rw[fg];exact aR⟩
 have N6:fn.name≠ "runtime.NumGoroutine" :=by simpa using mI
 refine .inl ⟨by simp[callFunc,bK,N6,ab],calls_of_wp bK ab (wp_mono (N5 _ sW (congrFun fg)) ?_)⟩;rintro e dF aO ⟨aH,⟨he,afF⟩,afG⟩;obtain⟨aH,⟨ds,lV,V0,BP,y5⟩,aq,fo,jC,cq,a7,fF⟩:∃aH,N3 C fx fn.results.toList r outs aH/\Rel w F X ⟨fn.ntmps,fx⟩ (iG vs) aH dF aO:=by
  obtain⟨aH,he,xX⟩:=afG.eV afF;rcases he with he|⟨t,y,q,d,s1,ad,af,he⟩
  .exact⟨aH,he,xX⟩
  .obtain⟨g1,g2,g3,F,S,g4⟩:=xX;obtain⟨a7,g5⟩:=g4.takes ad af;exact⟨_,he,g1,g2,g3,F,a7,g5⟩
 obtain⟨xs,ia,gX,jm,jR⟩:=afE bW fF _ ds lV BP;have afH:(results fn dF.tmps)=(do let vs<-fn.results.mapM (Fh dF.tmps);pure (if h:vs.size=1 then vs[0]else .tuple vs)):=by
  unfold results;congr 1
 have y_:(results fn dF.tmps).run C.P aO= .ok (if h:xs.toArray.size=1 then xs.toArray[0]else .tuple xs.toArray) aO:=by
  rw[afH,Array.mapM_eq_mapM_toList];simp[ia]
 have uy:(r.tree=true/\e2 r (if h:xs.toArray.size=1 then xs.toArray[0]else .tuple xs.toArray)/\
   aB aO cq r (dd (if h:xs.toArray.size=1 then xs.toArray[0]else .tuple xs.toArray)) (λb=>∃t∈fn.results.toList.map k_,a7 t b)):=by
  by_cases ad:∃d,ds=[d]
  .obtain⟨d,rfl⟩:=ad;obtain⟨x,rfl⟩:∃x,xs=[x]:=by
    cases xs with
    |nil=>simp at gX
    |cons x xs=>cases xs with
     |nil=>exact⟨x,rfl⟩
     |cons y c8=>simp at gX
   obtain⟨bZ,cu,dY,eb,eJ⟩:=jR 0 d x rfl rfl;have afI:d=r:=V0.symm;subst afI;simp only[List.flatMap_cons,List.flatMap_nil,List.append_nil]at jm;rw[bz]at jm;obtain⟨ct,c2,cT,eM,aP,aW,aS,cf,cF,cw⟩:=jm;rw[bz]at aS;subst aS;simp only[List.append_nil]at aP;subst aP;have ao:(if h:([x]:azw).toArray.size=1 then([x]:azw).toArray[0]else .tuple ([x]:azw).toArray)=x:=by simp
   rw[ao,eb];exact⟨eJ,bZ,aB.mono (λ_ h=>h) _ _ _ _ cf aW⟩
  .have vT:r= .tuple ds:=by
    rw[V0];cases ds with
    |nil=>rfl
    |cons d ds=>cases ds with
     |nil=>exact(ad ⟨d,rfl⟩).elim
     |cons e ds=>rfl
   have ao:(if h:xs.toArray.size=1 then xs.toArray[0]else Value.tuple xs.toArray)= .tuple xs.toArray:=by
    rw[dif_neg];intro fo;have:ds.length=1:=by rw[<-gX];simpa using fo
    obtain⟨d,aq⟩:=List.length_eq_one_iff.1 this;exact ad ⟨d,aq⟩
   rw[ao,vT];refine⟨rfl,⟨xs.toArray,rfl,by simpa using gX,λk d x aq ao=>?_⟩,?_⟩
   .obtain⟨bZ,cu,dY,eb,_⟩:=jR k d x aq (by simpa using ao);exact⟨(VZ cu bZ).2,cu,dY⟩
   .rw[aB];simpa [dd]using jm
 have post:∀(v:Value),(r.tree=true/\e2 r v/\aB aO cq r (dd v) (λb=>∃t∈fn.results.toList.map k_,a7 t b))->∃BI cT,ch w F X BI cT (gl (r::outs)) (iG (v::vs)) aO:=by
  rintro v ⟨v1,v2,v3⟩;have N7:∀i,(outs.getD i .hole).hX=true->outs.getD i .hole=aH i/\i∈fx/\i∉fn.results.toList.map k_:=by
   intro i ai;cases bS:outs[i]? with
   |none=>simp[List.getD,bS,I.hX]at ai
   |some o=>
    have e:outs.getD i .hole=o:=by simp[List.getD,bS]
    rw[e]at ai⊢;rcases y5 i o bS with h|h
    .subst h;simp[I.hX]at ai
    .exact⟨h.1,h.2.2⟩
  refine⟨cq,λt b=>match t with|0=>∃t∈fn.results.toList.map k_,a7 t b|i+1=>(outs.getD i .hole).hX=true/\a7 i b,fF.iq,fF.iS,fF.gi,?_,?_,?_,?_,?_,fF.old,fF.size,fF.os,fF.tape,fF.output,aR.gz⟩
  .intro t b ab;cases t with
   |zero=>obtain⟨t,_,ab⟩:=ab;exact fF.fG t b ab
   |succ i=>exact fF.fG i b ab.2
  .intro t b ab;cases t with
   |zero=>obtain⟨t,_,ab⟩:=ab;exact fF.gL t b ab
   |succ i=>exact fF.gL i b ab.2
  .intro t u b eo ab hu;cases t with
   |zero=>
    obtain⟨t,a8,ab⟩:=ab;cases u with
    |zero=>exact eo rfl
    |succ j=>
     refine fF.gj t j b (λe=>?_) ab hu.2;subst e;exact(N7 t hu.1).2.2 a8
   |succ i=>
    cases u with
    |zero=>
     obtain⟨t,a8,hu⟩:=hu;refine fF.gj t i b (λe=>?_) hu ab.2;subst e;exact(N7 t ab.1).2.2 a8
    |succ j=>exact fF.gj i j b (by omega) ab.2 hu.2
  .intro t b ab;cases t with
   |zero=>obtain⟨t,_,ab⟩:=ab;exact fF.e1 t b ab
   |succ i=>exact fF.e1 i b ab.2
  .intro t;cases t with
   |zero=>exact(aQ.du v1).2 ⟨v2,v3⟩
   |succ i=>
    show aQ aO cq (gl (r::outs)) (iG (v::vs)) (outs.getD i .hole) (vs.getD i undef) (λb=>(outs.getD i .hole).hX=true/\a7 i b);cases ai:(outs.getD i .hole).hX with
    |false=>
     have:outs.getD i .hole= .hole:=by
      cases bS:outs[i]? with
      |none=>simp[List.getD,bS]
      |some o=>
       have e:outs.getD i .hole=o:=by simp[List.getD,bS]
       rw[e]at ai⊢;rcases y5 i o bS with h|h
       .exact h
       .rw[h.2.1]at ai;cases ai
     rw[this,aQ];trivial
    |true=>
     obtain⟨qE,nX,sS⟩:=N7 i ai;have a8:=(xO ai).2.1;have lA:=fF.eB i;rw[<-qE]at lA;obtain⟨g1,g2⟩:=(aQ.du a8).1 lA;have aJ:dF.tmps.getD i undef=vs.getD i undef:=jC i nX;rw[aJ]at g1 g2;exact(aQ.du a8).2 ⟨g1,aB.mono (λ_ h=>h) _ _ _ _ (λb ab=>⟨rfl,ab⟩) g2⟩
 rcases he with rfl|rfl
 .exact⟨aq,_,y_,_,rfl,post _ uy⟩
 .exact⟨aq,_,y_,_,rfl,post _ uy⟩
theorem aZ.of_wp (bW:C.fN) {f:FuncId} {fn:Func} {c:Code} {er:aA} {fx:azt} {as outs:azy} {r:I} (bK:C.P.funcs[f]? =some fn) (ab:fn.body=some c)
  (mI:(fn.name== "runtime.NumGoroutine")=false) (aa:gg ⟨fn.ntmps,fx⟩ c=some er.strip) (aX:as.length<=fn.ntmps)
  (h:bm C er (λe s=>(e= .normal\/e= .ret)/\eV (Ends C fx fn.results.toList r outs) s) (gl as)) (ay:er.plain=true:=by kernel_rfl):aZ C f as r outs:=
 λw F X S vs hl aR=>N4 bW bK ab mI aX hl aR λa sW _=>VY bW c (by rw[aA.NY];exact aa) (aA.IX er (aA.VQ er ay)) (IZ er h) sW
end
def num:Nat->azy->azx
 |_,[]=>[]
 |k,a::as=>(k,a)::num (k+1) as
theorem afJ:∀(as:azy) (k t:Nat),ar (num k as) (k+t)=as.getD t .hole:=by
 intro as;induction as with
 |nil=>intro k t;simp[num,ar]
 |cons a as ih=>
  intro k t;cases t with
  |zero=>simp[num,ar]
  |succ t=>
   have:=ih (k+1) t;simp only[num,ar];rw[if_neg (by omega)];rw[show k+(t+1)=k+1+t by omega,this];simp
theorem Fi (as:azy):gl as=ar (num 0 as):=by
 funext t;have:=afJ as 0 t;rw[Nat.zero_add]at this;rw[this];rfl
theorem Fj (l:azx) (t:Nat) (d:I):eu (ar l) t d=ar ((t,d)::l):=by
 funext u;simp only[eu,ar]
def vU (t:Nat):azx->azx
 |[]=>[]
 |(u,d)::l=>(u,dI t d)::vU t l
def zu (t:Nat):azx->azx
 |[]=>[]
 |(u,d)::l=>(u,c1 t d)::zu t l
theorem N8 (t:Nat):∀l:azx,oR t (ar l)=ar (vU t l):=by
 intro l;funext u;induction l with
 |nil=>rfl
 |cons p l ih=>
  obtain⟨v,d⟩:=p;simp only[oR,ar,vU]at ih⊢;split
  .rfl
  .exact ih
theorem afK (t:Nat):∀l:azx,jB t (ar l)=ar (zu t l):=by
 intro l;funext u;induction l with
 |nil=>rfl
 |cons p l ih=>
  obtain⟨v,d⟩:=p;simp only[jB,ar,zu]at ih⊢;split
  .rfl
  .exact ih
def gZ (k:azt) (s:al):azx:=k.map λt=>(t,s t)
section
variable {C:cx} {l:azx}
def e6.j4:e6->Bool
 | .call _ _=>true
 | .gY _=>false
 | .h5 _=>false
 | .pick _ _ _=>false
 | .nb _=>false
 | .iF _ _=>false
 | .gH _ _=>false
 | .eh _ _ _=>false
 | .fX _ _=>false
 | .k5 _ _ _=>false
 | .mD _=>false
 | .eS _ _ _ _=>false
 | .un _ _=>false
 | .k7 _ _ _=>false
 | .pZ _ _=>false
 | .fq _ _ _=>false
 | .i_ _ _ _ _=>false
 | .h9 _ _ _=>false
 | .kS _ _ _=>false
 | .idx _ _ _=>false
 | .ex _ _=>false
 | .po _ _ _=>false
 | .len _ _=>false
 | .app _ _ _ _=>false
 | .shr _=>true
 | .cap _ _=>false
 | .kU _ _ _=>false
 | .bad=>false
 | .nd _ _ _=>true
 | .mf _ _=>false
 | .p0 _=>false
 | .pv _=>false
 | .sN=>false
 | .jZ _ _ _=>false
 | .k8 _ _ _ _=>false
variable {Q:Exit->al->Prop}
def I.Fk:I->Bool
 | .tuple _=>true
 |_=>false
theorem Ends.one {fx:azt} {t:Nat} {r:I} {s:al} (ad:s t=r) (af:(r.tree&& !r.Fk)=true):Ends C fx [.tmp t] r [] s:=by
 simp only[Bool.and_eq_true,Bool.not_eq_true']at af;obtain⟨af,I1⟩:=af;have aG:∀vs,r≠.tuple vs:=λvs e=>by subst e;simp[I.Fk]at I1
 refine .inl ⟨[r],?_,rfl,by simp,λi o h=>by simp at h⟩;have:ry C s (.tmp t)=some r:=by
  simp only[ry,ad,af,if_true];try (cases r<;>first|rfl|exact(aG _ rfl).elim)
 simp only[List.map_cons,List.map_nil,this]
end
section
variable {C:cx} {l:azx} {Q:Exit->al->Prop}
theorem aZ.outs {f:FuncId} {as:azy} {r:I} {qE nX:azy} (h:aZ C f as r qE) (he:gl qE=gl nX):aZ C f as r nX:=by
 intro w F X S vs hl aR;refine rn.mono (h w F X S vs hl aR) ?_;rintro v aO ⟨cq,a7,bI⟩;refine⟨cq,a7,?_⟩;have:gl (r::nX)=gl (r::qE):=by
  funext t;cases t with
  |zero=>rfl
  |succ t=>exact(congrFun he t).symm
 rw[this];exact bI
def pz:azy->azy->List dz
 |a::as,d::ds=>⟨a,false,d,.hole⟩::pz as ds
 |_,_=>[]
theorem afL {s:al}:∀(as ds:azy),views s as=some ds->(pz as ds).map (·.a)=as/\(pz as ds).map (·.d)=ds/\(∀p∈pz as ds,p.ok s/\p.g=false/\p.o= .hole/\p.a∈as)/\j0 (pz as ds)=true/\
  gl ((pz as ds).map (·.o))=gl []/\(∀vV,ga vV (pz as ds)=vV)/\(∀vV,jq vV (pz as ds)=vV):=by
 intro as;induction as with
 |nil=>
  intro ds h;simp only[views,Option.some.injEq]at h;subst h;exact⟨rfl,rfl,(λp ay=>by cases ay),rfl,rfl,λ_=>rfl,λ_=>rfl⟩
 |cons a as ih=>
  intro ds h;simp only[views]at h;split at h
  .rename_i d afM ad af;simp only[Option.some.injEq]at h;subst h;obtain⟨aP,aW,aS,cf,cF,cw,cg⟩:=ih afM af;refine⟨by simp only[pz,List.map_cons,aP],by simp only[pz,List.map_cons,aW],?_,?_,?_,?_,?_⟩
   .intro p ay;simp only[pz,List.mem_cons]at ay;rcases ay with rfl|ay
    .exact⟨by simp only[dz.ok];exact ad,rfl,rfl,by simp⟩
    .obtain⟨g1,g2,g3,g4⟩:=aS p ay;exact⟨g1,g2,g3,by simp[g4]⟩
   .simp only[pz,j0,cf,Bool.and_true,List.all_eq_true];intro p ay;simp[(aS p ay).2.1]
   .funext t;cases t with
    |zero=>rfl
    |succ t=>exact(congrFun cF t).trans (by simp[gl])
   .intro vV;exact cw vV
   .intro vV;exact cg vV
  .cases h
end
structure fQ where
 ee:azt
 H:azt
 T:azt
 c:Bool
mutual
def I.clean:I->Bool
 | .hole=>false
 | .fn _ cap=>I.BQ cap
 |_=>true
def I.BQ:azy->Bool
 |[]=>true
 |d::ds=>d.clean&&I.BQ ds
end
mutual
theorem V1 {x:Nat}:∀a:I,(c1 x a).clean=true->c1 x a=a
 | .h y q,h=>by
   simp only[c1]at h⊢;split
   .rename_i e;rw[if_pos e]at h;split
    .rfl
    .rename_i hE;rw[if_neg hE]at h;simp[I.clean]at h
   .rfl
 | .ay y q,h=>by
   simp only[c1]at h⊢;split
   .rename_i e;rw[if_pos e]at h;simp[I.clean]at h
   .rfl
 | .ab y q,h=>rfl
 | .fn f cap,h=>by simp only[c1,I.clean]at h⊢;rw[V2 cap h]
 | .hole,_=>rfl
 | .bool _,_=>rfl
 | .gx,_=>rfl
 | .int _ _,_=>rfl
 | .str _,_=>rfl
 | .eA,_=>rfl
 | .bf,_=>rfl
 | .slice _,_=>rfl
 | .ag _ _,_=>rfl
 | .ref _,_=>rfl
 | .aM _,_=>rfl
 | .agg _,_=>rfl
 | .tuple _,_=>rfl
 | .cj _,_=>rfl
theorem V2 {x:Nat}:∀ds:azy,I.BQ (kQ x ds)=true->kQ x ds=ds
 |[],_=>rfl
 |d::ds,h=>by
  simp only[kQ,I.BQ,Bool.and_eq_true]at h⊢;rw[V1 d h.1,V2 ds h.2]
end
mutual
theorem V3 {x:Nat}:∀a:I,(dI x a).clean=true->dI x a=a
 | .h y q,h=>by
   simp only[dI]at h⊢;split
   .rename_i e;rw[if_pos e]at h;simp[I.clean]at h
   .rfl
 | .ay y q,h=>by
   simp only[dI]at h⊢;split
   .rename_i e;rw[if_pos e]at h;simp[I.clean]at h
   .rfl
 | .ab y q,h=>by
   simp only[dI]at h⊢;split
   .rename_i e;rw[if_pos e]at h;simp[I.clean]at h
   .rfl
 | .fn f cap,h=>by simp only[dI,I.clean]at h⊢;rw[V4 cap h]
 | .hole,_=>rfl
 | .bool _,_=>rfl
 | .gx,_=>rfl
 | .int _ _,_=>rfl
 | .str _,_=>rfl
 | .eA,_=>rfl
 | .bf,_=>rfl
 | .slice _,_=>rfl
 | .ag _ _,_=>rfl
 | .ref _,_=>rfl
 | .aM _,_=>rfl
 | .agg _,_=>rfl
 | .tuple _,_=>rfl
 | .cj _,_=>rfl
theorem V4 {x:Nat}:∀ds:azy,I.BQ (lu x ds)=true->lu x ds=ds
 |[],_=>rfl
 |d::ds,h=>by
  simp only[lu,I.BQ,Bool.and_eq_true]at h⊢;rw[V3 d h.1,V4 ds h.2]
end
theorem afN {k:ur} {x:Nat} {a:I} (h:(k.app x a).clean=true):k.app x a=a:=by
 cases k with
 |no=>rfl
 |c1=>exact V1 a h
 |dI=>exact V3 a h
theorem afO:∀(ms:List iw) (u:Nat) (a:I),(∀m∈ms,m.x≠u)->(mE ms u a).clean=true->mE ms u a=a:=by
 intro ms;induction ms with
 |nil=>intros;rfl
 |cons m ms ih=>
  intro u a ao au;simp only[mE]at au⊢;have e:=ih u _ (λjY zv=>ao jY (by simp[zv])) au;have hm:m.at u a=m.k.app m.x a:=by
   simp only[iw.at];rw[if_neg (λe=>ao m (by simp) e.symm)]
  rw[e,hm];rw[e,hm]at au;exact afN au
theorem afP:∀(ms:List iw) (u:Nat) (a:I),(∀m∈ms,m.x≠u/\m.x∉a.aa)->mE ms u a=a:=by
 intro ms;induction ms with
 |nil=>intros;rfl
 |cons m ms ih=>
  intro u a ao;simp only[mE];have hm:m.at u a=a:=by
   simp only[iw.at];rw[if_neg (λe=>(ao m (by simp)).1 e.symm)];exact EW (.inr (ao m (by simp)).2)
  rw[hm];exact ih u a λjY zv=>ao jY (by simp[zv])
theorem afQ (m:iw):∀(ms:List iw) (u:Nat) (a:I),(∀jY∈ms,jY.x≠m.x/\jY.x∉m.d.aa/\m.x∉jY.d.aa)->mE ms u (m.at u a)=m.at u (mE ms u a):=by
 intro ms;induction ms with
 |nil=>intros;rfl
 |cons n ms ih=>
  intro u a ao;simp only[mE];have aX:=ao n (by simp);have au:n.at u (m.at u a)=m.at u (n.at u a):=by
   simp only[iw.at];by_cases aP:u=n.x
   .subst aP;rw[if_pos rfl,if_neg aX.1,if_pos rfl];exact(EW (.inr aX.2.2)).symm
   .rw[if_neg aP];by_cases aW:u=m.x
    .subst aW;rw[if_pos rfl,if_pos rfl];exact EW (.inr aX.2.1)
    .rw[if_neg aW,if_neg aP,if_neg aW];exact aep _ _ _ _ _
  rw[au];exact ih u _ λjY zv=>ao jY (by simp[zv])
theorem afR:∀(ms mh:List iw) (s:al),(∀m∈ms,∀n∈mh,n.x≠m.x/\n.x∉m.d.aa/\m.x∉n.d.aa)->eX mh (eX ms s)=eX ms (eX mh s):=by
 intro ms;induction ms with
 |nil=>intros;rfl
 |cons m ms ih=>
  intro mh s h;have e:∀s,eX (m::ms) s=eX ms (eX [m] s):=λs=>pw [m] ms s;rw[e,e,ih mh _ (λjY zv=>h jY (by simp[zv]))];congr 1;funext u;simp only[eX,mE];exact afQ m mh u _ (h m (by simp))
def V5 (C:cx) (s:al) (f:bC) (args:List bC) (K:azt->I->al->Prop):Prop:=
 ∃(g:FuncId) (caps:azy) (ps:List dz) (r:I),bA s f= .fn g caps/\I.e_ caps=true/\ps.map (·.a)=args.map (bA s)++caps/\(∀p∈ps,p.ok s)/\j0 ps=true/\
   aZ C g (ps.map (·.d)) r (ps.map (·.o))/\r.res=true/\(ml ps=true->r.dc=true/\∀p∈ps,p.o.dc=true)/\K (I.e7 ((ps.filter (·.g)).map (·.a))) r (jq (ga s ps) ps)
def qI (C:cx) (s:al) (b8:e6) (K:azt->I->al->Prop):Prop:=
 match b8 with
 | .call f args=>∃(g:FuncId) (caps:azy) (ps:List dz) (r:I),bA s f= .fn g caps/\I.e_ caps=true/\ps.map (·.a)=args.map (bA s)++caps/\(∀p∈ps,p.ok s)/\j0 ps=true/\
   aZ C g (ps.map (·.d)) r (ps.map (·.o))/\r.res=true/\(ml ps=true->r.dc=true/\∀p∈ps,p.o.dc=true)/\K (I.e7 ((ps.filter (·.g)).map (·.a))) r (jq (ga s ps) ps)
 | .shr b8=>∃av s1,cl C s b8=some (av,s1)/\av.tree=true/\(∀vs,av≠.tuple vs)/\K (mi s b8) av.share s1
 | .nd f args us=>oo s (lB s us)=true/\V5 C s f args λdL av s1=>oo s1 (lB s us)=true/\K (us++dL) av (p2 s1 (lB s us))
 |b8=>∃av s1,cl C s b8=some (av,s1)/\K (mi s b8) av s1
def kY (s:al) (ee:azt) (dst:Option Nat) (dL:azt) (av:I):fQ:=
 ⟨ee,ee.flatMap (λu=>(s u).aa)++av.aa,dst.toList++dL,ee.all λu=>(s u).clean⟩
def oX (C:cx) (s:al) (o:cC) (K:fQ->al->Prop):Prop:=
 match o.guard with
 |none=>qI C s o.b8 λdL av s1=>K (kY s (use s o.b8) o.dst dL av) (fin s1 o.dst av)
 |some (t,b)=>match s t with
  | .bool gW=>if gW=b then qI C s o.b8 (λdL av s1=>K (kY s (t::use s o.b8) o.dst dL av) (fin s1 o.dst av))else K (kY s [t] o.dst [] (.tuple [])) (fin s o.dst (.tuple []))
  | .tuple []=>K (kY s [t] o.dst [] (.tuple [])) (fin s o.dst (.tuple []))
  |_=>False
def sZ:Option (List fQ)->fQ->Option (List fQ)
 |none,_=>none
 |some l,f=>some (f::l)
def dK (C:cx) (s:al):List cC->Option (List fQ)->(Option (List fQ)->al->Prop)->Prop
 |[],acc,K=>K acc s
 |o::os,acc,K=>oX C s o λf s1=>dK C s1 os (sZ acc f) K
section
variable {C:cx}
theorem V6 {s:al} {b8:e6} {K:azt->I->al->Prop} {eK:I->al->Prop} (aw:∀dL av s,K dL av s->eK av s) (h:qI C s b8 K):rr C s b8 eK:=by
 cases b8 with
 |call f args=>
  obtain⟨g,caps,ps,r,ad,ic,af,aG,bh,b6,dt,dj,ho⟩:=h;exact⟨g,caps,ps,r,ad,ic,af,aG,bh,b6,dt,dj,aw _ _ _ ho⟩
 |nd f args us=>
  obtain⟨cu,g,caps,ps,r,ad,ic,af,aG,bh,b6,dt,dj,ho,i6⟩:=h;exact⟨cu,g,caps,ps,r,ad,ic,af,aG,bh,b6,dt,dj,ho,aw _ _ _ i6⟩
 |shr b8=>
  obtain⟨av,s1,ad,af,aG,bh⟩:=h;exact⟨av,s1,ad,af,aG,aw _ _ _ bh⟩
 |_=>
  obtain⟨av,s1,ad,af⟩:=h;exact⟨av,s1,ad,aw _ _ _ af⟩
theorem afS {s:al} {o:cC} {K:fQ->al->Prop} {eK:al->Prop} (aw:∀f s,K f s->eK s) (h:oX C s o K):oW C s o eK:=by
 unfold oX at h;unfold oW;split
 .rename_i hg;rw[hg]at h;exact V6 (λ_ _ _=>aw _ _) h
 .rename_i t b hg;rw[hg]at h;simp only at h;split
  .rename_i gW aa;rw[aa]at h;simp only at h;split
   .rename_i ab;rw[if_pos ab]at h;exact V6 (λ_ _ _=>aw _ _) h
   .rename_i ab;rw[if_neg ab]at h;exact aw _ _ h
  .rename_i aa;rw[aa]at h;exact aw _ _ h
  .rename_i ad af;split at h
   .exact ad _ (by assumption)
   .exact af (by assumption)
   .exact h
theorem zw {K:al->Prop}:∀{ros:List cC} {s:al} {acc:Option (List fQ)} {eK:Option (List fQ)->al->Prop},(∀a s,eK a s->K s)->dK C s ros acc eK->oq C s ros K:=by
 intro ros;induction ros with
 |nil=>intro s acc eK aw h;exact aw _ _ h
 |cons o ros ih=>intro s acc eK aw h;exact afS (λf s h=>ih aw h) h
theorem V7 {q:azt} {a d:I} (h:I.sub q a=some d) (c6:q≠[]\/d.aa=[]):a.aa=[]:=by
 cases q with
 |nil=>
  simp only[I.sub,Option.some.injEq]at h;subst h;exact c6.resolve_left (λe=>e rfl)
 |cons k q=>cases a<;>first|rfl|(simp[I.sub]at h)
def I2 (s:al) (p:dz) (e:I->Prop):Prop:=p.g=true->∃x q d,p.a= .h x q/\I.sub q (s x)=some d/\e d/\(p.o= .hole\/p.o.hX=true)
theorem V8 {d:I} (h:d.hX=true):d.aa=[]:=NK (xO h).2.1
theorem V9 {d:I} (h:d.hX=true):d.ej.aa=[]:=by cases d<;>first|rfl|(simp[I.hX]at h)
theorem V_ {p:dz} {ps:List dz} (h:j0 (p::ps)=true):j0 ps=true/\∀dp∈ps,(p.g=true\/dp.g=true)->∀u∈p.a.aa,u∉dp.a.aa:=by
 simp only[j0,Bool.and_eq_true,List.all_eq_true,Bool.or_eq_true,Bool.not_eq_true']at h;refine⟨h.2,λdp fw hg u hu=>?_⟩;rcases h.1 dp fw with e|e
 .rcases hg with hg|hg<;>simp[hg]at e
 .simpa using e u hu
def uz (ps:List dz):azt:=I.e7 ((ps.filter (·.g)).map (·.a))
theorem BR (p:dz) (ps:List dz):(∀u∈uz ps,u∈uz (p::ps))/\(p.g=true->∀u∈p.a.aa,u∈uz (p::ps)):=by
 unfold uz;by_cases hg:p.g=true
 .simp only[List.filter_cons,hg,if_true,List.map_cons,I.e7,List.mem_append];exact⟨λu h=>.inr h,λ_ u h=>.inl h⟩
 .simp only[List.filter_cons,hg];exact⟨λu h=>h,λh=>by simp at h⟩
theorem afT {p:dz} {ps:List dz} (h:p∈ps):∀u∈p.a.aa,u∈I.e7 (ps.map (·.a)):=by
 induction ps with
 |nil=>cases h
 |cons dp ps ih=>
  intro u hu;simp only[List.map_cons,I.e7,List.mem_append];rcases List.mem_cons.1 h with rfl|h
  .exact .inl hu
  .exact .inr (ih h u hu)
theorem afU:∀(ps:List dz) (s:al),(∀p∈ps,I2 s p (λd=>d=p.d/\p.d.hX=true))->j0 ps=true->
  (∃ms:List iw,(∀m∈ms,m.x∈uz ps/\m.d.aa=[])/\∀aH,eT (I.e7 (ps.map (·.a))) aH s->ga aH ps=eX ms aH)/\∀p∈ps,I2 (ga s ps) p (λd=>d=p.d.ej/\p.d.hX=true):=by
 intro ps;induction ps with
 |nil=>intro s _ _;exact⟨⟨[],by simp,λaH _=>rfl⟩,λp ay=>by cases ay⟩
 |cons p ps ih=>
  intro s hg nV;obtain⟨sR,rm⟩:=V_ nV;by_cases pA:p.g=true
  .obtain⟨x,q,d,bq,aa,⟨rfl,aq⟩,bS⟩:=hg p (by simp) pA;have mb:(I.put q p.d.ej (s x)).aa=[]:=BF q _ _ _ aa (.inl (xO aq).1) λ_=>V9 aq;have Fl:∀aH:al,aH x=s x->p.take aH=eX [⟨.c1,x,I.put q p.d.ej (s x)⟩] aH:=by
    intro aH e;simp only[dz.take,pA,if_true,bq,e,zp]
   have eo:∀dp∈ps,∀da kR,dp.a= .h da kR->da≠x:=by
    intro dp fw da kR e hE;have:=rm dp fw (.inl pA) x (by simp[bq,I.aa]);rw[e,hE]at this;simp[I.aa]at this
   have xP:∀da,da≠x->(s da).aa=[]->eX [⟨.c1,x,I.put q p.d.ej (s x)⟩] s da=s da:=by
    intro da Bu a_;simp only[eX,mE,iw.at];rw[if_neg Bu];exact EW (.inr (by rw[a_];simp))
   obtain⟨⟨ms,m1,m2⟩,m3⟩:=ih (eX [⟨.c1,x,I.put q p.d.ej (s x)⟩] s) (λdp fw N9=>by
    obtain⟨da,kR,bT,vR,gh,jy,Fm⟩:=hg dp (by simp[fw]) N9;refine⟨da,kR,bT,vR,?_,jy,Fm⟩;rw[xP da (eo dp fw da kR vR) (V7 gh (.inr (by rw[jy.1];exact V8 jy.2)))];exact gh) sR
   refine⟨⟨[⟨.c1,x,I.put q p.d.ej (s x)⟩]++ms,?_,?_⟩,?_⟩
   .intro m hm;rcases List.mem_append.1 hm with hm|hm
    .simp only[List.mem_singleton]at hm;subst hm;exact⟨(BR p ps).2 pA x (by simp[bq,I.aa]),mb⟩
    .exact⟨(BR p ps).1 _ (m1 m hm).1,(m1 m hm).2⟩
   .intro aH gh;simp only[List.map_cons,I.e7]at gh;have e:aH x=s x:=gh x (by simp[bq,I.aa]);rw[pw];show ga (p.take aH) ps=_;rw[Fl aH e];exact m2 _ (eT.eX gh.right _)
   .have aP:ga s (p::ps)=ga (eX [⟨.c1,x,I.put q p.d.ej (s x)⟩] s) ps:=by
     show ga (p.take s) ps=_;rw[Fl s rfl]
    rw[aP];intro dp fw;rcases List.mem_cons.1 fw with rfl|fw
    .intro _;refine⟨x,q,dp.d.ej,bq,?_,⟨rfl,aq⟩,bS⟩;have aJ:eX [⟨.c1,x,I.put q dp.d.ej (s x)⟩] s x=I.put q dp.d.ej (s x):=by
      simp only[eX,mE,iw.at,if_true]
     rw[NH (by rw[aJ];exact mb) (λafV afW axA=>?_),aJ]
     .exact Vw q _ _ _ aa
     .exact rm afV afW (.inl pA) x (by simp[bq,I.aa])
    .exact m3 dp fw
  .have Fl:∀aH:al,p.take aH=aH:=by intro aH;simp only[dz.take,pA];rfl
   obtain⟨⟨ms,m1,m2⟩,m3⟩:=ih s (λdp fw=>hg dp (by simp[fw])) sR;refine⟨⟨ms,λm hm=>⟨(BR p ps).1 _ (m1 m hm).1,(m1 m hm).2⟩,?_⟩,?_⟩
   .intro aH gh;simp only[List.map_cons,I.e7]at gh;show ga (p.take aH) ps=_;rw[Fl];exact m2 aH gh.right
   .intro dp fw;have aP:ga s (p::ps)=ga s ps:=by show ga (p.take s) ps=_;rw[Fl]
    rw[aP];rcases List.mem_cons.1 fw with rfl|fw
    .intro h;exact(pA h).elim
    .exact m3 dp fw
theorem afX:∀(ps:List dz) (s:al),(∀p∈ps,I2 s p (λd=>d=p.d.ej/\p.d.hX=true))->j0 ps=true->
  (∃ms:List iw,(∀m∈ms,m.x∈uz ps/\m.d.aa=[])/\∀aH,eT (I.e7 (ps.map (·.a))) aH s->jq aH ps=eX ms aH):=by
 intro ps;induction ps with
 |nil=>intro s _ _;exact⟨[],by simp,λaH _=>rfl⟩
 |cons p ps ih=>
  intro s hg nV;obtain⟨sR,rm⟩:=V_ nV;by_cases pA:p.g=true/\p.o≠.hole
  .obtain⟨pA,afY⟩:=pA;obtain⟨x,q,d,bq,aa,⟨rfl,aq⟩,bS⟩:=hg p (by simp) pA;have bS:p.o.hX=true:=bS.resolve_left afY;have mb:(I.put q p.o (s x)).aa=[]:=by
    cases q with
    |nil=>simp only[I.put];exact V8 bS
    |cons k q=>exact BF _ _ _ _ aa (.inr (by simp)) (by simp)
   have N_:∀aH:al,aH x=s x->p.kV aH=eX [⟨.dI,x,I.put q p.o (s x)⟩] aH:=by
    intro aH e;simp only[dz.kV,pA,if_true,bq];rw[e,Vd]
   have eo:∀dp∈ps,∀da kR,dp.a= .h da kR->da≠x:=by
    intro dp fw da kR e hE;have:=rm dp fw (.inl pA) x (by simp[bq,I.aa]);rw[e,hE]at this;simp[I.aa]at this
   obtain⟨ms,m1,m2⟩:=ih (eX [⟨.dI,x,I.put q p.o (s x)⟩] s) (λdp fw N9=>by
    obtain⟨da,kR,bT,vR,gh,jy,Fm⟩:=hg dp (by simp[fw]) N9;refine⟨da,kR,bT,vR,?_,jy,Fm⟩;have a_:=V7 gh (.inr (by rw[jy.1];exact V9 jy.2));have xP:eX [⟨.dI,x,I.put q p.o (s x)⟩] s da=s da:=by
     simp only[eX,mE,iw.at];rw[if_neg (eo dp fw da kR vR)];exact EW (.inr (by rw[a_];simp))
    rw[xP];exact gh) sR
   refine⟨[⟨.dI,x,I.put q p.o (s x)⟩]++ms,?_,?_⟩
   .intro m hm;rcases List.mem_append.1 hm with hm|hm
    .simp only[List.mem_singleton]at hm;subst hm;exact⟨(BR p ps).2 pA x (by simp[bq,I.aa]),mb⟩
    .exact⟨(BR p ps).1 _ (m1 m hm).1,(m1 m hm).2⟩
   .intro aH gh;simp only[List.map_cons,I.e7]at gh;have e:aH x=s x:=gh x (by simp[bq,I.aa]);rw[pw];show jq (p.kV aH) ps=_;rw[N_ aH e];exact m2 _ (eT.eX gh.right _)
  .have N_:∀aH:al,p.kV aH=aH:=by
    intro aH;unfold dz.kV;split
    .rename_i ja;have:p.o= .hole:=by
      by_cases h:p.o= .hole
      .exact h
      .exact(pA ⟨ja,h⟩).elim
     rw[this]
    .rfl
   obtain⟨ms,m1,m2⟩:=ih s (λdp fw=>hg dp (by simp[fw])) sR;refine⟨ms,λm hm=>⟨(BR p ps).1 _ (m1 m hm).1,(m1 m hm).2⟩,?_⟩;intro aH gh;simp only[List.map_cons,I.e7]at gh;show jq (p.kV aH) ps=_;rw[N_];exact m2 aH gh.right
theorem afZ {s aH:al}:∀(a:I) (d:I),eT a.aa aH s->view s a=some d->view aH a=some d:=by
 intro a d h;have:=NL (s:=s) (aH:=aH) a d;intro aJ;cases a with
 |h x q=>simp only[view]at aJ⊢;rw[h x (by simp[I.aa])];exact aJ
 |ay x q=>simp only[view]at aJ⊢;rw[h x (by simp[I.aa])];exact aJ
 |fn f cap=>
  refine this (λu hu _=>h u hu) aJ
 |_=>exact aJ
theorem af0 {p:dz} {s aH:al} (h:eT p.a.aa aH s) (gO:p.ok s):p.ok aH:=by
 unfold dz.ok at gO⊢;split
 .rename_i hg;rw[if_pos hg]at gO;cases bq:p.a with
  |h x q=>
   rw[bq]at gO;simp only at gO⊢;rw[h x (by simp[bq,I.aa])];exact gO
  |_=>rw[bq]at gO;exact gO.elim
 .rename_i hg;rw[if_neg hg]at gO;exact afZ _ _ h gO
def I3 (C:cx) (o:cC) (s:al) (nG:fQ) (ms:List iw):Prop:=
 (∀aH,eT nG.ee aH s->∀K:al->Prop,K (eX ms aH)->oW C aH o K)/\(∀m∈ms,m.x∈nG.T/\∀u∈m.d.aa,u∈nG.H)/\(∀u∈nG.ee,∀x∈(s u).aa,x∈nG.H)/\(nG.c=true->∀u∈nG.ee,(s u).clean=true)
theorem Wa (dst:Option Nat) (av:I):∃ms:List iw,(∀m∈ms,m.x∈dst.toList/\m.d=av)/\∀s1:al,fin s1 dst av=eX ms s1:=by
 cases dst with
 |none=>exact⟨[],by simp,λs=>rfl⟩
 |some t=>
  simp only[fin];by_cases h:av.plain=true
  .exact⟨[⟨.no,t,av⟩],by simp,λs=>by rw[if_pos h,Ve]⟩
  .exact⟨[⟨.dI,t,av⟩],by simp,λs=>by rw[if_neg h,Vd]⟩
theorem I4 {s:al} {ee:azt} {dst:Option Nat} {dL:azt} {av:I}:(∀u∈(kY s ee dst dL av).ee,∀x∈(s u).aa,x∈(kY s ee dst dL av).H)/\((kY s ee dst dL av).c=true->∀u∈(kY s ee dst dL av).ee,(s u).clean=true):=by
 refine⟨λu hu x ao=>?_,λau=>?_⟩
 .simp only[kY,List.mem_append,List.mem_flatMap];exact .inl ⟨u,hu,ao⟩
 .simp only[kY,List.all_eq_true]at au;exact au
theorem Wb {s:al} {f:bC} {args:List bC} {K:azt->I->al->Prop} (h:V5 C s f args K):
  ∃dL av ms,K dL av (eX ms s)/\(∀m∈ms,m.x∈dL/\m.d.aa=[])/\∀aH,eT (use s (.call f args)) aH s->∀eK:I->al->Prop,eK av (eX ms aH)->NP C aH f args eK:=by
 obtain⟨g,caps,ps,r,ad,ic,af,aG,bh,b6,dt,dj,ho⟩:=h;have af1:∀p∈ps,I2 s p (λd=>d=p.d/\p.d.hX=true):=by
  intro p ay hg;have:=aG p ay;simp only[dz.ok,hg,if_true]at this;cases bq:p.a with
  |h x q=>rw[bq]at this;exact⟨x,q,p.d,rfl,this.1,⟨rfl,this.2.1⟩,this.2.2.imp id λh=>h.1⟩
  |_=>rw[bq]at this;exact this.elim
 obtain⟨⟨sQ,J,a2⟩,a3⟩:=afU ps s af1 bh;obtain⟨xL,h3,fZ⟩:=afX ps (ga s ps) a3 bh;have uk:∀u∈I.e7 (ps.map (·.a)),u∈use s (.call f args):=by
  rw[af];intro u hu;simp only[use,List.mem_append];have key:∀(h2 l2:azy),u∈I.e7 (h2++l2)->u∈I.e7 h2\/u∈I.e7 l2:=by
   intro h2;induction h2 with
   |nil=>intro l2 h;exact .inr h
   |cons a h2 ih=>
    intro l2 h;simp only[List.cons_append,I.e7,List.mem_append]at h⊢;rcases h with h|h
    .exact .inl (.inl h)
    .exact(ih l2 h).imp .inr id
  rcases key _ _ hu with hu|hu
  .exact .inr (bC.IK u hu)
  .refine .inl (bC.zq u ?_);rw[ad];exact hu
 have fY:jq (ga s ps) ps=eX (sQ++xL) s:=by
  rw[pw,<-a2 s (λ_ _=>rfl),fZ _ (λ_ _=>rfl)]
 refine⟨uz ps,r,sQ++xL,by rw[<-fY];exact ho,?_,?_⟩
 .intro m hm;rcases List.mem_append.1 hm with hm|hm
  .exact J m hm
  .exact h3 m hm
 .intro aH aa eK aw;have p1:eT (I.e7 (ps.map (·.a))) aH s:=aa.sub uk;have bK:eT (f.use s) aH s:=by simp only[use]at aa;exact aa.left
  have ao:eT (bC.sP s args) aH s:=by simp only[use]at aa;exact aa.right
  have aP:jq (ga aH ps) ps=eX (sQ++xL) aH:=by
   rw[pw,<-a2 aH p1,fZ];rw[a2 aH p1,a2 s (λ_ _=>rfl)];exact eT.eX p1 _
  exact⟨g,caps,ps,r,by rw[bC.gM bK];exact ad,ic,by rw[bC.Nx ao];exact af,λp ay=>af0 (p1.sub (afT ay)) (aG p ay),bh,b6,dt,dj,by rw[aP];exact aw⟩
mutual
theorem Wc {s aH:al}:∀(d:I),eT d.aa aH s->d.gP aH=d.gP s
 | .h x q,h=>by simp only[I.gP];rw[h x (by simp[I.aa])]
 | .ab x q,h=>by simp only[I.gP];rw[h x (by simp[I.aa])]
 | .fn f cap,h=>by simp only[I.gP];exact Wd cap (by simpa only[I.aa]using h)
 | .ay _ _,_=>by simp only[I.gP]
 | .hole,_=>by simp only[I.gP]
 | .bool _,_=>by simp only[I.gP]
 | .gx,_=>by simp only[I.gP]
 | .int _ _,_=>by simp only[I.gP]
 | .str _,_=>by simp only[I.gP]
 | .eA,_=>by simp only[I.gP]
 | .bf,_=>by simp only[I.gP]
 | .slice _,_=>by simp only[I.gP]
 | .ag _ _,_=>by simp only[I.gP]
 | .ref _,_=>by simp only[I.gP]
 | .aM _,_=>by simp only[I.gP]
 | .agg _,_=>by simp only[I.gP]
 | .tuple _,_=>by simp only[I.gP]
 | .cj _,_=>by simp only[I.gP]
theorem Wd {s aH:al}:∀(ds:azy),eT (I.e7 ds) aH s->I.rq aH ds=I.rq s ds
 |[],_=>rfl
 |d::ds,h=>by
  simp only[I.e7]at h;simp only[I.rq];rw[Wc d h.left,Wd ds h.right]
end
theorem Oa {s aH:al} {us:azt} (h:eT (us.flatMap λu=>u::(s u).aa) aH s):lB aH us=lB s us:=by
 unfold lB;refine List.map_congr_left λu hu=>?_;rw[h u (List.mem_flatMap.2 ⟨u,hu,by simp⟩)]
theorem Ob {s aH:al}:∀(L:azx),(∀p∈L,eT p.2.aa aH s)->oo aH L=oo s L
 |[],_=>rfl
 |p::L,h=>by
  simp only[oo];rw[Wc p.2 (h p (by simp)),Ob L (λq c6=>h q (by simp[c6]))]
theorem We:∀(L:azx) (s:al),p2 s L=eX (L.map λp=>⟨.no,p.1,p.2⟩) s
 |[],s=>rfl
 |p::L,s=>by
  simp only[p2,List.map_cons];rw[We L,Ve];exact(pw [⟨.no,p.1,p.2⟩] _ s).symm
theorem af2 {s:al} {b8:e6} {K:azt->I->al->Prop} (h:qI C s b8 K):
  ∃dL av ms,K dL av (eX ms s)/\(∀m∈ms,m.x∈dL/\∀v∈m.d.aa,∃u∈use s b8,v∈(s u).aa)/\∀aH,eT (use s b8) aH s->∀eK:I->al->Prop,eK av (eX ms aH)->rr C aH b8 eK:=by
 have plain:(∃av s1,cl C s b8=some (av,s1)/\K (mi s b8) av s1)->(∀aH (eK:I->al->Prop) av s1,cl C aH b8=some (av,s1)->eK av s1->rr C aH b8 eK)->
   ∃dL av ms,K dL av (eX ms s)/\(∀m∈ms,m.x∈dL/\∀v∈m.d.aa,∃u∈use s b8,v∈(s u).aa)/\∀aH,eT (use s b8) aH s->∀eK:I->al->Prop,eK av (eX ms aH)->rr C aH b8 eK:=by
  rintro⟨av,s1,ad,af⟩ hw;obtain⟨ms,aP,aW,aS⟩:=Vu ad;subst aP;exact⟨_,av,ms,af,λm hm=>⟨(aW m hm).1,λv aJ=>by rw[(aW m hm).2]at aJ;cases aJ⟩,λaH aa eK aw=>hw aH eK av _ (aS aH aa) aw⟩
 cases b8 with
 |call f args=>
  obtain⟨dL,av,ms,J,a2,a3⟩:=Wb h;exact⟨dL,av,ms,J,λm hm=>⟨(a2 m hm).1,λv aJ=>by rw[(a2 m hm).2]at aJ;cases aJ⟩,λaH aa eK aw=>a3 aH aa eK aw⟩
 |nd f args us=>
  obtain⟨cu,au⟩:=h;obtain⟨dL,av,ms,⟨J,af3⟩,a2,a3⟩:=Wb au;have e:∀aH:al,p2 (eX ms aH) (lB s us)=eX (ms++(lB s us).map λp=>⟨.no,p.1,p.2⟩) aH:=λaH=>by rw[pw,We]
  have jQ:∀{aH:al},eT (us.flatMap λu=>u::(s u).aa) aH s->∀p∈lB s us,eT p.2.aa aH s:=λ{aH} aa p ay v aJ=>by
   obtain⟨u,hu,rfl⟩:=List.mem_map.1 ay;exact aa v (List.mem_flatMap.2 ⟨u,hu,by simp[aJ]⟩)
  refine⟨us++dL,av,ms++(lB s us).map λp=>⟨.no,p.1,p.2⟩,by rw[<-e];exact af3,?_,?_⟩
  .intro m hm;rcases List.mem_append.1 hm with hm|hm
   .exact⟨by simp[(a2 m hm).1],λv aJ=>by rw[(a2 m hm).2]at aJ;cases aJ⟩
   .obtain⟨p,ay,rfl⟩:=List.mem_map.1 hm;obtain⟨u,hu,rfl⟩:=List.mem_map.1 ay;exact⟨List.mem_append_left _ hu,λv aJ=>⟨u,by simp only[use,List.mem_append,List.mem_flatMap];exact .inl ⟨u,hu,by simp⟩,aJ⟩⟩
  .intro aH aa eK aw;simp only[use]at aa;refine⟨by rw[Oa aa.left,Ob _ (jQ aa.left)];exact cu,a3 aH aa.right _ ⟨?_,?_⟩⟩
   .rw[Oa aa.left,Ob _ (λp ay=>(jQ aa.left p ay).eX ms)];exact J
   .rw[Oa aa.left,e];exact aw
 |shr b8=>
  obtain⟨av,s1,ad,af,aG,bh⟩:=h;obtain⟨ms,aP,aW,aS⟩:=Vu ad;subst aP;exact⟨_,av.share,ms,bh,λm hm=>⟨(aW m hm).1,λv aJ=>by rw[(aW m hm).2]at aJ;cases aJ⟩,λaH aa eK aw=>⟨av,_,aS aH aa,af,aG,aw⟩⟩
 |_=>exact plain h (λaH eK av s1 ad af=>⟨av,s1,ad,af⟩)
theorem af4 {s:al} {o:cC} {K:fQ->al->Prop} (h:oX C s o K):∃nG ms,K nG (eX ms s)/\I3 C o s nG ms:=by
 have op:∀(ee:azt),(∀u∈use s o.b8,u∈ee)->(∀aH,eT ee aH s->∀eK:al->Prop,rr C aH o.b8 (λav s1=>eK (fin s1 o.dst av))->oW C aH o eK)->
   qI C s o.b8 (λdL av s1=>K (kY s ee o.dst dL av) (fin s1 o.dst av))->∃nG ms,K nG (eX ms s)/\I3 C o s nG ms:=by
  intro ee uk ph hw;obtain⟨dL,av,ms,ad,af,aG⟩:=af2 hw;obtain⟨mh,mn,bF⟩:=Wa o.dst av;refine⟨kY s ee o.dst dL av,ms++mh,?_,?_,?_,I4.1,I4.2⟩
  .rw[pw,<-bF];exact ad
  .intro aH aa eK aw;refine ph aH aa eK (aG aH (aa.sub uk) _ ?_);rw[bF,<-pw];exact aw
  .intro m hm;simp only[kY,List.mem_append];rcases List.mem_append.1 hm with hm|hm
   .refine⟨.inr (af m hm).1,λv aJ=>.inl ?_⟩;obtain⟨u,hu,oh⟩:=(af m hm).2 v aJ;exact List.mem_flatMap.2 ⟨u,uk u hu,oh⟩
   .exact⟨.inl (mn m hm).1,λu hu=>.inr (by rw[(mn m hm).2]at hu;exact hu)⟩
 have skip:∀t,(∀aH,eT [t] aH s->∀eK:al->Prop,eK (fin aH o.dst (.tuple []))->oW C aH o eK)->K (kY s [t] o.dst [] (.tuple [])) (fin s o.dst (.tuple []))->∃nG ms,K nG (eX ms s)/\I3 C o s nG ms:=by
  intro t ph aw;obtain⟨mh,mn,bF⟩:=Wa o.dst (.tuple []);refine⟨_,mh,by rw[<-bF];exact aw,?_,?_,I4.1,I4.2⟩
  .intro aH aa eK nT;exact ph aH aa eK (by rw[bF];exact nT)
  .intro m hm;simp only[kY,List.mem_append];exact⟨.inl (mn m hm).1,λu hu=>by rw[(mn m hm).2]at hu;simp[I.aa]at hu⟩
 unfold oX at h;split at h
 .rename_i hg;exact op _ (λ_ h=>h) (λaH _ eK hw=>by unfold oW;rw[hg];exact hw) h
 .rename_i t b hg;split at h
  .rename_i gW ab;split at h
   .rename_i e;refine op (t::use s o.b8) (λu hu=>by simp[hu]) (λaH aa eK hw=>?_) h;have:aH t=s t:=aa t (by simp);unfold oW;rw[hg];simp only[this,ab,if_pos e];exact hw
   .rename_i e;refine skip t (λaH aa eK aw=>?_) h;have:aH t=s t:=aa t (by simp);unfold oW;rw[hg];simp only[this,ab,if_neg e];exact aw
  .rename_i ab;refine skip t (λaH aa eK aw=>?_) h;have:aH t=s t:=aa t (by simp);unfold oW;rw[hg];simp only[this,ab];exact aw
  .exact h.elim
def xY (C:cx) (ros:List cC):al->List (Nat×fQ×List iw)->Prop
 |_,[]=>True
 |s,e::r=>(∃o,ros[e.1]? =some o/\I3 C o s e.2.1 e.2.2)/\xY C ros (eX e.2.2 s) r
def s0 (s:al) (r:List (Nat×fQ×List iw)):al:=r.foldl (λs e=>eX e.2.2 s) s
def rh (a b:azt):Bool:=a.all λx=> !b.contains x
theorem BS {a b:azt} (h:rh a b=true):∀x∈a,x∉b:=by
 intro x ao;simp only[rh,List.all_eq_true]at h;simpa using h x ao
def zx (a b:fQ):Bool:=rh b.T a.ee&&rh b.T a.H&&rh b.T a.T&&rh a.T b.ee&&rh a.T b.H&&b.c
theorem af5 {ros:List cC} {s:al} {a b:Nat×fQ×List iw} {r:List (Nat×fQ×List iw)} (h:xY C ros s (a::b::r)) (ai:zx a.2.1 b.2.1=true):
  xY C ros s (b::a::r)/\s0 s (b::a::r)=s0 s (a::b::r):=by
 obtain⟨⟨af6,bq,J,a2,a3,a4⟩,⟨cj,ab,h3,fZ,f_,bw⟩,aR⟩:=h;simp only[zx,Bool.and_eq_true]at ai;obtain⟨⟨⟨⟨⟨xy,i2⟩,i3⟩,i4⟩,i5⟩,MC⟩:=ai;have Oc:∀u∈b.2.1.ee,eX a.2.2 s u=s u:=by
  intro u hu;refine afO _ _ _ (λm hm e=>?_) (bw MC u hu);exact BS i4 m.x (a2 m hm).1 (e▸hu)
 have Od:∀u∈a.2.1.ee,eX b.2.2 s u=s u:=by
  intro u hu;refine afP _ _ _ λm hm=>⟨λe=>?_,λao=>?_⟩
  .exact BS xy m.x (fZ m hm).1 (e▸hu)
  .exact BS i2 m.x (fZ m hm).1 (a3 u hu _ ao)
 have Wf:eX b.2.2 (eX a.2.2 s)=eX a.2.2 (eX b.2.2 s):=by
  refine afR _ _ _ λm hm n aX=>⟨λe=>?_,λh=>?_,λh=>?_⟩
  .exact BS i3 n.x (fZ n aX).1 (e▸(a2 m hm).1)
  .exact BS i2 n.x (fZ n aX).1 ((a2 m hm).2 _ h)
  .exact BS i5 m.x (a2 m hm).1 ((fZ n aX).2 _ h)
 refine⟨⟨⟨cj,ab,?_,fZ,?_,?_⟩,⟨af6,bq,?_,a2,?_,?_⟩,?_⟩,?_⟩
 .intro aH aa K aw;exact h3 aH (λu hu=>(aa u hu).trans (Oc u hu).symm) K aw
 .intro u hu x ao;exact f_ u hu x (by rw[Oc u hu];exact ao)
 .intro au u hu;have:=bw au u hu
  rwa [Oc u hu]at this
 .intro aH aa K aw;exact J aH (λu hu=>(aa u hu).trans (Od u hu)) K aw
 .intro u hu x ao;rw[Od u hu]at ao;exact a3 u hu x ao
 .intro au u hu;rw[Od u hu];exact a4 au u hu
 .rw[<-Wf];exact aR
 .simp only[s0,List.foldl_cons];rw[Wf]
theorem af7 {ros:List cC} {e:Nat×fQ×List iw} {post:List (Nat×fQ×List iw)}:∀(pre:List (Nat×fQ×List iw)) (s:al),xY C ros s (pre++e::post)->(∀a∈pre,zx a.2.1 e.2.1=true)->
  xY C ros s (e::(pre++post))/\s0 s (e::(pre++post))=s0 s (pre++e::post):=by
 intro pre;induction pre with
 |nil=>intro s h _;exact⟨h,rfl⟩
 |cons a pre ih=>
  intro s h ai;obtain⟨ad,af⟩:=h;obtain⟨g1,g2⟩:=ih _ af λb ab=>ai b (by simp[ab]);have au:xY C ros s (a::e::(pre++post)):=⟨ad,g1⟩
  obtain⟨bZ,cu⟩:=af5 au (ai a (by simp));refine⟨bZ,cu.trans ?_⟩;simp only[s0,List.foldl_cons,List.cons_append]at g2⊢;exact g2
end
def Fo:azr->azr->azr
 |done,[]=>done
 |done,a::r=>Fo (done++[a++a.flatMap λe=>(done[e]?).getD []]) r
def nH (df:azr):azr:=Fo [] df
theorem af8 {df:azr} {l:azt} (hl:∀u i v,l=u++i::v->∀e∈(df[i]?).getD [],e∈u):∀(rest pre done:azr),df=pre++rest->done.length=pre.length->
  (∀u i v,l=u++i::v->∀e∈(done[i]?).getD [],e∈u)->∀u i v,l=u++i::v->∀e∈((Fo done rest)[i]?).getD [],e∈u:=by
 intro rest;induction rest with
 |nil=>intro pre done _ _ h;exact h
 |cons a rest ih=>
  intro pre done Wg hlen h;simp only[Fo];refine ih (pre++[a]) _ (by simp[Wg]) (by simp[hlen]) ?_;intro u i v hu e he;by_cases ai:i<done.length
  .rw[List.getElem?_append_left ai]at he;exact h u i v hu e he
  .rw[List.getElem?_append_right (by omega)]at he;by_cases ET:i-done.length=0
   .rw[ET]at he;simp only[List.getElem?_cons_zero,Option.getD_some,List.mem_append,List.mem_flatMap]at he;have I5:(df[i]?).getD []=a:=by
     have:i=pre.length:=by omega
     rw[Wg,this,List.getElem?_append_right (Nat.le_refl _)];simp
    rcases he with he|⟨hE,qG,he⟩
    .exact hl u i v hu e (by rw[I5];exact he)
    .have EX:=hl u i v hu hE (by rw[I5];exact qG);obtain⟨vW,xZ,rfl⟩:=List.append_of_mem EX;have:=h vW hE (xZ++i::v) (by rw[hu];simp) e he;simp[this]
   .rw[List.getElem?_eq_none (by simp;omega)]at he;simp at he
theorem af9 {df:azr} {l:azt} (hl:∀u i v,l=u++i::v->∀e∈(df[i]?).getD [],e∈u):∀u i v,l=u++i::v->∀e∈((nH df)[i]?).getD [],e∈u:=
 af8 hl df [] [] rfl rfl λu i v _ e he=>by simp at he
def kB (p5:azr):Nat->List (Nat×fQ)->List fQ->Bool
 |_,_,[]=>true
 |j,es,f::aF=>(es.all λe=>((p5[j]?).getD []).contains e.1||zx e.2 f)&&kB p5 (j+1) ((j,f)::es) aF
def Oe (p5:azr) (a b:Nat×fQ×List iw):Prop:=a.1∈(p5[b.1]?).getD []\/zx a.2.1 b.2.1=true
theorem af_ {p5:azr}:∀(jb:List (Nat×fQ×List iw)) (j:Nat) (es:List (Nat×fQ)),jb.map (·.1)=(List.range jb.length).map (·+j)->kB p5 j es (jb.map (·.2.1))=true->
  jb.Pairwise (Oe p5)/\∀e∈es,∀b∈jb,e.1∈(p5[b.1]?).getD []\/zx e.2 b.2.1=true:=by
 intro jb;induction jb with
 |nil=>intro j es _ _;exact⟨.nil,λe _ b ab=>by cases ab⟩
 |cons a jb ih=>
  intro j es zy gO;rw[List.length_cons,List.range_succ_eq_map,List.map_cons,List.map_cons,List.map_map]at zy;simp only[List.cons.injEq,Nat.zero_add]at zy;obtain⟨bQ,zy⟩:=zy;simp only[List.map_cons,kB,Bool.and_eq_true,List.all_eq_true,Bool.or_eq_true]at gO;obtain⟨ad,af⟩:=gO;obtain⟨g1,g2⟩:=ih (j+1) _ (by rw[zy];congr 1;funext x;simp;omega) af;refine⟨.cons (λb ab=>?_) g1,λe he b ab=>?_⟩
  .have:=g2 (j,a.2.1) (by simp) b ab;simp only[Oe,bQ];exact this
  .rcases List.mem_cons.1 ab with rfl|ab
   .rw[bQ];exact(ad e he).imp (λh=>by simpa using h) id
   .exact g2 e (by simp[he]) b ab
section
variable {C:cx}
theorem aga {K:Option (List fQ)->al->Prop}:∀(os pre:List cC) (s:al) (acc:List fQ),dK C s os (some acc) K->
  ∃jb,xY C (pre++os) s jb/\jb.map (·.1)=(List.range os.length).map (·+pre.length)/\K (some ((jb.map (·.2.1)).reverse++acc)) (s0 s jb):=by
 intro os;induction os with
 |nil=>intro pre s acc h;exact⟨[],trivial,rfl,h⟩
 |cons o os ih=>
  intro pre s acc h;obtain⟨nG,ms,ad,af⟩:=af4 h;obtain⟨jb,g1,g2,g3⟩:=ih (pre++[o]) _ (nG::acc) ad;refine⟨(pre.length,nG,ms)::jb,⟨⟨o,?_,af⟩,?_⟩,?_,?_⟩
  .rw[List.getElem?_append_right (Nat.le_refl _)];simp
  .simpa using g1
  .rw[List.length_cons,List.range_succ_eq_map,List.map_cons,List.map_cons,List.map_map,g2];simp only[List.cons.injEq,Nat.zero_add,true_and];congr 1;funext x;simp;omega
  .simpa [s0]using g3
theorem agb {ros:List cC} {p5:azr} {K:al->Prop}:∀(l:azt) (jb:List (Nat×fQ×List iw)) (s:al),xY C ros s jb->jb.Pairwise (Oe p5)->l.Nodup->(jb.map (·.1)).Nodup->
  (∀i,i∈l↔i∈jb.map (·.1))->(∀u i v,l=u++i::v->∀e∈(p5[i]?).getD [],e∈jb.map (·.1)->e∈u)->K (s0 s jb)->kW C ros s l K:=by
 intro l;induction l with
 |nil=>
  intro jb s _ _ _ _ hm _ aw;cases jb with
  |nil=>exact aw
  |cons e jb=>have:=(hm e.1).2 (by simp);cases this
 |cons i l ih=>
  intro jb s au ay aX uo hm bS aw;obtain⟨e,he,ai⟩:=List.mem_map.1 ((hm i).1 (by simp));obtain⟨pre,post,rfl⟩:=List.append_of_mem he;have agc:∀a∈pre,zx a.2.1 e.2.1=true:=by
   intro a bq;have aR:=(List.pairwise_append.1 ay).2.2 a bq e (by simp);rcases aR with aR|aR
   .rw[ai]at aR;have:=bS [] i l rfl a.1 aR (by simp only[List.map_append,List.mem_append,List.mem_map];exact .inl ⟨a,bq,rfl⟩);cases this
   .exact aR
  obtain⟨g1,g2⟩:=af7 pre s au agc;obtain⟨⟨o,agd,I6⟩,g3⟩:=g1;have Wh:i∉(pre++post).map (·.1):=by
   have:(pre.map (·.1)++e.1::post.map (·.1)).Nodup:=by simpa using uo
   have bI:=(List.perm_middle.nodup_iff.1 this)
   rw[List.nodup_cons]at bI;rw[<-ai];simpa using bI.1
  simp only[kW];rw[<-ai,agd];refine I6.1 s (λ_ _=>rfl) _ ?_;rw[List.nodup_cons]at aX;refine ih (pre++post) _ g3 ?_ aX.2 ?_ ?_ ?_ ?_
  .exact ay.sublist ((List.Sublist.refl pre).append (List.sublist_cons_self e post))
  .have:(pre.map (·.1)++e.1::post.map (·.1)).Nodup:=by simpa using uo
   have bI:=(List.perm_middle.nodup_iff.1 this)
   rw[List.nodup_cons]at bI;simpa using bI.2
  .intro j;constructor
   .intro bQ;have ad:=(hm j).1 (by simp[bQ]);simp only[List.map_append,List.map_cons,List.mem_append,List.mem_cons]at ad⊢;rcases ad with ad|rfl|ad
    .exact .inl ad
    .exact(aX.1 (ai▸bQ)).elim
    .exact .inr ad
   .intro bQ;have ad:=(hm j).2 (by
     simp only[List.map_append,List.map_cons,List.mem_append,List.mem_cons]at bQ⊢;exact bQ.imp id .inr)
    rcases List.mem_cons.1 ad with rfl|ad
    .exact(Wh bQ).elim
    .exact ad
  .intro u j v hu x ao Of;have ad:=bS (i::u) j v (by rw[hu];rfl) x ao (by
    simp only[List.map_append,List.map_cons,List.mem_append,List.mem_cons]at Of⊢;exact Of.imp id .inr)
   rcases List.mem_cons.1 ad with rfl|ad
   .exact(Wh Of).elim
   .exact ad
  .have:s0 s (e::(pre++post))=s0 (eX e.2.2 s) (pre++post):=rfl;rw[<-this,g2];exact aw
theorem I7 {ros:List cC} {df:azr} {s:al} {K:al->Prop} (hlen:df.length=ros.length)
  (h:dK C s ros (some []) (λacc s=>kB (nH df) 0 [] (acc.getD []).reverse=true/\K s)):∀l,sX df l->kW C ros s l K:=by
 intro l ⟨h2,l2,EZ⟩;obtain⟨jb,g1,g2,g3,g4⟩:=aga ros [] s [] h;simp only[List.nil_append,List.append_nil,List.length_nil,Option.getD_some,List.reverse_reverse]at g1 g2 g3;have hl:jb.length=ros.length:=by have:=congrArg List.length g2;simpa using this
 have zy:jb.map (·.1)=(List.range jb.length).map (·+0):=by rw[g2,hl]
 have aR:jb.map (·.1)=List.range ros.length:=by rw[g2];simp
 obtain⟨hc,_⟩:=af_ jb 0 [] zy g3;refine agb l jb s g1 hc h2 (by rw[aR];exact List.nodup_range) (λi=>?_) (λu i v hu e he _=>af9 EZ u i v hu e he) g4;rw[aR,l2,hlen,List.mem_range]
end
def p6 (C:cx) (dst:Option Nat) (os:List cC) (K:Option (List fQ)->al->Prop):Option (I×al)->Prop
 |some (av,s1)=>dK C (fin s1 dst av) os none K
 |none=>False
def qJ (C:cx) (l:azx) (ee dL:azt) (dst:Option Nat) (os:List cC) (a:List fQ) (K:Option (List fQ)->al->Prop):Option (I×al)->Prop
 |some (av,s1)=>dK C (fin s1 dst av) os (some (kY (ar l) ee dst dL av::a)) K
 |none=>False
def lW (C:cx) (l:azx) (dst:Option Nat) (b8:e6) (t:Nat) (b:Bool) (os:List cC) (acc:Option (List fQ)) (K:Option (List fQ)->al->Prop):I->Prop
 | .bool gW=>if gW=b then qI C (ar l) b8 (λdL av s1=>dK C (fin s1 dst av) os (sZ acc (kY (ar l) (t::use (ar l) b8) dst dL av)) K)else dK C (fin (ar l) dst (.tuple [])) os (sZ acc (kY (ar l) [t] dst [] (.tuple []))) K
 | .tuple []=>dK C (fin (ar l) dst (.tuple [])) os (sZ acc (kY (ar l) [t] dst [] (.tuple []))) K
 |_=>False
section
variable {C:cx} {l:azx} {os:List cC} {K:Option (List fQ)->al->Prop} {dst:Option Nat} {a:List fQ} {acc:Option (List fQ)}
theorem I8 {s:al} {b8:e6} {K:azt->I->al->Prop} (aX:b8.j4=false):qI C s b8 K=(match cl C s b8 with
  |some (av,s1)=>K (mi s b8) av s1
  |none=>False):=by
 apply propext;constructor
 .intro h;cases b8<;>first
   |(simp[e6.j4]at aX;done)
   |(obtain⟨av,s1,ad,af⟩:=h;rw[ad];exact af)
 .intro h;split at h
  .rename_i av s1 he;cases b8<;>first
    |(simp[e6.j4]at aX;done)
    |exact⟨av,s1,he,h⟩
  .exact h.elim
theorem Wi:dK C (ar l) [] acc K=K acc (ar l):=rfl
theorem x0 {b8:e6} (aX:b8.j4=false):dK C (ar l) (⟨dst,b8,none⟩::os) none K=p6 C dst os K (cl C (ar l) b8):=by
 simp only[dK,oX,sZ];rw[I8 aX];cases cl C (ar l) b8 with
 |none=>rfl
 |some p=>rfl
theorem zz {b8:e6} (aX:b8.j4=false):dK C (ar l) (⟨dst,b8,none⟩::os) (some a) K=qJ C l (use (ar l) b8) (mi (ar l) b8) dst os a K (cl C (ar l) b8):=by
 simp only[dK,oX,sZ];rw[I8 aX];cases cl C (ar l) b8 with
 |none=>rfl
 |some p=>rfl
theorem Wj {b8:e6} {t:Nat} {b:Bool}:dK C (ar l) (⟨dst,b8,some (t,b)⟩::os) acc K=lW C l dst b8 t b os acc K (ar l t):=by
 simp only[dK,oX];generalize ar l t=v;cases v<;>first|rfl|(rename_i vs;cases vs<;>rfl)
theorem Og {b8:e6} {t:Nat} {b:Bool} (aX:b8.j4=false):lW C l dst b8 t b os none K (.bool b)=p6 C dst os K (cl C (ar l) b8):=by
 simp only[lW,if_true];rw[I8 aX];cases cl C (ar l) b8 with
 |none=>rfl
 |some p=>rfl
theorem Oh {b8:e6} {t:Nat} {b:Bool} (aX:b8.j4=false):lW C l dst b8 t b os (some a) K (.bool b)=qJ C l (t::use (ar l) b8) (mi (ar l) b8) dst os a K (cl C (ar l) b8):=by
 simp only[lW,if_true];rw[I8 aX];cases cl C (ar l) b8 with
 |none=>rfl
 |some p=>rfl
theorem age {b8:e6} {t:Nat}:lW C l dst b8 t true os none K (.bool false)=dK C (fin (ar l) dst (.tuple [])) os none K/\lW C l dst b8 t false os none K (.bool true)=dK C (fin (ar l) dst (.tuple [])) os none K/\
  (∀b,lW C l dst b8 t b os none K (.tuple [])=dK C (fin (ar l) dst (.tuple [])) os none K):=⟨rfl,rfl,λ_=>rfl⟩
theorem agf {b8:e6} {t:Nat}:lW C l dst b8 t true os (some a) K (.bool false)=dK C (fin (ar l) dst (.tuple [])) os (some (kY (ar l) [t] dst [] (.tuple [])::a)) K/\
  lW C l dst b8 t false os (some a) K (.bool true)=dK C (fin (ar l) dst (.tuple [])) os (some (kY (ar l) [t] dst [] (.tuple [])::a)) K/\
  (∀b,lW C l dst b8 t b os (some a) K (.tuple [])=dK C (fin (ar l) dst (.tuple [])) os (some (kY (ar l) [t] dst [] (.tuple [])::a)) K):=⟨rfl,rfl,λ_=>rfl⟩
theorem agh (av:I) (s1:al):p6 C dst os K (some (av,s1))=dK C (fin s1 dst av) os none K:=rfl
theorem agi (ee dL:azt) (av:I) (s1:al):qJ C l ee dL dst os a K (some (av,s1))=dK C (fin s1 dst av) os (some (kY (ar l) ee dst dL av::a)) K:=rfl
def zA (s:al):I->Option (I×al)
 | .h y q=>dL s (.h y q)
 |d=>some (d,s)
def Wk (s:al):I->I->I->Option (I×al)
 | .bool gW,x,y=>some (if gW then x else y,s)
 |_,_,_=>none
def lC (s:al):Option I->Option (I×al)
 |some d=>some (d,s)
 |none=>none
def de:Option al->Option (I×al)
 |some s1=>some (.hole,s1)
 |none=>none
def lD (s:al):List bC->azy
 |[]=>[]
 |x::xs=>bA s x::lD s xs
def x1 (s:al):List (Nat×bC)->azx
 |[]=>[]
 |(k,x)::xs=>(k,bA s x)::x1 s xs
def Fp (s:al):Option bC->Option I
 |none=>none
 |some x=>some (bA s x)
theorem Oi (s:al) (x:Option I):(x.map λd=>(d,s))=lC s x:=by cases x<;>rfl
theorem Wl (x:Option al):(x.map λs1=>(I.hole,s1))=de x:=by cases x<;>rfl
theorem BT (s:al):∀xs:List bC,xs.map (bA s)=lD s xs
 |[]=>rfl
 |x::xs=>by simp only[List.map_cons,lD,BT s xs]
theorem Wm (s:al):∀xs:List (Nat×bC),(xs.map λp=>(p.1,bA s p.2))=x1 s xs
 |[]=>rfl
 |(k,x)::xs=>by simp only[List.map_cons,x1,Wm s xs]
theorem agj (s:al) (x:Option bC):x.map (bA s)=Fp s x:=by cases x<;>rfl
theorem Wn:(∀x,e6.j4 (.gY x)=false)/\
  (∀x,e6.j4 (.h5 x)=false)/\
  (∀c x y,e6.j4 (.pick c x y)=false)/\
  (∀T,e6.j4 (.nb T)=false)/\
  (∀T x,e6.j4 (.iF T x)=false)/\
  (∀T ps,e6.j4 (.gH T ps)=false)/\
  (∀T n ps,e6.j4 (.eh T n ps)=false)/\
  (∀T x,e6.j4 (.fX T x)=false)/\
  (∀T x y,e6.j4 (.k5 T x y)=false)/\
  (∀x,e6.j4 (.mD x)=false)/\
  (∀op T x y,e6.j4 (.eS op T x y)=false)/\
  (∀op x,e6.j4 (.un op x)=false)/\
  (∀A B x,e6.j4 (.k7 A B x)=false)/\
  (∀f cs,e6.j4 (.pZ f cs)=false)/\
  (∀T x y,e6.j4 (.fq T x y)=false)/\
  (∀T x fS ai,e6.j4 (.i_ T x fS ai)=false)/\
  (∀T x k,e6.j4 (.h9 T x k)=false)/\
  (∀T x y,e6.j4 (.kS T x y)=false)/\
  (∀T x y,e6.j4 (.idx T x y)=false)/\
  (∀x k,e6.j4 (.ex x k)=false)/\
  (∀T x,e6.j4 (.len T x)=false)/\
  (∀T ee x y,e6.j4 (.app T ee x y)=false):=by
 and_intros<;>intros<;>rfl
theorem Wo:(∀x,cl C (ar l) (.gY x)=some (bA (ar l) x,ar l))/\
  (∀x,cl C (ar l) (.h5 x)=zA (ar l) (bA (ar l) x))/\
  (∀c x y,cl C (ar l) (.pick c x y)=Wk (ar l) (bA (ar l) c) (bA (ar l) x) (bA (ar l) y))/\
  (∀T,cl C (ar l) (.nb T)=lC (ar l) (nb C T))/\
  (∀T x,cl C (ar l) (.iF T x)=iF (ar l) (bA (ar l) x))/\
  (∀T ps,cl C (ar l) (.gH T ps)=gH C (ar l) T (x1 (ar l) ps))/\
  (∀T n ps,cl C (ar l) (.eh T n ps)=eh C (ar l) T n (x1 (ar l) ps))/\
  (∀T x,cl C (ar l) (.fX T x)=lC (ar l) (fX C (ar l) T (bA (ar l) x)))/\
  (∀T x y,cl C (ar l) (.k5 T x y)=de (k5 C (ar l) T (bA (ar l) x) (bA (ar l) y)))/\
  (∀x,cl C (ar l) (.mD x)=lC (ar l) (mD (ar l) (bA (ar l) x)))/\
  (∀op T x y,cl C (ar l) (.eS op T x y)=lC (ar l) (eS C (ar l) op T (bA (ar l) x) (bA (ar l) y)))/\
  (∀op x,cl C (ar l) (.un op x)=lC (ar l) (un op (bA (ar l) x)))/\
  (∀A B x,cl C (ar l) (.k7 A B x)=lC (ar l) (k7 C (ar l) A B (bA (ar l) x)))/\
  (∀f cs,cl C (ar l) (.pZ f cs)=some (.fn f (lD (ar l) cs),ar l))/\
  (∀T x y,cl C (ar l) (.fq T x y)=lC (ar l) (fq C T (bA (ar l) x) (bA (ar l) y)))/\
  (∀T x fS ai,cl C (ar l) (.i_ T x fS ai)=i_ C (ar l) T (bA (ar l) x) (Fp (ar l) fS) (Fp (ar l) ai))/\
  (∀T x k,cl C (ar l) (.h9 T x k)=lC (ar l) (h9 C (ar l) T (bA (ar l) x) k))/\
  (∀T x y,cl C (ar l) (.kS T x y)=lC (ar l) (kS C (ar l) T (bA (ar l) x) (bA (ar l) y)))/\
  (∀T x y,cl C (ar l) (.idx T x y)=lC (ar l) (idx C T (bA (ar l) x) (bA (ar l) y)))/\
  (∀x k,cl C (ar l) (.ex x k)=lC (ar l) (ex (ar l) (bA (ar l) x) k))/\
  (∀T x,cl C (ar l) (.len T x)=lC (ar l) (vK C (ar l) T (bA (ar l) x)))/\
  (∀T ee x y,cl C (ar l) (.app T ee x y)=vO C (ar l) T ee (bA (ar l) x) (bA (ar l) y)):=by
 and_intros<;>intros<;>first|rfl|(simp only[cl,Oi,Wl,Wm,BT,agj];done)|(simp only[cl];cases bA (ar l) _<;>first|rfl|(rename_i b;cases b<;>rfl))
end
theorem Wp:∀t d,uc t d=if I.plain d=true then d else .h t []:=λ_ _=>rfl
theorem Wq:(∀l av,fin (ar l) none av=ar l)/\(∀l t av,fin (ar l) (some t) av=ar ((t,av)::if I.plain av=true then l else vU t l)):=
 ⟨λ_ _=>rfl,λl t av=>by
  simp only[fin];split
  .rw[Fj]
  .rw[N8,Fj]⟩
theorem Oj:
  (∀k n,I.plain (.int k n)=true)/\
  (∀b,I.plain (.bool b)=true)/\
  (∀x,I.plain (.str x)=true)/\
  (∀xs,I.plain (.slice xs)=true)/\
  (∀d,I.plain (.ref d)=true)/\
  (∀f cap,I.plain (.fn f cap)=true)/\
  (∀x q,I.plain (.h x q)=true)/\
  (∀x q,I.plain (.ay x q)=true)/\
  (I.plain .eA=true)/\
  (I.plain .bf=true)/\
  (I.plain .gx=true)/\
  (I.plain .hole=true)/\
  (∀sz xs,I.plain (.ag sz xs)=false)/\
  (∀d,I.plain (.aM d)=false)/\
  (∀aF,I.plain (.agg aF)=I.e_ aF)/\
  (∀aF,I.plain (.tuple aF)=I.e_ aF)/\
  (I.e_ []=true)/\
  (∀d ds,I.e_ (d::ds)=(d.plain&&I.e_ ds)):=
 ⟨λ_ _=>rfl,λ_=>rfl,λ_=>rfl,λ_=>rfl,λ_=>rfl,λ_ _=>rfl,λ_ _=>rfl,λ_ _=>rfl,rfl,rfl,rfl,rfl,λ_ _=>rfl,λ_=>rfl,λ_=>rfl,λ_=>rfl,rfl,λ_ _=>rfl⟩
theorem Wr:∀s d,zA s d=match d with| .h y q=>dL s (.h y q)|d=>some (d,s):=λ_ _=>by unfold zA;rfl
theorem Ws:
  (∀t k n,dI t (.int k n)=(.int k n))/\
  (∀t b,dI t (.bool b)=(.bool b))/\
  (∀t x,dI t (.str x)=(.str x))/\
  (∀t xs,dI t (.slice xs)=(.slice xs))/\
  (∀t d,dI t (.ref d)=(.ref d))/\
  (∀t,dI t .eA= .eA)/\
  (∀t,dI t .bf= .bf)/\
  (∀t,dI t .gx= .gx)/\
  (∀t,dI t .hole= .hole)/\
  (∀t sz xs,dI t (.ag sz xs)=(.ag sz xs))/\
  (∀t d,dI t (.aM d)=(.aM d))/\
  (∀t aF,dI t (.agg aF)=(.agg aF))/\
  (∀t aF,dI t (.tuple aF)=(.tuple aF))/\
  (∀t y q,dI t (.h y q)=if y=t then .hole else .h y q)/\
  (∀t y q,dI t (.ay y q)=if y=t then .hole else .ay y q)/\
  (∀t f c,dI t (.fn f c)= .fn f (lu t c))/\
  (∀t,lu t []=[])/\
  (∀t d ds,lu t (d::ds)=dI t d::lu t ds)/\
  (∀t,vU t []=[])/\
  (∀t u d l,vU t ((u,d)::l)=(u,dI t d)::vU t l)/\
  (∀t l,oR t (ar l)=ar (vU t l)):=
 ⟨λ_ _ _=>by unfold dI;rfl,λ_ _=>by unfold dI;rfl,λ_ _=>by unfold dI;rfl,λ_ _=>by unfold dI;rfl,λ_ _=>by unfold dI;rfl,λ_=>by unfold dI;rfl,λ_=>by unfold dI;rfl,λ_=>by unfold dI;rfl,λ_=>by unfold dI;rfl,λ_ _ _=>by unfold dI;rfl,λ_ _=>by unfold dI;rfl,λ_ _=>by unfold dI;rfl,λ_ _=>by unfold dI;rfl,λ_ _ _=>by unfold dI;rfl,λ_ _ _=>by unfold dI;rfl,λ_ _ _=>by simp only[dI],λ_=>by simp only[lu],λ_ _ _=>by simp only[lu],λ_=>rfl,λ_ _ _ _=>rfl,λt l=>N8 t l⟩
theorem Wt:
  (∀t k n,c1 t (.int k n)=(.int k n))/\
  (∀t b,c1 t (.bool b)=(.bool b))/\
  (∀t x,c1 t (.str x)=(.str x))/\
  (∀t xs,c1 t (.slice xs)=(.slice xs))/\
  (∀t d,c1 t (.ref d)=(.ref d))/\
  (∀t,c1 t .eA= .eA)/\
  (∀t,c1 t .bf= .bf)/\
  (∀t,c1 t .gx= .gx)/\
  (∀t,c1 t .hole= .hole)/\
  (∀t sz xs,c1 t (.ag sz xs)=(.ag sz xs))/\
  (∀t d,c1 t (.aM d)=(.aM d))/\
  (∀t aF,c1 t (.agg aF)=(.agg aF))/\
  (∀t aF,c1 t (.tuple aF)=(.tuple aF))/\
  (∀t y,c1 t (.h y [])= .h y [])/\
  (∀t y k q,c1 t (.h y (k::q))=if y=t then .hole else .h y (k::q))/\
  (∀t y q,c1 t (.ay y q)=if y=t then .hole else .ay y q)/\
  (∀t f c,c1 t (.fn f c)= .fn f (kQ t c))/\
  (∀t,kQ t []=[])/\
  (∀t d ds,kQ t (d::ds)=c1 t d::kQ t ds)/\
  (∀t,zu t []=[])/\
  (∀t u d l,zu t ((u,d)::l)=(u,c1 t d)::zu t l)/\
  (∀t l,jB t (ar l)=ar (zu t l)):=
 ⟨λ_ _ _=>by unfold c1;rfl,λ_ _=>by unfold c1;rfl,λ_ _=>by unfold c1;rfl,λ_ _=>by unfold c1;rfl,λ_ _=>by unfold c1;rfl,λ_=>by unfold c1;rfl,λ_=>by unfold c1;rfl,λ_=>by unfold c1;rfl,λ_=>by unfold c1;rfl,λ_ _ _=>by unfold c1;rfl,λ_ _=>by unfold c1;rfl,λ_ _=>by unfold c1;rfl,λ_ _=>by unfold c1;rfl,λ_ _=>by simp[c1],λ_ _ _ _=>by simp[c1],λ_ _ _=>by unfold c1;rfl,λ_ _ _=>by simp only[c1],λ_=>by simp only[kQ],λ_ _ _=>by simp only[kQ],λ_=>rfl,λ_ _ _ _=>rfl,λt l=>afK t l⟩
def Ok:qv->Bool->Option I
 | .bool,b=>some (.bool b)
 |_,_=>none
def x2 (neg:Bool):qv->Option azu->Option I
 | .slice _,some r=>some (sK neg r)
 |_,_=>none
def zB (neg:Bool):qv->azu->Option I
 | .ptr _,some b=>some (.bool (b !=neg))
 |_,_=>none
theorem Wu (C:cx) (s:al) (T:TypeId):
  (∀op k a dv b,eS C s op T (.int k a) (.int dv b)=k6 op k a dv b)/\
  (∀op a b,eS C s op T (.str a) (.str b)=qz op a b)/\
  (∀a b,eS C s .eql T (.bool a) (.bool b)=Ok (C.T T).k (a==b))/\
  (∀a b,eS C s .neq T (.bool a) (.bool b)=Ok (C.T T).k (!(a==b)))/\
  (∀xs,eS C s .eql T (.slice xs) .bf=x2 false (C.T T).k (mg s (.slice xs)))/\
  (∀xs,eS C s .neq T (.slice xs) .bf=x2 true (C.T T).k (mg s (.slice xs)))/\
  (eS C s .eql T .bf .bf=x2 false (C.T T).k (mg s .bf))/\
  (eS C s .neq T .bf .bf=x2 true (C.T T).k (mg s .bf))/\
  (∀x q,eS C s .eql T (.h x q) .bf=x2 false (C.T T).k (mg s (.h x q)))/\
  (∀x q,eS C s .neq T (.h x q) .bf=x2 true (C.T T).k (mg s (.h x q)))/\
  (∀x q,eS C s .eql T (.h x q) .eA=zB false (C.T T).k (oi s (.h x q)))/\
  (∀x q,eS C s .neq T (.h x q) .eA=zB true (C.T T).k (oi s (.h x q)))/\
  (∀d,eS C s .eql T (.ref d) .eA=zB false (C.T T).k (oi s (.ref d)))/\
  (∀d,eS C s .neq T (.ref d) .eA=zB true (C.T T).k (oi s (.ref d)))/\
  (eS C s .eql T .eA .eA=zB false (C.T T).k (oi s .eA))/\
  (eS C s .neq T .eA .eA=zB true (C.T T).k (oi s .eA)):=by
 refine⟨?_,?_,?_,?_,?_,?_,?_,?_,?_,?_,?_,?_,?_,?_,?_,?_⟩<;>intros<;>first
  |rfl
  |(simp only[eS]
    generalize (C.T T).k=nA;cases nA<;>first|rfl|(simp only[x2];generalize mg s _=v;cases v<;>rfl)|(simp only[zB];generalize oi s _=v;cases v<;>(try (rename_i b;cases b))<;>rfl))
theorem Wv (k:IntKind) (a b:Int):
  k6 .add k a k b=some (.int k (k.wrap (a+b)))/\k6 .sub k a k b=some (.int k (k.wrap (a-b)))/\k6 .mul k a k b=some (.int k (k.wrap (a*b)))/\
  k6 .eql k a k b=some (.bool (a==b))/\k6 .neq k a k b=some (.bool (a !=b))/\k6 .lss k a k b=some (.bool (decide (a<b)))/\k6 .leq k a k b=some (.bool (decide (a<=b)))/\
  k6 .gtr k a k b=some (.bool (decide (b<a)))/\k6 .geq k a k b=some (.bool (decide (b<=a)))/\
  k6 .and k a k b=some (.int k (bitsOf .and k a b))/\k6 .or k a k b=some (.int k (bitsOf .or k a b))/\k6 .xor k a k b=some (.int k (bitsOf .xor k a b))/\k6 .andNot k a k b=some (.int k (bitsOf .andNot k a b)):=by
 simp[k6]
theorem agk {k:IntKind} {a b:Int} (h:b≠0):k6 .quo k a k b=some (.int k (k.wrap (a.tdiv b))):=by simp[k6,h]
theorem agl {k:IntKind} {a b:Int} (h:b≠0):k6 .rem k a k b=some (.int k (a.tmod b)):=by simp[k6,h]
theorem Ww (a b:azq):
  qz .eql a b=some (.bool (a==b))/\qz .neq a b=some (.bool !(a==b))/\qz .lss a b=some (.bool (Op.bytesLess a b))/\
  qz .leq a b=some (.bool (Op.bytesLess a b||a==b))/\qz .gtr a b=some (.bool !(Op.bytesLess a b||a==b))/\qz .geq a b=some (.bool !(Op.bytesLess a b)):=by
 refine⟨rfl,rfl,rfl,rfl,rfl,rfl⟩
theorem Wx:(∀b,un .not (.bool b)=some (.bool !b))/\(un .not .gx=some .gx)/\(∀k n,un .neg (.int k n)=some (.int k (k.wrap (0-n)))):=⟨λ_=>rfl,rfl,λ_ _=>rfl⟩
def Ol:qv->Option UInt8->Option I
 | .str,some c=>some (.int .u8 c.toNat)
 |_,_=>none
theorem Wy (C:cx) (T:TypeId) (l:azq) (k:IntKind) (n:Int):idx C T (.str l) (.int k n)=Ol (C.T T).k (bj l n):=by
 simp only[idx,bj];generalize (C.T T).k=nA;cases nA<;>first|rfl|(simp only[Ol];split<;>first|rfl|(cases l[n.toNat]? <;>rfl))
def Om (C:cx):qv->Option I->Option I
 | .slice e,some d=>if(C.T e).ok=true/\d.wd=(C.T e).sz then some (.ref d)else none
 |_,_=>none
theorem Wz (C:cx) (s:al) (T:TypeId) (xs:azy) (k:IntKind) (n:Int):kS C s T (.slice xs) (.int k n)=Om C (C.T T).k (bj xs n):=by
 simp only[kS,bj];generalize (C.T T).k=nA;cases nA<;>first|rfl|skip
 simp only[Om];by_cases a_:0<=n
 .simp only[a_,true_and,if_true];split
  .cases xs[n.toNat]? <;>simp[*]
  .cases xs[n.toNat]? <;>simp[*]
 .simp only[a_,false_and,if_false]
def Fq (C:cx) (y:Nat) (q:azt) (n:Int):qv->Option I->Option I
 | .slice e,some (.ag sz xs)=>if(bj xs n).isSome=true/\(C.T e).ok=true/\sz=(C.T e).sz then some (.ay y (q++[n.toNat]))else none
 |_,_=>none
theorem WA (C:cx) (s:al) (T:TypeId) (y:Nat) (q:azt) (k:IntKind) (n:Int):kS C s T (.h y q) (.int k n)=Fq C y q n (C.T T).k (I.sub q (s y)):=by
 simp only[kS];generalize (C.T T).k=nA;cases nA<;>first|rfl|skip
 rename_i e;cases aa:I.sub q (s y)with
 |none=>simp[Fq]
 |some d=>
  cases d<;>first
   |(simp[Fq];done)
   |skip
  rename_i sz xs;have hg:(bj xs n).isSome=true↔0<=n/\n.toNat<xs.length:=by
   unfold bj;split<;>simp_all<;>omega
  simp only[Fq,hg];by_cases a_:0<=n<;>by_cases ad:(C.T e).ok=true<;>simp[a_,ad]
def BU:qv->al->Option azq->Option (I×al)
 | .str,s,some t=>some (.str t,s)
 |_,_,_=>none
def BV (C:cx):qv->al->azy->Option azy->Option (I×al)
 | .slice e,s,xs,some t=>if(C.T e).ok=true/\∀d∈xs,d.wd=(C.T e).sz then some (.slice t,s)else none
 |_,_,_,_=>none
theorem WB (C:cx) (s:al) (T:TypeId) (l:azq):
  (∀k a dv b,i_ C s T (.str l) (some (.int k a)) (some (.int dv b))=BU (C.T T).k s (gG l a b))/\
  (∀dv b,i_ C s T (.str l) none (some (.int dv b))=BU (C.T T).k s (gG l 0 b))/\
  (∀k a,i_ C s T (.str l) (some (.int k a)) none=BU (C.T T).k s (gG l a l.length)):=by
 have e:∀(fS ai:Option I) (a b:Int),(jX 0 fS=if 0<=a then some a.toNat else none)->(jX l.length ai=if 0<=b then some b.toNat else none)->i_ C s T (.str l) fS ai=BU (C.T T).k s (gG l a b):=by
  intro fS ai a b ad af;simp only[i_];generalize (C.T T).k=nA;cases nA<;>first|rfl|skip
  simp only[ad,af,gG];by_cases bq:0<=a<;>by_cases ab:0<=b<;>simp only[bq,ab,if_true,if_false,BU,true_and,false_and]
  .by_cases au:a<=b/\b<=l.length
   .rw[if_pos ⟨by omega,by omega⟩,if_pos au]
   .rw[if_neg (λh=>au ⟨by omega,by omega⟩),if_neg au]
  .rw[if_neg (by omega)]
 exact⟨λk a dv b=>e _ _ a b rfl rfl,λdv b=>e _ _ 0 b rfl rfl,λk a=>e _ _ a l.length rfl (by simp[jX])⟩
theorem WC (C:cx) (s:al) (T:TypeId) (xs:azy):
  (∀k a dv b,i_ C s T (.slice xs) (some (.int k a)) (some (.int dv b))=BV C (C.T T).k s xs (gG xs a b))/\
  (∀dv b,i_ C s T (.slice xs) none (some (.int dv b))=BV C (C.T T).k s xs (gG xs 0 b))/\
  (∀k a,i_ C s T (.slice xs) (some (.int k a)) none=BV C (C.T T).k s xs (gG xs a xs.length)):=by
 have e:∀(fS ai:Option I) (a b:Int),(jX 0 fS=if 0<=a then some a.toNat else none)->(jX xs.length ai=if 0<=b then some b.toNat else none)->i_ C s T (.slice xs) fS ai=BV C (C.T T).k s xs (gG xs a b):=by
  intro fS ai a b ad af;simp only[i_];generalize (C.T T).k=nA;cases nA<;>first|rfl|skip
  simp only[ad,af,gG];by_cases bq:0<=a<;>by_cases ab:0<=b<;>simp only[bq,ab,if_true,if_false,BV,true_and,false_and]
  .by_cases au:a<=b/\b<=xs.length
   .rw[if_pos au];have ad:a.toNat<=b.toNat:=by omega
    have af:b.toNat<=xs.length:=by omega
    simp only[ad,af,true_and]
   .rw[if_neg (λh=>au ⟨by omega,by omega⟩),if_neg au]
  .rw[if_neg (by omega)]
 exact⟨λk a dv b=>e _ _ a b rfl rfl,λdv b=>e _ _ 0 b rfl rfl,λk a=>e _ _ a xs.length rfl (by simp[jX])⟩
def Fs (q:azt):Option I->Option I
 |some d=>I.sub q d
 |none=>none
theorem WD:(∀d,I.sub [] d=some d)/\(∀k q aF,I.sub (k::q) (.agg aF)=Fs q aF[k]?)/\(∀k q aF,I.sub (k::q) (.tuple aF)=Fs q aF[k]?)/\(∀k q sz xs,I.sub (k::q) (.ag sz xs)=Fs q xs[k]?)/\
  (∀q d,I.sub (0::q) (.aM d)=I.sub q d)/\(∀q d,Fs q (some d)=I.sub q d)/\
  (∀k q a b,I.sub (k::q) (.int a b)=none):=by
 refine⟨λd=>by simp[I.sub],?_,?_,?_,λq d=>by simp[I.sub],λ_ _=>rfl,λ_ _ _ _=>by simp[I.sub]⟩
 .intro k q aF;simp only[I.sub];cases aF[k]? <;>rfl
 .intro k q aF;simp only[I.sub];cases aF[k]? <;>rfl
 .intro k q sz aF;simp only[I.sub];cases aF[k]? <;>rfl
def WE (k:Nat) (q:azt) (n:I) (aF:azy):Option I->I
 |some d=>.agg (aF.set k (I.put q n d))
 |none=>.agg aF
def jc (k:Nat) (q:azt) (n:I) (aF:azy):Option I->I
 |some d=>.tuple (aF.set k (I.put q n d))
 |none=>.tuple aF
def WG (k:Nat) (q:azt) (n:I) (sz:Nat) (xs:azy):Option I->I
 |some d=>.ag sz (xs.set k (I.put q n d))
 |none=>.ag sz xs
theorem WH:(∀n d,I.put [] n d=n)/\(∀k q n aF,I.put (k::q) n (.agg aF)=WE k q n aF aF[k]?)/\(∀k q n aF,I.put (k::q) n (.tuple aF)=jc k q n aF aF[k]?)/\
  (∀k q n sz xs,I.put (k::q) n (.ag sz xs)=WG k q n sz xs xs[k]?)/\(∀q n d,I.put (0::q) n (.aM d)= .aM (I.put q n d))/\
  (∀k q n aF d,WE k q n aF (some d)= .agg (aF.set k (I.put q n d)))/\(∀k q n aF d,jc k q n aF (some d)= .tuple (aF.set k (I.put q n d)))/\
  (∀k q n sz xs d,WG k q n sz xs (some d)= .ag sz (xs.set k (I.put q n d))):=by
 refine⟨λn d=>by simp[I.put],?_,?_,?_,λq n d=>by simp[I.put],λ_ _ _ _ _=>rfl,λ_ _ _ _ _=>rfl,λ_ _ _ _ _ _=>rfl⟩
 .intro k q n aF;simp only[I.put];cases aF[k]? <;>rfl
 .intro k q n aF;simp only[I.put];cases aF[k]? <;>rfl
 .intro k q n sz aF;simp only[I.put];cases aF[k]? <;>rfl
theorem On:(∀k n,I.wd (.int k n)=1)/\(∀b,I.wd (.bool b)=1)/\(∀x,I.wd (.str x)=1)/\(∀x,I.wd (.slice x)=1)/\(∀n x,I.wd (.ag n x)=1)/\(∀x,I.wd (.ref x)=1)/\(∀x,I.wd (.aM x)=1)/\
  I.wd .bf=1/\I.wd .eA=1/\I.wd .hole=1/\I.wd .gx=1/\(∀x y,I.wd (.h x y)=1)/\(∀x y,I.wd (.ay x y)=1)/\(∀x y,I.wd (.fn x y)=1)/\(∀aF,I.wd (.agg aF)=I.fc aF)/\(∀aF,I.wd (.tuple aF)=I.fc aF)/\I.fc []=0/\(∀d ds,I.fc (d::ds)=d.wd+I.fc ds):=by
 simp[I.wd,I.fc]
theorem Oo (l:azq):(∀d∈l.map jn,d.wd=1)=True:=by simp[jn,I.wd]
theorem agm {α:Type} {e:α->I} {n:Nat} (h:∀x,(e x).wd=n) (xs:List α):(∀d∈xs.map e,d.wd=n)=True:=by
 simp only[List.mem_map,eq_iff_iff,iff_true];rintro d ⟨x,_,rfl⟩;exact h x
theorem agn (C:cx) (s:al) (A B:TypeId) (k dv:IntKind) (n:Int) (jo:(C.T A).ok=true) (iR:(C.T B).k= .int dv):k7 C s A B (.int k n)=some (.int dv (dv.wrap n)):=by
 simp only[k7,jo,iR,if_true]
theorem WI (m:Int):jn (pe m)= .int .u8 (u8.wrap m):=by
 have h:0<=u8.wrap m/\u8.wrap m<256:=by rw[wrap_u8];omega
 simp only[jn,pe,UInt8.toNat_ofNat'];congr 1;omega
theorem Oq (m:Int):((pe m).toNat:Int)=u8.wrap m:=by
 have h:=WI m;simpa [jn]using h
section
variable {C:cx} {l:azx} {Q:Exit->al->Prop} {s:al}
theorem iy {ros:List cC} {k:azt} (h:dK C (ar l) ros none (λ_ s=>Q .normal (ar (gZ k s)))):bm C (.eD ros (some k)) Q (ar l):=zw (λ_ _ h=>h) h
theorem Ft {ros:List cC} {df:azr} {k:azt} (hlen:df.length=ros.length) (h:dK C (ar l) ros (some []) (λacc s=>kB (nH df) 0 [] (acc.getD []).reverse=true/\Q .normal (ar (gZ k s)))):
  bm C (.j3 ros df (some k)) Q (ar l):=I7 hlen h
theorem ago {a b:aA} (h:∀fs:Exit->al->Prop,(∀s,eV (bm C b Q) s->fs .normal s)->(∀s,Q .ret s->fs .ret s)->(∀i s,Q (.exit i) s->fs (.exit i) s)->bm C a fs s):bm C (.seq a b) Q s:=
 h _ (λ_ h=>h) (λ_ h=>h) (λ_ _ h=>h)
theorem dh {ros:List cC} {k:azt} {b:aA} (h:dK C (ar l) ros none (λ_ s=>bm C b Q (ar (gZ k s)))):bm C (.seq (.eD ros (some k)) b) Q (ar l):=zw (λ_ _ h=>.inl h) h
theorem kC {ros:List cC} {df:azr} {k:azt} {b:aA} (hlen:df.length=ros.length) (h:dK C (ar l) ros (some []) (λacc s=>kB (nH df) 0 [] (acc.getD []).reverse=true/\bm C b Q (ar (gZ k s)))):
  bm C (.seq (.j3 ros df (some k)) b) Q (ar l):=I7 (K:=λs=>eV (bm C b Q) (ar (gZ k s))) hlen (by
   have key:∀(os:List cC) (s:al) (acc:Option (List fQ)),dK C s os acc (λacc s=>kB (nH df) 0 [] (acc.getD []).reverse=true/\bm C b Q (ar (gZ k s)))->
     dK C s os acc (λacc s=>kB (nH df) 0 [] (acc.getD []).reverse=true/\eV (bm C b Q) (ar (gZ k s))):=by
    intro os;induction os with
    |nil=>intro s acc h;exact⟨h.1,.inl h.2⟩
    |cons o os ih=>
     intro s acc h;have mono:∀{s:al} {b8:e6} {K eK:azt->I->al->Prop},(∀a b c,K a b c->eK a b c)->qI C s b8 K->qI C s b8 eK:=by
      intro s b8 K eK aw h;cases b8 with
      |call f args=>
       obtain⟨g,caps,ps,r,ad,ic,af,aG,bh,b6,dt,dj,ho⟩:=h;exact⟨g,caps,ps,r,ad,ic,af,aG,bh,b6,dt,dj,aw _ _ _ ho⟩
      |shr b8=>obtain⟨av,s1,ad,af,aG,bh⟩:=h;exact⟨av,s1,ad,af,aG,aw _ _ _ bh⟩
      |nd f args us=>
       obtain⟨cu,g,caps,ps,r,ad,ic,af,aG,bh,b6,dt,dj,ho,i6⟩:=h;exact⟨cu,g,caps,ps,r,ad,ic,af,aG,bh,b6,dt,dj,ho,aw _ _ _ i6⟩
      |_=>obtain⟨av,s1,ad,af⟩:=h;exact⟨av,s1,ad,aw _ _ _ af⟩
     simp only[dK,oX]at h⊢;split
     .rename_i hg;rw[hg]at h;exact mono (λ_ _ _=>ih _ _) h
     .rename_i t gW hg;rw[hg]at h;simp only at h;split
      .rename_i axB aa;rw[aa]at h;simp only at h;split
       .rename_i ab;rw[if_pos ab]at h;exact mono (λ_ _ _=>ih _ _) h
       .rename_i ab;rw[if_neg ab]at h;exact ih _ _ h
      .rename_i aa;rw[aa]at h;exact ih _ _ h
      .rename_i ad af;split at h
       .exact ad _ (by assumption)
       .exact af (by assumption)
       .exact h
   exact key _ _ _ h)
theorem jS {c:bC} {a b:aA} (au:bA s c= .bool true) (h:bm C a Q s):bm C (.cond c a b) Q s:=by simp only[bm,au,if_true];exact h
theorem ot {c:bC} {a b:aA} (au:bA s c= .bool false) (h:bm C b Q s):bm C (.cond c a b) Q s:=by simp only[bm,au];exact h
theorem agp {c:bC} {a b:aA} (au:bA s c= .gx) (ad:bm C a Q s) (af:bm C b Q s):bm C (.cond c a b) Q s:=by simp only[bm,au];exact⟨ad,af⟩
theorem agq {id:Nat} {b:aA} (h:∀fs:Exit->al->Prop,(∀s,Q .normal s->fs .normal s)->(∀s,Q .ret s->fs .ret s)->(∀s,Q .normal s->fs (.exit id) s)->(∀i s,i≠id->Q (.exit i) s->fs (.exit i) s)->bm C b fs s):bm C (.block id b) Q s:=
 h (BM id Q) (λ_ h=>h) (λ_ h=>h) (λs h=>by simp only[BM,if_true];exact h) (λi s ai h=>by simp only[BM,if_neg ai];exact h)
theorem cS {id:Nat} (h:Q (.exit id) s):bm C (.exit id) Q s:=h
theorem gr (h:Q .ret s):bm C .ret Q s:=h
theorem aK (h:Q .normal s):bm C .skip Q s:=h
def cL (C:cx) (b:aA) (Q:Exit->al->Prop) (s:al):Prop:=∀Z:al->Prop,(∀aH,bm C b (andThen (eV Z) Q) aH->Z aH)->Z s
theorem p7 {b:aA} (h:eV (cL C b Q) s):bm C (.loop b) Q s:=h
theorem agr {b:aA} (h:∀fs:Exit->al->Prop,(∀s,eV (cL C b Q) s->fs .normal s)->(∀s,Q .ret s->fs .ret s)->(∀i s,Q (.exit i) s->fs (.exit i) s)->bm C b fs s):cL C b Q s:=by
 intro Z BO;refine BO s (N0 b ?_ (h (andThen (eV (cL C b Q)) Q) (λ_ h=>h) (λ_ h=>h) (λ_ _ h=>h)));intro e aH bI;cases e with
 |normal=>exact BN (λs h=>h Z BO) aH bI
 |_=>exact bI
theorem bE {cO:azx} (h:cO.map (·.2)=cO.map λp=>s p.1):xU s cO:=by
 intro p ay;left;induction cO with
 |nil=>cases ay
 |cons a cO ih=>
  simp only[List.map_cons,List.cons.injEq]at h;rcases List.mem_cons.1 ay with rfl|ay
  .exact h.1
  .exact ih h.2 ay
end
section
variable {C:cx} {l:azx} {Q:Exit->al->Prop} {s:al} {os ros:List cC} {K:Option (List fQ)->al->Prop} {dst:Option Nat}
theorem WJ (l:azx):(∀n,bA (ar l) (.t n)=uc n (ar l n))/\(∀av,bA (ar l) (.c av)=av)/\(∀g,bA (ar l) (.f g)= .fn g []):=⟨λ_=>rfl,λ_=>rfl,λ_=>rfl⟩
theorem WK:(∀t,ar [] t= .hole)/\(∀u d (l:azx) t,ar ((u,d)::l) t=if t=u then d else ar l t):=⟨λ_=>rfl,λ_ _ _ _=>rfl⟩
theorem WL (s:al):gZ [] s=[]/\(∀t k,gZ (t::k) s=(t,s t)::gZ k s):=⟨rfl,λ_ _=>rfl⟩
theorem WM (s:al):(∀d,lC s (some d)=some (d,s))/\(∀s1,de (some s1)=some (.hole,s1))/\lD s []=[]/\(∀x xs,lD s (x::xs)=bA s x::lD s xs)/\x1 s []=[]/\(∀k x xs,x1 s ((k,x)::xs)=(k,bA s x)::x1 s xs)/\
  Fp s none=none/\(∀x,Fp s (some x)=some (bA s x))/\(∀b x y,Wk s (.bool b) x y=some (if b=true then x else y,s)):=
 ⟨λ_=>rfl,λ_=>rfl,rfl,λ_ _=>rfl,rfl,λ_ _ _=>rfl,rfl,λ_=>rfl,λb _ _=>by cases b<;>rfl⟩
theorem WN (C:cx):(∀e d,Om C (.slice e) (some d)=if(C.T e).ok=true/\d.wd=(C.T e).sz then some (.ref d)else none)/\
  (∀y q n e sz xs,Fq C y q n (.slice e) (some (.ag sz xs))=if(bj xs n).isSome=true/\(C.T e).ok=true/\sz=(C.T e).sz then some (.ay y (q++[n.toNat]))else none)/\
  (∀e s xs t,BV C (.slice e) s xs (some t)=if(C.T e).ok=true/\∀d∈xs,d.wd=(C.T e).sz then some (.slice t,s)else none):=
 ⟨λ_ _=>rfl,λ_ _ _ _ _ _=>rfl,λ_ _ _ _=>rfl⟩
theorem WO:(∀b,Ok .bool b=some (.bool b))/\(∀c,Ol .str (some c)=some (.int .u8 c.toNat))/\(∀s t,BU .str s (some t)=some (.str t,s))/\(∀q d,Fs q (some d)=I.sub q d):=
 ⟨λ_=>rfl,λ_=>rfl,λ_ _=>rfl,λ_ _=>rfl⟩
theorem WQ (sz bytes:Nat) (z:I):(∀k,hW.ok ⟨.int k,sz,bytes,z⟩=true)/\hW.ok ⟨.bool,sz,bytes,z⟩=true/\hW.ok ⟨.str,sz,bytes,z⟩=true/\(∀e,hW.ok ⟨.ptr e,sz,bytes,z⟩=true)/\(∀e,hW.ok ⟨.slice e,sz,bytes,z⟩=true)/\(∀e,hW.ok ⟨.struct e,sz,bytes,z⟩=true)/\hW.ok ⟨.fn,sz,bytes,z⟩=true:=by
 simp[hW.ok]
theorem WR (sz bytes:Nat) (z:I):(∀k,hW.flat ⟨.int k,sz,bytes,z⟩=true)/\hW.flat ⟨.bool,sz,bytes,z⟩=true/\hW.flat ⟨.str,sz,bytes,z⟩=true/\(∀e,hW.flat ⟨.ptr e,sz,bytes,z⟩=true)/\(∀e,hW.flat ⟨.slice e,sz,bytes,z⟩=true)/\(∀e,hW.flat ⟨.struct e,sz,bytes,z⟩=false)/\hW.flat ⟨.fn,sz,bytes,z⟩=true:=by
 simp[hW.flat]
theorem Fu (c:UInt8) (k:IntKind) (aw:k≠.i8):k.wrap (c.toNat:Int)=(c.toNat:Int):=by
 have:=c.toNat_lt;cases k<;>first|(exact(aw rfl).elim)|(simp[wrap,IntKind.bits,signed];try omega)
theorem Ot (c:UInt8):i64.wrap (c.toNat:Int)=(c.toNat:Int)/\u64.wrap (c.toNat:Int)=(c.toNat:Int)/\u8.wrap (c.toNat:Int)=(c.toNat:Int)/\i32.wrap (c.toNat:Int)=(c.toNat:Int)/\u32.wrap (c.toNat:Int)=(c.toNat:Int):=
 ⟨Fu c _ (by simp),Fu c _ (by simp),Fu c _ (by simp),Fu c _ (by simp),Fu c _ (by simp)⟩
theorem b7 {k:azt} {K:al->Prop} (cO:azx) (h:∀P:azx->Prop,P cO->dK C (ar l) ros none (λ_ s=>P (gZ k s))) (aw:K (ar cO)):dK C (ar l) ros none (λ_ s=>K (ar (gZ k s))):=
 h (λl=>K (ar l)) aw
theorem jr {k:azt} {p5:azr} {K:al->Prop} (cO:azx) (h:∀P:azx->Prop,P cO->dK C (ar l) ros (some []) (λacc s=>kB p5 0 [] (acc.getD []).reverse=true/\P (gZ k s))) (aw:K (ar cO)):
  dK C (ar l) ros (some []) (λacc s=>kB p5 0 [] (acc.getD []).reverse=true/\K (ar (gZ k s))):=
 h (λl=>K (ar l)) aw
theorem aZ.ags (bW:C.fN) {f:FuncId} {fn:Func} {c:Code} {er:aA} {fx:azt} {as outs:azy} {r:I} (bK:C.P.funcs[f]? =some fn) (ab:fn.body=some c)
  (mI:(fn.name== "runtime.NumGoroutine")=false) (aa:gg ⟨fn.ntmps,fx⟩ c=some er.strip) (aX:as.length<=fn.ntmps)
  (h:∀Q:Exit->al->Prop,(∀s,eV (Ends C fx fn.results.toList r outs) s->Q .ret s)->(∀s,eV (Ends C fx fn.results.toList r outs) s->Q .normal s)->bm C er Q (ar (num 0 as))) (ay:er.plain=true:=by kernel_rfl):aZ C f as r outs:=by
 refine aZ.of_wp bW bK ab mI aa aX ?_ ay;rw[Fi];exact h _ (λs h=>⟨.inr rfl,h⟩) (λs h=>⟨.inl rfl,h⟩)
def Fv:azy->I
 |[d]=>d
 |ds=>.tuple ds
theorem hs {fx:azt} {fy:List ResultVar} {r:I} {outs:azy} (ds:azy) (ad:fy.map (ry C s)=ds.map some) (af:r=Fv ds) (aG:(fy.map k_).Nodup)
  (bh:∀(i:Nat) (o:I),outs[i]? =some o->o= .hole\/(o=s i/\o.hX=true/\i∈fx/\i∉fy.map k_)):Ends C fx fy r outs s:=.inl ⟨ds,ad,by subst af;cases ds with|nil=>rfl|cons a t=>cases t<;>rfl,aG,bh⟩
theorem WS {fx:azt} {fy:List ResultVar} {r:I} (t:Nat) (ds:azy) {y:Nat} {q:azt} {d:I} {s1:al} (af:r=Fv ds:=by cases eE (by assumption);rfl) (a_:s t= .h y q:=by rfl) (aw:dL s (.h y q)=some (d,s1):=by rfl) (ad:fy.map (ry C (fin s1 (some t) d))=ds.map some:=by rfl) (aG:(fy.map k_).Nodup:=by decide):Ends C fx fy r [] s:=
 .inr ⟨t,y,q,d,s1,a_,aw,ds,ad,by subst af;cases ds with|nil=>rfl|cons a t=>cases t<;>rfl,aG,λi o h=>by simp at h⟩
theorem agt {fx:azt} {fy:List ResultVar}:∀(i:Nat) (o:I),([]:azy)[i]? =some o->o= .hole\/(o=s i/\o.hX=true/\i∈fx/\i∉fy.map k_):=λi o h=>by simp at h
theorem WT:∀(as ds:azy),(pz as ds).filter (·.g)=[]
 |[],_=>rfl
 |_::_,[]=>rfl
 |a::as,d::ds=>by simp only[pz,List.filter_cons];exact WT as ds
theorem I9 {f:bC} {args:List bC} {g:FuncId} {caps:azy} {K:azt->I->al->Prop} (ds:azy) (r:I)
  (ad:bA (ar l) f= .fn g caps) (ic:I.e_ caps=true) (lV:views (ar l) (lD (ar l) args++caps)=some ds)
  (b6:aZ C g ds r []) (dt:r.res=true) (dj:I.e7 (lD (ar l) args++caps)=[]\/r.dc=true) (hK:K [] r (ar l)):qI C (ar l) (.call f args) K:=by
 obtain⟨aP,aW,aS,cf,cF,cw,cg⟩:=afL _ _ lV;refine⟨g,caps,pz (lD (ar l) args++caps) ds,r,ad,ic,by rw[aP,BT],λp ay=>(aS p ay).1,cf,by rw[aW];exact b6.outs cF.symm,dt,?_,by rw[cw,cg,WT];exact hK⟩;intro hl;refine⟨?_,λp ay=>by rw[(aS p ay).2.2.1];rfl⟩;rcases dj with dj|dj
 .exfalso;simp only[ml,List.any_eq_true]at hl;obtain⟨p,ay,fO⟩:=hl;have hm:=(aS p ay).2.2.2;have:p.a.aa=[]:=by
   have key:∀(as:azy) (a:I),a∈as->I.e7 as=[]->a.aa=[]:=by
    intro as;induction as with
    |nil=>intro a h;cases h
    |cons b as ih=>
     intro a h he;simp only[I.e7,List.append_eq_nil_iff]at he;rcases List.mem_cons.1 h with rfl|h
     .exact he.1
     .exact ih a h he.2
   exact key _ _ hm dj
  rw[this]at fO;simp at fO
 .exact dj
theorem dq {f:bC} {args:List bC} {g:FuncId} {caps:azy} {ds:azy} {r:I} (b6:aZ C g ds r [])
  (ad:bA (ar l) f= .fn g caps:=by rfl) (ic:I.e_ caps=true:=by rfl) (lV:views (ar l) (lD (ar l) args++caps)=some ds:=by rfl)
  (dt:r.res=true:=by rfl) (dj:I.e7 (lD (ar l) args++caps)=[]\/r.dc=true:=by exact .inl (by rfl))
  (hK:dK C (fin (ar l) dst r) os none K):dK C (ar l) (⟨dst,.call f args,none⟩::os) none K:=by
 simp only[dK,oX,sZ];exact I9 ds r ad ic lV b6 dt dj hK
theorem iz {a:List fQ} {f:bC} {args:List bC} {g:FuncId} {caps:azy} {ds:azy} {r:I} (b6:aZ C g ds r [])
  (ad:bA (ar l) f= .fn g caps:=by rfl) (ic:I.e_ caps=true:=by rfl) (lV:views (ar l) (lD (ar l) args++caps)=some ds:=by rfl)
  (dt:r.res=true:=by rfl) (dj:I.e7 (lD (ar l) args++caps)=[]\/r.dc=true:=by exact .inl (by rfl))
  (hK:dK C (fin (ar l) dst r) os (some (kY (ar l) (use (ar l) (.call f args)) dst [] r::a)) K):dK C (ar l) (⟨dst,.call f args,none⟩::os) (some a) K:=by
 simp only[dK,oX,sZ];exact I9 ds r ad ic lV b6 dt dj hK
theorem g_ {t:Nat} {b:Bool} {f:bC} {args:List bC} {g:FuncId} {caps:azy} {ds:azy} {r:I} (b6:aZ C g ds r [])
  (ad:bA (ar l) f= .fn g caps:=by rfl) (ic:I.e_ caps=true:=by rfl) (lV:views (ar l) (lD (ar l) args++caps)=some ds:=by rfl)
  (dt:r.res=true:=by rfl) (dj:I.e7 (lD (ar l) args++caps)=[]\/r.dc=true:=by exact .inl (by rfl))
  (hK:dK C (fin (ar l) dst r) os none K):lW C l dst (.call f args) t b os none K (.bool b):=by
 simp only[lW,if_true];exact I9 ds r ad ic lV b6 dt dj hK
theorem nI {a:List fQ} {t:Nat} {b:Bool} {f:bC} {args:List bC} {g:FuncId} {caps:azy} {ds:azy} {r:I} (b6:aZ C g ds r [])
  (ad:bA (ar l) f= .fn g caps:=by rfl) (ic:I.e_ caps=true:=by rfl) (lV:views (ar l) (lD (ar l) args++caps)=some ds:=by rfl)
  (dt:r.res=true:=by rfl) (dj:I.e7 (lD (ar l) args++caps)=[]\/r.dc=true:=by exact .inl (by rfl))
  (hK:dK C (fin (ar l) dst r) os (some (kY (ar l) (t::use (ar l) (.call f args)) dst [] r::a)) K):lW C l dst (.call f args) t b os (some a) K (.bool b):=by
 simp only[lW,if_true];exact I9 ds r ad ic lV b6 dt dj hK
theorem ht (s:al):views s []=some []/\(∀d ds,views s (d::ds)=(match view s d,views s ds with|some a,some b=>some (a::b)|_,_=>none))/\
  (∀k n,view s (.int k n)=some (.int k n))/\(∀b,view s (.bool b)=some (.bool b))/\(∀x,view s (.str x)=some (.str x))/\(∀x,view s (.slice x)=some (.slice x))/\(∀x,view s (.ref x)=some (.ref x))/\
  view s .bf=some .bf/\view s .eA=some .eA/\(∀aF,view s (.agg aF)=some (.agg aF))/\(∀f cap,view s (.fn f cap)=(views s cap).map (.fn f)):=by
 refine⟨rfl,λd ds=>?_,λ_ _=>rfl,λ_=>rfl,λ_=>rfl,λ_=>rfl,λ_=>rfl,rfl,rfl,λ_=>rfl,λ_ _=>by simp only[view]⟩;simp only[views];rfl
theorem b4 {α:Type} {u e:α->I} (h:∀x,(u x).share=e x) (xs:List α):I.shares (xs.map u)=xs.map e:=by
 rw[I.xz];simp[h]
theorem j5 {α:Type} {u:α->I} (h:∀x,(u x).dc=true) (xs:List α):I.gN (xs.map u)=true:=by
 induction xs with
 |nil=>rfl
 |cons x xs ih=>simp only[List.map_cons,I.gN,h,ih,Bool.and_self]
def x3 (s:al) (H:azt):azx->Prop
 |[]=>True
 |p::l=>(p.2=s p.1\/((s p.1).tree=true/\fP (s p.1) p.2/\p.1∉H))/\x3 s H l
theorem hf {cO:azx} (H:azt) (nY:I.e7 (cO.map (·.2))=H) (h:x3 s H cO):xU s cO:=by
 have key:∀(h2:azx),x3 s H h2->∀p∈h2,p.2=s p.1\/((s p.1).tree=true/\fP (s p.1) p.2/\p.1∉H):=by
  intro h2;induction h2 with
  |nil=>intro _ p ay;cases ay
  |cons a h2 ih=>
   intro h p ay;rcases List.mem_cons.1 ay with rfl|ay
   .exact h.1
   .exact ih h.2 p ay
 have aa:∀(h2:azx),∀dp∈h2,∀u∈dp.2.aa,u∈I.e7 (h2.map (·.2)):=by
  intro h2;induction h2 with
  |nil=>intro p ay;cases ay
  |cons a h2 ih=>
   intro p ay u hu;simp only[List.map_cons,I.e7,List.mem_append];rcases List.mem_cons.1 ay with rfl|ay
   .exact .inl hu
   .exact .inr (ih p ay u hu)
 intro p ay;rcases key _ h p ay with ad|⟨ad,af,aG⟩
 .exact .inl ad
 .refine .inr ⟨ad,af,λdp fw=>.inl λhm=>aG ?_⟩;rw[<-nY];exact aa cO dp fw _ hm
theorem hh {H:azt}:x3 s H []:=trivial
theorem cz {H:azt} {t:Nat} {d:I} {cO:azx} (h:d=s t) (hl:x3 s H cO):x3 s H ((t,d)::cO):=⟨.inl h,hl⟩
theorem ha {H:azt} {t:Nat} {d bT:I} {cO:azx} (e:s t=d) (a8:d.tree=true) (aq:fP d bT) (nY:t∉H) (hl:x3 s H cO):x3 s H ((t,bT)::cO):=⟨.inr ⟨by rw[e];exact a8,by rw[e];exact aq,nY⟩,hl⟩
theorem WU {d e:I} (a8:d.tree=true) (aX:d.own=true) (h:d.share=e):fP d e:=by
 subst h;exact .share d a8 (λvs e=>by subst e;simp[I.own]at aX) (λo e=>by subst e;simp[I.own]at aX)
theorem WV {a b:I} (h:fP a b):∀n,mF (List.replicate n a) (List.replicate n b)
 |0=>.nil
 |n+1=>by simp only[List.replicate_succ];exact .cons h (WV h n)
theorem I_ {α:Type} {sz:Nat} {u:α->I} {z:α} {a:I} (h:fP a (u z)) (n:Nat):fP (.ag sz (List.replicate n a)) (.ag sz ((List.replicate n z).map u)):=by
 rw[List.map_replicate];exact .ag (WV h n)
end
theorem Ja {C:cx} {A B:TypeId} {dv:IntKind} (jo:(C.T A).ok=true) (iR:(C.T B).k= .int dv):∀s k n,k7 C s A B (.int k n)=some (.int dv (dv.wrap n)):=λs k n=>agn C s A B k dv n jo iR
def WW:Option I->Option I
 |some (.ag 1 xs)=>(bytesOf xs).map .str
 |_=>none
theorem WX {C:cx} {A B e:TypeId} (jo:(C.T A).k= .slice e) (iR:(C.T B).k= .str) (he:(C.T e).k= .int .u8):
  (∀s xs,k7 C s A B (.slice xs)=(bytesOf xs).map .str)/\(∀s,k7 C s A B .bf=some (.str []))/\(∀s x q,k7 C s A B (.h x q)=WW (I.sub q (s x))):=by
 have ER:(C.T A).ok=true:=by simp[hW.ok,jo]
 refine⟨λs xs=>?_,λs=>?_,λs x q=>?_⟩
 .simp only[k7,ER,jo,iR,he,if_true]
 .simp only[k7,ER,jo,iR,he,if_true]
 .simp only[k7,ER,jo,iR,he,if_true];rfl
theorem WY (xs:azy):WW (some (.ag 1 xs))=(bytesOf xs).map .str:=rfl
theorem WZ (c:UInt8) (r:azy):bytesOf (jn c::r)=(bytesOf r).map (c::·):=by
 have:=c.toNat_lt;simp only[jn,bytesOf];rw[if_pos (by omega)];simp
theorem W0:bytesOf []=some []/\
  (∀l:azq,bytesOf (l.map jn)=some l)/\
  (∀c r,bytesOf (.int .u8 (c.toNat:Int)::r)=(bytesOf r).map (c::·))/\
  (∀m r,bytesOf (.int .u8 (u8.wrap m)::r)=(bytesOf r).map (pe m::·)):=
 ⟨rfl,adG,λc r=>WZ c r,λm r=>by rw[<-WI];exact WZ _ r⟩
theorem W1 {k:IntKind} {b:Int} (h:b≠0):∀a,k6 .quo k a k b=some (.int k (k.wrap (a.tdiv b))):=λ_=>agk h
theorem x4 {k:IntKind} {b:Int} (h:b≠0):∀a,k6 .rem k a k b=some (.int k (a.tmod b)):=λ_=>agl h
theorem j6 {α:Type} {e:α->I} {n:Nat} (h:∀x,(e x).wd=n):∀xs:List α,(∀d∈xs.map e,d.wd=n)=True:=agm h
theorem all_cons {P:I->Prop} (d:I) (ds:azy):(∀x∈d::ds,P x)=(P d/\∀x∈ds,P x):=by simp
theorem all_nil {P:I->Prop}:(∀x∈([]:azy),P x)=True:=by simp
def W2 (a b:azq):Option Unit->Option I
 |some _=>some (.str (a++b))
 |none=>none
theorem vX (a b:azq):qz .add a b=W2 a b (il (a.length+b.length)):=by
 simp only[qz,il];split<;>rfl
theorem vY (a b:azq) (u:Unit):W2 a b (some u)=some (.str (a++b)):=rfl
theorem W3:(∀l:azt,[]++l=l)/\(∀a (l m:azt),(a::l)++m=a::(l++m)):=⟨λ_=>rfl,λ_ _ _=>rfl⟩
def W4 (C:cx) (e ee:TypeId):Bool:=(C.T e).ok&&((C.T e).zero.wd==(C.T e).sz)&&(flat (C.T e).zero).isSome&&IE C e ee
def Jb (C:cx) (e:TypeId) (xs:azy):Option (azy×al)->Option (I×al)
 |some (c8,s2)=>if(∀d∈c8,d.wd=(C.T e).sz)/\(room (C.T e).bytes (xs.length+c8.length)).isSome=true then some (.ag (C.T e).sz (xs++c8),s2)else none
 |none=>none
def Ou (C:cx) (e:TypeId) (y:I) (o:Option Nat):Option (I×al)->Option (I×al)
 |some (.ag sz xs,s1)=>if sz=(C.T e).sz then Jb C e xs (oj s1 (ny o y))else none
 |_=>none
theorem agu (b n:Nat):(room b n).isSome=true↔n*b<=140737488355328/\n<=9223372036854775807:=by unfold room;split<;>simp_all
theorem kD {C:cx} {T ee e:TypeId} (lx:(C.T T).k= .slice e) (gO:W4 C e ee=true):∀s x y,vO C s T ee x y=Ou C e y x.owner (uu C e s x):=by
 intro s x y;simp only[W4,Bool.and_eq_true,beq_iff_eq]at gO;rw[NC,lx];simp only;rw[if_pos ⟨gO.1.1.1,gO.1.1.2,gO.1.2,gO.2⟩];generalize x.owner=o;cases uu C e s x with
 |none=>rfl
 |some p=>
  obtain⟨d,s1⟩:=p;cases d<;>first
   |rfl
   |(simp only[Ou]
     split
     .rename_i h;subst h;generalize oj s1 (ny o y)=z;cases z with
      |none=>rfl
      |some p=>simp only[Jb,agu]
     .rfl)
def W5:Option (I×al)->Option (azy×al)
 |some (.ag _ c8,s2)=>some (c8,s2)
 |_=>none
theorem kE (s:al):oj s .bf=some ([],s)/\(∀c8,oj s (.slice c8)=some (c8,s))/\(∀l,oj s (.str l)=some (l.map jn,s))/\
  (∀a q,oj s (.h a q)=W5 (dL s (.h a q)))/\(∀n c8,W5 (some (.ag n c8,s))=some (c8,s)):=
 ⟨rfl,λ_=>rfl,λ_=>rfl,λ_ _=>by simp only[oj];rfl,λ_ _=>rfl⟩
theorem kF (C:cx) (e:TypeId):(∀s,uu C e s .bf=some (.ag (C.T e).sz [],s))/\(∀s a q,uu C e s (.h a q)=dL s (.h a q))/\
  (∀y o sz xs s1,Ou C e y o (some (.ag sz xs,s1))=if sz=(C.T e).sz then Jb C e xs (oj s1 (ny o y))else none)/\
  (∀xs c8 s2,Jb C e xs (some (c8,s2))=if(∀d∈c8,d.wd=(C.T e).sz)/\(room (C.T e).bytes (xs.length+c8.length)).isSome=true then some (.ag (C.T e).sz (xs++c8),s2)else none):=
 ⟨λ_=>rfl,λ_ _ _=>rfl,λ_ _ _ _ _=>rfl,λ_ _ _=>rfl⟩
theorem gQ:(∀d,ny none d=d)/\(∀x d,ny (some x) d=c1 x d)/\(∀x q,I.owner (.h x q)=some x)/\I.owner .bf=none:=
 ⟨λ_=>rfl,λ_ _=>rfl,λ_ _=>rfl,rfl⟩
def W6 (s:al) (x:Nat) (q:azt):Option I->Option (I×al)
 |some d=>if d.plain=true then none else some (d,eu (jB x s) x (I.put q d.ej (s x)))
 |none=>none
theorem W7 (s:al) (x:Nat) (q:azt):dL s (.h x q)=W6 s x q (I.sub q (s x)):=by
 simp only[dL];cases I.sub q (s x)<;>rfl
theorem W8 (s:al):(∀x q d,W6 s x q (some d)=if d.plain=true then none else some (d,eu (jB x s) x (I.put q d.ej (s x))))/\(∀k n,dL s (.int k n)=some (.int k n,s))/\(∀b,dL s (.bool b)=some (.bool b,s))/\(∀x,dL s (.str x)=some (.str x,s))/\
  (∀x,dL s (.slice x)=some (.slice x,s))/\(∀x,dL s (.ref x)=some (.ref x,s))/\(∀x,dL s (.agg x)=some (.agg x,s))/\dL s .bf=some (.bf,s)/\dL s .eA=some (.eA,s):=
 ⟨λ_ _ _=>rfl,λ_ _=>rfl,λ_=>rfl,λ_=>rfl,λ_=>rfl,λ_=>rfl,λ_=>rfl,rfl,rfl⟩
theorem W9 (l:azx) (t:Nat) (d:I):eu (ar l) t d=ar ((t,d)::l):=Fj l t d
theorem W_:(∀n x,I.ej (.ag n x)= .hole)/\(∀x,I.ej (.aM x)= .hole)/\(∀aF,I.ej (.agg aF)= .agg (I.od aF))/\(∀aF,I.ej (.tuple aF)= .tuple (I.od aF))/\I.od []=[]/\(∀d ds,I.od (d::ds)=d.ej::I.od ds)/\
  (∀k n,I.ej (.int k n)= .int k n)/\(∀b,I.ej (.bool b)= .bool b)/\(∀x,I.ej (.str x)= .str x)/\(∀x,I.ej (.slice x)= .slice x)/\(∀x,I.ej (.ref x)= .ref x)/\I.ej .bf= .bf/\I.ej .eA= .eA/\I.ej .hole= .hole:=by
 simp[I.ej,I.od]
def zC:Option I->Option I
 |some d=>(match d with| .tuple _=>none| .cj _=>none|d=>if d.plain=true then none else some d.share)
 |none=>none
def zD:Option I->Option I
 |some d=>(match d with| .tuple _=>none|d=>some (.ref d.share))
 |none=>none
theorem hv (s:al) (x:Nat) (q:azt):view s (.h x q)=zC (I.sub q (s x))/\view s (.ay x q)=(if I.gK q (s x)=true then zD (I.sub q (s x))else none):=by
 constructor
 .simp only[view];rfl
 .simp only[view];rfl
theorem hx:(∀n xs,zC (some (.ag n xs))=some (.slice (I.shares xs)))/\(∀d,zC (some (.aM d))=some (.ref d.share))/\(∀aF,zC (some (.agg aF))=if I.e_ aF=true then none else some (.agg (I.shares aF)))/\
  (∀aF,zD (some (.agg aF))=some (.ref (.agg (I.shares aF))))/\(∀k n,zD (some (.int k n))=some (.ref (.int k n)))/\(∀x,zD (some (.str x))=some (.ref (.str x))):=
 ⟨λ_ _=>by simp[zC,I.plain,I.share],λ_=>by simp[zC,I.plain,I.share],λaF=>by cases h:I.e_ aF<;>simp[zC,I.plain,I.share,h],λ_=>by simp[zD,I.share],λ_ _=>by simp[zD,I.share],λ_=>by simp[zD,I.share]⟩
theorem cV:(∀n xs,I.share (.ag n xs)= .slice (I.shares xs))/\(∀d,I.share (.aM d)= .ref d.share)/\(∀xs,I.share (.slice xs)= .slice (I.shares xs))/\(∀d,I.share (.ref d)= .ref d.share)/\(∀aF,I.share (.agg aF)= .agg (I.shares aF))/\(∀aF,I.share (.tuple aF)= .tuple (I.shares aF))/\
  (∀k n,I.share (.int k n)= .int k n)/\(∀b,I.share (.bool b)= .bool b)/\(∀x,I.share (.str x)= .str x)/\I.share .bf= .bf/\I.share .eA= .eA/\I.shares []=[]/\(∀d ds,I.shares (d::ds)=d.share::I.shares ds):=by
 simp[I.share,I.shares]
def lX (sz:Nat):Option (azy×al)->Option (I×al)
 |some (ds,s1)=>some (.ag sz ds,s1)
 |none=>none
def dZ:Option (azy×al)->Option (I×al)
 |some (ds,s1)=>some (.agg ds,s1)
 |none=>none
theorem Fw {C:cx} {T e n sz:Nat} {fB:azy} (lx:(C.T T).k= .slice e) (fo:(C.T e).sz=sz) (cd:List.replicate n (C.T e).zero=fB)
  (gO:((C.T e).ok&&((C.T e).zero.wd==sz)&&(flat (C.T e).zero).isSome&&(sz !=0)&&decide (n*sz<=16777216))=true):∀s ps,eh C s T n ps=lX sz (ew (λk=>some (k*sz,sz)) s fB [] ps):=by
 intro s ps;subst fo;simp only[Bool.and_eq_true,beq_iff_eq,bne_iff_ne,decide_eq_true_eq]at gO;obtain⟨⟨⟨⟨ad,af⟩,aG⟩,bh⟩,b6⟩:=gO;unfold eh;rw[lx];simp only;rw[if_pos ⟨ad,af,aG,bh,b6⟩,cd];cases ew (λk=>some (k*(C.T e).sz,(C.T e).sz)) s fB [] ps<;>rfl
theorem ng {C:cx} {T:Nat} {aF:List (TypeId×Nat)} {fB:azy} (lx:(C.T T).k= .struct aF) (cd:(C.T T).zero= .agg fB)
  (gO:((flat (.agg fB)).isSome&&aF.all λf=>(C.T f.1).ok)=true):∀s ps,gH C s T ps=dZ (ew (λk=>(aF[k]?).map λf=>(f.2,(C.T f.1).sz)) s fB [] ps):=by
 intro s ps;simp only[Bool.and_eq_true,List.all_eq_true]at gO;unfold gH;rw[lx,cd];simp only;rw[if_pos ⟨gO.1,gO.2⟩];cases ew (λk=>(aF[k]?).map λf=>(f.2,(C.T f.1).sz)) s fB [] ps<;>rfl
def dB (place:Nat->Option (Nat×Nat)) (k:Nat) (fB:azy) (os:List (Option Nat)) (r:azx) (o:Option Nat):Option (Nat×Nat)->Option I->Option (I×al)->Option (azy×al)
 |some (off,n),some z,some (d,s1)=>(match d with
  | .tuple _=>none
  |d=>if d.wd=n/\z.wd=n/\I.fc (fB.take k)=off then ew place s1 (fB.set k d) (os++[o]) r else none)
 |_,_,_=>none
theorem lY (place:Nat->Option (Nat×Nat)) (s:al) (fB:azy) (os:List (Option Nat)):ew place s fB os []=some (fB,s)/\
  (∀k a r,ew place s fB os ((k,a)::r)=dB place k fB os r (nU os a).owner (place k) fB[k]? (dL s (nU os a))):=by
 refine⟨rfl,λk a r=>?_⟩;simp only[ew];cases dL s (nU os a)with
 |none=>cases place k<;>cases fB[k]? <;>rfl
 |some p=>
  obtain⟨d,s1⟩:=p;cases place k with
  |none=>cases fB[k]? <;>rfl
  |some q=>cases fB[k]? <;>(cases d<;>rfl)
theorem lZ:(∀a,nU [] a=a)/\(∀o os a,nU (o::os) a=nU os (ny o a)):=⟨λ_=>rfl,λ_ _ _=>rfl⟩
theorem cW:(∀k n,I.owner (.int k n)=none)/\(∀b,I.owner (.bool b)=none)/\(∀x,I.owner (.str x)=none)/\(∀x,I.owner (.slice x)=none)/\(∀x,I.owner (.ref x)=none)/\(∀x,I.owner (.agg x)=none)/\I.owner .eA=none/\I.owner .bf=none/\(∀x q,I.owner (.h x q)=some x):=
 ⟨λ_ _=>rfl,λ_=>rfl,λ_=>rfl,λ_=>rfl,λ_=>rfl,λ_=>rfl,rfl,rfl,λ_ _=>rfl⟩
end Go.ep
