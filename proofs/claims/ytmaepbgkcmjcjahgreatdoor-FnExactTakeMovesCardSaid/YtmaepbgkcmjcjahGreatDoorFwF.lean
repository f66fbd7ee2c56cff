/- Part of a proof that a law returns true for every input. No condition. -/
import Derived.Test.YtmaepbgkcmjcjahGreatDoorFwE
import Derived.Orders
import Derived.KernelRfl
import Derived.Test.YtmaepbgkcmjcjahGreatDoorFwA
namespace Go.ei
open Go.IntKind Nat Or
section
variable {C:cy} {w0 w:World} {F0 X:Nat->Prop} {n:Fr} {ρ:Nat->Value} {s s1:al} {a:Act} {av:I} {Q:Exit->Act->World->Prop}
def cC.un (o:cC):cC:=⟨o.dst,o.b3.base,o.guard⟩
theorem Fh {ops:Array Oper}:∀{os:List Oper} {rs:List cC},uC n ops os=some rs->os.length=rs.length/\∀(i:Nat) (o:Oper),os[i]? =some o->∃r,rs[i]? =some r/\uB n ops o=some r:=by
 intro os;induction os with
 |nil=>intro rs h;simp only[uC,Option.some.injEq]at h;subst h;exact⟨rfl,λi o h=>by simp at h⟩
 |cons o os ih=>
  intro rs h;simp only[uC]at h;split at h
  .rename_i r axg ad ag;simp only[Option.some.injEq]at h;subst h;obtain⟨bX,cu⟩:=ih ag;refine⟨by simp[bX],λi qL bO=>?_⟩;cases i with
   |zero=>simp at bO;subst bO;exact⟨r,rfl,ad⟩
   |succ i=>simpa using cu i qL (by simpa using bO)
  .cases h
theorem I7 {o:Oper} {y:Nat->azg} (h:o.guard=none):Region.wanted o y=true:=by simp[Region.wanted,h]
theorem aff (h:Rel w0 F0 X n ρ s a w) {ops:Array Oper} {j t:Nat} (bG:(ops[j]?).bind (·.dst)=some t):
  (∀b,s t= .bool b->yielded ops a.tmps j=some b)/\(s t= .tuple []->yielded ops a.tmps j=none):=by
 obtain⟨ao,aa,bH,F,S,aS⟩:=h;have lq:=aS.eu t;refine⟨λb ab=>?_,λab=>?_⟩
 .rw[ab]at lq;have aF:=xD lq;simp only[yielded,bG,Option.bind_some];rw[Array.getD_eq_getD_getElem?]at aF;cases hg:a.tmps[t]? with
  |none=>rw[hg]at aF;simp[undef]at aF
  |some v=>rw[hg]at aF;simp at aF;subst aF;rfl
 .rw[ab]at lq;obtain⟨⟨arr,ad,ag⟩,_⟩:=(aQ.dx (d:=.tuple []) rfl).1 lq;simp only[yielded,bG,Option.bind_some];rw[Array.getD_eq_getD_getElem?]at ad;cases hg:a.tmps[t]? with
  |none=>rfl
  |some v=>rw[hg]at ad;simp at ad;subst ad;rfl
theorem NT (bU:C.fK) {ops:Array Oper} {ros:List cC} {l2:azf} {K:al->Prop} (aV:∀aE dI aP,K aE->Rel w0 F0 X n ρ aE dI aP->wpOps C.P ops Q l2 dI aP):
  ∀(l:azf),(∀i∈l,(ops[i]? =none->ros[i]? =none)/\∀o,ops[i]? =some o->∃r,ros[i]? =some r/\uB n ops o=some r.un)->
  ∀(s:al) (a:Act) (w:World),kP C ros s l K->Rel w0 F0 X n ρ s a w->wpOps C.P ops Q (l++l2) a w:=by
 intro l;induction l with
 |nil=>intro _ s a w h aS;exact aV s a w h aS
 |cons i l ih=>
  intro rQ s a w h aS;replace ih:=ih λi ai=>rQ i (List.mem_cons_of_mem _ ai);rw[List.cons_append];simp only[wpOps];cases bO:ops[i]? with
  |none=>
   simp only[kP,(rQ i (by simp)).1 bO]at h;exact ih s a w h aS
  |some o=>
   obtain⟨r,ad,ag⟩:=(rQ i (by simp)).2 o bO;simp only[kP,ad]at h;show(if Region.wanted o (yielded ops a.tmps)=true then o.wp C.P a w (wpOps C.P ops Q (l++l2)) Q\/(o.asks C.P a w/\LetsOut Q)else wpOps C.P ops Q (l++l2) (a.put o.dst undef) w);simp only[uB]at ag;split at ag
   .rename_i I8;split at ag
    .rename_i g hg;obtain⟨rd,b3,rg⟩:=r;simp only[cC.un,Option.some.injEq,cC.mk.injEq]at ag;obtain⟨rfl,dd,rfl⟩:=ag;simp only[o0]at h;have run:∀(eG:al->Prop),(∀aE,eG aE->kP C ros aE l K)->rO C s b3 (λav s1=>eG (fin s1 o.dst av))->o.wp C.P a w (wpOps C.P ops Q (l++l2)) Q:=
      λeG hK hw=>afd bU aS dd I8 hw (λaE dI aP aw fA=>ih aE dI aP (hK aE aw) fA)
     cases BR:o.guard with
     |none=>
      rw[BR]at hg;simp only[E9,Option.some.injEq]at hg;subst hg;simp only at h;rw[if_pos (I7 BR)];exact .inl (run _ (λ_ h=>h) h)
     |some NU=>
      obtain⟨j,b⟩:=NU;rw[BR]at hg;simp only[E9]at hg;split at hg
      .rename_i t bb;simp only[Option.some.injEq]at hg;subst hg;simp only at h;obtain⟨fy,gk⟩:=aff aS bb;have V0:∀(eG:kP C ros (fin s o.dst (.tuple [])) l K),wpOps C.P ops Q (l++l2) (a.put o.dst undef) w:=λeG=>ih _ _ _ eG (Rel.skip aS I8);split at h
       .rename_i gV aa;have hy:=fy gV aa;split at h
        .rename_i ab;subst ab;rw[if_pos (by simp[Region.wanted,BR,hy])];exact .inl (run _ (λ_ h=>h) h)
        .rename_i ab;rw[if_neg (by simp[Region.wanted,BR,hy,ab])];exact V0 h
       .rename_i aa;have hy:=gk aa;rw[if_neg (by simp[Region.wanted,BR,hy])];exact V0 h
       .exact h.elim
      .cases hg
    .cases ag
   .cases ag
theorem V1 (bU:C.fK) {ops:Array Oper} {ros:List cC} (xT:uC n ops ops.toList=some (ros.map cC.un)) {K:al->Prop} (aV:∀aE dI aP,K aE->Rel w0 F0 X n ρ aE dI aP->Q .normal dI aP):
  ∀(l:azf) (s:al) (a:Act) (w:World),kP C ros s l K->Rel w0 F0 X n ρ s a w->wpOps C.P ops Q l a w:=by
 obtain⟨hl,rQ⟩:=Fh xT;intro l s a w h aS;have:=NT (Q:=Q) bU (ros:=ros) (ops:=ops) (l2:=[]) (K:=K) (n:=n) (ρ:=ρ) (w0:=w0) (F0:=F0) (X:=X) (λaE dI aP aw fA=>aV aE dI aP aw fA) l (λi _=>⟨λbO=>by
   rw[List.getElem?_eq_none_iff,<-List.length_map (f:=cC.un),<-hl];have:=Array.getElem?_eq_none_iff.1 bO;simpa using this,λo bO=>by
   obtain⟨aj,lh,ag⟩:=rQ i o (by simpa using bO);obtain⟨r,ad,rfl⟩:∃r,ros[i]? =some r/\r.un=aj:=by simpa using lh
   exact⟨r,ad,ag⟩⟩) s a w h aS
 rwa [List.append_nil]at this
theorem Rel.drawn (h:Rel w0 F0 X n ρ s a w) (k:Nat) (aw:w.drawn<=k):Rel w0 F0 X n ρ s a {w with drawn:=k}:=by
 obtain⟨ad,ag,bH,F,S,aD⟩:=h;exact⟨ad,ag,bH,F,S,aD.grow (λ_ _=>rfl) (Nat.le_refl _) rfl rfl ⟨rfl,λ_=>aw⟩⟩
theorem afg (bU:C.fK) {id:Nat} {ops:Array Oper} {ros:List cC} (xT:uC n ops ops.toList=some (ros.map cC.un)) {K:al->Prop} (aV:∀aE dI aP,K aE->Rel w0 F0 X n ρ aE dI aP->Q .normal dI aP)
  (h:oq C s ros K) (aS:Rel w0 F0 X n ρ s a w):(Code.region id ops false).wp C.P Q a w:=by
 refine wp_region (V1 bU xT aV _ s a w ?_ aS);have:=aeY C K ros [] s h;have hl:=(Fh xT).1;simp only[List.nil_append,List.length_nil,Nat.add_zero,List.map_id']at this;rw[List.length_map]at hl;rw[<-hl]at this;simpa using this
end
def s9 (s_:azd) (l:azf):Prop:=
 l.Nodup/\(∀i,i∈l↔i<s_.length)/\∀u i v,l=u++i::v->∀e∈(s_[i]?).getD [],e∈u
def rR (ops:Array Oper):azd:=ops.toList.map λo=>(o.after.toList.filter λe=>Region.binds .any e).map (·.on)
def Fi (s_:azd):Bool:=s_.zipIdx.all λp=>p.1.all λe=>decide (e<p.2)
theorem afh {s_:azd} (h:Fi s_=true) {i:Nat} {l:azf} (ai:s_[i]? =some l):∀e∈l,e<i:=by
 intro e he;simp only[Fi,List.all_eq_true]at h;have:=h (l,i) (by rw[List.mem_zipIdx_iff_getElem?];exact ai) e he;simpa using this
theorem afi {ops:Array Oper} (ab:Fi (rR ops)=true):∀(fuel t:Nat) (listed:Array Bool),listed.size=ops.size->((List.range ops.size).filter λi=> !listed.getD i true).length<=fuel->
  (Region.linearise.go .any ops fuel t listed []).Nodup/\(∀i,i∈Region.linearise.go .any ops fuel t listed []↔(i<ops.size/\listed.getD i true=false))/\
   ∀u i v,Region.linearise.go .any ops fuel t listed []=u++i::v->∀e∈((rR ops)[i]?).getD [],listed.getD e false=true\/e∈u:=by
 intro fuel;induction fuel with
 |zero=>
  intro t listed aa hl;have EV:((List.range ops.size).filter λi=> !listed.getD i true)=[]:=List.length_eq_zero_iff.1 (le_zero.1 hl);refine⟨by simp[Region.linearise.go],λi=>?_,λu i v h=>by simp[Region.linearise.go]at h⟩;simp only[Region.linearise.go,List.reverse_nil,List.not_mem_nil,false_iff,not_and];intro ai bH;have:i∈((List.range ops.size).filter λi=> !listed.getD i true):=List.mem_filter.2 ⟨List.mem_range.2 ai,by rw[bH];rfl⟩;rw[EV]at this;cases this
 |succ fuel ih=>
  intro t listed aa hl;have V2:∀i,i∈Region.ready .any ops listed↔(i<ops.size/\listed.getD i true=false/\∀e∈((rR ops)[i]?).getD [],listed.getD e false=true):=by
   intro i;simp only[Region.ready,List.mem_filter,List.mem_range,Bool.and_eq_true,Bool.not_eq_true'];constructor
   .rintro⟨ad,ag,aD⟩;refine⟨ad,ag,?_⟩;rw[Array.getElem?_eq_getElem ad]at aD;simp only[Option.map_some,Option.getD_some,Array.all_eq_true_iff_forall_mem]at aD;simp only[rR,List.getElem?_map,Array.getElem?_toList,Array.getElem?_eq_getElem ad,Option.map_some,Option.getD_some,List.mem_map,List.mem_filter];rintro e ⟨x,⟨aq,zs⟩,rfl⟩;have:=aD x (by simpa using aq);simpa [zs]using this
   .rintro⟨ad,ag,aD⟩;refine⟨ad,ag,?_⟩;rw[Array.getElem?_eq_getElem ad];simp only[Option.map_some,Option.getD_some,Array.all_eq_true_iff_forall_mem];simp only[rR,List.getElem?_map,Array.getElem?_toList,Array.getElem?_eq_getElem ad,Option.map_some,Option.getD_some,List.mem_map,List.mem_filter]at aD;intro x aq;cases zs:Region.binds .any x with
    |false=>simp
    |true=>simpa using aD x.on ⟨x,⟨by simpa using aq,zs⟩,rfl⟩
  have hex:(∃i,i<ops.size/\listed.getD i true=false)->Region.ready .any ops listed≠[]:=by
   rintro⟨i,ad,ag⟩;have:∃i,(i<ops.size/\listed.getD i true=false)/\∀j,j<i->¬(j<ops.size/\listed.getD j true=false):=by
    induction i using Nat.strongRecOn with
    |_ i afj=>
     by_cases bG:∃j,j<i/\(j<ops.size/\listed.getD j true=false)
     .obtain⟨j,mh,qN,afk⟩:=bG;exact afj j mh qN afk
     .exact⟨i,⟨ad,ag⟩,λj afl au=>bG ⟨j,afl,au⟩⟩
   obtain⟨k,⟨bX,cu⟩,dS⟩:=this;have:k∈Region.ready .any ops listed:=(V2 k).2 ⟨bX,cu,λe he=>by
    cases bo:(rR ops)[k]? with
    |none=>rw[bo]at he;simp at he
    |some l=>
     rw[bo]at he;have eN:=afh ab bo e he;have:=dS e eN;rw[not_and]at this;have:=this (by omega);have qO:e<listed.size:=by omega
     simp only[Array.getD_eq_getD_getElem?,Array.getElem?_eq_getElem qO,Option.getD_some]at this⊢;simpa using this⟩
   intro e;rw[e]at this;cases this
  have iB:Region.linearise.go .any ops (fuel+1) t listed []=(match(Region.ready .any ops listed)[t%(Region.ready .any ops listed).length]? with
   |some i=>Region.linearise.go .any ops fuel (t/(Region.ready .any ops listed).length) (listed.setIfInBounds i true) [i]
   |none=>[]):=rfl
  cases Fj:(Region.ready .any ops listed)[t%(Region.ready .any ops listed).length]? with
  |none=>
   have EV:Region.ready .any ops listed=[]:=by
    cases aS:Region.ready .any ops listed with
    |nil=>rfl
    |cons a l=>
     rw[aS]at Fj;have:=List.getElem?_eq_none_iff.1 Fj;have ag:=mod_lt t (show 0<(a::l).length by simp);omega
   rw[iB,Fj];refine⟨by simp,λi=>?_,λu i v h=>by simp at h⟩;simp only[List.not_mem_nil,false_iff];intro ai;exact hex ⟨i,ai⟩ EV
  |some i=>
   have ai:=(V2 i).1 (List.mem_of_getElem? Fj);obtain⟨Fk,mY,afm⟩:=ai;rw[iB,Fj];simp only;rw[linearise_go_acc];simp only[List.reverse_singleton,List.singleton_append];have xC:∀j d,(listed.setIfInBounds i true).getD j d=if j=i then true else listed.getD j d:=by
    intro j d;split
    .rename_i e;subst e;simp[Array.getD_eq_getD_getElem?,Array.getElem?_setIfInBounds_self_of_lt (show j<listed.size by omega)]
    .rename_i e;simp[Array.getD_eq_getD_getElem?,Array.getElem?_setIfInBounds_ne (λh=>e h.symm)]
   obtain⟨g1,g2,g3⟩:=ih (t/(Region.ready .any ops listed).length) (listed.setIfInBounds i true) (by simpa using aa) (by
    have f_:((List.range ops.size).filter λj=> !(listed.setIfInBounds i true).getD j true)=((List.range ops.size).filter λi=> !listed.getD i true).filter λj=>decide (j≠i):=by
     rw[List.filter_filter];apply List.filter_congr;intro j _;rw[xC];by_cases e:j=i<;>simp[e]
    rw[f_];have eN:(((List.range ops.size).filter λi=> !listed.getD i true).filter λj=>decide (j≠i)).length<((List.range ops.size).filter λi=> !listed.getD i true).length:=by
     rw[List.length_filter_lt_length_iff_exists];exact⟨i,List.mem_filter.2 ⟨List.mem_range.2 Fk,by rw[mY];rfl⟩,by simp⟩
    omega)
   refine⟨?_,λj=>?_,?_⟩
   .rw[List.nodup_cons];refine⟨λhm=>?_,g1⟩;have:=((g2 i).1 hm).2;rw[xC,if_pos rfl]at this;cases this
   .rw[List.mem_cons,g2,xC];by_cases e:j=i
    .subst e;simp[Fk,mY]
    .simp[e]
   .intro u j v h e he;cases u with
    |nil=>
     simp only[List.nil_append,List.cons.injEq]at h;obtain⟨rfl,rfl⟩:=h;exact .inl (afm e he)
    |cons BS u=>
     simp only[List.cons_append,List.cons.injEq]at h;obtain⟨rfl,h⟩:=h;rcases g3 u j v h e he with bF|bF
     .rw[xC]at bF;split at bF
      .rename_i hs;subst hs;exact .inr (by simp)
      .exact .inl bF
     .exact .inr (by simp[bF])
theorem afn {ops:Array Oper} (ab:Fi (rR ops)=true) (t:Nat):s9 (rR ops) (Region.linearise .any ops t):=by
 have V3:∀i d,i<ops.size->(Array.replicate ops.size false).getD i d=false:=by
  intro i d ai;simp[Array.getD_eq_getD_getElem?,ai]
 obtain⟨g1,g2,g3⟩:=afi ab ops.size t (Array.replicate ops.size false) (by simp) (by
  have:=List.length_filter_le (λi=> !(Array.replicate ops.size false).getD i true) (List.range ops.size);simpa using this)
 have hlen:(rR ops).length=ops.size:=by simp[rR]
 refine⟨g1,λi=>?_,λu i v h e he=>?_⟩
 .rw[hlen];rw[show Region.linearise .any ops t=Region.linearise.go .any ops ops.size t (Array.replicate ops.size false) []from rfl,g2];exact⟨λh=>h.1,λh=>⟨h,V3 i true h⟩⟩
 .rcases g3 u i v h e he with bF|bF
  .exfalso;by_cases V4:e<ops.size
   .rw[V3 e false V4]at bF;cases bF
   .simp[Array.getD_eq_getD_getElem?,V4]at bF
  .exact bF
def ar:azj->al
 |[],_=>.hole
 |(u,d)::l,t=>if t=u then d else ar l t
mutual
inductive fR:I->I->Prop
 |refl (d:I):fR d d
 |hv (sz:Nat):fR .bd (.ae sz [])
 |ta:fR .bd (.slice [])
 |any (b:Bool):fR (.bool b) .gu
 |share (d:I):d.tree=true->(∀vs,d≠.tuple vs)->(∀o,d≠.ck o)->fR d d.share
 |agg {ds es:azk}:mE ds es->fR (.agg ds) (.agg es)
 |aM {d e:I}:fR d e->fR (.aM d) (.aM e)
 |ae {sz:Nat} {ds es:azk}:mE ds es->fR (.ae sz ds) (.ae sz es)
 |tuple {ds es:azk}:mE ds es->fR (.tuple ds) (.tuple es)
 |ref {d e:I}:fR d e->fR (.ref d) (.ref e)
 |trans {d e f:I}:fR d e->fR e f->fR d f
inductive mE:azk->azk->Prop
 |nil:mE [] []
 |cons {d e:I} {ds es:azk}:fR d e->mE ds es->mE (d::ds) (e::es)
end
mutual
theorem fR.wd:∀{d e:I},fR d e->e.wd=d.wd
 |_,_,.refl _=>rfl
 |_,_,.hv _=>rfl
 |_,_,.ta=>rfl
 |_,_,.any _=>rfl
 |_,_,.share d _ _ _=>I.Iy d
 |_,_,.agg h=>by simp only[I.wd];exact mE.wd h
 |_,_,.aM _=>rfl
 |_,_,.ae _=>rfl
 |_,_,.tuple h=>by simp only[I.wd];exact mE.wd h
 |_,_,.ref _=>rfl
 |_,_,.trans h k=>(fR.wd k).trans (fR.wd h)
theorem mE.wd:∀{ds es:azk},mE ds es->I.e9 es=I.e9 ds
 |_,_,.nil=>rfl
 |_,_,.cons h aa=>by simp only[I.e9];rw[fR.wd h,mE.wd aa]
end
theorem mE.len {ds es:azk} (h:mE ds es):es.length=ds.length:=by
 induction ds generalizing es with
 |nil=>cases h;rfl
 |cons d ds ih=>cases h with|cons h aa=>simp[ih aa]
theorem mE.all {sz:Nat} {ds es:azk} (h:mE ds es) (ao:∀d∈ds,d.wd=sz):∀d∈es,d.wd=sz:=by
 induction ds generalizing es with
 |nil=>cases h;intro d ao;cases ao
 |cons d ds ih=>
  cases h with
  |cons h aa=>
   intro x aq;rcases List.mem_cons.1 aq with rfl|aq
   .rw[h.wd];exact ao d (by simp)
   .exact ih aa (λd hm=>ao d (by simp[hm])) x aq
section
variable {w0 w:World} {F0 X F:Nat->Prop} {S:Nat->Nat->Prop} {s aE:al} {aH:Nat->Value}
def afo (w:World) (F:Nat->Prop) (_d e:I) (cs:azi) (S:Nat->Prop):Prop:=
 ∃jV jW:Nat->Prop,(∀b,jV b->S b)/\(∀b,jW b->S b)/\(∀b,jW b->¬jV b)/\∀cn,(∀b,F b\/jV b->cn b)->az w cn e cs jW
mutual
theorem az.wider:∀{d e:I},fR d e->∀{F:Nat->Prop} {cs:azi} {S:Nat->Prop},az w F d cs S->afo w F d e cs S
 |_,_,.refl _,F,cs,S,h=>⟨λ_=>False,S,λ_ h=>h.elim,λ_ h=>h,λ_ _ h=>h,λcn bJ=>az.mono (λb ab=>bJ b (.inl ab)) _ _ _ _ (λ_ h=>h) h⟩
 | .bd,_,.hv sz,F,cs,S,h=>⟨λ_=>False,S,λ_ h=>h.elim,λ_ h=>h,λ_ _ h=>h,λcn bJ=>by simp only[az]at h⊢;exact .inl ⟨trivial,_,h⟩⟩
 | .bd,_,.ta,F,cs,S,h=>⟨λ_=>False,S,λ_ h=>h.elim,λ_ h=>h,λ_ _ h=>h,λcn bJ=>by simp only[az]at h⊢;exact .inl ⟨trivial,none,0,h,zero_le _,λ_=>rfl⟩⟩
 | .bool _,_,.any b,F,cs,S,h=>⟨λ_=>False,S,λ_ h=>h.elim,λ_ h=>h,λ_ _ h=>h,λcn bJ=>by simp only[az]at h⊢;exact⟨b,h⟩⟩
 |_,_,.share d _ _ _,F,cs,S,h=>⟨S,λ_=>False,λ_ h=>h,λ_ h=>h.elim,λ_ h=>h.elim,λcn bJ=>az.shared (λb ab=>bJ b (.inl ab)) d cs S (λb ab=>bJ b (.inr ab)) h⟩
 |_,_,.agg lS,F,cs,S,h=>by
  rw[az]at h;obtain⟨jV,jW,ad,ag,aD,bh⟩:=bA.wider lS h;exact⟨jV,jW,ad,ag,aD,λcn bJ=>by rw[az];exact bh cn bJ⟩
 |_,_,.aM ao,F,cs,S,h=>by
  rw[az]at h;obtain⟨b,cur,ty,fr,a_,bX,cu,dS,dW,eB,dw,kj⟩:=h;obtain⟨jV,jW,ad,ag,aD,bh⟩:=az.wider ao eB;refine⟨jV,λc=>c=b\/jW c,λc au=>dw c (ad c au),?_,?_,λcn bJ=>?_⟩
  .rintro c (rfl|au)
   .exact cu
   .exact dw c (ag c au)
  .rintro c (rfl|au) bH
   .exact kj (ad _ bH)
   .exact aD c au bH
  .rw[az];exact⟨b,cur,ty,fr,jW,bX,.inl rfl,dS,dW,bh cn bJ,λc au=>.inr au,λau=>kj (ag _ au)⟩
 | .ae sz ds,.ae _ es,.ae lS,F,cs,S,h=>by
   rw[az]at h;have hl:=lS.len;rcases h with⟨ad,ag⟩|⟨b,cap,cur,ty,fr,a_,bX,cu,dS,dW,eB,dw,kj,fQ,py,kE,V5⟩
   .refine⟨λ_=>False,S,λ_ h=>h.elim,λ_ h=>h,λ_ _ h=>h,λcn _=>?_⟩;rw[az];subst ad;exact .inl ⟨List.length_eq_zero_iff.1 (by simpa using hl),ag⟩
   .obtain⟨jV,jW,ad,ag,aD,bh⟩:=bA.wider lS py;refine⟨jV,λc=>c=b\/jW c,λc au=>kE c (ad c au),?_,?_,λcn bJ=>?_⟩
    .rintro c (rfl|au)
     .exact cu
     .exact kE c (ag c au)
    .rintro c (rfl|au) bH
     .exact V5 (ad _ bH)
     .exact aD c au bH
    .rw[az];refine .inr ⟨b,cap,cur,ty,fr,jW,by rw[hl];exact bX,.inl rfl,dS,dW,by rw[hl];exact eB,dw,kj,lS.all fQ,by rw[hl];exact bh cn bJ,λc au=>.inr au,λau=>V5 (ag _ au)⟩
 |_,_,.tuple lS,F,cs,S,h=>by
  rw[az]at h;obtain⟨jV,jW,ad,ag,aD,bh⟩:=bA.wider lS h;exact⟨jV,jW,ad,ag,aD,λcn bJ=>by rw[az];exact bh cn bJ⟩
 |_,_,.ref ao,F,cs,S,h=>by
  rw[az]at h;obtain⟨b,o,fp,ad,ag,aD,bh⟩:=h;obtain⟨jV,jW,bX,cu,dS,dW⟩:=az.wider ao bh;refine⟨λ_=>False,S,λ_ h=>h.elim,λ_ h=>h,λ_ _ h=>h,λcn bJ=>?_⟩;rw[az];exact⟨b,o,fp,ad,bJ _ (.inl ag),aD,az.mono (λ_ h=>h) _ _ _ _ (λb ab=>cu b ab) (dW cn λb ab=>bJ b (ab.imp id λh=>(bX b h).elim))⟩
 |_,_,.trans ao he,F,cs,S,h=>by
  obtain⟨jV,jW,ad,ag,aD,bh⟩:=az.wider ao h;obtain⟨NV,I9,bX,cu,dS,dW⟩:=az.wider he (F:=λb=>F b\/jV b) (bh _ λ_ h=>h);refine⟨λb=>jV b\/NV b,I9,?_,λb ab=>ag b (cu b ab),?_,λcn bJ=>dW cn λb ab=>?_⟩
  .rintro b (h|h)
   .exact ad b h
   .exact ag b (bX b h)
  .rintro b ab (h|h)
   .exact aD b (cu b ab) h
   .exact dS b ab h
  .rcases ab with(ab|ab)|ab
   .exact bJ b (.inl ab)
   .exact bJ b (.inr (.inl ab))
   .exact bJ b (.inr (.inr ab))
theorem bA.wider:∀{ds es:azk},mE ds es->∀{F:Nat->Prop} {cs:azi} {S:Nat->Prop},bA w F ds cs S->
  ∃jV jW:Nat->Prop,(∀b,jV b->S b)/\(∀b,jW b->S b)/\(∀b,jW b->¬jV b)/\∀cn,(∀b,F b\/jV b->cn b)->bA w cn es cs jW
 |_,_,.nil,F,cs,S,h=>⟨λ_=>False,λ_=>False,λ_ h=>h.elim,λ_ h=>h.elim,λ_ h=>h.elim,λcn bJ=>by rw[bA]at h⊢;exact h⟩
 |_,_,.cons ao lS,F,cs,S,h=>by
  rw[bA]at h;obtain⟨cx,c2,cO,eJ,rfl,g2,g3,g4,g5,g6⟩:=h;obtain⟨afp,V6,J,a2,a3,a4⟩:=az.wider ao g2;obtain⟨NV,I9,hG,fP,gj,bT⟩:=bA.wider lS g3;refine⟨λb=>afp b\/NV b,λb=>V6 b\/I9 b,?_,?_,?_,λcn bJ=>?_⟩
  .rintro b (h|h)
   .exact g4 b (J b h)
   .exact g5 b (hG b h)
  .rintro b (h|h)
   .exact g4 b (a2 b h)
   .exact g5 b (fP b h)
  .rintro b (h|h) (bF|bF)
   .exact a3 b h bF
   .exact g6 b (a2 b h) (hG b bF)
   .exact g6 b (J b bF) (fP b h)
   .exact gj b h bF
  .rw[bA];refine⟨cx,c2,V6,I9,rfl,a4 cn (λb ab=>bJ b (ab.imp id .inl)),bT cn (λb ab=>bJ b (ab.imp id .inr)),λb ab=>.inl ab,λb ab=>.inr ab,λb ad ag=>g6 b (a2 b ad) (fP b ag)⟩
end
theorem fR.I_:∀{d e:I},fR d e->(∀vs,d≠.tuple vs)->∀vs,e≠.tuple vs
 |_,_,.refl _,h=>h
 |_,_,.hv _,_=>λ_ h=>by cases h
 |_,_,.ta,_=>λ_ h=>by cases h
 |_,_,.any _,_=>λ_ h=>by cases h
 |_,_,.share d _ _ _,h=>λvs he=>by cases d<;>first|(cases he;done)|exact h _ rfl
 |_,_,.agg _,_=>λ_ h=>by cases h
 |_,_,.aM _,_=>λ_ h=>by cases h
 |_,_,.ae _,_=>λ_ h=>by cases h
 |_,_,.tuple _,h=>λ_ _=>h _ rfl
 |_,_,.ref _,_=>λ_ h=>by cases h
 |_,_,.trans h k,aV=>fR.I_ k (fR.I_ h aV)
theorem fR.ki:∀{d e:I} {v:Value},fR d e->(∀vs,d≠.tuple vs)->ei.ki d v->ei.ki e v
 |_,_,_,.refl _,_,h=>h
 |_,_,_,.hv _,_,h=>h
 |_,_,_,.ta,_,h=>h
 |_,_,_,.any _,_,h=>h
 |_,_,_,.share d _ aV _,_,h=>by cases d<;>first|exact h|exact(aV _ rfl).elim
 |_,_,_,.agg _,_,h=>h
 |_,_,_,.aM _,_,h=>h
 |_,_,_,.ae _,_,h=>h
 |_,_,_,.tuple _,aV,_=>(aV _ rfl).elim
 |_,_,_,.ref _,_,h=>h
 |_,_,_,.trans h k,aV,aa=>fR.ki k (fR.I_ h aV) (fR.ki h aV aa)
theorem mE.get:∀{ds es:azk},mE ds es->∀(k:Nat) (e:I),es[k]? =some e->∃d,ds[k]? =some d/\fR d e
 |_,_,.nil,k,e,h=>by simp at h
 |_,_,.cons ao aa,0,e,h=>by simp at h;subst h;exact⟨_,rfl,ao⟩
 |_,_,.cons ao aa,k+1,e,h=>mE.get aa k e (by simpa using h)
theorem fR.eY:∀{d e:I} {v:Value},fR d e->ei.eY d v->ei.eY e v
 |_,_,_,.refl _,aa=>aa
 |_,_,_,.hv _,aa=>aa
 |_,_,_,.ta,aa=>aa
 |_,_,_,.any _,aa=>aa
 |_,_,_,.share _ _ nZ _,aa=>NF nZ aa
 |_,_,_,.agg _,aa=>aa
 |_,_,_,.aM _,aa=>aa
 |_,_,_,.ae _,aa=>aa
 |_,_,_,.ref _,aa=>aa
 |_,_,_,.tuple ao,aa=>by
  obtain⟨arr,ad,ag,aD⟩:=aa;refine⟨arr,ad,ag.trans ao.len.symm,λk e x he aq=>?_⟩;obtain⟨d,aw,hw⟩:=ao.get k e he;obtain⟨J,a2,a3⟩:=aD k d x aw aq;exact⟨hw.ki a2 J,hw.I_ a2,a3.trans hw.wd.symm⟩
 |_,_,_,.trans h k,aa=>fR.eY k (fR.eY h aa)
theorem fR.tree:∀{d e:I},fR d e->d.tree=true->e.tree=true
 |_,_,.refl _,ao=>ao
 |_,_,.hv _,_=>rfl
 |_,_,.ta,_=>rfl
 |_,_,.any _,_=>rfl
 |_,_,.share d _ _ nS,ao=>by cases d<;>first|exact ao|rfl|exact(nS _ rfl).elim
 |_,_,.agg _,_=>rfl
 |_,_,.aM _,_=>rfl
 |_,_,.ae _,_=>rfl
 |_,_,.tuple _,_=>rfl
 |_,_,.ref _,_=>rfl
 |_,_,.trans h k,ao=>fR.tree k (fR.tree h ao)
mutual
def I.zy:I->azf
 | .h x q=>if q.isEmpty then []else [x]
 | .ax x _=>[x]
 | .ab x _=>[x]
 | .fn _ cap=>I.Fl cap
 |_=>[]
def I.Fl:azk->azf
 |[]=>[]
 |d::ds=>d.zy++I.Fl ds
end
def Fm (s aE:al) (x:Nat) (D:azf):Prop:=aE x=s x\/aE x= .hole\/((s x).own=true/\(aE x).own=true/\x∉D)
theorem Fm.less {s aE:al} {x:Nat} {D E:azf} (h:Fm s aE x D) (Fo:∀u∈E,u∈D):Fm s aE x E:=by
 rcases h with h|h|⟨ad,ag,aD⟩
 .exact .inl h
 .exact .inr (.inl h)
 .exact .inr (.inr ⟨ad,ag,λaq=>aD (Fo x aq)⟩)
theorem aQ.keep {cn:Nat->Prop} (bJ:∀b,F b->cn b):∀n,(∀(d:I) (v:Value) (eX:Nat->Prop),SizeOf.sizeOf d<=n->(∀x∈d.aa,Fm s aE x d.zy)->aQ w F s aH d v eX->aQ w cn aE aH d v eX)/\
  (∀(ds:azk) (vs:azi),SizeOf.sizeOf ds<=n->(∀x∈I.e3 ds,Fm s aE x (I.Fl ds))->e_ w F s aH ds vs->e_ w cn aE aH ds vs):=by
 intro n;induction n with
 |zero=>
  refine⟨λd v eX cf=>?_,λds vs cf=>?_⟩
  .cases d<;>simp at cf<;>omega
  .cases ds<;>simp at cf<;>omega
 |succ n ih=>
  refine⟨λd v eX cf aw h=>?_,λds vs cf aw h=>?_⟩
  .cases d with
   |hole=>rw[aQ];trivial
   |h x q=>
    rw[aQ]at h⊢;intro e f_ ax;rcases aw x (by simp[I.aa])with he|he|⟨Fp,V7,BT⟩
    .rw[he]at f_⊢;exact h e f_ ax
    .rw[he]at f_;cases q with
     |nil=>simp only[I.sub,Option.some.injEq]at f_;subst f_;simp[I.plain]at ax
     |cons k q=>simp[I.sub]at f_
    .cases q with
     |nil=>
      simp only[I.sub,Option.some.injEq]at f_;subst f_;obtain⟨dK,a0,gY,ix,kh⟩:=h (s x) (by simp only[I.sub]) (zw Fp).1;simp only[eA,Option.some.injEq,Prod.mk.injEq,true_and]at gY;exact⟨c_ (aH x),none,by simp only[eA],by rw[ix,<-gY.1],((zw V7).2.2.2.2.2 _).2 (((zw Fp).2.2.2.2.2 _).1 kh)⟩
     |cons k q=>exact(BT (by simp[I.zy])).elim
   |ax x q=>
    rw[aQ]at h⊢;intro e f_ au;rcases aw x (by simp[I.aa])with he|he|⟨_,_,BT⟩
    .rw[he]at f_ au⊢;exact h e f_ au
    .rw[he]at au;cases q<;>simp[I.gM]at au
    .exact(BT (by simp[I.zy])).elim
   |ab x k=>
    rw[aQ]at h⊢;intro ax;rcases aw x (by simp[I.aa])with he|he|⟨_,_,BT⟩
    rotate_left 2
    .exact(BT (by simp[I.zy])).elim
    .rw[he]at ax;obtain⟨b,cur,e,fr,ad,ag,aD,bh⟩:=h ax;exact⟨b,cur,e,fr,ad,bJ b ag,aD,bh⟩
    .rw[he]at ax;simp[I.plain]at ax
   |fn f cap=>
    rw[aQ]at h⊢;obtain⟨arr,rfl,au⟩:=h;exact⟨arr,rfl,ih.2 _ _ (by simp at cf;omega) (by simpa [I.aa,I.zy]using aw) au⟩
   |_=>
    have bF:=(aQ.dx rfl).1 h;exact(aQ.dx rfl).2 ⟨bF.1,az.mono bJ _ _ _ _ (λ_ h=>h) bF.2⟩
  .cases ds with
   |nil=>rw[e_]at h⊢;exact h
   |cons d ds=>
    rw[e_]at h⊢;obtain⟨v,ma,rfl,ad,ag⟩:=h;simp at cf;simp only[I.e3,List.mem_append]at aw;exact⟨v,ma,rfl,ih.1 _ _ _ (by omega) (λx aq=>(aw x (.inl aq)).less λu hu=>by simp[I.Fl,hu]) ad,ih.2 _ _ (by omega) (λx aq=>(aw x (.inr aq)).less λu hu=>by simp[I.Fl,hu]) ag⟩
def xU (s:al) (l:azj):Prop:=
 ∀p∈l,p.2=s p.1\/((s p.1).tree=true/\fR (s p.1) p.2/\∀dr∈l,p.1∉dr.2.aa\/((s p.1).own=true/\p.2.own=true/\p.1∉dr.2.zy))
theorem V8:∀(l:azj) (t:Nat),ar l t= .hole\/∃p∈l,p.1=t/\ar l t=p.2:=by
 intro l;induction l with
 |nil=>intro t;exact .inl rfl
 |cons p l ih=>
  intro t;obtain⟨u,d⟩:=p;simp only[ar];split
  .rename_i e;exact .inr ⟨(u,d),by simp,e.symm,rfl⟩
  .rcases ih t with h|⟨p,ax,h⟩
   .exact .inl h
   .exact .inr ⟨p,by simp[ax],h⟩
theorem cj.NW (h:cj w0 F0 X F S s aH w) {l:azj} (hw:xU s l):∃cn a_,cj w0 F0 X cn a_ (ar l) aH w:=by
 have each:∀t,∃jV jW:Nat->Prop,(∀b,jV b->S t b)/\(∀b,jW b->S t b)/\(∀b,jW b->¬jV b)/\∀cn,(∀b,F b\/jV b->cn b)->aQ w cn (ar l) aH (ar l t) (aH t) jW:=by
  intro t;rcases V8 l t with e|⟨p,ax,rfl,e⟩
  .exact⟨λ_=>False,λ_=>False,λ_ h=>h.elim,λ_ h=>h.elim,λ_ h=>h.elim,λcn _=>by rw[e,aQ];trivial⟩
  .rw[e];rcases hw p ax with aw|⟨bb,nu,_⟩
   .refine⟨λ_=>False,S p.1,λ_ h=>h.elim,λ_ h=>h,λ_ _ h=>h,λcn bJ=>?_⟩;rw[aw];refine(aQ.keep (λb ab=>bJ b (.inl ab)) (SizeOf.sizeOf (s p.1))).1 _ _ _ (Nat.le_refl _) ?_ (h.eu p.1);intro x aq;rcases V8 l x with hs|⟨dr,fq,rfl,hs⟩
    .exact .inr (.inl hs)
    .rcases hw dr fq with nW|⟨_,_,nS⟩
     .exact .inl (hs.trans nW)
     .rcases nS p ax with nS|⟨pC,mX,s4⟩
      .exact(nS (by rw[aw];exact aq)).elim
      .exact .inr (.inr ⟨pC,by rw[hs];exact mX,by rw[aw]at s4;exact s4⟩)
   .obtain⟨g1,g2⟩:=(aQ.dx bb).1 (h.eu p.1);obtain⟨jV,jW,bX,cu,dS,dW⟩:=az.wider nu g2;exact⟨jV,jW,bX,cu,dS,λcn bJ=>(aQ.dx (nu.tree bb)).2 ⟨nu.eY g1,dW cn bJ⟩⟩
 have cx:=λt=>(each t).choose_spec;let jV:=λt=>(each t).choose
 have c2:=λt=>(cx t).choose_spec;let jW:=λt=>(cx t).choose
 have gZ:∀t b,jV t b->S t b:=λt=>(c2 t).1;have gx:∀t b,jW t b->S t b:=λt=>(c2 t).2.1;have iM:∀t b,jW t b->¬jV t b:=λt=>(c2 t).2.2.1;have jH:=λt=>(c2 t).2.2.2;refine⟨λb=>F b\/∃t,jV t b,jW,λb ab=>.inl (h.h_ b ab),?_,?_,λt b ab=>h.fB t b (gx t b ab),?_,λt u b eb ab hu=>h.gh t u b eb (gx t b ab) (gx u b hu),λt b ab=>h.eX t b (gx t b ab),?_,h.old,h.size,h.os,h.tape,h.output,h.gw⟩
 .rintro b (ab|⟨t,ab⟩)
  .exact h.iL b ab
  .exact .inr (h.eX t b (gZ t b ab))
 .rintro b (ab|⟨t,ab⟩)
  .exact h.gg b ab
  .exact h.fB t b (gZ t b ab)
 .rintro t b ab (bH|⟨u,hu⟩)
  .exact h.gN t b (gx t b ab) bH
  .by_cases e:t=u
   .subst e;exact iM t b ab hu
   .exact h.gh t u b e (gx t b ab) (gZ u b hu)
 .intro t;exact jH t _ (λb ab=>ab.imp id λh=>⟨t,h⟩)
end
inductive aA where
 |skip
 |ew (ros:List cC) (keep:Option azf)
 |jX (ros:List cC) (s_:azd) (keep:Option azf)
 |seq (a b:aA)
 |cond (c:bB) (a b:aA)
 |block (id:Nat) (b:aA)
 |loop (b:aA)
 |exit (id:Nat)
 |ret
 |kQ (T:(Exit->al->Prop)->al->Prop) (b:aA)
 |raw (c:Code)
def gb (n:Fr):Code->Option aA
 | .skip=>some .skip
 | .region id ops false=>match uC n ops ops.toList with
   |some r=>some (.ew r none)
   |none=>some (.raw (.region id ops false))
 | .region _ ops true=>if Fi (rR ops)=true then(uC n ops ops.toList).map λr=>.jX r (rR ops) none else none
 | .seq a b=>match gb n a,gb n b with
   |some a,some b=>some (.seq a b)
   |_,_=>none
 | .cond c a b=>match eK c,gb n a,gb n b with
   |some c,some a,some b=>some (.cond c a b)
   |_,_,_=>none
 | .block id b=>(gb n b).map (.block id)
 | .loop b=>(gb n b).map .loop
 | .exit id=>some (.exit id)
 | .ret=>some .ret
 |_=>none
def aA.nD:aA->aA
 | .ew ros _=>.ew ros none
 | .jX ros de _=>.jX ros de none
 | .seq a b=>.seq a.nD b.nD
 | .cond c a b=>.cond c a.nD b.nD
 | .block id b=>.block id b.nD
 | .loop b=>.loop b.nD
 | .kQ T b=>.kQ T b.nD
 |c=>c
def aA.strip:aA->aA
 | .ew ros _=>.ew (ros.map cC.un) none
 | .jX ros de _=>.jX (ros.map cC.un) de none
 | .seq a b=>.seq a.strip b.strip
 | .cond c a b=>.cond c a.strip b.strip
 | .block id b=>.block id b.strip
 | .loop b=>.loop b.strip
 | .kQ _ b=>b.strip
 |c=>c
theorem aA.NX:∀c:aA,c.nD.strip=c.strip:=by
 intro c;induction c with
 |seq a b mF mG=>simp only[aA.nD,aA.strip,mF,mG]
 |cond c a b mF mG=>simp only[aA.nD,aA.strip,mF,mG]
 |block id b ih=>simp only[aA.nD,aA.strip,ih]
 |loop b ih=>simp only[aA.nD,aA.strip,ih]
 |kQ T b ih=>simp only[aA.nD,aA.strip,ih]
 |_=>rfl
def aA.bare (H:((Exit->al->Prop)->al->Prop)->aA->Prop):aA->Prop
 | .ew _ k=>k=none
 | .jX _ _ k=>k=none
 | .seq a b=>a.bare H/\b.bare H
 | .cond _ a b=>a.bare H/\b.bare H
 | .block _ b=>b.bare H
 | .loop b=>b.bare H
 | .kQ T b=>H T b
 |_=>True
def aA.p8 (H:((Exit->al->Prop)->al->Prop)->aA->Prop):aA->Prop
 | .seq a b=>a.p8 H/\b.p8 H
 | .cond _ a b=>a.p8 H/\b.p8 H
 | .block _ b=>b.p8 H
 | .loop b=>b.p8 H
 | .kQ T b=>H T b.nD
 |_=>True
theorem aA.Ja {H:((Exit->al->Prop)->al->Prop)->aA->Prop}:∀c:aA,c.p8 H->c.nD.bare H:=by
 intro c;induction c with
 |seq a b mF mG=>intro h;exact⟨mF h.1,mG h.2⟩
 |cond c a b mF mG=>intro h;exact⟨mF h.1,mG h.2⟩
 |block id b ih=>intro h;exact ih h
 |loop b ih=>intro h;exact ih h
 |ew=>intro _;rfl
 |jX=>intro _;rfl
 |kQ T b _=>intro h;exact h
 |_=>intro _;trivial
def aA.plain:aA->Bool
 | .seq a b=>a.plain&&b.plain
 | .cond _ a b=>a.plain&&b.plain
 | .block _ b=>b.plain
 | .loop b=>b.plain
 | .kQ _ _=>false
 |_=>true
theorem aA.V9 {H:((Exit->al->Prop)->al->Prop)->aA->Prop}:∀c:aA,c.plain=true->c.p8 H:=by
 intro c;induction c with
 |seq a b mF mG=>intro h;simp only[aA.plain,Bool.and_eq_true]at h;exact⟨mF h.1,mG h.2⟩
 |cond c a b mF mG=>intro h;simp only[aA.plain,Bool.and_eq_true]at h;exact⟨mF h.1,mG h.2⟩
 |block id b ih=>intro h;exact ih h
 |loop b ih=>intro h;exact ih h
 |kQ T b _=>intro h;cases h
 |_=>intro _;trivial
def andThen (K:al->Prop) (Q:Exit->al->Prop):Exit->al->Prop
 | .normal,s=>K s
 |e,s=>Q e s
def BU (id:Nat) (Q:Exit->al->Prop):Exit->al->Prop
 | .exit i,s=>if i=id then Q .normal s else Q (.exit i) s
 |e,s=>Q e s
def eS (K:al->Prop) (s:al):Prop:=K s\/∃l,xU s l/\K (ar l)
def Fq:Option azf->(al->Prop)->al->Prop
 |none,K,s=>eS K s
 |some k,K,s=>K (ar (k.map λt=>(t,s t)))
def bn (C:cy):aA->(Exit->al->Prop)->al->Prop
 | .skip,Q,s=>Q .normal s
 | .ew ros keep,Q,s=>oq C s ros (Fq keep (Q .normal))
 | .jX ros s_ keep,Q,s=>∀l,s9 s_ l->kP C ros s l (Fq keep (Q .normal))
 | .seq a b,Q,s=>bn C a (andThen (eS (bn C b Q)) Q) s
 | .cond c a b,Q,s=>match bx s c with
   | .bool gV=>if gV=true then bn C a Q s else bn C b Q s
   | .gu=>bn C a Q s/\bn C b Q s
   |_=>False
 | .block id b,Q,s=>bn C b (BU id Q) s
 | .loop b,Q,s=>eS (λs=>∀Z:al->Prop,(∀aE,bn C b (andThen (eS Z) Q) aE->Z aE)->Z s) s
 | .exit id,Q,s=>Q (.exit id) s
 | .ret,Q,s=>Q .ret s
 | .kQ T _,Q,s=>∀fl:Exit->al->Prop,(∀e s,Q e s->fl e s)->T fl s
 | .raw _,_,_=>False
section
variable {C:cy}
theorem Jb {s:al} {o:cC} {K eG:al->Prop} (h:o0 C s o K) (aw:∀s,K s->eG s):o0 C s o eG:=by
 unfold o0 at h⊢;split
 .rename_i hg;rw[hg]at h;exact I6 h λav s1=>aw _
 .rename_i t b hg;rw[hg]at h;simp only at h;split
  .rename_i gV aa;rw[aa]at h;simp only at h;split
   .rename_i ab;rw[if_pos ab]at h;exact I6 h λav s1=>aw _
   .rename_i ab;rw[if_neg ab]at h;exact aw _ h
  .rename_i aa;rw[aa]at h;exact aw _ h
  .rename_i ad ag;split at h
   .exact ad _ (by assumption)
   .exact ag (by assumption)
   .exact h
theorem V_ {K eG:al->Prop} (aw:∀s,K s->eG s):∀{ros:List cC} {s:al},oq C s ros K->oq C s ros eG:=by
 intro ros;induction ros with
 |nil=>intro s h;exact aw s h
 |cons o ros ih=>intro s h;exact Jb h λs h=>ih h
theorem Wa {ros:List cC} {K eG:al->Prop} (aw:∀s,K s->eG s):∀{l:azf} {s:al},kP C ros s l K->kP C ros s l eG:=by
 intro l;induction l with
 |nil=>intro s h;exact aw s h
 |cons i l ih=>
  intro s h;simp only[kP]at h⊢;split
  .rename_i bO;rw[bO]at h;exact ih h
  .rename_i o bO;rw[bO]at h;exact Jb h λs h=>ih h
theorem BV {K eG:al->Prop} (aw:∀s,K s->eG s) (s:al) (h:eS K s):eS eG s:=
 h.imp (aw s) λ⟨l,ad,ag⟩=>⟨l,ad,aw _ ag⟩
theorem Wb {keep:Option azf} {K eG:al->Prop} (aw:∀s,K s->eG s) (s:al) (h:Fq keep K s):Fq keep eG s:=by
 cases keep with
 |none=>exact BV aw s h
 |some k=>exact aw _ h
theorem Wc {keep:Option azf} {K:al->Prop} {s:al} (h:Fq keep K s):eS K s:=by
 cases keep with
 |none=>exact h
 |some k=>
  refine .inr ⟨_,?_,h⟩;intro p ax;obtain⟨t,_,rfl⟩:=List.mem_map.1 ax;exact .inl rfl
theorem NY {K eG:al->Prop} {Q fl:Exit->al->Prop} (aw:∀s,K s->eG s) (cE:∀e s,Q e s->fl e s):∀e s,andThen K Q e s->andThen eG fl e s:=by
 intro e s h;cases e with
 |normal=>exact aw s h
 |_=>exact cE _ s h
theorem NZ:∀(c:aA) {Q fl:Exit->al->Prop} {s:al},(∀e s,Q e s->fl e s)->bn C c Q s->bn C c fl s:=by
 intro c;induction c with
 |skip=>intro Q fl s cE h;exact cE _ _ h
 |ew ros keep=>intro Q fl s cE h;exact V_ (Wb (cE _)) h
 |jX ros s_ keep=>intro Q fl s cE h l hl;exact Wa (Wb (cE _)) (h l hl)
 |seq a b mF mG=>
  intro Q fl s cE h;exact mF (NY (λs h=>BV (λ_ h=>mG cE h) s h) cE) h
 |cond c a b mF mG=>
  intro Q fl s cE h;simp only[bn]at h⊢;split
  .rename_i gV ab;rw[ab]at h;simp only at h;split
   .rename_i e;rw[if_pos e]at h;exact mF cE h
   .rename_i e;rw[if_neg e]at h;exact mG cE h
  .rename_i ab;rw[ab]at h;exact⟨mF cE h.1,mG cE h.2⟩
  .rename_i ad ag;split at h
   .exact ad _ (by assumption)
   .exact ag (by assumption)
   .exact h
 |block id b ih=>
  intro Q fl s cE h;refine ih ?_ h;intro e s h;cases e with
  |exit i=>
   simp only[BU]at h⊢;split
   .rename_i e;rw[if_pos e]at h;exact cE _ _ h
   .rename_i e;rw[if_neg e]at h;exact cE _ _ h
  |_=>exact cE _ _ h
 |loop b ih=>
  intro Q fl s cE h;refine BV (λs h Z BW=>?_) s h;exact h Z λaE gd=>BW aE (ih (NY (λ_ h=>h) cE) gd)
 |exit id=>intro Q fl s cE h;exact cE _ _ h
 |ret=>intro Q fl s cE h;exact cE _ _ h
 |kQ T b _=>intro Q fl s cE h N0 ag;exact h N0 λe s he=>ag e s (cE e s he)
 |raw c=>intro Q fl s cE h;exact h
theorem Jc:∀(c:aA) {Q:Exit->al->Prop} {s:al},bn C c Q s->bn C c.nD Q s:=by
 intro c;induction c with
 |ew ros keep=>intro Q s h;exact V_ (λs h=>Wc h) h
 |jX ros de keep=>intro Q s h l hl;exact Wa (λs h=>Wc h) (h l hl)
 |seq a b mF mG=>intro Q s h;exact mF (NZ a (NY (λs h=>BV (λ_ h=>mG h) s h) (λ_ _ h=>h)) h)
 |cond c a b mF mG=>
  intro Q s h;simp only[aA.nD,bn]at h⊢;split
  .rename_i gV ab;rw[ab]at h;simp only at h;split
   .rename_i e;rw[if_pos e]at h;exact mF h
   .rename_i e;rw[if_neg e]at h;exact mG h
  .rename_i ab;rw[ab]at h;exact⟨mF h.1,mG h.2⟩
  .rename_i ad ag;split at h
   .exact ad _ (by assumption)
   .exact ag (by assumption)
   .exact h
 |block id b ih=>intro Q s h;exact ih h
 |loop b ih=>
  intro Q s h;refine BV (λs h Z BW=>?_) s h;exact h Z λaE gd=>BW aE (ih gd)
 |kQ T b _=>intro Q s h;exact h
 |_=>intro Q s h;exact h
variable {w0 w:World} {F0 X:Nat->Prop} {n:Fr} {ρ:Nat->Value} {s:al} {a:Act}
def zz (w0:World) (F0 X:Nat->Prop) (n:Fr) (ρ:Nat->Value) (Q:Exit->al->Prop):Exit->Act->World->Prop:=λe a w=>∃s,Q e s/\Rel w0 F0 X n ρ s a w
theorem Rel.eS {K:al->Prop} {s:al} {a:Act} {w:World} (aS:Rel w0 F0 X n ρ s a w) (h:eS K s):∃aE,K aE/\Rel w0 F0 X n ρ aE a w:=by
 rcases h with h|⟨l,ad,ag⟩
 .exact⟨s,h,aS⟩
 .obtain⟨g1,g2,g3,F,S,g4⟩:=aS;obtain⟨cn,a_,g5⟩:=g4.NW ad;exact⟨ar l,ag,g1,g2,g3,cn,a_,g5⟩
theorem aA.afq {c:aA} (h:c.strip= .skip):c= .skip\/∃T b,c= .kQ T b:=by cases c<;>first|exact .inl rfl|exact .inr ⟨_,_,rfl⟩|cases h
theorem aA.afr {c:aA} (h:c.strip= .ret):c= .ret\/∃T b,c= .kQ T b:=by cases c<;>first|exact .inl rfl|exact .inr ⟨_,_,rfl⟩|cases h
theorem aA.afs {c:aA} {i:Nat} (h:c.strip= .exit i):c= .exit i\/∃T b,c= .kQ T b:=by cases c<;>first|exact .inl h|exact .inr ⟨_,_,rfl⟩|cases h
theorem aA.aft {c:aA} {x:Code} (h:c.strip= .raw x):c= .raw x\/∃T b,c= .kQ T b:=by cases c<;>first|exact .inl h|exact .inr ⟨_,_,rfl⟩|cases h
theorem aA.afu {c:aA} {r:List cC} {k:Option azf} (h:c.strip= .ew r k):(∃ros dv,c= .ew ros dv/\ros.map cC.un=r)\/∃T b,c= .kQ T b:=by
 cases c<;>first|(cases h;exact .inl ⟨_,_,rfl,rfl⟩)|exact .inr ⟨_,_,rfl⟩|cases h
theorem aA.afv {c:aA} {r:List cC} {de:azd} {k:Option azf} (h:c.strip= .jX r de k):(∃ros Wd dv,c= .jX ros Wd dv/\ros.map cC.un=r/\Wd=de)\/∃T b,c= .kQ T b:=by
 cases c<;>first|(cases h;exact .inl ⟨_,_,_,rfl,rfl,rfl⟩)|exact .inr ⟨_,_,rfl⟩|cases h
theorem aA.afw {c x y:aA} (h:c.strip= .seq x y):(∃a b,c= .seq a b/\a.strip=x/\b.strip=y)\/∃T b,c= .kQ T b:=by
 cases c<;>first|(cases h;exact .inl ⟨_,_,rfl,rfl,rfl⟩)|exact .inr ⟨_,_,rfl⟩|cases h
theorem aA.afx {c x y:aA} {o:bB} (h:c.strip= .cond o x y):(∃qL a b,c= .cond qL a b/\qL=o/\a.strip=x/\b.strip=y)\/∃T b,c= .kQ T b:=by
 cases c<;>first|(cases h;exact .inl ⟨_,_,_,rfl,rfl,rfl,rfl⟩)|exact .inr ⟨_,_,rfl⟩|cases h
theorem aA.afy {c x:aA} {i:Nat} (h:c.strip= .block i x):(∃a,c= .block i a/\a.strip=x)\/∃T b,c= .kQ T b:=by
 cases c<;>first|(cases h;exact .inl ⟨_,rfl,rfl⟩)|exact .inr ⟨_,_,rfl⟩|cases h
theorem aA.afz {c x:aA} (h:c.strip= .loop x):(∃a,c= .loop a/\a.strip=x)\/∃T b,c= .kQ T b:=by
 cases c<;>first|(cases h;exact .inl ⟨_,rfl,rfl⟩)|exact .inr ⟨_,_,rfl⟩|cases h
theorem N1 (bU:C.fK) {H:((Exit->al->Prop)->al->Prop)->aA->Prop}
  (n0:∀(c:Code) (T:(Exit->al->Prop)->al->Prop) (b:aA) (Q:Exit->al->Prop) (s:al) (a:Act) (w:World),H T b->gb n c=some b.strip->T Q s->Rel w0 F0 X n ρ s a w->c.wp C.P (zz w0 F0 X n ρ Q) a w):
  ∀(c:Code) {ej:aA} {Q:Exit->al->Prop} {s:al} {a:Act} {w:World},gb n c=some ej.strip->ej.bare H->bn C ej Q s->Rel w0 F0 X n ρ s a w->c.wp C.P (zz w0 F0 X n ρ Q) a w:=by
 intro c;induction c with
 |skip=>
  intro ej Q s a w aa iN h aS;have nE:=aa;simp only[gb,Option.some.injEq]at aa;rcases aA.afq aa.symm with rfl|⟨T,b,rfl⟩
  .exact wp_skip ⟨s,h,aS⟩
  .exact n0 _ T b Q s a w iN (by simpa only[aA.strip]using nE) (h Q λ_ _ h=>h) aS
 |region id ops draw=>
  intro ej Q s a w aa iN h aS;have nE:=aa;cases draw with
  |false=>
   simp only[gb]at aa;split at aa
   rotate_left
   .have gd:=(Option.some.injEq _ _▸aa).symm;rcases aA.aft gd with rfl|⟨T,b,rfl⟩
    .exact h.elim
    .exact n0 _ T b Q s a w iN (by simpa only[aA.strip]using nE) (h Q λ_ _ h=>h) aS
   rename_i afA Fs;simp only[Option.some.injEq]at aa;rcases aA.afu aa.symm with⟨ros,k,rfl,rfl⟩|⟨T,b,rfl⟩
   rotate_left
   .exact n0 _ T b Q s a w iN (by simpa only[aA.strip]using nE) (h Q λ_ _ h=>h) aS
   cases iN;exact afg bU Fs (λaE dI aP aw fA=>fA.eS aw) h aS
  |true=>
   simp only[gb]at aa;split at aa
   .rename_i ab;simp only[Option.map_eq_some_iff]at aa;obtain⟨afA,Fs,aa⟩:=aa;rcases aA.afv aa.symm with⟨ros,de,k,rfl,rfl,rfl⟩|⟨T,b,rfl⟩
    rotate_left
    .exact n0 _ T b Q s a w iN (by simpa only[aA.strip]using nE) (h Q λ_ _ h=>h) aS
    cases iN;refine wp_region_draw λt=>?_;rw[show Region.schedule (C.P.follows .mixedOrders) ops t=Region.linearise .any ops t by simp[Region.schedule,bU.mixed]];exact V1 bU Fs (λaE dI aP aw fA=>fA.eS aw) _ s a _ (h _ (afn ab t)) (aS.drawn _ (by first|exact le_succ _|exact le_add_right _ _|omega))
   .cases aa
 |seq x y afB Jd=>
  intro ej Q s a w aa iN h aS;have nE:=aa;simp only[gb]at aa;split at aa
  .rename_i BK We aq hy;simp only[Option.some.injEq]at aa;rcases aA.afw aa.symm with⟨cU,oW,rfl,rfl,rfl⟩|⟨T,b,rfl⟩
   rotate_left
   .exact n0 _ T b Q s a w iN (by simpa only[aA.strip]using nE) (h Q λ_ _ h=>h) aS
   refine wp_seq (wp_mono (afB aq iN.1 h aS) ?_);rintro e dI aP ⟨aE,bF,fA⟩;cases e with
   |normal=>
    obtain⟨aE,bF,fA⟩:=fA.eS bF;exact Jd hy iN.2 bF fA
   |_=>exact⟨aE,bF,fA⟩
  .cases aa
 |cond x y z Jd Wf=>
  intro ej Q s a w aa iN h aS;have nE:=aa;simp only[gb]at aa;split at aa
  .rename_i BK We sz aq hy cf;simp only[Option.some.injEq]at aa;rcases aA.afx aa.symm with⟨cU,oW,vN,rfl,rfl,rfl,rfl⟩|⟨T,b,rfl⟩
   rotate_left
   .exact n0 _ T b Q s a w iN (by simpa only[aA.strip]using nE) (h Q λ_ _ h=>h) aS
   have fA:=aS;obtain⟨ao,fa,bH,F,S,s7⟩:=fA;have aF:=(gy (a:=a) s7 (λ_=>rfl) aq).2;simp only[bn]at h;split at h
   .rename_i gV ab;rw[ab]at aF;have:=xD aF;refine wp_cond this ?_;split
    .rename_i e;rw[if_pos e]at h;exact Jd hy iN.1 h aS
    .rename_i e;rw[if_neg e]at h;exact Wf cf iN.2 h aS
   .rename_i ab;rw[ab]at aF;obtain⟨gV,po⟩:=UK aF;refine wp_cond po ?_;split
    .exact Jd hy iN.1 h.1 aS
    .exact Wf cf iN.2 h.2 aS
   .exact h.elim
  .cases aa
 |block id b ih=>
  intro ej Q s a w aa iN h aS;have nE:=aa;simp only[gb,Option.map_eq_some_iff]at aa;obtain⟨EW,ab,aa⟩:=aa;rcases aA.afy aa.symm with⟨gV,rfl,rfl⟩|⟨T,b,rfl⟩
  rotate_left
  .exact n0 _ T b Q s a w iN (by simpa only[aA.strip]using nE) (h Q λ_ _ h=>h) aS
  refine wp_block (wp_mono (ih ab iN h aS) ?_);rintro e dI aP ⟨aE,bF,fA⟩;cases e with
  |exit i=>
   simp only[BU]at bF;simp only[Exit.inBlock];split
   .rename_i e;rw[if_pos e]at bF;exact⟨aE,bF,fA⟩
   .rename_i e;rw[if_neg e]at bF;exact⟨aE,bF,fA⟩
  |_=>exact⟨aE,bF,fA⟩
 |loop b ih=>
  intro ej Q s a w aa iN h aS;have nE:=aa;simp only[gb,Option.map_eq_some_iff]at aa;obtain⟨EW,ab,aa⟩:=aa;rcases aA.afz aa.symm with⟨gV,rfl,rfl⟩|⟨T,b,rfl⟩
  rotate_left
  .exact n0 _ T b Q s a w iN (by simpa only[aA.strip]using nE) (h Q λ_ _ h=>h) aS
  obtain⟨s,h,aS⟩:=aS.eS h;have key:=h (λs=>∀a w,Rel w0 F0 X n ρ s a w->∀(f:Frame) (k:List Item) (cs:List Frame),∃e dI aP,zz w0 F0 X n ρ Q e dI aP/\Arrives C.P (lone (f.at a (.code b:: .inLoop b::k)) cs w) f k cs e dI aP) ?_
  .intro f k cs;obtain⟨e,dI,aP,cE,xV⟩:=key a w aS f k cs;exact⟨e,dI,aP,cE,.of_steps (.one step_loop) xV⟩
  .intro aE gd a w aS f k cs;obtain⟨e,a₁,w₁,⟨s1,cE,xW⟩,xV⟩:=ih ab iN gd aS f (.inLoop b::k) cs;cases e with
   |normal=>
    simp only[andThen]at cE;obtain⟨s1,cE,xW⟩:=xW.eS cE;obtain⟨e₂,a₂,w₂,hq₂,harr₂⟩:=cE a₁ w₁ xW f k cs;exact⟨e₂,a₂,w₂,hq₂,.of_steps (Steps.trans xV (.one step_inLoop)) harr₂⟩
   |exit id=>exact⟨_,a₁,w₁,⟨s1,cE,xW⟩,.pass (x:=.inLoop b) rfl (λ_ _=>.inl (by simp)) xV⟩
   |goto l=>exact⟨_,a₁,w₁,⟨s1,cE,xW⟩,.pass (x:=.inLoop b) rfl (λ_ _=>.inl (by simp)) xV⟩
   |ret=>exact⟨_,a₁,w₁,⟨s1,cE,xW⟩,.pass (x:=.inLoop b) rfl (λ_ _=>.inl (by simp)) xV⟩
   |panic axh=>exact⟨_,a₁,w₁,⟨s1,cE,xW⟩,.pass (x:=.inLoop b) rfl (λ_ _=>.inl (by simp)) xV⟩
   |outgrown=>exact⟨_,a₁,w₁,⟨s1,cE,xW⟩,.pass (x:=.inLoop b) rfl (λ_ _=>.inl (by simp)) xV⟩
 |exit id=>
  intro ej Q s a w aa iN h aS;have nE:=aa;simp only[gb,Option.some.injEq]at aa;rcases aA.afs aa.symm with rfl|⟨T,b,rfl⟩
  .exact wp_exit ⟨s,h,aS⟩
  .exact n0 _ T b Q s a w iN (by simpa only[aA.strip]using nE) (h Q λ_ _ h=>h) aS
 |ret=>
  intro ej Q s a w aa iN h aS;have nE:=aa;simp only[gb,Option.some.injEq]at aa;rcases aA.afr aa.symm with rfl|⟨T,b,rfl⟩
  .exact wp_ret ⟨s,h,aS⟩
  .exact n0 _ T b Q s a w iN (by simpa only[aA.strip]using nE) (h Q λ_ _ h=>h) aS
 |_=>intro ej Q s a w aa;simp[gb]at aa
theorem Wg (bU:C.fK) (c:Code) {ej:aA} {Q:Exit->al->Prop} {s:al} {a:Act} {w:World} (aa:gb n c=some ej.strip) (ab:ej.bare (λ_ _=>False)) (h:bn C ej Q s) (aS:Rel w0 F0 X n ρ s a w):c.wp C.P (zz w0 F0 X n ρ Q) a w:=
 N1 bU (λ_ _ _ _ _ _ _ bH=>bH.elim) c aa ab h aS
end
def k5:ResultVar->Nat
 | .tmp t=>t
 | .cell a _=>a
def rS (C:cy) (s:al):ResultVar->Option I
 | .tmp t=>if(s t).tree=true then(match s t with| .tuple _=>none|d=>some d)else none
 | .cell a T=>match s a with
   | .aM d=>if fits C T d=true/\d.tree=true then some d else none
   |_=>none
def N2 (C:cy) (fx:azf) (fs:List ResultVar) (r:I) (outs:azk) (s:al):Prop:=
 ∃ds,fs.map (rS C s)=ds.map some/\r=(match ds with|[d]=>d|ds=>.tuple ds)/\(fs.map k5).Nodup/\
  ∀(i:Nat) (o:I),outs[i]? =some o->o= .hole\/(o=s i/\o.hQ=true/\i∈fx/\i∉fs.map k5)
def Ends (C:cy) (fx:azf) (fs:List ResultVar) (r:I) (outs:azk) (s:al):Prop:=
 N2 C fx fs r outs s\/∃t y q d s1,s t= .h y q/\dJ s (.h y q)=some (d,s1)/\N2 C fx fs r outs (fin s1 (some t) d)
theorem cj.takes {w0 w:World} {F0 X F:Nat->Prop} {S:Nat->Nat->Prop} {s s1:al} {aH:Nat->Value} {t y:Nat} {q:azf} {d:I} (aS:cj w0 F0 X F S s aH w) (ad:s t= .h y q) (ag:dJ s (.h y q)=some (d,s1)):
  ∃a_,cj w0 F0 X F a_ (ei.fin s1 (some t) d) aH w:=by
 have aa:=aS.eu t;rw[ad,aQ]at aa;obtain⟨cO,k0,bX,cu,Sn,dS,dW,eB,dw,kj,_⟩:=rv aS (av:=.h y q) (v:=aH t) rfl (by rw[aQ];exact aa) ag;obtain⟨a_,bF⟩:=k0.fin (.inr ⟨bX,cu,Sn,dS,dW,eB,dw,kj⟩) (some t);refine⟨a_,?_⟩;have e:qF aH (some t) (aH t)=aH:=by
  funext u;simp only[qF,el];split
  .rename_i h;rw[h]
  .rfl
 rwa [e]at bF
section
variable {C:cy} {w0 w:World} {F0 X F:Nat->Prop} {S:Nat->Nat->Prop} {s:al} {tmps:Array Value}
theorem Wh {d:I} {x:Value} (ao:∀vs,d≠.tuple vs) (h:eY d x):c_ x=jF x/\ki d x:=by
 have:ki d x:=by cases d<;>first|exact h|exact(ao _ rfl).elim
 refine⟨?_,this⟩;cases d<;>first
  |(obtain⟨a,rfl⟩:=this;rfl)
  |(simp only[ki]at this
    rw[ia this];cases x<;>first|rfl|(simp[Value.hO]at this))
def Ft (tmps:Array Value):ResultVar->Sem Value
 | .tmp t=>pure (tmps.getD t undef)
 | .cell a t=>do loadVar t (<-asAddr (tmps.getD a undef))
theorem afC (bU:C.fK) (h:cj w0 F0 X F S s (λt=>tmps.getD t undef) w) {v:ResultVar} {d:I} (aF:rS C s v=some d):
  ∃x,(Ft tmps v).run C.P w= .ok x w/\d.tree=true/\(∀vs,d≠.tuple vs)/\eY d x/\az w F d (c_ x) (S (k5 v)):=by
 cases v with
 |tmp t=>
  simp only[rS]at aF;split at aF
  .rename_i bb;have nZ:(∀vs,s t≠.tuple vs)/\d=s t:=by
    cases aa:s t<;>rw[aa]at aF<;>simp only at aF<;>first
     |(cases aF;done)
     |(simp only[Option.some.injEq]at aF;exact⟨(λ_ h=>by cases h),aF.symm⟩)
   obtain⟨nZ,rfl⟩:=nZ;obtain⟨g1,g2⟩:=(aQ.dx bb).1 (h.eu t);exact⟨_,by simp[Ft],bb,nZ,g1,g2⟩
  .cases aF
 |cell a T=>
  simp only[rS]at aF;split at aF
  .rename_i e aa;split at aF
   .rename_i afD;obtain⟨kB,afE⟩:=afD;simp only[Option.some.injEq]at aF;subst aF;have lq:=h.eu a;rw[aa]at lq;obtain⟨g1,g2⟩:=(aQ.dx (d:=.aM e) rfl).1 lq;rw[ia g1,az]at g2;obtain⟨b,cur,ty,fr,a_,bX,cu,dS,dW,eB,dw,kj⟩:=g2;simp only[List.cons.injEq,and_true]at bX;have mB:jD w b 0 cur.toList:=by
     have:=Bv dS cur.size
     rwa [List.take_of_length_le (by simp)]at this
    obtain⟨x,ek,bf,dA⟩:=II (C:=C) bU mB eB kB;refine⟨x,?_,afE,?_,dA,?_⟩
    .simp only[Ft];rw[bX];simpa [asAddr]using ek
    .intro vs hs;subst hs;unfold fits at kB;split at kB<;>simp_all
    .rw[bf];exact az.mono (λ_ h=>h) _ _ _ _ dw eB
   .cases aF
  .cases aF
theorem afF (bU:C.fK) (h:cj w0 F0 X F S s (λt=>tmps.getD t undef) w):∀(fs:List ResultVar) (ds:azk),fs.map (rS C s)=ds.map some->(fs.map k5).Nodup->
  ∃xs,(fs.mapM (Ft tmps)).run C.P w= .ok xs w/\xs.length=ds.length/\bA w F ds (xs.flatMap jF) (λb=>∃t∈fs.map k5,S t b)/\
   ∀(k:Nat) (d:I) (x:Value),ds[k]? =some d->xs[k]? =some x->eY d x/\(∀vs,d≠.tuple vs)/\(jF x).length=d.wd/\c_ x=jF x/\d.tree=true:=by
 intro fs;induction fs with
 |nil=>
  intro ds he _;have:ds=[]:=by simpa using he.symm
  subst this;exact⟨[],by simp,rfl,by simp only[List.flatMap_nil];rw[bA],λk d x ao=>by simp at ao⟩
 |cons v fs ih=>
  intro ds he BX;cases ds with
  |nil=>simp at he
  |cons d ds=>
   simp only[List.map_cons,List.cons.injEq]at he;simp only[List.map_cons,List.nodup_cons]at BX;obtain⟨x,ek,rt,bf,dA,bL⟩:=afC bU h he.1;obtain⟨xs,gZ,gx,iM,jH⟩:=ih ds he.2 BX.2;obtain⟨aR,aW⟩:=Wh bf dA;refine⟨x::xs,by simp[List.mapM_cons,ek,gZ],by simp[gx],?_,?_⟩
   .simp only[List.flatMap_cons];rw[bA];rw[aR]at bL;refine⟨jF x,xs.flatMap jF,S (k5 v),λb=>∃t∈fs.map k5,S t b,rfl,bL,iM,λb ab=>⟨k5 v,by simp,ab⟩,?_,?_⟩
    .rintro b ⟨t,bb,ab⟩;exact⟨t,by simp[bb],ab⟩
    .rintro b ab ⟨t,bb,po⟩;have:t≠k5 v:=λe=>BX.1 (e▸bb);exact h.gh t (k5 v) b this po ab
   .intro k bM cU ao aq;cases k with
    |zero=>
     simp at ao aq;subst ao aq;refine⟨dA,bf,?_,aR,rt⟩;rw[<-aR];exact az.length _ _ _ bL
    |succ k=>exact jH k bM cU (by simpa using ao) (by simpa using aq)
theorem N3 (bU:C.fK) {f:FuncId} {fn:Func} {c:Code} {fx:azf} {as outs:azk} {r:I} (bH:C.P.funcs[f]? =some fn) (ab:fn.body=some c)
  (mH:(fn.name== "runtime.NumGoroutine")=false) (aV:as.length<=fn.ntmps)
  {w:World} {F X:Nat->Prop} {S:Nat->Nat->Prop} {vs:azi} (hl:vs.length=as.length) (aS:cj w F X F S (gl as) (iz vs) w)
  (N4:∀a,Rel w F X ⟨fn.ntmps,fx⟩ (iz vs) (gl as) a w->(∀t,a.tmps.getD t undef=iz vs t)->c.wp C.P (zz w F X ⟨fn.ntmps,fx⟩ (iz vs) (λe s=>(e= .normal\/e= .ret)/\eS (Ends C fx fn.results.toList r outs) s)) a w):
  rL C.P f vs.toArray w λv aP=>∃cn a_,cj w F X cn a_ (gl (r::outs)) (iz (v::vs)) aP:=by
 have rJ:(vs.toArray++Array.replicate (fn.ntmps-vs.toArray.size) undef).size=fn.ntmps:=by simp;omega
 have ff:(λt=>(vs.toArray++Array.replicate (fn.ntmps-vs.toArray.size) undef).getD t undef)=iz vs:=by
  funext t;simp only[iz,Array.getD_eq_getD_getElem?,List.getD_eq_getElem?_getD];by_cases bb:t<vs.length
  .rw[Array.getElem?_append_left (by simpa using bb)];simp
  .rw[Array.getElem?_append_right (by simpa using bb)];rw[List.getElem?_eq_none (by omega)];simp only[Array.getElem?_replicate];split<;>rfl
 have s7:Rel w F X ⟨fn.ntmps,fx⟩ (iz vs) (gl as) {tmps:=vs.toArray++Array.replicate (fn.ntmps-vs.toArray.size) undef,defers:=[]} w:=
  ⟨rfl,rJ,λi _=>congrFun ff i,F,S,by rw[ff];exact aS⟩
 have N5:fn.name≠ "runtime.NumGoroutine" :=by simpa using mH
 refine .inl ⟨by simp[callFunc,bH,N5,ab],calls_of_wp bH ab (wp_mono (N4 _ s7 (congrFun ff)) ?_)⟩;rintro e dI aP ⟨aE,⟨he,afG⟩,afH⟩;obtain⟨aE,⟨ds,lS,Wi,BX,za⟩,ao,fa,iO,cn,a_,fA⟩:∃aE,N2 C fx fn.results.toList r outs aE/\Rel w F X ⟨fn.ntmps,fx⟩ (iz vs) aE dI aP:=by
  obtain⟨aE,he,xX⟩:=afH.eS afG;rcases he with he|⟨t,y,q,d,s1,ad,ag,he⟩
  .exact⟨aE,he,xX⟩
  .obtain⟨g1,g2,g3,F,S,g4⟩:=xX;obtain⟨a_,g5⟩:=g4.takes ad ag;exact⟨_,he,g1,g2,g3,F,a_,g5⟩
 obtain⟨xs,gZ,gx,iM,jH⟩:=afF bU fA _ ds lS BX;have afI:(results fn dI.tmps)=(do let vs<-fn.results.mapM (Ft dI.tmps);pure (if h:vs.size=1 then vs[0]else .tuple vs)):=by
  unfold results;congr 1
 have zf:(results fn dI.tmps).run C.P aP= .ok (if h:xs.toArray.size=1 then xs.toArray[0]else .tuple xs.toArray) aP:=by
  rw[afI,Array.mapM_eq_mapM_toList];simp[gZ]
 have tb:(r.tree=true/\eY r (if h:xs.toArray.size=1 then xs.toArray[0]else .tuple xs.toArray)/\
   az aP cn r (c_ (if h:xs.toArray.size=1 then xs.toArray[0]else .tuple xs.toArray)) (λb=>∃t∈fn.results.toList.map k5,a_ t b)):=by
  by_cases ad:∃d,ds=[d]
  .obtain⟨d,rfl⟩:=ad;obtain⟨x,rfl⟩:∃x,xs=[x]:=by
    cases xs with
    |nil=>simp at gx
    |cons x xs=>cases xs with
     |nil=>exact⟨x,rfl⟩
     |cons y c1=>simp at gx
   obtain⟨bX,cu,dS,dW,eB⟩:=jH 0 d x rfl rfl;have afJ:d=r:=Wi.symm;subst afJ;simp only[List.flatMap_cons,List.flatMap_nil,List.append_nil]at iM;rw[bA]at iM;obtain⟨cx,c2,cO,eJ,aR,aW,aU,cc,cZ,cv⟩:=iM;rw[bA]at aU;subst aU;simp only[List.append_nil]at aR;subst aR;have aq:(if h:([x]:azi).toArray.size=1 then([x]:azi).toArray[0]else .tuple ([x]:azi).toArray)=x:=by simp
   rw[aq,dW];exact⟨eB,bX,az.mono (λ_ h=>h) _ _ _ _ cc aW⟩
  .have vX:r= .tuple ds:=by
    rw[Wi];cases ds with
    |nil=>rfl
    |cons d ds=>cases ds with
     |nil=>exact(ad ⟨d,rfl⟩).elim
     |cons e ds=>rfl
   have aq:(if h:xs.toArray.size=1 then xs.toArray[0]else Value.tuple xs.toArray)= .tuple xs.toArray:=by
    rw[dif_neg];intro fa;have:ds.length=1:=by rw[<-gx];simpa using fa
    obtain⟨d,ao⟩:=List.length_eq_one_iff.1 this;exact ad ⟨d,ao⟩
   rw[aq,vX];refine⟨rfl,⟨xs.toArray,rfl,by simpa using gx,λk d x ao aq=>?_⟩,?_⟩
   .obtain⟨bX,cu,dS,dW,_⟩:=jH k d x ao (by simpa using aq);exact⟨(Wh cu bX).2,cu,dS⟩
   .rw[az];simpa [c_]using iM
 have post:∀(v:Value),(r.tree=true/\eY r v/\az aP cn r (c_ v) (λb=>∃t∈fn.results.toList.map k5,a_ t b))->∃BQ cO,cj w F X BQ cO (gl (r::outs)) (iz (v::vs)) aP:=by
  rintro v ⟨v1,v2,v3⟩;have N6:∀i,(outs.getD i .hole).hQ=true->outs.getD i .hole=aE i/\i∈fx/\i∉fn.results.toList.map k5:=by
   intro i ai;cases bO:outs[i]? with
   |none=>simp[List.getD,bO,I.hQ]at ai
   |some o=>
    have e:outs.getD i .hole=o:=by simp[List.getD,bO]
    rw[e]at ai⊢;rcases za i o bO with h|h
    .subst h;simp[I.hQ]at ai
    .exact⟨h.1,h.2.2⟩
  refine⟨cn,λt b=>match t with|0=>∃t∈fn.results.toList.map k5,a_ t b|i+1=>(outs.getD i .hole).hQ=true/\a_ i b,fA.h_,fA.iL,fA.gg,?_,?_,?_,?_,?_,fA.old,fA.size,fA.os,fA.tape,fA.output,aS.gw⟩
  .intro t b ab;cases t with
   |zero=>obtain⟨t,_,ab⟩:=ab;exact fA.fB t b ab
   |succ i=>exact fA.fB i b ab.2
  .intro t b ab;cases t with
   |zero=>obtain⟨t,_,ab⟩:=ab;exact fA.gN t b ab
   |succ i=>exact fA.gN i b ab.2
  .intro t u b eb ab hu;cases t with
   |zero=>
    obtain⟨t,bb,ab⟩:=ab;cases u with
    |zero=>exact eb rfl
    |succ j=>
     refine fA.gh t j b (λe=>?_) ab hu.2;subst e;exact(N6 t hu.1).2.2 bb
   |succ i=>
    cases u with
    |zero=>
     obtain⟨t,bb,hu⟩:=hu;refine fA.gh t i b (λe=>?_) hu ab.2;subst e;exact(N6 t ab.1).2.2 bb
    |succ j=>exact fA.gh i j b (by omega) ab.2 hu.2
  .intro t b ab;cases t with
   |zero=>obtain⟨t,_,ab⟩:=ab;exact fA.eX t b ab
   |succ i=>exact fA.eX i b ab.2
  .intro t;cases t with
   |zero=>exact(aQ.dx v1).2 ⟨v2,v3⟩
   |succ i=>
    show aQ aP cn (gl (r::outs)) (iz (v::vs)) (outs.getD i .hole) (vs.getD i undef) (λb=>(outs.getD i .hole).hQ=true/\a_ i b);cases ai:(outs.getD i .hole).hQ with
    |false=>
     have:outs.getD i .hole= .hole:=by
      cases bO:outs[i]? with
      |none=>simp[List.getD,bO]
      |some o=>
       have e:outs.getD i .hole=o:=by simp[List.getD,bO]
       rw[e]at ai⊢;rcases za i o bO with h|h
       .exact h
       .rw[h.2.1]at ai;cases ai
     rw[this,aQ];trivial
    |true=>
     obtain⟨pC,mX,s4⟩:=N6 i ai;have bb:=(xQ ai).2.1;have lq:=fA.eu i;rw[<-pC]at lq;obtain⟨g1,g2⟩:=(aQ.dx bb).1 lq;have aF:dI.tmps.getD i undef=vs.getD i undef:=iO i mX;rw[aF]at g1 g2;exact(aQ.dx bb).2 ⟨g1,az.mono (λ_ h=>h) _ _ _ _ (λb ab=>⟨rfl,ab⟩) g2⟩
 rcases he with rfl|rfl
 .exact⟨ao,_,zf,_,rfl,post _ tb⟩
 .exact⟨ao,_,zf,_,rfl,post _ tb⟩
theorem aX.of_wp (bU:C.fK) {f:FuncId} {fn:Func} {c:Code} {ej:aA} {fx:azf} {as outs:azk} {r:I} (bH:C.P.funcs[f]? =some fn) (ab:fn.body=some c)
  (mH:(fn.name== "runtime.NumGoroutine")=false) (aa:gb ⟨fn.ntmps,fx⟩ c=some ej.strip) (aV:as.length<=fn.ntmps)
  (h:bn C ej (λe s=>(e= .normal\/e= .ret)/\eS (Ends C fx fn.results.toList r outs) s) (gl as)) (ax:ej.plain=true:=by kernel_rfl):aX C f as r outs:=
 λw F X S vs hl aS=>N3 bU bH ab mH aV hl aS λa s7 _=>Wg bU c (by rw[aA.NX];exact aa) (aA.Ja ej (aA.V9 ej ax)) (Jc ej h) s7
end
def num:Nat->azk->azj
 |_,[]=>[]
 |k,a::as=>(k,a)::num (k+1) as
theorem afK:∀(as:azk) (k t:Nat),ar (num k as) (k+t)=as.getD t .hole:=by
 intro as;induction as with
 |nil=>intro k t;simp[num,ar]
 |cons a as ih=>
  intro k t;cases t with
  |zero=>simp[num,ar]
  |succ t=>
   have:=ih (k+1) t;simp only[num,ar];rw[if_neg (by omega)];rw[show k+(t+1)=k+1+t by omega,this];simp
theorem Fu (as:azk):gl as=ar (num 0 as):=by
 funext t;have:=afK as 0 t;rw[Nat.zero_add]at this;rw[this];rfl
theorem Fv (l:azj) (t:Nat) (d:I):el (ar l) t d=ar ((t,d)::l):=by
 funext u;simp only[el,ar]
def vY (t:Nat):azj->azj
 |[]=>[]
 |(u,d)::l=>(u,dL t d)::vY t l
def zA (t:Nat):azj->azj
 |[]=>[]
 |(u,d)::l=>(u,cW t d)::zA t l
theorem N7 (t:Nat):∀l:azj,oU t (ar l)=ar (vY t l):=by
 intro l;funext u;induction l with
 |nil=>rfl
 |cons p l ih=>
  obtain⟨v,d⟩:=p;simp only[oU,ar,vY]at ih⊢;split
  .rfl
  .exact ih
theorem afL (t:Nat):∀l:azj,js t (ar l)=ar (zA t l):=by
 intro l;funext u;induction l with
 |nil=>rfl
 |cons p l ih=>
  obtain⟨v,d⟩:=p;simp only[js,ar,zA]at ih⊢;split
  .rfl
  .exact ih
def gW (k:azf) (s:al):azj:=k.map λt=>(t,s t)
section
variable {C:cy} {l:azj}
def e0.jY:e0->Bool
 | .call _ _=>true
 | .ga _=>false
 | .hX _=>false
 | .pick _ _ _=>false
 | .mU _=>false
 | .iy _ _=>false
 | .gH _ _=>false
 | .d_ _ _ _=>false
 | .fV _ _=>false
 | .k1 _ _ _=>false
 | .mC _=>false
 | .eP _ _ _ _=>false
 | .un _ _=>false
 | .k3 _ _ _=>false
 | .p3 _ _=>false
 | .fk _ _ _=>false
 | .iW _ _ _ _=>false
 | .h2 _ _ _=>false
 | .kM _ _ _=>false
 | .idx _ _ _=>false
 | .ex _ _=>false
 | .pw _ _ _=>false
 | .len _ _=>false
 | .app _ _ _ _=>false
 | .shr _=>true
 | .cap _ _=>false
 | .kN _ _ _=>false
 | .bad=>false
 | .mV _ _ _=>true
 | .mc _ _=>false
 | .p5 _=>false
 | .pA _=>false
 | .ext _ _=>false
 | .sX=>false
 | .jT _ _ _=>false
 | .k4 _ _ _ _=>false
variable {Q:Exit->al->Prop}
def I.Fw:I->Bool
 | .tuple _=>true
 |_=>false
theorem Ends.one {fx:azf} {t:Nat} {r:I} {s:al} (ad:s t=r) (ag:(r.tree&& !r.Fw)=true):Ends C fx [.tmp t] r [] s:=by
 simp only[Bool.and_eq_true,Bool.not_eq_true']at ag;obtain⟨ag,Je⟩:=ag;have aD:∀vs,r≠.tuple vs:=λvs e=>by subst e;simp[I.Fw]at Je
 refine .inl ⟨[r],?_,rfl,by simp,λi o h=>by simp at h⟩;have:rS C s (.tmp t)=some r:=by
  simp only[rS,ad,ag,if_true];try (cases r<;>first|rfl|exact(aD _ rfl).elim)
 simp only[List.map_cons,List.map_nil,this]
end
section
variable {C:cy} {l:azj} {Q:Exit->al->Prop}
theorem aX.outs {f:FuncId} {as:azk} {r:I} {pC mX:azk} (h:aX C f as r pC) (he:gl pC=gl mX):aX C f as r mX:=by
 intro w F X S vs hl aS;refine rL.mono (h w F X S vs hl aS) ?_;rintro v aP ⟨cn,a_,bF⟩;refine⟨cn,a_,?_⟩;have:gl (r::mX)=gl (r::pC):=by
  funext t;cases t with
  |zero=>rfl
  |succ t=>exact(congrFun he t).symm
 rw[this];exact bF
def pE:azk->azk->List dE
 |a::as,d::ds=>⟨a,false,d,.hole⟩::pE as ds
 |_,_=>[]
theorem afM {s:al}:∀(as ds:azk),views s as=some ds->(pE as ds).map (·.a)=as/\(pE as ds).map (·.d)=ds/\(∀p∈pE as ds,p.ok s/\p.g=false/\p.o= .hole/\p.a∈as)/\jU (pE as ds)=true/\
  gl ((pE as ds).map (·.o))=gl []/\(∀vZ,fW vZ (pE as ds)=vZ)/\(∀vZ,jk vZ (pE as ds)=vZ):=by
 intro as;induction as with
 |nil=>
  intro ds h;simp only[views,Option.some.injEq]at h;subst h;exact⟨rfl,rfl,(λp ax=>by cases ax),rfl,rfl,λ_=>rfl,λ_=>rfl⟩
 |cons a as ih=>
  intro ds h;simp only[views]at h;split at h
  .rename_i d afN ad ag;simp only[Option.some.injEq]at h;subst h;obtain⟨aR,aW,aU,cc,cZ,cv,cd⟩:=ih afN ag;refine⟨by simp only[pE,List.map_cons,aR],by simp only[pE,List.map_cons,aW],?_,?_,?_,?_,?_⟩
   .intro p ax;simp only[pE,List.mem_cons]at ax;rcases ax with rfl|ax
    .exact⟨by simp only[dE.ok];exact ad,rfl,rfl,by simp⟩
    .obtain⟨g1,g2,g3,g4⟩:=aU p ax;exact⟨g1,g2,g3,by simp[g4]⟩
   .simp only[pE,jU,cc,Bool.and_true,List.all_eq_true];intro p ax;simp[(aU p ax).2.1]
   .funext t;cases t with
    |zero=>rfl
    |succ t=>exact(congrFun cZ t).trans (by simp[gl])
   .intro vZ;exact cv vZ
   .intro vZ;exact cd vZ
  .cases h
end
structure fL where
 ea:azf
 H:azf
 T:azf
 c:Bool
mutual
def I.clean:I->Bool
 | .hole=>false
 | .fn _ cap=>I.BZ cap
 |_=>true
def I.BZ:azk->Bool
 |[]=>true
 |d::ds=>d.clean&&I.BZ ds
end
mutual
theorem Wj {x:Nat}:∀a:I,(cW x a).clean=true->cW x a=a
 | .h y q,h=>by
   simp only[cW]at h⊢;split
   .rename_i e;rw[if_pos e]at h;split
    .rfl
    .rename_i hs;rw[if_neg hs]at h;simp[I.clean]at h
   .rfl
 | .ax y q,h=>by
   simp only[cW]at h⊢;split
   .rename_i e;rw[if_pos e]at h;simp[I.clean]at h
   .rfl
 | .ab y q,h=>rfl
 | .fn f cap,h=>by simp only[cW,I.clean]at h⊢;rw[Wk cap h]
 | .hole,_=>rfl
 | .bool _,_=>rfl
 | .gu,_=>rfl
 | .int _ _,_=>rfl
 | .str _,_=>rfl
 | .ez,_=>rfl
 | .bd,_=>rfl
 | .slice _,_=>rfl
 | .ae _ _,_=>rfl
 | .ref _,_=>rfl
 | .aM _,_=>rfl
 | .agg _,_=>rfl
 | .tuple _,_=>rfl
 | .ck _,_=>rfl
theorem Wk {x:Nat}:∀ds:azk,I.BZ (kL x ds)=true->kL x ds=ds
 |[],_=>rfl
 |d::ds,h=>by
  simp only[kL,I.BZ,Bool.and_eq_true]at h⊢;rw[Wj d h.1,Wk ds h.2]
end
mutual
theorem Wl {x:Nat}:∀a:I,(dL x a).clean=true->dL x a=a
 | .h y q,h=>by
   simp only[dL]at h⊢;split
   .rename_i e;rw[if_pos e]at h;simp[I.clean]at h
   .rfl
 | .ax y q,h=>by
   simp only[dL]at h⊢;split
   .rename_i e;rw[if_pos e]at h;simp[I.clean]at h
   .rfl
 | .ab y q,h=>by
   simp only[dL]at h⊢;split
   .rename_i e;rw[if_pos e]at h;simp[I.clean]at h
   .rfl
 | .fn f cap,h=>by simp only[dL,I.clean]at h⊢;rw[Wm cap h]
 | .hole,_=>rfl
 | .bool _,_=>rfl
 | .gu,_=>rfl
 | .int _ _,_=>rfl
 | .str _,_=>rfl
 | .ez,_=>rfl
 | .bd,_=>rfl
 | .slice _,_=>rfl
 | .ae _ _,_=>rfl
 | .ref _,_=>rfl
 | .aM _,_=>rfl
 | .agg _,_=>rfl
 | .tuple _,_=>rfl
 | .ck _,_=>rfl
theorem Wm {x:Nat}:∀ds:azk,I.BZ (lk x ds)=true->lk x ds=ds
 |[],_=>rfl
 |d::ds,h=>by
  simp only[lk,I.BZ,Bool.and_eq_true]at h⊢;rw[Wl d h.1,Wm ds h.2]
end
theorem afO {k:ux} {x:Nat} {a:I} (h:(k.app x a).clean=true):k.app x a=a:=by
 cases k with
 |no=>rfl
 |cW=>exact Wj a h
 |dL=>exact Wl a h
theorem afP:∀(ms:List ij) (u:Nat) (a:I),(∀m∈ms,m.x≠u)->(mD ms u a).clean=true->mD ms u a=a:=by
 intro ms;induction ms with
 |nil=>intros;rfl
 |cons m ms ih=>
  intro u a aq au;simp only[mD]at au⊢;have e:=ih u _ (λjS zB=>aq jS (by simp[zB])) au;have hm:m.at u a=m.k.app m.x a:=by
   simp only[ij.at];rw[if_neg (λe=>aq m (by simp) e.symm)]
  rw[e,hm];rw[e,hm]at au;exact afO au
theorem afQ:∀(ms:List ij) (u:Nat) (a:I),(∀m∈ms,m.x≠u/\m.x∉a.aa)->mD ms u a=a:=by
 intro ms;induction ms with
 |nil=>intros;rfl
 |cons m ms ih=>
  intro u a aq;simp only[mD];have hm:m.at u a=a:=by
   simp only[ij.at];rw[if_neg (λe=>(aq m (by simp)).1 e.symm)];exact E5 (.inr (aq m (by simp)).2)
  rw[hm];exact ih u a λjS zB=>aq jS (by simp[zB])
theorem afR (m:ij):∀(ms:List ij) (u:Nat) (a:I),(∀jS∈ms,jS.x≠m.x/\jS.x∉m.d.aa/\m.x∉jS.d.aa)->mD ms u (m.at u a)=m.at u (mD ms u a):=by
 intro ms;induction ms with
 |nil=>intros;rfl
 |cons n ms ih=>
  intro u a aq;simp only[mD];have aV:=aq n (by simp);have au:n.at u (m.at u a)=m.at u (n.at u a):=by
   simp only[ij.at];by_cases aR:u=n.x
   .subst aR;rw[if_pos rfl,if_neg aV.1,if_pos rfl];exact(E5 (.inr aV.2.2)).symm
   .rw[if_neg aR];by_cases aW:u=m.x
    .subst aW;rw[if_pos rfl,if_pos rfl];exact E5 (.inr aV.2.1)
    .rw[if_neg aW,if_neg aR,if_neg aW];exact aep _ _ _ _ _
  rw[au];exact ih u _ λjS zB=>aq jS (by simp[zB])
theorem afS:∀(ms mf:List ij) (s:al),(∀m∈ms,∀n∈mf,n.x≠m.x/\n.x∉m.d.aa/\m.x∉n.d.aa)->eV mf (eV ms s)=eV ms (eV mf s):=by
 intro ms;induction ms with
 |nil=>intros;rfl
 |cons m ms ih=>
  intro mf s h;have e:∀s,eV (m::ms) s=eV ms (eV [m] s):=λs=>pB [m] ms s;rw[e,e,ih mf _ (λjS zB=>h jS (by simp[zB]))];congr 1;funext u;simp only[eV,mD];exact afR m mf u _ (h m (by simp))
def Wn (C:cy) (s:al) (f:bB) (args:List bB) (K:azf->I->al->Prop):Prop:=
 ∃(g:FuncId) (caps:azk) (ps:List dE) (r:I),bx s f= .fn g caps/\I.e6 caps=true/\ps.map (·.a)=args.map (bx s)++caps/\(∀p∈ps,p.ok s)/\jU ps=true/\
   aX C g (ps.map (·.d)) r (ps.map (·.o))/\r.res=true/\(mg ps=true->r.dc=true/\∀p∈ps,p.o.dc=true)/\K (I.e3 ((ps.filter (·.g)).map (·.a))) r (jk (fW s ps) ps)
def qP (C:cy) (s:al) (b3:e0) (K:azf->I->al->Prop):Prop:=
 match b3 with
 | .call f args=>∃(g:FuncId) (caps:azk) (ps:List dE) (r:I),bx s f= .fn g caps/\I.e6 caps=true/\ps.map (·.a)=args.map (bx s)++caps/\(∀p∈ps,p.ok s)/\jU ps=true/\
   aX C g (ps.map (·.d)) r (ps.map (·.o))/\r.res=true/\(mg ps=true->r.dc=true/\∀p∈ps,p.o.dc=true)/\K (I.e3 ((ps.filter (·.g)).map (·.a))) r (jk (fW s ps) ps)
 | .shr b3=>∃av s1,cg C s b3=some (av,s1)/\av.tree=true/\(∀vs,av≠.tuple vs)/\K (lp s b3) av.share s1
 | .mV f args us=>oo s (lr s us)=true/\Wn C s f args λdJ av s1=>oo s1 (lr s us)=true/\K (us++dJ) av (p6 s1 (lr s us))
 |b3=>∃av s1,cg C s b3=some (av,s1)/\K (lp s b3) av s1
def kR (s:al) (ea:azf) (dst:Option Nat) (dJ:azf) (av:I):fL:=
 ⟨ea,ea.flatMap (λu=>(s u).aa)++av.aa,dst.toList++dJ,ea.all λu=>(s u).clean⟩
def o1 (C:cy) (s:al) (o:cC) (K:fL->al->Prop):Prop:=
 match o.guard with
 |none=>qP C s o.b3 λdJ av s1=>K (kR s (use s o.b3) o.dst dJ av) (fin s1 o.dst av)
 |some (t,b)=>match s t with
  | .bool gV=>if gV=b then qP C s o.b3 (λdJ av s1=>K (kR s (t::use s o.b3) o.dst dJ av) (fin s1 o.dst av))else K (kR s [t] o.dst [] (.tuple [])) (fin s o.dst (.tuple []))
  | .tuple []=>K (kR s [t] o.dst [] (.tuple [])) (fin s o.dst (.tuple []))
  |_=>False
def tc:Option (List fL)->fL->Option (List fL)
 |none,_=>none
 |some l,f=>some (f::l)
def dF (C:cy) (s:al):List cC->Option (List fL)->(Option (List fL)->al->Prop)->Prop
 |[],acc,K=>K acc s
 |o::os,acc,K=>o1 C s o λf s1=>dF C s1 os (tc acc f) K
section
variable {C:cy}
theorem Wo {s:al} {b3:e0} {K:azf->I->al->Prop} {eG:I->al->Prop} (aw:∀dJ av s,K dJ av s->eG av s) (h:qP C s b3 K):rO C s b3 eG:=by
 cases b3 with
 |call f args=>
  obtain⟨g,caps,ps,r,ad,h3,ag,aD,bh,b1,du,di,hi⟩:=h;exact⟨g,caps,ps,r,ad,h3,ag,aD,bh,b1,du,di,aw _ _ _ hi⟩
 |mV f args us=>
  obtain⟨cu,g,caps,ps,r,ad,h3,ag,aD,bh,b1,du,di,hi,iV⟩:=h;exact⟨cu,g,caps,ps,r,ad,h3,ag,aD,bh,b1,du,di,hi,aw _ _ _ iV⟩
 |shr b3=>
  obtain⟨av,s1,ad,ag,aD,bh⟩:=h;exact⟨av,s1,ad,ag,aD,aw _ _ _ bh⟩
 |_=>
  obtain⟨av,s1,ad,ag⟩:=h;exact⟨av,s1,ad,aw _ _ _ ag⟩
theorem afT {s:al} {o:cC} {K:fL->al->Prop} {eG:al->Prop} (aw:∀f s,K f s->eG s) (h:o1 C s o K):o0 C s o eG:=by
 unfold o1 at h;unfold o0;split
 .rename_i hg;rw[hg]at h;exact Wo (λ_ _ _=>aw _ _) h
 .rename_i t b hg;rw[hg]at h;simp only at h;split
  .rename_i gV aa;rw[aa]at h;simp only at h;split
   .rename_i ab;rw[if_pos ab]at h;exact Wo (λ_ _ _=>aw _ _) h
   .rename_i ab;rw[if_neg ab]at h;exact aw _ _ h
  .rename_i aa;rw[aa]at h;exact aw _ _ h
  .rename_i ad ag;split at h
   .exact ad _ (by assumption)
   .exact ag (by assumption)
   .exact h
theorem zC {K:al->Prop}:∀{ros:List cC} {s:al} {acc:Option (List fL)} {eG:Option (List fL)->al->Prop},(∀a s,eG a s->K s)->dF C s ros acc eG->oq C s ros K:=by
 intro ros;induction ros with
 |nil=>intro s acc eG aw h;exact aw _ _ h
 |cons o ros ih=>intro s acc eG aw h;exact afT (λf s h=>ih aw h) h
theorem Wp {q:azf} {a d:I} (h:I.sub q a=some d) (cE:q≠[]\/d.aa=[]):a.aa=[]:=by
 cases q with
 |nil=>
  simp only[I.sub,Option.some.injEq]at h;subst h;exact cE.resolve_left (λe=>e rfl)
 |cons k q=>cases a<;>first|rfl|(simp[I.sub]at h)
def Jf (s:al) (p:dE) (e:I->Prop):Prop:=p.g=true->∃x q d,p.a= .h x q/\I.sub q (s x)=some d/\e d/\(p.o= .hole\/p.o.hQ=true)
theorem Wq {d:I} (h:d.hQ=true):d.aa=[]:=NJ (xQ h).2.1
theorem Wr {d:I} (h:d.hQ=true):d.ee.aa=[]:=by cases d<;>first|rfl|(simp[I.hQ]at h)
theorem Ws {p:dE} {ps:List dE} (h:jU (p::ps)=true):jU ps=true/\∀dr∈ps,(p.g=true\/dr.g=true)->∀u∈p.a.aa,u∉dr.a.aa:=by
 simp only[jU,Bool.and_eq_true,List.all_eq_true,Bool.or_eq_true,Bool.not_eq_true']at h;refine⟨h.2,λdr fq hg u hu=>?_⟩;rcases h.1 dr fq with e|e
 .rcases hg with hg|hg<;>simp[hg]at e
 .simpa using e u hu
def uD (ps:List dE):azf:=I.e3 ((ps.filter (·.g)).map (·.a))
theorem B0 (p:dE) (ps:List dE):(∀u∈uD ps,u∈uD (p::ps))/\(p.g=true->∀u∈p.a.aa,u∈uD (p::ps)):=by
 unfold uD;by_cases hg:p.g=true
 .simp only[List.filter_cons,hg,if_true,List.map_cons,I.e3,List.mem_append];exact⟨λu h=>.inr h,λ_ u h=>.inl h⟩
 .simp only[List.filter_cons,hg];exact⟨λu h=>h,λh=>by simp at h⟩
theorem afU {p:dE} {ps:List dE} (h:p∈ps):∀u∈p.a.aa,u∈I.e3 (ps.map (·.a)):=by
 induction ps with
 |nil=>cases h
 |cons dr ps ih=>
  intro u hu;simp only[List.map_cons,I.e3,List.mem_append];rcases List.mem_cons.1 h with rfl|h
  .exact .inl hu
  .exact .inr (ih h u hu)
theorem afV:∀(ps:List dE) (s:al),(∀p∈ps,Jf s p (λd=>d=p.d/\p.d.hQ=true))->jU ps=true->
  (∃ms:List ij,(∀m∈ms,m.x∈uD ps/\m.d.aa=[])/\∀aE,eF (I.e3 (ps.map (·.a))) aE s->fW aE ps=eV ms aE)/\∀p∈ps,Jf (fW s ps) p (λd=>d=p.d.ee/\p.d.hQ=true):=by
 intro ps;induction ps with
 |nil=>intro s _ _;exact⟨⟨[],by simp,λaE _=>rfl⟩,λp ax=>by cases ax⟩
 |cons p ps ih=>
  intro s hg nY;obtain⟨s3,rK⟩:=Ws nY;by_cases pF:p.g=true
  .obtain⟨x,q,d,bo,aa,⟨rfl,ao⟩,bO⟩:=hg p (by simp) pF;have l_:(I.put q p.d.ee (s x)).aa=[]:=BN q _ _ _ aa (.inl (xQ ao).1) λ_=>Wr ao;have Fx:∀aE:al,aE x=s x->p.take aE=eV [⟨.cW,x,I.put q p.d.ee (s x)⟩] aE:=by
    intro aE e;simp only[dE.take,pF,if_true,bo,e,zu]
   have eb:∀dr∈ps,∀cU lP,dr.a= .h cU lP->cU≠x:=by
    intro dr fq cU lP e hs;have:=rK dr fq (.inl pF) x (by simp[bo,I.aa]);rw[e,hs]at this;simp[I.aa]at this
   have xR:∀cU,cU≠x->(s cU).aa=[]->eV [⟨.cW,x,I.put q p.d.ee (s x)⟩] s cU=s cU:=by
    intro cU BE bc;simp only[eV,mD,ij.at];rw[if_neg BE];exact E5 (.inr (by rw[bc];simp))
   obtain⟨⟨ms,m1,m2⟩,m3⟩:=ih (eV [⟨.cW,x,I.put q p.d.ee (s x)⟩] s) (λdr fq N8=>by
    obtain⟨cU,lP,bM,zx,gd,jo,Fy⟩:=hg dr (by simp[fq]) N8;refine⟨cU,lP,bM,zx,?_,jo,Fy⟩;rw[xR cU (eb dr fq cU lP zx) (Wp gd (.inr (by rw[jo.1];exact Wq jo.2)))];exact gd) s3
   refine⟨⟨[⟨.cW,x,I.put q p.d.ee (s x)⟩]++ms,?_,?_⟩,?_⟩
   .intro m hm;rcases List.mem_append.1 hm with hm|hm
    .simp only[List.mem_singleton]at hm;subst hm;exact⟨(B0 p ps).2 pF x (by simp[bo,I.aa]),l_⟩
    .exact⟨(B0 p ps).1 _ (m1 m hm).1,(m1 m hm).2⟩
   .intro aE gd;simp only[List.map_cons,I.e3]at gd;have e:aE x=s x:=gd x (by simp[bo,I.aa]);rw[pB];show fW (p.take aE) ps=_;rw[Fx aE e];exact m2 _ (eF.eV gd.right _)
   .have aR:fW s (p::ps)=fW (eV [⟨.cW,x,I.put q p.d.ee (s x)⟩] s) ps:=by
     show fW (p.take s) ps=_;rw[Fx s rfl]
    rw[aR];intro dr fq;rcases List.mem_cons.1 fq with rfl|fq
    .intro _;refine⟨x,q,dr.d.ee,bo,?_,⟨rfl,ao⟩,bO⟩;have aF:eV [⟨.cW,x,I.put q dr.d.ee (s x)⟩] s x=I.put q dr.d.ee (s x):=by
      simp only[eV,mD,ij.at,if_true]
     rw[NG (by rw[aF];exact l_) (λafW afX axi=>?_),aF]
     .exact VP q _ _ _ aa
     .exact rK afW afX (.inl pF) x (by simp[bo,I.aa])
    .exact m3 dr fq
  .have Fx:∀aE:al,p.take aE=aE:=by intro aE;simp only[dE.take,pF];rfl
   obtain⟨⟨ms,m1,m2⟩,m3⟩:=ih s (λdr fq=>hg dr (by simp[fq])) s3;refine⟨⟨ms,λm hm=>⟨(B0 p ps).1 _ (m1 m hm).1,(m1 m hm).2⟩,?_⟩,?_⟩
   .intro aE gd;simp only[List.map_cons,I.e3]at gd;show fW (p.take aE) ps=_;rw[Fx];exact m2 aE gd.right
   .intro dr fq;have aR:fW s (p::ps)=fW s ps:=by show fW (p.take s) ps=_;rw[Fx]
    rw[aR];rcases List.mem_cons.1 fq with rfl|fq
    .intro h;exact(pF h).elim
    .exact m3 dr fq
theorem afY:∀(ps:List dE) (s:al),(∀p∈ps,Jf s p (λd=>d=p.d.ee/\p.d.hQ=true))->jU ps=true->
  (∃ms:List ij,(∀m∈ms,m.x∈uD ps/\m.d.aa=[])/\∀aE,eF (I.e3 (ps.map (·.a))) aE s->jk aE ps=eV ms aE):=by
 intro ps;induction ps with
 |nil=>intro s _ _;exact⟨[],by simp,λaE _=>rfl⟩
 |cons p ps ih=>
  intro s hg nY;obtain⟨s3,rK⟩:=Ws nY;by_cases pF:p.g=true/\p.o≠.hole
  .obtain⟨pF,afZ⟩:=pF;obtain⟨x,q,d,bo,aa,⟨rfl,ao⟩,bO⟩:=hg p (by simp) pF;have bO:p.o.hQ=true:=bO.resolve_left afZ;have l_:(I.put q p.o (s x)).aa=[]:=by
    cases q with
    |nil=>simp only[I.put];exact Wq bO
    |cons k q=>exact BN _ _ _ _ aa (.inr (by simp)) (by simp)
   have N9:∀aE:al,aE x=s x->p.kO aE=eV [⟨.dL,x,I.put q p.o (s x)⟩] aE:=by
    intro aE e;simp only[dE.kO,pF,if_true,bo];rw[e,Vv]
   have eb:∀dr∈ps,∀cU lP,dr.a= .h cU lP->cU≠x:=by
    intro dr fq cU lP e hs;have:=rK dr fq (.inl pF) x (by simp[bo,I.aa]);rw[e,hs]at this;simp[I.aa]at this
   obtain⟨ms,m1,m2⟩:=ih (eV [⟨.dL,x,I.put q p.o (s x)⟩] s) (λdr fq N8=>by
    obtain⟨cU,lP,bM,zx,gd,jo,Fy⟩:=hg dr (by simp[fq]) N8;refine⟨cU,lP,bM,zx,?_,jo,Fy⟩;have bc:=Wp gd (.inr (by rw[jo.1];exact Wr jo.2));have xR:eV [⟨.dL,x,I.put q p.o (s x)⟩] s cU=s cU:=by
     simp only[eV,mD,ij.at];rw[if_neg (eb dr fq cU lP zx)];exact E5 (.inr (by rw[bc];simp))
    rw[xR];exact gd) s3
   refine⟨[⟨.dL,x,I.put q p.o (s x)⟩]++ms,?_,?_⟩
   .intro m hm;rcases List.mem_append.1 hm with hm|hm
    .simp only[List.mem_singleton]at hm;subst hm;exact⟨(B0 p ps).2 pF x (by simp[bo,I.aa]),l_⟩
    .exact⟨(B0 p ps).1 _ (m1 m hm).1,(m1 m hm).2⟩
   .intro aE gd;simp only[List.map_cons,I.e3]at gd;have e:aE x=s x:=gd x (by simp[bo,I.aa]);rw[pB];show jk (p.kO aE) ps=_;rw[N9 aE e];exact m2 _ (eF.eV gd.right _)
  .have N9:∀aE:al,p.kO aE=aE:=by
    intro aE;unfold dE.kO;split
    .rename_i iX;have:p.o= .hole:=by
      by_cases h:p.o= .hole
      .exact h
      .exact(pF ⟨iX,h⟩).elim
     rw[this]
    .rfl
   obtain⟨ms,m1,m2⟩:=ih s (λdr fq=>hg dr (by simp[fq])) s3;refine⟨ms,λm hm=>⟨(B0 p ps).1 _ (m1 m hm).1,(m1 m hm).2⟩,?_⟩;intro aE gd;simp only[List.map_cons,I.e3]at gd;show jk (p.kO aE) ps=_;rw[N9];exact m2 aE gd.right
theorem af0 {s aE:al}:∀(a:I) (d:I),eF a.aa aE s->view s a=some d->view aE a=some d:=by
 intro a d h;have:=NK (s:=s) (aE:=aE) a d;intro aF;cases a with
 |h x q=>simp only[view]at aF⊢;rw[h x (by simp[I.aa])];exact aF
 |ax x q=>simp only[view]at aF⊢;rw[h x (by simp[I.aa])];exact aF
 |fn f cap=>
  refine this (λu hu _=>h u hu) aF
 |_=>exact aF
theorem af1 {p:dE} {s aE:al} (h:eF p.a.aa aE s) (gO:p.ok s):p.ok aE:=by
 unfold dE.ok at gO⊢;split
 .rename_i hg;rw[if_pos hg]at gO;cases bo:p.a with
  |h x q=>
   rw[bo]at gO;simp only at gO⊢;rw[h x (by simp[bo,I.aa])];exact gO
  |_=>rw[bo]at gO;exact gO.elim
 .rename_i hg;rw[if_neg hg]at gO;exact af0 _ _ h gO
def Jg (C:cy) (o:cC) (s:al) (nF:fL) (ms:List ij):Prop:=
 (∀aE,eF nF.ea aE s->∀K:al->Prop,K (eV ms aE)->o0 C aE o K)/\(∀m∈ms,m.x∈nF.T/\∀u∈m.d.aa,u∈nF.H)/\(∀u∈nF.ea,∀x∈(s u).aa,x∈nF.H)/\(nF.c=true->∀u∈nF.ea,(s u).clean=true)
theorem Wt (dst:Option Nat) (av:I):∃ms:List ij,(∀m∈ms,m.x∈dst.toList/\m.d=av)/\∀s1:al,fin s1 dst av=eV ms s1:=by
 cases dst with
 |none=>exact⟨[],by simp,λs=>rfl⟩
 |some t=>
  simp only[fin];by_cases h:av.plain=true
  .exact⟨[⟨.no,t,av⟩],by simp,λs=>by rw[if_pos h,Vw]⟩
  .exact⟨[⟨.dL,t,av⟩],by simp,λs=>by rw[if_neg h,Vv]⟩
theorem Jh {s:al} {ea:azf} {dst:Option Nat} {dJ:azf} {av:I}:(∀u∈(kR s ea dst dJ av).ea,∀x∈(s u).aa,x∈(kR s ea dst dJ av).H)/\((kR s ea dst dJ av).c=true->∀u∈(kR s ea dst dJ av).ea,(s u).clean=true):=by
 refine⟨λu hu x aq=>?_,λau=>?_⟩
 .simp only[kR,List.mem_append,List.mem_flatMap];exact .inl ⟨u,hu,aq⟩
 .simp only[kR,List.all_eq_true]at au;exact au
theorem Wu {s:al} {f:bB} {args:List bB} {K:azf->I->al->Prop} (h:Wn C s f args K):
  ∃dJ av ms,K dJ av (eV ms s)/\(∀m∈ms,m.x∈dJ/\m.d.aa=[])/\∀aE,eF (use s (.call f args)) aE s->∀eG:I->al->Prop,eG av (eV ms aE)->NO C aE f args eG:=by
 obtain⟨g,caps,ps,r,ad,h3,ag,aD,bh,b1,du,di,hi⟩:=h;have af2:∀p∈ps,Jf s p (λd=>d=p.d/\p.d.hQ=true):=by
  intro p ax hg;have:=aD p ax;simp only[dE.ok,hg,if_true]at this;cases bo:p.a with
  |h x q=>rw[bo]at this;exact⟨x,q,p.d,rfl,this.1,⟨rfl,this.2.1⟩,this.2.2.imp id λh=>h.1⟩
  |_=>rw[bo]at this;exact this.elim
 obtain⟨⟨s0,J,a2⟩,a3⟩:=afV ps s af2 bh;obtain⟨xL,hG,fP⟩:=afY ps (fW s ps) a3 bh;have uu:∀u∈I.e3 (ps.map (·.a)),u∈use s (.call f args):=by
  rw[ag];intro u hu;simp only[use,List.mem_append];have key:∀(ic l2:azk),u∈I.e3 (ic++l2)->u∈I.e3 ic\/u∈I.e3 l2:=by
   intro ic;induction ic with
   |nil=>intro l2 h;exact .inr h
   |cons a ic ih=>
    intro l2 h;simp only[List.cons_append,I.e3,List.mem_append]at h⊢;rcases h with h|h
    .exact .inl (.inl h)
    .exact(ih l2 h).imp .inr id
  rcases key _ _ hu with hu|hu
  .exact .inr (bB.I3 u hu)
  .refine .inl (bB.zv u ?_);rw[ad];exact hu
 have gi:jk (fW s ps) ps=eV (s0++xL) s:=by
  rw[pB,<-a2 s (λ_ _=>rfl),fP _ (λ_ _=>rfl)]
 refine⟨uD ps,r,s0++xL,by rw[<-gi];exact hi,?_,?_⟩
 .intro m hm;rcases List.mem_append.1 hm with hm|hm
  .exact J m hm
  .exact hG m hm
 .intro aE aa eG aw;have qM:eF (I.e3 (ps.map (·.a))) aE s:=aa.sub uu;have bH:eF (f.use s) aE s:=by simp only[use]at aa;exact aa.left
  have aq:eF (bB.sZ s args) aE s:=by simp only[use]at aa;exact aa.right
  have aR:jk (fW aE ps) ps=eV (s0++xL) aE:=by
   rw[pB,<-a2 aE qM,fP];rw[a2 aE qM,a2 s (λ_ _=>rfl)];exact eF.eV qM _
  exact⟨g,caps,ps,r,by rw[bB.gI bH];exact ad,h3,by rw[bB.Nw aq];exact ag,λp ax=>af1 (qM.sub (afU ax)) (aD p ax),bh,b1,du,di,by rw[aR];exact aw⟩
mutual
theorem Wv {s aE:al}:∀(d:I),eF d.aa aE s->d.gP aE=d.gP s
 | .h x q,h=>by simp only[I.gP];rw[h x (by simp[I.aa])]
 | .ab x q,h=>by simp only[I.gP];rw[h x (by simp[I.aa])]
 | .fn f cap,h=>by simp only[I.gP];exact Ww cap (by simpa only[I.aa]using h)
 | .ax _ _,_=>by simp only[I.gP]
 | .hole,_=>by simp only[I.gP]
 | .bool _,_=>by simp only[I.gP]
 | .gu,_=>by simp only[I.gP]
 | .int _ _,_=>by simp only[I.gP]
 | .str _,_=>by simp only[I.gP]
 | .ez,_=>by simp only[I.gP]
 | .bd,_=>by simp only[I.gP]
 | .slice _,_=>by simp only[I.gP]
 | .ae _ _,_=>by simp only[I.gP]
 | .ref _,_=>by simp only[I.gP]
 | .aM _,_=>by simp only[I.gP]
 | .agg _,_=>by simp only[I.gP]
 | .tuple _,_=>by simp only[I.gP]
 | .ck _,_=>by simp only[I.gP]
theorem Ww {s aE:al}:∀(ds:azk),eF (I.e3 ds) aE s->I.rN aE ds=I.rN s ds
 |[],_=>rfl
 |d::ds,h=>by
  simp only[I.e3]at h;simp only[I.rN];rw[Wv d h.left,Ww ds h.right]
end
theorem N_ {s aE:al} {us:azf} (h:eF (us.flatMap λu=>u::(s u).aa) aE s):lr aE us=lr s us:=by
 unfold lr;refine List.map_congr_left λu hu=>?_;rw[h u (List.mem_flatMap.2 ⟨u,hu,by simp⟩)]
theorem Oa {s aE:al}:∀(L:azj),(∀p∈L,eF p.2.aa aE s)->oo aE L=oo s L
 |[],_=>rfl
 |p::L,h=>by
  simp only[oo];rw[Wv p.2 (h p (by simp)),Oa L (λq cE=>h q (by simp[cE]))]
theorem Wx:∀(L:azj) (s:al),p6 s L=eV (L.map λp=>⟨.no,p.1,p.2⟩) s
 |[],s=>rfl
 |p::L,s=>by
  simp only[p6,List.map_cons];rw[Wx L,Vw];exact(pB [⟨.no,p.1,p.2⟩] _ s).symm
theorem af3 {s:al} {b3:e0} {K:azf->I->al->Prop} (h:qP C s b3 K):
  ∃dJ av ms,K dJ av (eV ms s)/\(∀m∈ms,m.x∈dJ/\∀v∈m.d.aa,∃u∈use s b3,v∈(s u).aa)/\∀aE,eF (use s b3) aE s->∀eG:I->al->Prop,eG av (eV ms aE)->rO C aE b3 eG:=by
 have plain:(∃av s1,cg C s b3=some (av,s1)/\K (lp s b3) av s1)->(∀aE (eG:I->al->Prop) av s1,cg C aE b3=some (av,s1)->eG av s1->rO C aE b3 eG)->
   ∃dJ av ms,K dJ av (eV ms s)/\(∀m∈ms,m.x∈dJ/\∀v∈m.d.aa,∃u∈use s b3,v∈(s u).aa)/\∀aE,eF (use s b3) aE s->∀eG:I->al->Prop,eG av (eV ms aE)->rO C aE b3 eG:=by
  rintro⟨av,s1,ad,ag⟩ hw;obtain⟨ms,aR,aW,aU⟩:=VN ad;subst aR;exact⟨_,av,ms,ag,λm hm=>⟨(aW m hm).1,λv aF=>by rw[(aW m hm).2]at aF;cases aF⟩,λaE aa eG aw=>hw aE eG av _ (aU aE aa) aw⟩
 cases b3 with
 |call f args=>
  obtain⟨dJ,av,ms,J,a2,a3⟩:=Wu h;exact⟨dJ,av,ms,J,λm hm=>⟨(a2 m hm).1,λv aF=>by rw[(a2 m hm).2]at aF;cases aF⟩,λaE aa eG aw=>a3 aE aa eG aw⟩
 |mV f args us=>
  obtain⟨cu,au⟩:=h;obtain⟨dJ,av,ms,⟨J,af4⟩,a2,a3⟩:=Wu au;have e:∀aE:al,p6 (eV ms aE) (lr s us)=eV (ms++(lr s us).map λp=>⟨.no,p.1,p.2⟩) aE:=λaE=>by rw[pB,Wx]
  have kz:∀{aE:al},eF (us.flatMap λu=>u::(s u).aa) aE s->∀p∈lr s us,eF p.2.aa aE s:=λ{aE} aa p ax v aF=>by
   obtain⟨u,hu,rfl⟩:=List.mem_map.1 ax;exact aa v (List.mem_flatMap.2 ⟨u,hu,by simp[aF]⟩)
  refine⟨us++dJ,av,ms++(lr s us).map λp=>⟨.no,p.1,p.2⟩,by rw[<-e];exact af4,?_,?_⟩
  .intro m hm;rcases List.mem_append.1 hm with hm|hm
   .exact⟨by simp[(a2 m hm).1],λv aF=>by rw[(a2 m hm).2]at aF;cases aF⟩
   .obtain⟨p,ax,rfl⟩:=List.mem_map.1 hm;obtain⟨u,hu,rfl⟩:=List.mem_map.1 ax;exact⟨List.mem_append_left _ hu,λv aF=>⟨u,by simp only[use,List.mem_append,List.mem_flatMap];exact .inl ⟨u,hu,by simp⟩,aF⟩⟩
  .intro aE aa eG aw;simp only[use]at aa;refine⟨by rw[N_ aa.left,Oa _ (kz aa.left)];exact cu,a3 aE aa.right _ ⟨?_,?_⟩⟩
   .rw[N_ aa.left,Oa _ (λp ax=>(kz aa.left p ax).eV ms)];exact J
   .rw[N_ aa.left,e];exact aw
 |shr b3=>
  obtain⟨av,s1,ad,ag,aD,bh⟩:=h;obtain⟨ms,aR,aW,aU⟩:=VN ad;subst aR;exact⟨_,av.share,ms,bh,λm hm=>⟨(aW m hm).1,λv aF=>by rw[(aW m hm).2]at aF;cases aF⟩,λaE aa eG aw=>⟨av,_,aU aE aa,ag,aD,aw⟩⟩
 |_=>exact plain h (λaE eG av s1 ad ag=>⟨av,s1,ad,ag⟩)
theorem af5 {s:al} {o:cC} {K:fL->al->Prop} (h:o1 C s o K):∃nF ms,K nF (eV ms s)/\Jg C o s nF ms:=by
 have op:∀(ea:azf),(∀u∈use s o.b3,u∈ea)->(∀aE,eF ea aE s->∀eG:al->Prop,rO C aE o.b3 (λav s1=>eG (fin s1 o.dst av))->o0 C aE o eG)->
   qP C s o.b3 (λdJ av s1=>K (kR s ea o.dst dJ av) (fin s1 o.dst av))->∃nF ms,K nF (eV ms s)/\Jg C o s nF ms:=by
  intro ea uu oe hw;obtain⟨dJ,av,ms,ad,ag,aD⟩:=af3 hw;obtain⟨mf,mi,bD⟩:=Wt o.dst av;refine⟨kR s ea o.dst dJ av,ms++mf,?_,?_,?_,Jh.1,Jh.2⟩
  .rw[pB,<-bD];exact ad
  .intro aE aa eG aw;refine oe aE aa eG (aD aE (aa.sub uu) _ ?_);rw[bD,<-pB];exact aw
  .intro m hm;simp only[kR,List.mem_append];rcases List.mem_append.1 hm with hm|hm
   .refine⟨.inr (ag m hm).1,λv aF=>.inl ?_⟩;obtain⟨u,hu,pq⟩:=(ag m hm).2 v aF;exact List.mem_flatMap.2 ⟨u,uu u hu,pq⟩
   .exact⟨.inl (mi m hm).1,λu hu=>.inr (by rw[(mi m hm).2]at hu;exact hu)⟩
 have skip:∀t,(∀aE,eF [t] aE s->∀eG:al->Prop,eG (fin aE o.dst (.tuple []))->o0 C aE o eG)->K (kR s [t] o.dst [] (.tuple [])) (fin s o.dst (.tuple []))->∃nF ms,K nF (eV ms s)/\Jg C o s nF ms:=by
  intro t oe aw;obtain⟨mf,mi,bD⟩:=Wt o.dst (.tuple []);refine⟨_,mf,by rw[<-bD];exact aw,?_,?_,Jh.1,Jh.2⟩
  .intro aE aa eG nW;exact oe aE aa eG (by rw[bD];exact nW)
  .intro m hm;simp only[kR,List.mem_append];exact⟨.inl (mi m hm).1,λu hu=>by rw[(mi m hm).2]at hu;simp[I.aa]at hu⟩
 unfold o1 at h;split at h
 .rename_i hg;exact op _ (λ_ h=>h) (λaE _ eG hw=>by unfold o0;rw[hg];exact hw) h
 .rename_i t b hg;split at h
  .rename_i gV ab;split at h
   .rename_i e;refine op (t::use s o.b3) (λu hu=>by simp[hu]) (λaE aa eG hw=>?_) h;have:aE t=s t:=aa t (by simp);unfold o0;rw[hg];simp only[this,ab,if_pos e];exact hw
   .rename_i e;refine skip t (λaE aa eG aw=>?_) h;have:aE t=s t:=aa t (by simp);unfold o0;rw[hg];simp only[this,ab,if_neg e];exact aw
  .rename_i ab;refine skip t (λaE aa eG aw=>?_) h;have:aE t=s t:=aa t (by simp);unfold o0;rw[hg];simp only[this,ab];exact aw
  .exact h.elim
def xY (C:cy) (ros:List cC):al->List (Nat×fL×List ij)->Prop
 |_,[]=>True
 |s,e::r=>(∃o,ros[e.1]? =some o/\Jg C o s e.2.1 e.2.2)/\xY C ros (eV e.2.2 s) r
def td (s:al) (r:List (Nat×fL×List ij)):al:=r.foldl (λs e=>eV e.2.2 s) s
def rF (a b:azf):Bool:=a.all λx=> !b.contains x
theorem B1 {a b:azf} (h:rF a b=true):∀x∈a,x∉b:=by
 intro x aq;simp only[rF,List.all_eq_true]at h;simpa using h x aq
def zD (a b:fL):Bool:=rF b.T a.ea&&rF b.T a.H&&rF b.T a.T&&rF a.T b.ea&&rF a.T b.H&&b.c
theorem af6 {ros:List cC} {s:al} {a b:Nat×fL×List ij} {r:List (Nat×fL×List ij)} (h:xY C ros s (a::b::r)) (ai:zD a.2.1 b.2.1=true):
  xY C ros s (b::a::r)/\td s (b::a::r)=td s (a::b::r):=by
 obtain⟨⟨af7,bo,J,a2,a3,a4⟩,⟨ck,ab,hG,fP,gj,bT⟩,aS⟩:=h;simp only[zD,Bool.and_eq_true]at ai;obtain⟨⟨⟨⟨⟨xy,i2⟩,i3⟩,i4⟩,i5⟩,My⟩:=ai;have Ob:∀u∈b.2.1.ea,eV a.2.2 s u=s u:=by
  intro u hu;refine afP _ _ _ (λm hm e=>?_) (bT My u hu);exact B1 i4 m.x (a2 m hm).1 (e▸hu)
 have Oc:∀u∈a.2.1.ea,eV b.2.2 s u=s u:=by
  intro u hu;refine afQ _ _ _ λm hm=>⟨λe=>?_,λaq=>?_⟩
  .exact B1 xy m.x (fP m hm).1 (e▸hu)
  .exact B1 i2 m.x (fP m hm).1 (a3 u hu _ aq)
 have Wy:eV b.2.2 (eV a.2.2 s)=eV a.2.2 (eV b.2.2 s):=by
  refine afS _ _ _ λm hm n aV=>⟨λe=>?_,λh=>?_,λh=>?_⟩
  .exact B1 i3 n.x (fP n aV).1 (e▸(a2 m hm).1)
  .exact B1 i2 n.x (fP n aV).1 ((a2 m hm).2 _ h)
  .exact B1 i5 m.x (a2 m hm).1 ((fP n aV).2 _ h)
 refine⟨⟨⟨ck,ab,?_,fP,?_,?_⟩,⟨af7,bo,?_,a2,?_,?_⟩,?_⟩,?_⟩
 .intro aE aa K aw;exact hG aE (λu hu=>(aa u hu).trans (Ob u hu).symm) K aw
 .intro u hu x aq;exact gj u hu x (by rw[Ob u hu];exact aq)
 .intro au u hu;have:=bT au u hu
  rwa [Ob u hu]at this
 .intro aE aa K aw;exact J aE (λu hu=>(aa u hu).trans (Oc u hu)) K aw
 .intro u hu x aq;rw[Oc u hu]at aq;exact a3 u hu x aq
 .intro au u hu;rw[Oc u hu];exact a4 au u hu
 .rw[<-Wy];exact aS
 .simp only[td,List.foldl_cons];rw[Wy]
theorem af8 {ros:List cC} {e:Nat×fL×List ij} {post:List (Nat×fL×List ij)}:∀(pre:List (Nat×fL×List ij)) (s:al),xY C ros s (pre++e::post)->(∀a∈pre,zD a.2.1 e.2.1=true)->
  xY C ros s (e::(pre++post))/\td s (e::(pre++post))=td s (pre++e::post):=by
 intro pre;induction pre with
 |nil=>intro s h _;exact⟨h,rfl⟩
 |cons a pre ih=>
  intro s h ai;obtain⟨ad,ag⟩:=h;obtain⟨g1,g2⟩:=ih _ ag λb ab=>ai b (by simp[ab]);have au:xY C ros s (a::e::(pre++post)):=⟨ad,g1⟩
  obtain⟨bX,cu⟩:=af6 au (ai a (by simp));refine⟨bX,cu.trans ?_⟩;simp only[td,List.foldl_cons,List.cons_append]at g2⊢;exact g2
end
def Fz:azd->azd->azd
 |done,[]=>done
 |done,a::r=>Fz (done++[a++a.flatMap λe=>(done[e]?).getD []]) r
def nG (de:azd):azd:=Fz [] de
theorem af9 {de:azd} {l:azf} (hl:∀u i v,l=u++i::v->∀e∈(de[i]?).getD [],e∈u):∀(rest pre done:azd),de=pre++rest->done.length=pre.length->
  (∀u i v,l=u++i::v->∀e∈(done[i]?).getD [],e∈u)->∀u i v,l=u++i::v->∀e∈((Fz done rest)[i]?).getD [],e∈u:=by
 intro rest;induction rest with
 |nil=>intro pre done _ _ h;exact h
 |cons a rest ih=>
  intro pre done Wz hlen h;simp only[Fz];refine ih (pre++[a]) _ (by simp[Wz]) (by simp[hlen]) ?_;intro u i v hu e he;by_cases ai:i<done.length
  .rw[List.getElem?_append_left ai]at he;exact h u i v hu e he
  .rw[List.getElem?_append_right (by omega)]at he;by_cases E2:i-done.length=0
   .rw[E2]at he;simp only[List.getElem?_cons_zero,Option.getD_some,List.mem_append,List.mem_flatMap]at he;have Ji:(de[i]?).getD []=a:=by
     have:i=pre.length:=by omega
     rw[Wz,this,List.getElem?_append_right (Nat.le_refl _)];simp
    rcases he with he|⟨hs,qO,he⟩
    .exact hl u i v hu e (by rw[Ji];exact he)
    .have E6:=hl u i v hu hs (by rw[Ji];exact qO);obtain⟨v7,rT,rfl⟩:=List.append_of_mem E6;have:=h v7 hs (rT++i::v) (by rw[hu];simp) e he;simp[this]
   .rw[List.getElem?_eq_none (by simp;omega)]at he;simp at he
theorem af_ {de:azd} {l:azf} (hl:∀u i v,l=u++i::v->∀e∈(de[i]?).getD [],e∈u):∀u i v,l=u++i::v->∀e∈((nG de)[i]?).getD [],e∈u:=
 af9 hl de [] [] rfl rfl λu i v _ e he=>by simp at he
def kF (p9:azd):Nat->List (Nat×fL)->List fL->Bool
 |_,_,[]=>true
 |j,es,f::aG=>(es.all λe=>((p9[j]?).getD []).contains e.1||zD e.2 f)&&kF p9 (j+1) ((j,f)::es) aG
def Od (p9:azd) (a b:Nat×fL×List ij):Prop:=a.1∈(p9[b.1]?).getD []\/zD a.2.1 b.2.1=true
theorem aga {p9:azd}:∀(iY:List (Nat×fL×List ij)) (j:Nat) (es:List (Nat×fL)),iY.map (·.1)=(List.range iY.length).map (·+j)->kF p9 j es (iY.map (·.2.1))=true->
  iY.Pairwise (Od p9)/\∀e∈es,∀b∈iY,e.1∈(p9[b.1]?).getD []\/zD e.2 b.2.1=true:=by
 intro iY;induction iY with
 |nil=>intro j es _ _;exact⟨.nil,λe _ b ab=>by cases ab⟩
 |cons a iY ih=>
  intro j es zE gO;rw[List.length_cons,List.range_succ_eq_map,List.map_cons,List.map_cons,List.map_map]at zE;simp only[List.cons.injEq,Nat.zero_add]at zE;obtain⟨bG,zE⟩:=zE;simp only[List.map_cons,kF,Bool.and_eq_true,List.all_eq_true,Bool.or_eq_true]at gO;obtain⟨ad,ag⟩:=gO;obtain⟨g1,g2⟩:=ih (j+1) _ (by rw[zE];congr 1;funext x;simp;omega) ag;refine⟨.cons (λb ab=>?_) g1,λe he b ab=>?_⟩
  .have:=g2 (j,a.2.1) (by simp) b ab;simp only[Od,bG];exact this
  .rcases List.mem_cons.1 ab with rfl|ab
   .rw[bG];exact(ad e he).imp (λh=>by simpa using h) id
   .exact g2 e (by simp[he]) b ab
section
variable {C:cy}
theorem agb {K:Option (List fL)->al->Prop}:∀(os pre:List cC) (s:al) (acc:List fL),dF C s os (some acc) K->
  ∃iY,xY C (pre++os) s iY/\iY.map (·.1)=(List.range os.length).map (·+pre.length)/\K (some ((iY.map (·.2.1)).reverse++acc)) (td s iY):=by
 intro os;induction os with
 |nil=>intro pre s acc h;exact⟨[],trivial,rfl,h⟩
 |cons o os ih=>
  intro pre s acc h;obtain⟨nF,ms,ad,ag⟩:=af5 h;obtain⟨iY,g1,g2,g3⟩:=ih (pre++[o]) _ (nF::acc) ad;refine⟨(pre.length,nF,ms)::iY,⟨⟨o,?_,ag⟩,?_⟩,?_,?_⟩
  .rw[List.getElem?_append_right (Nat.le_refl _)];simp
  .simpa using g1
  .rw[List.length_cons,List.range_succ_eq_map,List.map_cons,List.map_cons,List.map_map,g2];simp only[List.cons.injEq,Nat.zero_add,true_and];congr 1;funext x;simp;omega
  .simpa [td]using g3
theorem agc {ros:List cC} {p9:azd} {K:al->Prop}:∀(l:azf) (iY:List (Nat×fL×List ij)) (s:al),xY C ros s iY->iY.Pairwise (Od p9)->l.Nodup->(iY.map (·.1)).Nodup->
  (∀i,i∈l↔i∈iY.map (·.1))->(∀u i v,l=u++i::v->∀e∈(p9[i]?).getD [],e∈iY.map (·.1)->e∈u)->K (td s iY)->kP C ros s l K:=by
 intro l;induction l with
 |nil=>
  intro iY s _ _ _ _ hm _ aw;cases iY with
  |nil=>exact aw
  |cons e iY=>have:=(hm e.1).2 (by simp);cases this
 |cons i l ih=>
  intro iY s au ax aV xM hm bO aw;obtain⟨e,he,ai⟩:=List.mem_map.1 ((hm i).1 (by simp));obtain⟨pre,post,rfl⟩:=List.append_of_mem he;have agd:∀a∈pre,zD a.2.1 e.2.1=true:=by
   intro a bo;have aS:=(List.pairwise_append.1 ax).2.2 a bo e (by simp);rcases aS with aS|aS
   .rw[ai]at aS;have:=bO [] i l rfl a.1 aS (by simp only[List.map_append,List.mem_append,List.mem_map];exact .inl ⟨a,bo,rfl⟩);cases this
   .exact aS
  obtain⟨g1,g2⟩:=af8 pre s au agd;obtain⟨⟨o,age,Jj⟩,g3⟩:=g1;have WA:i∉(pre++post).map (·.1):=by
   have:(pre.map (·.1)++e.1::post.map (·.1)).Nodup:=by simpa using xM
   have bF:=(List.perm_middle.nodup_iff.1 this)
   rw[List.nodup_cons]at bF;rw[<-ai];simpa using bF.1
  simp only[kP];rw[<-ai,age];refine Jj.1 s (λ_ _=>rfl) _ ?_;rw[List.nodup_cons]at aV;refine ih (pre++post) _ g3 ?_ aV.2 ?_ ?_ ?_ ?_
  .exact ax.sublist ((List.Sublist.refl pre).append (List.sublist_cons_self e post))
  .have:(pre.map (·.1)++e.1::post.map (·.1)).Nodup:=by simpa using xM
   have bF:=(List.perm_middle.nodup_iff.1 this)
   rw[List.nodup_cons]at bF;simpa using bF.2
  .intro j;constructor
   .intro bG;have ad:=(hm j).1 (by simp[bG]);simp only[List.map_append,List.map_cons,List.mem_append,List.mem_cons]at ad⊢;rcases ad with ad|rfl|ad
    .exact .inl ad
    .exact(aV.1 (ai▸bG)).elim
    .exact .inr ad
   .intro bG;have ad:=(hm j).2 (by
     simp only[List.map_append,List.map_cons,List.mem_append,List.mem_cons]at bG⊢;exact bG.imp id .inr)
    rcases List.mem_cons.1 ad with rfl|ad
    .exact(WA bG).elim
    .exact ad
  .intro u j v hu x aq Oe;have ad:=bO (i::u) j v (by rw[hu];rfl) x aq (by
    simp only[List.map_append,List.map_cons,List.mem_append,List.mem_cons]at Oe⊢;exact Oe.imp id .inr)
   rcases List.mem_cons.1 ad with rfl|ad
   .exact(WA Oe).elim
   .exact ad
  .have:td s (e::(pre++post))=td (eV e.2.2 s) (pre++post):=rfl;rw[<-this,g2];exact aw
theorem Jk {ros:List cC} {de:azd} {s:al} {K:al->Prop} (hlen:de.length=ros.length)
  (h:dF C s ros (some []) (λacc s=>kF (nG de) 0 [] (acc.getD []).reverse=true/\K s)):∀l,s9 de l->kP C ros s l K:=by
 intro l ⟨ic,l2,E8⟩;obtain⟨iY,g1,g2,g3,g4⟩:=agb ros [] s [] h;simp only[List.nil_append,List.append_nil,List.length_nil,Option.getD_some,List.reverse_reverse]at g1 g2 g3;have hl:iY.length=ros.length:=by have:=congrArg List.length g2;simpa using this
 have zE:iY.map (·.1)=(List.range iY.length).map (·+0):=by rw[g2,hl]
 have aS:iY.map (·.1)=List.range ros.length:=by rw[g2];simp
 obtain⟨gY,_⟩:=aga iY 0 [] zE g3;refine agc l iY s g1 gY ic (by rw[aS];exact List.nodup_range) (λi=>?_) (λu i v hu e he _=>af_ E8 u i v hu e he) g4;rw[aS,l2,hlen,List.mem_range]
end
def pG (C:cy) (dst:Option Nat) (os:List cC) (K:Option (List fL)->al->Prop):Option (I×al)->Prop
 |some (av,s1)=>dF C (fin s1 dst av) os none K
 |none=>False
def p_ (C:cy) (l:azj) (ea dJ:azf) (dst:Option Nat) (os:List cC) (a:List fL) (K:Option (List fL)->al->Prop):Option (I×al)->Prop
 |some (av,s1)=>dF C (fin s1 dst av) os (some (kR (ar l) ea dst dJ av::a)) K
 |none=>False
def lT (C:cy) (l:azj) (dst:Option Nat) (b3:e0) (t:Nat) (b:Bool) (os:List cC) (acc:Option (List fL)) (K:Option (List fL)->al->Prop):I->Prop
 | .bool gV=>if gV=b then qP C (ar l) b3 (λdJ av s1=>dF C (fin s1 dst av) os (tc acc (kR (ar l) (t::use (ar l) b3) dst dJ av)) K)else dF C (fin (ar l) dst (.tuple [])) os (tc acc (kR (ar l) [t] dst [] (.tuple []))) K
 | .tuple []=>dF C (fin (ar l) dst (.tuple [])) os (tc acc (kR (ar l) [t] dst [] (.tuple []))) K
 |_=>False
section
variable {C:cy} {l:azj} {os:List cC} {K:Option (List fL)->al->Prop} {dst:Option Nat} {a:List fL} {acc:Option (List fL)}
theorem Jl {s:al} {b3:e0} {K:azf->I->al->Prop} (aV:b3.jY=false):qP C s b3 K=(match cg C s b3 with
  |some (av,s1)=>K (lp s b3) av s1
  |none=>False):=by
 apply propext;constructor
 .intro h;cases b3<;>first
   |(simp[e0.jY]at aV;done)
   |(obtain⟨av,s1,ad,ag⟩:=h;rw[ad];exact ag)
 .intro h;split at h
  .rename_i av s1 he;cases b3<;>first
    |(simp[e0.jY]at aV;done)
    |exact⟨av,s1,he,h⟩
  .exact h.elim
theorem WB:dF C (ar l) [] acc K=K acc (ar l):=rfl
theorem v8 {b3:e0} (aV:b3.jY=false):dF C (ar l) (⟨dst,b3,none⟩::os) none K=pG C dst os K (cg C (ar l) b3):=by
 simp only[dF,o1,tc];rw[Jl aV];cases cg C (ar l) b3 with
 |none=>rfl
 |some p=>rfl
theorem xZ {b3:e0} (aV:b3.jY=false):dF C (ar l) (⟨dst,b3,none⟩::os) (some a) K=p_ C l (use (ar l) b3) (lp (ar l) b3) dst os a K (cg C (ar l) b3):=by
 simp only[dF,o1,tc];rw[Jl aV];cases cg C (ar l) b3 with
 |none=>rfl
 |some p=>rfl
theorem WC {b3:e0} {t:Nat} {b:Bool}:dF C (ar l) (⟨dst,b3,some (t,b)⟩::os) acc K=lT C l dst b3 t b os acc K (ar l t):=by
 simp only[dF,o1];generalize ar l t=v;cases v<;>first|rfl|(rename_i vs;cases vs<;>rfl)
theorem Of {b3:e0} {t:Nat} {b:Bool} (aV:b3.jY=false):lT C l dst b3 t b os none K (.bool b)=pG C dst os K (cg C (ar l) b3):=by
 simp only[lT,if_true];rw[Jl aV];cases cg C (ar l) b3 with
 |none=>rfl
 |some p=>rfl
theorem Og {b3:e0} {t:Nat} {b:Bool} (aV:b3.jY=false):lT C l dst b3 t b os (some a) K (.bool b)=p_ C l (t::use (ar l) b3) (lp (ar l) b3) dst os a K (cg C (ar l) b3):=by
 simp only[lT,if_true];rw[Jl aV];cases cg C (ar l) b3 with
 |none=>rfl
 |some p=>rfl
theorem agf {b3:e0} {t:Nat}:lT C l dst b3 t true os none K (.bool false)=dF C (fin (ar l) dst (.tuple [])) os none K/\lT C l dst b3 t false os none K (.bool true)=dF C (fin (ar l) dst (.tuple [])) os none K/\
  (∀b,lT C l dst b3 t b os none K (.tuple [])=dF C (fin (ar l) dst (.tuple [])) os none K):=⟨rfl,rfl,λ_=>rfl⟩
theorem agh {b3:e0} {t:Nat}:lT C l dst b3 t true os (some a) K (.bool false)=dF C (fin (ar l) dst (.tuple [])) os (some (kR (ar l) [t] dst [] (.tuple [])::a)) K/\
  lT C l dst b3 t false os (some a) K (.bool true)=dF C (fin (ar l) dst (.tuple [])) os (some (kR (ar l) [t] dst [] (.tuple [])::a)) K/\
  (∀b,lT C l dst b3 t b os (some a) K (.tuple [])=dF C (fin (ar l) dst (.tuple [])) os (some (kR (ar l) [t] dst [] (.tuple [])::a)) K):=⟨rfl,rfl,λ_=>rfl⟩
theorem agi (av:I) (s1:al):pG C dst os K (some (av,s1))=dF C (fin s1 dst av) os none K:=rfl
theorem agj (ea dJ:azf) (av:I) (s1:al):p_ C l ea dJ dst os a K (some (av,s1))=dF C (fin s1 dst av) os (some (kR (ar l) ea dst dJ av::a)) K:=rfl
def v_ (s:al):I->Option (I×al)
 | .h y q=>dJ s (.h y q)
 |d=>some (d,s)
def WD (s:al):I->I->I->Option (I×al)
 | .bool gV,x,y=>some (if gV then x else y,s)
 |_,_,_=>none
def lu (s:al):Option I->Option (I×al)
 |some d=>some (d,s)
 |none=>none
def dk:Option al->Option (I×al)
 |some s1=>some (.hole,s1)
 |none=>none
def lv (s:al):List bB->azk
 |[]=>[]
 |x::xs=>bx s x::lv s xs
def x0 (s:al):List (Nat×bB)->azj
 |[]=>[]
 |(k,x)::xs=>(k,bx s x)::x0 s xs
def FA (s:al):Option bB->Option I
 |none=>none
 |some x=>some (bx s x)
theorem Oh (s:al) (x:Option I):(x.map λd=>(d,s))=lu s x:=by cases x<;>rfl
theorem WE (x:Option al):(x.map λs1=>(I.hole,s1))=dk x:=by cases x<;>rfl
theorem B2 (s:al):∀xs:List bB,xs.map (bx s)=lv s xs
 |[]=>rfl
 |x::xs=>by simp only[List.map_cons,lv,B2 s xs]
theorem WG (s:al):∀xs:List (Nat×bB),(xs.map λp=>(p.1,bx s p.2))=x0 s xs
 |[]=>rfl
 |(k,x)::xs=>by simp only[List.map_cons,x0,WG s xs]
theorem agk (s:al) (x:Option bB):x.map (bx s)=FA s x:=by cases x<;>rfl
theorem WH:(∀x,e0.jY (.ga x)=false)/\
  (∀x,e0.jY (.hX x)=false)/\
  (∀c x y,e0.jY (.pick c x y)=false)/\
  (∀T,e0.jY (.mU T)=false)/\
  (∀T x,e0.jY (.iy T x)=false)/\
  (∀T ps,e0.jY (.gH T ps)=false)/\
  (∀T n ps,e0.jY (.d_ T n ps)=false)/\
  (∀T x,e0.jY (.fV T x)=false)/\
  (∀T x y,e0.jY (.k1 T x y)=false)/\
  (∀x,e0.jY (.mC x)=false)/\
  (∀op T x y,e0.jY (.eP op T x y)=false)/\
  (∀op x,e0.jY (.un op x)=false)/\
  (∀A B x,e0.jY (.k3 A B x)=false)/\
  (∀f cs,e0.jY (.p3 f cs)=false)/\
  (∀T x y,e0.jY (.fk T x y)=false)/\
  (∀T x fT ai,e0.jY (.iW T x fT ai)=false)/\
  (∀T x k,e0.jY (.h2 T x k)=false)/\
  (∀T x y,e0.jY (.kM T x y)=false)/\
  (∀T x y,e0.jY (.idx T x y)=false)/\
  (∀x k,e0.jY (.ex x k)=false)/\
  (∀T x,e0.jY (.len T x)=false)/\
  (∀T ea x y,e0.jY (.app T ea x y)=false):=by
 and_intros<;>intros<;>rfl
theorem WI:(∀x,cg C (ar l) (.ga x)=some (bx (ar l) x,ar l))/\
  (∀x,cg C (ar l) (.hX x)=v_ (ar l) (bx (ar l) x))/\
  (∀c x y,cg C (ar l) (.pick c x y)=WD (ar l) (bx (ar l) c) (bx (ar l) x) (bx (ar l) y))/\
  (∀T,cg C (ar l) (.mU T)=lu (ar l) (mU C T))/\
  (∀T x,cg C (ar l) (.iy T x)=iy (ar l) (bx (ar l) x))/\
  (∀T ps,cg C (ar l) (.gH T ps)=gH C (ar l) T (x0 (ar l) ps))/\
  (∀T n ps,cg C (ar l) (.d_ T n ps)=d_ C (ar l) T n (x0 (ar l) ps))/\
  (∀T x,cg C (ar l) (.fV T x)=lu (ar l) (fV C (ar l) T (bx (ar l) x)))/\
  (∀T x y,cg C (ar l) (.k1 T x y)=dk (k1 C (ar l) T (bx (ar l) x) (bx (ar l) y)))/\
  (∀x,cg C (ar l) (.mC x)=lu (ar l) (mC (ar l) (bx (ar l) x)))/\
  (∀op T x y,cg C (ar l) (.eP op T x y)=lu (ar l) (eP C (ar l) op T (bx (ar l) x) (bx (ar l) y)))/\
  (∀op x,cg C (ar l) (.un op x)=lu (ar l) (un op (bx (ar l) x)))/\
  (∀A B x,cg C (ar l) (.k3 A B x)=lu (ar l) (k3 C (ar l) A B (bx (ar l) x)))/\
  (∀f cs,cg C (ar l) (.p3 f cs)=some (.fn f (lv (ar l) cs),ar l))/\
  (∀T x y,cg C (ar l) (.fk T x y)=lu (ar l) (fk C T (bx (ar l) x) (bx (ar l) y)))/\
  (∀T x fT ai,cg C (ar l) (.iW T x fT ai)=iW C (ar l) T (bx (ar l) x) (FA (ar l) fT) (FA (ar l) ai))/\
  (∀T x k,cg C (ar l) (.h2 T x k)=lu (ar l) (h2 C (ar l) T (bx (ar l) x) k))/\
  (∀T x y,cg C (ar l) (.kM T x y)=lu (ar l) (kM C (ar l) T (bx (ar l) x) (bx (ar l) y)))/\
  (∀T x y,cg C (ar l) (.idx T x y)=lu (ar l) (idx C T (bx (ar l) x) (bx (ar l) y)))/\
  (∀x k,cg C (ar l) (.ex x k)=lu (ar l) (ex (ar l) (bx (ar l) x) k))/\
  (∀T x,cg C (ar l) (.len T x)=lu (ar l) (vQ C (ar l) T (bx (ar l) x)))/\
  (∀T ea x y,cg C (ar l) (.app T ea x y)=vU C (ar l) T ea (bx (ar l) x) (bx (ar l) y)):=by
 and_intros<;>intros<;>first|rfl|(simp only[cg,Oh,WE,WG,B2,agk];done)|(simp only[cg];cases bx (ar l) _<;>first|rfl|(rename_i b;cases b<;>rfl))
end
theorem WJ:∀t d,uh t d=if I.plain d=true then d else .h t []:=λ_ _=>rfl
theorem WK:(∀l av,fin (ar l) none av=ar l)/\(∀l t av,fin (ar l) (some t) av=ar ((t,av)::if I.plain av=true then l else vY t l)):=
 ⟨λ_ _=>rfl,λl t av=>by
  simp only[fin];split
  .rw[Fv]
  .rw[N7,Fv]⟩
theorem Oi:
  (∀k n,I.plain (.int k n)=true)/\
  (∀b,I.plain (.bool b)=true)/\
  (∀x,I.plain (.str x)=true)/\
  (∀xs,I.plain (.slice xs)=true)/\
  (∀d,I.plain (.ref d)=true)/\
  (∀f cap,I.plain (.fn f cap)=true)/\
  (∀x q,I.plain (.h x q)=true)/\
  (∀x q,I.plain (.ax x q)=true)/\
  (I.plain .ez=true)/\
  (I.plain .bd=true)/\
  (I.plain .gu=true)/\
  (I.plain .hole=true)/\
  (∀sz xs,I.plain (.ae sz xs)=false)/\
  (∀d,I.plain (.aM d)=false)/\
  (∀aG,I.plain (.agg aG)=I.e6 aG)/\
  (∀aG,I.plain (.tuple aG)=I.e6 aG)/\
  (I.e6 []=true)/\
  (∀d ds,I.e6 (d::ds)=(d.plain&&I.e6 ds)):=
 ⟨λ_ _=>rfl,λ_=>rfl,λ_=>rfl,λ_=>rfl,λ_=>rfl,λ_ _=>rfl,λ_ _=>rfl,λ_ _=>rfl,rfl,rfl,rfl,rfl,λ_ _=>rfl,λ_=>rfl,λ_=>rfl,λ_=>rfl,rfl,λ_ _=>rfl⟩
theorem WL:∀s d,v_ s d=match d with| .h y q=>dJ s (.h y q)|d=>some (d,s):=λ_ _=>by unfold v_;rfl
theorem WM:
  (∀t k n,dL t (.int k n)=(.int k n))/\
  (∀t b,dL t (.bool b)=(.bool b))/\
  (∀t x,dL t (.str x)=(.str x))/\
  (∀t xs,dL t (.slice xs)=(.slice xs))/\
  (∀t d,dL t (.ref d)=(.ref d))/\
  (∀t,dL t .ez= .ez)/\
  (∀t,dL t .bd= .bd)/\
  (∀t,dL t .gu= .gu)/\
  (∀t,dL t .hole= .hole)/\
  (∀t sz xs,dL t (.ae sz xs)=(.ae sz xs))/\
  (∀t d,dL t (.aM d)=(.aM d))/\
  (∀t aG,dL t (.agg aG)=(.agg aG))/\
  (∀t aG,dL t (.tuple aG)=(.tuple aG))/\
  (∀t y q,dL t (.h y q)=if y=t then .hole else .h y q)/\
  (∀t y q,dL t (.ax y q)=if y=t then .hole else .ax y q)/\
  (∀t f c,dL t (.fn f c)= .fn f (lk t c))/\
  (∀t,lk t []=[])/\
  (∀t d ds,lk t (d::ds)=dL t d::lk t ds)/\
  (∀t,vY t []=[])/\
  (∀t u d l,vY t ((u,d)::l)=(u,dL t d)::vY t l)/\
  (∀t l,oU t (ar l)=ar (vY t l)):=
 ⟨λ_ _ _=>by unfold dL;rfl,λ_ _=>by unfold dL;rfl,λ_ _=>by unfold dL;rfl,λ_ _=>by unfold dL;rfl,λ_ _=>by unfold dL;rfl,λ_=>by unfold dL;rfl,λ_=>by unfold dL;rfl,λ_=>by unfold dL;rfl,λ_=>by unfold dL;rfl,λ_ _ _=>by unfold dL;rfl,λ_ _=>by unfold dL;rfl,λ_ _=>by unfold dL;rfl,λ_ _=>by unfold dL;rfl,λ_ _ _=>by unfold dL;rfl,λ_ _ _=>by unfold dL;rfl,λ_ _ _=>by simp only[dL],λ_=>by simp only[lk],λ_ _ _=>by simp only[lk],λ_=>rfl,λ_ _ _ _=>rfl,λt l=>N7 t l⟩
theorem WN:
  (∀t k n,cW t (.int k n)=(.int k n))/\
  (∀t b,cW t (.bool b)=(.bool b))/\
  (∀t x,cW t (.str x)=(.str x))/\
  (∀t xs,cW t (.slice xs)=(.slice xs))/\
  (∀t d,cW t (.ref d)=(.ref d))/\
  (∀t,cW t .ez= .ez)/\
  (∀t,cW t .bd= .bd)/\
  (∀t,cW t .gu= .gu)/\
  (∀t,cW t .hole= .hole)/\
  (∀t sz xs,cW t (.ae sz xs)=(.ae sz xs))/\
  (∀t d,cW t (.aM d)=(.aM d))/\
  (∀t aG,cW t (.agg aG)=(.agg aG))/\
  (∀t aG,cW t (.tuple aG)=(.tuple aG))/\
  (∀t y,cW t (.h y [])= .h y [])/\
  (∀t y k q,cW t (.h y (k::q))=if y=t then .hole else .h y (k::q))/\
  (∀t y q,cW t (.ax y q)=if y=t then .hole else .ax y q)/\
  (∀t f c,cW t (.fn f c)= .fn f (kL t c))/\
  (∀t,kL t []=[])/\
  (∀t d ds,kL t (d::ds)=cW t d::kL t ds)/\
  (∀t,zA t []=[])/\
  (∀t u d l,zA t ((u,d)::l)=(u,cW t d)::zA t l)/\
  (∀t l,js t (ar l)=ar (zA t l)):=
 ⟨λ_ _ _=>by unfold cW;rfl,λ_ _=>by unfold cW;rfl,λ_ _=>by unfold cW;rfl,λ_ _=>by unfold cW;rfl,λ_ _=>by unfold cW;rfl,λ_=>by unfold cW;rfl,λ_=>by unfold cW;rfl,λ_=>by unfold cW;rfl,λ_=>by unfold cW;rfl,λ_ _ _=>by unfold cW;rfl,λ_ _=>by unfold cW;rfl,λ_ _=>by unfold cW;rfl,λ_ _=>by unfold cW;rfl,λ_ _=>by simp[cW],λ_ _ _ _=>by simp[cW],λ_ _ _=>by unfold cW;rfl,λ_ _ _=>by simp only[cW],λ_=>by simp only[kL],λ_ _ _=>by simp only[kL],λ_=>rfl,λ_ _ _ _=>rfl,λt l=>afL t l⟩
def Oj:qE->Bool->Option I
 | .bool,b=>some (.bool b)
 |_,_=>none
def x1 (neg:Bool):qE->Option azg->Option I
 | .slice _,some r=>some (sT neg r)
 |_,_=>none
def zF (neg:Bool):qE->azg->Option I
 | .ptr _,some b=>some (.bool (b !=neg))
 |_,_=>none
theorem WO (C:cy) (s:al) (T:TypeId):
  (∀op k a dv b,eP C s op T (.int k a) (.int dv b)=k2 op k a dv b)/\
  (∀op a b,eP C s op T (.str a) (.str b)=qI op a b)/\
  (∀a b,eP C s .eql T (.bool a) (.bool b)=Oj (C.T T).k (a==b))/\
  (∀a b,eP C s .neq T (.bool a) (.bool b)=Oj (C.T T).k (!(a==b)))/\
  (∀xs,eP C s .eql T (.slice xs) .bd=x1 false (C.T T).k (me s (.slice xs)))/\
  (∀xs,eP C s .neq T (.slice xs) .bd=x1 true (C.T T).k (me s (.slice xs)))/\
  (eP C s .eql T .bd .bd=x1 false (C.T T).k (me s .bd))/\
  (eP C s .neq T .bd .bd=x1 true (C.T T).k (me s .bd))/\
  (∀x q,eP C s .eql T (.h x q) .bd=x1 false (C.T T).k (me s (.h x q)))/\
  (∀x q,eP C s .neq T (.h x q) .bd=x1 true (C.T T).k (me s (.h x q)))/\
  (∀x q,eP C s .eql T (.h x q) .ez=zF false (C.T T).k (oi s (.h x q)))/\
  (∀x q,eP C s .neq T (.h x q) .ez=zF true (C.T T).k (oi s (.h x q)))/\
  (∀d,eP C s .eql T (.ref d) .ez=zF false (C.T T).k (oi s (.ref d)))/\
  (∀d,eP C s .neq T (.ref d) .ez=zF true (C.T T).k (oi s (.ref d)))/\
  (eP C s .eql T .ez .ez=zF false (C.T T).k (oi s .ez))/\
  (eP C s .neq T .ez .ez=zF true (C.T T).k (oi s .ez)):=by
 refine⟨?_,?_,?_,?_,?_,?_,?_,?_,?_,?_,?_,?_,?_,?_,?_,?_⟩<;>intros<;>first
  |rfl
  |(simp only[eP]
    generalize (C.T T).k=nz;cases nz<;>first|rfl|(simp only[x1];generalize me s _=v;cases v<;>rfl)|(simp only[zF];generalize oi s _=v;cases v<;>(try (rename_i b;cases b))<;>rfl))
theorem WQ (k:IntKind) (a b:Int):
  k2 .add k a k b=some (.int k (k.wrap (a+b)))/\k2 .sub k a k b=some (.int k (k.wrap (a-b)))/\k2 .mul k a k b=some (.int k (k.wrap (a*b)))/\
  k2 .eql k a k b=some (.bool (a==b))/\k2 .neq k a k b=some (.bool (a !=b))/\k2 .lss k a k b=some (.bool (decide (a<b)))/\k2 .leq k a k b=some (.bool (decide (a<=b)))/\
  k2 .gtr k a k b=some (.bool (decide (b<a)))/\k2 .geq k a k b=some (.bool (decide (b<=a)))/\
  k2 .and k a k b=some (.int k (bitsOf .and k a b))/\k2 .or k a k b=some (.int k (bitsOf .or k a b))/\k2 .xor k a k b=some (.int k (bitsOf .xor k a b))/\k2 .andNot k a k b=some (.int k (bitsOf .andNot k a b)):=by
 simp[k2]
theorem agl {k:IntKind} {a b:Int} (h:b≠0):k2 .quo k a k b=some (.int k (k.wrap (a.tdiv b))):=by simp[k2,h]
theorem agm {k:IntKind} {a b:Int} (h:b≠0):k2 .rem k a k b=some (.int k (a.tmod b)):=by simp[k2,h]
theorem WR (a b:azc):
  qI .eql a b=some (.bool (a==b))/\qI .neq a b=some (.bool !(a==b))/\qI .lss a b=some (.bool (Op.bytesLess a b))/\
  qI .leq a b=some (.bool (Op.bytesLess a b||a==b))/\qI .gtr a b=some (.bool !(Op.bytesLess a b||a==b))/\qI .geq a b=some (.bool !(Op.bytesLess a b)):=by
 refine⟨rfl,rfl,rfl,rfl,rfl,rfl⟩
theorem WS:(∀b,un .not (.bool b)=some (.bool !b))/\(un .not .gu=some .gu)/\(∀k n,un .neg (.int k n)=some (.int k (k.wrap (0-n)))):=⟨λ_=>rfl,rfl,λ_ _=>rfl⟩
def Ok:qE->Option UInt8->Option I
 | .str,some c=>some (.int .u8 c.toNat)
 |_,_=>none
theorem WT (C:cy) (T:TypeId) (l:azc) (k:IntKind) (n:Int):idx C T (.str l) (.int k n)=Ok (C.T T).k (bj l n):=by
 simp only[idx,bj];generalize (C.T T).k=nz;cases nz<;>first|rfl|(simp only[Ok];split<;>first|rfl|(cases l[n.toNat]? <;>rfl))
def Ol (C:cy):qE->Option I->Option I
 | .slice e,some d=>if(C.T e).ok=true/\d.wd=(C.T e).sz then some (.ref d)else none
 |_,_=>none
theorem WU (C:cy) (s:al) (T:TypeId) (xs:azk) (k:IntKind) (n:Int):kM C s T (.slice xs) (.int k n)=Ol C (C.T T).k (bj xs n):=by
 simp only[kM,bj];generalize (C.T T).k=nz;cases nz<;>first|rfl|skip
 simp only[Ol];by_cases bc:0<=n
 .simp only[bc,true_and,if_true];split
  .cases xs[n.toNat]? <;>simp[*]
  .cases xs[n.toNat]? <;>simp[*]
 .simp only[bc,false_and,if_false]
def FB (C:cy) (y:Nat) (q:azf) (n:Int):qE->Option I->Option I
 | .slice e,some (.ae sz xs)=>if(bj xs n).isSome=true/\(C.T e).ok=true/\sz=(C.T e).sz then some (.ax y (q++[n.toNat]))else none
 |_,_=>none
theorem WV (C:cy) (s:al) (T:TypeId) (y:Nat) (q:azf) (k:IntKind) (n:Int):kM C s T (.h y q) (.int k n)=FB C y q n (C.T T).k (I.sub q (s y)):=by
 simp only[kM];generalize (C.T T).k=nz;cases nz<;>first|rfl|skip
 rename_i e;cases aa:I.sub q (s y)with
 |none=>simp[FB]
 |some d=>
  cases d<;>first
   |(simp[FB];done)
   |skip
  rename_i sz xs;have hg:(bj xs n).isSome=true↔0<=n/\n.toNat<xs.length:=by
   unfold bj;split<;>simp_all<;>omega
  simp only[FB,hg];by_cases bc:0<=n<;>by_cases ad:(C.T e).ok=true<;>simp[bc,ad]
def B3:qE->al->Option azc->Option (I×al)
 | .str,s,some t=>some (.str t,s)
 |_,_,_=>none
def B4 (C:cy):qE->al->azk->Option azk->Option (I×al)
 | .slice e,s,xs,some t=>if(C.T e).ok=true/\∀d∈xs,d.wd=(C.T e).sz then some (.slice t,s)else none
 |_,_,_,_=>none
theorem WW (C:cy) (s:al) (T:TypeId) (l:azc):
  (∀k a dv b,iW C s T (.str l) (some (.int k a)) (some (.int dv b))=B3 (C.T T).k s (gL l a b))/\
  (∀dv b,iW C s T (.str l) none (some (.int dv b))=B3 (C.T T).k s (gL l 0 b))/\
  (∀k a,iW C s T (.str l) (some (.int k a)) none=B3 (C.T T).k s (gL l a l.length)):=by
 have e:∀(fT ai:Option I) (a b:Int),(jR 0 fT=if 0<=a then some a.toNat else none)->(jR l.length ai=if 0<=b then some b.toNat else none)->iW C s T (.str l) fT ai=B3 (C.T T).k s (gL l a b):=by
  intro fT ai a b ad ag;simp only[iW];generalize (C.T T).k=nz;cases nz<;>first|rfl|skip
  simp only[ad,ag,gL];by_cases bo:0<=a<;>by_cases ab:0<=b<;>simp only[bo,ab,if_true,if_false,B3,true_and,false_and]
  .by_cases au:a<=b/\b<=l.length
   .rw[if_pos ⟨by omega,by omega⟩,if_pos au]
   .rw[if_neg (λh=>au ⟨by omega,by omega⟩),if_neg au]
  .rw[if_neg (by omega)]
 exact⟨λk a dv b=>e _ _ a b rfl rfl,λdv b=>e _ _ 0 b rfl rfl,λk a=>e _ _ a l.length rfl (by simp[jR])⟩
theorem WX (C:cy) (s:al) (T:TypeId) (xs:azk):
  (∀k a dv b,iW C s T (.slice xs) (some (.int k a)) (some (.int dv b))=B4 C (C.T T).k s xs (gL xs a b))/\
  (∀dv b,iW C s T (.slice xs) none (some (.int dv b))=B4 C (C.T T).k s xs (gL xs 0 b))/\
  (∀k a,iW C s T (.slice xs) (some (.int k a)) none=B4 C (C.T T).k s xs (gL xs a xs.length)):=by
 have e:∀(fT ai:Option I) (a b:Int),(jR 0 fT=if 0<=a then some a.toNat else none)->(jR xs.length ai=if 0<=b then some b.toNat else none)->iW C s T (.slice xs) fT ai=B4 C (C.T T).k s xs (gL xs a b):=by
  intro fT ai a b ad ag;simp only[iW];generalize (C.T T).k=nz;cases nz<;>first|rfl|skip
  simp only[ad,ag,gL];by_cases bo:0<=a<;>by_cases ab:0<=b<;>simp only[bo,ab,if_true,if_false,B4,true_and,false_and]
  .by_cases au:a<=b/\b<=xs.length
   .rw[if_pos au];have ad:a.toNat<=b.toNat:=by omega
    have ag:b.toNat<=xs.length:=by omega
    simp only[ad,ag,true_and]
   .rw[if_neg (λh=>au ⟨by omega,by omega⟩),if_neg au]
  .rw[if_neg (by omega)]
 exact⟨λk a dv b=>e _ _ a b rfl rfl,λdv b=>e _ _ 0 b rfl rfl,λk a=>e _ _ a xs.length rfl (by simp[jR])⟩
def FC (q:azf):Option I->Option I
 |some d=>I.sub q d
 |none=>none
theorem WY:(∀d,I.sub [] d=some d)/\(∀k q aG,I.sub (k::q) (.agg aG)=FC q aG[k]?)/\(∀k q aG,I.sub (k::q) (.tuple aG)=FC q aG[k]?)/\(∀k q sz xs,I.sub (k::q) (.ae sz xs)=FC q xs[k]?)/\
  (∀q d,I.sub (0::q) (.aM d)=I.sub q d)/\(∀q d,FC q (some d)=I.sub q d)/\
  (∀k q a b,I.sub (k::q) (.int a b)=none):=by
 refine⟨λd=>by simp[I.sub],?_,?_,?_,λq d=>by simp[I.sub],λ_ _=>rfl,λ_ _ _ _=>by simp[I.sub]⟩
 .intro k q aG;simp only[I.sub];cases aG[k]? <;>rfl
 .intro k q aG;simp only[I.sub];cases aG[k]? <;>rfl
 .intro k q sz aG;simp only[I.sub];cases aG[k]? <;>rfl
def WZ (k:Nat) (q:azf) (n:I) (aG:azk):Option I->I
 |some d=>.agg (aG.set k (I.put q n d))
 |none=>.agg aG
def iZ (k:Nat) (q:azf) (n:I) (aG:azk):Option I->I
 |some d=>.tuple (aG.set k (I.put q n d))
 |none=>.tuple aG
def W0 (k:Nat) (q:azf) (n:I) (sz:Nat) (xs:azk):Option I->I
 |some d=>.ae sz (xs.set k (I.put q n d))
 |none=>.ae sz xs
theorem W1:(∀n d,I.put [] n d=n)/\(∀k q n aG,I.put (k::q) n (.agg aG)=WZ k q n aG aG[k]?)/\(∀k q n aG,I.put (k::q) n (.tuple aG)=iZ k q n aG aG[k]?)/\
  (∀k q n sz xs,I.put (k::q) n (.ae sz xs)=W0 k q n sz xs xs[k]?)/\(∀q n d,I.put (0::q) n (.aM d)= .aM (I.put q n d))/\
  (∀k q n aG d,WZ k q n aG (some d)= .agg (aG.set k (I.put q n d)))/\(∀k q n aG d,iZ k q n aG (some d)= .tuple (aG.set k (I.put q n d)))/\
  (∀k q n sz xs d,W0 k q n sz xs (some d)= .ae sz (xs.set k (I.put q n d))):=by
 refine⟨λn d=>by simp[I.put],?_,?_,?_,λq n d=>by simp[I.put],λ_ _ _ _ _=>rfl,λ_ _ _ _ _=>rfl,λ_ _ _ _ _ _=>rfl⟩
 .intro k q n aG;simp only[I.put];cases aG[k]? <;>rfl
 .intro k q n aG;simp only[I.put];cases aG[k]? <;>rfl
 .intro k q n sz aG;simp only[I.put];cases aG[k]? <;>rfl
theorem Om:(∀k n,I.wd (.int k n)=1)/\(∀b,I.wd (.bool b)=1)/\(∀x,I.wd (.str x)=1)/\(∀x,I.wd (.slice x)=1)/\(∀n x,I.wd (.ae n x)=1)/\(∀x,I.wd (.ref x)=1)/\(∀x,I.wd (.aM x)=1)/\
  I.wd .bd=1/\I.wd .ez=1/\I.wd .hole=1/\I.wd .gu=1/\(∀x y,I.wd (.h x y)=1)/\(∀x y,I.wd (.ax x y)=1)/\(∀x y,I.wd (.fn x y)=1)/\(∀aG,I.wd (.agg aG)=I.e9 aG)/\(∀aG,I.wd (.tuple aG)=I.e9 aG)/\I.e9 []=0/\(∀d ds,I.e9 (d::ds)=d.wd+I.e9 ds):=by
 simp[I.wd,I.e9]
theorem On (l:azc):(∀d∈l.map ji,d.wd=1)=True:=by simp[ji,I.wd]
theorem agn {α:Type} {e:α->I} {n:Nat} (h:∀x,(e x).wd=n) (xs:List α):(∀d∈xs.map e,d.wd=n)=True:=by
 simp only[List.mem_map,eq_iff_iff,iff_true];rintro d ⟨x,_,rfl⟩;exact h x
theorem ago (C:cy) (s:al) (A B:TypeId) (k dv:IntKind) (n:Int) (jj:(C.T A).ok=true) (iK:(C.T B).k= .int dv):k3 C s A B (.int k n)=some (.int dv (dv.wrap n)):=by
 simp only[k3,jj,iK,if_true]
theorem W2 (m:Int):ji (pk m)= .int .u8 (u8.wrap m):=by
 have h:0<=u8.wrap m/\u8.wrap m<256:=by rw[wrap_u8];omega
 simp only[ji,pk,UInt8.toNat_ofNat'];congr 1;omega
theorem Oo (m:Int):((pk m).toNat:Int)=u8.wrap m:=by
 have h:=W2 m;simpa [ji]using h
section
variable {C:cy} {l:azj} {Q:Exit->al->Prop} {s:al}
theorem ik {ros:List cC} {k:azf} (h:dF C (ar l) ros none (λ_ s=>Q .normal (ar (gW k s)))):bn C (.ew ros (some k)) Q (ar l):=zC (λ_ _ h=>h) h
theorem Oq {ros:List cC} {de:azd} {k:azf} (hlen:de.length=ros.length) (h:dF C (ar l) ros (some []) (λacc s=>kF (nG de) 0 [] (acc.getD []).reverse=true/\Q .normal (ar (gW k s)))):
  bn C (.jX ros de (some k)) Q (ar l):=Jk hlen h
theorem agp {a b:aA} (h:∀fl:Exit->al->Prop,(∀s,eS (bn C b Q) s->fl .normal s)->(∀s,Q .ret s->fl .ret s)->(∀i s,Q (.exit i) s->fl (.exit i) s)->bn C a fl s):bn C (.seq a b) Q s:=
 h _ (λ_ h=>h) (λ_ h=>h) (λ_ _ h=>h)
theorem dp {ros:List cC} {k:azf} {b:aA} (h:dF C (ar l) ros none (λ_ s=>bn C b Q (ar (gW k s)))):bn C (.seq (.ew ros (some k)) b) Q (ar l):=zC (λ_ _ h=>.inl h) h
theorem ju {ros:List cC} {de:azd} {k:azf} {b:aA} (hlen:de.length=ros.length) (h:dF C (ar l) ros (some []) (λacc s=>kF (nG de) 0 [] (acc.getD []).reverse=true/\bn C b Q (ar (gW k s)))):
  bn C (.seq (.jX ros de (some k)) b) Q (ar l):=Jk (K:=λs=>eS (bn C b Q) (ar (gW k s))) hlen (by
   have key:∀(os:List cC) (s:al) (acc:Option (List fL)),dF C s os acc (λacc s=>kF (nG de) 0 [] (acc.getD []).reverse=true/\bn C b Q (ar (gW k s)))->
     dF C s os acc (λacc s=>kF (nG de) 0 [] (acc.getD []).reverse=true/\eS (bn C b Q) (ar (gW k s))):=by
    intro os;induction os with
    |nil=>intro s acc h;exact⟨h.1,.inl h.2⟩
    |cons o os ih=>
     intro s acc h;have mono:∀{s:al} {b3:e0} {K eG:azf->I->al->Prop},(∀a b c,K a b c->eG a b c)->qP C s b3 K->qP C s b3 eG:=by
      intro s b3 K eG aw h;cases b3 with
      |call f args=>
       obtain⟨g,caps,ps,r,ad,h3,ag,aD,bh,b1,du,di,hi⟩:=h;exact⟨g,caps,ps,r,ad,h3,ag,aD,bh,b1,du,di,aw _ _ _ hi⟩
      |shr b3=>obtain⟨av,s1,ad,ag,aD,bh⟩:=h;exact⟨av,s1,ad,ag,aD,aw _ _ _ bh⟩
      |mV f args us=>
       obtain⟨cu,g,caps,ps,r,ad,h3,ag,aD,bh,b1,du,di,hi,iV⟩:=h;exact⟨cu,g,caps,ps,r,ad,h3,ag,aD,bh,b1,du,di,hi,aw _ _ _ iV⟩
      |_=>obtain⟨av,s1,ad,ag⟩:=h;exact⟨av,s1,ad,aw _ _ _ ag⟩
     simp only[dF,o1]at h⊢;split
     .rename_i hg;rw[hg]at h;exact mono (λ_ _ _=>ih _ _) h
     .rename_i t gV hg;rw[hg]at h;simp only at h;split
      .rename_i axj aa;rw[aa]at h;simp only at h;split
       .rename_i ab;rw[if_pos ab]at h;exact mono (λ_ _ _=>ih _ _) h
       .rename_i ab;rw[if_neg ab]at h;exact ih _ _ h
      .rename_i aa;rw[aa]at h;exact ih _ _ h
      .rename_i ad ag;split at h
       .exact ad _ (by assumption)
       .exact ag (by assumption)
       .exact h
   exact key _ _ _ h)
theorem il {c:bB} {a b:aA} (au:bx s c= .bool true) (h:bn C a Q s):bn C (.cond c a b) Q s:=by simp only[bn,au,if_true];exact h
theorem ot {c:bB} {a b:aA} (au:bx s c= .bool false) (h:bn C b Q s):bn C (.cond c a b) Q s:=by simp only[bn,au];exact h
theorem agq {c:bB} {a b:aA} (au:bx s c= .gu) (ad:bn C a Q s) (ag:bn C b Q s):bn C (.cond c a b) Q s:=by simp only[bn,au];exact⟨ad,ag⟩
theorem agr {id:Nat} {b:aA} (h:∀fl:Exit->al->Prop,(∀s,Q .normal s->fl .normal s)->(∀s,Q .ret s->fl .ret s)->(∀s,Q .normal s->fl (.exit id) s)->(∀i s,i≠id->Q (.exit i) s->fl (.exit i) s)->bn C b fl s):bn C (.block id b) Q s:=
 h (BU id Q) (λ_ h=>h) (λ_ h=>h) (λs h=>by simp only[BU,if_true];exact h) (λi s ai h=>by simp only[BU,if_neg ai];exact h)
theorem cX {id:Nat} (h:Q (.exit id) s):bn C (.exit id) Q s:=h
theorem ha (h:Q .ret s):bn C .ret Q s:=h
theorem aL (h:Q .normal s):bn C .skip Q s:=h
def cN (C:cy) (b:aA) (Q:Exit->al->Prop) (s:al):Prop:=∀Z:al->Prop,(∀aE,bn C b (andThen (eS Z) Q) aE->Z aE)->Z s
theorem pH {b:aA} (h:eS (cN C b Q) s):bn C (.loop b) Q s:=h
theorem ags {b:aA} (h:∀fl:Exit->al->Prop,(∀s,eS (cN C b Q) s->fl .normal s)->(∀s,Q .ret s->fl .ret s)->(∀i s,Q (.exit i) s->fl (.exit i) s)->bn C b fl s):cN C b Q s:=by
 intro Z BW;refine BW s (NZ b ?_ (h (andThen (eS (cN C b Q)) Q) (λ_ h=>h) (λ_ h=>h) (λ_ _ h=>h)));intro e aE bF;cases e with
 |normal=>exact BV (λs h=>h Z BW) aE bF
 |_=>exact bF
theorem bE {cK:azj} (h:cK.map (·.2)=cK.map λp=>s p.1):xU s cK:=by
 intro p ax;left;induction cK with
 |nil=>cases ax
 |cons a cK ih=>
  simp only[List.map_cons,List.cons.injEq]at h;rcases List.mem_cons.1 ax with rfl|ax
  .exact h.1
  .exact ih h.2 ax
end
section
variable {C:cy} {l:azj} {Q:Exit->al->Prop} {s:al} {os ros:List cC} {K:Option (List fL)->al->Prop} {dst:Option Nat}
theorem W3 (l:azj):(∀n,bx (ar l) (.t n)=uh n (ar l n))/\(∀av,bx (ar l) (.c av)=av)/\(∀g,bx (ar l) (.f g)= .fn g []):=⟨λ_=>rfl,λ_=>rfl,λ_=>rfl⟩
theorem W4:(∀t,ar [] t= .hole)/\(∀u d (l:azj) t,ar ((u,d)::l) t=if t=u then d else ar l t):=⟨λ_=>rfl,λ_ _ _ _=>rfl⟩
theorem W5 (s:al):gW [] s=[]/\(∀t k,gW (t::k) s=(t,s t)::gW k s):=⟨rfl,λ_ _=>rfl⟩
theorem W6 (s:al):(∀d,lu s (some d)=some (d,s))/\(∀s1,dk (some s1)=some (.hole,s1))/\lv s []=[]/\(∀x xs,lv s (x::xs)=bx s x::lv s xs)/\x0 s []=[]/\(∀k x xs,x0 s ((k,x)::xs)=(k,bx s x)::x0 s xs)/\
  FA s none=none/\(∀x,FA s (some x)=some (bx s x))/\(∀b x y,WD s (.bool b) x y=some (if b=true then x else y,s)):=
 ⟨λ_=>rfl,λ_=>rfl,rfl,λ_ _=>rfl,rfl,λ_ _ _=>rfl,rfl,λ_=>rfl,λb _ _=>by cases b<;>rfl⟩
theorem W7 (C:cy):(∀e d,Ol C (.slice e) (some d)=if(C.T e).ok=true/\d.wd=(C.T e).sz then some (.ref d)else none)/\
  (∀y q n e sz xs,FB C y q n (.slice e) (some (.ae sz xs))=if(bj xs n).isSome=true/\(C.T e).ok=true/\sz=(C.T e).sz then some (.ax y (q++[n.toNat]))else none)/\
  (∀e s xs t,B4 C (.slice e) s xs (some t)=if(C.T e).ok=true/\∀d∈xs,d.wd=(C.T e).sz then some (.slice t,s)else none):=
 ⟨λ_ _=>rfl,λ_ _ _ _ _ _=>rfl,λ_ _ _ _=>rfl⟩
theorem W8:(∀b,Oj .bool b=some (.bool b))/\(∀c,Ok .str (some c)=some (.int .u8 c.toNat))/\(∀s t,B3 .str s (some t)=some (.str t,s))/\(∀q d,FC q (some d)=I.sub q d):=
 ⟨λ_=>rfl,λ_=>rfl,λ_ _=>rfl,λ_ _=>rfl⟩
theorem W9 (sz bytes:Nat) (z:I):(∀k,hP.ok ⟨.int k,sz,bytes,z⟩=true)/\hP.ok ⟨.bool,sz,bytes,z⟩=true/\hP.ok ⟨.str,sz,bytes,z⟩=true/\(∀e,hP.ok ⟨.ptr e,sz,bytes,z⟩=true)/\(∀e,hP.ok ⟨.slice e,sz,bytes,z⟩=true)/\(∀e,hP.ok ⟨.struct e,sz,bytes,z⟩=true)/\hP.ok ⟨.fn,sz,bytes,z⟩=true:=by
 simp[hP.ok]
theorem W_ (sz bytes:Nat) (z:I):(∀k,hP.flat ⟨.int k,sz,bytes,z⟩=true)/\hP.flat ⟨.bool,sz,bytes,z⟩=true/\hP.flat ⟨.str,sz,bytes,z⟩=true/\(∀e,hP.flat ⟨.ptr e,sz,bytes,z⟩=true)/\(∀e,hP.flat ⟨.slice e,sz,bytes,z⟩=true)/\(∀e,hP.flat ⟨.struct e,sz,bytes,z⟩=false)/\hP.flat ⟨.fn,sz,bytes,z⟩=true:=by
 simp[hP.flat]
theorem FD (c:UInt8) (k:IntKind) (aw:k≠.i8):k.wrap (c.toNat:Int)=(c.toNat:Int):=by
 have:=c.toNat_lt;cases k<;>first|(exact(aw rfl).elim)|(simp[wrap,IntKind.bits,signed];try omega)
theorem Ot (c:UInt8):i64.wrap (c.toNat:Int)=(c.toNat:Int)/\u64.wrap (c.toNat:Int)=(c.toNat:Int)/\u8.wrap (c.toNat:Int)=(c.toNat:Int)/\i32.wrap (c.toNat:Int)=(c.toNat:Int)/\u32.wrap (c.toNat:Int)=(c.toNat:Int):=
 ⟨FD c _ (by simp),FD c _ (by simp),FD c _ (by simp),FD c _ (by simp),FD c _ (by simp)⟩
theorem b6 {k:azf} {K:al->Prop} (cK:azj) (h:∀P:azj->Prop,P cK->dF C (ar l) ros none (λ_ s=>P (gW k s))) (aw:K (ar cK)):dF C (ar l) ros none (λ_ s=>K (ar (gW k s))):=
 h (λl=>K (ar l)) aw
theorem iP {k:azf} {p9:azd} {K:al->Prop} (cK:azj) (h:∀P:azj->Prop,P cK->dF C (ar l) ros (some []) (λacc s=>kF p9 0 [] (acc.getD []).reverse=true/\P (gW k s))) (aw:K (ar cK)):
  dF C (ar l) ros (some []) (λacc s=>kF p9 0 [] (acc.getD []).reverse=true/\K (ar (gW k s))):=
 h (λl=>K (ar l)) aw
theorem aX.agt (bU:C.fK) {f:FuncId} {fn:Func} {c:Code} {ej:aA} {fx:azf} {as outs:azk} {r:I} (bH:C.P.funcs[f]? =some fn) (ab:fn.body=some c)
  (mH:(fn.name== "runtime.NumGoroutine")=false) (aa:gb ⟨fn.ntmps,fx⟩ c=some ej.strip) (aV:as.length<=fn.ntmps)
  (h:∀Q:Exit->al->Prop,(∀s,eS (Ends C fx fn.results.toList r outs) s->Q .ret s)->(∀s,eS (Ends C fx fn.results.toList r outs) s->Q .normal s)->bn C ej Q (ar (num 0 as))) (ax:ej.plain=true:=by kernel_rfl):aX C f as r outs:=by
 refine aX.of_wp bU bH ab mH aa aV ?_ ax;rw[Fu];exact h _ (λs h=>⟨.inr rfl,h⟩) (λs h=>⟨.inl rfl,h⟩)
def FE:azk->I
 |[d]=>d
 |ds=>.tuple ds
theorem hx {fx:azf} {fs:List ResultVar} {r:I} {outs:azk} (ds:azk) (ad:fs.map (rS C s)=ds.map some) (ag:r=FE ds) (aD:(fs.map k5).Nodup)
  (bh:∀(i:Nat) (o:I),outs[i]? =some o->o= .hole\/(o=s i/\o.hQ=true/\i∈fx/\i∉fs.map k5)):Ends C fx fs r outs s:=.inl ⟨ds,ad,by subst ag;cases ds with|nil=>rfl|cons a t=>cases t<;>rfl,aD,bh⟩
theorem Xa {fx:azf} {fs:List ResultVar} {r:I} (t:Nat) (ds:azk) {y:Nat} {q:azf} {d:I} {s1:al} (ag:r=FE ds:=by cases eC (by assumption);rfl) (bc:s t= .h y q:=by rfl) (aw:dJ s (.h y q)=some (d,s1):=by rfl) (ad:fs.map (rS C (fin s1 (some t) d))=ds.map some:=by rfl) (aD:(fs.map k5).Nodup:=by decide):Ends C fx fs r [] s:=
 .inr ⟨t,y,q,d,s1,bc,aw,ds,ad,by subst ag;cases ds with|nil=>rfl|cons a t=>cases t<;>rfl,aD,λi o h=>by simp at h⟩
theorem agu {fx:azf} {fs:List ResultVar}:∀(i:Nat) (o:I),([]:azk)[i]? =some o->o= .hole\/(o=s i/\o.hQ=true/\i∈fx/\i∉fs.map k5):=λi o h=>by simp at h
theorem Xb:∀(as ds:azk),(pE as ds).filter (·.g)=[]
 |[],_=>rfl
 |_::_,[]=>rfl
 |a::as,d::ds=>by simp only[pE,List.filter_cons];exact Xb as ds
theorem Jm {f:bB} {args:List bB} {g:FuncId} {caps:azk} {K:azf->I->al->Prop} (ds:azk) (r:I)
  (ad:bx (ar l) f= .fn g caps) (h3:I.e6 caps=true) (lS:views (ar l) (lv (ar l) args++caps)=some ds)
  (b1:aX C g ds r []) (du:r.res=true) (di:I.e3 (lv (ar l) args++caps)=[]\/r.dc=true) (hK:K [] r (ar l)):qP C (ar l) (.call f args) K:=by
 obtain⟨aR,aW,aU,cc,cZ,cv,cd⟩:=afM _ _ lS;refine⟨g,caps,pE (lv (ar l) args++caps) ds,r,ad,h3,by rw[aR,B2],λp ax=>(aU p ax).1,cc,by rw[aW];exact b1.outs cZ.symm,du,?_,by rw[cv,cd,Xb];exact hK⟩;intro hl;refine⟨?_,λp ax=>by rw[(aU p ax).2.2.1];rfl⟩;rcases di with di|di
 .exfalso;simp only[mg,List.any_eq_true]at hl;obtain⟨p,ax,fO⟩:=hl;have hm:=(aU p ax).2.2.2;have:p.a.aa=[]:=by
   have key:∀(as:azk) (a:I),a∈as->I.e3 as=[]->a.aa=[]:=by
    intro as;induction as with
    |nil=>intro a h;cases h
    |cons b as ih=>
     intro a h he;simp only[I.e3,List.append_eq_nil_iff]at he;rcases List.mem_cons.1 h with rfl|h
     .exact he.1
     .exact ih a h he.2
   exact key _ _ hm di
  rw[this]at fO;simp at fO
 .exact di
theorem dq {f:bB} {args:List bB} {g:FuncId} {caps:azk} {ds:azk} {r:I} (b1:aX C g ds r [])
  (ad:bx (ar l) f= .fn g caps:=by rfl) (h3:I.e6 caps=true:=by rfl) (lS:views (ar l) (lv (ar l) args++caps)=some ds:=by rfl)
  (du:r.res=true:=by rfl) (di:I.e3 (lv (ar l) args++caps)=[]\/r.dc=true:=by exact .inl (by rfl))
  (hK:dF C (fin (ar l) dst r) os none K):dF C (ar l) (⟨dst,.call f args,none⟩::os) none K:=by
 simp only[dF,o1,tc];exact Jm ds r ad h3 lS b1 du di hK
theorem h4 {a:List fL} {f:bB} {args:List bB} {g:FuncId} {caps:azk} {ds:azk} {r:I} (b1:aX C g ds r [])
  (ad:bx (ar l) f= .fn g caps:=by rfl) (h3:I.e6 caps=true:=by rfl) (lS:views (ar l) (lv (ar l) args++caps)=some ds:=by rfl)
  (du:r.res=true:=by rfl) (di:I.e3 (lv (ar l) args++caps)=[]\/r.dc=true:=by exact .inl (by rfl))
  (hK:dF C (fin (ar l) dst r) os (some (kR (ar l) (use (ar l) (.call f args)) dst [] r::a)) K):dF C (ar l) (⟨dst,.call f args,none⟩::os) (some a) K:=by
 simp only[dF,o1,tc];exact Jm ds r ad h3 lS b1 du di hK
theorem hz {t:Nat} {b:Bool} {f:bB} {args:List bB} {g:FuncId} {caps:azk} {ds:azk} {r:I} (b1:aX C g ds r [])
  (ad:bx (ar l) f= .fn g caps:=by rfl) (h3:I.e6 caps=true:=by rfl) (lS:views (ar l) (lv (ar l) args++caps)=some ds:=by rfl)
  (du:r.res=true:=by rfl) (di:I.e3 (lv (ar l) args++caps)=[]\/r.dc=true:=by exact .inl (by rfl))
  (hK:dF C (fin (ar l) dst r) os none K):lT C l dst (.call f args) t b os none K (.bool b):=by
 simp only[lT,if_true];exact Jm ds r ad h3 lS b1 du di hK
theorem lU {a:List fL} {t:Nat} {b:Bool} {f:bB} {args:List bB} {g:FuncId} {caps:azk} {ds:azk} {r:I} (b1:aX C g ds r [])
  (ad:bx (ar l) f= .fn g caps:=by rfl) (h3:I.e6 caps=true:=by rfl) (lS:views (ar l) (lv (ar l) args++caps)=some ds:=by rfl)
  (du:r.res=true:=by rfl) (di:I.e3 (lv (ar l) args++caps)=[]\/r.dc=true:=by exact .inl (by rfl))
  (hK:dF C (fin (ar l) dst r) os (some (kR (ar l) (t::use (ar l) (.call f args)) dst [] r::a)) K):lT C l dst (.call f args) t b os (some a) K (.bool b):=by
 simp only[lT,if_true];exact Jm ds r ad h3 lS b1 du di hK
theorem gQ (s:al):views s []=some []/\(∀d ds,views s (d::ds)=(match view s d,views s ds with|some a,some b=>some (a::b)|_,_=>none))/\
  (∀k n,view s (.int k n)=some (.int k n))/\(∀b,view s (.bool b)=some (.bool b))/\(∀x,view s (.str x)=some (.str x))/\(∀x,view s (.slice x)=some (.slice x))/\(∀x,view s (.ref x)=some (.ref x))/\
  view s .bd=some .bd/\view s .ez=some .ez/\(∀aG,view s (.agg aG)=some (.agg aG))/\(∀f cap,view s (.fn f cap)=(views s cap).map (.fn f)):=by
 refine⟨rfl,λd ds=>?_,λ_ _=>rfl,λ_=>rfl,λ_=>rfl,λ_=>rfl,λ_=>rfl,rfl,rfl,λ_=>rfl,λ_ _=>by simp only[view]⟩;simp only[views];rfl
theorem b0 {α:Type} {u e:α->I} (h:∀x,(u x).share=e x) (xs:List α):I.shares (xs.map u)=xs.map e:=by
 rw[I.xz];simp[h]
theorem jZ {α:Type} {u:α->I} (h:∀x,(u x).dc=true) (xs:List α):I.g_ (xs.map u)=true:=by
 induction xs with
 |nil=>rfl
 |cons x xs ih=>simp only[List.map_cons,I.g_,h,ih,Bool.and_self]
def x2 (s:al) (H:azf):azj->Prop
 |[]=>True
 |p::l=>(p.2=s p.1\/((s p.1).tree=true/\fR (s p.1) p.2/\p.1∉H))/\x2 s H l
theorem hH {cK:azj} (H:azf) (n0:I.e3 (cK.map (·.2))=H) (h:x2 s H cK):xU s cK:=by
 have key:∀(ic:azj),x2 s H ic->∀p∈ic,p.2=s p.1\/((s p.1).tree=true/\fR (s p.1) p.2/\p.1∉H):=by
  intro ic;induction ic with
  |nil=>intro _ p ax;cases ax
  |cons a ic ih=>
   intro h p ax;rcases List.mem_cons.1 ax with rfl|ax
   .exact h.1
   .exact ih h.2 p ax
 have aa:∀(ic:azj),∀dr∈ic,∀u∈dr.2.aa,u∈I.e3 (ic.map (·.2)):=by
  intro ic;induction ic with
  |nil=>intro p ax;cases ax
  |cons a ic ih=>
   intro p ax u hu;simp only[List.map_cons,I.e3,List.mem_append];rcases List.mem_cons.1 ax with rfl|ax
   .exact .inl hu
   .exact .inr (ih p ax u hu)
 intro p ax;rcases key _ h p ax with ad|⟨ad,ag,aD⟩
 .exact .inl ad
 .refine .inr ⟨ad,ag,λdr fq=>.inl λhm=>aD ?_⟩;rw[<-n0];exact aa cK dr fq _ hm
theorem hI {H:azf}:x2 s H []:=trivial
theorem cz {H:azf} {t:Nat} {d:I} {cK:azj} (h:d=s t) (hl:x2 s H cK):x2 s H ((t,d)::cK):=⟨.inl h,hl⟩
theorem gz {H:azf} {t:Nat} {d bM:I} {cK:azj} (e:s t=d) (bb:d.tree=true) (ao:fR d bM) (n0:t∉H) (hl:x2 s H cK):x2 s H ((t,bM)::cK):=⟨.inr ⟨by rw[e];exact bb,by rw[e];exact ao,n0⟩,hl⟩
theorem Xc {d e:I} (bb:d.tree=true) (aV:d.own=true) (h:d.share=e):fR d e:=by
 subst h;exact .share d bb (λvs e=>by subst e;simp[I.own]at aV) (λo e=>by subst e;simp[I.own]at aV)
theorem Xd {a b:I} (h:fR a b):∀n,mE (List.replicate n a) (List.replicate n b)
 |0=>.nil
 |n+1=>by simp only[List.replicate_succ];exact .cons h (Xd h n)
theorem FF {α:Type} {sz:Nat} {u:α->I} {z:α} {a:I} (h:fR a (u z)) (n:Nat):fR (.ae sz (List.replicate n a)) (.ae sz ((List.replicate n z).map u)):=by
 rw[List.map_replicate];exact .ae (Xd h n)
end
theorem Jn {C:cy} {A B:TypeId} {dv:IntKind} (jj:(C.T A).ok=true) (iK:(C.T B).k= .int dv):∀s k n,k3 C s A B (.int k n)=some (.int dv (dv.wrap n)):=λs k n=>ago C s A B k dv n jj iK
def Xe:Option I->Option I
 |some (.ae 1 xs)=>(bytesOf xs).map .str
 |_=>none
theorem Xf {C:cy} {A B e:TypeId} (jj:(C.T A).k= .slice e) (iK:(C.T B).k= .str) (he:(C.T e).k= .int .u8):
  (∀s xs,k3 C s A B (.slice xs)=(bytesOf xs).map .str)/\(∀s,k3 C s A B .bd=some (.str []))/\(∀s x q,k3 C s A B (.h x q)=Xe (I.sub q (s x))):=by
 have E0:(C.T A).ok=true:=by simp[hP.ok,jj]
 refine⟨λs xs=>?_,λs=>?_,λs x q=>?_⟩
 .simp only[k3,E0,jj,iK,he,if_true]
 .simp only[k3,E0,jj,iK,he,if_true]
 .simp only[k3,E0,jj,iK,he,if_true];rfl
theorem Xg (xs:azk):Xe (some (.ae 1 xs))=(bytesOf xs).map .str:=rfl
theorem Xh (c:UInt8) (r:azk):bytesOf (ji c::r)=(bytesOf r).map (c::·):=by
 have:=c.toNat_lt;simp only[ji,bytesOf];rw[if_pos (by omega)];simp
theorem Xi:bytesOf []=some []/\
  (∀l:azc,bytesOf (l.map ji)=some l)/\
  (∀c r,bytesOf (.int .u8 (c.toNat:Int)::r)=(bytesOf r).map (c::·))/\
  (∀m r,bytesOf (.int .u8 (u8.wrap m)::r)=(bytesOf r).map (pk m::·)):=
 ⟨rfl,adH,λc r=>Xh c r,λm r=>by rw[<-W2];exact Xh _ r⟩
theorem Xj {k:IntKind} {b:Int} (h:b≠0):∀a,k2 .quo k a k b=some (.int k (k.wrap (a.tdiv b))):=λ_=>agl h
theorem x3 {k:IntKind} {b:Int} (h:b≠0):∀a,k2 .rem k a k b=some (.int k (a.tmod b)):=λ_=>agm h
theorem jv {α:Type} {e:α->I} {n:Nat} (h:∀x,(e x).wd=n):∀xs:List α,(∀d∈xs.map e,d.wd=n)=True:=agn h
theorem all_cons {P:I->Prop} (d:I) (ds:azk):(∀x∈d::ds,P x)=(P d/\∀x∈ds,P x):=by simp
theorem all_nil {P:I->Prop}:(∀x∈([]:azk),P x)=True:=by simp
def Xk (a b:azc):Option Unit->Option I
 |some _=>some (.str (a++b))
 |none=>none
theorem wa (a b:azc):qI .add a b=Xk a b (iJ (a.length+b.length)):=by
 simp only[qI,iJ];split<;>rfl
theorem wb (a b:azc) (u:Unit):Xk a b (some u)=some (.str (a++b)):=rfl
theorem Xl:(∀l:azf,[]++l=l)/\(∀a (l m:azf),(a::l)++m=a::(l++m)):=⟨λ_=>rfl,λ_ _ _=>rfl⟩
def Xm (C:cy) (e ea:TypeId):Bool:=(C.T e).ok&&((C.T e).zero.wd==(C.T e).sz)&&(flat (C.T e).zero).isSome&&IX C e ea
def Jo (C:cy) (e:TypeId) (xs:azk):Option (azk×al)->Option (I×al)
 |some (c1,s2)=>if(∀d∈c1,d.wd=(C.T e).sz)/\(room (C.T e).bytes (xs.length+c1.length)).isSome=true then some (.ae (C.T e).sz (xs++c1),s2)else none
 |none=>none
def Ou (C:cy) (e:TypeId) (y:I) (o:Option Nat):Option (I×al)->Option (I×al)
 |some (.ae sz xs,s1)=>if sz=(C.T e).sz then Jo C e xs (oj s1 (nx o y))else none
 |_=>none
theorem agv (b n:Nat):(room b n).isSome=true↔n*b<=140737488355328/\n<=9223372036854775807:=by unfold room;split<;>simp_all
theorem j0 {C:cy} {T ea e:TypeId} (ln:(C.T T).k= .slice e) (gO:Xm C e ea=true):∀s x y,vU C s T ea x y=Ou C e y x.owner (uz C e s x):=by
 intro s x y;simp only[Xm,Bool.and_eq_true,beq_iff_eq]at gO;rw[NB,ln];simp only;rw[if_pos ⟨gO.1.1.1,gO.1.1.2,gO.1.2,gO.2⟩];generalize x.owner=o;cases uz C e s x with
 |none=>rfl
 |some p=>
  obtain⟨d,s1⟩:=p;cases d<;>first
   |rfl
   |(simp only[Ou]
     split
     .rename_i h;subst h;generalize oj s1 (nx o y)=z;cases z with
      |none=>rfl
      |some p=>simp only[Jo,agv]
     .rfl)
def Xn:Option (I×al)->Option (azk×al)
 |some (.ae _ c1,s2)=>some (c1,s2)
 |_=>none
theorem j1 (s:al):oj s .bd=some ([],s)/\(∀c1,oj s (.slice c1)=some (c1,s))/\(∀l,oj s (.str l)=some (l.map ji,s))/\
  (∀a q,oj s (.h a q)=Xn (dJ s (.h a q)))/\(∀n c1,Xn (some (.ae n c1,s))=some (c1,s)):=
 ⟨rfl,λ_=>rfl,λ_=>rfl,λ_ _=>by simp only[oj];rfl,λ_ _=>rfl⟩
theorem j2 (C:cy) (e:TypeId):(∀s,uz C e s .bd=some (.ae (C.T e).sz [],s))/\(∀s a q,uz C e s (.h a q)=dJ s (.h a q))/\
  (∀y o sz xs s1,Ou C e y o (some (.ae sz xs,s1))=if sz=(C.T e).sz then Jo C e xs (oj s1 (nx o y))else none)/\
  (∀xs c1 s2,Jo C e xs (some (c1,s2))=if(∀d∈c1,d.wd=(C.T e).sz)/\(room (C.T e).bytes (xs.length+c1.length)).isSome=true then some (.ae (C.T e).sz (xs++c1),s2)else none):=
 ⟨λ_=>rfl,λ_ _ _=>rfl,λ_ _ _ _ _=>rfl,λ_ _ _=>rfl⟩
theorem gA:(∀d,nx none d=d)/\(∀x d,nx (some x) d=cW x d)/\(∀x q,I.owner (.h x q)=some x)/\I.owner .bd=none:=
 ⟨λ_=>rfl,λ_ _=>rfl,λ_ _=>rfl,rfl⟩
def Xo (s:al) (x:Nat) (q:azf):Option I->Option (I×al)
 |some d=>if d.plain=true then none else some (d,el (js x s) x (I.put q d.ee (s x)))
 |none=>none
theorem Xp (s:al) (x:Nat) (q:azf):dJ s (.h x q)=Xo s x q (I.sub q (s x)):=by
 simp only[dJ];cases I.sub q (s x)<;>rfl
theorem Xq (s:al):(∀x q d,Xo s x q (some d)=if d.plain=true then none else some (d,el (js x s) x (I.put q d.ee (s x))))/\(∀k n,dJ s (.int k n)=some (.int k n,s))/\(∀b,dJ s (.bool b)=some (.bool b,s))/\(∀x,dJ s (.str x)=some (.str x,s))/\
  (∀x,dJ s (.slice x)=some (.slice x,s))/\(∀x,dJ s (.ref x)=some (.ref x,s))/\(∀x,dJ s (.agg x)=some (.agg x,s))/\dJ s .bd=some (.bd,s)/\dJ s .ez=some (.ez,s):=
 ⟨λ_ _ _=>rfl,λ_ _=>rfl,λ_=>rfl,λ_=>rfl,λ_=>rfl,λ_=>rfl,λ_=>rfl,rfl,rfl⟩
theorem Xr (l:azj) (t:Nat) (d:I):el (ar l) t d=ar ((t,d)::l):=Fv l t d
theorem Xs:(∀n x,I.ee (.ae n x)= .hole)/\(∀x,I.ee (.aM x)= .hole)/\(∀aG,I.ee (.agg aG)= .agg (I.od aG))/\(∀aG,I.ee (.tuple aG)= .tuple (I.od aG))/\I.od []=[]/\(∀d ds,I.od (d::ds)=d.ee::I.od ds)/\
  (∀k n,I.ee (.int k n)= .int k n)/\(∀b,I.ee (.bool b)= .bool b)/\(∀x,I.ee (.str x)= .str x)/\(∀x,I.ee (.slice x)= .slice x)/\(∀x,I.ee (.ref x)= .ref x)/\I.ee .bd= .bd/\I.ee .ez= .ez/\I.ee .hole= .hole:=by
 simp[I.ee,I.od]
def zG:Option I->Option I
 |some d=>(match d with| .tuple _=>none| .ck _=>none|d=>if d.plain=true then none else some d.share)
 |none=>none
def zH:Option I->Option I
 |some d=>(match d with| .tuple _=>none|d=>some (.ref d.share))
 |none=>none
theorem gR (s:al) (x:Nat) (q:azf):view s (.h x q)=zG (I.sub q (s x))/\view s (.ax x q)=(if I.gM q (s x)=true then zH (I.sub q (s x))else none):=by
 constructor
 .simp only[view];rfl
 .simp only[view];rfl
theorem gS:(∀n xs,zG (some (.ae n xs))=some (.slice (I.shares xs)))/\(∀d,zG (some (.aM d))=some (.ref d.share))/\(∀aG,zG (some (.agg aG))=if I.e6 aG=true then none else some (.agg (I.shares aG)))/\
  (∀aG,zH (some (.agg aG))=some (.ref (.agg (I.shares aG))))/\(∀k n,zH (some (.int k n))=some (.ref (.int k n)))/\(∀x,zH (some (.str x))=some (.ref (.str x))):=
 ⟨λ_ _=>by simp[zG,I.plain,I.share],λ_=>by simp[zG,I.plain,I.share],λaG=>by cases h:I.e6 aG<;>simp[zG,I.plain,I.share,h],λ_=>by simp[zH,I.share],λ_ _=>by simp[zH,I.share],λ_=>by simp[zH,I.share]⟩
theorem cR:(∀n xs,I.share (.ae n xs)= .slice (I.shares xs))/\(∀d,I.share (.aM d)= .ref d.share)/\(∀xs,I.share (.slice xs)= .slice (I.shares xs))/\(∀d,I.share (.ref d)= .ref d.share)/\(∀aG,I.share (.agg aG)= .agg (I.shares aG))/\(∀aG,I.share (.tuple aG)= .tuple (I.shares aG))/\
  (∀k n,I.share (.int k n)= .int k n)/\(∀b,I.share (.bool b)= .bool b)/\(∀x,I.share (.str x)= .str x)/\I.share .bd= .bd/\I.share .ez= .ez/\I.shares []=[]/\(∀d ds,I.shares (d::ds)=d.share::I.shares ds):=by
 simp[I.share,I.shares]
def ou (sz:Nat):Option (azk×al)->Option (I×al)
 |some (ds,s1)=>some (.ae sz ds,s1)
 |none=>none
def ed:Option (azk×al)->Option (I×al)
 |some (ds,s1)=>some (.agg ds,s1)
 |none=>none
theorem FG {C:cy} {T e n sz:Nat} {fw:azk} (ln:(C.T T).k= .slice e) (fa:(C.T e).sz=sz) (cf:List.replicate n (C.T e).zero=fw)
  (gO:((C.T e).ok&&((C.T e).zero.wd==sz)&&(flat (C.T e).zero).isSome&&(sz !=0)&&decide (n*sz<=16777216))=true):∀s ps,d_ C s T n ps=ou sz (en (λk=>some (k*sz,sz)) s fw [] ps):=by
 intro s ps;subst fa;simp only[Bool.and_eq_true,beq_iff_eq,bne_iff_ne,decide_eq_true_eq]at gO;obtain⟨⟨⟨⟨ad,ag⟩,aD⟩,bh⟩,b1⟩:=gO;unfold d_;rw[ln];simp only;rw[if_pos ⟨ad,ag,aD,bh,b1⟩,cf];cases en (λk=>some (k*(C.T e).sz,(C.T e).sz)) s fw [] ps<;>rfl
theorem mZ {C:cy} {T:Nat} {aG:List (TypeId×Nat)} {fw:azk} (ln:(C.T T).k= .struct aG) (cf:(C.T T).zero= .agg fw)
  (gO:((flat (.agg fw)).isSome&&aG.all λf=>(C.T f.1).ok)=true):∀s ps,gH C s T ps=ed (en (λk=>(aG[k]?).map λf=>(f.2,(C.T f.1).sz)) s fw [] ps):=by
 intro s ps;simp only[Bool.and_eq_true,List.all_eq_true]at gO;unfold gH;rw[ln,cf];simp only;rw[if_pos ⟨gO.1,gO.2⟩];cases en (λk=>(aG[k]?).map λf=>(f.2,(C.T f.1).sz)) s fw [] ps<;>rfl
def dQ (place:Nat->Option (Nat×Nat)) (k:Nat) (fw:azk) (os:List (Option Nat)) (r:azj) (o:Option Nat):Option (Nat×Nat)->Option I->Option (I×al)->Option (azk×al)
 |some (off,n),some z,some (d,s1)=>(match d with
  | .tuple _=>none
  |d=>if d.wd=n/\z.wd=n/\I.e9 (fw.take k)=off then en place s1 (fw.set k d) (os++[o]) r else none)
 |_,_,_=>none
theorem lV (place:Nat->Option (Nat×Nat)) (s:al) (fw:azk) (os:List (Option Nat)):en place s fw os []=some (fw,s)/\
  (∀k a r,en place s fw os ((k,a)::r)=dQ place k fw os r (nX os a).owner (place k) fw[k]? (dJ s (nX os a))):=by
 refine⟨rfl,λk a r=>?_⟩;simp only[en];cases dJ s (nX os a)with
 |none=>cases place k<;>cases fw[k]? <;>rfl
 |some p=>
  obtain⟨d,s1⟩:=p;cases place k with
  |none=>cases fw[k]? <;>rfl
  |some q=>cases fw[k]? <;>(cases d<;>rfl)
theorem lW:(∀a,nX [] a=a)/\(∀o os a,nX (o::os) a=nX os (nx o a)):=⟨λ_=>rfl,λ_ _ _=>rfl⟩
theorem db:(∀k n,I.owner (.int k n)=none)/\(∀b,I.owner (.bool b)=none)/\(∀x,I.owner (.str x)=none)/\(∀x,I.owner (.slice x)=none)/\(∀x,I.owner (.ref x)=none)/\(∀x,I.owner (.agg x)=none)/\I.owner .ez=none/\I.owner .bd=none/\(∀x q,I.owner (.h x q)=some x):=
 ⟨λ_ _=>rfl,λ_=>rfl,λ_=>rfl,λ_=>rfl,λ_=>rfl,λ_=>rfl,rfl,rfl,λ_ _=>rfl⟩
end Go.ei
