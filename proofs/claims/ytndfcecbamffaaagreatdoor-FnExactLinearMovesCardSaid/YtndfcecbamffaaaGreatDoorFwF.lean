/- Part of a proof that a law returns true for every input. No condition. -/
import Derived.Test.YtndfcecbamffaaaGreatDoorFwE
import Derived.Orders
import Derived.KernelRfl
import Derived.Test.YtndfcecbamffaaaGreatDoorFwA
namespace Go.cG
open Go.IntKind Nat Or
section
variable {C:bz} {w0 w:World} {F0 X:Nat->Prop} {n:Fr} {ρ:Nat->Value} {s s1:ag} {a:Act} {av:j} {Q:Exit->Act->World->Prop}
def bn.un (o:bn):bn:=⟨o.dst,o.bq.base,o.guard⟩
theorem uk {ops:Array Oper}:∀{os:List Oper} {rs:List bn},jC n ops os=some rs->os.length=rs.length/\∀(i:Nat) (o:Oper),os[i]? =some o->∃r,rs[i]? =some r/\jT n ops o=some r:=by
 intro os;induction os with
 |nil=>intro rs h;simp only[jC,Option.some.injEq]at h;subst h;exact⟨rfl,λi o h=>by simp at h⟩
 |cons o os ih=>
  intro rs h;simp only[jC]at h;split at h
  .rename_i r Ik R U;simp only[Option.some.injEq]at h;subst h;obtain⟨bO,b1⟩:=ih U;refine⟨by simp[bO],λi iW a_=>?_⟩;cases i with
   |zero=>simp at a_;subst a_;exact⟨r,rfl,R⟩
   |succ i=>simpa using b1 i iW (by simpa using a_)
  .cases h
theorem wH {o:Oper} {y:Nat->acf} (h:o.guard=none):Region.wanted o y=true:=by simp[Region.wanted,h]
theorem Qs (h:Rel w0 F0 X n ρ s a w) {ops:Array Oper} {aB t:Nat} (cp:(ops[aB]?).bind (·.dst)=some t):
  (∀b,s t= .bool b->yielded ops a.tmps aB=some b)/\(s t= .tuple []->yielded ops a.tmps aB=none):=by
 obtain⟨ad,J,bf,F,S,aD⟩:=h;have gZ:=aD.cz t;refine⟨λb I=>?_,λI=>?_⟩
 .rw[I]at gZ;have aE:=qX gZ;simp only[yielded,cp,Option.bind_some];rw[Array.getD_eq_getD_getElem?]at aE;cases bo:a.tmps[t]? with
  |none=>rw[bo]at aE;simp[undef]at aE
  |some v=>rw[bo]at aE;simp at aE;subst aE;rfl
 .rw[I]at gZ;obtain⟨⟨arr,R,U⟩,_⟩:=(az.b8 (d:=.tuple []) rfl).1 gZ;simp only[yielded,cp,Option.bind_some];rw[Array.getD_eq_getD_getElem?]at R;cases bo:a.tmps[t]? with
  |none=>rfl
  |some v=>rw[bo]at R;simp at R;subst R;rfl
theorem sB (a1:C.du) {ops:Array Oper} {ros:List bn} {l2:ace} {K:ag->Prop} (aO:∀aq bG au,K aq->Rel w0 F0 X n ρ aq bG au->wpOps C.P ops Q l2 bG au):
  ∀(l:ace),(∀i∈l,(ops[i]? =none->ros[i]? =none)/\∀o,ops[i]? =some o->∃r,ros[i]? =some r/\jT n ops o=some r.un)->
  ∀(s:ag) (a:Act) (w:World),iY C ros s l K->Rel w0 F0 X n ρ s a w->wpOps C.P ops Q (l++l2) a w:=by
 intro l;induction l with
 |nil=>intro _ s a w h aD;exact aO s a w h aD
 |cons i l ih=>
  intro kb s a w h aD;replace ih:=ih λi ax=>kb i (List.mem_cons_of_mem _ ax);rw[List.cons_append];simp only[wpOps];cases a_:ops[i]? with
  |none=>
   simp only[iY,(kb i (by simp)).1 a_]at h;exact ih s a w h aD
  |some o=>
   obtain⟨r,R,U⟩:=(kb i (by simp)).2 o a_;simp only[iY,R]at h;show(if Region.wanted o (yielded ops a.tmps)=true then o.wp C.P a w (wpOps C.P ops Q (l++l2)) Q\/(o.asks C.P a w/\LetsOut Q)else wpOps C.P ops Q (l++l2) (a.put o.dst undef) w);simp only[jT]at U;split at U
   .rename_i qe;split at U
    .rename_i g bo;obtain⟨rd,bq,rg⟩:=r;simp only[bn.un,Option.some.injEq,bn.mk.injEq]at U;obtain⟨rfl,bB,rfl⟩:=U;simp only[k_]at h;have run:∀(cN:ag->Prop),(∀aq,cN aq->iY C ros aq l K)->nK C s bq (λav s1=>cN (fin s1 o.dst av))->o.wp C.P a w (wpOps C.P ops Q (l++l2)) Q:=
      λcN hK hw=>Qq a1 aD bB qe hw (λaq bG au ak c3=>ih aq bG au (hK aq ak) c3)
     cases nM:o.guard with
     |none=>
      rw[nM]at bo;simp only[wD,Option.some.injEq]at bo;subst bo;simp only at h;rw[if_pos (wH nM)];exact .inl (run _ (λ_ h=>h) h)
     |some CH=>
      obtain⟨aB,b⟩:=CH;rw[nM]at bo;simp only[wD]at bo;split at bo
      .rename_i t aK;simp only[Option.some.injEq]at bo;subst bo;simp only at h;obtain⟨fy,hn⟩:=Qs aD aK;have Il:∀(cN:iY C ros (fin s o.dst (.tuple [])) l K),wpOps C.P ops Q (l++l2) (a.put o.dst undef) w:=λcN=>ih _ _ _ cN (Rel.skip aD qe);split at h
       .rename_i eA J;have a6:=fy eA J;split at h
        .rename_i I;subst I;rw[if_pos (by simp[Region.wanted,nM,a6])];exact .inl (run _ (λ_ h=>h) h)
        .rename_i I;rw[if_neg (by simp[Region.wanted,nM,a6,I])];exact Il h
       .rename_i J;have a6:=hn J;rw[if_neg (by simp[Region.wanted,nM,a6])];exact Il h
       .exact h.elim
      .cases bo
    .cases U
   .cases U
theorem Im (a1:C.du) {ops:Array Oper} {ros:List bn} (iO:jC n ops ops.toList=some (ros.map bn.un)) {K:ag->Prop} (aO:∀aq bG au,K aq->Rel w0 F0 X n ρ aq bG au->Q .normal bG au):
  ∀(l:ace) (s:ag) (a:Act) (w:World),iY C ros s l K->Rel w0 F0 X n ρ s a w->wpOps C.P ops Q l a w:=by
 obtain⟨hl,kb⟩:=uk iO;intro l s a w h aD;have:=sB (Q:=Q) a1 (ros:=ros) (ops:=ops) (l2:=[]) (K:=K) (n:=n) (ρ:=ρ) (w0:=w0) (F0:=F0) (X:=X) (λaq bG au ak c3=>aO aq bG au ak c3) l (λi _=>⟨λa_=>by
   rw[List.getElem?_eq_none_iff,<-List.length_map (f:=bn.un),<-hl];have:=Array.getElem?_eq_none_iff.1 a_;simpa using this,λo a_=>by
   obtain⟨aF,gu,U⟩:=kb i o (by simpa using a_);obtain⟨r,R,rfl⟩:∃r,ros[i]? =some r/\r.un=aF:=by simpa using gu
   exact⟨r,R,U⟩⟩) s a w h aD
 rwa [List.append_nil]at this
theorem Rel.drawn (h:Rel w0 F0 X n ρ s a w) (k:Nat) (ak:w.drawn<=k):Rel w0 F0 X n ρ s a {w with drawn:=k}:=by
 obtain⟨R,U,bf,F,S,aw⟩:=h;exact⟨R,U,bf,F,S,aw.grow (λ_ _=>rfl) (Nat.le_refl _) rfl rfl ⟨rfl,λ_=>ak⟩⟩
theorem Io (a1:C.du) {id:Nat} {ops:Array Oper} {ros:List bn} (iO:jC n ops ops.toList=some (ros.map bn.un)) {K:ag->Prop} (aO:∀aq bG au,K aq->Rel w0 F0 X n ρ aq bG au->Q .normal bG au)
  (h:hp C s ros K) (aD:Rel w0 F0 X n ρ s a w):(Code.region id ops false).wp C.P Q a w:=by
 refine wp_region (Im a1 iO aO _ s a w ?_ aD);have:=Qe C K ros [] s h;have hl:=(uk iO).1;simp only[List.nil_append,List.length_nil,Nat.add_zero,List.map_id']at this;rw[List.length_map]at hl;rw[<-hl]at this;simpa using this
end
def CI (oq:acb) (l:ace):Prop:=
 l.Nodup/\(∀i,i∈l↔i<oq.length)/\∀u i v,l=u++i::v->∀e∈(oq[i]?).getD [],e∈u
def nN (ops:Array Oper):acb:=ops.toList.map λo=>(o.after.toList.filter λe=>Region.binds .any e).map (·.on)
def wI (oq:acb):Bool:=oq.zipIdx.all λp=>p.1.all λe=>decide (e<p.2)
theorem Qt {oq:acb} (h:wI oq=true) {i:Nat} {l:ace} (ax:oq[i]? =some l):∀e∈l,e<i:=by
 intro e he;simp only[wI,List.all_eq_true]at h;have:=h (l,i) (by rw[List.mem_zipIdx_iff_getElem?];exact ax) e he;simpa using this
theorem Qu {ops:Array Oper} (I:wI (nN ops)=true):∀(fuel t:Nat) (listed:Array Bool),listed.size=ops.size->((List.range ops.size).filter λi=> !listed.getD i true).length<=fuel->
  (Region.linearise.go .any ops fuel t listed []).Nodup/\(∀i,i∈Region.linearise.go .any ops fuel t listed []↔(i<ops.size/\listed.getD i true=false))/\
   ∀u i v,Region.linearise.go .any ops fuel t listed []=u++i::v->∀e∈((nN ops)[i]?).getD [],listed.getD e false=true\/e∈u:=by
 intro fuel;induction fuel with
 |zero=>
  intro t listed J hl;have wk:((List.range ops.size).filter λi=> !listed.getD i true)=[]:=List.length_eq_zero_iff.1 (le_zero.1 hl);refine⟨by simp[Region.linearise.go],λi=>?_,λu i v h=>by simp[Region.linearise.go]at h⟩;simp only[Region.linearise.go,List.reverse_nil,List.not_mem_nil,false_iff,not_and];intro ax bf;have:i∈((List.range ops.size).filter λi=> !listed.getD i true):=List.mem_filter.2 ⟨List.mem_range.2 ax,by rw[bf];rfl⟩;rw[wk]at this;cases this
 |succ fuel ih=>
  intro t listed J hl;have Ip:∀i,i∈Region.ready .any ops listed↔(i<ops.size/\listed.getD i true=false/\∀e∈((nN ops)[i]?).getD [],listed.getD e false=true):=by
   intro i;simp only[Region.ready,List.mem_filter,List.mem_range,Bool.and_eq_true,Bool.not_eq_true'];constructor
   .rintro⟨R,U,aw⟩;refine⟨R,U,?_⟩;rw[Array.getElem?_eq_getElem R]at aw;simp only[Option.map_some,Option.getD_some,Array.all_eq_true_iff_forall_mem]at aw;simp only[nN,List.getElem?_map,Array.getElem?_toList,Array.getElem?_eq_getElem R,Option.map_some,Option.getD_some,List.mem_map,List.mem_filter];rintro e ⟨x,⟨ae,pb⟩,rfl⟩;have:=aw x (by simpa using ae);simpa [pb]using this
   .rintro⟨R,U,aw⟩;refine⟨R,U,?_⟩;rw[Array.getElem?_eq_getElem R];simp only[Option.map_some,Option.getD_some,Array.all_eq_true_iff_forall_mem];simp only[nN,List.getElem?_map,Array.getElem?_toList,Array.getElem?_eq_getElem R,Option.map_some,Option.getD_some,List.mem_map,List.mem_filter]at aw;intro x ae;cases pb:Region.binds .any x with
    |false=>simp
    |true=>simpa using aw x.on ⟨x,⟨by simpa using ae,pb⟩,rfl⟩
  have hex:(∃i,i<ops.size/\listed.getD i true=false)->Region.ready .any ops listed≠[]:=by
   rintro⟨i,R,U⟩;have:∃i,(i<ops.size/\listed.getD i true=false)/\∀aB,aB<i->¬(aB<ops.size/\listed.getD aB true=false):=by
    induction i using Nat.strongRecOn with
    |_ i Qv=>
     by_cases cp:∃aB,aB<i/\(aB<ops.size/\listed.getD aB true=false)
     .obtain⟨aB,Qw,pk,Qx⟩:=cp;exact Qv aB Qw pk Qx
     .exact⟨i,⟨R,U⟩,λaB Qy aj=>cp ⟨aB,Qy,aj⟩⟩
   obtain⟨k,⟨bO,b1⟩,cX⟩:=this;have:k∈Region.ready .any ops listed:=(Ip k).2 ⟨bO,b1,λe he=>by
    cases bx:(nN ops)[k]? with
    |none=>rw[bx]at he;simp at he
    |some l=>
     rw[bx]at he;have cW:=Qt I bx e he;have:=cX e cW;rw[not_and]at this;have:=this (by omega);have CJ:e<listed.size:=by omega
     simp only[Array.getD_eq_getD_getElem?,Array.getElem?_eq_getElem CJ,Option.getD_some]at this⊢;simpa using this⟩
   intro e;rw[e]at this;cases this
  have Iq:Region.linearise.go .any ops (fuel+1) t listed []=(match(Region.ready .any ops listed)[t%(Region.ready .any ops listed).length]? with
   |some i=>Region.linearise.go .any ops fuel (t/(Region.ready .any ops listed).length) (listed.setIfInBounds i true) [i]
   |none=>[]):=rfl
  cases wJ:(Region.ready .any ops listed)[t%(Region.ready .any ops listed).length]? with
  |none=>
   have wk:Region.ready .any ops listed=[]:=by
    cases aD:Region.ready .any ops listed with
    |nil=>rfl
    |cons a l=>
     rw[aD]at wJ;have:=List.getElem?_eq_none_iff.1 wJ;have U:=mod_lt t (show 0<(a::l).length by simp);omega
   rw[Iq,wJ];refine⟨by simp,λi=>?_,λu i v h=>by simp at h⟩;simp only[List.not_mem_nil,false_iff];intro ax;exact hex ⟨i,ax⟩ wk
  |some i=>
   have ax:=(Ip i).1 (List.mem_of_getElem? wJ);obtain⟨CK,Ir,Qz⟩:=ax;rw[Iq,wJ];simp only;rw[linearise_go_acc];simp only[List.reverse_singleton,List.singleton_append];have qW:∀aB d,(listed.setIfInBounds i true).getD aB d=if aB=i then true else listed.getD aB d:=by
    intro aB d;split
    .rename_i e;subst e;simp[Array.getD_eq_getD_getElem?,Array.getElem?_setIfInBounds_self_of_lt (show aB<listed.size by omega)]
    .rename_i e;simp[Array.getD_eq_getD_getElem?,Array.getElem?_setIfInBounds_ne (λh=>e h.symm)]
   obtain⟨g1,g2,g3⟩:=ih (t/(Region.ready .any ops listed).length) (listed.setIfInBounds i true) (by simpa using J) (by
    have ef:((List.range ops.size).filter λaB=> !(listed.setIfInBounds i true).getD aB true)=((List.range ops.size).filter λi=> !listed.getD i true).filter λaB=>decide (aB≠i):=by
     rw[List.filter_filter];apply List.filter_congr;intro aB _;rw[qW];by_cases e:aB=i<;>simp[e]
    rw[ef];have cW:(((List.range ops.size).filter λi=> !listed.getD i true).filter λaB=>decide (aB≠i)).length<((List.range ops.size).filter λi=> !listed.getD i true).length:=by
     rw[List.length_filter_lt_length_iff_exists];exact⟨i,List.mem_filter.2 ⟨List.mem_range.2 CK,by rw[Ir];rfl⟩,by simp⟩
    omega)
   refine⟨?_,λaB=>?_,?_⟩
   .rw[List.nodup_cons];refine⟨λhm=>?_,g1⟩;have:=((g2 i).1 hm).2;rw[qW,if_pos rfl]at this;cases this
   .rw[List.mem_cons,g2,qW];by_cases e:aB=i
    .subst e;simp[CK,Ir]
    .simp[e]
   .intro u aB v h e he;cases u with
    |nil=>
     simp only[List.nil_append,List.cons.injEq]at h;obtain⟨rfl,rfl⟩:=h;exact .inl (Qz e he)
    |cons zc u=>
     simp only[List.cons_append,List.cons.injEq]at h;obtain⟨rfl,h⟩:=h;rcases g3 u aB v h e he with bC|bC
     .rw[qW]at bC;split at bC
      .rename_i fH;subst fH;exact .inr (by simp)
      .exact .inl bC
     .exact .inr (by simp[bC])
theorem QA {ops:Array Oper} (I:wI (nN ops)=true) (t:Nat):CI (nN ops) (Region.linearise .any ops t):=by
 have Is:∀i d,i<ops.size->(Array.replicate ops.size false).getD i d=false:=by
  intro i d ax;simp[Array.getD_eq_getD_getElem?,ax]
 obtain⟨g1,g2,g3⟩:=Qu I ops.size t (Array.replicate ops.size false) (by simp) (by
  have:=List.length_filter_le (λi=> !(Array.replicate ops.size false).getD i true) (List.range ops.size);simpa using this)
 have hlen:(nN ops).length=ops.size:=by simp[nN]
 refine⟨g1,λi=>?_,λu i v h e he=>?_⟩
 .rw[hlen];rw[show Region.linearise .any ops t=Region.linearise.go .any ops ops.size t (Array.replicate ops.size false) []from rfl,g2];exact⟨λh=>h.1,λh=>⟨h,Is i true h⟩⟩
 .rcases g3 u i v h e he with bC|bC
  .exfalso;by_cases It:e<ops.size
   .rw[Is e false It]at bC;cases bC
   .simp[Array.getD_eq_getD_getElem?,It]at bC
  .exact bC
def ah:aci->ag
 |[],_=>.hole
 |(u,d)::l,t=>if t=u then d else ah l t
mutual
inductive ew:j->j->Prop
 |refl (d:j):ew d d
 |jD (sz:Nat):ew .bc (.ao sz [])
 |um:ew .bc (.slice [])
 |any (b:Bool):ew (.bool b) .eT
 |share (d:j):d.tree=true->(∀vs,d≠.tuple vs)->(∀o,d≠.b3 o)->(∀f c,d≠.a8 f c)->(∀c,d≠.cH c)->ew d d.share
 |agg {ds es:acj}:jE ds es->ew (.agg ds) (.agg es)
 |aV {d e:j}:ew d e->ew (.aV d) (.aV e)
 |ao {sz:Nat} {ds es:acj}:jE ds es->ew (.ao sz ds) (.ao sz es)
 |tuple {ds es:acj}:jE ds es->ew (.tuple ds) (.tuple es)
 |ref {d e:j}:ew d e->ew (.ref d) (.ref e)
 |trans {d e f:j}:ew d e->ew e f->ew d f
inductive jE:acj->acj->Prop
 |nil:jE [] []
 |cons {d e:j} {ds es:acj}:ew d e->jE ds es->jE (d::ds) (e::es)
end
mutual
theorem ew.wd:∀{d e:j},ew d e->e.wd=d.wd
 |_,_,.refl _=>rfl
 |_,_,.jD _=>rfl
 |_,_,.um=>rfl
 |_,_,.any _=>rfl
 |_,_,.share d _ _ _ _ _=>j.yz d
 |_,_,.agg h=>by simp only[j.wd];exact jE.wd h
 |_,_,.aV _=>rfl
 |_,_,.ao _=>rfl
 |_,_,.tuple h=>by simp only[j.wd];exact jE.wd h
 |_,_,.ref _=>rfl
 |_,_,.trans h k=>(ew.wd k).trans (ew.wd h)
theorem jE.wd:∀{ds es:acj},jE ds es->j.di es=j.di ds
 |_,_,.nil=>rfl
 |_,_,.cons h J=>by simp only[j.di];rw[ew.wd h,jE.wd J]
end
theorem jE.len {ds es:acj} (h:jE ds es):es.length=ds.length:=by
 induction ds generalizing es with
 |nil=>cases h;rfl
 |cons d ds ih=>cases h with|cons h J=>simp[ih J]
theorem jE.all {sz:Nat} {ds es:acj} (h:jE ds es) (ad:∀d∈ds,d.wd=sz):∀d∈es,d.wd=sz:=by
 induction ds generalizing es with
 |nil=>cases h;intro d ad;cases ad
 |cons d ds ih=>
  cases h with
  |cons h J=>
   intro x ae;rcases List.mem_cons.1 ae with rfl|ae
   .rw[h.wd];exact ad d (by simp)
   .exact ih J (λd hm=>ad d (by simp[hm])) x ae
section
variable {w0 w:World} {F0 X F:Nat->Prop} {S:Nat->Nat->Prop} {s aq:ag} {an:Nat->Value}
def QB (w:World) (F:Nat->Prop) (_d e:j) (cs:ach) (S:Nat->Prop):Prop:=
 ∃g_ ha:Nat->Prop,(∀b,g_ b->S b)/\(∀b,ha b->S b)/\(∀b,ha b->¬g_ b)/\∀bh,(∀b,F b\/g_ b->bh b)->al w bh e cs ha
mutual
theorem al.wider:∀{d e:j},ew d e->∀{F:Nat->Prop} {cs:ach} {S:Nat->Prop},al w F d cs S->QB w F d e cs S
 |_,_,.refl _,F,cs,S,h=>⟨λ_=>False,S,λ_ h=>h.elim,λ_ h=>h,λ_ _ h=>h,λbh aZ=>al.mono (λb I=>aZ b (.inl I)) _ _ _ _ (λ_ h=>h) h⟩
 | .bc,_,.jD sz,F,cs,S,h=>⟨λ_=>False,S,λ_ h=>h.elim,λ_ h=>h,λ_ _ h=>h,λbh aZ=>by simp only[al]at h⊢;exact .inl ⟨trivial,_,h⟩⟩
 | .bc,_,.um,F,cs,S,h=>⟨λ_=>False,S,λ_ h=>h.elim,λ_ h=>h,λ_ _ h=>h,λbh aZ=>by simp only[al]at h⊢;exact .inl ⟨trivial,none,0,h,zero_le _,λ_=>rfl⟩⟩
 | .bool _,_,.any b,F,cs,S,h=>⟨λ_=>False,S,λ_ h=>h.elim,λ_ h=>h,λ_ _ h=>h,λbh aZ=>by simp only[al]at h⊢;exact⟨b,h⟩⟩
 |_,_,.share d _ _ _ _ _,F,cs,S,h=>⟨S,λ_=>False,λ_ h=>h,λ_ h=>h.elim,λ_ h=>h.elim,λbh aZ=>al.shared (λb I=>aZ b (.inl I)) d cs S (λb I=>aZ b (.inr I)) h⟩
 |_,_,.agg hA,F,cs,S,h=>by
  rw[al]at h;obtain⟨g_,ha,R,U,aw,aQ⟩:=aT.wider hA h;exact⟨g_,ha,R,U,aw,λbh aZ=>by rw[al];exact aQ bh aZ⟩
 |_,_,.aV ad,F,cs,S,h=>by
  rw[al]at h;obtain⟨b,cur,ty,fr,aG,bO,b1,cX,cT,ev,dV,ij⟩:=h;obtain⟨g_,ha,R,U,aw,aQ⟩:=al.wider ad ev;refine⟨g_,λc=>c=b\/ha c,λc aj=>dV c (R c aj),?_,?_,λbh aZ=>?_⟩
  .rintro c (rfl|aj)
   .exact b1
   .exact dV c (U c aj)
  .rintro c (rfl|aj) bf
   .exact ij (R _ bf)
   .exact aw c aj bf
  .rw[al];exact⟨b,cur,ty,fr,ha,bO,.inl rfl,cX,cT,aQ bh aZ,λc aj=>.inr aj,λaj=>ij (U _ aj)⟩
 | .ao sz ds,.ao _ es,.ao hA,F,cs,S,h=>by
   rw[al]at h;have hl:=hA.len;rcases h with⟨R,U⟩|⟨b,cap,cur,ty,fr,aG,bO,b1,cX,cT,ev,dV,ij,cZ,lF,nB,Iu⟩
   .refine⟨λ_=>False,S,λ_ h=>h.elim,λ_ h=>h,λ_ _ h=>h,λbh _=>?_⟩;rw[al];subst R;exact .inl ⟨List.length_eq_zero_iff.1 (by simpa using hl),U⟩
   .obtain⟨g_,ha,R,U,aw,aQ⟩:=aT.wider hA lF;refine⟨g_,λc=>c=b\/ha c,λc aj=>nB c (R c aj),?_,?_,λbh aZ=>?_⟩
    .rintro c (rfl|aj)
     .exact b1
     .exact nB c (U c aj)
    .rintro c (rfl|aj) bf
     .exact Iu (R _ bf)
     .exact aw c aj bf
    .rw[al];refine .inr ⟨b,cap,cur,ty,fr,ha,by rw[hl];exact bO,.inl rfl,cX,cT,by rw[hl];exact ev,dV,ij,hA.all cZ,by rw[hl];exact aQ bh aZ,λc aj=>.inr aj,λaj=>Iu (U _ aj)⟩
 |_,_,.tuple hA,F,cs,S,h=>by
  rw[al]at h;obtain⟨g_,ha,R,U,aw,aQ⟩:=aT.wider hA h;exact⟨g_,ha,R,U,aw,λbh aZ=>by rw[al];exact aQ bh aZ⟩
 |_,_,.ref ad,F,cs,S,h=>by
  rw[al]at h;obtain⟨b,o,dC,R,U,aw,aQ⟩:=h;obtain⟨g_,ha,bO,b1,cX,cT⟩:=al.wider ad aQ;refine⟨λ_=>False,S,λ_ h=>h.elim,λ_ h=>h,λ_ _ h=>h,λbh aZ=>?_⟩;rw[al];exact⟨b,o,dC,R,aZ _ (.inl U),aw,al.mono (λ_ h=>h) _ _ _ _ (λb I=>b1 b I) (cT bh λb I=>aZ b (I.imp id λh=>(bO b h).elim))⟩
 |_,_,.trans ad he,F,cs,S,h=>by
  obtain⟨g_,ha,R,U,aw,aQ⟩:=al.wider ad h;obtain⟨CL,zd,bO,b1,cX,cT⟩:=al.wider he (F:=λb=>F b\/g_ b) (aQ _ λ_ h=>h);refine⟨λb=>g_ b\/CL b,zd,?_,λb I=>U b (b1 b I),?_,λbh aZ=>cT bh λb I=>?_⟩
  .rintro b (h|h)
   .exact R b h
   .exact U b (bO b h)
  .rintro b I (h|h)
   .exact aw b (b1 b I) h
   .exact cX b I h
  .rcases I with(I|I)|I
   .exact aZ b (.inl I)
   .exact aZ b (.inr (.inl I))
   .exact aZ b (.inr (.inr I))
theorem aT.wider:∀{ds es:acj},jE ds es->∀{F:Nat->Prop} {cs:ach} {S:Nat->Prop},aT w F ds cs S->
  ∃g_ ha:Nat->Prop,(∀b,g_ b->S b)/\(∀b,ha b->S b)/\(∀b,ha b->¬g_ b)/\∀bh,(∀b,F b\/g_ b->bh b)->aT w bh es cs ha
 |_,_,.nil,F,cs,S,h=>⟨λ_=>False,λ_=>False,λ_ h=>h.elim,λ_ h=>h.elim,λ_ h=>h.elim,λbh aZ=>by rw[aT]at h⊢;exact h⟩
 |_,_,.cons ad hA,F,cs,S,h=>by
  rw[aT]at h;obtain⟨bK,bJ,bT,cI,rfl,g2,g3,g4,g5,g6⟩:=h;obtain⟨QC,Iv,aa,a2,a3,a4⟩:=al.wider ad g2;obtain⟨CL,zd,ju,gQ,iN,cK⟩:=aT.wider hA g3;refine⟨λb=>QC b\/CL b,λb=>Iv b\/zd b,?_,?_,?_,λbh aZ=>?_⟩
  .rintro b (h|h)
   .exact g4 b (aa b h)
   .exact g5 b (ju b h)
  .rintro b (h|h)
   .exact g4 b (a2 b h)
   .exact g5 b (gQ b h)
  .rintro b (h|h) (bC|bC)
   .exact a3 b h bC
   .exact g6 b (a2 b h) (ju b bC)
   .exact g6 b (aa b bC) (gQ b h)
   .exact iN b h bC
  .rw[aT];refine⟨bK,bJ,Iv,zd,rfl,a4 bh (λb I=>aZ b (I.imp id .inl)),cK bh (λb I=>aZ b (I.imp id .inr)),λb I=>.inl I,λb I=>.inr I,λb R U=>g6 b (a2 b R) (gQ b U)⟩
end
theorem ew.ze:∀{d e:j},ew d e->(∀vs,d≠.tuple vs)->∀vs,e≠.tuple vs
 |_,_,.refl _,h=>h
 |_,_,.jD _,_=>λ_ h=>by cases h
 |_,_,.um,_=>λ_ h=>by cases h
 |_,_,.any _,_=>λ_ h=>by cases h
 |_,_,.share d _ _ _ _ _,h=>λvs he=>by cases d<;>first|(cases he;done)|exact h _ rfl
 |_,_,.agg _,_=>λ_ h=>by cases h
 |_,_,.aV _,_=>λ_ h=>by cases h
 |_,_,.ao _,_=>λ_ h=>by cases h
 |_,_,.tuple _,h=>λ_ _=>h _ rfl
 |_,_,.ref _,_=>λ_ h=>by cases h
 |_,_,.trans h k,aO=>ew.ze k (ew.ze h aO)
theorem ew.hh:∀{d e:j} {v:Value},ew d e->(∀vs,d≠.tuple vs)->cG.hh d v->cG.hh e v
 |_,_,_,.refl _,_,h=>h
 |_,_,_,.jD _,_,h=>h
 |_,_,_,.um,_,h=>h
 |_,_,_,.any _,_,h=>h
 |_,_,_,.share d _ aO _ _ _,_,h=>by cases d<;>first|exact h|exact(aO _ rfl).elim
 |_,_,_,.agg _,_,h=>h
 |_,_,_,.aV _,_,h=>h
 |_,_,_,.ao _,_,h=>h
 |_,_,_,.tuple _,aO,_=>(aO _ rfl).elim
 |_,_,_,.ref _,_,h=>h
 |_,_,_,.trans h k,aO,J=>ew.hh k (ew.ze h aO) (ew.hh h aO J)
theorem jE.get:∀{ds es:acj},jE ds es->∀(k:Nat) (e:j),es[k]? =some e->∃d,ds[k]? =some d/\ew d e
 |_,_,.nil,k,e,h=>by simp at h
 |_,_,.cons ad J,0,e,h=>by simp at h;subst h;exact⟨_,rfl,ad⟩
 |_,_,.cons ad J,k+1,e,h=>jE.get J k e (by simpa using h)
theorem ew.cU:∀{d e:j} {v:Value},ew d e->cG.cU d v->cG.cU e v
 |_,_,_,.refl _,J=>J
 |_,_,_,.jD _,J=>J
 |_,_,_,.um,J=>J
 |_,_,_,.any _,J=>J
 |_,_,_,.share _ _ mi _ _ _,J=>Ct mi J
 |_,_,_,.agg _,J=>J
 |_,_,_,.aV _,J=>J
 |_,_,_,.ao _,J=>J
 |_,_,_,.ref _,J=>J
 |_,_,_,.tuple ad,J=>by
  obtain⟨arr,R,U,aw⟩:=J;refine⟨arr,R,U.trans ad.len.symm,λk e x he ae=>?_⟩;obtain⟨d,ak,hw⟩:=ad.get k e he;obtain⟨aa,a2,a3⟩:=aw k d x ak ae;exact⟨hw.hh a2 aa,hw.ze a2,a3.trans hw.wd.symm⟩
 |_,_,_,.trans h k,J=>ew.cU k (ew.cU h J)
theorem ew.tree:∀{d e:j},ew d e->d.tree=true->e.tree=true
 |_,_,.refl _,ad=>ad
 |_,_,.jD _,_=>rfl
 |_,_,.um,_=>rfl
 |_,_,.any _,_=>rfl
 |_,_,.share d _ _ ic Cu Cv,ad=>by cases d<;>first|exact ad|rfl|exact(ic _ rfl).elim|exact(Cu _ _ rfl).elim|exact(Cv _ rfl).elim
 |_,_,.agg _,_=>rfl
 |_,_,.aV _,_=>rfl
 |_,_,.ao _,_=>rfl
 |_,_,.tuple _,_=>rfl
 |_,_,.ref _,_=>rfl
 |_,_,.trans h k,ad=>ew.tree k (ew.tree h ad)
mutual
def j.sC:j->ace
 | .h x q=>if q.isEmpty then []else [x]
 | .ai x _=>[x]
 | .I x _=>[x]
 | .fn _ cap=>j.wK cap
 |_=>[]
def j.wK:acj->ace
 |[]=>[]
 |d::ds=>d.sC++j.wK ds
end
def wL (s aq:ag) (x:Nat) (D:ace):Prop:=aq x=s x\/aq x= .hole\/((s x).own=true/\(aq x).own=true/\x∉D)
theorem wL.less {s aq:ag} {x:Nat} {D E:ace} (h:wL s aq x D) (CM:∀u∈E,u∈D):wL s aq x E:=by
 rcases h with h|h|⟨R,U,aw⟩
 .exact .inl h
 .exact .inr (.inl h)
 .exact .inr (.inr ⟨R,U,λae=>aw (CM x ae)⟩)
theorem az.keep {bh:Nat->Prop} (aZ:∀b,F b->bh b):∀n,(∀(d:j) (v:Value) (cS:Nat->Prop),SizeOf.sizeOf d<=n->(∀x∈d.J,wL s aq x d.sC)->az w F s an d v cS->az w bh aq an d v cS)/\
  (∀(ds:acj) (vs:ach),SizeOf.sizeOf ds<=n->(∀x∈j.dG ds,wL s aq x (j.wK ds))->cJ w F s an ds vs->cJ w bh aq an ds vs):=by
 intro n;induction n with
 |zero=>
  refine⟨λd v cS bD=>?_,λds vs bD=>?_⟩
  .cases d<;>simp at bD<;>omega
  .cases ds<;>simp at bD<;>omega
 |succ n ih=>
  refine⟨λd v cS bD ak h=>?_,λds vs bD ak h=>?_⟩
  .cases d with
   |hole=>rw[az];trivial
   |h x q=>
    rw[az]at h⊢;intro e ef ai;rcases ak x (by simp[j.J])with he|he|⟨Iw,QD,wM⟩
    .rw[he]at ef⊢;exact h e ef ai
    .rw[he]at ef;cases q with
     |nil=>simp only[j.sub,Option.some.injEq]at ef;subst ef;simp[j.plain]at ai
     |cons k q=>simp[j.sub]at ef
    .cases q with
     |nil=>
      simp only[j.sub,Option.some.injEq]at ef;subst ef;obtain⟨cn,a0,e0,f_,gA⟩:=h (s x) (by simp only[j.sub]) (sy Iw).1;simp only[cM,Option.some.injEq,Prod.mk.injEq,true_and]at e0;exact⟨bZ (an x),none,by simp only[cM],by rw[f_,<-e0.1],((sy QD).2.2.2.2.2 _).2 (((sy Iw).2.2.2.2.2 _).1 gA)⟩
     |cons k q=>exact(wM (by simp[j.sC])).elim
   |ai x q=>
    rw[az]at h⊢;intro e ef aj;rcases ak x (by simp[j.J])with he|he|⟨_,_,wM⟩
    .rw[he]at ef aj⊢;exact h e ef aj
    .rw[he]at aj;cases q<;>simp[j.eP]at aj
    .exact(wM (by simp[j.sC])).elim
   |I x k=>
    rw[az]at h⊢;intro ai;rcases ak x (by simp[j.J])with he|he|⟨_,_,wM⟩
    rotate_left 2
    .exact(wM (by simp[j.sC])).elim
    .rw[he]at ai;obtain⟨b,cur,e,fr,R,U,aw,aQ⟩:=h ai;exact⟨b,cur,e,fr,R,aZ b U,aw,aQ⟩
    .rw[he]at ai;simp[j.plain]at ai
   |fn f cap=>
    rw[az]at h⊢;obtain⟨arr,rfl,aj⟩:=h;exact⟨arr,rfl,ih.2 _ _ (by simp at bD;omega) (by simpa [j.J,j.sC]using ak) aj⟩
   |_=>
    have bC:=(az.b8 rfl).1 h;exact(az.b8 rfl).2 ⟨bC.1,al.mono aZ _ _ _ _ (λ_ h=>h) bC.2⟩
  .cases ds with
   |nil=>rw[cJ]at h⊢;exact h
   |cons d ds=>
    rw[cJ]at h⊢;obtain⟨v,eg,rfl,R,U⟩:=h;simp at bD;simp only[j.dG,List.mem_append]at ak;exact⟨v,eg,rfl,ih.1 _ _ _ (by omega) (λx ae=>(ak x (.inl ae)).less λu hu=>by simp[j.wK,hu]) R,ih.2 _ _ (by omega) (λx ae=>(ak x (.inr ae)).less λu hu=>by simp[j.wK,hu]) U⟩
def uo (s:ag) (l:aci):Prop:=
 ∀p∈l,p.2=s p.1\/((s p.1).tree=true/\ew (s p.1) p.2/\∀cm∈l,p.1∉cm.2.J\/((s p.1).own=true/\p.2.own=true/\p.1∉cm.2.sC))
theorem CN:∀(l:aci) (t:Nat),ah l t= .hole\/∃p∈l,p.1=t/\ah l t=p.2:=by
 intro l;induction l with
 |nil=>intro t;exact .inl rfl
 |cons p l ih=>
  intro t;obtain⟨u,d⟩:=p;simp only[ah];split
  .rename_i e;exact .inr ⟨(u,d),by simp,e.symm,rfl⟩
  .rcases ih t with h|⟨p,ai,h⟩
   .exact .inl h
   .exact .inr ⟨p,by simp[ai],h⟩
theorem bm.QE (h:bm w0 F0 X F S s an w) {l:aci} (hw:uo s l):∃bh aG,bm w0 F0 X bh aG (ah l) an w:=by
 have each:∀t,∃g_ ha:Nat->Prop,(∀b,g_ b->S t b)/\(∀b,ha b->S t b)/\(∀b,ha b->¬g_ b)/\∀bh,(∀b,F b\/g_ b->bh b)->az w bh (ah l) an (ah l t) (an t) ha:=by
  intro t;rcases CN l t with e|⟨p,ai,rfl,e⟩
  .exact⟨λ_=>False,λ_=>False,λ_ h=>h.elim,λ_ h=>h.elim,λ_ h=>h.elim,λbh _=>by rw[e,az];trivial⟩
  .rw[e];rcases hw p ai with ak|⟨aK,jN,_⟩
   .refine⟨λ_=>False,S p.1,λ_ h=>h.elim,λ_ h=>h,λ_ _ h=>h,λbh aZ=>?_⟩;rw[ak];refine(az.keep (λb I=>aZ b (.inl I)) (SizeOf.sizeOf (s p.1))).1 _ _ _ (Nat.le_refl _) ?_ (h.cz p.1);intro x ae;rcases CN l x with fH|⟨cm,dF,rfl,fH⟩
    .exact .inr (.inl fH)
    .rcases hw cm dF with iM|⟨_,_,ic⟩
     .exact .inl (fH.trans iM)
     .rcases ic p ai with ic|⟨k9,mj,y5⟩
      .exact(ic (by rw[ak];exact ae)).elim
      .exact .inr (.inr ⟨k9,by rw[fH];exact mj,by rw[ak]at y5;exact y5⟩)
   .obtain⟨g1,g2⟩:=(az.b8 aK).1 (h.cz p.1);obtain⟨g_,ha,bO,b1,cX,cT⟩:=al.wider jN g2;exact⟨g_,ha,bO,b1,cX,λbh aZ=>(az.b8 (jN.tree aK)).2 ⟨jN.cU g1,cT bh aZ⟩⟩
 have bK:=λt=>(each t).choose_spec;let g_:=λt=>(each t).choose
 have bJ:=λt=>(bK t).choose_spec;let ha:=λt=>(bK t).choose
 have eR:∀t b,g_ t b->S t b:=λt=>(bJ t).1;have eu:∀t b,ha t b->S t b:=λt=>(bJ t).2.1;have ga:∀t b,ha t b->¬g_ t b:=λt=>(bJ t).2.2.1;have fS:=λt=>(bJ t).2.2.2;refine⟨λb=>F b\/∃t,g_ t b,ha,λb I=>.inl (h.ff b I),?_,?_,λt b I=>h.dt t b (eu t b I),?_,λt u b c9 I hu=>h.dW t u b c9 (eu t b I) (eu u b hu),λt b I=>h.cS t b (eu t b I),?_,h.old,h.size,h.os,h.tape,h.output,h.fu⟩
 .rintro b (I|⟨t,I⟩)
  .exact h.fI b I
  .exact .inr (h.cS t b (eR t b I))
 .rintro b (I|⟨t,I⟩)
  .exact h.dP b I
  .exact h.dt t b (eR t b I)
 .rintro t b I (bf|⟨u,hu⟩)
  .exact h.eh t b (eu t b I) bf
  .by_cases e:t=u
   .subst e;exact ga t b I hu
   .exact h.dW t u b e (eu t b I) (eR u b hu)
 .intro t;exact fS t _ (λb I=>I.imp id λh=>⟨t,h⟩)
end
inductive aI where
 |skip
 |dJ (ros:List bn) (keep:Option ace)
 |iZ (ros:List bn) (oq:acb) (keep:Option ace)
 |seq (a b:aI)
 |cond (c:aR) (a b:aI)
 |block (id:Nat) (b:aI)
 |loop (b:aI)
 |exit (id:Nat)
 |ret
 |fM (T:(Exit->ag->Prop)->ag->Prop) (b:aI)
 |raw (c:Code)
def eI (n:Fr):Code->Option aI
 | .skip=>some .skip
 | .region id ops false=>match jC n ops ops.toList with
   |some r=>some (.dJ r none)
   |none=>some (.raw (.region id ops false))
 | .region _ ops true=>if wI (nN ops)=true then(jC n ops ops.toList).map λr=>.iZ r (nN ops) none else none
 | .seq a b=>match eI n a,eI n b with
   |some a,some b=>some (.seq a b)
   |_,_=>none
 | .cond c a b=>match c2 c,eI n a,eI n b with
   |some c,some a,some b=>some (.cond c a b)
   |_,_,_=>none
 | .block id b=>(eI n b).map (.block id)
 | .loop b=>(eI n b).map .loop
 | .exit id=>some (.exit id)
 | .ret=>some .ret
 |_=>none
def aI.kL:aI->aI
 | .dJ ros _=>.dJ ros none
 | .iZ ros ey _=>.iZ ros ey none
 | .seq a b=>.seq a.kL b.kL
 | .cond c a b=>.cond c a.kL b.kL
 | .block id b=>.block id b.kL
 | .loop b=>.loop b.kL
 | .fM T b=>.fM T b.kL
 |c=>c
def aI.strip:aI->aI
 | .dJ ros _=>.dJ (ros.map bn.un) none
 | .iZ ros ey _=>.iZ (ros.map bn.un) ey none
 | .seq a b=>.seq a.strip b.strip
 | .cond c a b=>.cond c a.strip b.strip
 | .block id b=>.block id b.strip
 | .loop b=>.loop b.strip
 | .fM _ b=>b.strip
 |c=>c
theorem aI.wN:∀c:aI,c.kL.strip=c.strip:=by
 intro c;induction c with
 |seq a b i1 i6=>simp only[aI.kL,aI.strip,i1,i6]
 |cond c a b i1 i6=>simp only[aI.kL,aI.strip,i1,i6]
 |block id b ih=>simp only[aI.kL,aI.strip,ih]
 |loop b ih=>simp only[aI.kL,aI.strip,ih]
 |fM T b ih=>simp only[aI.kL,aI.strip,ih]
 |_=>rfl
def aI.bare (H:((Exit->ag->Prop)->ag->Prop)->aI->Prop):aI->Prop
 | .dJ _ k=>k=none
 | .iZ _ _ k=>k=none
 | .seq a b=>a.bare H/\b.bare H
 | .cond _ a b=>a.bare H/\b.bare H
 | .block _ b=>b.bare H
 | .loop b=>b.bare H
 | .fM T b=>H T b
 |_=>True
def aI.kc (H:((Exit->ag->Prop)->ag->Prop)->aI->Prop):aI->Prop
 | .seq a b=>a.kc H/\b.kc H
 | .cond _ a b=>a.kc H/\b.kc H
 | .block _ b=>b.kc H
 | .loop b=>b.kc H
 | .fM T b=>H T b.kL
 |_=>True
theorem aI.wO {H:((Exit->ag->Prop)->ag->Prop)->aI->Prop}:∀c:aI,c.kc H->c.kL.bare H:=by
 intro c;induction c with
 |seq a b i1 i6=>intro h;exact⟨i1 h.1,i6 h.2⟩
 |cond c a b i1 i6=>intro h;exact⟨i1 h.1,i6 h.2⟩
 |block id b ih=>intro h;exact ih h
 |loop b ih=>intro h;exact ih h
 |dJ=>intro _;rfl
 |iZ=>intro _;rfl
 |fM T b _=>intro h;exact h
 |_=>intro _;trivial
def aI.plain:aI->Bool
 | .seq a b=>a.plain&&b.plain
 | .cond _ a b=>a.plain&&b.plain
 | .block _ b=>b.plain
 | .loop b=>b.plain
 | .fM _ _=>false
 |_=>true
theorem aI.QF {H:((Exit->ag->Prop)->ag->Prop)->aI->Prop}:∀c:aI,c.plain=true->c.kc H:=by
 intro c;induction c with
 |seq a b i1 i6=>intro h;simp only[aI.plain,Bool.and_eq_true]at h;exact⟨i1 h.1,i6 h.2⟩
 |cond c a b i1 i6=>intro h;simp only[aI.plain,Bool.and_eq_true]at h;exact⟨i1 h.1,i6 h.2⟩
 |block id b ih=>intro h;exact ih h
 |loop b ih=>intro h;exact ih h
 |fM T b _=>intro h;cases h
 |_=>intro _;trivial
def andThen (K:ag->Prop) (Q:Exit->ag->Prop):Exit->ag->Prop
 | .normal,s=>K s
 |e,s=>Q e s
def uq (id:Nat) (Q:Exit->ag->Prop):Exit->ag->Prop
 | .exit i,s=>if i=id then Q .normal s else Q (.exit i) s
 |e,s=>Q e s
def c1 (K:ag->Prop) (s:ag):Prop:=K s\/∃l,uo s l/\K (ah l)
def wP:Option ace->(ag->Prop)->ag->Prop
 |none,K,s=>c1 K s
 |some k,K,s=>K (ah (k.map λt=>(t,s t)))
def bw (C:bz):aI->(Exit->ag->Prop)->ag->Prop
 | .skip,Q,s=>Q .normal s
 | .dJ ros keep,Q,s=>hp C s ros (wP keep (Q .normal))
 | .iZ ros oq keep,Q,s=>∀l,CI oq l->iY C ros s l (wP keep (Q .normal))
 | .seq a b,Q,s=>bw C a (andThen (c1 (bw C b Q)) Q) s
 | .cond c a b,Q,s=>match a7 s c with
   | .bool eA=>if eA=true then bw C a Q s else bw C b Q s
   | .eT=>bw C a Q s/\bw C b Q s
   |_=>False
 | .block id b,Q,s=>bw C b (uq id Q) s
 | .loop b,Q,s=>c1 (λs=>∀Z:ag->Prop,(∀aq,bw C b (andThen (c1 Z) Q) aq->Z aq)->Z s) s
 | .exit id,Q,s=>Q (.exit id) s
 | .ret,Q,s=>Q .ret s
 | .fM T _,Q,s=>∀dy:Exit->ag->Prop,(∀e s,Q e s->dy e s)->T dy s
 | .raw _,_,_=>False
section
variable {C:bz}
theorem CO {s:ag} {o:bn} {K cN:ag->Prop} (h:k_ C s o K) (ak:∀s,K s->cN s):k_ C s o cN:=by
 unfold k_ at h⊢;split
 .rename_i bo;rw[bo]at h;exact y_ h λav s1=>ak _
 .rename_i t b bo;rw[bo]at h;simp only at h;split
  .rename_i eA J;rw[J]at h;simp only at h;split
   .rename_i I;rw[if_pos I]at h;exact y_ h λav s1=>ak _
   .rename_i I;rw[if_neg I]at h;exact ak _ h
  .rename_i J;rw[J]at h;exact ak _ h
  .rename_i R U;split at h
   .exact R _ (by assumption)
   .exact U (by assumption)
   .exact h
theorem Ix {K cN:ag->Prop} (ak:∀s,K s->cN s):∀{ros:List bn} {s:ag},hp C s ros K->hp C s ros cN:=by
 intro ros;induction ros with
 |nil=>intro s h;exact ak s h
 |cons o ros ih=>intro s h;exact CO h λs h=>ih h
theorem Iy {ros:List bn} {K cN:ag->Prop} (ak:∀s,K s->cN s):∀{l:ace} {s:ag},iY C ros s l K->iY C ros s l cN:=by
 intro l;induction l with
 |nil=>intro s h;exact ak s h
 |cons i l ih=>
  intro s h;simp only[iY]at h⊢;split
  .rename_i a_;rw[a_]at h;exact ih h
  .rename_i o a_;rw[a_]at h;exact CO h λs h=>ih h
theorem qf {K cN:ag->Prop} (ak:∀s,K s->cN s) (s:ag) (h:c1 K s):c1 cN s:=
 h.imp (ak s) λ⟨l,R,U⟩=>⟨l,R,ak _ U⟩
theorem Iz {keep:Option ace} {K cN:ag->Prop} (ak:∀s,K s->cN s) (s:ag) (h:wP keep K s):wP keep cN s:=by
 cases keep with
 |none=>exact qf ak s h
 |some k=>exact ak _ h
theorem IA {keep:Option ace} {K:ag->Prop} {s:ag} (h:wP keep K s):c1 K s:=by
 cases keep with
 |none=>exact h
 |some k=>
  refine .inr ⟨_,?_,h⟩;intro p ai;obtain⟨t,_,rfl⟩:=List.mem_map.1 ai;exact .inl rfl
theorem CP {K cN:ag->Prop} {Q dy:Exit->ag->Prop} (ak:∀s,K s->cN s) (cb:∀e s,Q e s->dy e s):∀e s,andThen K Q e s->andThen cN dy e s:=by
 intro e s h;cases e with
 |normal=>exact ak s h
 |_=>exact cb _ s h
theorem IB:∀(c:aI) {Q dy:Exit->ag->Prop} {s:ag},(∀e s,Q e s->dy e s)->bw C c Q s->bw C c dy s:=by
 intro c;induction c with
 |skip=>intro Q dy s cb h;exact cb _ _ h
 |dJ ros keep=>intro Q dy s cb h;exact Ix (Iz (cb _)) h
 |iZ ros oq keep=>intro Q dy s cb h l hl;exact Iy (Iz (cb _)) (h l hl)
 |seq a b i1 i6=>
  intro Q dy s cb h;exact i1 (CP (λs h=>qf (λ_ h=>i6 cb h) s h) cb) h
 |cond c a b i1 i6=>
  intro Q dy s cb h;simp only[bw]at h⊢;split
  .rename_i eA I;rw[I]at h;simp only at h;split
   .rename_i e;rw[if_pos e]at h;exact i1 cb h
   .rename_i e;rw[if_neg e]at h;exact i6 cb h
  .rename_i I;rw[I]at h;exact⟨i1 cb h.1,i6 cb h.2⟩
  .rename_i R U;split at h
   .exact R _ (by assumption)
   .exact U (by assumption)
   .exact h
 |block id b ih=>
  intro Q dy s cb h;refine ih ?_ h;intro e s h;cases e with
  |exit i=>
   simp only[uq]at h⊢;split
   .rename_i e;rw[if_pos e]at h;exact cb _ _ h
   .rename_i e;rw[if_neg e]at h;exact cb _ _ h
  |_=>exact cb _ _ h
 |loop b ih=>
  intro Q dy s cb h;refine qf (λs h Z ur=>?_) s h;exact h Z λaq fV=>ur aq (ih (CP (λ_ h=>h) cb) fV)
 |exit id=>intro Q dy s cb h;exact cb _ _ h
 |ret=>intro Q dy s cb h;exact cb _ _ h
 |fM T b _=>intro Q dy s cb h QG U;exact h QG λe s he=>U e s (cb e s he)
 |raw c=>intro Q dy s cb h;exact h
theorem wQ:∀(c:aI) {Q:Exit->ag->Prop} {s:ag},bw C c Q s->bw C c.kL Q s:=by
 intro c;induction c with
 |dJ ros keep=>intro Q s h;exact Ix (λs h=>IA h) h
 |iZ ros ey keep=>intro Q s h l hl;exact Iy (λs h=>IA h) (h l hl)
 |seq a b i1 i6=>intro Q s h;exact i1 (IB a (CP (λs h=>qf (λ_ h=>i6 h) s h) (λ_ _ h=>h)) h)
 |cond c a b i1 i6=>
  intro Q s h;simp only[aI.kL,bw]at h⊢;split
  .rename_i eA I;rw[I]at h;simp only at h;split
   .rename_i e;rw[if_pos e]at h;exact i1 h
   .rename_i e;rw[if_neg e]at h;exact i6 h
  .rename_i I;rw[I]at h;exact⟨i1 h.1,i6 h.2⟩
  .rename_i R U;split at h
   .exact R _ (by assumption)
   .exact U (by assumption)
   .exact h
 |block id b ih=>intro Q s h;exact ih h
 |loop b ih=>
  intro Q s h;refine qf (λs h Z ur=>?_) s h;exact h Z λaq fV=>ur aq (ih fV)
 |fM T b _=>intro Q s h;exact h
 |_=>intro Q s h;exact h
variable {w0 w:World} {F0 X:Nat->Prop} {n:Fr} {ρ:Nat->Value} {s:ag} {a:Act}
def mQ (w0:World) (F0 X:Nat->Prop) (n:Fr) (ρ:Nat->Value) (Q:Exit->ag->Prop):Exit->Act->World->Prop:=λe a w=>∃s,Q e s/\Rel w0 F0 X n ρ s a w
theorem Rel.c1 {K:ag->Prop} {s:ag} {a:Act} {w:World} (aD:Rel w0 F0 X n ρ s a w) (h:c1 K s):∃aq,K aq/\Rel w0 F0 X n ρ aq a w:=by
 rcases h with h|⟨l,R,U⟩
 .exact⟨s,h,aD⟩
 .obtain⟨g1,g2,g3,F,S,g4⟩:=aD;obtain⟨bh,aG,g5⟩:=g4.QE R;exact⟨ah l,U,g1,g2,g3,bh,aG,g5⟩
theorem aI.QH {c:aI} (h:c.strip= .skip):c= .skip\/∃T b,c= .fM T b:=by cases c<;>first|exact .inl rfl|exact .inr ⟨_,_,rfl⟩|cases h
theorem aI.QI {c:aI} (h:c.strip= .ret):c= .ret\/∃T b,c= .fM T b:=by cases c<;>first|exact .inl rfl|exact .inr ⟨_,_,rfl⟩|cases h
theorem aI.QJ {c:aI} {i:Nat} (h:c.strip= .exit i):c= .exit i\/∃T b,c= .fM T b:=by cases c<;>first|exact .inl h|exact .inr ⟨_,_,rfl⟩|cases h
theorem aI.QK {c:aI} {x:Code} (h:c.strip= .raw x):c= .raw x\/∃T b,c= .fM T b:=by cases c<;>first|exact .inl h|exact .inr ⟨_,_,rfl⟩|cases h
theorem aI.QL {c:aI} {r:List bn} {k:Option ace} (h:c.strip= .dJ r k):(∃ros cO,c= .dJ ros cO/\ros.map bn.un=r)\/∃T b,c= .fM T b:=by
 cases c<;>first|(cases h;exact .inl ⟨_,_,rfl,rfl⟩)|exact .inr ⟨_,_,rfl⟩|cases h
theorem aI.QM {c:aI} {r:List bn} {ey:acb} {k:Option ace} (h:c.strip= .iZ r ey k):(∃ros IC cO,c= .iZ ros IC cO/\ros.map bn.un=r/\IC=ey)\/∃T b,c= .fM T b:=by
 cases c<;>first|(cases h;exact .inl ⟨_,_,_,rfl,rfl,rfl⟩)|exact .inr ⟨_,_,rfl⟩|cases h
theorem aI.QN {c x y:aI} (h:c.strip= .seq x y):(∃a b,c= .seq a b/\a.strip=x/\b.strip=y)\/∃T b,c= .fM T b:=by
 cases c<;>first|(cases h;exact .inl ⟨_,_,rfl,rfl,rfl⟩)|exact .inr ⟨_,_,rfl⟩|cases h
theorem aI.QO {c x y:aI} {o:aR} (h:c.strip= .cond o x y):(∃iW a b,c= .cond iW a b/\iW=o/\a.strip=x/\b.strip=y)\/∃T b,c= .fM T b:=by
 cases c<;>first|(cases h;exact .inl ⟨_,_,_,rfl,rfl,rfl,rfl⟩)|exact .inr ⟨_,_,rfl⟩|cases h
theorem aI.QP {c x:aI} {i:Nat} (h:c.strip= .block i x):(∃a,c= .block i a/\a.strip=x)\/∃T b,c= .fM T b:=by
 cases c<;>first|(cases h;exact .inl ⟨_,rfl,rfl⟩)|exact .inr ⟨_,_,rfl⟩|cases h
theorem aI.QQ {c x:aI} (h:c.strip= .loop x):(∃a,c= .loop a/\a.strip=x)\/∃T b,c= .fM T b:=by
 cases c<;>first|(cases h;exact .inl ⟨_,rfl,rfl⟩)|exact .inr ⟨_,_,rfl⟩|cases h
def q9:Code->List (Array Oper)
 | .region _ ops _=>[ops]
 | .seq a b=>q9 a++q9 b
 | .cond _ a b=>q9 a++q9 b
 | .block _ b=>q9 b
 | .loop b=>q9 b
 |_=>[]
theorem QR (a1:C.du) {H:((Exit->ag->Prop)->ag->Prop)->aI->Prop} {kJ:List (Array Oper)}
  (lb:∀(c:Code) (T:(Exit->ag->Prop)->ag->Prop) (b:aI) (Q:Exit->ag->Prop) (s:ag) (a:Act) (w:World),(∀r∈q9 c,r∈kJ)->H T b->eI n c=some b.strip->T Q s->Rel w0 F0 X n ρ s a w->c.wp C.P (mQ w0 F0 X n ρ Q) a w):
  ∀(c:Code) {df:aI} {Q:Exit->ag->Prop} {s:ag} {a:Act} {w:World},(∀r∈q9 c,r∈kJ)->eI n c=some df.strip->df.bare H->bw C df Q s->Rel w0 F0 X n ρ s a w->c.wp C.P (mQ w0 F0 X n ρ Q) a w:=by
 intro c;induction c with
 |skip=>
  intro df Q s a w e7 J gb h aD;have hY:=J;simp only[eI,Option.some.injEq]at J;rcases aI.QH J.symm with rfl|⟨T,b,rfl⟩
  .exact wp_skip ⟨s,h,aD⟩
  .exact lb _ T b Q s a w e7 gb (by simpa only[aI.strip]using hY) (h Q λ_ _ h=>h) aD
 |region id ops draw=>
  intro df Q s a w e7 J gb h aD;have hY:=J;cases draw with
  |false=>
   simp only[eI]at J;split at J
   rotate_left
   .have fV:=(Option.some.injEq _ _▸J).symm;rcases aI.QK fV with rfl|⟨T,b,rfl⟩
    .exact h.elim
    .exact lb _ T b Q s a w e7 gb (by simpa only[aI.strip]using hY) (h Q λ_ _ h=>h) aD
   rename_i QS qg;simp only[Option.some.injEq]at J;rcases aI.QL J.symm with⟨ros,k,rfl,rfl⟩|⟨T,b,rfl⟩
   rotate_left
   .exact lb _ T b Q s a w e7 gb (by simpa only[aI.strip]using hY) (h Q λ_ _ h=>h) aD
   cases gb;exact Io a1 qg (λaq bG au ak c3=>c3.c1 ak) h aD
  |true=>
   simp only[eI]at J;split at J
   .rename_i I;simp only[Option.map_eq_some_iff]at J;obtain⟨QS,qg,J⟩:=J;rcases aI.QM J.symm with⟨ros,ey,k,rfl,rfl,rfl⟩|⟨T,b,rfl⟩
    rotate_left
    .exact lb _ T b Q s a w e7 gb (by simpa only[aI.strip]using hY) (h Q λ_ _ h=>h) aD
    cases gb;refine wp_region_draw λt=>?_;rw[show Region.schedule (C.P.follows .mixedOrders) ops t=Region.linearise .any ops t by simp[Region.schedule,a1.mixed]];exact Im a1 qg (λaq bG au ak c3=>c3.c1 ak) _ s a _ (h _ (QA I t)) (aD.drawn _ (by first|exact le_succ _|exact le_add_right _ _|omega))
   .cases J
 |seq x y QT zf=>
  intro df Q s a w e7 J gb h aD;have hY:=J;simp only[eI]at J;split at J
  .rename_i wq QU ae a6;simp only[Option.some.injEq]at J;rcases aI.QN J.symm with⟨cy,j6,rfl,rfl,rfl⟩|⟨T,b,rfl⟩
   rotate_left
   .exact lb _ T b Q s a w e7 gb (by simpa only[aI.strip]using hY) (h Q λ_ _ h=>h) aD
   refine wp_seq (wp_mono (QT (λr aD=>e7 r (List.mem_append.2 (.inl aD))) ae gb.1 h aD) ?_);rintro e bG au ⟨aq,bC,c3⟩;cases e with
   |normal=>
    obtain⟨aq,bC,c3⟩:=c3.c1 bC;exact zf (λr aD=>e7 r (List.mem_append.2 (.inr aD))) a6 gb.2 bC c3
   |_=>exact⟨aq,bC,c3⟩
  .cases J
 |cond x y z zf ID=>
  intro df Q s a w e7 J gb h aD;have hY:=J;simp only[eI]at J;split at J
  .rename_i wq QU sz ae a6 bD;simp only[Option.some.injEq]at J;rcases aI.QO J.symm with⟨cy,j6,o3,rfl,rfl,rfl,rfl⟩|⟨T,b,rfl⟩
   rotate_left
   .exact lb _ T b Q s a w e7 gb (by simpa only[aI.strip]using hY) (h Q λ_ _ h=>h) aD
   have c3:=aD;obtain⟨ad,dm,bf,F,S,hrel⟩:=c3;have aE:=(eB (a:=a) hrel (λ_=>rfl) ae).2;simp only[bw]at h;split at h
   .rename_i eA I;rw[I]at aE;have:=qX aE;refine wp_cond this ?_;split
    .rename_i e;rw[if_pos e]at h;exact zf (λr aD=>e7 r (List.mem_append.2 (.inl aD))) a6 gb.1 h aD
    .rename_i e;rw[if_neg e]at h;exact ID (λr aD=>e7 r (List.mem_append.2 (.inr aD))) bD gb.2 h aD
   .rename_i I;rw[I]at aE;obtain⟨eA,hS⟩:=G1 aE;refine wp_cond hS ?_;split
    .exact zf (λr aD=>e7 r (List.mem_append.2 (.inl aD))) a6 gb.1 h.1 aD
    .exact ID (λr aD=>e7 r (List.mem_append.2 (.inr aD))) bD gb.2 h.2 aD
   .exact h.elim
  .cases J
 |block id b ih=>
  intro df Q s a w e7 J gb h aD;have hY:=J;simp only[eI,Option.map_eq_some_iff]at J;obtain⟨yT,I,J⟩:=J;rcases aI.QP J.symm with⟨eA,rfl,rfl⟩|⟨T,b,rfl⟩
  rotate_left
  .exact lb _ T b Q s a w e7 gb (by simpa only[aI.strip]using hY) (h Q λ_ _ h=>h) aD
  refine wp_block (wp_mono (ih e7 I gb h aD) ?_);rintro e bG au ⟨aq,bC,c3⟩;cases e with
  |exit i=>
   simp only[uq]at bC;simp only[Exit.inBlock];split
   .rename_i e;rw[if_pos e]at bC;exact⟨aq,bC,c3⟩
   .rename_i e;rw[if_neg e]at bC;exact⟨aq,bC,c3⟩
  |_=>exact⟨aq,bC,c3⟩
 |loop b ih=>
  intro df Q s a w e7 J gb h aD;have hY:=J;simp only[eI,Option.map_eq_some_iff]at J;obtain⟨yT,I,J⟩:=J;rcases aI.QQ J.symm with⟨eA,rfl,rfl⟩|⟨T,b,rfl⟩
  rotate_left
  .exact lb _ T b Q s a w e7 gb (by simpa only[aI.strip]using hY) (h Q λ_ _ h=>h) aD
  obtain⟨s,h,aD⟩:=aD.c1 h;have key:=h (λs=>∀a w,Rel w0 F0 X n ρ s a w->∀(f:Frame) (k:List Item) (cs:List Frame),∃e bG au,mQ w0 F0 X n ρ Q e bG au/\Arrives C.P (lone (f.at a (.code b:: .inLoop b::k)) cs w) f k cs e bG au) ?_
  .intro f k cs;obtain⟨e,bG,au,cb,ot⟩:=key a w aD f k cs;exact⟨e,bG,au,cb,.of_steps (.one step_loop) ot⟩
  .intro aq fV a w aD f k cs;obtain⟨e,a₁,w₁,⟨s1,cb,pn⟩,ot⟩:=ih e7 I gb fV aD f (.inLoop b::k) cs;cases e with
   |normal=>
    simp only[andThen]at cb;obtain⟨s1,cb,pn⟩:=pn.c1 cb;obtain⟨e₂,a₂,w₂,hq₂,harr₂⟩:=cb a₁ w₁ pn f k cs;exact⟨e₂,a₂,w₂,hq₂,.of_steps (Steps.trans ot (.one step_inLoop)) harr₂⟩
   |exit id=>exact⟨_,a₁,w₁,⟨s1,cb,pn⟩,.pass (x:=.inLoop b) rfl (λ_ _=>.inl (by simp)) ot⟩
   |goto l=>exact⟨_,a₁,w₁,⟨s1,cb,pn⟩,.pass (x:=.inLoop b) rfl (λ_ _=>.inl (by simp)) ot⟩
   |ret=>exact⟨_,a₁,w₁,⟨s1,cb,pn⟩,.pass (x:=.inLoop b) rfl (λ_ _=>.inl (by simp)) ot⟩
   |panic aa5=>exact⟨_,a₁,w₁,⟨s1,cb,pn⟩,.pass (x:=.inLoop b) rfl (λ_ _=>.inl (by simp)) ot⟩
   |outgrown=>exact⟨_,a₁,w₁,⟨s1,cb,pn⟩,.pass (x:=.inLoop b) rfl (λ_ _=>.inl (by simp)) ot⟩
 |exit id=>
  intro df Q s a w e7 J gb h aD;have hY:=J;simp only[eI,Option.some.injEq]at J;rcases aI.QJ J.symm with rfl|⟨T,b,rfl⟩
  .exact wp_exit ⟨s,h,aD⟩
  .exact lb _ T b Q s a w e7 gb (by simpa only[aI.strip]using hY) (h Q λ_ _ h=>h) aD
 |ret=>
  intro df Q s a w e7 J gb h aD;have hY:=J;simp only[eI,Option.some.injEq]at J;rcases aI.QI J.symm with rfl|⟨T,b,rfl⟩
  .exact wp_ret ⟨s,h,aD⟩
  .exact lb _ T b Q s a w e7 gb (by simpa only[aI.strip]using hY) (h Q λ_ _ h=>h) aD
 |_=>intro df Q s a w e7 J;simp[eI]at J
theorem wR (a1:C.du) {H:((Exit->ag->Prop)->ag->Prop)->aI->Prop}
  (lb:∀(c:Code) (T:(Exit->ag->Prop)->ag->Prop) (b:aI) (Q:Exit->ag->Prop) (s:ag) (a:Act) (w:World),H T b->eI n c=some b.strip->T Q s->Rel w0 F0 X n ρ s a w->c.wp C.P (mQ w0 F0 X n ρ Q) a w):
  ∀(c:Code) {df:aI} {Q:Exit->ag->Prop} {s:ag} {a:Act} {w:World},eI n c=some df.strip->df.bare H->bw C df Q s->Rel w0 F0 X n ρ s a w->c.wp C.P (mQ w0 F0 X n ρ Q) a w:=
 λc _ _ _ _ _ J I h aD=>QR a1 (λc T b Q s a w _ e1 J h aD=>lb c T b Q s a w e1 J h aD) c (λ_ aD=>aD) J I h aD
theorem QV (a1:C.du) (c:Code) {df:aI} {Q:Exit->ag->Prop} {s:ag} {a:Act} {w:World} (J:eI n c=some df.strip) (I:df.bare (λ_ _=>False)) (h:bw C df Q s) (aD:Rel w0 F0 X n ρ s a w):c.wp C.P (mQ w0 F0 X n ρ Q) a w:=
 wR a1 (λ_ _ _ _ _ _ _ bf=>bf.elim) c J I h aD
end
def ir:ResultVar->Nat
 | .tmp t=>t
 | .cell a _=>a
def ou (C:bz) (s:ag):ResultVar->Option j
 | .tmp t=>if(s t).tree=true then(match s t with| .tuple _=>none|d=>some d)else none
 | .cell a T=>match s a with
   | .aV d=>if fits C T d=true/\d.tree=true then some d else none
   |_=>none
def CQ (C:bz) (fx:ace) (dw:List ResultVar) (r:j) (outs:acj) (s:ag):Prop:=
 ∃ds,dw.map (ou C s)=ds.map some/\r=(match ds with|[d]=>d|ds=>.tuple ds)/\(dw.map ir).Nodup/\
  ∀(i:Nat) (o:j),outs[i]? =some o->o= .hole\/(o=s i/\o.fh=true/\i∈fx/\i∉dw.map ir)
def Ends (C:bz) (fx:ace) (dw:List ResultVar) (r:j) (outs:acj) (s:ag):Prop:=
 CQ C fx dw r outs s\/∃t y q d s1,s t= .h y q/\cr s (.h y q)=some (d,s1)/\CQ C fx dw r outs (fin s1 (some t) d)
theorem bm.takes {w0 w:World} {F0 X F:Nat->Prop} {S:Nat->Nat->Prop} {s s1:ag} {an:Nat->Value} {t y:Nat} {q:ace} {d:j} (aD:bm w0 F0 X F S s an w) (R:s t= .h y q) (U:cr s (.h y q)=some (d,s1)):
  ∃aG,bm w0 F0 X F aG (cG.fin s1 (some t) d) an w:=by
 have J:=aD.cz t;rw[R,az]at J;obtain⟨bT,k0,bO,b1,Sn,cX,cT,ev,dV,ij,_⟩:=o0 aD (av:=.h y q) (v:=an t) rfl (by rw[az];exact J) U;obtain⟨aG,bC⟩:=k0.fin (.inr ⟨bO,b1,Sn,cX,cT,ev,dV,ij⟩) (some t);refine⟨aG,?_⟩;have e:mc an (some t) (an t)=an:=by
  funext u;simp only[mc,cw];split
  .rename_i h;rw[h]
  .rfl
 rwa [e]at bC
section
variable {C:bz} {w0 w:World} {F0 X F:Nat->Prop} {S:Nat->Nat->Prop} {s:ag} {tmps:Array Value}
theorem IE {d:j} {x:Value} (ad:∀vs,d≠.tuple vs) (h:cU d x):bZ x=gM x/\hh d x:=by
 have:hh d x:=by cases d<;>first|exact h|exact(ad _ rfl).elim
 refine⟨?_,this⟩;cases d<;>first
  |(obtain⟨a,rfl⟩:=this;rfl)
  |(simp only[hh]at this
    rw[eH this];cases x<;>first|rfl|(simp[Value.ej]at this))
def wS (tmps:Array Value):ResultVar->Sem Value
 | .tmp t=>pure (tmps.getD t undef)
 | .cell a t=>do loadVar t (<-asAddr (tmps.getD a undef))
theorem QW (a1:C.du) (h:bm w0 F0 X F S s (λt=>tmps.getD t undef) w) {v:ResultVar} {d:j} (aE:ou C s v=some d):
  ∃x,(wS tmps v).run C.P w= .ok x w/\d.tree=true/\(∀vs,d≠.tuple vs)/\cU d x/\al w F d (bZ x) (S (ir v)):=by
 cases v with
 |tmp t=>
  simp only[ou]at aE;split at aE
  .rename_i aK;have mi:(∀vs,s t≠.tuple vs)/\d=s t:=by
    cases J:s t<;>rw[J]at aE<;>simp only at aE<;>first
     |(cases aE;done)
     |(simp only[Option.some.injEq]at aE;exact⟨(λ_ h=>by cases h),aE.symm⟩)
   obtain⟨mi,rfl⟩:=mi;obtain⟨g1,g2⟩:=(az.b8 aK).1 (h.cz t);exact⟨_,by simp[wS],aK,mi,g1,g2⟩
  .cases aE
 |cell a T=>
  simp only[ou]at aE;split at aE
  .rename_i e J;split at aE
   .rename_i QX;obtain⟨gX,QY⟩:=QX;simp only[Option.some.injEq]at aE;subst aE;have gZ:=h.cz a;rw[J]at gZ;obtain⟨g1,g2⟩:=(az.b8 (d:=.aV e) rfl).1 gZ;rw[eH g1,al]at g2;obtain⟨b,cur,ty,fr,aG,bO,b1,cX,cT,ev,dV,ij⟩:=g2;simp only[List.cons.injEq,and_true]at bO;have iy:gJ w b 0 cur.toList:=by
     have:=tN cX cur.size
     rwa [List.take_of_length_le (by simp)]at this
    obtain⟨x,cQ,bl,cA⟩:=yK (C:=C) a1 iy ev gX;refine⟨x,?_,QY,?_,cA,?_⟩
    .simp only[wS];rw[bO];simpa [asAddr]using cQ
    .intro vs fH;subst fH;unfold fits at gX;split at gX<;>simp_all
    .rw[bl];exact al.mono (λ_ h=>h) _ _ _ _ dV ev
   .cases aE
  .cases aE
theorem QZ (a1:C.du) (h:bm w0 F0 X F S s (λt=>tmps.getD t undef) w):∀(dw:List ResultVar) (ds:acj),dw.map (ou C s)=ds.map some->(dw.map ir).Nodup->
  ∃xs,(dw.mapM (wS tmps)).run C.P w= .ok xs w/\xs.length=ds.length/\aT w F ds (xs.flatMap gM) (λb=>∃t∈dw.map ir,S t b)/\
   ∀(k:Nat) (d:j) (x:Value),ds[k]? =some d->xs[k]? =some x->cU d x/\(∀vs,d≠.tuple vs)/\(gM x).length=d.wd/\bZ x=gM x/\d.tree=true:=by
 intro dw;induction dw with
 |nil=>
  intro ds he _;have:ds=[]:=by simpa using he.symm
  subst this;exact⟨[],by simp,rfl,by simp only[List.flatMap_nil];rw[aT],λk d x ad=>by simp at ad⟩
 |cons v dw ih=>
  intro ds he q_;cases ds with
  |nil=>simp at he
  |cons d ds=>
   simp only[List.map_cons,List.cons.injEq]at he;simp only[List.map_cons,List.nodup_cons]at q_;obtain⟨x,cQ,rt,bl,cA,cc⟩:=QW a1 h he.1;obtain⟨xs,eR,eu,ga,fS⟩:=ih ds he.2 q_.2;obtain⟨aH,aN⟩:=IE bl cA;refine⟨x::xs,by simp[List.mapM_cons,cQ,eR],by simp[eu],?_,?_⟩
   .simp only[List.flatMap_cons];rw[aT];rw[aH]at cc;refine⟨gM x,xs.flatMap gM,S (ir v),λb=>∃t∈dw.map ir,S t b,rfl,cc,ga,λb I=>⟨ir v,by simp,I⟩,?_,?_⟩
    .rintro b ⟨t,aK,I⟩;exact⟨t,by simp[aK],I⟩
    .rintro b I ⟨t,aK,hS⟩;have:t≠ir v:=λe=>q_.1 (e▸aK);exact h.dW t (ir v) b this hS I
   .intro k bd cy ad ae;cases k with
    |zero=>
     simp at ad ae;subst ad ae;refine⟨cA,bl,?_,aH,rt⟩;rw[<-aH];exact al.length _ _ _ cc
    |succ k=>exact fS k bd cy (by simpa using ad) (by simpa using ae)
theorem wT (a1:C.du) {f:FuncId} {fn:Func} {c:Code} {fx:ace} {as outs:acj} {r:j} (bf:C.P.funcs[f]? =some fn) (I:fn.body=some c)
  (i7:(fn.name== "runtime.NumGoroutine")=false) (aO:as.length<=fn.ntmps)
  {w:World} {F X:Nat->Prop} {S:Nat->Nat->Prop} {vs:ach} (hl:vs.length=as.length) (aD:bm w F X F S (eo as) (fi vs) w)
  (CR:∀a,Rel w F X ⟨fn.ntmps,fx⟩ (fi vs) (eo as) a w->(∀t,a.tmps.getD t undef=fi vs t)->c.wp C.P (mQ w F X ⟨fn.ntmps,fx⟩ (fi vs) (λe s=>(e= .normal\/e= .ret)/\c1 (Ends C fx fn.results.toList r outs) s)) a w):
  jA C.P f vs.toArray w λv au=>∃bh aG,bm w F X bh aG (eo (r::outs)) (fi (v::vs)) au:=by
 have jR:(vs.toArray++Array.replicate (fn.ntmps-vs.toArray.size) undef).size=fn.ntmps:=by simp;omega
 have dv:(λt=>(vs.toArray++Array.replicate (fn.ntmps-vs.toArray.size) undef).getD t undef)=fi vs:=by
  funext t;simp only[fi,Array.getD_eq_getD_getElem?,List.getD_eq_getElem?_getD];by_cases aK:t<vs.length
  .rw[Array.getElem?_append_left (by simpa using aK)];simp
  .rw[Array.getElem?_append_right (by simpa using aK)];rw[List.getElem?_eq_none (by omega)];simp only[Array.getElem?_replicate];split<;>rfl
 have hrel:Rel w F X ⟨fn.ntmps,fx⟩ (fi vs) (eo as) {tmps:=vs.toArray++Array.replicate (fn.ntmps-vs.toArray.size) undef,defers:=[]} w:=
  ⟨rfl,jR,λi _=>congrFun dv i,F,S,by rw[dv];exact aD⟩
 have CS:fn.name≠ "runtime.NumGoroutine" :=by simpa using i7
 refine .inl ⟨by simp[callFunc,bf,CS,I],calls_of_wp bf I (wp_mono (CR _ hrel (congrFun dv)) ?_)⟩;rintro e bG au ⟨aq,⟨he,Q0⟩,Q1⟩;obtain⟨aq,⟨ds,hA,IF,q_,r5⟩,ad,dm,gF,bh,aG,c3⟩:∃aq,CQ C fx fn.results.toList r outs aq/\Rel w F X ⟨fn.ntmps,fx⟩ (fi vs) aq bG au:=by
  obtain⟨aq,he,IG⟩:=Q1.c1 Q0;rcases he with he|⟨t,y,q,d,s1,R,U,he⟩
  .exact⟨aq,he,IG⟩
  .obtain⟨g1,g2,g3,F,S,g4⟩:=IG;obtain⟨aG,g5⟩:=g4.takes R U;exact⟨_,he,g1,g2,g3,F,aG,g5⟩
 obtain⟨xs,eR,eu,ga,fS⟩:=QZ a1 c3 _ ds hA q_;have Q2:(results fn bG.tmps)=(do let vs<-fn.results.mapM (wS bG.tmps);pure (if h:vs.size=1 then vs[0]else .tuple vs)):=by
  unfold results;congr 1
 have sb:(results fn bG.tmps).run C.P au= .ok (if h:xs.toArray.size=1 then xs.toArray[0]else .tuple xs.toArray) au:=by
  rw[Q2,Array.mapM_eq_mapM_toList];simp[eR]
 have nO:(r.tree=true/\cU r (if h:xs.toArray.size=1 then xs.toArray[0]else .tuple xs.toArray)/\
   al au bh r (bZ (if h:xs.toArray.size=1 then xs.toArray[0]else .tuple xs.toArray)) (λb=>∃t∈fn.results.toList.map ir,aG t b)):=by
  by_cases R:∃d,ds=[d]
  .obtain⟨d,rfl⟩:=R;obtain⟨x,rfl⟩:∃x,xs=[x]:=by
    cases xs with
    |nil=>simp at eu
    |cons x xs=>cases xs with
     |nil=>exact⟨x,rfl⟩
     |cons y b0=>simp at eu
   obtain⟨bO,b1,cX,cT,ev⟩:=fS 0 d x rfl rfl;have Q3:d=r:=IF.symm;subst Q3;simp only[List.flatMap_cons,List.flatMap_nil,List.append_nil]at ga;rw[aT]at ga;obtain⟨bK,bJ,bT,cI,aH,aN,aP,bQ,b_,bM⟩:=ga;rw[aT]at aP;subst aP;simp only[List.append_nil]at aH;subst aH;have ae:(if h:([x]:ach).toArray.size=1 then([x]:ach).toArray[0]else .tuple ([x]:ach).toArray)=x:=by simp
   rw[ae,cT];exact⟨ev,bO,al.mono (λ_ h=>h) _ _ _ _ bQ aN⟩
  .have wU:r= .tuple ds:=by
    rw[IF];cases ds with
    |nil=>rfl
    |cons d ds=>cases ds with
     |nil=>exact(R ⟨d,rfl⟩).elim
     |cons e ds=>rfl
   have ae:(if h:xs.toArray.size=1 then xs.toArray[0]else Value.tuple xs.toArray)= .tuple xs.toArray:=by
    rw[dif_neg];intro dm;have:ds.length=1:=by rw[<-eu];simpa using dm
    obtain⟨d,ad⟩:=List.length_eq_one_iff.1 this;exact R ⟨d,ad⟩
   rw[ae,wU];refine⟨rfl,⟨xs.toArray,rfl,by simpa using eu,λk d x ad ae=>?_⟩,?_⟩
   .obtain⟨bO,b1,cX,cT,_⟩:=fS k d x ad (by simpa using ae);exact⟨(IE b1 bO).2,b1,cX⟩
   .rw[al];simpa [bZ]using ga
 have post:∀(v:Value),(r.tree=true/\cU r v/\al au bh r (bZ v) (λb=>∃t∈fn.results.toList.map ir,aG t b))->∃q8 bT,bm w F X q8 bT (eo (r::outs)) (fi (v::vs)) au:=by
  rintro v ⟨v1,v2,v3⟩;have CT:∀i,(outs.getD i .hole).fh=true->outs.getD i .hole=aq i/\i∈fx/\i∉fn.results.toList.map ir:=by
   intro i ax;cases a_:outs[i]? with
   |none=>simp[List.getD,a_,j.fh]at ax
   |some o=>
    have e:outs.getD i .hole=o:=by simp[List.getD,a_]
    rw[e]at ax⊢;rcases r5 i o a_ with h|h
    .subst h;simp[j.fh]at ax
    .exact⟨h.1,h.2.2⟩
  refine⟨bh,λt b=>match t with|0=>∃t∈fn.results.toList.map ir,aG t b|i+1=>(outs.getD i .hole).fh=true/\aG i b,c3.ff,c3.fI,c3.dP,?_,?_,?_,?_,?_,c3.old,c3.size,c3.os,c3.tape,c3.output,aD.fu⟩
  .intro t b I;cases t with
   |zero=>obtain⟨t,_,I⟩:=I;exact c3.dt t b I
   |succ i=>exact c3.dt i b I.2
  .intro t b I;cases t with
   |zero=>obtain⟨t,_,I⟩:=I;exact c3.eh t b I
   |succ i=>exact c3.eh i b I.2
  .intro t u b c9 I hu;cases t with
   |zero=>
    obtain⟨t,aK,I⟩:=I;cases u with
    |zero=>exact c9 rfl
    |succ aB=>
     refine c3.dW t aB b (λe=>?_) I hu.2;subst e;exact(CT t hu.1).2.2 aK
   |succ i=>
    cases u with
    |zero=>
     obtain⟨t,aK,hu⟩:=hu;refine c3.dW t i b (λe=>?_) hu I.2;subst e;exact(CT t I.1).2.2 aK
    |succ aB=>exact c3.dW i aB b (by omega) I.2 hu.2
  .intro t b I;cases t with
   |zero=>obtain⟨t,_,I⟩:=I;exact c3.cS t b I
   |succ i=>exact c3.cS i b I.2
  .intro t;cases t with
   |zero=>exact(az.b8 v1).2 ⟨v2,v3⟩
   |succ i=>
    show az au bh (eo (r::outs)) (fi (v::vs)) (outs.getD i .hole) (vs.getD i undef) (λb=>(outs.getD i .hole).fh=true/\aG i b);cases ax:(outs.getD i .hole).fh with
    |false=>
     have:outs.getD i .hole= .hole:=by
      cases a_:outs[i]? with
      |none=>simp[List.getD,a_]
      |some o=>
       have e:outs.getD i .hole=o:=by simp[List.getD,a_]
       rw[e]at ax⊢;rcases r5 i o a_ with h|h
       .exact h
       .rw[h.2.1]at ax;cases ax
     rw[this,az];trivial
    |true=>
     obtain⟨k9,mj,y5⟩:=CT i ax;have aK:=(qc ax).2.1;have gZ:=c3.cz i;rw[<-k9]at gZ;obtain⟨g1,g2⟩:=(az.b8 aK).1 gZ;have aE:bG.tmps.getD i undef=vs.getD i undef:=gF i mj;rw[aE]at g1 g2;exact(az.b8 aK).2 ⟨g1,al.mono (λ_ h=>h) _ _ _ _ (λb I=>⟨rfl,I⟩) g2⟩
 rcases he with rfl|rfl
 .exact⟨ad,_,sb,_,rfl,post _ nO⟩
 .exact⟨ad,_,sb,_,rfl,post _ nO⟩
theorem bb.of_wp (a1:C.du) {f:FuncId} {fn:Func} {c:Code} {df:aI} {fx:ace} {as outs:acj} {r:j} (bf:C.P.funcs[f]? =some fn) (I:fn.body=some c)
  (i7:(fn.name== "runtime.NumGoroutine")=false) (J:eI ⟨fn.ntmps,fx⟩ c=some df.strip) (aO:as.length<=fn.ntmps)
  (h:bw C df (λe s=>(e= .normal\/e= .ret)/\c1 (Ends C fx fn.results.toList r outs) s) (eo as)) (ai:df.plain=true:=by kernel_rfl):bb C f as r outs:=
 λw F X S vs hl aD=>wT a1 bf I i7 aO hl aD λa hrel _=>QV a1 c (by rw[aI.wN];exact J) (aI.wO df (aI.QF df ai)) (wQ df h) hrel
end
def num:Nat->acj->aci
 |_,[]=>[]
 |k,a::as=>(k,a)::num (k+1) as
theorem Q4:∀(as:acj) (k t:Nat),ah (num k as) (k+t)=as.getD t .hole:=by
 intro as;induction as with
 |nil=>intro k t;simp[num,ah]
 |cons a as ih=>
  intro k t;cases t with
  |zero=>simp[num,ah]
  |succ t=>
   have:=ih (k+1) t;simp only[num,ah];rw[if_neg (by omega)];rw[show k+(t+1)=k+1+t by omega,this];simp
theorem wV (as:acj):eo as=ah (num 0 as):=by
 funext t;have:=Q4 as 0 t;rw[Nat.zero_add]at this;rw[this];rfl
theorem po (l:aci) (t:Nat) (d:j):cw (ah l) t d=ah ((t,d)::l):=by
 funext u;simp only[cw,ah]
def ov (t:Nat):aci->aci
 |[]=>[]
 |(u,d)::l=>(u,cj t d)::ov t l
def sD (t:Nat):aci->aci
 |[]=>[]
 |(u,d)::l=>(u,bU t d)::sD t l
theorem sE (t:Nat):∀l:aci,jP t (ah l)=ah (ov t l):=by
 intro l;funext u;induction l with
 |nil=>rfl
 |cons p l ih=>
  obtain⟨v,d⟩:=p;simp only[jP,ah,ov]at ih⊢;split
  .rfl
  .exact ih
theorem Q5 (t:Nat):∀l:aci,gO t (ah l)=ah (sD t l):=by
 intro l;funext u;induction l with
 |nil=>rfl
 |cons p l ih=>
  obtain⟨v,d⟩:=p;simp only[gO,ah,sD]at ih⊢;split
  .rfl
  .exact ih
def eM (k:ace) (s:ag):aci:=k.map λt=>(t,s t)
section
variable {C:bz} {l:aci}
def de.hb:de->Bool
 | .call _ _=>true
 | .gm _=>false
 | .il _=>false
 | .pick _ _ _=>false
 | .lC _=>false
 | .hj _ _=>false
 | .hi _ _=>false
 | .eD _ _ _=>false
 | .dU _ _=>false
 | .iV _ _ _=>false
 | .ig _=>false
 | .dI _ _ _ _=>false
 | .un _ _=>false
 | .hV _ _ _=>false
 | .mO _ _=>false
 | .dZ _ _ _=>false
 | .e9 _ _ _ _=>false
 | .gB _ _ _=>false
 | .hT _ _ _=>false
 | .idx _ _ _=>false
 | .ex _ _=>false
 | .lE _ _ _=>false
 | .len _ _=>false
 | .app _ _ _ _=>false
 | .shr _=>true
 | .hI _ _ _ _=>false
 | .cap _ _=>false
 | .pc _ _ _=>false
 | .bad=>false
 | .kG _ _ _=>true
 | .iA _ _=>false
 | .pd=>false
 | .hk _ _ _=>false
 | .ik _ _ _ _=>false
variable {Q:Exit->ag->Prop}
def j.wW:j->Bool
 | .tuple _=>true
 |_=>false
theorem Ends.one {fx:ace} {t:Nat} {r:j} {s:ag} (R:s t=r) (U:(r.tree&& !r.wW)=true):Ends C fx [.tmp t] r [] s:=by
 simp only[Bool.and_eq_true,Bool.not_eq_true']at U;obtain⟨U,pq⟩:=U;have aw:∀vs,r≠.tuple vs:=λvs e=>by subst e;simp[j.wW]at pq
 refine .inl ⟨[r],?_,rfl,by simp,λi o h=>by simp at h⟩;have:ou C s (.tmp t)=some r:=by
  simp only[ou,R,U,if_true];try (cases r<;>first|rfl|exact(aw _ rfl).elim)
 simp only[List.map_cons,List.map_nil,this]
end
section
variable {C:bz} {l:aci} {Q:Exit->ag->Prop}
theorem bb.outs {f:FuncId} {as:acj} {r:j} {k9 mj:acj} (h:bb C f as r k9) (he:eo k9=eo mj):bb C f as r mj:=by
 intro w F X S vs hl aD;refine jA.mono (h w F X S vs hl aD) ?_;rintro v au ⟨bh,aG,bC⟩;refine⟨bh,aG,?_⟩;have:eo (r::mj)=eo (r::k9):=by
  funext t;cases t with
  |zero=>rfl
  |succ t=>exact(congrFun he t).symm
 rw[this];exact bC
def lJ:acj->acj->List bX
 |a::as,d::ds=>⟨a,false,d,.hole⟩::lJ as ds
 |_,_=>[]
theorem Q6 {s:ag}:∀(as ds:acj),views s as=some ds->(lJ as ds).map (·.a)=as/\(lJ as ds).map (·.d)=ds/\(∀p∈lJ as ds,p.ok s/\p.g=false/\p.o= .hole/\p.a∈as)/\fL (lJ as ds)=true/\
  eo ((lJ as ds).map (·.o))=eo []/\(∀qh,dx qh (lJ as ds)=qh)/\(∀qh,eV qh (lJ as ds)=qh):=by
 intro as;induction as with
 |nil=>
  intro ds h;simp only[views,Option.some.injEq]at h;subst h;exact⟨rfl,rfl,(λp ai=>by cases ai),rfl,rfl,λ_=>rfl,λ_=>rfl⟩
 |cons a as ih=>
  intro ds h;simp only[views]at h;split at h
  .rename_i d Q7 R U;simp only[Option.some.injEq]at h;subst h;obtain⟨aH,aN,aP,bQ,b_,bM,bH⟩:=ih Q7 U;refine⟨by simp only[lJ,List.map_cons,aH],by simp only[lJ,List.map_cons,aN],?_,?_,?_,?_,?_⟩
   .intro p ai;simp only[lJ,List.mem_cons]at ai;rcases ai with rfl|ai
    .exact⟨by simp only[bX.ok];exact R,rfl,rfl,by simp⟩
    .obtain⟨g1,g2,g3,g4⟩:=aP p ai;exact⟨g1,g2,g3,by simp[g4]⟩
   .simp only[lJ,fL,bQ,Bool.and_true,List.all_eq_true];intro p ai;simp[(aP p ai).2.1]
   .funext t;cases t with
    |zero=>rfl
    |succ t=>exact(congrFun b_ t).trans (by simp[eo])
   .intro qh;exact bM qh
   .intro qh;exact bH qh
  .cases h
end
structure eF where
 bV:ace
 H:ace
 T:ace
 c:Bool
mutual
def j.clean:j->Bool
 | .hole=>false
 | .fn _ cap=>j.uu cap
 |_=>true
def j.uu:acj->Bool
 |[]=>true
 |d::ds=>d.clean&&j.uu ds
end
mutual
theorem IH {x:Nat}:∀a:j,(bU x a).clean=true->bU x a=a
 | .h y q,h=>by
   simp only[bU]at h⊢;split
   .rename_i e;rw[if_pos e]at h;split
    .rfl
    .rename_i fH;rw[if_neg fH]at h;simp[j.clean]at h
   .rfl
 | .ai y q,h=>by
   simp only[bU]at h⊢;split
   .rename_i e;rw[if_pos e]at h;simp[j.clean]at h
   .rfl
 | .I y q,h=>rfl
 | .fn f cap,h=>by simp only[bU,j.clean]at h⊢;rw[II cap h]
 | .hole,_=>rfl
 | .bool _,_=>rfl
 | .eT,_=>rfl
 | .int _ _,_=>rfl
 | .str _,_=>rfl
 | .c6,_=>rfl
 | .bc,_=>rfl
 | .slice _,_=>rfl
 | .ao _ _,_=>rfl
 | .ref _,_=>rfl
 | .aV _,_=>rfl
 | .agg _,_=>rfl
 | .tuple _,_=>rfl
 | .b3 _,_=>rfl
 | .a8 _ _,_=>rfl
 | .cH _,_=>rfl
theorem II {x:Nat}:∀ds:acj,j.uu (hH x ds)=true->hH x ds=ds
 |[],_=>rfl
 |d::ds,h=>by
  simp only[hH,j.uu,Bool.and_eq_true]at h⊢;rw[IH d h.1,II ds h.2]
end
mutual
theorem IJ {x:Nat}:∀a:j,(cj x a).clean=true->cj x a=a
 | .h y q,h=>by
   simp only[cj]at h⊢;split
   .rename_i e;rw[if_pos e]at h;simp[j.clean]at h
   .rfl
 | .ai y q,h=>by
   simp only[cj]at h⊢;split
   .rename_i e;rw[if_pos e]at h;simp[j.clean]at h
   .rfl
 | .I y q,h=>by
   simp only[cj]at h⊢;split
   .rename_i e;rw[if_pos e]at h;simp[j.clean]at h
   .rfl
 | .fn f cap,h=>by simp only[cj,j.clean]at h⊢;rw[IK cap h]
 | .hole,_=>rfl
 | .bool _,_=>rfl
 | .eT,_=>rfl
 | .int _ _,_=>rfl
 | .str _,_=>rfl
 | .c6,_=>rfl
 | .bc,_=>rfl
 | .slice _,_=>rfl
 | .ao _ _,_=>rfl
 | .ref _,_=>rfl
 | .aV _,_=>rfl
 | .agg _,_=>rfl
 | .tuple _,_=>rfl
 | .b3 _,_=>rfl
 | .a8 _ _,_=>rfl
 | .cH _,_=>rfl
theorem IK {x:Nat}:∀ds:acj,j.uu (h_ x ds)=true->h_ x ds=ds
 |[],_=>rfl
 |d::ds,h=>by
  simp only[h_,j.uu,Bool.and_eq_true]at h⊢;rw[IJ d h.1,IK ds h.2]
end
theorem Q8 {k:pe} {x:Nat} {a:j} (h:(k.app x a).clean=true):k.app x a=a:=by
 cases k with
 |no=>rfl
 |bU=>exact IH a h
 |cj=>exact IJ a h
theorem Q9:∀(ms:List fT) (u:Nat) (a:j),(∀m∈ms,m.x≠u)->(iX ms u a).clean=true->iX ms u a=a:=by
 intro ms;induction ms with
 |nil=>intros;rfl
 |cons m ms ih=>
  intro u a ae aj;simp only[iX]at aj⊢;have e:=ih u _ (λiU sF=>ae iU (by simp[sF])) aj;have hm:m.at u a=m.k.app m.x a:=by
   simp only[fT.at];rw[if_neg (λe=>ae m (by simp) e.symm)]
  rw[e,hm];rw[e,hm]at aj;exact Q8 aj
theorem Q_:∀(ms:List fT) (u:Nat) (a:j),(∀m∈ms,m.x≠u/\m.x∉a.J)->iX ms u a=a:=by
 intro ms;induction ms with
 |nil=>intros;rfl
 |cons m ms ih=>
  intro u a ae;simp only[iX];have hm:m.at u a=a:=by
   simp only[fT.at];rw[if_neg (λe=>(ae m (by simp)).1 e.symm)];exact wz (.inr (ae m (by simp)).2)
  rw[hm];exact ih u a λiU sF=>ae iU (by simp[sF])
theorem Ra (m:fT):∀(ms:List fT) (u:Nat) (a:j),(∀iU∈ms,iU.x≠m.x/\iU.x∉m.d.J/\m.x∉iU.d.J)->iX ms u (m.at u a)=m.at u (iX ms u a):=by
 intro ms;induction ms with
 |nil=>intros;rfl
 |cons n ms ih=>
  intro u a ae;simp only[iX];have aO:=ae n (by simp);have aj:n.at u (m.at u a)=m.at u (n.at u a):=by
   simp only[fT.at];by_cases aH:u=n.x
   .subst aH;rw[if_pos rfl,if_neg aO.1,if_pos rfl];exact(wz (.inr aO.2.2)).symm
   .rw[if_neg aH];by_cases aN:u=m.x
    .subst aN;rw[if_pos rfl,if_pos rfl];exact wz (.inr aO.2.1)
    .rw[if_neg aN,if_neg aH,if_neg aN];exact PC _ _ _ _ _
  rw[aj];exact ih u _ λiU sF=>ae iU (by simp[sF])
theorem Rb:∀(ms j_:List fT) (s:ag),(∀m∈ms,∀n∈j_,n.x≠m.x/\n.x∉m.d.J/\m.x∉n.d.J)->c4 j_ (c4 ms s)=c4 ms (c4 j_ s):=by
 intro ms;induction ms with
 |nil=>intros;rfl
 |cons m ms ih=>
  intro j_ s h;have e:∀s,c4 (m::ms) s=c4 ms (c4 [m] s):=λs=>lH [m] ms s;rw[e,e,ih j_ _ (λiU sF=>h iU (by simp[sF]))];congr 1;funext u;simp only[c4,iX];exact Ra m j_ u _ (h m (by simp))
def IL (C:bz) (s:ag) (f:aR) (args:List aR) (K:ace->j->ag->Prop):Prop:=
 ∃(g:FuncId) (caps:acj) (ps:List bX) (r:j),a7 s f= .fn g caps/\j.dj caps=true/\ps.map (·.a)=args.map (a7 s)++caps/\(∀p∈ps,p.ok s)/\fL ps=true/\
   bb C g (ps.map (·.d)) r (ps.map (·.o))/\r.res=true/\(gE ps=true->r.b5=true/\∀p∈ps,p.o.b5=true)/\K (j.dG ((ps.filter (·.g)).map (·.a))) r (eV (dx s ps) ps)
def mR (C:bz) (s:ag) (bq:de) (K:ace->j->ag->Prop):Prop:=
 match bq with
 | .call f args=>∃(g:FuncId) (caps:acj) (ps:List bX) (r:j),a7 s f= .fn g caps/\j.dj caps=true/\ps.map (·.a)=args.map (a7 s)++caps/\(∀p∈ps,p.ok s)/\fL ps=true/\
   bb C g (ps.map (·.d)) r (ps.map (·.o))/\r.res=true/\(gE ps=true->r.b5=true/\∀p∈ps,p.o.b5=true)/\K (j.dG ((ps.filter (·.g)).map (·.a))) r (eV (dx s ps) ps)
 | .shr bq=>∃av s1,bE C s bq=some (av,s1)/\av.tree=true/\(∀vs,av≠.tuple vs)/\K (jS s bq) av.share s1
 | .kG f args us=>kK s (iq s us)=true/\IL C s f args λcr av s1=>kK s1 (iq s us)=true/\K (us++cr) av (ml s1 (iq s us))
 |bq=>∃av s1,bE C s bq=some (av,s1)/\K (jS s bq) av s1
def hZ (s:ag) (bV:ace) (dst:Option Nat) (cr:ace) (av:j):eF:=
 ⟨bV,bV.flatMap (λu=>(s u).J)++av.J,dst.toList++cr,bV.all λu=>(s u).clean⟩
def lK (C:bz) (s:ag) (o:bn) (K:eF->ag->Prop):Prop:=
 match o.guard with
 |none=>mR C s o.bq λcr av s1=>K (hZ s (use s o.bq) o.dst cr av) (fin s1 o.dst av)
 |some (t,b)=>match s t with
  | .bool eA=>if eA=b then mR C s o.bq (λcr av s1=>K (hZ s (t::use s o.bq) o.dst cr av) (fin s1 o.dst av))else K (hZ s [t] o.dst [] (.tuple [])) (fin s o.dst (.tuple []))
  | .tuple []=>K (hZ s [t] o.dst [] (.tuple [])) (fin s o.dst (.tuple []))
  |_=>False
def pr:Option (List eF)->eF->Option (List eF)
 |none,_=>none
 |some l,f=>some (f::l)
def ch (C:bz) (s:ag):List bn->Option (List eF)->(Option (List eF)->ag->Prop)->Prop
 |[],acc,K=>K acc s
 |o::os,acc,K=>lK C s o λf s1=>ch C s1 os (pr acc f) K
section
variable {C:bz}
theorem IM {s:ag} {bq:de} {K:ace->j->ag->Prop} {cN:j->ag->Prop} (ak:∀cr av s,K cr av s->cN av s) (h:mR C s bq K):nK C s bq cN:=by
 cases bq with
 |call f args=>
  obtain⟨g,caps,ps,r,R,gd,U,aw,aQ,bk,bS,bL,da⟩:=h;exact⟨g,caps,ps,r,R,gd,U,aw,aQ,bk,bS,bL,ak _ _ _ da⟩
 |kG f args us=>
  obtain⟨b1,g,caps,ps,r,R,gd,U,aw,aQ,bk,bS,bL,da,hR⟩:=h;exact⟨b1,g,caps,ps,r,R,gd,U,aw,aQ,bk,bS,bL,da,ak _ _ _ hR⟩
 |shr bq=>
  obtain⟨av,s1,R,U,aw,aQ⟩:=h;exact⟨av,s1,R,U,aw,ak _ _ _ aQ⟩
 |_=>
  obtain⟨av,s1,R,U⟩:=h;exact⟨av,s1,R,ak _ _ _ U⟩
theorem Rc {s:ag} {o:bn} {K:eF->ag->Prop} {cN:ag->Prop} (ak:∀f s,K f s->cN s) (h:lK C s o K):k_ C s o cN:=by
 unfold lK at h;unfold k_;split
 .rename_i bo;rw[bo]at h;exact IM (λ_ _ _=>ak _ _) h
 .rename_i t b bo;rw[bo]at h;simp only at h;split
  .rename_i eA J;rw[J]at h;simp only at h;split
   .rename_i I;rw[if_pos I]at h;exact IM (λ_ _ _=>ak _ _) h
   .rename_i I;rw[if_neg I]at h;exact ak _ _ h
  .rename_i J;rw[J]at h;exact ak _ _ h
  .rename_i R U;split at h
   .exact R _ (by assumption)
   .exact U (by assumption)
   .exact h
theorem pt {K:ag->Prop}:∀{ros:List bn} {s:ag} {acc:Option (List eF)} {cN:Option (List eF)->ag->Prop},(∀a s,cN a s->K s)->ch C s ros acc cN->hp C s ros K:=by
 intro ros;induction ros with
 |nil=>intro s acc cN ak h;exact ak _ _ h
 |cons o ros ih=>intro s acc cN ak h;exact Rc (λf s h=>ih ak h) h
theorem IP {q:ace} {a d:j} (h:j.sub q a=some d) (cb:q≠[]\/d.J=[]):a.J=[]:=by
 cases q with
 |nil=>
  simp only[j.sub,Option.some.injEq]at h;subst h;exact cb.resolve_left (λe=>e rfl)
 |cons k q=>cases a<;>first|rfl|(simp[j.sub]at h)
def zg (s:ag) (p:bX) (e:j->Prop):Prop:=p.g=true->∃x q d,p.a= .h x q/\j.sub q (s x)=some d/\e d/\(p.o= .hole\/p.o.fh=true)
theorem IQ {d:j} (h:d.fh=true):d.J=[]:=H9 (qc h).2.1
theorem IU {d:j} (h:d.fh=true):d.cv.J=[]:=by cases d<;>first|rfl|(simp[j.fh]at h)
theorem IV {p:bX} {ps:List bX} (h:fL (p::ps)=true):fL ps=true/\∀cm∈ps,(p.g=true\/cm.g=true)->∀u∈p.a.J,u∉cm.a.J:=by
 simp only[fL,Bool.and_eq_true,List.all_eq_true,Bool.or_eq_true,Bool.not_eq_true']at h;refine⟨h.2,λcm dF bo u hu=>?_⟩;rcases h.1 cm dF with e|e
 .rcases bo with bo|bo<;>simp[bo]at e
 .simpa using e u hu
def qi (ps:List bX):ace:=j.dG ((ps.filter (·.g)).map (·.a))
theorem uv (p:bX) (ps:List bX):(∀u∈qi ps,u∈qi (p::ps))/\(p.g=true->∀u∈p.a.J,u∈qi (p::ps)):=by
 unfold qi;by_cases bo:p.g=true
 .simp only[List.filter_cons,bo,if_true,List.map_cons,j.dG,List.mem_append];exact⟨λu h=>.inr h,λ_ u h=>.inl h⟩
 .simp only[List.filter_cons,bo];exact⟨λu h=>h,λh=>by simp at h⟩
theorem Rd {p:bX} {ps:List bX} (h:p∈ps):∀u∈p.a.J,u∈j.dG (ps.map (·.a)):=by
 induction ps with
 |nil=>cases h
 |cons cm ps ih=>
  intro u hu;simp only[List.map_cons,j.dG,List.mem_append];rcases List.mem_cons.1 h with rfl|h
  .exact .inl hu
  .exact .inr (ih h u hu)
theorem Re:∀(ps:List bX) (s:ag),(∀p∈ps,zg s p (λd=>d=p.d/\p.d.fh=true))->fL ps=true->
  (∃ms:List fT,(∀m∈ms,m.x∈qi ps/\m.d.J=[])/\∀aq,c0 (j.dG (ps.map (·.a))) aq s->dx aq ps=c4 ms aq)/\∀p∈ps,zg (dx s ps) p (λd=>d=p.d.cv/\p.d.fh=true):=by
 intro ps;induction ps with
 |nil=>intro s _ _;exact⟨⟨[],by simp,λaq _=>rfl⟩,λp ai=>by cases ai⟩
 |cons p ps ih=>
  intro s bo jx;obtain⟨oh,nH⟩:=IV jx;by_cases lL:p.g=true
  .obtain⟨x,q,d,bx,J,⟨rfl,ad⟩,a_⟩:=bo p (by simp) lL;have js:(j.put q p.d.cv (s x)).J=[]:=uf q _ _ _ J (.inl (qc ad).1) λ_=>IU ad;have wX:∀aq:ag,aq x=s x->p.take aq=c4 [⟨.bU,x,j.put q p.d.cv (s x)⟩] aq:=by
    intro aq e;simp only[bX.take,lL,if_true,bx,e,sw]
   have c9:∀cm∈ps,∀cy iz,cm.a= .h cy iz->cy≠x:=by
    intro cm dF cy iz e fH;have:=nH cm dF (.inl lL) x (by simp[bx,j.J]);rw[e,fH]at this;simp[j.J]at this
   have q7:∀cy,cy≠x->(s cy).J=[]->c4 [⟨.bU,x,j.put q p.d.cv (s x)⟩] s cy=s cy:=by
    intro cy qY bg;simp only[c4,iX,fT.at];rw[if_neg qY];exact wz (.inr (by rw[bg];simp))
   obtain⟨⟨ms,m1,m2⟩,m3⟩:=ih (c4 [⟨.bU,x,j.put q p.d.cv (s x)⟩] s) (λcm dF CU=>by
    obtain⟨cy,iz,bd,sA,fV,fQ,wY⟩:=bo cm (by simp[dF]) CU;refine⟨cy,iz,bd,sA,?_,fQ,wY⟩;rw[q7 cy (c9 cm dF cy iz sA) (IP fV (.inr (by rw[fQ.1];exact IQ fQ.2)))];exact fV) oh
   refine⟨⟨[⟨.bU,x,j.put q p.d.cv (s x)⟩]++ms,?_,?_⟩,?_⟩
   .intro m hm;rcases List.mem_append.1 hm with hm|hm
    .simp only[List.mem_singleton]at hm;subst hm;exact⟨(uv p ps).2 lL x (by simp[bx,j.J]),js⟩
    .exact⟨(uv p ps).1 _ (m1 m hm).1,(m1 m hm).2⟩
   .intro aq fV;simp only[List.map_cons,j.dG]at fV;have e:aq x=s x:=fV x (by simp[bx,j.J]);rw[lH];show dx (p.take aq) ps=_;rw[wX aq e];exact m2 _ (c0.c4 fV.right _)
   .have aH:dx s (p::ps)=dx (c4 [⟨.bU,x,j.put q p.d.cv (s x)⟩] s) ps:=by
     show dx (p.take s) ps=_;rw[wX s rfl]
    rw[aH];intro cm dF;rcases List.mem_cons.1 dF with rfl|dF
    .intro _;refine⟨x,q,cm.d.cv,bx,?_,⟨rfl,ad⟩,a_⟩;have aE:c4 [⟨.bU,x,j.put q cm.d.cv (s x)⟩] s x=j.put q cm.d.cv (s x):=by
      simp only[c4,iX,fT.at,if_true]
     rw[Cw (by rw[aE];exact js) (λRf Rg aa6=>?_),aE]
     .exact H4 q _ _ _ J
     .exact nH Rf Rg (.inl lL) x (by simp[bx,j.J])
    .exact m3 cm dF
  .have wX:∀aq:ag,p.take aq=aq:=by intro aq;simp only[bX.take,lL];rfl
   obtain⟨⟨ms,m1,m2⟩,m3⟩:=ih s (λcm dF=>bo cm (by simp[dF])) oh;refine⟨⟨ms,λm hm=>⟨(uv p ps).1 _ (m1 m hm).1,(m1 m hm).2⟩,?_⟩,?_⟩
   .intro aq fV;simp only[List.map_cons,j.dG]at fV;show dx (p.take aq) ps=_;rw[wX];exact m2 aq fV.right
   .intro cm dF;have aH:dx s (p::ps)=dx s ps:=by show dx (p.take s) ps=_;rw[wX]
    rw[aH];rcases List.mem_cons.1 dF with rfl|dF
    .intro h;exact(lL h).elim
    .exact m3 cm dF
theorem Rh:∀(ps:List bX) (s:ag),(∀p∈ps,zg s p (λd=>d=p.d.cv/\p.d.fh=true))->fL ps=true->
  (∃ms:List fT,(∀m∈ms,m.x∈qi ps/\m.d.J=[])/\∀aq,c0 (j.dG (ps.map (·.a))) aq s->eV aq ps=c4 ms aq):=by
 intro ps;induction ps with
 |nil=>intro s _ _;exact⟨[],by simp,λaq _=>rfl⟩
 |cons p ps ih=>
  intro s bo jx;obtain⟨oh,nH⟩:=IV jx;by_cases lL:p.g=true/\p.o≠.hole
  .obtain⟨lL,Ri⟩:=lL;obtain⟨x,q,d,bx,J,⟨rfl,ad⟩,a_⟩:=bo p (by simp) lL;have a_:p.o.fh=true:=a_.resolve_left Ri;have js:(j.put q p.o (s x)).J=[]:=by
    cases q with
    |nil=>simp only[j.put];exact IQ a_
    |cons k q=>exact uf _ _ _ _ J (.inr (by simp)) (by simp)
   have CV:∀aq:ag,aq x=s x->p.ho aq=c4 [⟨.cj,x,j.put q p.o (s x)⟩] aq:=by
    intro aq e;simp only[bX.ho,lL,if_true,bx];rw[e,HK]
   have c9:∀cm∈ps,∀cy iz,cm.a= .h cy iz->cy≠x:=by
    intro cm dF cy iz e fH;have:=nH cm dF (.inl lL) x (by simp[bx,j.J]);rw[e,fH]at this;simp[j.J]at this
   obtain⟨ms,m1,m2⟩:=ih (c4 [⟨.cj,x,j.put q p.o (s x)⟩] s) (λcm dF CU=>by
    obtain⟨cy,iz,bd,sA,fV,fQ,wY⟩:=bo cm (by simp[dF]) CU;refine⟨cy,iz,bd,sA,?_,fQ,wY⟩;have bg:=IP fV (.inr (by rw[fQ.1];exact IU fQ.2));have q7:c4 [⟨.cj,x,j.put q p.o (s x)⟩] s cy=s cy:=by
     simp only[c4,iX,fT.at];rw[if_neg (c9 cm dF cy iz sA)];exact wz (.inr (by rw[bg];simp))
    rw[q7];exact fV) oh
   refine⟨[⟨.cj,x,j.put q p.o (s x)⟩]++ms,?_,?_⟩
   .intro m hm;rcases List.mem_append.1 hm with hm|hm
    .simp only[List.mem_singleton]at hm;subst hm;exact⟨(uv p ps).2 lL x (by simp[bx,j.J]),js⟩
    .exact⟨(uv p ps).1 _ (m1 m hm).1,(m1 m hm).2⟩
   .intro aq fV;simp only[List.map_cons,j.dG]at fV;have e:aq x=s x:=fV x (by simp[bx,j.J]);rw[lH];show eV (p.ho aq) ps=_;rw[CV aq e];exact m2 _ (c0.c4 fV.right _)
  .have CV:∀aq:ag,p.ho aq=aq:=by
    intro aq;unfold bX.ho;split
    .rename_i gR;have:p.o= .hole:=by
      by_cases h:p.o= .hole
      .exact h
      .exact(lL ⟨gR,h⟩).elim
     rw[this]
    .rfl
   obtain⟨ms,m1,m2⟩:=ih s (λcm dF=>bo cm (by simp[dF])) oh;refine⟨ms,λm hm=>⟨(uv p ps).1 _ (m1 m hm).1,(m1 m hm).2⟩,?_⟩;intro aq fV;simp only[List.map_cons,j.dG]at fV;show eV (p.ho aq) ps=_;rw[CV];exact m2 aq fV.right
theorem Rj {s aq:ag}:∀(a:j) (d:j),c0 a.J aq s->view s a=some d->view aq a=some d:=by
 intro a d h;have:=Cy (s:=s) (aq:=aq) a d;intro aE;cases a with
 |h x q=>simp only[view]at aE⊢;rw[h x (by simp[j.J])];exact aE
 |ai x q=>simp only[view]at aE⊢;rw[h x (by simp[j.J])];exact aE
 |fn f cap=>
  refine this (λu hu _=>h u hu) aE
 |_=>exact aE
theorem Rk {p:bX} {s aq:ag} (h:c0 p.a.J aq s) (el:p.ok s):p.ok aq:=by
 unfold bX.ok at el⊢;split
 .rename_i bo;rw[if_pos bo]at el;cases bx:p.a with
  |h x q=>
   rw[bx]at el;simp only at el⊢;rw[h x (by simp[bx,j.J])];exact el
  |_=>rw[bx]at el;exact el.elim
 .rename_i bo;rw[if_neg bo]at el;exact Rj _ _ h el
def zh (C:bz) (o:bn) (s:ag) (jU:eF) (ms:List fT):Prop:=
 (∀aq,c0 jU.bV aq s->∀K:ag->Prop,K (c4 ms aq)->k_ C aq o K)/\(∀m∈ms,m.x∈jU.T/\∀u∈m.d.J,u∈jU.H)/\(∀u∈jU.bV,∀x∈(s u).J,x∈jU.H)/\(jU.c=true->∀u∈jU.bV,(s u).clean=true)
theorem IW (dst:Option Nat) (av:j):∃ms:List fT,(∀m∈ms,m.x∈dst.toList/\m.d=av)/\∀s1:ag,fin s1 dst av=c4 ms s1:=by
 cases dst with
 |none=>exact⟨[],by simp,λs=>rfl⟩
 |some t=>
  simp only[fin];by_cases h:av.plain=true
  .exact⟨[⟨.no,t,av⟩],by simp,λs=>by rw[if_pos h,HL]⟩
  .exact⟨[⟨.cj,t,av⟩],by simp,λs=>by rw[if_neg h,HK]⟩
theorem zi {s:ag} {bV:ace} {dst:Option Nat} {cr:ace} {av:j}:(∀u∈(hZ s bV dst cr av).bV,∀x∈(s u).J,x∈(hZ s bV dst cr av).H)/\((hZ s bV dst cr av).c=true->∀u∈(hZ s bV dst cr av).bV,(s u).clean=true):=by
 refine⟨λu hu x ae=>?_,λaj=>?_⟩
 .simp only[hZ,List.mem_append,List.mem_flatMap];exact .inl ⟨u,hu,ae⟩
 .simp only[hZ,List.all_eq_true]at aj;exact aj
theorem IX {s:ag} {f:aR} {args:List aR} {K:ace->j->ag->Prop} (h:IL C s f args K):
  ∃cr av ms,K cr av (c4 ms s)/\(∀m∈ms,m.x∈cr/\m.d.J=[])/\∀aq,c0 (use s (.call f args)) aq s->∀cN:j->ag->Prop,cN av (c4 ms aq)->CD C aq f args cN:=by
 obtain⟨g,caps,ps,r,R,gd,U,aw,aQ,bk,bS,bL,da⟩:=h;have Rl:∀p∈ps,zg s p (λd=>d=p.d/\p.d.fh=true):=by
  intro p ai bo;have:=aw p ai;simp only[bX.ok,bo,if_true]at this;cases bx:p.a with
  |h x q=>rw[bx]at this;exact⟨x,q,p.d,rfl,this.1,⟨rfl,this.2.1⟩,this.2.2.imp id λh=>h.1⟩
  |_=>rw[bx]at this;exact this.elim
 obtain⟨⟨og,aa,a2⟩,a3⟩:=Re ps s Rl aQ;obtain⟨q3,ju,gQ⟩:=Rh ps (dx s ps) a3 aQ;have o_:∀u∈j.dG (ps.map (·.a)),u∈use s (.call f args):=by
  rw[U];intro u hu;simp only[use,List.mem_append];have key:∀(eQ l2:acj),u∈j.dG (eQ++l2)->u∈j.dG eQ\/u∈j.dG l2:=by
   intro eQ;induction eQ with
   |nil=>intro l2 h;exact .inr h
   |cons a eQ ih=>
    intro l2 h;simp only[List.cons_append,j.dG,List.mem_append]at h⊢;rcases h with h|h
    .exact .inl (.inl h)
    .exact(ih l2 h).imp .inr id
  rcases key _ _ hu with hu|hu
  .exact .inr (aR.y3 u hu)
  .refine .inl (aR.sx u ?_);rw[R];exact hu
 have fw:eV (dx s ps) ps=c4 (og++q3) s:=by
  rw[lH,<-a2 s (λ_ _=>rfl),gQ _ (λ_ _=>rfl)]
 refine⟨qi ps,r,og++q3,by rw[<-fw];exact da,?_,?_⟩
 .intro m hm;rcases List.mem_append.1 hm with hm|hm
  .exact aa m hm
  .exact ju m hm
 .intro aq J cN ak;have qb:c0 (j.dG (ps.map (·.a))) aq s:=J.sub o_;have bf:c0 (f.use s) aq s:=by simp only[use]at J;exact J.left
  have ae:c0 (aR.oe s args) aq s:=by simp only[use]at J;exact J.right
  have aH:eV (dx aq ps) ps=c4 (og++q3) aq:=by
   rw[lH,<-a2 aq qb,gQ];rw[a2 aq qb,a2 s (λ_ _=>rfl)];exact c0.c4 qb _
  exact⟨g,caps,ps,r,by rw[aR.eU bf];exact R,gd,by rw[aR.Cl ae];exact U,λp ai=>Rk (qb.sub (Rd ai)) (aw p ai),aQ,bk,bS,bL,by rw[aH];exact ak⟩
mutual
theorem IY {s aq:ag}:∀(d:j),c0 d.J aq s->d.eL aq=d.eL s
 | .h x q,h=>by simp only[j.eL];rw[h x (by simp[j.J])]
 | .I x q,h=>by simp only[j.eL];rw[h x (by simp[j.J])]
 | .fn f cap,h=>by simp only[j.eL];exact IZ cap (by simpa only[j.J]using h)
 | .ai _ _,_=>by simp only[j.eL]
 | .hole,_=>by simp only[j.eL]
 | .bool _,_=>by simp only[j.eL]
 | .eT,_=>by simp only[j.eL]
 | .int _ _,_=>by simp only[j.eL]
 | .str _,_=>by simp only[j.eL]
 | .c6,_=>by simp only[j.eL]
 | .bc,_=>by simp only[j.eL]
 | .slice _,_=>by simp only[j.eL]
 | .ao _ _,_=>by simp only[j.eL]
 | .ref _,_=>by simp only[j.eL]
 | .aV _,_=>by simp only[j.eL]
 | .agg _,_=>by simp only[j.eL]
 | .tuple _,_=>by simp only[j.eL]
 | .b3 _,_=>by simp only[j.eL]
 | .a8 _ _,_=>by simp only[j.eL]
 | .cH _,_=>by simp only[j.eL]
theorem IZ {s aq:ag}:∀(ds:acj),c0 (j.dG ds) aq s->j.nJ aq ds=j.nJ s ds
 |[],_=>rfl
 |d::ds,h=>by
  simp only[j.dG]at h;simp only[j.nJ];rw[IY d h.left,IZ ds h.right]
end
theorem CW {s aq:ag} {us:ace} (h:c0 (us.flatMap λu=>u::(s u).J) aq s):iq aq us=iq s us:=by
 unfold iq;refine List.map_congr_left λu hu=>?_;rw[h u (List.mem_flatMap.2 ⟨u,hu,by simp⟩)]
theorem CX {s aq:ag}:∀(L:aci),(∀p∈L,c0 p.2.J aq s)->kK aq L=kK s L
 |[],_=>rfl
 |p::L,h=>by
  simp only[kK];rw[IY p.2 (h p (by simp)),CX L (λq cb=>h q (by simp[cb]))]
theorem I0:∀(L:aci) (s:ag),ml s L=c4 (L.map λp=>⟨.no,p.1,p.2⟩) s
 |[],s=>rfl
 |p::L,s=>by
  simp only[ml,List.map_cons];rw[I0 L,HL];exact(lH [⟨.no,p.1,p.2⟩] _ s).symm
theorem Rm {s:ag} {bq:de} {K:ace->j->ag->Prop} (h:mR C s bq K):
  ∃cr av ms,K cr av (c4 ms s)/\(∀m∈ms,m.x∈cr/\∀v∈m.d.J,∃u∈use s bq,v∈(s u).J)/\∀aq,c0 (use s bq) aq s->∀cN:j->ag->Prop,cN av (c4 ms aq)->nK C aq bq cN:=by
 have plain:(∃av s1,bE C s bq=some (av,s1)/\K (jS s bq) av s1)->(∀aq (cN:j->ag->Prop) av s1,bE C aq bq=some (av,s1)->cN av s1->nK C aq bq cN)->
   ∃cr av ms,K cr av (c4 ms s)/\(∀m∈ms,m.x∈cr/\∀v∈m.d.J,∃u∈use s bq,v∈(s u).J)/\∀aq,c0 (use s bq) aq s->∀cN:j->ag->Prop,cN av (c4 ms aq)->nK C aq bq cN:=by
  rintro⟨av,s1,R,U⟩ hw;obtain⟨ms,aH,aN,aP⟩:=H0 R;subst aH;exact⟨_,av,ms,U,λm hm=>⟨(aN m hm).1,λv aE=>by rw[(aN m hm).2]at aE;cases aE⟩,λaq J cN ak=>hw aq cN av _ (aP aq J) ak⟩
 cases bq with
 |call f args=>
  obtain⟨cr,av,ms,aa,a2,a3⟩:=IX h;exact⟨cr,av,ms,aa,λm hm=>⟨(a2 m hm).1,λv aE=>by rw[(a2 m hm).2]at aE;cases aE⟩,λaq J cN ak=>a3 aq J cN ak⟩
 |kG f args us=>
  obtain⟨b1,aj⟩:=h;obtain⟨cr,av,ms,⟨aa,Rn⟩,a2,a3⟩:=IX aj;have e:∀aq:ag,ml (c4 ms aq) (iq s us)=c4 (ms++(iq s us).map λp=>⟨.no,p.1,p.2⟩) aq:=λaq=>by rw[lH,I0]
  have j5:∀{aq:ag},c0 (us.flatMap λu=>u::(s u).J) aq s->∀p∈iq s us,c0 p.2.J aq s:=λ{aq} J p ai v aE=>by
   obtain⟨u,hu,rfl⟩:=List.mem_map.1 ai;exact J v (List.mem_flatMap.2 ⟨u,hu,by simp[aE]⟩)
  refine⟨us++cr,av,ms++(iq s us).map λp=>⟨.no,p.1,p.2⟩,by rw[<-e];exact Rn,?_,?_⟩
  .intro m hm;rcases List.mem_append.1 hm with hm|hm
   .exact⟨by simp[(a2 m hm).1],λv aE=>by rw[(a2 m hm).2]at aE;cases aE⟩
   .obtain⟨p,ai,rfl⟩:=List.mem_map.1 hm;obtain⟨u,hu,rfl⟩:=List.mem_map.1 ai;exact⟨List.mem_append_left _ hu,λv aE=>⟨u,by simp only[use,List.mem_append,List.mem_flatMap];exact .inl ⟨u,hu,by simp⟩,aE⟩⟩
  .intro aq J cN ak;simp only[use]at J;refine⟨by rw[CW J.left,CX _ (j5 J.left)];exact b1,a3 aq J.right _ ⟨?_,?_⟩⟩
   .rw[CW J.left,CX _ (λp ai=>(j5 J.left p ai).c4 ms)];exact aa
   .rw[CW J.left,e];exact ak
 |shr bq=>
  obtain⟨av,s1,R,U,aw,aQ⟩:=h;obtain⟨ms,aH,aN,aP⟩:=H0 R;subst aH;exact⟨_,av.share,ms,aQ,λm hm=>⟨(aN m hm).1,λv aE=>by rw[(aN m hm).2]at aE;cases aE⟩,λaq J cN ak=>⟨av,_,aP aq J,U,aw,ak⟩⟩
 |_=>exact plain h (λaq cN av s1 R U=>⟨av,s1,R,U⟩)
theorem Ro {s:ag} {o:bn} {K:eF->ag->Prop} (h:lK C s o K):∃jU ms,K jU (c4 ms s)/\zh C o s jU ms:=by
 have op:∀(bV:ace),(∀u∈use s o.bq,u∈bV)->(∀aq,c0 bV aq s->∀cN:ag->Prop,nK C aq o.bq (λav s1=>cN (fin s1 o.dst av))->k_ C aq o cN)->
   mR C s o.bq (λcr av s1=>K (hZ s bV o.dst cr av) (fin s1 o.dst av))->∃jU ms,K jU (c4 ms s)/\zh C o s jU ms:=by
  intro bV o_ e7 hw;obtain⟨cr,av,ms,R,U,aw⟩:=Rm hw;obtain⟨j_,i_,b6⟩:=IW o.dst av;refine⟨hZ s bV o.dst cr av,ms++j_,?_,?_,?_,zi.1,zi.2⟩
  .rw[lH,<-b6];exact R
  .intro aq J cN ak;refine e7 aq J cN (aw aq (J.sub o_) _ ?_);rw[b6,<-lH];exact ak
  .intro m hm;simp only[hZ,List.mem_append];rcases List.mem_append.1 hm with hm|hm
   .refine⟨.inr (U m hm).1,λv aE=>.inl ?_⟩;obtain⟨u,hu,lB⟩:=(U m hm).2 v aE;exact List.mem_flatMap.2 ⟨u,o_ u hu,lB⟩
   .exact⟨.inl (i_ m hm).1,λu hu=>.inr (by rw[(i_ m hm).2]at hu;exact hu)⟩
 have skip:∀t,(∀aq,c0 [t] aq s->∀cN:ag->Prop,cN (fin aq o.dst (.tuple []))->k_ C aq o cN)->K (hZ s [t] o.dst [] (.tuple [])) (fin s o.dst (.tuple []))->∃jU ms,K jU (c4 ms s)/\zh C o s jU ms:=by
  intro t e7 ak;obtain⟨j_,i_,b6⟩:=IW o.dst (.tuple []);refine⟨_,j_,by rw[<-b6];exact ak,?_,?_,zi.1,zi.2⟩
  .intro aq J cN iM;exact e7 aq J cN (by rw[b6];exact iM)
  .intro m hm;simp only[hZ,List.mem_append];exact⟨.inl (i_ m hm).1,λu hu=>by rw[(i_ m hm).2]at hu;simp[j.J]at hu⟩
 unfold lK at h;split at h
 .rename_i bo;exact op _ (λ_ h=>h) (λaq _ cN hw=>by unfold k_;rw[bo];exact hw) h
 .rename_i t b bo;split at h
  .rename_i eA I;split at h
   .rename_i e;refine op (t::use s o.bq) (λu hu=>by simp[hu]) (λaq J cN hw=>?_) h;have:aq t=s t:=J t (by simp);unfold k_;rw[bo];simp only[this,I,if_pos e];exact hw
   .rename_i e;refine skip t (λaq J cN ak=>?_) h;have:aq t=s t:=J t (by simp);unfold k_;rw[bo];simp only[this,I,if_neg e];exact ak
  .rename_i I;refine skip t (λaq J cN ak=>?_) h;have:aq t=s t:=J t (by simp);unfold k_;rw[bo];simp only[this,I];exact ak
  .exact h.elim
def ra (C:bz) (ros:List bn):ag->List (Nat×eF×List fT)->Prop
 |_,[]=>True
 |s,e::r=>(∃o,ros[e.1]? =some o/\zh C o s e.2.1 e.2.2)/\ra C ros (c4 e.2.2 s) r
def ow (s:ag) (r:List (Nat×eF×List fT)):ag:=r.foldl (λs e=>c4 e.2.2 s) s
def nD (a b:ace):Bool:=a.all λx=> !b.contains x
theorem uw {a b:ace} (h:nD a b=true):∀x∈a,x∉b:=by
 intro x ae;simp only[nD,List.all_eq_true]at h;simpa using h x ae
def sG (a b:eF):Bool:=nD b.T a.bV&&nD b.T a.H&&nD b.T a.T&&nD a.T b.bV&&nD a.T b.H&&b.c
theorem Rp {ros:List bn} {s:ag} {a b:Nat×eF×List fT} {r:List (Nat×eF×List fT)} (h:ra C ros s (a::b::r)) (ax:sG a.2.1 b.2.1=true):
  ra C ros s (b::a::r)/\ow s (b::a::r)=ow s (a::b::r):=by
 obtain⟨⟨Rq,bx,aa,a2,a3,a4⟩,⟨b3,I,ju,gQ,iN,cK⟩,aD⟩:=h;simp only[sG,Bool.and_eq_true]at ax;obtain⟨⟨⟨⟨⟨qQ,i2⟩,i3⟩,i4⟩,i5⟩,Bs⟩:=ax;have CY:∀u∈b.2.1.bV,c4 a.2.2 s u=s u:=by
  intro u hu;refine Q9 _ _ _ (λm hm e=>?_) (cK Bs u hu);exact uw i4 m.x (a2 m hm).1 (e▸hu)
 have CZ:∀u∈a.2.1.bV,c4 b.2.2 s u=s u:=by
  intro u hu;refine Q_ _ _ _ λm hm=>⟨λe=>?_,λae=>?_⟩
  .exact uw qQ m.x (gQ m hm).1 (e▸hu)
  .exact uw i2 m.x (gQ m hm).1 (a3 u hu _ ae)
 have I1:c4 b.2.2 (c4 a.2.2 s)=c4 a.2.2 (c4 b.2.2 s):=by
  refine Rb _ _ _ λm hm n aO=>⟨λe=>?_,λh=>?_,λh=>?_⟩
  .exact uw i3 n.x (gQ n aO).1 (e▸(a2 m hm).1)
  .exact uw i2 n.x (gQ n aO).1 ((a2 m hm).2 _ h)
  .exact uw i5 m.x (a2 m hm).1 ((gQ n aO).2 _ h)
 refine⟨⟨⟨b3,I,?_,gQ,?_,?_⟩,⟨Rq,bx,?_,a2,?_,?_⟩,?_⟩,?_⟩
 .intro aq J K ak;exact ju aq (λu hu=>(J u hu).trans (CY u hu).symm) K ak
 .intro u hu x ae;exact iN u hu x (by rw[CY u hu];exact ae)
 .intro aj u hu;have:=cK aj u hu
  rwa [CY u hu]at this
 .intro aq J K ak;exact aa aq (λu hu=>(J u hu).trans (CZ u hu)) K ak
 .intro u hu x ae;rw[CZ u hu]at ae;exact a3 u hu x ae
 .intro aj u hu;rw[CZ u hu];exact a4 aj u hu
 .rw[<-I1];exact aD
 .simp only[ow,List.foldl_cons];rw[I1]
theorem Rr {ros:List bn} {e:Nat×eF×List fT} {post:List (Nat×eF×List fT)}:∀(pre:List (Nat×eF×List fT)) (s:ag),ra C ros s (pre++e::post)->(∀a∈pre,sG a.2.1 e.2.1=true)->
  ra C ros s (e::(pre++post))/\ow s (e::(pre++post))=ow s (pre++e::post):=by
 intro pre;induction pre with
 |nil=>intro s h _;exact⟨h,rfl⟩
 |cons a pre ih=>
  intro s h ax;obtain⟨R,U⟩:=h;obtain⟨g1,g2⟩:=ih _ U λb I=>ax b (by simp[I]);have aj:ra C ros s (a::e::(pre++post)):=⟨R,g1⟩
  obtain⟨bO,b1⟩:=Rp aj (ax a (by simp));refine⟨bO,b1.trans ?_⟩;simp only[ow,List.foldl_cons,List.cons_append]at g2⊢;exact g2
end
def wZ:acb->acb->acb
 |done,[]=>done
 |done,a::r=>wZ (done++[a++a.flatMap λe=>(done[e]?).getD []]) r
def pv (ey:acb):acb:=wZ [] ey
theorem Rs {ey:acb} {l:ace} (hl:∀u i v,l=u++i::v->∀e∈(ey[i]?).getD [],e∈u):∀(rest pre done:acb),ey=pre++rest->done.length=pre.length->
  (∀u i v,l=u++i::v->∀e∈(done[i]?).getD [],e∈u)->∀u i v,l=u++i::v->∀e∈((wZ done rest)[i]?).getD [],e∈u:=by
 intro rest;induction rest with
 |nil=>intro pre done _ _ h;exact h
 |cons a rest ih=>
  intro pre done I2 hlen h;simp only[wZ];refine ih (pre++[a]) _ (by simp[I2]) (by simp[hlen]) ?_;intro u i v hu e he;by_cases ax:i<done.length
  .rw[List.getElem?_append_left ax]at he;exact h u i v hu e he
  .rw[List.getElem?_append_right (by omega)]at he;by_cases HI:i-done.length=0
   .rw[HI]at he;simp only[List.getElem?_cons_zero,Option.getD_some,List.mem_append,List.mem_flatMap]at he;have I3:(ey[i]?).getD []=a:=by
     have:i=pre.length:=by omega
     rw[I2,this,List.getElem?_append_right (Nat.le_refl _)];simp
    rcases he with he|⟨fH,CJ,he⟩
    .exact hl u i v hu e (by rw[I3];exact he)
    .have wA:=hl u i v hu fH (by rw[I3];exact CJ);obtain⟨ub,Hw,rfl⟩:=List.append_of_mem wA;have:=h ub fH (Hw++i::v) (by rw[hu];simp) e he;simp[this]
   .rw[List.getElem?_eq_none (by simp;omega)]at he;simp at he
theorem Rt {ey:acb} {l:ace} (hl:∀u i v,l=u++i::v->∀e∈(ey[i]?).getD [],e∈u):∀u i v,l=u++i::v->∀e∈((pv ey)[i]?).getD [],e∈u:=
 Rs hl ey [] [] rfl rfl λu i v _ e he=>by simp at he
def kd (mm:acb):Nat->List (Nat×eF)->List eF->Bool
 |_,_,[]=>true
 |aB,es,f::ar=>(es.all λe=>((mm[aB]?).getD []).contains e.1||sG e.2 f)&&kd mm (aB+1) ((aB,f)::es) ar
def C0 (mm:acb) (a b:Nat×eF×List fT):Prop:=a.1∈(mm[b.1]?).getD []\/sG a.2.1 b.2.1=true
theorem Ru {mm:acb}:∀(gv:List (Nat×eF×List fT)) (aB:Nat) (es:List (Nat×eF)),gv.map (·.1)=(List.range gv.length).map (·+aB)->kd mm aB es (gv.map (·.2.1))=true->
  gv.Pairwise (C0 mm)/\∀e∈es,∀b∈gv,e.1∈(mm[b.1]?).getD []\/sG e.2 b.2.1=true:=by
 intro gv;induction gv with
 |nil=>intro aB es _ _;exact⟨.nil,λe _ b I=>by cases I⟩
 |cons a gv ih=>
  intro aB es sH el;rw[List.length_cons,List.range_succ_eq_map,List.map_cons,List.map_cons,List.map_map]at sH;simp only[List.cons.injEq,Nat.zero_add]at sH;obtain⟨cp,sH⟩:=sH;simp only[List.map_cons,kd,Bool.and_eq_true,List.all_eq_true,Bool.or_eq_true]at el;obtain⟨R,U⟩:=el;obtain⟨g1,g2⟩:=ih (aB+1) _ (by rw[sH];congr 1;funext x;simp;omega) U;refine⟨.cons (λb I=>?_) g1,λe he b I=>?_⟩
  .have:=g2 (aB,a.2.1) (by simp) b I;simp only[C0,cp];exact this
  .rcases List.mem_cons.1 I with rfl|I
   .rw[cp];exact(R e he).imp (λh=>by simpa using h) id
   .exact g2 e (by simp[he]) b I
section
variable {C:bz}
theorem Rv {K:Option (List eF)->ag->Prop}:∀(os pre:List bn) (s:ag) (acc:List eF),ch C s os (some acc) K->
  ∃gv,ra C (pre++os) s gv/\gv.map (·.1)=(List.range os.length).map (·+pre.length)/\K (some ((gv.map (·.2.1)).reverse++acc)) (ow s gv):=by
 intro os;induction os with
 |nil=>intro pre s acc h;exact⟨[],trivial,rfl,h⟩
 |cons o os ih=>
  intro pre s acc h;obtain⟨jU,ms,R,U⟩:=Ro h;obtain⟨gv,g1,g2,g3⟩:=ih (pre++[o]) _ (jU::acc) R;refine⟨(pre.length,jU,ms)::gv,⟨⟨o,?_,U⟩,?_⟩,?_,?_⟩
  .rw[List.getElem?_append_right (Nat.le_refl _)];simp
  .simpa using g1
  .rw[List.length_cons,List.range_succ_eq_map,List.map_cons,List.map_cons,List.map_map,g2];simp only[List.cons.injEq,Nat.zero_add,true_and];congr 1;funext x;simp;omega
  .simpa [ow]using g3
theorem Rw {ros:List bn} {mm:acb} {K:ag->Prop}:∀(l:ace) (gv:List (Nat×eF×List fT)) (s:ag),ra C ros s gv->gv.Pairwise (C0 mm)->l.Nodup->(gv.map (·.1)).Nodup->
  (∀i,i∈l↔i∈gv.map (·.1))->(∀u i v,l=u++i::v->∀e∈(mm[i]?).getD [],e∈gv.map (·.1)->e∈u)->K (ow s gv)->iY C ros s l K:=by
 intro l;induction l with
 |nil=>
  intro gv s _ _ _ _ hm _ ak;cases gv with
  |nil=>exact ak
  |cons e gv=>have:=(hm e.1).2 (by simp);cases this
 |cons i l ih=>
  intro gv s aj ai aO wu hm a_ ak;obtain⟨e,he,ax⟩:=List.mem_map.1 ((hm i).1 (by simp));obtain⟨pre,post,rfl⟩:=List.append_of_mem he;have Rx:∀a∈pre,sG a.2.1 e.2.1=true:=by
   intro a bx;have aD:=(List.pairwise_append.1 ai).2.2 a bx e (by simp);rcases aD with aD|aD
   .rw[ax]at aD;have:=a_ [] i l rfl a.1 aD (by simp only[List.map_append,List.mem_append,List.mem_map];exact .inl ⟨a,bx,rfl⟩);cases this
   .exact aD
  obtain⟨g1,g2⟩:=Rr pre s aj Rx;obtain⟨⟨o,Ry,zb⟩,g3⟩:=g1;have I4:i∉(pre++post).map (·.1):=by
   have:(pre.map (·.1)++e.1::post.map (·.1)).Nodup:=by simpa using wu
   have bC:=(List.perm_middle.nodup_iff.1 this)
   rw[List.nodup_cons]at bC;rw[<-ax];simpa using bC.1
  simp only[iY];rw[<-ax,Ry];refine zb.1 s (λ_ _=>rfl) _ ?_;rw[List.nodup_cons]at aO;refine ih (pre++post) _ g3 ?_ aO.2 ?_ ?_ ?_ ?_
  .exact ai.sublist ((List.Sublist.refl pre).append (List.sublist_cons_self e post))
  .have:(pre.map (·.1)++e.1::post.map (·.1)).Nodup:=by simpa using wu
   have bC:=(List.perm_middle.nodup_iff.1 this)
   rw[List.nodup_cons]at bC;simpa using bC.2
  .intro aB;constructor
   .intro cp;have R:=(hm aB).1 (by simp[cp]);simp only[List.map_append,List.map_cons,List.mem_append,List.mem_cons]at R⊢;rcases R with R|rfl|R
    .exact .inl R
    .exact(aO.1 (ax▸cp)).elim
    .exact .inr R
   .intro cp;have R:=(hm aB).2 (by
     simp only[List.map_append,List.map_cons,List.mem_append,List.mem_cons]at cp⊢;exact cp.imp id .inr)
    rcases List.mem_cons.1 R with rfl|R
    .exact(I4 cp).elim
    .exact R
  .intro u aB v hu x ae C1;have R:=a_ (i::u) aB v (by rw[hu];rfl) x ae (by
    simp only[List.map_append,List.map_cons,List.mem_append,List.mem_cons]at C1⊢;exact C1.imp id .inr)
   rcases List.mem_cons.1 R with rfl|R
   .exact(I4 C1).elim
   .exact R
  .have:ow s (e::(pre++post))=ow (c4 e.2.2 s) (pre++post):=rfl;rw[<-this,g2];exact ak
theorem I5 {ros:List bn} {ey:acb} {s:ag} {K:ag->Prop} (hlen:ey.length=ros.length)
  (h:ch C s ros (some []) (λacc s=>kd (pv ey) 0 [] (acc.getD []).reverse=true/\K s)):∀l,CI ey l->iY C ros s l K:=by
 intro l ⟨eQ,l2,CB⟩;obtain⟨gv,g1,g2,g3,g4⟩:=Rv ros [] s [] h;simp only[List.nil_append,List.append_nil,List.length_nil,Option.getD_some,List.reverse_reverse]at g1 g2 g3;have hl:gv.length=ros.length:=by have:=congrArg List.length g2;simpa using this
 have sH:gv.map (·.1)=(List.range gv.length).map (·+0):=by rw[g2,hl]
 have aD:gv.map (·.1)=List.range ros.length:=by rw[g2];simp
 obtain⟨e0,_⟩:=Ru gv 0 [] sH g3;refine Rw l gv s g1 e0 eQ (by rw[aD];exact List.nodup_range) (λi=>?_) (λu i v hu e he _=>Rt CB u i v hu e he) g4;rw[aD,l2,hlen,List.mem_range]
end
def nP (C:bz) (dst:Option Nat) (os:List bn) (K:Option (List eF)->ag->Prop):Option (j×ag)->Prop
 |some (av,s1)=>ch C (fin s1 dst av) os none K
 |none=>False
def ox (C:bz) (l:aci) (bV cr:ace) (dst:Option Nat) (os:List bn) (a:List eF) (K:Option (List eF)->ag->Prop):Option (j×ag)->Prop
 |some (av,s1)=>ch C (fin s1 dst av) os (some (hZ (ah l) bV dst cr av::a)) K
 |none=>False
def ja (C:bz) (l:aci) (dst:Option Nat) (bq:de) (t:Nat) (b:Bool) (os:List bn) (acc:Option (List eF)) (K:Option (List eF)->ag->Prop):j->Prop
 | .bool eA=>if eA=b then mR C (ah l) bq (λcr av s1=>ch C (fin s1 dst av) os (pr acc (hZ (ah l) (t::use (ah l) bq) dst cr av)) K)else ch C (fin (ah l) dst (.tuple [])) os (pr acc (hZ (ah l) [t] dst [] (.tuple []))) K
 | .tuple []=>ch C (fin (ah l) dst (.tuple [])) os (pr acc (hZ (ah l) [t] dst [] (.tuple []))) K
 |_=>False
section
variable {C:bz} {l:aci} {os:List bn} {K:Option (List eF)->ag->Prop} {dst:Option Nat} {a:List eF} {acc:Option (List eF)}
theorem zj {s:ag} {bq:de} {K:ace->j->ag->Prop} (aO:bq.hb=false):mR C s bq K=(match bE C s bq with
  |some (av,s1)=>K (jS s bq) av s1
  |none=>False):=by
 apply propext;constructor
 .intro h;cases bq<;>first
   |(simp[de.hb]at aO;done)
   |(obtain⟨av,s1,R,U⟩:=h;rw[R];exact U)
 .intro h;split at h
  .rename_i av s1 he;cases bq<;>first
    |(simp[de.hb]at aO;done)
    |exact⟨av,s1,he,h⟩
  .exact h.elim
theorem I6:ch C (ah l) [] acc K=K acc (ah l):=rfl
theorem sI {bq:de} (aO:bq.hb=false):ch C (ah l) (⟨dst,bq,none⟩::os) none K=nP C dst os K (bE C (ah l) bq):=by
 simp only[ch,lK,pr];rw[zj aO];cases bE C (ah l) bq with
 |none=>rfl
 |some p=>rfl
theorem ux {bq:de} (aO:bq.hb=false):ch C (ah l) (⟨dst,bq,none⟩::os) (some a) K=ox C l (use (ah l) bq) (jS (ah l) bq) dst os a K (bE C (ah l) bq):=by
 simp only[ch,lK,pr];rw[zj aO];cases bE C (ah l) bq with
 |none=>rfl
 |some p=>rfl
theorem I7 {bq:de} {t:Nat} {b:Bool}:ch C (ah l) (⟨dst,bq,some (t,b)⟩::os) acc K=ja C l dst bq t b os acc K (ah l t):=by
 simp only[ch,lK];generalize ah l t=v;cases v<;>first|rfl|(rename_i vs;cases vs<;>rfl)
theorem I8 {bq:de} {t:Nat} {b:Bool} (aO:bq.hb=false):ja C l dst bq t b os none K (.bool b)=nP C dst os K (bE C (ah l) bq):=by
 simp only[ja,if_true];rw[zj aO];cases bE C (ah l) bq with
 |none=>rfl
 |some p=>rfl
theorem I9 {bq:de} {t:Nat} {b:Bool} (aO:bq.hb=false):ja C l dst bq t b os (some a) K (.bool b)=ox C l (t::use (ah l) bq) (jS (ah l) bq) dst os a K (bE C (ah l) bq):=by
 simp only[ja,if_true];rw[zj aO];cases bE C (ah l) bq with
 |none=>rfl
 |some p=>rfl
theorem Rz {bq:de} {t:Nat}:ja C l dst bq t true os none K (.bool false)=ch C (fin (ah l) dst (.tuple [])) os none K/\ja C l dst bq t false os none K (.bool true)=ch C (fin (ah l) dst (.tuple [])) os none K/\
  (∀b,ja C l dst bq t b os none K (.tuple [])=ch C (fin (ah l) dst (.tuple [])) os none K):=⟨rfl,rfl,λ_=>rfl⟩
theorem RA {bq:de} {t:Nat}:ja C l dst bq t true os (some a) K (.bool false)=ch C (fin (ah l) dst (.tuple [])) os (some (hZ (ah l) [t] dst [] (.tuple [])::a)) K/\
  ja C l dst bq t false os (some a) K (.bool true)=ch C (fin (ah l) dst (.tuple [])) os (some (hZ (ah l) [t] dst [] (.tuple [])::a)) K/\
  (∀b,ja C l dst bq t b os (some a) K (.tuple [])=ch C (fin (ah l) dst (.tuple [])) os (some (hZ (ah l) [t] dst [] (.tuple [])::a)) K):=⟨rfl,rfl,λ_=>rfl⟩
theorem RB (av:j) (s1:ag):nP C dst os K (some (av,s1))=ch C (fin s1 dst av) os none K:=rfl
theorem RC (bV cr:ace) (av:j) (s1:ag):ox C l bV cr dst os a K (some (av,s1))=ch C (fin s1 dst av) os (some (hZ (ah l) bV dst cr av::a)) K:=rfl
def zk (s:ag):j->Option (j×ag)
 | .h y q=>cr s (.h y q)
 |d=>some (d,s)
def I_ (s:ag):j->j->j->Option (j×ag)
 | .bool eA,x,y=>some (if eA then x else y,s)
 |_,_,_=>none
def iD (s:ag):Option j->Option (j×ag)
 |some d=>some (d,s)
 |none=>none
def db:Option ag->Option (j×ag)
 |some s1=>some (.hole,s1)
 |none=>none
def h0 (s:ag):List aR->acj
 |[]=>[]
 |x::xs=>a7 s x::h0 s xs
def rb (s:ag):List (Nat×aR)->aci
 |[]=>[]
 |(k,x)::xs=>(k,a7 s x)::rb s xs
def w1 (s:ag):Option aR->Option j
 |none=>none
 |some x=>some (a7 s x)
theorem C2 (s:ag) (x:Option j):(x.map λd=>(d,s))=iD s x:=by cases x<;>rfl
theorem Ja (x:Option ag):(x.map λs1=>(j.hole,s1))=db x:=by cases x<;>rfl
theorem re (s:ag):∀xs:List aR,xs.map (a7 s)=h0 s xs
 |[]=>rfl
 |x::xs=>by simp only[List.map_cons,h0,re s xs]
theorem Jb (s:ag):∀xs:List (Nat×aR),(xs.map λp=>(p.1,a7 s p.2))=rb s xs
 |[]=>rfl
 |(k,x)::xs=>by simp only[List.map_cons,rb,Jb s xs]
theorem RD (s:ag) (x:Option aR):x.map (a7 s)=w1 s x:=by cases x<;>rfl
theorem Jc:(∀x,de.hb (.gm x)=false)/\
  (∀x,de.hb (.il x)=false)/\
  (∀c x y,de.hb (.pick c x y)=false)/\
  (∀T,de.hb (.lC T)=false)/\
  (∀T x,de.hb (.hj T x)=false)/\
  (∀T ps,de.hb (.hi T ps)=false)/\
  (∀T n ps,de.hb (.eD T n ps)=false)/\
  (∀T x,de.hb (.dU T x)=false)/\
  (∀T x y,de.hb (.iV T x y)=false)/\
  (∀x,de.hb (.ig x)=false)/\
  (∀op T x y,de.hb (.dI op T x y)=false)/\
  (∀op x,de.hb (.un op x)=false)/\
  (∀A B x,de.hb (.hV A B x)=false)/\
  (∀f cs,de.hb (.mO f cs)=false)/\
  (∀T x y,de.hb (.dZ T x y)=false)/\
  (∀T x dY ax,de.hb (.e9 T x dY ax)=false)/\
  (∀T x k,de.hb (.gB T x k)=false)/\
  (∀T x y,de.hb (.hT T x y)=false)/\
  (∀T x y,de.hb (.idx T x y)=false)/\
  (∀x k,de.hb (.ex x k)=false)/\
  (∀T x,de.hb (.len T x)=false)/\
  (∀T bV x y,de.hb (.app T bV x y)=false):=by
 and_intros<;>intros<;>rfl
theorem Jd:(∀x,bE C (ah l) (.gm x)=some (a7 (ah l) x,ah l))/\
  (∀x,bE C (ah l) (.il x)=zk (ah l) (a7 (ah l) x))/\
  (∀c x y,bE C (ah l) (.pick c x y)=I_ (ah l) (a7 (ah l) c) (a7 (ah l) x) (a7 (ah l) y))/\
  (∀T,bE C (ah l) (.lC T)=iD (ah l) (lC C T))/\
  (∀T x,bE C (ah l) (.hj T x)=hj (ah l) (a7 (ah l) x))/\
  (∀T ps,bE C (ah l) (.hi T ps)=hi C (ah l) T (rb (ah l) ps))/\
  (∀T n ps,bE C (ah l) (.eD T n ps)=eD C (ah l) T n (rb (ah l) ps))/\
  (∀T x,bE C (ah l) (.dU T x)=iD (ah l) (dU C (ah l) T (a7 (ah l) x)))/\
  (∀T x y,bE C (ah l) (.iV T x y)=db (iV C (ah l) T (a7 (ah l) x) (a7 (ah l) y)))/\
  (∀x,bE C (ah l) (.ig x)=iD (ah l) (ig (ah l) (a7 (ah l) x)))/\
  (∀op T x y,bE C (ah l) (.dI op T x y)=iD (ah l) (dI C (ah l) op T (a7 (ah l) x) (a7 (ah l) y)))/\
  (∀op x,bE C (ah l) (.un op x)=iD (ah l) (un op (a7 (ah l) x)))/\
  (∀A B x,bE C (ah l) (.hV A B x)=iD (ah l) (hV C (ah l) A B (a7 (ah l) x)))/\
  (∀f cs,bE C (ah l) (.mO f cs)=some (.fn f (h0 (ah l) cs),ah l))/\
  (∀T x y,bE C (ah l) (.dZ T x y)=iD (ah l) (dZ C T (a7 (ah l) x) (a7 (ah l) y)))/\
  (∀T x dY ax,bE C (ah l) (.e9 T x dY ax)=e9 C (ah l) T (a7 (ah l) x) (w1 (ah l) dY) (w1 (ah l) ax))/\
  (∀T x k,bE C (ah l) (.gB T x k)=iD (ah l) (gB C (ah l) T (a7 (ah l) x) k))/\
  (∀T x y,bE C (ah l) (.hT T x y)=iD (ah l) (hT C (ah l) T (a7 (ah l) x) (a7 (ah l) y)))/\
  (∀T x y,bE C (ah l) (.idx T x y)=iD (ah l) (idx C T (a7 (ah l) x) (a7 (ah l) y)))/\
  (∀x k,bE C (ah l) (.ex x k)=iD (ah l) (ex (ah l) (a7 (ah l) x) k))/\
  (∀T x,bE C (ah l) (.len T x)=iD (ah l) (p4 C (ah l) T (a7 (ah l) x)))/\
  (∀T bV x y,bE C (ah l) (.app T bV x y)=p8 C (ah l) T bV (a7 (ah l) x) (a7 (ah l) y)):=by
 and_intros<;>intros<;>first|rfl|(simp only[bE,C2,Ja,Jb,re,RD];done)|(simp only[bE];cases a7 (ah l) _<;>first|rfl|(rename_i b;cases b<;>rfl))
end
theorem Je:∀t d,kC t d=if j.plain d=true then d else .h t []:=λ_ _=>rfl
theorem Jf:(∀l av,fin (ah l) none av=ah l)/\(∀l t av,fin (ah l) (some t) av=ah ((t,av)::if j.plain av=true then l else ov t l)):=
 ⟨λ_ _=>rfl,λl t av=>by
  simp only[fin];split
  .rw[po]
  .rw[sE,po]⟩
theorem C3:
  (∀k n,j.plain (.int k n)=true)/\
  (∀b,j.plain (.bool b)=true)/\
  (∀x,j.plain (.str x)=true)/\
  (∀xs,j.plain (.slice xs)=true)/\
  (∀d,j.plain (.ref d)=true)/\
  (∀f cap,j.plain (.fn f cap)=true)/\
  (∀x q,j.plain (.h x q)=true)/\
  (∀x q,j.plain (.ai x q)=true)/\
  (j.plain .c6=true)/\
  (j.plain .bc=true)/\
  (j.plain .eT=true)/\
  (j.plain .hole=true)/\
  (∀sz xs,j.plain (.ao sz xs)=false)/\
  (∀d,j.plain (.aV d)=false)/\
  (∀ar,j.plain (.agg ar)=j.dj ar)/\
  (∀ar,j.plain (.tuple ar)=j.dj ar)/\
  (j.dj []=true)/\
  (∀d ds,j.dj (d::ds)=(d.plain&&j.dj ds)):=
 ⟨λ_ _=>rfl,λ_=>rfl,λ_=>rfl,λ_=>rfl,λ_=>rfl,λ_ _=>rfl,λ_ _=>rfl,λ_ _=>rfl,rfl,rfl,rfl,rfl,λ_ _=>rfl,λ_=>rfl,λ_=>rfl,λ_=>rfl,rfl,λ_ _=>rfl⟩
theorem Jg:∀s d,zk s d=match d with| .h y q=>cr s (.h y q)|d=>some (d,s):=λ_ _=>by unfold zk;rfl
theorem Jh:
  (∀t k n,cj t (.int k n)=(.int k n))/\
  (∀t b,cj t (.bool b)=(.bool b))/\
  (∀t x,cj t (.str x)=(.str x))/\
  (∀t xs,cj t (.slice xs)=(.slice xs))/\
  (∀t d,cj t (.ref d)=(.ref d))/\
  (∀t,cj t .c6= .c6)/\
  (∀t,cj t .bc= .bc)/\
  (∀t,cj t .eT= .eT)/\
  (∀t,cj t .hole= .hole)/\
  (∀t sz xs,cj t (.ao sz xs)=(.ao sz xs))/\
  (∀t d,cj t (.aV d)=(.aV d))/\
  (∀t ar,cj t (.agg ar)=(.agg ar))/\
  (∀t ar,cj t (.tuple ar)=(.tuple ar))/\
  (∀t y q,cj t (.h y q)=if y=t then .hole else .h y q)/\
  (∀t y q,cj t (.ai y q)=if y=t then .hole else .ai y q)/\
  (∀t f c,cj t (.fn f c)= .fn f (h_ t c))/\
  (∀t,h_ t []=[])/\
  (∀t d ds,h_ t (d::ds)=cj t d::h_ t ds)/\
  (∀t,ov t []=[])/\
  (∀t u d l,ov t ((u,d)::l)=(u,cj t d)::ov t l)/\
  (∀t l,jP t (ah l)=ah (ov t l)):=
 ⟨λ_ _ _=>by unfold cj;rfl,λ_ _=>by unfold cj;rfl,λ_ _=>by unfold cj;rfl,λ_ _=>by unfold cj;rfl,λ_ _=>by unfold cj;rfl,λ_=>by unfold cj;rfl,λ_=>by unfold cj;rfl,λ_=>by unfold cj;rfl,λ_=>by unfold cj;rfl,λ_ _ _=>by unfold cj;rfl,λ_ _=>by unfold cj;rfl,λ_ _=>by unfold cj;rfl,λ_ _=>by unfold cj;rfl,λ_ _ _=>by unfold cj;rfl,λ_ _ _=>by unfold cj;rfl,λ_ _ _=>by simp only[cj],λ_=>by simp only[h_],λ_ _ _=>by simp only[h_],λ_=>rfl,λ_ _ _ _=>rfl,λt l=>sE t l⟩
theorem Ji:
  (∀t k n,bU t (.int k n)=(.int k n))/\
  (∀t b,bU t (.bool b)=(.bool b))/\
  (∀t x,bU t (.str x)=(.str x))/\
  (∀t xs,bU t (.slice xs)=(.slice xs))/\
  (∀t d,bU t (.ref d)=(.ref d))/\
  (∀t,bU t .c6= .c6)/\
  (∀t,bU t .bc= .bc)/\
  (∀t,bU t .eT= .eT)/\
  (∀t,bU t .hole= .hole)/\
  (∀t sz xs,bU t (.ao sz xs)=(.ao sz xs))/\
  (∀t d,bU t (.aV d)=(.aV d))/\
  (∀t ar,bU t (.agg ar)=(.agg ar))/\
  (∀t ar,bU t (.tuple ar)=(.tuple ar))/\
  (∀t y,bU t (.h y [])= .h y [])/\
  (∀t y k q,bU t (.h y (k::q))=if y=t then .hole else .h y (k::q))/\
  (∀t y q,bU t (.ai y q)=if y=t then .hole else .ai y q)/\
  (∀t f c,bU t (.fn f c)= .fn f (hH t c))/\
  (∀t,hH t []=[])/\
  (∀t d ds,hH t (d::ds)=bU t d::hH t ds)/\
  (∀t,sD t []=[])/\
  (∀t u d l,sD t ((u,d)::l)=(u,bU t d)::sD t l)/\
  (∀t l,gO t (ah l)=ah (sD t l)):=
 ⟨λ_ _ _=>by unfold bU;rfl,λ_ _=>by unfold bU;rfl,λ_ _=>by unfold bU;rfl,λ_ _=>by unfold bU;rfl,λ_ _=>by unfold bU;rfl,λ_=>by unfold bU;rfl,λ_=>by unfold bU;rfl,λ_=>by unfold bU;rfl,λ_=>by unfold bU;rfl,λ_ _ _=>by unfold bU;rfl,λ_ _=>by unfold bU;rfl,λ_ _=>by unfold bU;rfl,λ_ _=>by unfold bU;rfl,λ_ _=>by simp[bU],λ_ _ _ _=>by simp[bU],λ_ _ _=>by unfold bU;rfl,λ_ _ _=>by simp only[bU],λ_=>by simp only[hH],λ_ _ _=>by simp only[hH],λ_=>rfl,λ_ _ _ _=>rfl,λt l=>Q5 t l⟩
def C4:mb->Bool->Option j
 | .bool,b=>some (.bool b)
 |_,_=>none
def sJ (neg:Bool):mb->Option acf->Option j
 | .slice _,some r=>some (v_ neg r)
 |_,_=>none
def sK (neg:Bool):mb->acf->Option j
 | .ptr _,some b=>some (.bool (b !=neg))
 |_,_=>none
theorem Jj (C:bz) (s:ag) (T:TypeId):
  (∀op k a cO b,dI C s op T (.int k a) (.int cO b)=hU op k a cO b)/\
  (∀op a b,dI C s op T (.str a) (.str b)=mL op a b)/\
  (∀a b,dI C s .eql T (.bool a) (.bool b)=C4 (C.T T).k (a==b))/\
  (∀a b,dI C s .neq T (.bool a) (.bool b)=C4 (C.T T).k (!(a==b)))/\
  (∀xs,dI C s .eql T (.slice xs) .bc=sJ false (C.T T).k (kE s (.slice xs)))/\
  (∀xs,dI C s .neq T (.slice xs) .bc=sJ true (C.T T).k (kE s (.slice xs)))/\
  (dI C s .eql T .bc .bc=sJ false (C.T T).k (kE s .bc))/\
  (dI C s .neq T .bc .bc=sJ true (C.T T).k (kE s .bc))/\
  (∀x q,dI C s .eql T (.h x q) .bc=sJ false (C.T T).k (kE s (.h x q)))/\
  (∀x q,dI C s .neq T (.h x q) .bc=sJ true (C.T T).k (kE s (.h x q)))/\
  (∀x q,dI C s .eql T (.h x q) .c6=sK false (C.T T).k (kF s (.h x q)))/\
  (∀x q,dI C s .neq T (.h x q) .c6=sK true (C.T T).k (kF s (.h x q)))/\
  (∀d,dI C s .eql T (.ref d) .c6=sK false (C.T T).k (kF s (.ref d)))/\
  (∀d,dI C s .neq T (.ref d) .c6=sK true (C.T T).k (kF s (.ref d)))/\
  (dI C s .eql T .c6 .c6=sK false (C.T T).k (kF s .c6))/\
  (dI C s .neq T .c6 .c6=sK true (C.T T).k (kF s .c6)):=by
 refine⟨?_,?_,?_,?_,?_,?_,?_,?_,?_,?_,?_,?_,?_,?_,?_,?_⟩<;>intros<;>first
  |rfl
  |(simp only[dI]
    generalize (C.T T).k=iT;cases iT<;>first|rfl|(simp only[sJ];generalize kE s _=v;cases v<;>rfl)|(simp only[sK];generalize kF s _=v;cases v<;>(try (rename_i b;cases b))<;>rfl))
theorem Jk (k:IntKind) (a b:Int):
  hU .add k a k b=some (.int k (k.wrap (a+b)))/\hU .sub k a k b=some (.int k (k.wrap (a-b)))/\hU .mul k a k b=some (.int k (k.wrap (a*b)))/\
  hU .eql k a k b=some (.bool (a==b))/\hU .neq k a k b=some (.bool (a !=b))/\hU .lss k a k b=some (.bool (decide (a<b)))/\hU .leq k a k b=some (.bool (decide (a<=b)))/\
  hU .gtr k a k b=some (.bool (decide (b<a)))/\hU .geq k a k b=some (.bool (decide (b<=a)))/\
  hU .and k a k b=some (.int k (bitsOf .and k a b))/\hU .or k a k b=some (.int k (bitsOf .or k a b))/\hU .xor k a k b=some (.int k (bitsOf .xor k a b))/\hU .andNot k a k b=some (.int k (bitsOf .andNot k a b)):=by
 simp[hU]
theorem RE {k:IntKind} {a b:Int} (h:b≠0):hU .quo k a k b=some (.int k (k.wrap (a.tdiv b))):=by simp[hU,h]
theorem RF {k:IntKind} {a b:Int} (h:b≠0):hU .rem k a k b=some (.int k (a.tmod b)):=by simp[hU,h]
theorem Jl (a b:aca):
  mL .eql a b=some (.bool (a==b))/\mL .neq a b=some (.bool !(a==b))/\mL .lss a b=some (.bool (Op.bytesLess a b))/\
  mL .leq a b=some (.bool (Op.bytesLess a b||a==b))/\mL .gtr a b=some (.bool !(Op.bytesLess a b||a==b))/\mL .geq a b=some (.bool !(Op.bytesLess a b)):=by
 refine⟨rfl,rfl,rfl,rfl,rfl,rfl⟩
theorem Jm:(∀b,un .not (.bool b)=some (.bool !b))/\(un .not .eT=some .eT)/\(∀k n,un .neg (.int k n)=some (.int k (k.wrap (0-n)))):=⟨λ_=>rfl,rfl,λ_ _=>rfl⟩
def C5:mb->Option UInt8->Option j
 | .str,some c=>some (.int .u8 c.toNat)
 |_,_=>none
theorem Jn (C:bz) (T:TypeId) (l:aca) (k:IntKind) (n:Int):idx C T (.str l) (.int k n)=C5 (C.T T).k (cg l n):=by
 simp only[idx,cg];generalize (C.T T).k=iT;cases iT<;>first|rfl|(simp only[C5];split<;>first|rfl|(cases l[n.toNat]? <;>rfl))
def C6 (C:bz):mb->Option j->Option j
 | .slice e,some d=>if(C.T e).ok=true/\d.wd=(C.T e).sz then some (.ref d)else none
 |_,_=>none
theorem Jo (C:bz) (s:ag) (T:TypeId) (xs:acj) (k:IntKind) (n:Int):hT C s T (.slice xs) (.int k n)=C6 C (C.T T).k (cg xs n):=by
 simp only[hT,cg];generalize (C.T T).k=iT;cases iT<;>first|rfl|skip
 simp only[C6];by_cases bg:0<=n
 .simp only[bg,true_and,if_true];split
  .cases xs[n.toNat]? <;>simp[*]
  .cases xs[n.toNat]? <;>simp[*]
 .simp only[bg,false_and,if_false]
def w2 (C:bz) (y:Nat) (q:ace) (n:Int):mb->Option j->Option j
 | .slice e,some (.ao sz xs)=>if(cg xs n).isSome=true/\(C.T e).ok=true/\sz=(C.T e).sz then some (.ai y (q++[n.toNat]))else none
 |_,_=>none
theorem Jp (C:bz) (s:ag) (T:TypeId) (y:Nat) (q:ace) (k:IntKind) (n:Int):hT C s T (.h y q) (.int k n)=w2 C y q n (C.T T).k (j.sub q (s y)):=by
 simp only[hT];generalize (C.T T).k=iT;cases iT<;>first|rfl|skip
 rename_i e;cases J:j.sub q (s y)with
 |none=>simp[w2]
 |some d=>
  cases d<;>first
   |(simp[w2];done)
   |skip
  rename_i sz xs;have bo:(cg xs n).isSome=true↔0<=n/\n.toNat<xs.length:=by
   unfold cg;split<;>simp_all<;>omega
  simp only[w2,bo];by_cases bg:0<=n<;>by_cases R:(C.T e).ok=true<;>simp[bg,R]
def uy:mb->ag->Option aca->Option (j×ag)
 | .str,s,some t=>some (.str t,s)
 |_,_,_=>none
def uz (C:bz):mb->ag->acj->Option acj->Option (j×ag)
 | .slice e,s,xs,some t=>if(C.T e).ok=true/\∀d∈xs,d.wd=(C.T e).sz then some (.slice t,s)else none
 |_,_,_,_=>none
theorem Jq (C:bz) (s:ag) (T:TypeId) (l:aca):
  (∀k a cO b,e9 C s T (.str l) (some (.int k a)) (some (.int cO b))=uy (C.T T).k s (iS l a b))/\
  (∀cO b,e9 C s T (.str l) none (some (.int cO b))=uy (C.T T).k s (iS l 0 b))/\
  (∀k a,e9 C s T (.str l) (some (.int k a)) none=uy (C.T T).k s (iS l a l.length)):=by
 have e:∀(dY ax:Option j) (a b:Int),(gW 0 dY=if 0<=a then some a.toNat else none)->(gW l.length ax=if 0<=b then some b.toNat else none)->e9 C s T (.str l) dY ax=uy (C.T T).k s (iS l a b):=by
  intro dY ax a b R U;simp only[e9];generalize (C.T T).k=iT;cases iT<;>first|rfl|skip
  simp only[R,U,iS];by_cases bx:0<=a<;>by_cases I:0<=b<;>simp only[bx,I,if_true,if_false,uy,true_and,false_and]
  .by_cases aj:a<=b/\b<=l.length
   .rw[if_pos ⟨by omega,by omega⟩,if_pos aj]
   .rw[if_neg (λh=>aj ⟨by omega,by omega⟩),if_neg aj]
  .rw[if_neg (by omega)]
 exact⟨λk a cO b=>e _ _ a b rfl rfl,λcO b=>e _ _ 0 b rfl rfl,λk a=>e _ _ a l.length rfl (by simp[gW])⟩
theorem Jr (C:bz) (s:ag) (T:TypeId) (xs:acj):
  (∀k a cO b,e9 C s T (.slice xs) (some (.int k a)) (some (.int cO b))=uz C (C.T T).k s xs (iS xs a b))/\
  (∀cO b,e9 C s T (.slice xs) none (some (.int cO b))=uz C (C.T T).k s xs (iS xs 0 b))/\
  (∀k a,e9 C s T (.slice xs) (some (.int k a)) none=uz C (C.T T).k s xs (iS xs a xs.length)):=by
 have e:∀(dY ax:Option j) (a b:Int),(gW 0 dY=if 0<=a then some a.toNat else none)->(gW xs.length ax=if 0<=b then some b.toNat else none)->e9 C s T (.slice xs) dY ax=uz C (C.T T).k s xs (iS xs a b):=by
  intro dY ax a b R U;simp only[e9];generalize (C.T T).k=iT;cases iT<;>first|rfl|skip
  simp only[R,U,iS];by_cases bx:0<=a<;>by_cases I:0<=b<;>simp only[bx,I,if_true,if_false,uz,true_and,false_and]
  .by_cases aj:a<=b/\b<=xs.length
   .rw[if_pos aj];have R:a.toNat<=b.toNat:=by omega
    have U:b.toNat<=xs.length:=by omega
    simp only[R,U,true_and]
   .rw[if_neg (λh=>aj ⟨by omega,by omega⟩),if_neg aj]
  .rw[if_neg (by omega)]
 exact⟨λk a cO b=>e _ _ a b rfl rfl,λcO b=>e _ _ 0 b rfl rfl,λk a=>e _ _ a xs.length rfl (by simp[gW])⟩
def w3 (q:ace):Option j->Option j
 |some d=>j.sub q d
 |none=>none
theorem Js:(∀d,j.sub [] d=some d)/\(∀k q ar,j.sub (k::q) (.agg ar)=w3 q ar[k]?)/\(∀k q ar,j.sub (k::q) (.tuple ar)=w3 q ar[k]?)/\(∀k q sz xs,j.sub (k::q) (.ao sz xs)=w3 q xs[k]?)/\
  (∀q d,j.sub (0::q) (.aV d)=j.sub q d)/\(∀q d,w3 q (some d)=j.sub q d)/\
  (∀k q a b,j.sub (k::q) (.int a b)=none):=by
 refine⟨λd=>by simp[j.sub],?_,?_,?_,λq d=>by simp[j.sub],λ_ _=>rfl,λ_ _ _ _=>by simp[j.sub]⟩
 .intro k q ar;simp only[j.sub];cases ar[k]? <;>rfl
 .intro k q ar;simp only[j.sub];cases ar[k]? <;>rfl
 .intro k q sz ar;simp only[j.sub];cases ar[k]? <;>rfl
def Jt (k:Nat) (q:ace) (n:j) (ar:acj):Option j->j
 |some d=>.agg (ar.set k (j.put q n d))
 |none=>.agg ar
def Ju (k:Nat) (q:ace) (n:j) (ar:acj):Option j->j
 |some d=>.tuple (ar.set k (j.put q n d))
 |none=>.tuple ar
def Jv (k:Nat) (q:ace) (n:j) (sz:Nat) (xs:acj):Option j->j
 |some d=>.ao sz (xs.set k (j.put q n d))
 |none=>.ao sz xs
theorem Jw:(∀n d,j.put [] n d=n)/\(∀k q n ar,j.put (k::q) n (.agg ar)=Jt k q n ar ar[k]?)/\(∀k q n ar,j.put (k::q) n (.tuple ar)=Ju k q n ar ar[k]?)/\
  (∀k q n sz xs,j.put (k::q) n (.ao sz xs)=Jv k q n sz xs xs[k]?)/\(∀q n d,j.put (0::q) n (.aV d)= .aV (j.put q n d))/\
  (∀k q n ar d,Jt k q n ar (some d)= .agg (ar.set k (j.put q n d)))/\(∀k q n ar d,Ju k q n ar (some d)= .tuple (ar.set k (j.put q n d)))/\
  (∀k q n sz xs d,Jv k q n sz xs (some d)= .ao sz (xs.set k (j.put q n d))):=by
 refine⟨λn d=>by simp[j.put],?_,?_,?_,λq n d=>by simp[j.put],λ_ _ _ _ _=>rfl,λ_ _ _ _ _=>rfl,λ_ _ _ _ _ _=>rfl⟩
 .intro k q n ar;simp only[j.put];cases ar[k]? <;>rfl
 .intro k q n ar;simp only[j.put];cases ar[k]? <;>rfl
 .intro k q n sz ar;simp only[j.put];cases ar[k]? <;>rfl
theorem C7:(∀k n,j.wd (.int k n)=1)/\(∀b,j.wd (.bool b)=1)/\(∀x,j.wd (.str x)=1)/\(∀x,j.wd (.slice x)=1)/\(∀n x,j.wd (.ao n x)=1)/\(∀x,j.wd (.ref x)=1)/\(∀x,j.wd (.aV x)=1)/\
  j.wd .bc=1/\j.wd .c6=1/\j.wd .hole=1/\j.wd .eT=1/\(∀x y,j.wd (.h x y)=1)/\(∀x y,j.wd (.ai x y)=1)/\(∀x y,j.wd (.fn x y)=1)/\(∀ar,j.wd (.agg ar)=j.di ar)/\(∀ar,j.wd (.tuple ar)=j.di ar)/\j.di []=0/\(∀d ds,j.di (d::ds)=d.wd+j.di ds):=by
 simp[j.wd,j.di]
theorem C8 (l:aca):(∀d∈l.map gD,d.wd=1)=True:=by simp[gD,j.wd]
theorem RG {α:Type} {e:α->j} {n:Nat} (h:∀x,(e x).wd=n) (xs:List α):(∀d∈xs.map e,d.wd=n)=True:=by
 simp only[List.mem_map,eq_iff_iff,iff_true];rintro d ⟨x,_,rfl⟩;exact h x
theorem RH (C:bz) (s:ag) (A B:TypeId) (k cO:IntKind) (n:Int) (hW:(C.T A).ok=true) (gj:(C.T B).k= .int cO):hV C s A B (.int k n)=some (.int cO (cO.wrap n)):=by
 simp only[hV,hW,gj,if_true]
theorem Jx (m:Int):gD (lx m)= .int .u8 (u8.wrap m):=by
 have h:0<=u8.wrap m/\u8.wrap m<256:=by rw[wrap_u8];omega
 simp only[gD,lx,UInt8.toNat_ofNat'];congr 1;omega
theorem C9 (m:Int):((lx m).toNat:Int)=u8.wrap m:=by
 have h:=Jx m;simpa [gD]using h
section
variable {C:bz} {l:aci} {Q:Exit->ag->Prop} {s:ag}
theorem jb {ros:List bn} {k:ace} (h:ch C (ah l) ros none (λ_ s=>Q .normal (ah (eM k s)))):bw C (.dJ ros (some k)) Q (ah l):=pt (λ_ _ h=>h) h
theorem Jy {ros:List bn} {ey:acb} {k:ace} (hlen:ey.length=ros.length) (h:ch C (ah l) ros (some []) (λacc s=>kd (pv ey) 0 [] (acc.getD []).reverse=true/\Q .normal (ah (eM k s)))):
  bw C (.iZ ros ey (some k)) Q (ah l):=I5 hlen h
theorem RI {a b:aI} (h:∀dy:Exit->ag->Prop,(∀s,c1 (bw C b Q) s->dy .normal s)->(∀s,Q .ret s->dy .ret s)->(∀i s,Q (.exit i) s->dy (.exit i) s)->bw C a dy s):bw C (.seq a b) Q s:=
 h _ (λ_ h=>h) (λ_ h=>h) (λ_ _ h=>h)
theorem dB {ros:List bn} {k:ace} {b:aI} (h:ch C (ah l) ros none (λ_ s=>bw C b Q (ah (eM k s)))):bw C (.seq (.dJ ros (some k)) b) Q (ah l):=pt (λ_ _ h=>.inl h) h
theorem sL {ros:List bn} {ey:acb} {k:ace} {b:aI} (hlen:ey.length=ros.length) (h:ch C (ah l) ros (some []) (λacc s=>kd (pv ey) 0 [] (acc.getD []).reverse=true/\bw C b Q (ah (eM k s)))):
  bw C (.seq (.iZ ros ey (some k)) b) Q (ah l):=I5 (K:=λs=>c1 (bw C b Q) (ah (eM k s))) hlen (by
   have key:∀(os:List bn) (s:ag) (acc:Option (List eF)),ch C s os acc (λacc s=>kd (pv ey) 0 [] (acc.getD []).reverse=true/\bw C b Q (ah (eM k s)))->
     ch C s os acc (λacc s=>kd (pv ey) 0 [] (acc.getD []).reverse=true/\c1 (bw C b Q) (ah (eM k s))):=by
    intro os;induction os with
    |nil=>intro s acc h;exact⟨h.1,.inl h.2⟩
    |cons o os ih=>
     intro s acc h;have mono:∀{s:ag} {bq:de} {K cN:ace->j->ag->Prop},(∀a b c,K a b c->cN a b c)->mR C s bq K->mR C s bq cN:=by
      intro s bq K cN ak h;cases bq with
      |call f args=>
       obtain⟨g,caps,ps,r,R,gd,U,aw,aQ,bk,bS,bL,da⟩:=h;exact⟨g,caps,ps,r,R,gd,U,aw,aQ,bk,bS,bL,ak _ _ _ da⟩
      |shr bq=>obtain⟨av,s1,R,U,aw,aQ⟩:=h;exact⟨av,s1,R,U,aw,ak _ _ _ aQ⟩
      |kG f args us=>
       obtain⟨b1,g,caps,ps,r,R,gd,U,aw,aQ,bk,bS,bL,da,hR⟩:=h;exact⟨b1,g,caps,ps,r,R,gd,U,aw,aQ,bk,bS,bL,da,ak _ _ _ hR⟩
      |_=>obtain⟨av,s1,R,U⟩:=h;exact⟨av,s1,R,ak _ _ _ U⟩
     simp only[ch,lK]at h⊢;split
     .rename_i bo;rw[bo]at h;exact mono (λ_ _ _=>ih _ _) h
     .rename_i t eA bo;rw[bo]at h;simp only at h;split
      .rename_i aa7 J;rw[J]at h;simp only at h;split
       .rename_i I;rw[if_pos I]at h;exact mono (λ_ _ _=>ih _ _) h
       .rename_i I;rw[if_neg I]at h;exact ih _ _ h
      .rename_i J;rw[J]at h;exact ih _ _ h
      .rename_i R U;split at h
       .exact R _ (by assumption)
       .exact U (by assumption)
       .exact h
   exact key _ _ _ h)
theorem kM {c:aR} {a b:aI} (aj:a7 s c= .bool true) (h:bw C a Q s):bw C (.cond c a b) Q s:=by simp only[bw,aj,if_true];exact h
theorem w4 {c:aR} {a b:aI} (aj:a7 s c= .bool false) (h:bw C b Q s):bw C (.cond c a b) Q s:=by simp only[bw,aj];exact h
theorem RJ {id:Nat} {b:aI} (h:∀dy:Exit->ag->Prop,(∀s,Q .normal s->dy .normal s)->(∀s,Q .ret s->dy .ret s)->(∀s,Q .normal s->dy (.exit id) s)->(∀i s,i≠id->Q (.exit i) s->dy (.exit i) s)->bw C b dy s):bw C (.block id b) Q s:=
 h (uq id Q) (λ_ h=>h) (λ_ h=>h) (λs h=>by simp only[uq,if_true];exact h) (λi s ax h=>by simp only[uq,if_neg ax];exact h)
theorem ei {id:Nat} (h:Q (.exit id) s):bw C (.exit id) Q s:=h
theorem ld (h:Q .ret s):bw C .ret Q s:=h
theorem bt (h:Q .normal s):bw C .skip Q s:=h
def dK (C:bz) (b:aI) (Q:Exit->ag->Prop) (s:ag):Prop:=∀Z:ag->Prop,(∀aq,bw C b (andThen (c1 Z) Q) aq->Z aq)->Z s
theorem w5 {b:aI} (h:c1 (dK C b Q) s):bw C (.loop b) Q s:=h
theorem RK {b:aI} (h:∀dy:Exit->ag->Prop,(∀s,c1 (dK C b Q) s->dy .normal s)->(∀s,Q .ret s->dy .ret s)->(∀i s,Q (.exit i) s->dy (.exit i) s)->bw C b dy s):dK C b Q s:=by
 intro Z ur;refine ur s (IB b ?_ (h (andThen (c1 (dK C b Q)) Q) (λ_ h=>h) (λ_ h=>h) (λ_ _ h=>h)));intro e aq bC;cases e with
 |normal=>exact qf (λs h=>h Z ur) aq bC
 |_=>exact bC
theorem cY {bR:aci} (h:bR.map (·.2)=bR.map λp=>s p.1):uo s bR:=by
 intro p ai;left;induction bR with
 |nil=>cases ai
 |cons a bR ih=>
  simp only[List.map_cons,List.cons.injEq]at h;rcases List.mem_cons.1 ai with rfl|ai
  .exact h.1
  .exact ih h.2 ai
end
section
variable {C:bz} {l:aci} {Q:Exit->ag->Prop} {s:ag} {os ros:List bn} {K:Option (List eF)->ag->Prop} {dst:Option Nat}
theorem Jz (l:aci):(∀n,a7 (ah l) (.t n)=kC n (ah l n))/\(∀av,a7 (ah l) (.c av)=av)/\(∀g,a7 (ah l) (.f g)= .fn g []):=⟨λ_=>rfl,λ_=>rfl,λ_=>rfl⟩
theorem JA:(∀t,ah [] t= .hole)/\(∀u d (l:aci) t,ah ((u,d)::l) t=if t=u then d else ah l t):=⟨λ_=>rfl,λ_ _ _ _=>rfl⟩
theorem JB (s:ag):eM [] s=[]/\(∀t k,eM (t::k) s=(t,s t)::eM k s):=⟨rfl,λ_ _=>rfl⟩
theorem JC (s:ag):(∀d,iD s (some d)=some (d,s))/\(∀s1,db (some s1)=some (.hole,s1))/\h0 s []=[]/\(∀x xs,h0 s (x::xs)=a7 s x::h0 s xs)/\rb s []=[]/\(∀k x xs,rb s ((k,x)::xs)=(k,a7 s x)::rb s xs)/\
  w1 s none=none/\(∀x,w1 s (some x)=some (a7 s x))/\(∀b x y,I_ s (.bool b) x y=some (if b=true then x else y,s)):=
 ⟨λ_=>rfl,λ_=>rfl,rfl,λ_ _=>rfl,rfl,λ_ _ _=>rfl,rfl,λ_=>rfl,λb _ _=>by cases b<;>rfl⟩
theorem JD (C:bz):(∀e d,C6 C (.slice e) (some d)=if(C.T e).ok=true/\d.wd=(C.T e).sz then some (.ref d)else none)/\
  (∀y q n e sz xs,w2 C y q n (.slice e) (some (.ao sz xs))=if(cg xs n).isSome=true/\(C.T e).ok=true/\sz=(C.T e).sz then some (.ai y (q++[n.toNat]))else none)/\
  (∀e s xs t,uz C (.slice e) s xs (some t)=if(C.T e).ok=true/\∀d∈xs,d.wd=(C.T e).sz then some (.slice t,s)else none):=
 ⟨λ_ _=>rfl,λ_ _ _ _ _ _=>rfl,λ_ _ _ _=>rfl⟩
theorem JE:(∀b,C4 .bool b=some (.bool b))/\(∀c,C5 .str (some c)=some (.int .u8 c.toNat))/\(∀s t,uy .str s (some t)=some (.str t,s))/\(∀q d,w3 q (some d)=j.sub q d):=
 ⟨λ_=>rfl,λ_=>rfl,λ_ _=>rfl,λ_ _=>rfl⟩
theorem JF (sz bytes:Nat) (z:j):(∀k,fv.ok ⟨.int k,sz,bytes,z⟩=true)/\fv.ok ⟨.bool,sz,bytes,z⟩=true/\fv.ok ⟨.str,sz,bytes,z⟩=true/\(∀e,fv.ok ⟨.ptr e,sz,bytes,z⟩=true)/\(∀e,fv.ok ⟨.slice e,sz,bytes,z⟩=true)/\(∀e,fv.ok ⟨.struct e,sz,bytes,z⟩=true)/\fv.ok ⟨.fn,sz,bytes,z⟩=true:=by
 simp[fv.ok]
theorem JG (sz bytes:Nat) (z:j):(∀k,fv.flat ⟨.int k,sz,bytes,z⟩=true)/\fv.flat ⟨.bool,sz,bytes,z⟩=true/\fv.flat ⟨.str,sz,bytes,z⟩=true/\(∀e,fv.flat ⟨.ptr e,sz,bytes,z⟩=true)/\(∀e,fv.flat ⟨.slice e,sz,bytes,z⟩=true)/\(∀e,fv.flat ⟨.struct e,sz,bytes,z⟩=false)/\fv.flat ⟨.fn,sz,bytes,z⟩=true:=by
 simp[fv.flat]
theorem w6 (c:UInt8) (k:IntKind) (ak:k≠.i8):k.wrap (c.toNat:Int)=(c.toNat:Int):=by
 have:=c.toNat_lt;cases k<;>first|(exact(ak rfl).elim)|(simp[wrap,IntKind.bits,signed];try omega)
theorem C_ (c:UInt8):i64.wrap (c.toNat:Int)=(c.toNat:Int)/\u64.wrap (c.toNat:Int)=(c.toNat:Int)/\u8.wrap (c.toNat:Int)=(c.toNat:Int)/\i32.wrap (c.toNat:Int)=(c.toNat:Int)/\u32.wrap (c.toNat:Int)=(c.toNat:Int):=
 ⟨w6 c _ (by simp),w6 c _ (by simp),w6 c _ (by simp),w6 c _ (by simp),w6 c _ (by simp)⟩
theorem cD {k:ace} {K:ag->Prop} (bR:aci) (h:∀P:aci->Prop,P bR->ch C (ah l) ros none (λ_ s=>P (eM k s))) (ak:K (ah bR)):ch C (ah l) ros none (λ_ s=>K (ah (eM k s))):=
 h (λl=>K (ah l)) ak
theorem qj {k:ace} {mm:acb} {K:ag->Prop} (bR:aci) (h:∀P:aci->Prop,P bR->ch C (ah l) ros (some []) (λacc s=>kd mm 0 [] (acc.getD []).reverse=true/\P (eM k s))) (ak:K (ah bR)):
  ch C (ah l) ros (some []) (λacc s=>kd mm 0 [] (acc.getD []).reverse=true/\K (ah (eM k s))):=
 h (λl=>K (ah l)) ak
theorem bb.RL (a1:C.du) {f:FuncId} {fn:Func} {c:Code} {df:aI} {fx:ace} {as outs:acj} {r:j} (bf:C.P.funcs[f]? =some fn) (I:fn.body=some c)
  (i7:(fn.name== "runtime.NumGoroutine")=false) (J:eI ⟨fn.ntmps,fx⟩ c=some df.strip) (aO:as.length<=fn.ntmps)
  (h:∀Q:Exit->ag->Prop,(∀s,c1 (Ends C fx fn.results.toList r outs) s->Q .ret s)->(∀s,c1 (Ends C fx fn.results.toList r outs) s->Q .normal s)->bw C df Q (ah (num 0 as))) (ai:df.plain=true:=by kernel_rfl):bb C f as r outs:=by
 refine bb.of_wp a1 bf I i7 J aO ?_ ai;rw[wV];exact h _ (λs h=>⟨.inr rfl,h⟩) (λs h=>⟨.inl rfl,h⟩)
def zl:acj->j
 |[d]=>d
 |ds=>.tuple ds
theorem lf {fx:ace} {dw:List ResultVar} {r:j} {outs:acj} (ds:acj) (R:dw.map (ou C s)=ds.map some) (U:r=zl ds) (aw:(dw.map ir).Nodup)
  (aQ:∀(i:Nat) (o:j),outs[i]? =some o->o= .hole\/(o=s i/\o.fh=true/\i∈fx/\i∉dw.map ir)):Ends C fx dw r outs s:=.inl ⟨ds,R,by subst U;cases ds with|nil=>rfl|cons a t=>cases t<;>rfl,aw,aQ⟩
theorem RM {fx:ace} {dw:List ResultVar}:∀(i:Nat) (o:j),([]:acj)[i]? =some o->o= .hole\/(o=s i/\o.fh=true/\i∈fx/\i∉dw.map ir):=λi o h=>by simp at h
theorem JH:∀(as ds:acj),(lJ as ds).filter (·.g)=[]
 |[],_=>rfl
 |_::_,[]=>rfl
 |a::as,d::ds=>by simp only[lJ,List.filter_cons];exact JH as ds
theorem zm {f:aR} {args:List aR} {g:FuncId} {caps:acj} {K:ace->j->ag->Prop} (ds:acj) (r:j)
  (R:a7 (ah l) f= .fn g caps) (gd:j.dj caps=true) (hA:views (ah l) (h0 (ah l) args++caps)=some ds)
  (bk:bb C g ds r []) (bS:r.res=true) (bL:j.dG (h0 (ah l) args++caps)=[]\/r.b5=true) (hK:K [] r (ah l)):mR C (ah l) (.call f args) K:=by
 obtain⟨aH,aN,aP,bQ,b_,bM,bH⟩:=Q6 _ _ hA;refine⟨g,caps,lJ (h0 (ah l) args++caps) ds,r,R,gd,by rw[aH,re],λp ai=>(aP p ai).1,bQ,by rw[aN];exact bk.outs b_.symm,bS,?_,by rw[bM,bH,JH];exact hK⟩;intro hl;refine⟨?_,λp ai=>by rw[(aP p ai).2.2.1];rfl⟩;rcases bL with bL|bL
 .exfalso;simp only[gE,List.any_eq_true]at hl;obtain⟨p,ai,dQ⟩:=hl;have hm:=(aP p ai).2.2.2;have:p.a.J=[]:=by
   have key:∀(as:acj) (a:j),a∈as->j.dG as=[]->a.J=[]:=by
    intro as;induction as with
    |nil=>intro a h;cases h
    |cons b as ih=>
     intro a h he;simp only[j.dG,List.append_eq_nil_iff]at he;rcases List.mem_cons.1 h with rfl|h
     .exact he.1
     .exact ih a h he.2
   exact key _ _ hm bL
  rw[this]at dQ;simp at dQ
 .exact bL
theorem dk {f:aR} {args:List aR} {g:FuncId} {caps:acj} {ds:acj} {r:j} (bk:bb C g ds r [])
  (R:a7 (ah l) f= .fn g caps:=by rfl) (gd:j.dj caps=true:=by rfl) (hA:views (ah l) (h0 (ah l) args++caps)=some ds:=by rfl)
  (bS:r.res=true:=by rfl) (bL:j.dG (h0 (ah l) args++caps)=[]\/r.b5=true:=by exact .inl (by rfl))
  (hK:ch C (fin (ah l) dst r) os none K):ch C (ah l) (⟨dst,.call f args,none⟩::os) none K:=by
 simp only[ch,lK,pr];exact zm ds r R gd hA bk bS bL hK
theorem mS {a:List eF} {f:aR} {args:List aR} {g:FuncId} {caps:acj} {ds:acj} {r:j} (bk:bb C g ds r [])
  (R:a7 (ah l) f= .fn g caps:=by rfl) (gd:j.dj caps=true:=by rfl) (hA:views (ah l) (h0 (ah l) args++caps)=some ds:=by rfl)
  (bS:r.res=true:=by rfl) (bL:j.dG (h0 (ah l) args++caps)=[]\/r.b5=true:=by exact .inl (by rfl))
  (hK:ch C (fin (ah l) dst r) os (some (hZ (ah l) (use (ah l) (.call f args)) dst [] r::a)) K):ch C (ah l) (⟨dst,.call f args,none⟩::os) (some a) K:=by
 simp only[ch,lK,pr];exact zm ds r R gd hA bk bS bL hK
theorem lM {t:Nat} {b:Bool} {f:aR} {args:List aR} {g:FuncId} {caps:acj} {ds:acj} {r:j} (bk:bb C g ds r [])
  (R:a7 (ah l) f= .fn g caps:=by rfl) (gd:j.dj caps=true:=by rfl) (hA:views (ah l) (h0 (ah l) args++caps)=some ds:=by rfl)
  (bS:r.res=true:=by rfl) (bL:j.dG (h0 (ah l) args++caps)=[]\/r.b5=true:=by exact .inl (by rfl))
  (hK:ch C (fin (ah l) dst r) os none K):ja C l dst (.call f args) t b os none K (.bool b):=by
 simp only[ja,if_true];exact zm ds r R gd hA bk bS bL hK
theorem zn {a:List eF} {t:Nat} {b:Bool} {f:aR} {args:List aR} {g:FuncId} {caps:acj} {ds:acj} {r:j} (bk:bb C g ds r [])
  (R:a7 (ah l) f= .fn g caps:=by rfl) (gd:j.dj caps=true:=by rfl) (hA:views (ah l) (h0 (ah l) args++caps)=some ds:=by rfl)
  (bS:r.res=true:=by rfl) (bL:j.dG (h0 (ah l) args++caps)=[]\/r.b5=true:=by exact .inl (by rfl))
  (hK:ch C (fin (ah l) dst r) os (some (hZ (ah l) (t::use (ah l) (.call f args)) dst [] r::a)) K):ja C l dst (.call f args) t b os (some a) K (.bool b):=by
 simp only[ja,if_true];exact zm ds r R gd hA bk bS bL hK
theorem hq (s:ag):views s []=some []/\(∀d ds,views s (d::ds)=(match view s d,views s ds with|some a,some b=>some (a::b)|_,_=>none))/\
  (∀k n,view s (.int k n)=some (.int k n))/\(∀b,view s (.bool b)=some (.bool b))/\(∀x,view s (.str x)=some (.str x))/\(∀x,view s (.slice x)=some (.slice x))/\(∀x,view s (.ref x)=some (.ref x))/\
  view s .bc=some .bc/\view s .c6=some .c6/\(∀ar,view s (.agg ar)=some (.agg ar))/\(∀f cap,view s (.fn f cap)=(views s cap).map (.fn f)):=by
 refine⟨rfl,λd ds=>?_,λ_ _=>rfl,λ_=>rfl,λ_=>rfl,λ_=>rfl,λ_=>rfl,rfl,rfl,λ_=>rfl,λ_ _=>by simp only[view]⟩;simp only[views];rfl
theorem cP {α:Type} {u e:α->j} (h:∀x,(u x).share=e x) (xs:List α):j.shares (xs.map u)=xs.map e:=by
 rw[j.qR];simp[h]
theorem iP {α:Type} {u:α->j} (h:∀x,(u x).b5=true) (xs:List α):j.fU (xs.map u)=true:=by
 induction xs with
 |nil=>rfl
 |cons x xs ih=>simp only[List.map_cons,j.fU,h,ih,Bool.and_self]
def rf (s:ag) (H:ace):aci->Prop
 |[]=>True
 |p::l=>(p.2=s p.1\/((s p.1).tree=true/\ew (s p.1) p.2/\p.1∉H))/\rf s H l
theorem nQ {bR:aci} (H:ace) (lb:j.dG (bR.map (·.2))=H) (h:rf s H bR):uo s bR:=by
 have key:∀(eQ:aci),rf s H eQ->∀p∈eQ,p.2=s p.1\/((s p.1).tree=true/\ew (s p.1) p.2/\p.1∉H):=by
  intro eQ;induction eQ with
  |nil=>intro _ p ai;cases ai
  |cons a eQ ih=>
   intro h p ai;rcases List.mem_cons.1 ai with rfl|ai
   .exact h.1
   .exact ih h.2 p ai
 have J:∀(eQ:aci),∀cm∈eQ,∀u∈cm.2.J,u∈j.dG (eQ.map (·.2)):=by
  intro eQ;induction eQ with
  |nil=>intro p ai;cases ai
  |cons a eQ ih=>
   intro p ai u hu;simp only[List.map_cons,j.dG,List.mem_append];rcases List.mem_cons.1 ai with rfl|ai
   .exact .inl hu
   .exact .inr (ih p ai u hu)
 intro p ai;rcases key _ h p ai with R|⟨R,U,aw⟩
 .exact .inl R
 .refine .inr ⟨R,U,λcm dF=>.inl λhm=>aw ?_⟩;rw[<-lb];exact J bR cm dF _ hm
theorem nR {H:ace}:rf s H []:=trivial
theorem jF {H:ace} {t:Nat} {d:j} {bR:aci} (h:d=s t) (hl:rf s H bR):rf s H ((t,d)::bR):=⟨.inl h,hl⟩
theorem mT {H:ace} {t:Nat} {d bd:j} {bR:aci} (e:s t=d) (aK:d.tree=true) (ad:ew d bd) (lb:t∉H) (hl:rf s H bR):rf s H ((t,bd)::bR):=⟨.inr ⟨by rw[e];exact aK,by rw[e];exact ad,lb⟩,hl⟩
theorem JI {a b:j} (h:ew a b):∀n,jE (List.replicate n a) (List.replicate n b)
 |0=>.nil
 |n+1=>by simp only[List.replicate_succ];exact .cons h (JI h n)
theorem JJ {α:Type} {sz:Nat} {u:α->j} {z:α} {a:j} (h:ew a (u z)) (n:Nat):ew (.ao sz (List.replicate n a)) (.ao sz ((List.replicate n z).map u)):=by
 rw[List.map_replicate];exact .ao (JI h n)
end
theorem JK {C:bz} {A B:TypeId} {cO:IntKind} (hW:(C.T A).ok=true) (gj:(C.T B).k= .int cO):∀s k n,hV C s A B (.int k n)=some (.int cO (cO.wrap n)):=λs k n=>RH C s A B k cO n hW gj
def JL:Option j->Option j
 |some (.ao 1 xs)=>(bytesOf xs).map .str
 |_=>none
theorem JM {C:bz} {A B e:TypeId} (hW:(C.T A).k= .slice e) (gj:(C.T B).k= .str) (he:(C.T e).k= .int .u8):
  (∀s xs,hV C s A B (.slice xs)=(bytesOf xs).map .str)/\(∀s,hV C s A B .bc=some (.str []))/\(∀s x q,hV C s A B (.h x q)=JL (j.sub q (s x))):=by
 have wt:(C.T A).ok=true:=by simp[fv.ok,hW]
 refine⟨λs xs=>?_,λs=>?_,λs x q=>?_⟩
 .simp only[hV,wt,hW,gj,he,if_true]
 .simp only[hV,wt,hW,gj,he,if_true]
 .simp only[hV,wt,hW,gj,he,if_true];rfl
theorem JN (xs:acj):JL (some (.ao 1 xs))=(bytesOf xs).map .str:=rfl
theorem JO (c:UInt8) (r:acj):bytesOf (gD c::r)=(bytesOf r).map (c::·):=by
 have:=c.toNat_lt;simp only[gD,bytesOf];rw[if_pos (by omega)];simp
theorem JP:bytesOf []=some []/\
  (∀l:aca,bytesOf (l.map gD)=some l)/\
  (∀c r,bytesOf (.int .u8 (c.toNat:Int)::r)=(bytesOf r).map (c::·))/\
  (∀m r,bytesOf (.int .u8 (u8.wrap m)::r)=(bytesOf r).map (lx m::·)):=
 ⟨rfl,OO,λc r=>JO c r,λm r=>by rw[<-Jx];exact JO _ r⟩
theorem JQ {k:IntKind} {b:Int} (h:b≠0):∀a,hU .quo k a k b=some (.int k (k.wrap (a.tdiv b))):=λ_=>RE h
theorem rh {k:IntKind} {b:Int} (h:b≠0):∀a,hU .rem k a k b=some (.int k (a.tmod b)):=λ_=>RF h
theorem qk {α:Type} {e:α->j} {n:Nat} (h:∀x,(e x).wd=n):∀xs:List α,(∀d∈xs.map e,d.wd=n)=True:=RG h
theorem oy {P:j->Prop} (d:j) (ds:acj):(∀x∈d::ds,P x)=(P d/\∀x∈ds,P x):=by simp
theorem all_nil {P:j->Prop}:(∀x∈([]:acj),P x)=True:=by simp
def JR (a b:aca):Option Unit->Option j
 |some _=>some (.str (a++b))
 |none=>none
theorem pw (a b:aca):mL .add a b=JR a b (h8 (a.length+b.length)):=by
 simp only[mL,h8];split<;>rfl
theorem px (a b:aca) (u:Unit):JR a b (some u)=some (.str (a++b)):=rfl
theorem JS:(∀l:ace,[]++l=l)/\(∀a (l m:ace),(a::l)++m=a::(l++m)):=⟨λ_=>rfl,λ_ _ _=>rfl⟩
def JT (C:bz) (e bV:TypeId):Bool:=(C.T e).ok&&((C.T e).zero.wd==(C.T e).sz)&&(flat (C.T e).zero).isSome&&yS C e bV
def zo (C:bz) (e:TypeId) (xs:acj):Option (acj×ag)->Option (j×ag)
 |some (b0,s2)=>if(∀d∈b0,d.wd=(C.T e).sz)/\(room (C.T e).bytes (xs.length+b0.length)).isSome=true then some (.ao (C.T e).sz (xs++b0),s2)else none
 |none=>none
def Da (C:bz) (e:TypeId) (y:j) (o:Option Nat):Option (j×ag)->Option (j×ag)
 |some (.ao sz xs,s1)=>if sz=(C.T e).sz then zo C e xs (kH s1 (jQ o y))else none
 |_=>none
theorem RN (b n:Nat):(room b n).isSome=true↔n*b<=140737488355328/\n<=9223372036854775807:=by unfold room;split<;>simp_all
theorem oz {C:bz} {T bV e:TypeId} (e1:(C.T T).k= .slice e) (el:JT C e bV=true):∀s x y,p8 C s T bV x y=Da C e y x.owner (pf C e s x):=by
 intro s x y;simp only[JT,Bool.and_eq_true,beq_iff_eq]at el;rw[Cq,e1];simp only;rw[if_pos ⟨el.1.1.1,el.1.1.2,el.1.2,el.2⟩];generalize x.owner=o;cases pf C e s x with
 |none=>rfl
 |some p=>
  obtain⟨d,s1⟩:=p;cases d<;>first
   |rfl
   |(simp only[Da]
     split
     .rename_i h;subst h;generalize kH s1 (jQ o y)=z;cases z with
      |none=>rfl
      |some p=>simp only[zo,RN]
     .rfl)
def JU:Option (j×ag)->Option (acj×ag)
 |some (.ao _ b0,s2)=>some (b0,s2)
 |_=>none
theorem oA (s:ag):kH s .bc=some ([],s)/\(∀b0,kH s (.slice b0)=some (b0,s))/\(∀l,kH s (.str l)=some (l.map gD,s))/\
  (∀a q,kH s (.h a q)=JU (cr s (.h a q)))/\(∀n b0,JU (some (.ao n b0,s))=some (b0,s)):=
 ⟨rfl,λ_=>rfl,λ_=>rfl,λ_ _=>by simp only[kH];rfl,λ_ _=>rfl⟩
theorem oB (C:bz) (e:TypeId):(∀s,pf C e s .bc=some (.ao (C.T e).sz [],s))/\(∀s a q,pf C e s (.h a q)=cr s (.h a q))/\
  (∀y o sz xs s1,Da C e y o (some (.ao sz xs,s1))=if sz=(C.T e).sz then zo C e xs (kH s1 (jQ o y))else none)/\
  (∀xs b0 s2,zo C e xs (some (b0,s2))=if(∀d∈b0,d.wd=(C.T e).sz)/\(room (C.T e).bytes (xs.length+b0.length)).isSome=true then some (.ao (C.T e).sz (xs++b0),s2)else none):=
 ⟨λ_=>rfl,λ_ _ _=>rfl,λ_ _ _ _ _=>rfl,λ_ _ _=>rfl⟩
theorem mn:(∀d,jQ none d=d)/\(∀x d,jQ (some x) d=bU x d)/\(∀x q,j.owner (.h x q)=some x)/\j.owner .bc=none:=
 ⟨λ_=>rfl,λ_ _=>rfl,λ_ _=>rfl,rfl⟩
def JV (s:ag) (x:Nat) (q:ace):Option j->Option (j×ag)
 |some d=>if d.plain=true then none else some (d,cw (gO x s) x (j.put q d.cv (s x)))
 |none=>none
theorem JW (s:ag) (x:Nat) (q:ace):cr s (.h x q)=JV s x q (j.sub q (s x)):=by
 simp only[cr];cases j.sub q (s x)<;>rfl
theorem JX (s:ag):(∀x q d,JV s x q (some d)=if d.plain=true then none else some (d,cw (gO x s) x (j.put q d.cv (s x))))/\(∀k n,cr s (.int k n)=some (.int k n,s))/\(∀b,cr s (.bool b)=some (.bool b,s))/\(∀x,cr s (.str x)=some (.str x,s))/\
  (∀x,cr s (.slice x)=some (.slice x,s))/\(∀x,cr s (.ref x)=some (.ref x,s))/\(∀x,cr s (.agg x)=some (.agg x,s))/\cr s .bc=some (.bc,s)/\cr s .c6=some (.c6,s):=
 ⟨λ_ _ _=>rfl,λ_ _=>rfl,λ_=>rfl,λ_=>rfl,λ_=>rfl,λ_=>rfl,λ_=>rfl,rfl,rfl⟩
theorem JY (l:aci) (t:Nat) (d:j):cw (ah l) t d=ah ((t,d)::l):=po l t d
theorem JZ:(∀n x,j.cv (.ao n x)= .hole)/\(∀x,j.cv (.aV x)= .hole)/\(∀ar,j.cv (.agg ar)= .agg (j.kA ar))/\(∀ar,j.cv (.tuple ar)= .tuple (j.kA ar))/\j.kA []=[]/\(∀d ds,j.kA (d::ds)=d.cv::j.kA ds)/\
  (∀k n,j.cv (.int k n)= .int k n)/\(∀b,j.cv (.bool b)= .bool b)/\(∀x,j.cv (.str x)= .str x)/\(∀x,j.cv (.slice x)= .slice x)/\(∀x,j.cv (.ref x)= .ref x)/\j.cv .bc= .bc/\j.cv .c6= .c6/\j.cv .hole= .hole:=by
 simp[j.cv,j.kA]
def sM:Option j->Option j
 |some d=>(match d with| .tuple _=>none| .b3 _=>none| .a8 _ _=>none| .cH _=>none|d=>if d.plain=true then none else some d.share)
 |none=>none
def sN:Option j->Option j
 |some d=>(match d with| .tuple _=>none|d=>some (.ref d.share))
 |none=>none
theorem hr (s:ag) (x:Nat) (q:ace):view s (.h x q)=sM (j.sub q (s x))/\view s (.ai x q)=(if j.eP q (s x)=true then sN (j.sub q (s x))else none):=by
 constructor
 .simp only[view];rfl
 .simp only[view];rfl
theorem hs:(∀n xs,sM (some (.ao n xs))=some (.slice (j.shares xs)))/\(∀d,sM (some (.aV d))=some (.ref d.share))/\(∀ar,sM (some (.agg ar))=if j.dj ar=true then none else some (.agg (j.shares ar)))/\
  (∀ar,sN (some (.agg ar))=some (.ref (.agg (j.shares ar))))/\(∀k n,sN (some (.int k n))=some (.ref (.int k n)))/\(∀x,sN (some (.str x))=some (.ref (.str x))):=
 ⟨λ_ _=>by simp[sM,j.plain,j.share],λ_=>by simp[sM,j.plain,j.share],λar=>by cases h:j.dj ar<;>simp[sM,j.plain,j.share,h],λ_=>by simp[sN,j.share],λ_ _=>by simp[sN,j.share],λ_=>by simp[sN,j.share]⟩
theorem dL:(∀n xs,j.share (.ao n xs)= .slice (j.shares xs))/\(∀d,j.share (.aV d)= .ref d.share)/\(∀xs,j.share (.slice xs)= .slice (j.shares xs))/\(∀d,j.share (.ref d)= .ref d.share)/\(∀ar,j.share (.agg ar)= .agg (j.shares ar))/\(∀ar,j.share (.tuple ar)= .tuple (j.shares ar))/\
  (∀k n,j.share (.int k n)= .int k n)/\(∀b,j.share (.bool b)= .bool b)/\(∀x,j.share (.str x)= .str x)/\j.share .bc= .bc/\j.share .c6= .c6/\j.shares []=[]/\(∀d ds,j.shares (d::ds)=d.share::j.shares ds):=by
 simp[j.share,j.shares]
def sO (sz:Nat):Option (acj×ag)->Option (j×ag)
 |some (ds,s1)=>some (.ao sz ds,s1)
 |none=>none
def eJ:Option (acj×ag)->Option (j×ag)
 |some (ds,s1)=>some (.agg ds,s1)
 |none=>none
theorem J0 {C:bz} {T e n sz:Nat} {dR:acj} (e1:(C.T T).k= .slice e) (dm:(C.T e).sz=sz) (bD:List.replicate n (C.T e).zero=dR)
  (el:((C.T e).ok&&((C.T e).zero.wd==sz)&&(flat (C.T e).zero).isSome&&(sz !=0)&&decide (n*sz<=16777216))=true):∀s ps,eD C s T n ps=sO sz (jw (λk=>some (k*sz,sz)) s dR [] ps):=by
 intro s ps;subst dm;simp only[Bool.and_eq_true,beq_iff_eq,bne_iff_ne,decide_eq_true_eq]at el;obtain⟨⟨⟨⟨R,U⟩,aw⟩,aQ⟩,bk⟩:=el;unfold eD;rw[e1];simp only;rw[if_pos ⟨R,U,aw,aQ,bk⟩,bD];cases jw (λk=>some (k*(C.T e).sz,(C.T e).sz)) s dR [] ps<;>rfl
theorem Db {C:bz} {T:Nat} {ar:List (TypeId×Nat)} {dR:acj} (e1:(C.T T).k= .struct ar) (bD:(C.T T).zero= .agg dR)
  (el:((flat (.agg dR)).isSome&&ar.all λf=>(C.T f.1).ok)=true):∀s ps,hi C s T ps=eJ (jw (λk=>(ar[k]?).map λf=>(f.2,(C.T f.1).sz)) s dR [] ps):=by
 intro s ps;simp only[Bool.and_eq_true,List.all_eq_true]at el;unfold hi;rw[e1,bD];simp only;rw[if_pos ⟨el.1,el.2⟩];cases jw (λk=>(ar[k]?).map λf=>(f.2,(C.T f.1).sz)) s dR [] ps<;>rfl
def d_ (place:Nat->Option (Nat×Nat)) (k:Nat) (dR:acj) (os:List (Option Nat)) (r:aci) (o:Option Nat):Option (Nat×Nat)->Option j->Option (j×ag)->Option (acj×ag)
 |some (off,n),some z,some (d,s1)=>(match d with
  | .tuple _=>none
  |d=>if d.wd=n/\z.wd=n/\j.di (dR.take k)=off then jw place s1 (dR.set k d) (os++[o]) r else none)
 |_,_,_=>none
theorem w7 (place:Nat->Option (Nat×Nat)) (s:ag) (dR:acj) (os:List (Option Nat)):jw place s dR os []=some (dR,s)/\
  (∀k a r,jw place s dR os ((k,a)::r)=d_ place k dR os r (j9 os a).owner (place k) dR[k]? (cr s (j9 os a))):=by
 refine⟨rfl,λk a r=>?_⟩;simp only[jw];cases cr s (j9 os a)with
 |none=>cases place k<;>cases dR[k]? <;>rfl
 |some p=>
  obtain⟨d,s1⟩:=p;cases place k with
  |none=>cases dR[k]? <;>rfl
  |some q=>cases dR[k]? <;>(cases d<;>rfl)
theorem w8:(∀a,j9 [] a=a)/\(∀o os a,j9 (o::os) a=j9 os (jQ o a)):=⟨λ_=>rfl,λ_ _ _=>rfl⟩
theorem fj:(∀k n,j.owner (.int k n)=none)/\(∀b,j.owner (.bool b)=none)/\(∀x,j.owner (.str x)=none)/\(∀x,j.owner (.slice x)=none)/\(∀x,j.owner (.ref x)=none)/\(∀x,j.owner (.agg x)=none)/\j.owner .c6=none/\j.owner .bc=none/\(∀x q,j.owner (.h x q)=some x):=
 ⟨λ_ _=>rfl,λ_=>rfl,λ_=>rfl,λ_=>rfl,λ_=>rfl,λ_=>rfl,rfl,rfl,λ_ _=>rfl⟩
end Go.cG
