/- Part of a proof that a law returns true for every input. No condition. -/
import Derived.Test.YtmaepbgkcmjcjafGreatDoorFwE
import Derived.Orders
import Derived.KernelRfl
import Derived.Test.YtmaepbgkcmjcjafGreatDoorFwA
namespace Go.eg
open Go.IntKind Nat
section
variable {C:cm} {w0 w:World} {F0 X:Nat->Prop} {n:Fr} {ρ:Nat->Value} {s s1:ak} {a:Act} {av:I} {Q:Exit->Act->World->Prop}
def cu.un (o:cu):cu:=⟨o.dst,o.bX.base,o.guard⟩
theorem Eu {ops:Array Oper}:∀{os:List Oper} {rs:List cu},tO n ops os=some rs->os.length=rs.length/\∀(i:Nat) (o:Oper),os[i]? =some o->∃r,rs[i]? =some r/\tN n ops o=some r:=by
 intro os;induction os with
 |nil=>intro rs h;simp only[tO,Option.some.injEq]at h;subst h;exact⟨rfl,λi o h=>by simp at h⟩
 |cons o os ih=>
  intro rs h;simp only[tO]at h;split at h
  .rename_i r awp ad af;simp only[Option.some.injEq]at h;subst h;obtain⟨bS,ct⟩:=ih af;refine⟨by simp[bS],λi qk bI=>?_⟩;cases i with
   |zero=>simp at bI;subst bI;exact⟨r,rfl,ad⟩
   |succ i=>simpa using ct i qk (by simpa using bI)
  .cases h
theorem Ik {o:Oper} {y:Nat->ayg} (h:o.guard=none):Region.wanted o y=true:=by simp[Region.wanted,h]
theorem aeG (h:Rel w0 F0 X n ρ s a w) {ops:Array Oper} {j t:Nat} (bF:(ops[j]?).bind (·.dst)=some t):
  (∀b,s t= .bool b->yielded ops a.tmps j=some b)/\(s t= .tuple []->yielded ops a.tmps j=none):=by
 obtain⟨an,ab,bD,F,S,aQ⟩:=h;have lg:=aQ.el t;refine⟨λb aa=>?_,λaa=>?_⟩
 .rw[aa]at lg;have aJ:=w4 lg;simp only[yielded,bF,Option.bind_some];rw[Array.getD_eq_getD_getElem?]at aJ;cases hg:a.tmps[t]? with
  |none=>rw[hg]at aJ;simp[undef]at aJ
  |some v=>rw[hg]at aJ;simp at aJ;subst aJ;rfl
 .rw[aa]at lg;obtain⟨⟨arr,ad,af⟩,_⟩:=(aO.dh (d:=.tuple []) rfl).1 lg;simp only[yielded,bF,Option.bind_some];rw[Array.getD_eq_getD_getElem?]at ad;cases hg:a.tmps[t]? with
  |none=>rfl
  |some v=>rw[hg]at ad;simp at ad;subst ad;rfl
theorem M_ (bP:C.fH) {ops:Array Oper} {ros:List cu} {l2:ayf} {K:ak->Prop} (aV:∀aH dt aN,K aH->Rel w0 F0 X n ρ aH dt aN->wpOps C.P ops Q l2 dt aN):
  ∀(l:ayf),(∀i∈l,(ops[i]? =none->ros[i]? =none)/\∀o,ops[i]? =some o->∃r,ros[i]? =some r/\tN n ops o=some r.un)->
  ∀(s:ak) (a:Act) (w:World),kH C ros s l K->Rel w0 F0 X n ρ s a w->wpOps C.P ops Q (l++l2) a w:=by
 intro l;induction l with
 |nil=>intro _ s a w h aQ;exact aV s a w h aQ
 |cons i l ih=>
  intro rb s a w h aQ;replace ih:=ih λi aj=>rb i (List.mem_cons_of_mem _ aj);rw[List.cons_append];simp only[wpOps];cases bI:ops[i]? with
  |none=>
   simp only[kH,(rb i (by simp)).1 bI]at h;exact ih s a w h aQ
  |some o=>
   obtain⟨r,ad,af⟩:=(rb i (by simp)).2 o bI;simp only[kH,ad]at h;show(if Region.wanted o (yielded ops a.tmps)=true then o.wp C.P a w (wpOps C.P ops Q (l++l2)) Q\/(o.asks C.P a w/\LetsOut Q)else wpOps C.P ops Q (l++l2) (a.put o.dst undef) w);simp only[tN]at af;split at af
   .rename_i Il;split at af
    .rename_i g hg;obtain⟨rd,bX,rg⟩:=r;simp only[cu.un,Option.some.injEq,cu.mk.injEq]at af;obtain⟨rfl,c7,rfl⟩:=af;simp only[oG]at h;have run:∀(eD:ak->Prop),(∀aH,eD aH->kH C ros aH l K)->ra C s bX (λav s1=>eD (fin s1 o.dst av))->o.wp C.P a w (wpOps C.P ops Q (l++l2)) Q:=
      λeD jJ hw=>aeE bP aQ c7 Il hw (λaH dt aN au fw=>ih aH dt aN (jJ aH au) fw)
     cases A5:o.guard with
     |none=>
      rw[A5]at hg;simp only[En,Option.some.injEq]at hg;subst hg;simp only at h;rw[if_pos (Ik A5)];exact .inl (run _ (λ_ h=>h) h)
     |some Na=>
      obtain⟨j,b⟩:=Na;rw[A5]at hg;simp only[En]at hg;split at hg
      .rename_i t ba;simp only[Option.some.injEq]at hg;subst hg;simp only at h;obtain⟨ft,hr⟩:=aeG aQ ba;have U4:∀(eD:kH C ros (fin s o.dst (.tuple [])) l K),wpOps C.P ops Q (l++l2) (a.put o.dst undef) w:=λeD=>ih _ _ _ eD (Rel.skip aQ Il);split at h
       .rename_i gL ab;have hy:=ft gL ab;split at h
        .rename_i aa;subst aa;rw[if_pos (by simp[Region.wanted,A5,hy])];exact .inl (run _ (λ_ h=>h) h)
        .rename_i aa;rw[if_neg (by simp[Region.wanted,A5,hy,aa])];exact U4 h
       .rename_i ab;have hy:=hr ab;rw[if_neg (by simp[Region.wanted,A5,hy])];exact U4 h
       .exact h.elim
      .cases hg
    .cases af
   .cases af
theorem U5 (bP:C.fH) {ops:Array Oper} {ros:List cu} (xj:tO n ops ops.toList=some (ros.map cu.un)) {K:ak->Prop} (aV:∀aH dt aN,K aH->Rel w0 F0 X n ρ aH dt aN->Q .normal dt aN):
  ∀(l:ayf) (s:ak) (a:Act) (w:World),kH C ros s l K->Rel w0 F0 X n ρ s a w->wpOps C.P ops Q l a w:=by
 obtain⟨hl,rb⟩:=Eu xj;intro l s a w h aQ;have:=M_ (Q:=Q) bP (ros:=ros) (ops:=ops) (l2:=[]) (K:=K) (n:=n) (ρ:=ρ) (w0:=w0) (F0:=F0) (X:=X) (λaH dt aN au fw=>aV aH dt aN au fw) l (λi _=>⟨λbI=>by
   rw[List.getElem?_eq_none_iff,<-List.length_map (f:=cu.un),<-hl];have:=Array.getElem?_eq_none_iff.1 bI;simpa using this,λo bI=>by
   obtain⟨ai,k9,af⟩:=rb i o (by simpa using bI);obtain⟨r,ad,rfl⟩:∃r,ros[i]? =some r/\r.un=ai:=by simpa using k9
   exact⟨r,ad,af⟩⟩) s a w h aQ
 rwa [List.append_nil]at this
theorem Rel.drawn (h:Rel w0 F0 X n ρ s a w) (k:Nat) (au:w.drawn<=k):Rel w0 F0 X n ρ s a {w with drawn:=k}:=by
 obtain⟨ad,af,bD,F,S,aG⟩:=h;exact⟨ad,af,bD,F,S,aG.grow (λ_ _=>rfl) (Nat.le_refl _) rfl rfl ⟨rfl,λ_=>au⟩⟩
theorem aeH (bP:C.fH) {id:Nat} {ops:Array Oper} {ros:List cu} (xj:tO n ops ops.toList=some (ros.map cu.un)) {K:ak->Prop} (aV:∀aH dt aN,K aH->Rel w0 F0 X n ρ aH dt aN->Q .normal dt aN)
  (h:n7 C s ros K) (aQ:Rel w0 F0 X n ρ s a w):(Code.region id ops false).wp C.P Q a w:=by
 refine wp_region (U5 bP xj aV _ s a w ?_ aQ);have:=aeq C K ros [] s h;have hl:=(Eu xj).1;simp only[List.nil_append,List.length_nil,Nat.add_zero,List.map_id']at this;rw[List.length_map]at hl;rw[<-hl]at this;simpa using this
end
def sx (sy:ayd) (l:ayf):Prop:=
 l.Nodup/\(∀i,i∈l↔i<sy.length)/\∀u i v,l=u++i::v->∀e∈(sy[i]?).getD [],e∈u
def re (ops:Array Oper):ayd:=ops.toList.map λo=>(o.after.toList.filter λe=>Region.binds .any e).map (·.on)
def Ev (sy:ayd):Bool:=sy.zipIdx.all λp=>p.1.all λe=>decide (e<p.2)
theorem aeI {sy:ayd} (h:Ev sy=true) {i:Nat} {l:ayf} (aj:sy[i]? =some l):∀e∈l,e<i:=by
 intro e he;simp only[Ev,List.all_eq_true]at h;have:=h (l,i) (by rw[List.mem_zipIdx_iff_getElem?];exact aj) e he;simpa using this
theorem aeJ {ops:Array Oper} (aa:Ev (re ops)=true):∀(fuel t:Nat) (listed:Array Bool),listed.size=ops.size->((List.range ops.size).filter λi=> !listed.getD i true).length<=fuel->
  (Region.linearise.go .any ops fuel t listed []).Nodup/\(∀i,i∈Region.linearise.go .any ops fuel t listed []↔(i<ops.size/\listed.getD i true=false))/\
   ∀u i v,Region.linearise.go .any ops fuel t listed []=u++i::v->∀e∈((re ops)[i]?).getD [],listed.getD e false=true\/e∈u:=by
 intro fuel;induction fuel with
 |zero=>
  intro t listed ab hl;have D_:((List.range ops.size).filter λi=> !listed.getD i true)=[]:=List.length_eq_zero_iff.1 (le_zero.1 hl);refine⟨by simp[Region.linearise.go],λi=>?_,λu i v h=>by simp[Region.linearise.go]at h⟩;simp only[Region.linearise.go,List.reverse_nil,List.not_mem_nil,false_iff,not_and];intro aj bD;have:i∈((List.range ops.size).filter λi=> !listed.getD i true):=List.mem_filter.2 ⟨List.mem_range.2 aj,by rw[bD];rfl⟩;rw[D_]at this;cases this
 |succ fuel ih=>
  intro t listed ab hl;have U6:∀i,i∈Region.ready .any ops listed↔(i<ops.size/\listed.getD i true=false/\∀e∈((re ops)[i]?).getD [],listed.getD e false=true):=by
   intro i;simp only[Region.ready,List.mem_filter,List.mem_range,Bool.and_eq_true,Bool.not_eq_true'];constructor
   .rintro⟨ad,af,aG⟩;refine⟨ad,af,?_⟩;rw[Array.getElem?_eq_getElem ad]at aG;simp only[Option.map_some,Option.getD_some,Array.all_eq_true_iff_forall_mem]at aG;simp only[re,List.getElem?_map,Array.getElem?_toList,Array.getElem?_eq_getElem ad,Option.map_some,Option.getD_some,List.mem_map,List.mem_filter];rintro e ⟨x,⟨ao,yP⟩,rfl⟩;have:=aG x (by simpa using ao);simpa [yP]using this
   .rintro⟨ad,af,aG⟩;refine⟨ad,af,?_⟩;rw[Array.getElem?_eq_getElem ad];simp only[Option.map_some,Option.getD_some,Array.all_eq_true_iff_forall_mem];simp only[re,List.getElem?_map,Array.getElem?_toList,Array.getElem?_eq_getElem ad,Option.map_some,Option.getD_some,List.mem_map,List.mem_filter]at aG;intro x ao;cases yP:Region.binds .any x with
    |false=>simp
    |true=>simpa using aG x.on ⟨x,⟨by simpa using ao,yP⟩,rfl⟩
  have hex:(∃i,i<ops.size/\listed.getD i true=false)->Region.ready .any ops listed≠[]:=by
   rintro⟨i,ad,af⟩;have:∃i,(i<ops.size/\listed.getD i true=false)/\∀j,j<i->¬(j<ops.size/\listed.getD j true=false):=by
    induction i using Nat.strongRecOn with
    |_ i aeK=>
     by_cases bF:∃j,j<i/\(j<ops.size/\listed.getD j true=false)
     .obtain⟨j,rf,qm,aeL⟩:=bF;exact aeK j rf qm aeL
     .exact⟨i,⟨ad,af⟩,λj aeM ar=>bF ⟨j,aeM,ar⟩⟩
   obtain⟨k,⟨bS,ct⟩,dT⟩:=this;have:k∈Region.ready .any ops listed:=(U6 k).2 ⟨bS,ct,λe he=>by
    cases br:(re ops)[k]? with
    |none=>rw[br]at he;simp at he
    |some l=>
     rw[br]at he;have eI:=aeI aa br e he;have:=dT e eI;rw[not_and]at this;have:=this (by omega);have qn:e<listed.size:=by omega
     simp only[Array.getD_eq_getD_getElem?,Array.getElem?_eq_getElem qn,Option.getD_some]at this⊢;simpa using this⟩
   intro e;rw[e]at this;cases this
  have im:Region.linearise.go .any ops (fuel+1) t listed []=(match(Region.ready .any ops listed)[t%(Region.ready .any ops listed).length]? with
   |some i=>Region.linearise.go .any ops fuel (t/(Region.ready .any ops listed).length) (listed.setIfInBounds i true) [i]
   |none=>[]):=rfl
  cases Ew:(Region.ready .any ops listed)[t%(Region.ready .any ops listed).length]? with
  |none=>
   have D_:Region.ready .any ops listed=[]:=by
    cases aQ:Region.ready .any ops listed with
    |nil=>rfl
    |cons a l=>
     rw[aQ]at Ew;have:=List.getElem?_eq_none_iff.1 Ew;have af:=mod_lt t (show 0<(a::l).length by simp);omega
   rw[im,Ew];refine⟨by simp,λi=>?_,λu i v h=>by simp at h⟩;simp only[List.not_mem_nil,false_iff];intro aj;exact hex ⟨i,aj⟩ D_
  |some i=>
   have aj:=(U6 i).1 (List.mem_of_getElem? Ew);obtain⟨Ex,mO,aeN⟩:=aj;rw[im,Ew];simp only;rw[linearise_go_acc];simp only[List.reverse_singleton,List.singleton_append];have w3:∀j d,(listed.setIfInBounds i true).getD j d=if j=i then true else listed.getD j d:=by
    intro j d;split
    .rename_i e;subst e;simp[Array.getD_eq_getD_getElem?,Array.getElem?_setIfInBounds_self_of_lt (show j<listed.size by omega)]
    .rename_i e;simp[Array.getD_eq_getD_getElem?,Array.getElem?_setIfInBounds_ne (λh=>e h.symm)]
   obtain⟨g1,g2,g3⟩:=ih (t/(Region.ready .any ops listed).length) (listed.setIfInBounds i true) (by simpa using ab) (by
    have fU:((List.range ops.size).filter λj=> !(listed.setIfInBounds i true).getD j true)=((List.range ops.size).filter λi=> !listed.getD i true).filter λj=>decide (j≠i):=by
     rw[List.filter_filter];apply List.filter_congr;intro j _;rw[w3];by_cases e:j=i<;>simp[e]
    rw[fU];have eI:(((List.range ops.size).filter λi=> !listed.getD i true).filter λj=>decide (j≠i)).length<((List.range ops.size).filter λi=> !listed.getD i true).length:=by
     rw[List.length_filter_lt_length_iff_exists];exact⟨i,List.mem_filter.2 ⟨List.mem_range.2 Ex,by rw[mO];rfl⟩,by simp⟩
    omega)
   refine⟨?_,λj=>?_,?_⟩
   .rw[List.nodup_cons];refine⟨λhm=>?_,g1⟩;have:=((g2 i).1 hm).2;rw[w3,if_pos rfl]at this;cases this
   .rw[List.mem_cons,g2,w3];by_cases e:j=i
    .subst e;simp[Ex,mO]
    .simp[e]
   .intro u j v h e he;cases u with
    |nil=>
     simp only[List.nil_append,List.cons.injEq]at h;obtain⟨rfl,rfl⟩:=h;exact .inl (aeN e he)
    |cons A6 u=>
     simp only[List.cons_append,List.cons.injEq]at h;obtain⟨rfl,h⟩:=h;rcases g3 u j v h e he with bC|bC
     .rw[w3]at bC;split at bC
      .rename_i hp;subst hp;exact .inr (by simp)
      .exact .inl bC
     .exact .inr (by simp[bC])
theorem aeO {ops:Array Oper} (aa:Ev (re ops)=true) (t:Nat):sx (re ops) (Region.linearise .any ops t):=by
 have U7:∀i d,i<ops.size->(Array.replicate ops.size false).getD i d=false:=by
  intro i d aj;simp[Array.getD_eq_getD_getElem?,aj]
 obtain⟨g1,g2,g3⟩:=aeJ aa ops.size t (Array.replicate ops.size false) (by simp) (by
  have:=List.length_filter_le (λi=> !(Array.replicate ops.size false).getD i true) (List.range ops.size);simpa using this)
 have hlen:(re ops).length=ops.size:=by simp[re]
 refine⟨g1,λi=>?_,λu i v h e he=>?_⟩
 .rw[hlen];rw[show Region.linearise .any ops t=Region.linearise.go .any ops ops.size t (Array.replicate ops.size false) []from rfl,g2];exact⟨λh=>h.1,λh=>⟨h,U7 i true h⟩⟩
 .rcases g3 u i v h e he with bC|bC
  .exfalso;by_cases U8:e<ops.size
   .rw[U7 e false U8]at bC;cases bC
   .simp[Array.getD_eq_getD_getElem?,U8]at bC
  .exact bC
def aq:ayj->ak
 |[],_=>.hole
 |(u,d)::l,t=>if t=u then d else aq l t
mutual
inductive fL:I->I->Prop
 |refl (d:I):fL d d
 |iq (sz:Nat):fL .bg (.ag sz [])
 |xk:fL .bg (.slice [])
 |any (b:Bool):fL (.bool b) .gn
 |share (d:I):d.tree=true->(∀vs,d≠.tuple vs)->(∀o,d≠.cc o)->fL d d.share
 |agg {ds es:ayk}:mo ds es->fL (.agg ds) (.agg es)
 |aS {d e:I}:fL d e->fL (.aS d) (.aS e)
 |ag {sz:Nat} {ds es:ayk}:mo ds es->fL (.ag sz ds) (.ag sz es)
 |tuple {ds es:ayk}:mo ds es->fL (.tuple ds) (.tuple es)
 |ref {d e:I}:fL d e->fL (.ref d) (.ref e)
 |trans {d e f:I}:fL d e->fL e f->fL d f
inductive mo:ayk->ayk->Prop
 |nil:mo [] []
 |cons {d e:I} {ds es:ayk}:fL d e->mo ds es->mo (d::ds) (e::es)
end
mutual
theorem fL.wd:∀{d e:I},fL d e->e.wd=d.wd
 |_,_,.refl _=>rfl
 |_,_,.iq _=>rfl
 |_,_,.xk=>rfl
 |_,_,.any _=>rfl
 |_,_,.share d _ _ _=>I.HN d
 |_,_,.agg h=>by simp only[I.wd];exact mo.wd h
 |_,_,.aS _=>rfl
 |_,_,.ag _=>rfl
 |_,_,.tuple h=>by simp only[I.wd];exact mo.wd h
 |_,_,.ref _=>rfl
 |_,_,.trans h k=>(fL.wd k).trans (fL.wd h)
theorem mo.wd:∀{ds es:ayk},mo ds es->I.e9 es=I.e9 ds
 |_,_,.nil=>rfl
 |_,_,.cons h ab=>by simp only[I.e9];rw[fL.wd h,mo.wd ab]
end
theorem mo.len {ds es:ayk} (h:mo ds es):es.length=ds.length:=by
 induction ds generalizing es with
 |nil=>cases h;rfl
 |cons d ds ih=>cases h with|cons h ab=>simp[ih ab]
theorem mo.all {sz:Nat} {ds es:ayk} (h:mo ds es) (an:∀d∈ds,d.wd=sz):∀d∈es,d.wd=sz:=by
 induction ds generalizing es with
 |nil=>cases h;intro d an;cases an
 |cons d ds ih=>
  cases h with
  |cons h ab=>
   intro x ao;rcases List.mem_cons.1 ao with rfl|ao
   .rw[h.wd];exact an d (by simp)
   .exact ih ab (λd hm=>an d (by simp[hm])) x ao
section
variable {w0 w:World} {F0 X F:Nat->Prop} {S:Nat->Nat->Prop} {s aH:ak} {aI:Nat->Value}
def aeP (w:World) (F:Nat->Prop) (_d e:I) (cs:ayi) (S:Nat->Prop):Prop:=
 ∃jK jL:Nat->Prop,(∀b,jK b->S b)/\(∀b,jL b->S b)/\(∀b,jL b->¬jK b)/\∀ch,(∀b,F b\/jK b->ch b)->aB w ch e cs jL
mutual
theorem aB.wider:∀{d e:I},fL d e->∀{F:Nat->Prop} {cs:ayi} {S:Nat->Prop},aB w F d cs S->aeP w F d e cs S
 |_,_,.refl _,F,cs,S,h=>⟨λ_=>False,S,λ_ h=>h.elim,λ_ h=>h,λ_ _ h=>h,λch bE=>aB.mono (λb aa=>bE b (.inl aa)) _ _ _ _ (λ_ h=>h) h⟩
 | .bg,_,.iq sz,F,cs,S,h=>⟨λ_=>False,S,λ_ h=>h.elim,λ_ h=>h,λ_ _ h=>h,λch bE=>by simp only[aB]at h⊢;exact .inl ⟨trivial,_,h⟩⟩
 | .bg,_,.xk,F,cs,S,h=>⟨λ_=>False,S,λ_ h=>h.elim,λ_ h=>h,λ_ _ h=>h,λch bE=>by simp only[aB]at h⊢;exact .inl ⟨trivial,none,0,h,zero_le _,λ_=>rfl⟩⟩
 | .bool _,_,.any b,F,cs,S,h=>⟨λ_=>False,S,λ_ h=>h.elim,λ_ h=>h,λ_ _ h=>h,λch bE=>by simp only[aB]at h⊢;exact⟨b,h⟩⟩
 |_,_,.share d _ _ _,F,cs,S,h=>⟨S,λ_=>False,λ_ h=>h,λ_ h=>h.elim,λ_ h=>h.elim,λch bE=>aB.shared (λb aa=>bE b (.inl aa)) d cs S (λb aa=>bE b (.inr aa)) h⟩
 |_,_,.agg lK,F,cs,S,h=>by
  rw[aB]at h;obtain⟨jK,jL,ad,af,aG,bf⟩:=bt.wider lK h;exact⟨jK,jL,ad,af,aG,λch bE=>by rw[aB];exact bf ch bE⟩
 |_,_,.aS an,F,cs,S,h=>by
  rw[aB]at h;obtain⟨b,cur,ty,fr,a7,bS,ct,dT,ed,eQ,de,kE⟩:=h;obtain⟨jK,jL,ad,af,aG,bf⟩:=aB.wider an eQ;refine⟨jK,λc=>c=b\/jL c,λc ar=>de c (ad c ar),?_,?_,λch bE=>?_⟩
  .rintro c (rfl|ar)
   .exact ct
   .exact de c (af c ar)
  .rintro c (rfl|ar) bD
   .exact kE (ad _ bD)
   .exact aG c ar bD
  .rw[aB];exact⟨b,cur,ty,fr,jL,bS,.inl rfl,dT,ed,bf ch bE,λc ar=>.inr ar,λar=>kE (af _ ar)⟩
 | .ag sz ds,.ag _ es,.ag lK,F,cs,S,h=>by
   rw[aB]at h;have hl:=lK.len;rcases h with⟨ad,af⟩|⟨b,cap,cur,ty,fr,a7,bS,ct,dT,ed,eQ,de,kE,fK,pc,ko,U9⟩
   .refine⟨λ_=>False,S,λ_ h=>h.elim,λ_ h=>h,λ_ _ h=>h,λch _=>?_⟩;rw[aB];subst ad;exact .inl ⟨List.length_eq_zero_iff.1 (by simpa using hl),af⟩
   .obtain⟨jK,jL,ad,af,aG,bf⟩:=bt.wider lK pc;refine⟨jK,λc=>c=b\/jL c,λc ar=>ko c (ad c ar),?_,?_,λch bE=>?_⟩
    .rintro c (rfl|ar)
     .exact ct
     .exact ko c (af c ar)
    .rintro c (rfl|ar) bD
     .exact U9 (ad _ bD)
     .exact aG c ar bD
    .rw[aB];refine .inr ⟨b,cap,cur,ty,fr,jL,by rw[hl];exact bS,.inl rfl,dT,ed,by rw[hl];exact eQ,de,kE,lK.all fK,by rw[hl];exact bf ch bE,λc ar=>.inr ar,λar=>U9 (af _ ar)⟩
 |_,_,.tuple lK,F,cs,S,h=>by
  rw[aB]at h;obtain⟨jK,jL,ad,af,aG,bf⟩:=bt.wider lK h;exact⟨jK,jL,ad,af,aG,λch bE=>by rw[aB];exact bf ch bE⟩
 |_,_,.ref an,F,cs,S,h=>by
  rw[aB]at h;obtain⟨b,o,fo,ad,af,aG,bf⟩:=h;obtain⟨jK,jL,bS,ct,dT,ed⟩:=aB.wider an bf;refine⟨λ_=>False,S,λ_ h=>h.elim,λ_ h=>h,λ_ _ h=>h,λch bE=>?_⟩;rw[aB];exact⟨b,o,fo,ad,bE _ (.inl af),aG,aB.mono (λ_ h=>h) _ _ _ _ (λb aa=>ct b aa) (ed ch λb aa=>bE b (aa.imp id λh=>(bS b h).elim))⟩
 |_,_,.trans an he,F,cs,S,h=>by
  obtain⟨jK,jL,ad,af,aG,bf⟩:=aB.wider an h;obtain⟨Nb,Im,bS,ct,dT,ed⟩:=aB.wider he (F:=λb=>F b\/jK b) (bf _ λ_ h=>h);refine⟨λb=>jK b\/Nb b,Im,?_,λb aa=>af b (ct b aa),?_,λch bE=>ed ch λb aa=>?_⟩
  .rintro b (h|h)
   .exact ad b h
   .exact af b (bS b h)
  .rintro b aa (h|h)
   .exact aG b (ct b aa) h
   .exact dT b aa h
  .rcases aa with(aa|aa)|aa
   .exact bE b (.inl aa)
   .exact bE b (.inr (.inl aa))
   .exact bE b (.inr (.inr aa))
theorem bt.wider:∀{ds es:ayk},mo ds es->∀{F:Nat->Prop} {cs:ayi} {S:Nat->Prop},bt w F ds cs S->
  ∃jK jL:Nat->Prop,(∀b,jK b->S b)/\(∀b,jL b->S b)/\(∀b,jL b->¬jK b)/\∀ch,(∀b,F b\/jK b->ch b)->bt w ch es cs jL
 |_,_,.nil,F,cs,S,h=>⟨λ_=>False,λ_=>False,λ_ h=>h.elim,λ_ h=>h.elim,λ_ h=>h.elim,λch bE=>by rw[bt]at h⊢;exact h⟩
 |_,_,.cons an lK,F,cs,S,h=>by
  rw[bt]at h;obtain⟨cr,c2,cI,eF,rfl,g2,g3,g4,g5,g6⟩:=h;obtain⟨aeQ,U_,J,a2,a3,a4⟩:=aB.wider an g2;obtain⟨Nb,Im,hA,fV,gd,bM⟩:=bt.wider lK g3;refine⟨λb=>aeQ b\/Nb b,λb=>U_ b\/Im b,?_,?_,?_,λch bE=>?_⟩
  .rintro b (h|h)
   .exact g4 b (J b h)
   .exact g5 b (hA b h)
  .rintro b (h|h)
   .exact g4 b (a2 b h)
   .exact g5 b (fV b h)
  .rintro b (h|h) (bC|bC)
   .exact a3 b h bC
   .exact g6 b (a2 b h) (hA b bC)
   .exact g6 b (J b bC) (fV b h)
   .exact gd b h bC
  .rw[bt];refine⟨cr,c2,U_,Im,rfl,a4 ch (λb aa=>bE b (aa.imp id .inl)),bM ch (λb aa=>bE b (aa.imp id .inr)),λb aa=>.inl aa,λb aa=>.inr aa,λb ad af=>g6 b (a2 b ad) (fV b af)⟩
end
theorem fL.Io:∀{d e:I},fL d e->(∀vs,d≠.tuple vs)->∀vs,e≠.tuple vs
 |_,_,.refl _,h=>h
 |_,_,.iq _,_=>λ_ h=>by cases h
 |_,_,.xk,_=>λ_ h=>by cases h
 |_,_,.any _,_=>λ_ h=>by cases h
 |_,_,.share d _ _ _,h=>λvs he=>by cases d<;>first|(cases he;done)|exact h _ rfl
 |_,_,.agg _,_=>λ_ h=>by cases h
 |_,_,.aS _,_=>λ_ h=>by cases h
 |_,_,.ag _,_=>λ_ h=>by cases h
 |_,_,.tuple _,h=>λ_ _=>h _ rfl
 |_,_,.ref _,_=>λ_ h=>by cases h
 |_,_,.trans h k,aV=>fL.Io k (fL.Io h aV)
theorem fL.j3:∀{d e:I} {v:Value},fL d e->(∀vs,d≠.tuple vs)->eg.j3 d v->eg.j3 e v
 |_,_,_,.refl _,_,h=>h
 |_,_,_,.iq _,_,h=>h
 |_,_,_,.xk,_,h=>h
 |_,_,_,.any _,_,h=>h
 |_,_,_,.share d _ aV _,_,h=>by cases d<;>first|exact h|exact(aV _ rfl).elim
 |_,_,_,.agg _,_,h=>h
 |_,_,_,.aS _,_,h=>h
 |_,_,_,.ag _,_,h=>h
 |_,_,_,.tuple _,aV,_=>(aV _ rfl).elim
 |_,_,_,.ref _,_,h=>h
 |_,_,_,.trans h k,aV,ab=>fL.j3 k (fL.Io h aV) (fL.j3 h aV ab)
theorem mo.get:∀{ds es:ayk},mo ds es->∀(k:Nat) (e:I),es[k]? =some e->∃d,ds[k]? =some d/\fL d e
 |_,_,.nil,k,e,h=>by simp at h
 |_,_,.cons an ab,0,e,h=>by simp at h;subst h;exact⟨_,rfl,an⟩
 |_,_,.cons an ab,k+1,e,h=>mo.get ab k e (by simpa using h)
theorem fL.eY:∀{d e:I} {v:Value},fL d e->eg.eY d v->eg.eY e v
 |_,_,_,.refl _,ab=>ab
 |_,_,_,.iq _,ab=>ab
 |_,_,_,.xk,ab=>ab
 |_,_,_,.any _,ab=>ab
 |_,_,_,.share _ _ nG _,ab=>MU nG ab
 |_,_,_,.agg _,ab=>ab
 |_,_,_,.aS _,ab=>ab
 |_,_,_,.ag _,ab=>ab
 |_,_,_,.ref _,ab=>ab
 |_,_,_,.tuple an,ab=>by
  obtain⟨arr,ad,af,aG⟩:=ab;refine⟨arr,ad,af.trans an.len.symm,λk e x he ao=>?_⟩;obtain⟨d,au,hw⟩:=an.get k e he;obtain⟨J,a2,a3⟩:=aG k d x au ao;exact⟨hw.j3 a2 J,hw.Io a2,a3.trans hw.wd.symm⟩
 |_,_,_,.trans h k,ab=>fL.eY k (fL.eY h ab)
theorem fL.tree:∀{d e:I},fL d e->d.tree=true->e.tree=true
 |_,_,.refl _,an=>an
 |_,_,.iq _,_=>rfl
 |_,_,.xk,_=>rfl
 |_,_,.any _,_=>rfl
 |_,_,.share d _ _ nA,an=>by cases d<;>first|exact an|rfl|exact(nA _ rfl).elim
 |_,_,.agg _,_=>rfl
 |_,_,.aS _,_=>rfl
 |_,_,.ag _,_=>rfl
 |_,_,.tuple _,_=>rfl
 |_,_,.ref _,_=>rfl
 |_,_,.trans h k,an=>fL.tree k (fL.tree h an)
mutual
def I.yV:I->ayf
 | .h x q=>if q.isEmpty then []else [x]
 | .ax x _=>[x]
 | .aa x _=>[x]
 | .fn _ cap=>I.Ey cap
 |_=>[]
def I.Ey:ayk->ayf
 |[]=>[]
 |d::ds=>d.yV++I.Ey ds
end
def Ez (s aH:ak) (x:Nat) (D:ayf):Prop:=aH x=s x\/aH x= .hole\/((s x).own=true/\(aH x).own=true/\x∉D)
theorem Ez.less {s aH:ak} {x:Nat} {D E:ayf} (h:Ez s aH x D) (EA:∀u∈E,u∈D):Ez s aH x E:=by
 rcases h with h|h|⟨ad,af,aG⟩
 .exact .inl h
 .exact .inr (.inl h)
 .exact .inr (.inr ⟨ad,af,λao=>aG (EA x ao)⟩)
theorem aO.keep {ch:Nat->Prop} (bE:∀b,F b->ch b):∀n,(∀(d:I) (v:Value) (eU:Nat->Prop),SizeOf.sizeOf d<=n->(∀x∈d.ab,Ez s aH x d.yV)->aO w F s aI d v eU->aO w ch aH aI d v eU)/\
  (∀(ds:ayk) (vs:ayi),SizeOf.sizeOf ds<=n->(∀x∈I.e3 ds,Ez s aH x (I.Ey ds))->e_ w F s aI ds vs->e_ w ch aH aI ds vs):=by
 intro n;induction n with
 |zero=>
  refine⟨λd v eU b8=>?_,λds vs b8=>?_⟩
  .cases d<;>simp at b8<;>omega
  .cases ds<;>simp at b8<;>omega
 |succ n ih=>
  refine⟨λd v eU b8 au h=>?_,λds vs b8 au h=>?_⟩
  .cases d with
   |hole=>rw[aO];trivial
   |h x q=>
    rw[aO]at h⊢;intro e fU ax;rcases au x (by simp[I.ab])with he|he|⟨EB,Va,A7⟩
    .rw[he]at fU⊢;exact h e fU ax
    .rw[he]at fU;cases q with
     |nil=>simp only[I.sub,Option.some.injEq]at fU;subst fU;simp[I.plain]at ax
     |cons k q=>simp[I.sub]at fU
    .cases q with
     |nil=>
      simp only[I.sub,Option.some.injEq]at fU;subst fU;obtain⟨dx,a0,gT,iO,j2⟩:=h (s x) (by simp only[I.sub]) (yT EB).1;simp only[et,Option.some.injEq,Prod.mk.injEq,true_and]at gT;exact⟨cT (aI x),none,by simp only[et],by rw[iO,<-gT.1],((yT Va).2.2.2.2.2 _).2 (((yT EB).2.2.2.2.2 _).1 j2)⟩
     |cons k q=>exact(A7 (by simp[I.yV])).elim
   |ax x q=>
    rw[aO]at h⊢;intro e fU ar;rcases au x (by simp[I.ab])with he|he|⟨_,_,A7⟩
    .rw[he]at fU ar⊢;exact h e fU ar
    .rw[he]at ar;cases q<;>simp[I.gC]at ar
    .exact(A7 (by simp[I.yV])).elim
   |aa x k=>
    rw[aO]at h⊢;intro ax;rcases au x (by simp[I.ab])with he|he|⟨_,_,A7⟩
    rotate_left 2
    .exact(A7 (by simp[I.yV])).elim
    .rw[he]at ax;obtain⟨b,cur,e,fr,ad,af,aG,bf⟩:=h ax;exact⟨b,cur,e,fr,ad,bE b af,aG,bf⟩
    .rw[he]at ax;simp[I.plain]at ax
   |fn f cap=>
    rw[aO]at h⊢;obtain⟨arr,rfl,ar⟩:=h;exact⟨arr,rfl,ih.2 _ _ (by simp at b8;omega) (by simpa [I.ab,I.yV]using au) ar⟩
   |_=>
    have bC:=(aO.dh rfl).1 h;exact(aO.dh rfl).2 ⟨bC.1,aB.mono bE _ _ _ _ (λ_ h=>h) bC.2⟩
  .cases ds with
   |nil=>rw[e_]at h⊢;exact h
   |cons d ds=>
    rw[e_]at h⊢;obtain⟨v,lY,rfl,ad,af⟩:=h;simp at b8;simp only[I.e3,List.mem_append]at au;exact⟨v,lY,rfl,ih.1 _ _ _ (by omega) (λx ao=>(au x (.inl ao)).less λu hu=>by simp[I.Ey,hu]) ad,ih.2 _ _ (by omega) (λx ao=>(au x (.inr ao)).less λu hu=>by simp[I.Ey,hu]) af⟩
def xl (s:ak) (l:ayj):Prop:=
 ∀p∈l,p.2=s p.1\/((s p.1).tree=true/\fL (s p.1) p.2/\∀da∈l,p.1∉da.2.ab\/((s p.1).own=true/\p.2.own=true/\p.1∉da.2.yV))
theorem Vb:∀(l:ayj) (t:Nat),aq l t= .hole\/∃p∈l,p.1=t/\aq l t=p.2:=by
 intro l;induction l with
 |nil=>intro t;exact .inl rfl
 |cons p l ih=>
  intro t;obtain⟨u,d⟩:=p;simp only[aq];split
  .rename_i e;exact .inr ⟨(u,d),by simp,e.symm,rfl⟩
  .rcases ih t with h|⟨p,ax,h⟩
   .exact .inl h
   .exact .inr ⟨p,by simp[ax],h⟩
theorem cb.Nc (h:cb w0 F0 X F S s aI w) {l:ayj} (hw:xl s l):∃ch a7,cb w0 F0 X ch a7 (aq l) aI w:=by
 have each:∀t,∃jK jL:Nat->Prop,(∀b,jK b->S t b)/\(∀b,jL b->S t b)/\(∀b,jL b->¬jK b)/\∀ch,(∀b,F b\/jK b->ch b)->aO w ch (aq l) aI (aq l t) (aI t) jL:=by
  intro t;rcases Vb l t with e|⟨p,ax,rfl,e⟩
  .exact⟨λ_=>False,λ_=>False,λ_ h=>h.elim,λ_ h=>h.elim,λ_ h=>h.elim,λch _=>by rw[e,aO];trivial⟩
  .rw[e];rcases hw p ax with au|⟨ba,nc,_⟩
   .refine⟨λ_=>False,S p.1,λ_ h=>h.elim,λ_ h=>h,λ_ _ h=>h,λch bE=>?_⟩;rw[au];refine(aO.keep (λb aa=>bE b (.inl aa)) (SizeOf.sizeOf (s p.1))).1 _ _ _ (Nat.le_refl _) ?_ (h.el p.1);intro x ao;rcases Vb l x with hp|⟨da,fp,rfl,hp⟩
    .exact .inr (.inl hp)
    .rcases hw da fp with nD|⟨_,_,nA⟩
     .exact .inl (hp.trans nD)
     .rcases nA p ax with nA|⟨ql,nH,sr⟩
      .exact(nA (by rw[au];exact ao)).elim
      .exact .inr (.inr ⟨ql,by rw[hp];exact nH,by rw[au]at sr;exact sr⟩)
   .obtain⟨g1,g2⟩:=(aO.dh ba).1 (h.el p.1);obtain⟨jK,jL,bS,ct,dT,ed⟩:=aB.wider nc g2;exact⟨jK,jL,bS,ct,dT,λch bE=>(aO.dh (nc.tree ba)).2 ⟨nc.eY g1,ed ch bE⟩⟩
 have cr:=λt=>(each t).choose_spec;let jK:=λt=>(each t).choose
 have c2:=λt=>(cr t).choose_spec;let jL:=λt=>(cr t).choose
 have gU:∀t b,jK t b->S t b:=λt=>(c2 t).1;have gy:∀t b,jL t b->S t b:=λt=>(c2 t).2.1;have iE:∀t b,jL t b->¬jK t b:=λt=>(c2 t).2.2.1;have i7:=λt=>(c2 t).2.2.2;refine⟨λb=>F b\/∃t,jK t b,jL,λb aa=>.inl (h.h3 b aa),?_,?_,λt b aa=>h.fz t b (gy t b aa),?_,λt u b d_ aa hu=>h.ga t u b d_ (gy t b aa) (gy u b hu),λt b aa=>h.eU t b (gy t b aa),?_,h.old,h.size,h.os,h.tape,h.output,h.gq⟩
 .rintro b (aa|⟨t,aa⟩)
  .exact h.iB b aa
  .exact .inr (h.eU t b (gU t b aa))
 .rintro b (aa|⟨t,aa⟩)
  .exact h.f_ b aa
  .exact h.fz t b (gU t b aa)
 .rintro t b aa (bD|⟨u,hu⟩)
  .exact h.gD t b (gy t b aa) bD
  .by_cases e:t=u
   .subst e;exact iE t b aa hu
   .exact h.ga t u b e (gy t b aa) (gU u b hu)
 .intro t;exact i7 t _ (λb aa=>aa.imp id λh=>⟨t,h⟩)
end
inductive aC where
 |skip
 |ez (ros:List cu) (keep:Option ayf)
 |jM (ros:List cu) (sy:ayd) (keep:Option ayf)
 |seq (a b:aC)
 |cond (c:bz) (a b:aC)
 |block (id:Nat) (b:aC)
 |loop (b:aC)
 |exit (id:Nat)
 |ret
 |kI (T:(Exit->ak->Prop)->ak->Prop) (b:aC)
 |raw (c:Code)
def fW (n:Fr):Code->Option aC
 | .skip=>some .skip
 | .region id ops false=>match tO n ops ops.toList with
   |some r=>some (.ez r none)
   |none=>some (.raw (.region id ops false))
 | .region _ ops true=>if Ev (re ops)=true then(tO n ops ops.toList).map λr=>.jM r (re ops) none else none
 | .seq a b=>match fW n a,fW n b with
   |some a,some b=>some (.seq a b)
   |_,_=>none
 | .cond c a b=>match eJ c,fW n a,fW n b with
   |some c,some a,some b=>some (.cond c a b)
   |_,_,_=>none
 | .block id b=>(fW n b).map (.block id)
 | .loop b=>(fW n b).map .loop
 | .exit id=>some (.exit id)
 | .ret=>some .ret
 |_=>none
def aC.nm:aC->aC
 | .ez ros _=>.ez ros none
 | .jM ros cY _=>.jM ros cY none
 | .seq a b=>.seq a.nm b.nm
 | .cond c a b=>.cond c a.nm b.nm
 | .block id b=>.block id b.nm
 | .loop b=>.loop b.nm
 | .kI T b=>.kI T b.nm
 |c=>c
def aC.strip:aC->aC
 | .ez ros _=>.ez (ros.map cu.un) none
 | .jM ros cY _=>.jM (ros.map cu.un) cY none
 | .seq a b=>.seq a.strip b.strip
 | .cond c a b=>.cond c a.strip b.strip
 | .block id b=>.block id b.strip
 | .loop b=>.loop b.strip
 | .kI _ b=>b.strip
 |c=>c
theorem aC.Nd:∀c:aC,c.nm.strip=c.strip:=by
 intro c;induction c with
 |seq a b mq mr=>simp only[aC.nm,aC.strip,mq,mr]
 |cond c a b mq mr=>simp only[aC.nm,aC.strip,mq,mr]
 |block id b ih=>simp only[aC.nm,aC.strip,ih]
 |loop b ih=>simp only[aC.nm,aC.strip,ih]
 |kI T b ih=>simp only[aC.nm,aC.strip,ih]
 |_=>rfl
def aC.bare (H:((Exit->ak->Prop)->ak->Prop)->aC->Prop):aC->Prop
 | .ez _ k=>k=none
 | .jM _ _ k=>k=none
 | .seq a b=>a.bare H/\b.bare H
 | .cond _ a b=>a.bare H/\b.bare H
 | .block _ b=>b.bare H
 | .loop b=>b.bare H
 | .kI T b=>H T b
 |_=>True
def aC.pN (H:((Exit->ak->Prop)->ak->Prop)->aC->Prop):aC->Prop
 | .seq a b=>a.pN H/\b.pN H
 | .cond _ a b=>a.pN H/\b.pN H
 | .block _ b=>b.pN H
 | .loop b=>b.pN H
 | .kI T b=>H T b.nm
 |_=>True
theorem aC.Ip {H:((Exit->ak->Prop)->ak->Prop)->aC->Prop}:∀c:aC,c.pN H->c.nm.bare H:=by
 intro c;induction c with
 |seq a b mq mr=>intro h;exact⟨mq h.1,mr h.2⟩
 |cond c a b mq mr=>intro h;exact⟨mq h.1,mr h.2⟩
 |block id b ih=>intro h;exact ih h
 |loop b ih=>intro h;exact ih h
 |ez=>intro _;rfl
 |jM=>intro _;rfl
 |kI T b _=>intro h;exact h
 |_=>intro _;trivial
def aC.plain:aC->Bool
 | .seq a b=>a.plain&&b.plain
 | .cond _ a b=>a.plain&&b.plain
 | .block _ b=>b.plain
 | .loop b=>b.plain
 | .kI _ _=>false
 |_=>true
theorem aC.Vc {H:((Exit->ak->Prop)->ak->Prop)->aC->Prop}:∀c:aC,c.plain=true->c.pN H:=by
 intro c;induction c with
 |seq a b mq mr=>intro h;simp only[aC.plain,Bool.and_eq_true]at h;exact⟨mq h.1,mr h.2⟩
 |cond c a b mq mr=>intro h;simp only[aC.plain,Bool.and_eq_true]at h;exact⟨mq h.1,mr h.2⟩
 |block id b ih=>intro h;exact ih h
 |loop b ih=>intro h;exact ih h
 |kI T b _=>intro h;cases h
 |_=>intro _;trivial
def andThen (K:ak->Prop) (Q:Exit->ak->Prop):Exit->ak->Prop
 | .normal,s=>K s
 |e,s=>Q e s
def A8 (id:Nat) (Q:Exit->ak->Prop):Exit->ak->Prop
 | .exit i,s=>if i=id then Q .normal s else Q (.exit i) s
 |e,s=>Q e s
def eS (K:ak->Prop) (s:ak):Prop:=K s\/∃l,xl s l/\K (aq l)
def EC:Option ayf->(ak->Prop)->ak->Prop
 |none,K,s=>eS K s
 |some k,K,s=>K (aq (k.map λt=>(t,s t)))
def bn (C:cm):aC->(Exit->ak->Prop)->ak->Prop
 | .skip,Q,s=>Q .normal s
 | .ez ros keep,Q,s=>n7 C s ros (EC keep (Q .normal))
 | .jM ros sy keep,Q,s=>∀l,sx sy l->kH C ros s l (EC keep (Q .normal))
 | .seq a b,Q,s=>bn C a (andThen (eS (bn C b Q)) Q) s
 | .cond c a b,Q,s=>match bu s c with
   | .bool gL=>if gL=true then bn C a Q s else bn C b Q s
   | .gn=>bn C a Q s/\bn C b Q s
   |_=>False
 | .block id b,Q,s=>bn C b (A8 id Q) s
 | .loop b,Q,s=>eS (λs=>∀Z:ak->Prop,(∀aH,bn C b (andThen (eS Z) Q) aH->Z aH)->Z s) s
 | .exit id,Q,s=>Q (.exit id) s
 | .ret,Q,s=>Q .ret s
 | .kI T _,Q,s=>∀fk:Exit->ak->Prop,(∀e s,Q e s->fk e s)->T fk s
 | .raw _,_,_=>False
section
variable {C:cm}
theorem Iq {s:ak} {o:cu} {K eD:ak->Prop} (h:oG C s o K) (au:∀s,K s->eD s):oG C s o eD:=by
 unfold oG at h⊢;split
 .rename_i hg;rw[hg]at h;exact Ij h λav s1=>au _
 .rename_i t b hg;rw[hg]at h;simp only at h;split
  .rename_i gL ab;rw[ab]at h;simp only at h;split
   .rename_i aa;rw[if_pos aa]at h;exact Ij h λav s1=>au _
   .rename_i aa;rw[if_neg aa]at h;exact au _ h
  .rename_i ab;rw[ab]at h;exact au _ h
  .rename_i ad af;split at h
   .exact ad _ (by assumption)
   .exact af (by assumption)
   .exact h
theorem Vd {K eD:ak->Prop} (au:∀s,K s->eD s):∀{ros:List cu} {s:ak},n7 C s ros K->n7 C s ros eD:=by
 intro ros;induction ros with
 |nil=>intro s h;exact au s h
 |cons o ros ih=>intro s h;exact Iq h λs h=>ih h
theorem Ve {ros:List cu} {K eD:ak->Prop} (au:∀s,K s->eD s):∀{l:ayf} {s:ak},kH C ros s l K->kH C ros s l eD:=by
 intro l;induction l with
 |nil=>intro s h;exact au s h
 |cons i l ih=>
  intro s h;simp only[kH]at h⊢;split
  .rename_i bI;rw[bI]at h;exact ih h
  .rename_i o bI;rw[bI]at h;exact Iq h λs h=>ih h
theorem A9 {K eD:ak->Prop} (au:∀s,K s->eD s) (s:ak) (h:eS K s):eS eD s:=
 h.imp (au s) λ⟨l,ad,af⟩=>⟨l,ad,au _ af⟩
theorem Vf {keep:Option ayf} {K eD:ak->Prop} (au:∀s,K s->eD s) (s:ak) (h:EC keep K s):EC keep eD s:=by
 cases keep with
 |none=>exact A9 au s h
 |some k=>exact au _ h
theorem Vg {keep:Option ayf} {K:ak->Prop} {s:ak} (h:EC keep K s):eS K s:=by
 cases keep with
 |none=>exact h
 |some k=>
  refine .inr ⟨_,?_,h⟩;intro p ax;obtain⟨t,_,rfl⟩:=List.mem_map.1 ax;exact .inl rfl
theorem Nf {K eD:ak->Prop} {Q fk:Exit->ak->Prop} (au:∀s,K s->eD s) (cy:∀e s,Q e s->fk e s):∀e s,andThen K Q e s->andThen eD fk e s:=by
 intro e s h;cases e with
 |normal=>exact au s h
 |_=>exact cy _ s h
theorem Ng:∀(c:aC) {Q fk:Exit->ak->Prop} {s:ak},(∀e s,Q e s->fk e s)->bn C c Q s->bn C c fk s:=by
 intro c;induction c with
 |skip=>intro Q fk s cy h;exact cy _ _ h
 |ez ros keep=>intro Q fk s cy h;exact Vd (Vf (cy _)) h
 |jM ros sy keep=>intro Q fk s cy h l hl;exact Ve (Vf (cy _)) (h l hl)
 |seq a b mq mr=>
  intro Q fk s cy h;exact mq (Nf (λs h=>A9 (λ_ h=>mr cy h) s h) cy) h
 |cond c a b mq mr=>
  intro Q fk s cy h;simp only[bn]at h⊢;split
  .rename_i gL aa;rw[aa]at h;simp only at h;split
   .rename_i e;rw[if_pos e]at h;exact mq cy h
   .rename_i e;rw[if_neg e]at h;exact mr cy h
  .rename_i aa;rw[aa]at h;exact⟨mq cy h.1,mr cy h.2⟩
  .rename_i ad af;split at h
   .exact ad _ (by assumption)
   .exact af (by assumption)
   .exact h
 |block id b ih=>
  intro Q fk s cy h;refine ih ?_ h;intro e s h;cases e with
  |exit i=>
   simp only[A8]at h⊢;split
   .rename_i e;rw[if_pos e]at h;exact cy _ _ h
   .rename_i e;rw[if_neg e]at h;exact cy _ _ h
  |_=>exact cy _ _ h
 |loop b ih=>
  intro Q fk s cy h;refine A9 (λs h Z A_=>?_) s h;exact h Z λaH fX=>A_ aH (ih (Nf (λ_ h=>h) cy) fX)
 |exit id=>intro Q fk s cy h;exact cy _ _ h
 |ret=>intro Q fk s cy h;exact cy _ _ h
 |kI T b _=>intro Q fk s cy h Nh af;exact h Nh λe s he=>af e s (cy e s he)
 |raw c=>intro Q fk s cy h;exact h
theorem Ir:∀(c:aC) {Q:Exit->ak->Prop} {s:ak},bn C c Q s->bn C c.nm Q s:=by
 intro c;induction c with
 |ez ros keep=>intro Q s h;exact Vd (λs h=>Vg h) h
 |jM ros cY keep=>intro Q s h l hl;exact Ve (λs h=>Vg h) (h l hl)
 |seq a b mq mr=>intro Q s h;exact mq (Ng a (Nf (λs h=>A9 (λ_ h=>mr h) s h) (λ_ _ h=>h)) h)
 |cond c a b mq mr=>
  intro Q s h;simp only[aC.nm,bn]at h⊢;split
  .rename_i gL aa;rw[aa]at h;simp only at h;split
   .rename_i e;rw[if_pos e]at h;exact mq h
   .rename_i e;rw[if_neg e]at h;exact mr h
  .rename_i aa;rw[aa]at h;exact⟨mq h.1,mr h.2⟩
  .rename_i ad af;split at h
   .exact ad _ (by assumption)
   .exact af (by assumption)
   .exact h
 |block id b ih=>intro Q s h;exact ih h
 |loop b ih=>
  intro Q s h;refine A9 (λs h Z A_=>?_) s h;exact h Z λaH fX=>A_ aH (ih fX)
 |kI T b _=>intro Q s h;exact h
 |_=>intro Q s h;exact h
variable {w0 w:World} {F0 X:Nat->Prop} {n:Fr} {ρ:Nat->Value} {s:ak} {a:Act}
def yW (w0:World) (F0 X:Nat->Prop) (n:Fr) (ρ:Nat->Value) (Q:Exit->ak->Prop):Exit->Act->World->Prop:=λe a w=>∃s,Q e s/\Rel w0 F0 X n ρ s a w
theorem Rel.eS {K:ak->Prop} {s:ak} {a:Act} {w:World} (aQ:Rel w0 F0 X n ρ s a w) (h:eS K s):∃aH,K aH/\Rel w0 F0 X n ρ aH a w:=by
 rcases h with h|⟨l,ad,af⟩
 .exact⟨s,h,aQ⟩
 .obtain⟨g1,g2,g3,F,S,g4⟩:=aQ;obtain⟨ch,a7,g5⟩:=g4.Nc ad;exact⟨aq l,af,g1,g2,g3,ch,a7,g5⟩
theorem aC.aeR {c:aC} (h:c.strip= .skip):c= .skip\/∃T b,c= .kI T b:=by cases c<;>first|exact .inl rfl|exact .inr ⟨_,_,rfl⟩|cases h
theorem aC.aeS {c:aC} (h:c.strip= .ret):c= .ret\/∃T b,c= .kI T b:=by cases c<;>first|exact .inl rfl|exact .inr ⟨_,_,rfl⟩|cases h
theorem aC.aeT {c:aC} {i:Nat} (h:c.strip= .exit i):c= .exit i\/∃T b,c= .kI T b:=by cases c<;>first|exact .inl h|exact .inr ⟨_,_,rfl⟩|cases h
theorem aC.aeU {c:aC} {x:Code} (h:c.strip= .raw x):c= .raw x\/∃T b,c= .kI T b:=by cases c<;>first|exact .inl h|exact .inr ⟨_,_,rfl⟩|cases h
theorem aC.aeV {c:aC} {r:List cu} {k:Option ayf} (h:c.strip= .ez r k):(∃ros di,c= .ez ros di/\ros.map cu.un=r)\/∃T b,c= .kI T b:=by
 cases c<;>first|(cases h;exact .inl ⟨_,_,rfl,rfl⟩)|exact .inr ⟨_,_,rfl⟩|cases h
theorem aC.aeW {c:aC} {r:List cu} {cY:ayd} {k:Option ayf} (h:c.strip= .jM r cY k):(∃ros Vh di,c= .jM ros Vh di/\ros.map cu.un=r/\Vh=cY)\/∃T b,c= .kI T b:=by
 cases c<;>first|(cases h;exact .inl ⟨_,_,_,rfl,rfl,rfl⟩)|exact .inr ⟨_,_,rfl⟩|cases h
theorem aC.aeX {c x y:aC} (h:c.strip= .seq x y):(∃a b,c= .seq a b/\a.strip=x/\b.strip=y)\/∃T b,c= .kI T b:=by
 cases c<;>first|(cases h;exact .inl ⟨_,_,rfl,rfl,rfl⟩)|exact .inr ⟨_,_,rfl⟩|cases h
theorem aC.aeY {c x y:aC} {o:bz} (h:c.strip= .cond o x y):(∃qk a b,c= .cond qk a b/\qk=o/\a.strip=x/\b.strip=y)\/∃T b,c= .kI T b:=by
 cases c<;>first|(cases h;exact .inl ⟨_,_,_,rfl,rfl,rfl,rfl⟩)|exact .inr ⟨_,_,rfl⟩|cases h
theorem aC.aeZ {c x:aC} {i:Nat} (h:c.strip= .block i x):(∃a,c= .block i a/\a.strip=x)\/∃T b,c= .kI T b:=by
 cases c<;>first|(cases h;exact .inl ⟨_,rfl,rfl⟩)|exact .inr ⟨_,_,rfl⟩|cases h
theorem aC.ae0 {c x:aC} (h:c.strip= .loop x):(∃a,c= .loop a/\a.strip=x)\/∃T b,c= .kI T b:=by
 cases c<;>first|(cases h;exact .inl ⟨_,rfl,rfl⟩)|exact .inr ⟨_,_,rfl⟩|cases h
theorem Ni (bP:C.fH) {H:((Exit->ak->Prop)->ak->Prop)->aC->Prop}
  (nI:∀(c:Code) (T:(Exit->ak->Prop)->ak->Prop) (b:aC) (Q:Exit->ak->Prop) (s:ak) (a:Act) (w:World),H T b->fW n c=some b.strip->T Q s->Rel w0 F0 X n ρ s a w->c.wp C.P (yW w0 F0 X n ρ Q) a w):
  ∀(c:Code) {ee:aC} {Q:Exit->ak->Prop} {s:ak} {a:Act} {w:World},fW n c=some ee.strip->ee.bare H->bn C ee Q s->Rel w0 F0 X n ρ s a w->c.wp C.P (yW w0 F0 X n ρ Q) a w:=by
 intro c;induction c with
 |skip=>
  intro ee Q s a w ab jm h aQ;have nn:=ab;simp only[fW,Option.some.injEq]at ab;rcases aC.aeR ab.symm with rfl|⟨T,b,rfl⟩
  .exact wp_skip ⟨s,h,aQ⟩
  .exact nI _ T b Q s a w jm (by simpa only[aC.strip]using nn) (h Q λ_ _ h=>h) aQ
 |region id ops draw=>
  intro ee Q s a w ab jm h aQ;have nn:=ab;cases draw with
  |false=>
   simp only[fW]at ab;split at ab
   rotate_left
   .have fX:=(Option.some.injEq _ _▸ab).symm;rcases aC.aeU fX with rfl|⟨T,b,rfl⟩
    .exact h.elim
    .exact nI _ T b Q s a w jm (by simpa only[aC.strip]using nn) (h Q λ_ _ h=>h) aQ
   rename_i ae1 ED;simp only[Option.some.injEq]at ab;rcases aC.aeV ab.symm with⟨ros,k,rfl,rfl⟩|⟨T,b,rfl⟩
   rotate_left
   .exact nI _ T b Q s a w jm (by simpa only[aC.strip]using nn) (h Q λ_ _ h=>h) aQ
   cases jm;exact aeH bP ED (λaH dt aN au fw=>fw.eS au) h aQ
  |true=>
   simp only[fW]at ab;split at ab
   .rename_i aa;simp only[Option.map_eq_some_iff]at ab;obtain⟨ae1,ED,ab⟩:=ab;rcases aC.aeW ab.symm with⟨ros,cY,k,rfl,rfl,rfl⟩|⟨T,b,rfl⟩
    rotate_left
    .exact nI _ T b Q s a w jm (by simpa only[aC.strip]using nn) (h Q λ_ _ h=>h) aQ
    cases jm;refine wp_region_draw λt=>?_;rw[show Region.schedule (C.P.follows .mixedOrders) ops t=Region.linearise .any ops t by simp[Region.schedule,bP.mixed]];exact U5 bP ED (λaH dt aN au fw=>fw.eS au) _ s a _ (h _ (aeO aa t)) (aQ.drawn _ (by first|exact le_succ _|exact le_add_right _ _|omega))
   .cases ab
 |seq x y ae2 Is=>
  intro ee Q s a w ab jm h aQ;have nn:=ab;simp only[fW]at ab;split at ab
  .rename_i AY Vi ao hy;simp only[Option.some.injEq]at ab;rcases aC.aeX ab.symm with⟨cN,nZ,rfl,rfl,rfl⟩|⟨T,b,rfl⟩
   rotate_left
   .exact nI _ T b Q s a w jm (by simpa only[aC.strip]using nn) (h Q λ_ _ h=>h) aQ
   refine wp_seq (wp_mono (ae2 ao jm.1 h aQ) ?_);rintro e dt aN ⟨aH,bC,fw⟩;cases e with
   |normal=>
    obtain⟨aH,bC,fw⟩:=fw.eS bC;exact Is hy jm.2 bC fw
   |_=>exact⟨aH,bC,fw⟩
  .cases ab
 |cond x y z Is Vj=>
  intro ee Q s a w ab jm h aQ;have nn:=ab;simp only[fW]at ab;split at ab
  .rename_i AY Vi sz ao hy b8;simp only[Option.some.injEq]at ab;rcases aC.aeY ab.symm with⟨cN,nZ,vc,rfl,rfl,rfl,rfl⟩|⟨T,b,rfl⟩
   rotate_left
   .exact nI _ T b Q s a w jm (by simpa only[aC.strip]using nn) (h Q λ_ _ h=>h) aQ
   have fw:=aQ;obtain⟨an,fj,bD,F,S,sw⟩:=fw;have aJ:=(gA (a:=a) sw (λ_=>rfl) ao).2;simp only[bn]at h;split at h
   .rename_i gL aa;rw[aa]at aJ;have:=w4 aJ;refine wp_cond this ?_;split
    .rename_i e;rw[if_pos e]at h;exact Is hy jm.1 h aQ
    .rename_i e;rw[if_neg e]at h;exact Vj b8 jm.2 h aQ
   .rename_i aa;rw[aa]at aJ;obtain⟨gL,o5⟩:=TR aJ;refine wp_cond o5 ?_;split
    .exact Is hy jm.1 h.1 aQ
    .exact Vj b8 jm.2 h.2 aQ
   .exact h.elim
  .cases ab
 |block id b ih=>
  intro ee Q s a w ab jm h aQ;have nn:=ab;simp only[fW,Option.map_eq_some_iff]at ab;obtain⟨Ea,aa,ab⟩:=ab;rcases aC.aeZ ab.symm with⟨gL,rfl,rfl⟩|⟨T,b,rfl⟩
  rotate_left
  .exact nI _ T b Q s a w jm (by simpa only[aC.strip]using nn) (h Q λ_ _ h=>h) aQ
  refine wp_block (wp_mono (ih aa jm h aQ) ?_);rintro e dt aN ⟨aH,bC,fw⟩;cases e with
  |exit i=>
   simp only[A8]at bC;simp only[Exit.inBlock];split
   .rename_i e;rw[if_pos e]at bC;exact⟨aH,bC,fw⟩
   .rename_i e;rw[if_neg e]at bC;exact⟨aH,bC,fw⟩
  |_=>exact⟨aH,bC,fw⟩
 |loop b ih=>
  intro ee Q s a w ab jm h aQ;have nn:=ab;simp only[fW,Option.map_eq_some_iff]at ab;obtain⟨Ea,aa,ab⟩:=ab;rcases aC.ae0 ab.symm with⟨gL,rfl,rfl⟩|⟨T,b,rfl⟩
  rotate_left
  .exact nI _ T b Q s a w jm (by simpa only[aC.strip]using nn) (h Q λ_ _ h=>h) aQ
  obtain⟨s,h,aQ⟩:=aQ.eS h;have key:=h (λs=>∀a w,Rel w0 F0 X n ρ s a w->∀(f:Frame) (k:List Item) (cs:List Frame),∃e dt aN,yW w0 F0 X n ρ Q e dt aN/\Arrives C.P (lone (f.at a (.code b:: .inLoop b::k)) cs w) f k cs e dt aN) ?_
  .intro f k cs;obtain⟨e,dt,aN,cy,xm⟩:=key a w aQ f k cs;exact⟨e,dt,aN,cy,.of_steps (.one step_loop) xm⟩
  .intro aH fX a w aQ f k cs;obtain⟨e,a₁,w₁,⟨s1,cy,xn⟩,xm⟩:=ih aa jm fX aQ f (.inLoop b::k) cs;cases e with
   |normal=>
    simp only[andThen]at cy;obtain⟨s1,cy,xn⟩:=xn.eS cy;obtain⟨e₂,a₂,w₂,hq₂,harr₂⟩:=cy a₁ w₁ xn f k cs;exact⟨e₂,a₂,w₂,hq₂,.of_steps (Steps.trans xm (.one step_inLoop)) harr₂⟩
   |exit id=>exact⟨_,a₁,w₁,⟨s1,cy,xn⟩,.pass (x:=.inLoop b) rfl (λ_ _=>.inl (by simp)) xm⟩
   |goto l=>exact⟨_,a₁,w₁,⟨s1,cy,xn⟩,.pass (x:=.inLoop b) rfl (λ_ _=>.inl (by simp)) xm⟩
   |ret=>exact⟨_,a₁,w₁,⟨s1,cy,xn⟩,.pass (x:=.inLoop b) rfl (λ_ _=>.inl (by simp)) xm⟩
   |panic awq=>exact⟨_,a₁,w₁,⟨s1,cy,xn⟩,.pass (x:=.inLoop b) rfl (λ_ _=>.inl (by simp)) xm⟩
   |outgrown=>exact⟨_,a₁,w₁,⟨s1,cy,xn⟩,.pass (x:=.inLoop b) rfl (λ_ _=>.inl (by simp)) xm⟩
 |exit id=>
  intro ee Q s a w ab jm h aQ;have nn:=ab;simp only[fW,Option.some.injEq]at ab;rcases aC.aeT ab.symm with rfl|⟨T,b,rfl⟩
  .exact wp_exit ⟨s,h,aQ⟩
  .exact nI _ T b Q s a w jm (by simpa only[aC.strip]using nn) (h Q λ_ _ h=>h) aQ
 |ret=>
  intro ee Q s a w ab jm h aQ;have nn:=ab;simp only[fW,Option.some.injEq]at ab;rcases aC.aeS ab.symm with rfl|⟨T,b,rfl⟩
  .exact wp_ret ⟨s,h,aQ⟩
  .exact nI _ T b Q s a w jm (by simpa only[aC.strip]using nn) (h Q λ_ _ h=>h) aQ
 |_=>intro ee Q s a w ab;simp[fW]at ab
theorem Vk (bP:C.fH) (c:Code) {ee:aC} {Q:Exit->ak->Prop} {s:ak} {a:Act} {w:World} (ab:fW n c=some ee.strip) (aa:ee.bare (λ_ _=>False)) (h:bn C ee Q s) (aQ:Rel w0 F0 X n ρ s a w):c.wp C.P (yW w0 F0 X n ρ Q) a w:=
 Ni bP (λ_ _ _ _ _ _ _ bD=>bD.elim) c ab aa h aQ
end
def lL:ResultVar->Nat
 | .tmp t=>t
 | .cell a _=>a
def tP (C:cm) (s:ak):ResultVar->Option I
 | .tmp t=>if(s t).tree=true then(match s t with| .tuple _=>none|d=>some d)else none
 | .cell a T=>match s a with
   | .aS d=>if fits C T d=true/\d.tree=true then some d else none
   |_=>none
def Nj (C:cm) (fx:ayf) (fQ:List ResultVar) (r:I) (outs:ayk) (s:ak):Prop:=
 ∃ds,fQ.map (tP C s)=ds.map some/\r=(match ds with|[d]=>d|ds=>.tuple ds)/\(fQ.map lL).Nodup/\
  ∀(i:Nat) (o:I),outs[i]? =some o->o= .hole\/(o=s i/\o.hH=true/\i∈fx/\i∉fQ.map lL)
def Ends (C:cm) (fx:ayf) (fQ:List ResultVar) (r:I) (outs:ayk) (s:ak):Prop:=
 Nj C fx fQ r outs s\/∃t y q d s1,s t= .h y q/\dG s (.h y q)=some (d,s1)/\Nj C fx fQ r outs (fin s1 (some t) d)
theorem cb.takes {w0 w:World} {F0 X F:Nat->Prop} {S:Nat->Nat->Prop} {s s1:ak} {aI:Nat->Value} {t y:Nat} {q:ayf} {d:I} (aQ:cb w0 F0 X F S s aI w) (ad:s t= .h y q) (af:dG s (.h y q)=some (d,s1)):
  ∃a7,cb w0 F0 X F a7 (eg.fin s1 (some t) d) aI w:=by
 have ab:=aQ.el t;rw[ad,aO]at ab;obtain⟨cI,k0,bS,ct,Sn,dT,ed,eQ,de,kE,_⟩:=r_ aQ (av:=.h y q) (v:=aI t) rfl (by rw[aO];exact ab) af;obtain⟨a7,bC⟩:=k0.fin (.inr ⟨bS,ct,Sn,dT,ed,eQ,de,kE⟩) (some t);refine⟨a7,?_⟩;have e:qd aI (some t) (aI t)=aI:=by
  funext u;simp only[qd,ei];split
  .rename_i h;rw[h]
  .rfl
 rwa [e]at bC
section
variable {C:cm} {w0 w:World} {F0 X F:Nat->Prop} {S:Nat->Nat->Prop} {s:ak} {tmps:Array Value}
theorem Vl {d:I} {x:Value} (an:∀vs,d≠.tuple vs) (h:eY d x):cT x=jx x/\j3 d x:=by
 have:j3 d x:=by cases d<;>first|exact h|exact(an _ rfl).elim
 refine⟨?_,this⟩;cases d<;>first
  |(obtain⟨a,rfl⟩:=this;rfl)
  |(simp only[j3]at this
    rw[h4 this];cases x<;>first|rfl|(simp[Value.hF]at this))
def EE (tmps:Array Value):ResultVar->Sem Value
 | .tmp t=>pure (tmps.getD t undef)
 | .cell a t=>do loadVar t (<-asAddr (tmps.getD a undef))
theorem ae3 (bP:C.fH) (h:cb w0 F0 X F S s (λt=>tmps.getD t undef) w) {v:ResultVar} {d:I} (aJ:tP C s v=some d):
  ∃x,(EE tmps v).run C.P w= .ok x w/\d.tree=true/\(∀vs,d≠.tuple vs)/\eY d x/\aB w F d (cT x) (S (lL v)):=by
 cases v with
 |tmp t=>
  simp only[tP]at aJ;split at aJ
  .rename_i ba;have nG:(∀vs,s t≠.tuple vs)/\d=s t:=by
    cases ab:s t<;>rw[ab]at aJ<;>simp only at aJ<;>first
     |(cases aJ;done)
     |(simp only[Option.some.injEq]at aJ;exact⟨(λ_ h=>by cases h),aJ.symm⟩)
   obtain⟨nG,rfl⟩:=nG;obtain⟨g1,g2⟩:=(aO.dh ba).1 (h.el t);exact⟨_,by simp[EE],ba,nG,g1,g2⟩
  .cases aJ
 |cell a T=>
  simp only[tP]at aJ;split at aJ
  .rename_i e ab;split at aJ
   .rename_i ae4;obtain⟨kk,ae5⟩:=ae4;simp only[Option.some.injEq]at aJ;subst aJ;have lg:=h.el a;rw[ab]at lg;obtain⟨g1,g2⟩:=(aO.dh (d:=.aS e) rfl).1 lg;rw[h4 g1,aB]at g2;obtain⟨b,cur,ty,fr,a7,bS,ct,dT,ed,eQ,de,kE⟩:=g2;simp only[List.cons.injEq,and_true]at bS;have ml:jv w b 0 cur.toList:=by
     have:=AG dT cur.size
     rwa [List.take_of_length_le (by simp)]at this
    obtain⟨x,eh,bc,dm⟩:=HX (C:=C) bP ml eQ kk;refine⟨x,?_,ae5,?_,dm,?_⟩
    .simp only[EE];rw[bS];simpa [asAddr]using eh
    .intro vs hp;subst hp;unfold fits at kk;split at kk<;>simp_all
    .rw[bc];exact aB.mono (λ_ h=>h) _ _ _ _ de eQ
   .cases aJ
  .cases aJ
theorem ae6 (bP:C.fH) (h:cb w0 F0 X F S s (λt=>tmps.getD t undef) w):∀(fQ:List ResultVar) (ds:ayk),fQ.map (tP C s)=ds.map some->(fQ.map lL).Nodup->
  ∃xs,(fQ.mapM (EE tmps)).run C.P w= .ok xs w/\xs.length=ds.length/\bt w F ds (xs.flatMap jx) (λb=>∃t∈fQ.map lL,S t b)/\
   ∀(k:Nat) (d:I) (x:Value),ds[k]? =some d->xs[k]? =some x->eY d x/\(∀vs,d≠.tuple vs)/\(jx x).length=d.wd/\cT x=jx x/\d.tree=true:=by
 intro fQ;induction fQ with
 |nil=>
  intro ds he _;have:ds=[]:=by simpa using he.symm
  subst this;exact⟨[],by simp,rfl,by simp only[List.flatMap_nil];rw[bt],λk d x an=>by simp at an⟩
 |cons v fQ ih=>
  intro ds he Ba;cases ds with
  |nil=>simp at he
  |cons d ds=>
   simp only[List.map_cons,List.cons.injEq]at he;simp only[List.map_cons,List.nodup_cons]at Ba;obtain⟨x,eh,rt,bc,dm,bG⟩:=ae3 bP h he.1;obtain⟨xs,gU,gy,iE,i7⟩:=ih ds he.2 Ba.2;obtain⟨aP,aY⟩:=Vl bc dm;refine⟨x::xs,by simp[List.mapM_cons,eh,gU],by simp[gy],?_,?_⟩
   .simp only[List.flatMap_cons];rw[bt];rw[aP]at bG;refine⟨jx x,xs.flatMap jx,S (lL v),λb=>∃t∈fQ.map lL,S t b,rfl,bG,iE,λb aa=>⟨lL v,by simp,aa⟩,?_,?_⟩
    .rintro b ⟨t,ba,aa⟩;exact⟨t,by simp[ba],aa⟩
    .rintro b aa ⟨t,ba,o5⟩;have:t≠lL v:=λe=>Ba.1 (e▸ba);exact h.ga t (lL v) b this o5 aa
   .intro k bJ cN an ao;cases k with
    |zero=>
     simp at an ao;subst an ao;refine⟨dm,bc,?_,aP,rt⟩;rw[<-aP];exact aB.length _ _ _ bG
    |succ k=>exact i7 k bJ cN (by simpa using an) (by simpa using ao)
theorem Nk (bP:C.fH) {f:FuncId} {fn:Func} {c:Code} {fx:ayf} {as outs:ayk} {r:I} (bD:C.P.funcs[f]? =some fn) (aa:fn.body=some c)
  (mu:(fn.name== "runtime.NumGoroutine")=false) (aV:as.length<=fn.ntmps)
  {w:World} {F X:Nat->Prop} {S:Nat->Nat->Prop} {vs:ayi} (hl:vs.length=as.length) (aQ:cb w F X F S (gf as) (ik vs) w)
  (Nl:∀a,Rel w F X ⟨fn.ntmps,fx⟩ (ik vs) (gf as) a w->(∀t,a.tmps.getD t undef=ik vs t)->c.wp C.P (yW w F X ⟨fn.ntmps,fx⟩ (ik vs) (λe s=>(e= .normal\/e= .ret)/\eS (Ends C fx fn.results.toList r outs) s)) a w):
  q8 C.P f vs.toArray w λv aN=>∃ch a7,cb w F X ch a7 (gf (r::outs)) (ik (v::vs)) aN:=by
 have q6:(vs.toArray++Array.replicate (fn.ntmps-vs.toArray.size) undef).size=fn.ntmps:=by simp;omega
 have fc:(λt=>(vs.toArray++Array.replicate (fn.ntmps-vs.toArray.size) undef).getD t undef)=ik vs:=by
  funext t;simp only[ik,Array.getD_eq_getD_getElem?,List.getD_eq_getElem?_getD];by_cases ba:t<vs.length
  .rw[Array.getElem?_append_left (by simpa using ba)];simp
  .rw[Array.getElem?_append_right (by simpa using ba)];rw[List.getElem?_eq_none (by omega)];simp only[Array.getElem?_replicate];split<;>rfl
 have sw:Rel w F X ⟨fn.ntmps,fx⟩ (ik vs) (gf as) {tmps:=vs.toArray++Array.replicate (fn.ntmps-vs.toArray.size) undef,defers:=[]} w:=
  ⟨rfl,q6,λi _=>congrFun fc i,F,S,by rw[fc];exact aQ⟩
 have Nn:fn.name≠ "runtime.NumGoroutine" :=by simpa using mu
 refine .inl ⟨by simp[callFunc,bD,Nn,aa],calls_of_wp bD aa (wp_mono (Nl _ sw (congrFun fc)) ?_)⟩;rintro e dt aN ⟨aH,⟨he,ae7⟩,ae8⟩;obtain⟨aH,⟨ds,lK,Vm,Ba,yx⟩,an,fj,jn,ch,a7,fw⟩:∃aH,Nj C fx fn.results.toList r outs aH/\Rel w F X ⟨fn.ntmps,fx⟩ (ik vs) aH dt aN:=by
  obtain⟨aH,he,xo⟩:=ae8.eS ae7;rcases he with he|⟨t,y,q,d,s1,ad,af,he⟩
  .exact⟨aH,he,xo⟩
  .obtain⟨g1,g2,g3,F,S,g4⟩:=xo;obtain⟨a7,g5⟩:=g4.takes ad af;exact⟨_,he,g1,g2,g3,F,a7,g5⟩
 obtain⟨xs,gU,gy,iE,i7⟩:=ae6 bP fw _ ds lK Ba;have ae9:(results fn dt.tmps)=(do let vs<-fn.results.mapM (EE dt.tmps);pure (if h:vs.size=1 then vs[0]else .tuple vs)):=by
  unfold results;congr 1
 have yC:(results fn dt.tmps).run C.P aN= .ok (if h:xs.toArray.size=1 then xs.toArray[0]else .tuple xs.toArray) aN:=by
  rw[ae9,Array.mapM_eq_mapM_toList];simp[gU]
 have tQ:(r.tree=true/\eY r (if h:xs.toArray.size=1 then xs.toArray[0]else .tuple xs.toArray)/\
   aB aN ch r (cT (if h:xs.toArray.size=1 then xs.toArray[0]else .tuple xs.toArray)) (λb=>∃t∈fn.results.toList.map lL,a7 t b)):=by
  by_cases ad:∃d,ds=[d]
  .obtain⟨d,rfl⟩:=ad;obtain⟨x,rfl⟩:∃x,xs=[x]:=by
    cases xs with
    |nil=>simp at gy
    |cons x xs=>cases xs with
     |nil=>exact⟨x,rfl⟩
     |cons y cP=>simp at gy
   obtain⟨bS,ct,dT,ed,eQ⟩:=i7 0 d x rfl rfl;have ae_:d=r:=Vm.symm;subst ae_;simp only[List.flatMap_cons,List.flatMap_nil,List.append_nil]at iE;rw[bt]at iE;obtain⟨cr,c2,cI,eF,aP,aY,aU,b4,cM,cl⟩:=iE;rw[bt]at aU;subst aU;simp only[List.append_nil]at aP;subst aP;have ao:(if h:([x]:ayi).toArray.size=1 then([x]:ayi).toArray[0]else .tuple ([x]:ayi).toArray)=x:=by simp
   rw[ao,ed];exact⟨eQ,bS,aB.mono (λ_ h=>h) _ _ _ _ b4 aY⟩
  .have It:r= .tuple ds:=by
    rw[Vm];cases ds with
    |nil=>rfl
    |cons d ds=>cases ds with
     |nil=>exact(ad ⟨d,rfl⟩).elim
     |cons e ds=>rfl
   have ao:(if h:xs.toArray.size=1 then xs.toArray[0]else Value.tuple xs.toArray)= .tuple xs.toArray:=by
    rw[dif_neg];intro fj;have:ds.length=1:=by rw[<-gy];simpa using fj
    obtain⟨d,an⟩:=List.length_eq_one_iff.1 this;exact ad ⟨d,an⟩
   rw[ao,It];refine⟨rfl,⟨xs.toArray,rfl,by simpa using gy,λk d x an ao=>?_⟩,?_⟩
   .obtain⟨bS,ct,dT,ed,_⟩:=i7 k d x an (by simpa using ao);exact⟨(Vl ct bS).2,ct,dT⟩
   .rw[aB];simpa [cT]using iE
 have post:∀(v:Value),(r.tree=true/\eY r v/\aB aN ch r (cT v) (λb=>∃t∈fn.results.toList.map lL,a7 t b))->∃A4 cI,cb w F X A4 cI (gf (r::outs)) (ik (v::vs)) aN:=by
  rintro v ⟨v1,v2,v3⟩;have Np:∀i,(outs.getD i .hole).hH=true->outs.getD i .hole=aH i/\i∈fx/\i∉fn.results.toList.map lL:=by
   intro i aj;cases bI:outs[i]? with
   |none=>simp[List.getD,bI,I.hH]at aj
   |some o=>
    have e:outs.getD i .hole=o:=by simp[List.getD,bI]
    rw[e]at aj⊢;rcases yx i o bI with h|h
    .subst h;simp[I.hH]at aj
    .exact⟨h.1,h.2.2⟩
  refine⟨ch,λt b=>match t with|0=>∃t∈fn.results.toList.map lL,a7 t b|i+1=>(outs.getD i .hole).hH=true/\a7 i b,fw.h3,fw.iB,fw.f_,?_,?_,?_,?_,?_,fw.old,fw.size,fw.os,fw.tape,fw.output,aQ.gq⟩
  .intro t b aa;cases t with
   |zero=>obtain⟨t,_,aa⟩:=aa;exact fw.fz t b aa
   |succ i=>exact fw.fz i b aa.2
  .intro t b aa;cases t with
   |zero=>obtain⟨t,_,aa⟩:=aa;exact fw.gD t b aa
   |succ i=>exact fw.gD i b aa.2
  .intro t u b d_ aa hu;cases t with
   |zero=>
    obtain⟨t,ba,aa⟩:=aa;cases u with
    |zero=>exact d_ rfl
    |succ j=>
     refine fw.ga t j b (λe=>?_) aa hu.2;subst e;exact(Np t hu.1).2.2 ba
   |succ i=>
    cases u with
    |zero=>
     obtain⟨t,ba,hu⟩:=hu;refine fw.ga t i b (λe=>?_) hu aa.2;subst e;exact(Np t aa.1).2.2 ba
    |succ j=>exact fw.ga i j b (by omega) aa.2 hu.2
  .intro t b aa;cases t with
   |zero=>obtain⟨t,_,aa⟩:=aa;exact fw.eU t b aa
   |succ i=>exact fw.eU i b aa.2
  .intro t;cases t with
   |zero=>exact(aO.dh v1).2 ⟨v2,v3⟩
   |succ i=>
    show aO aN ch (gf (r::outs)) (ik (v::vs)) (outs.getD i .hole) (vs.getD i undef) (λb=>(outs.getD i .hole).hH=true/\a7 i b);cases aj:(outs.getD i .hole).hH with
    |false=>
     have:outs.getD i .hole= .hole:=by
      cases bI:outs[i]? with
      |none=>simp[List.getD,bI]
      |some o=>
       have e:outs.getD i .hole=o:=by simp[List.getD,bI]
       rw[e]at aj⊢;rcases yx i o bI with h|h
       .exact h
       .rw[h.2.1]at aj;cases aj
     rw[this,aO];trivial
    |true=>
     obtain⟨ql,nH,sr⟩:=Np i aj;have ba:=(xf aj).2.1;have lg:=fw.el i;rw[<-ql]at lg;obtain⟨g1,g2⟩:=(aO.dh ba).1 lg;have aJ:dt.tmps.getD i undef=vs.getD i undef:=jn i nH;rw[aJ]at g1 g2;exact(aO.dh ba).2 ⟨g1,aB.mono (λ_ h=>h) _ _ _ _ (λb aa=>⟨rfl,aa⟩) g2⟩
 rcases he with rfl|rfl
 .exact⟨an,_,yC,_,rfl,post _ tQ⟩
 .exact⟨an,_,yC,_,rfl,post _ tQ⟩
theorem aW.of_wp (bP:C.fH) {f:FuncId} {fn:Func} {c:Code} {ee:aC} {fx:ayf} {as outs:ayk} {r:I} (bD:C.P.funcs[f]? =some fn) (aa:fn.body=some c)
  (mu:(fn.name== "runtime.NumGoroutine")=false) (ab:fW ⟨fn.ntmps,fx⟩ c=some ee.strip) (aV:as.length<=fn.ntmps)
  (h:bn C ee (λe s=>(e= .normal\/e= .ret)/\eS (Ends C fx fn.results.toList r outs) s) (gf as)) (ax:ee.plain=true:=by kernel_rfl):aW C f as r outs:=
 λw F X S vs hl aQ=>Nk bP bD aa mu aV hl aQ λa sw _=>Vk bP c (by rw[aC.Nd];exact ab) (aC.Ip ee (aC.Vc ee ax)) (Ir ee h) sw
end
def num:Nat->ayk->ayj
 |_,[]=>[]
 |k,a::as=>(k,a)::num (k+1) as
theorem afa:∀(as:ayk) (k t:Nat),aq (num k as) (k+t)=as.getD t .hole:=by
 intro as;induction as with
 |nil=>intro k t;simp[num,aq]
 |cons a as ih=>
  intro k t;cases t with
  |zero=>simp[num,aq]
  |succ t=>
   have:=ih (k+1) t;simp only[num,aq];rw[if_neg (by omega)];rw[show k+(t+1)=k+1+t by omega,this];simp
theorem EF (as:ayk):gf as=aq (num 0 as):=by
 funext t;have:=afa as 0 t;rw[Nat.zero_add]at this;rw[this];rfl
theorem EG (l:ayj) (t:Nat) (d:I):ei (aq l) t d=aq ((t,d)::l):=by
 funext u;simp only[ei,aq]
def vo (t:Nat):ayj->ayj
 |[]=>[]
 |(u,d)::l=>(u,dy t d)::vo t l
def yX (t:Nat):ayj->ayj
 |[]=>[]
 |(u,d)::l=>(u,cJ t d)::yX t l
theorem Nq (t:Nat):∀l:ayj,oB t (aq l)=aq (vo t l):=by
 intro l;funext u;induction l with
 |nil=>rfl
 |cons p l ih=>
  obtain⟨v,d⟩:=p;simp only[oB,aq,vo]at ih⊢;split
  .rfl
  .exact ih
theorem afb (t:Nat):∀l:ayj,jk t (aq l)=aq (yX t l):=by
 intro l;funext u;induction l with
 |nil=>rfl
 |cons p l ih=>
  obtain⟨v,d⟩:=p;simp only[jk,aq,yX]at ih⊢;split
  .rfl
  .exact ih
def hs (k:ayf) (s:ak):ayj:=k.map λt=>(t,s t)
section
variable {C:cm} {l:ayj}
def e2.jN:e2->Bool
 | .call _ _=>true
 | .gM _=>false
 | .hO _=>false
 | .pick _ _ _=>false
 | .mL _=>false
 | .ij _ _=>false
 | .gz _ _=>false
 | .dW _ _ _=>false
 | .fS _ _=>false
 | .kR _ _ _=>false
 | .mm _=>false
 | .eL _ _ _ _=>false
 | .un _ _=>false
 | .kT _ _ _=>false
 | .pJ _ _=>false
 | .fF _ _ _=>false
 | .iP _ _ _ _=>false
 | .hU _ _ _=>false
 | .kD _ _ _=>false
 | .idx _ _ _=>false
 | .ex _ _=>false
 | .pa _ _ _=>false
 | .len _ _=>false
 | .app _ _ _ _=>false
 | .shr _=>true
 | .cap _ _=>false
 | .kF _ _ _=>false
 | .bad=>false
 | .mM _ _ _=>true
 | .l0 _ _=>false
 | .pK _=>false
 | .pe _=>false
 | .sj=>false
 | .jH _ _ _=>false
 | .kU _ _ _ _=>false
variable {Q:Exit->ak->Prop}
def I.EH:I->Bool
 | .tuple _=>true
 |_=>false
theorem Ends.one {fx:ayf} {t:Nat} {r:I} {s:ak} (ad:s t=r) (af:(r.tree&& !r.EH)=true):Ends C fx [.tmp t] r [] s:=by
 simp only[Bool.and_eq_true,Bool.not_eq_true']at af;obtain⟨af,Iu⟩:=af;have aG:∀vs,r≠.tuple vs:=λvs e=>by subst e;simp[I.EH]at Iu
 refine .inl ⟨[r],?_,rfl,by simp,λi o h=>by simp at h⟩;have:tP C s (.tmp t)=some r:=by
  simp only[tP,ad,af,if_true];try (cases r<;>first|rfl|exact(aG _ rfl).elim)
 simp only[List.map_cons,List.map_nil,this]
end
section
variable {C:cm} {l:ayj} {Q:Exit->ak->Prop}
theorem aW.outs {f:FuncId} {as:ayk} {r:I} {ql nH:ayk} (h:aW C f as r ql) (he:gf ql=gf nH):aW C f as r nH:=by
 intro w F X S vs hl aQ;refine q8.mono (h w F X S vs hl aQ) ?_;rintro v aN ⟨ch,a7,bC⟩;refine⟨ch,a7,?_⟩;have:gf (r::nH)=gf (r::ql):=by
  funext t;cases t with
  |zero=>rfl
  |succ t=>exact(congrFun he t).symm
 rw[this];exact bC
def pj:ayk->ayk->List dp
 |a::as,d::ds=>⟨a,false,d,.hole⟩::pj as ds
 |_,_=>[]
theorem afc {s:ak}:∀(as ds:ayk),views s as=some ds->(pj as ds).map (·.a)=as/\(pj as ds).map (·.d)=ds/\(∀p∈pj as ds,p.ok s/\p.g=false/\p.o= .hole/\p.a∈as)/\jI (pj as ds)=true/\
  gf ((pj as ds).map (·.o))=gf []/\(∀vp,fT vp (pj as ds)=vp)/\(∀vp,jb vp (pj as ds)=vp):=by
 intro as;induction as with
 |nil=>
  intro ds h;simp only[views,Option.some.injEq]at h;subst h;exact⟨rfl,rfl,(λp ax=>by cases ax),rfl,rfl,λ_=>rfl,λ_=>rfl⟩
 |cons a as ih=>
  intro ds h;simp only[views]at h;split at h
  .rename_i d afd ad af;simp only[Option.some.injEq]at h;subst h;obtain⟨aP,aY,aU,b4,cM,cl,b9⟩:=ih afd af;refine⟨by simp only[pj,List.map_cons,aP],by simp only[pj,List.map_cons,aY],?_,?_,?_,?_,?_⟩
   .intro p ax;simp only[pj,List.mem_cons]at ax;rcases ax with rfl|ax
    .exact⟨by simp only[dp.ok];exact ad,rfl,rfl,by simp⟩
    .obtain⟨g1,g2,g3,g4⟩:=aU p ax;exact⟨g1,g2,g3,by simp[g4]⟩
   .simp only[pj,jI,b4,Bool.and_true,List.all_eq_true];intro p ax;simp[(aU p ax).2.1]
   .funext t;cases t with
    |zero=>rfl
    |succ t=>exact(congrFun cM t).trans (by simp[gf])
   .intro vp;exact cl vp
   .intro vp;exact b9 vp
  .cases h
end
structure fM where
 dU:ayf
 H:ayf
 T:ayf
 c:Bool
mutual
def I.clean:I->Bool
 | .hole=>false
 | .fn _ cap=>I.Bb cap
 |_=>true
def I.Bb:ayk->Bool
 |[]=>true
 |d::ds=>d.clean&&I.Bb ds
end
mutual
theorem Vn {x:Nat}:∀a:I,(cJ x a).clean=true->cJ x a=a
 | .h y q,h=>by
   simp only[cJ]at h⊢;split
   .rename_i e;rw[if_pos e]at h;split
    .rfl
    .rename_i hp;rw[if_neg hp]at h;simp[I.clean]at h
   .rfl
 | .ax y q,h=>by
   simp only[cJ]at h⊢;split
   .rename_i e;rw[if_pos e]at h;simp[I.clean]at h
   .rfl
 | .aa y q,h=>rfl
 | .fn f cap,h=>by simp only[cJ,I.clean]at h⊢;rw[Vo cap h]
 | .hole,_=>rfl
 | .bool _,_=>rfl
 | .gn,_=>rfl
 | .int _ _,_=>rfl
 | .str _,_=>rfl
 | .er,_=>rfl
 | .bg,_=>rfl
 | .slice _,_=>rfl
 | .ag _ _,_=>rfl
 | .ref _,_=>rfl
 | .aS _,_=>rfl
 | .agg _,_=>rfl
 | .tuple _,_=>rfl
 | .cc _,_=>rfl
theorem Vo {x:Nat}:∀ds:ayk,I.Bb (kC x ds)=true->kC x ds=ds
 |[],_=>rfl
 |d::ds,h=>by
  simp only[kC,I.Bb,Bool.and_eq_true]at h⊢;rw[Vn d h.1,Vo ds h.2]
end
mutual
theorem Vp {x:Nat}:∀a:I,(dy x a).clean=true->dy x a=a
 | .h y q,h=>by
   simp only[dy]at h⊢;split
   .rename_i e;rw[if_pos e]at h;simp[I.clean]at h
   .rfl
 | .ax y q,h=>by
   simp only[dy]at h⊢;split
   .rename_i e;rw[if_pos e]at h;simp[I.clean]at h
   .rfl
 | .aa y q,h=>by
   simp only[dy]at h⊢;split
   .rename_i e;rw[if_pos e]at h;simp[I.clean]at h
   .rfl
 | .fn f cap,h=>by simp only[dy,I.clean]at h⊢;rw[Vq cap h]
 | .hole,_=>rfl
 | .bool _,_=>rfl
 | .gn,_=>rfl
 | .int _ _,_=>rfl
 | .str _,_=>rfl
 | .er,_=>rfl
 | .bg,_=>rfl
 | .slice _,_=>rfl
 | .ag _ _,_=>rfl
 | .ref _,_=>rfl
 | .aS _,_=>rfl
 | .agg _,_=>rfl
 | .tuple _,_=>rfl
 | .cc _,_=>rfl
theorem Vq {x:Nat}:∀ds:ayk,I.Bb (la x ds)=true->la x ds=ds
 |[],_=>rfl
 |d::ds,h=>by
  simp only[la,I.Bb,Bool.and_eq_true]at h⊢;rw[Vp d h.1,Vq ds h.2]
end
theorem afe {k:tK} {x:Nat} {a:I} (h:(k.app x a).clean=true):k.app x a=a:=by
 cases k with
 |no=>rfl
 |cJ=>exact Vn a h
 |dy=>exact Vp a h
theorem aff:∀(ms:List h8) (u:Nat) (a:I),(∀m∈ms,m.x≠u)->(mn ms u a).clean=true->mn ms u a=a:=by
 intro ms;induction ms with
 |nil=>intros;rfl
 |cons m ms ih=>
  intro u a ao ar;simp only[mn]at ar⊢;have e:=ih u _ (λjG yY=>ao jG (by simp[yY])) ar;have hm:m.at u a=m.k.app m.x a:=by
   simp only[h8.at];rw[if_neg (λe=>ao m (by simp) e.symm)]
  rw[e,hm];rw[e,hm]at ar;exact afe ar
theorem afg:∀(ms:List h8) (u:Nat) (a:I),(∀m∈ms,m.x≠u/\m.x∉a.ab)->mn ms u a=a:=by
 intro ms;induction ms with
 |nil=>intros;rfl
 |cons m ms ih=>
  intro u a ao;simp only[mn];have hm:m.at u a=a:=by
   simp only[h8.at];rw[if_neg (λe=>(ao m (by simp)).1 e.symm)];exact Ej (.inr (ao m (by simp)).2)
  rw[hm];exact ih u a λjG yY=>ao jG (by simp[yY])
theorem afh (m:h8):∀(ms:List h8) (u:Nat) (a:I),(∀jG∈ms,jG.x≠m.x/\jG.x∉m.d.ab/\m.x∉jG.d.ab)->mn ms u (m.at u a)=m.at u (mn ms u a):=by
 intro ms;induction ms with
 |nil=>intros;rfl
 |cons n ms ih=>
  intro u a ao;simp only[mn];have aV:=ao n (by simp);have ar:n.at u (m.at u a)=m.at u (n.at u a):=by
   simp only[h8.at];by_cases aP:u=n.x
   .subst aP;rw[if_pos rfl,if_neg aV.1,if_pos rfl];exact(Ej (.inr aV.2.2)).symm
   .rw[if_neg aP];by_cases aY:u=m.x
    .subst aY;rw[if_pos rfl,if_pos rfl];exact Ej (.inr aV.2.1)
    .rw[if_neg aY,if_neg aP,if_neg aY];exact adR _ _ _ _ _
  rw[ar];exact ih u _ λjG yY=>ao jG (by simp[yY])
theorem afi:∀(ms l3:List h8) (s:ak),(∀m∈ms,∀n∈l3,n.x≠m.x/\n.x∉m.d.ab/\m.x∉n.d.ab)->eR l3 (eR ms s)=eR ms (eR l3 s):=by
 intro ms;induction ms with
 |nil=>intros;rfl
 |cons m ms ih=>
  intro l3 s h;have e:∀s,eR (m::ms) s=eR ms (eR [m] s):=λs=>pf [m] ms s;rw[e,e,ih l3 _ (λjG yY=>h jG (by simp[yY]))];congr 1;funext u;simp only[eR,mn];exact afh m l3 u _ (h m (by simp))
def Vr (C:cm) (s:ak) (f:bz) (args:List bz) (K:ayf->I->ak->Prop):Prop:=
 ∃(g:FuncId) (caps:ayk) (ps:List dp) (r:I),bu s f= .fn g caps/\I.e5 caps=true/\ps.map (·.a)=args.map (bu s)++caps/\(∀p∈ps,p.ok s)/\jI ps=true/\
   aW C g (ps.map (·.d)) r (ps.map (·.o))/\r.res=true/\(l5 ps=true->r.cX=true/\∀p∈ps,p.o.cX=true)/\K (I.e3 ((ps.filter (·.g)).map (·.a))) r (jb (fT s ps) ps)
def qo (C:cm) (s:ak) (bX:e2) (K:ayf->I->ak->Prop):Prop:=
 match bX with
 | .call f args=>∃(g:FuncId) (caps:ayk) (ps:List dp) (r:I),bu s f= .fn g caps/\I.e5 caps=true/\ps.map (·.a)=args.map (bu s)++caps/\(∀p∈ps,p.ok s)/\jI ps=true/\
   aW C g (ps.map (·.d)) r (ps.map (·.o))/\r.res=true/\(l5 ps=true->r.cX=true/\∀p∈ps,p.o.cX=true)/\K (I.e3 ((ps.filter (·.g)).map (·.a))) r (jb (fT s ps) ps)
 | .shr bX=>∃av s1,cf C s bX=some (av,s1)/\av.tree=true/\(∀vs,av≠.tuple vs)/\K (l4 s bX) av.share s1
 | .mM f args us=>n6 s (lh s us)=true/\Vr C s f args λdG av s1=>n6 s1 (lh s us)=true/\K (us++dG) av (pL s1 (lh s us))
 |bX=>∃av s1,cf C s bX=some (av,s1)/\K (l4 s bX) av s1
def kJ (s:ak) (dU:ayf) (dst:Option Nat) (dG:ayf) (av:I):fM:=
 ⟨dU,dU.flatMap (λu=>(s u).ab)++av.ab,dst.toList++dG,dU.all λu=>(s u).clean⟩
def oH (C:cm) (s:ak) (o:cu) (K:fM->ak->Prop):Prop:=
 match o.guard with
 |none=>qo C s o.bX λdG av s1=>K (kJ s (use s o.bX) o.dst dG av) (fin s1 o.dst av)
 |some (t,b)=>match s t with
  | .bool gL=>if gL=b then qo C s o.bX (λdG av s1=>K (kJ s (t::use s o.bX) o.dst dG av) (fin s1 o.dst av))else K (kJ s [t] o.dst [] (.tuple [])) (fin s o.dst (.tuple []))
  | .tuple []=>K (kJ s [t] o.dst [] (.tuple [])) (fin s o.dst (.tuple []))
  |_=>False
def sA:Option (List fM)->fM->Option (List fM)
 |none,_=>none
 |some l,f=>some (f::l)
def dJ (C:cm) (s:ak):List cu->Option (List fM)->(Option (List fM)->ak->Prop)->Prop
 |[],acc,K=>K acc s
 |o::os,acc,K=>oH C s o λf s1=>dJ C s1 os (sA acc f) K
section
variable {C:cm}
theorem Vs {s:ak} {bX:e2} {K:ayf->I->ak->Prop} {eD:I->ak->Prop} (au:∀dG av s,K dG av s->eD av s) (h:qo C s bX K):ra C s bX eD:=by
 cases bX with
 |call f args=>
  obtain⟨g,caps,ps,r,ad,hV,af,aG,bf,bU,dc,c1,g_⟩:=h;exact⟨g,caps,ps,r,ad,hV,af,aG,bf,bU,dc,c1,au _ _ _ g_⟩
 |mM f args us=>
  obtain⟨ct,g,caps,ps,r,ad,hV,af,aG,bf,bU,dc,c1,g_,iN⟩:=h;exact⟨ct,g,caps,ps,r,ad,hV,af,aG,bf,bU,dc,c1,g_,au _ _ _ iN⟩
 |shr bX=>
  obtain⟨av,s1,ad,af,aG,bf⟩:=h;exact⟨av,s1,ad,af,aG,au _ _ _ bf⟩
 |_=>
  obtain⟨av,s1,ad,af⟩:=h;exact⟨av,s1,ad,au _ _ _ af⟩
theorem afj {s:ak} {o:cu} {K:fM->ak->Prop} {eD:ak->Prop} (au:∀f s,K f s->eD s) (h:oH C s o K):oG C s o eD:=by
 unfold oH at h;unfold oG;split
 .rename_i hg;rw[hg]at h;exact Vs (λ_ _ _=>au _ _) h
 .rename_i t b hg;rw[hg]at h;simp only at h;split
  .rename_i gL ab;rw[ab]at h;simp only at h;split
   .rename_i aa;rw[if_pos aa]at h;exact Vs (λ_ _ _=>au _ _) h
   .rename_i aa;rw[if_neg aa]at h;exact au _ _ h
  .rename_i ab;rw[ab]at h;exact au _ _ h
  .rename_i ad af;split at h
   .exact ad _ (by assumption)
   .exact af (by assumption)
   .exact h
theorem yZ {K:ak->Prop}:∀{ros:List cu} {s:ak} {acc:Option (List fM)} {eD:Option (List fM)->ak->Prop},(∀a s,eD a s->K s)->dJ C s ros acc eD->n7 C s ros K:=by
 intro ros;induction ros with
 |nil=>intro s acc eD au h;exact au _ _ h
 |cons o ros ih=>intro s acc eD au h;exact afj (λf s h=>ih au h) h
theorem Vt {q:ayf} {a d:I} (h:I.sub q a=some d) (cy:q≠[]\/d.ab=[]):a.ab=[]:=by
 cases q with
 |nil=>
  simp only[I.sub,Option.some.injEq]at h;subst h;exact cy.resolve_left (λe=>e rfl)
 |cons k q=>cases a<;>first|rfl|(simp[I.sub]at h)
def Iv (s:ak) (p:dp) (e:I->Prop):Prop:=p.g=true->∃x q d,p.a= .h x q/\I.sub q (s x)=some d/\e d/\(p.o= .hole\/p.o.hH=true)
theorem Vu {d:I} (h:d.hH=true):d.ab=[]:=MY (xf h).2.1
theorem Vv {d:I} (h:d.hH=true):d.dY.ab=[]:=by cases d<;>first|rfl|(simp[I.hH]at h)
theorem Vw {p:dp} {ps:List dp} (h:jI (p::ps)=true):jI ps=true/\∀da∈ps,(p.g=true\/da.g=true)->∀u∈p.a.ab,u∉da.a.ab:=by
 simp only[jI,Bool.and_eq_true,List.all_eq_true,Bool.or_eq_true,Bool.not_eq_true']at h;refine⟨h.2,λda fp hg u hu=>?_⟩;rcases h.1 da fp with e|e
 .rcases hg with hg|hg<;>simp[hg]at e
 .simpa using e u hu
def tR (ps:List dp):ayf:=I.e3 ((ps.filter (·.g)).map (·.a))
theorem Bc (p:dp) (ps:List dp):(∀u∈tR ps,u∈tR (p::ps))/\(p.g=true->∀u∈p.a.ab,u∈tR (p::ps)):=by
 unfold tR;by_cases hg:p.g=true
 .simp only[List.filter_cons,hg,if_true,List.map_cons,I.e3,List.mem_append];exact⟨λu h=>.inr h,λ_ u h=>.inl h⟩
 .simp only[List.filter_cons,hg];exact⟨λu h=>h,λh=>by simp at h⟩
theorem afk {p:dp} {ps:List dp} (h:p∈ps):∀u∈p.a.ab,u∈I.e3 (ps.map (·.a)):=by
 induction ps with
 |nil=>cases h
 |cons da ps ih=>
  intro u hu;simp only[List.map_cons,I.e3,List.mem_append];rcases List.mem_cons.1 h with rfl|h
  .exact .inl hu
  .exact .inr (ih h u hu)
theorem afl:∀(ps:List dp) (s:ak),(∀p∈ps,Iv s p (λd=>d=p.d/\p.d.hH=true))->jI ps=true->
  (∃ms:List h8,(∀m∈ms,m.x∈tR ps/\m.d.ab=[])/\∀aH,eN (I.e3 (ps.map (·.a))) aH s->fT aH ps=eR ms aH)/\∀p∈ps,Iv (fT s ps) p (λd=>d=p.d.dY/\p.d.hH=true):=by
 intro ps;induction ps with
 |nil=>intro s _ _;exact⟨⟨[],by simp,λaH _=>rfl⟩,λp ax=>by cases ax⟩
 |cons p ps ih=>
  intro s hg nF;obtain⟨sq,q7⟩:=Vw nF;by_cases pk:p.g=true
  .obtain⟨x,q,d,br,ab,⟨rfl,an⟩,bI⟩:=hg p (by simp) pk;have lX:(I.put q p.d.dY (s x)).ab=[]:=A1 q _ _ _ ab (.inl (xf an).1) λ_=>Vv an;have EI:∀aH:ak,aH x=s x->p.take aH=eR [⟨.cJ,x,I.put q p.d.dY (s x)⟩] aH:=by
    intro aH e;simp only[dp.take,pk,if_true,br,e,yR]
   have d_:∀da∈ps,∀cN lH,da.a= .h cN lH->cN≠x:=by
    intro da fp cN lH e hp;have:=q7 da fp (.inl pk) x (by simp[br,I.ab]);rw[e,hp]at this;simp[I.ab]at this
   have xg:∀cN,cN≠x->(s cN).ab=[]->eR [⟨.cJ,x,I.put q p.d.dY (s x)⟩] s cN=s cN:=by
    intro cN AQ a_;simp only[eR,mn,h8.at];rw[if_neg AQ];exact Ej (.inr (by rw[a_];simp))
   obtain⟨⟨ms,m1,m2⟩,m3⟩:=ih (eR [⟨.cJ,x,I.put q p.d.dY (s x)⟩] s) (λda fp Nr=>by
    obtain⟨cN,lH,bJ,yU,fX,jh,EJ⟩:=hg da (by simp[fp]) Nr;refine⟨cN,lH,bJ,yU,?_,jh,EJ⟩;rw[xg cN (d_ da fp cN lH yU) (Vt fX (.inr (by rw[jh.1];exact Vu jh.2)))];exact fX) sq
   refine⟨⟨[⟨.cJ,x,I.put q p.d.dY (s x)⟩]++ms,?_,?_⟩,?_⟩
   .intro m hm;rcases List.mem_append.1 hm with hm|hm
    .simp only[List.mem_singleton]at hm;subst hm;exact⟨(Bc p ps).2 pk x (by simp[br,I.ab]),lX⟩
    .exact⟨(Bc p ps).1 _ (m1 m hm).1,(m1 m hm).2⟩
   .intro aH fX;simp only[List.map_cons,I.e3]at fX;have e:aH x=s x:=fX x (by simp[br,I.ab]);rw[pf];show fT (p.take aH) ps=_;rw[EI aH e];exact m2 _ (eN.eR fX.right _)
   .have aP:fT s (p::ps)=fT (eR [⟨.cJ,x,I.put q p.d.dY (s x)⟩] s) ps:=by
     show fT (p.take s) ps=_;rw[EI s rfl]
    rw[aP];intro da fp;rcases List.mem_cons.1 fp with rfl|fp
    .intro _;refine⟨x,q,da.d.dY,br,?_,⟨rfl,an⟩,bI⟩;have aJ:eR [⟨.cJ,x,I.put q da.d.dY (s x)⟩] s x=I.put q da.d.dY (s x):=by
      simp only[eR,mn,h8.at,if_true]
     rw[MV (by rw[aJ];exact lX) (λafm afn awr=>?_),aJ]
     .exact US q _ _ _ ab
     .exact q7 afm afn (.inl pk) x (by simp[br,I.ab])
    .exact m3 da fp
  .have EI:∀aH:ak,p.take aH=aH:=by intro aH;simp only[dp.take,pk];rfl
   obtain⟨⟨ms,m1,m2⟩,m3⟩:=ih s (λda fp=>hg da (by simp[fp])) sq;refine⟨⟨ms,λm hm=>⟨(Bc p ps).1 _ (m1 m hm).1,(m1 m hm).2⟩,?_⟩,?_⟩
   .intro aH fX;simp only[List.map_cons,I.e3]at fX;show fT (p.take aH) ps=_;rw[EI];exact m2 aH fX.right
   .intro da fp;have aP:fT s (p::ps)=fT s ps:=by show fT (p.take s) ps=_;rw[EI]
    rw[aP];rcases List.mem_cons.1 fp with rfl|fp
    .intro h;exact(pk h).elim
    .exact m3 da fp
theorem afo:∀(ps:List dp) (s:ak),(∀p∈ps,Iv s p (λd=>d=p.d.dY/\p.d.hH=true))->jI ps=true->
  (∃ms:List h8,(∀m∈ms,m.x∈tR ps/\m.d.ab=[])/\∀aH,eN (I.e3 (ps.map (·.a))) aH s->jb aH ps=eR ms aH):=by
 intro ps;induction ps with
 |nil=>intro s _ _;exact⟨[],by simp,λaH _=>rfl⟩
 |cons p ps ih=>
  intro s hg nF;obtain⟨sq,q7⟩:=Vw nF;by_cases pk:p.g=true/\p.o≠.hole
  .obtain⟨pk,afp⟩:=pk;obtain⟨x,q,d,br,ab,⟨rfl,an⟩,bI⟩:=hg p (by simp) pk;have bI:p.o.hH=true:=bI.resolve_left afp;have lX:(I.put q p.o (s x)).ab=[]:=by
    cases q with
    |nil=>simp only[I.put];exact Vu bI
    |cons k q=>exact A1 _ _ _ _ ab (.inr (by simp)) (by simp)
   have Ns:∀aH:ak,aH x=s x->p.kG aH=eR [⟨.dy,x,I.put q p.o (s x)⟩] aH:=by
    intro aH e;simp only[dp.kG,pk,if_true,br];rw[e,Uz]
   have d_:∀da∈ps,∀cN lH,da.a= .h cN lH->cN≠x:=by
    intro da fp cN lH e hp;have:=q7 da fp (.inl pk) x (by simp[br,I.ab]);rw[e,hp]at this;simp[I.ab]at this
   obtain⟨ms,m1,m2⟩:=ih (eR [⟨.dy,x,I.put q p.o (s x)⟩] s) (λda fp Nr=>by
    obtain⟨cN,lH,bJ,yU,fX,jh,EJ⟩:=hg da (by simp[fp]) Nr;refine⟨cN,lH,bJ,yU,?_,jh,EJ⟩;have a_:=Vt fX (.inr (by rw[jh.1];exact Vv jh.2));have xg:eR [⟨.dy,x,I.put q p.o (s x)⟩] s cN=s cN:=by
     simp only[eR,mn,h8.at];rw[if_neg (d_ da fp cN lH yU)];exact Ej (.inr (by rw[a_];simp))
    rw[xg];exact fX) sq
   refine⟨[⟨.dy,x,I.put q p.o (s x)⟩]++ms,?_,?_⟩
   .intro m hm;rcases List.mem_append.1 hm with hm|hm
    .simp only[List.mem_singleton]at hm;subst hm;exact⟨(Bc p ps).2 pk x (by simp[br,I.ab]),lX⟩
    .exact⟨(Bc p ps).1 _ (m1 m hm).1,(m1 m hm).2⟩
   .intro aH fX;simp only[List.map_cons,I.e3]at fX;have e:aH x=s x:=fX x (by simp[br,I.ab]);rw[pf];show jb (p.kG aH) ps=_;rw[Ns aH e];exact m2 _ (eN.eR fX.right _)
  .have Ns:∀aH:ak,p.kG aH=aH:=by
    intro aH;unfold dp.kG;split
    .rename_i iQ;have:p.o= .hole:=by
      by_cases h:p.o= .hole
      .exact h
      .exact(pk ⟨iQ,h⟩).elim
     rw[this]
    .rfl
   obtain⟨ms,m1,m2⟩:=ih s (λda fp=>hg da (by simp[fp])) sq;refine⟨ms,λm hm=>⟨(Bc p ps).1 _ (m1 m hm).1,(m1 m hm).2⟩,?_⟩;intro aH fX;simp only[List.map_cons,I.e3]at fX;show jb (p.kG aH) ps=_;rw[Ns];exact m2 aH fX.right
theorem afq {s aH:ak}:∀(a:I) (d:I),eN a.ab aH s->view s a=some d->view aH a=some d:=by
 intro a d h;have:=MZ (s:=s) (aH:=aH) a d;intro aJ;cases a with
 |h x q=>simp only[view]at aJ⊢;rw[h x (by simp[I.ab])];exact aJ
 |ax x q=>simp only[view]at aJ⊢;rw[h x (by simp[I.ab])];exact aJ
 |fn f cap=>
  refine this (λu hu _=>h u hu) aJ
 |_=>exact aJ
theorem afr {p:dp} {s aH:ak} (h:eN p.a.ab aH s) (gF:p.ok s):p.ok aH:=by
 unfold dp.ok at gF⊢;split
 .rename_i hg;rw[if_pos hg]at gF;cases br:p.a with
  |h x q=>
   rw[br]at gF;simp only at gF⊢;rw[h x (by simp[br,I.ab])];exact gF
  |_=>rw[br]at gF;exact gF.elim
 .rename_i hg;rw[if_neg hg]at gF;exact afq _ _ h gF
def Iw (C:cm) (o:cu) (s:ak) (np:fM) (ms:List h8):Prop:=
 (∀aH,eN np.dU aH s->∀K:ak->Prop,K (eR ms aH)->oG C aH o K)/\(∀m∈ms,m.x∈np.T/\∀u∈m.d.ab,u∈np.H)/\(∀u∈np.dU,∀x∈(s u).ab,x∈np.H)/\(np.c=true->∀u∈np.dU,(s u).clean=true)
theorem Vx (dst:Option Nat) (av:I):∃ms:List h8,(∀m∈ms,m.x∈dst.toList/\m.d=av)/\∀s1:ak,fin s1 dst av=eR ms s1:=by
 cases dst with
 |none=>exact⟨[],by simp,λs=>rfl⟩
 |some t=>
  simp only[fin];by_cases h:av.plain=true
  .exact⟨[⟨.no,t,av⟩],by simp,λs=>by rw[if_pos h,UA]⟩
  .exact⟨[⟨.dy,t,av⟩],by simp,λs=>by rw[if_neg h,Uz]⟩
theorem Ix {s:ak} {dU:ayf} {dst:Option Nat} {dG:ayf} {av:I}:(∀u∈(kJ s dU dst dG av).dU,∀x∈(s u).ab,x∈(kJ s dU dst dG av).H)/\((kJ s dU dst dG av).c=true->∀u∈(kJ s dU dst dG av).dU,(s u).clean=true):=by
 refine⟨λu hu x ao=>?_,λar=>?_⟩
 .simp only[kJ,List.mem_append,List.mem_flatMap];exact .inl ⟨u,hu,ao⟩
 .simp only[kJ,List.all_eq_true]at ar;exact ar
theorem Vy {s:ak} {f:bz} {args:List bz} {K:ayf->I->ak->Prop} (h:Vr C s f args K):
  ∃dG av ms,K dG av (eR ms s)/\(∀m∈ms,m.x∈dG/\m.d.ab=[])/\∀aH,eN (use s (.call f args)) aH s->∀eD:I->ak->Prop,eD av (eR ms aH)->M4 C aH f args eD:=by
 obtain⟨g,caps,ps,r,ad,hV,af,aG,bf,bU,dc,c1,g_⟩:=h;have afs:∀p∈ps,Iv s p (λd=>d=p.d/\p.d.hH=true):=by
  intro p ax hg;have:=aG p ax;simp only[dp.ok,hg,if_true]at this;cases br:p.a with
  |h x q=>rw[br]at this;exact⟨x,q,p.d,rfl,this.1,⟨rfl,this.2.1⟩,this.2.2.imp id λh=>h.1⟩
  |_=>rw[br]at this;exact this.elim
 obtain⟨⟨so,J,a2⟩,a3⟩:=afl ps s afs bf;obtain⟨xb,hA,fV⟩:=afo ps (fT s ps) a3 bf;have tH:∀u∈I.e3 (ps.map (·.a)),u∈use s (.call f args):=by
  rw[af];intro u hu;simp only[use,List.mem_append];have key:∀(h5 l2:ayk),u∈I.e3 (h5++l2)->u∈I.e3 h5\/u∈I.e3 l2:=by
   intro h5;induction h5 with
   |nil=>intro l2 h;exact .inr h
   |cons a h5 ih=>
    intro l2 h;simp only[List.cons_append,I.e3,List.mem_append]at h⊢;rcases h with h|h
    .exact .inl (.inl h)
    .exact(ih l2 h).imp .inr id
  rcases key _ _ hu with hu|hu
  .exact .inr (bz.Ig u hu)
  .refine .inl (bz.yS u ?_);rw[ad];exact hu
 have gb:jb (fT s ps) ps=eR (so++xb) s:=by
  rw[pf,<-a2 s (λ_ _=>rfl),fV _ (λ_ _=>rfl)]
 refine⟨tR ps,r,so++xb,by rw[<-gb];exact g_,?_,?_⟩
 .intro m hm;rcases List.mem_append.1 hm with hm|hm
  .exact J m hm
  .exact hA m hm
 .intro aH ab eD au;have vl:eN (I.e3 (ps.map (·.a))) aH s:=ab.sub tH;have bD:eN (f.use s) aH s:=by simp only[use]at ab;exact ab.left
  have ao:eN (bz.sl s args) aH s:=by simp only[use]at ab;exact ab.right
  have aP:jb (fT aH ps) ps=eR (so++xb) aH:=by
   rw[pf,<-a2 aH vl,fV];rw[a2 aH vl,a2 s (λ_ _=>rfl)];exact eN.eR vl _
  exact⟨g,caps,ps,r,by rw[bz.gE bD];exact ad,hV,by rw[bz.MM ao];exact af,λp ax=>afr (vl.sub (afk ax)) (aG p ax),bf,bU,dc,c1,by rw[aP];exact au⟩
mutual
theorem Vz {s aH:ak}:∀(d:I),eN d.ab aH s->d.gG aH=d.gG s
 | .h x q,h=>by simp only[I.gG];rw[h x (by simp[I.ab])]
 | .aa x q,h=>by simp only[I.gG];rw[h x (by simp[I.ab])]
 | .fn f cap,h=>by simp only[I.gG];exact VA cap (by simpa only[I.ab]using h)
 | .ax _ _,_=>by simp only[I.gG]
 | .hole,_=>by simp only[I.gG]
 | .bool _,_=>by simp only[I.gG]
 | .gn,_=>by simp only[I.gG]
 | .int _ _,_=>by simp only[I.gG]
 | .str _,_=>by simp only[I.gG]
 | .er,_=>by simp only[I.gG]
 | .bg,_=>by simp only[I.gG]
 | .slice _,_=>by simp only[I.gG]
 | .ag _ _,_=>by simp only[I.gG]
 | .ref _,_=>by simp only[I.gG]
 | .aS _,_=>by simp only[I.gG]
 | .agg _,_=>by simp only[I.gG]
 | .tuple _,_=>by simp only[I.gG]
 | .cc _,_=>by simp only[I.gG]
theorem VA {s aH:ak}:∀(ds:ayk),eN (I.e3 ds) aH s->I.q_ aH ds=I.q_ s ds
 |[],_=>rfl
 |d::ds,h=>by
  simp only[I.e3]at h;simp only[I.q_];rw[Vz d h.left,VA ds h.right]
end
theorem Nt {s aH:ak} {us:ayf} (h:eN (us.flatMap λu=>u::(s u).ab) aH s):lh aH us=lh s us:=by
 unfold lh;refine List.map_congr_left λu hu=>?_;rw[h u (List.mem_flatMap.2 ⟨u,hu,by simp⟩)]
theorem Nu {s aH:ak}:∀(L:ayj),(∀p∈L,eN p.2.ab aH s)->n6 aH L=n6 s L
 |[],_=>rfl
 |p::L,h=>by
  simp only[n6];rw[Vz p.2 (h p (by simp)),Nu L (λq cy=>h q (by simp[cy]))]
theorem VB:∀(L:ayj) (s:ak),pL s L=eR (L.map λp=>⟨.no,p.1,p.2⟩) s
 |[],s=>rfl
 |p::L,s=>by
  simp only[pL,List.map_cons];rw[VB L,UA];exact(pf [⟨.no,p.1,p.2⟩] _ s).symm
theorem aft {s:ak} {bX:e2} {K:ayf->I->ak->Prop} (h:qo C s bX K):
  ∃dG av ms,K dG av (eR ms s)/\(∀m∈ms,m.x∈dG/\∀v∈m.d.ab,∃u∈use s bX,v∈(s u).ab)/\∀aH,eN (use s bX) aH s->∀eD:I->ak->Prop,eD av (eR ms aH)->ra C aH bX eD:=by
 have plain:(∃av s1,cf C s bX=some (av,s1)/\K (l4 s bX) av s1)->(∀aH (eD:I->ak->Prop) av s1,cf C aH bX=some (av,s1)->eD av s1->ra C aH bX eD)->
   ∃dG av ms,K dG av (eR ms s)/\(∀m∈ms,m.x∈dG/\∀v∈m.d.ab,∃u∈use s bX,v∈(s u).ab)/\∀aH,eN (use s bX) aH s->∀eD:I->ak->Prop,eD av (eR ms aH)->ra C aH bX eD:=by
  rintro⟨av,s1,ad,af⟩ hw;obtain⟨ms,aP,aY,aU⟩:=UQ ad;subst aP;exact⟨_,av,ms,af,λm hm=>⟨(aY m hm).1,λv aJ=>by rw[(aY m hm).2]at aJ;cases aJ⟩,λaH ab eD au=>hw aH eD av _ (aU aH ab) au⟩
 cases bX with
 |call f args=>
  obtain⟨dG,av,ms,J,a2,a3⟩:=Vy h;exact⟨dG,av,ms,J,λm hm=>⟨(a2 m hm).1,λv aJ=>by rw[(a2 m hm).2]at aJ;cases aJ⟩,λaH ab eD au=>a3 aH ab eD au⟩
 |mM f args us=>
  obtain⟨ct,ar⟩:=h;obtain⟨dG,av,ms,⟨J,afu⟩,a2,a3⟩:=Vy ar;have e:∀aH:ak,pL (eR ms aH) (lh s us)=eR (ms++(lh s us).map λp=>⟨.no,p.1,p.2⟩) aH:=λaH=>by rw[pf,VB]
  have kj:∀{aH:ak},eN (us.flatMap λu=>u::(s u).ab) aH s->∀p∈lh s us,eN p.2.ab aH s:=λ{aH} ab p ax v aJ=>by
   obtain⟨u,hu,rfl⟩:=List.mem_map.1 ax;exact ab v (List.mem_flatMap.2 ⟨u,hu,by simp[aJ]⟩)
  refine⟨us++dG,av,ms++(lh s us).map λp=>⟨.no,p.1,p.2⟩,by rw[<-e];exact afu,?_,?_⟩
  .intro m hm;rcases List.mem_append.1 hm with hm|hm
   .exact⟨by simp[(a2 m hm).1],λv aJ=>by rw[(a2 m hm).2]at aJ;cases aJ⟩
   .obtain⟨p,ax,rfl⟩:=List.mem_map.1 hm;obtain⟨u,hu,rfl⟩:=List.mem_map.1 ax;exact⟨List.mem_append_left _ hu,λv aJ=>⟨u,by simp only[use,List.mem_append,List.mem_flatMap];exact .inl ⟨u,hu,by simp⟩,aJ⟩⟩
  .intro aH ab eD au;simp only[use]at ab;refine⟨by rw[Nt ab.left,Nu _ (kj ab.left)];exact ct,a3 aH ab.right _ ⟨?_,?_⟩⟩
   .rw[Nt ab.left,Nu _ (λp ax=>(kj ab.left p ax).eR ms)];exact J
   .rw[Nt ab.left,e];exact au
 |shr bX=>
  obtain⟨av,s1,ad,af,aG,bf⟩:=h;obtain⟨ms,aP,aY,aU⟩:=UQ ad;subst aP;exact⟨_,av.share,ms,bf,λm hm=>⟨(aY m hm).1,λv aJ=>by rw[(aY m hm).2]at aJ;cases aJ⟩,λaH ab eD au=>⟨av,_,aU aH ab,af,aG,au⟩⟩
 |_=>exact plain h (λaH eD av s1 ad af=>⟨av,s1,ad,af⟩)
theorem afv {s:ak} {o:cu} {K:fM->ak->Prop} (h:oH C s o K):∃np ms,K np (eR ms s)/\Iw C o s np ms:=by
 have op:∀(dU:ayf),(∀u∈use s o.bX,u∈dU)->(∀aH,eN dU aH s->∀eD:ak->Prop,ra C aH o.bX (λav s1=>eD (fin s1 o.dst av))->oG C aH o eD)->
   qo C s o.bX (λdG av s1=>K (kJ s dU o.dst dG av) (fin s1 o.dst av))->∃np ms,K np (eR ms s)/\Iw C o s np ms:=by
  intro dU tH o6 hw;obtain⟨dG,av,ms,ad,af,aG⟩:=aft hw;obtain⟨l3,mv,bA⟩:=Vx o.dst av;refine⟨kJ s dU o.dst dG av,ms++l3,?_,?_,?_,Ix.1,Ix.2⟩
  .rw[pf,<-bA];exact ad
  .intro aH ab eD au;refine o6 aH ab eD (aG aH (ab.sub tH) _ ?_);rw[bA,<-pf];exact au
  .intro m hm;simp only[kJ,List.mem_append];rcases List.mem_append.1 hm with hm|hm
   .refine⟨.inr (af m hm).1,λv aJ=>.inl ?_⟩;obtain⟨u,hu,o7⟩:=(af m hm).2 v aJ;exact List.mem_flatMap.2 ⟨u,tH u hu,o7⟩
   .exact⟨.inl (mv m hm).1,λu hu=>.inr (by rw[(mv m hm).2]at hu;exact hu)⟩
 have skip:∀t,(∀aH,eN [t] aH s->∀eD:ak->Prop,eD (fin aH o.dst (.tuple []))->oG C aH o eD)->K (kJ s [t] o.dst [] (.tuple [])) (fin s o.dst (.tuple []))->∃np ms,K np (eR ms s)/\Iw C o s np ms:=by
  intro t o6 au;obtain⟨l3,mv,bA⟩:=Vx o.dst (.tuple []);refine⟨_,l3,by rw[<-bA];exact au,?_,?_,Ix.1,Ix.2⟩
  .intro aH ab eD nD;exact o6 aH ab eD (by rw[bA];exact nD)
  .intro m hm;simp only[kJ,List.mem_append];exact⟨.inl (mv m hm).1,λu hu=>by rw[(mv m hm).2]at hu;simp[I.ab]at hu⟩
 unfold oH at h;split at h
 .rename_i hg;exact op _ (λ_ h=>h) (λaH _ eD hw=>by unfold oG;rw[hg];exact hw) h
 .rename_i t b hg;split at h
  .rename_i gL aa;split at h
   .rename_i e;refine op (t::use s o.bX) (λu hu=>by simp[hu]) (λaH ab eD hw=>?_) h;have:aH t=s t:=ab t (by simp);unfold oG;rw[hg];simp only[this,aa,if_pos e];exact hw
   .rename_i e;refine skip t (λaH ab eD au=>?_) h;have:aH t=s t:=ab t (by simp);unfold oG;rw[hg];simp only[this,aa,if_neg e];exact au
  .rename_i aa;refine skip t (λaH ab eD au=>?_) h;have:aH t=s t:=ab t (by simp);unfold oG;rw[hg];simp only[this,aa];exact au
  .exact h.elim
def xp (C:cm) (ros:List cu):ak->List (Nat×fM×List h8)->Prop
 |_,[]=>True
 |s,e::r=>(∃o,ros[e.1]? =some o/\Iw C o s e.2.1 e.2.2)/\xp C ros (eR e.2.2 s) r
def sB (s:ak) (r:List (Nat×fM×List h8)):ak:=r.foldl (λs e=>eR e.2.2 s) s
def q2 (a b:ayf):Bool:=a.all λx=> !b.contains x
theorem Bd {a b:ayf} (h:q2 a b=true):∀x∈a,x∉b:=by
 intro x ao;simp only[q2,List.all_eq_true]at h;simpa using h x ao
def y0 (a b:fM):Bool:=q2 b.T a.dU&&q2 b.T a.H&&q2 b.T a.T&&q2 a.T b.dU&&q2 a.T b.H&&b.c
theorem afw {ros:List cu} {s:ak} {a b:Nat×fM×List h8} {r:List (Nat×fM×List h8)} (h:xp C ros s (a::b::r)) (aj:y0 a.2.1 b.2.1=true):
  xp C ros s (b::a::r)/\sB s (b::a::r)=sB s (a::b::r):=by
 obtain⟨⟨afx,br,J,a2,a3,a4⟩,⟨cc,aa,hA,fV,gd,bM⟩,aQ⟩:=h;simp only[y0,Bool.and_eq_true]at aj;obtain⟨⟨⟨⟨⟨wY,i2⟩,i3⟩,i4⟩,i5⟩,LU⟩:=aj;have Nv:∀u∈b.2.1.dU,eR a.2.2 s u=s u:=by
  intro u hu;refine aff _ _ _ (λm hm e=>?_) (bM LU u hu);exact Bd i4 m.x (a2 m hm).1 (e▸hu)
 have Nw:∀u∈a.2.1.dU,eR b.2.2 s u=s u:=by
  intro u hu;refine afg _ _ _ λm hm=>⟨λe=>?_,λao=>?_⟩
  .exact Bd wY m.x (fV m hm).1 (e▸hu)
  .exact Bd i2 m.x (fV m hm).1 (a3 u hu _ ao)
 have VC:eR b.2.2 (eR a.2.2 s)=eR a.2.2 (eR b.2.2 s):=by
  refine afi _ _ _ λm hm n aV=>⟨λe=>?_,λh=>?_,λh=>?_⟩
  .exact Bd i3 n.x (fV n aV).1 (e▸(a2 m hm).1)
  .exact Bd i2 n.x (fV n aV).1 ((a2 m hm).2 _ h)
  .exact Bd i5 m.x (a2 m hm).1 ((fV n aV).2 _ h)
 refine⟨⟨⟨cc,aa,?_,fV,?_,?_⟩,⟨afx,br,?_,a2,?_,?_⟩,?_⟩,?_⟩
 .intro aH ab K au;exact hA aH (λu hu=>(ab u hu).trans (Nv u hu).symm) K au
 .intro u hu x ao;exact gd u hu x (by rw[Nv u hu];exact ao)
 .intro ar u hu;have:=bM ar u hu
  rwa [Nv u hu]at this
 .intro aH ab K au;exact J aH (λu hu=>(ab u hu).trans (Nw u hu)) K au
 .intro u hu x ao;rw[Nw u hu]at ao;exact a3 u hu x ao
 .intro ar u hu;rw[Nw u hu];exact a4 ar u hu
 .rw[<-VC];exact aQ
 .simp only[sB,List.foldl_cons];rw[VC]
theorem afy {ros:List cu} {e:Nat×fM×List h8} {post:List (Nat×fM×List h8)}:∀(pre:List (Nat×fM×List h8)) (s:ak),xp C ros s (pre++e::post)->(∀a∈pre,y0 a.2.1 e.2.1=true)->
  xp C ros s (e::(pre++post))/\sB s (e::(pre++post))=sB s (pre++e::post):=by
 intro pre;induction pre with
 |nil=>intro s h _;exact⟨h,rfl⟩
 |cons a pre ih=>
  intro s h aj;obtain⟨ad,af⟩:=h;obtain⟨g1,g2⟩:=ih _ af λb aa=>aj b (by simp[aa]);have ar:xp C ros s (a::e::(pre++post)):=⟨ad,g1⟩
  obtain⟨bS,ct⟩:=afw ar (aj a (by simp));refine⟨bS,ct.trans ?_⟩;simp only[sB,List.foldl_cons,List.cons_append]at g2⊢;exact g2
end
def EK:ayd->ayd->ayd
 |done,[]=>done
 |done,a::r=>EK (done++[a++a.flatMap λe=>(done[e]?).getD []]) r
def nq (cY:ayd):ayd:=EK [] cY
theorem afz {cY:ayd} {l:ayf} (hl:∀u i v,l=u++i::v->∀e∈(cY[i]?).getD [],e∈u):∀(rest pre done:ayd),cY=pre++rest->done.length=pre.length->
  (∀u i v,l=u++i::v->∀e∈(done[i]?).getD [],e∈u)->∀u i v,l=u++i::v->∀e∈((EK done rest)[i]?).getD [],e∈u:=by
 intro rest;induction rest with
 |nil=>intro pre done _ _ h;exact h
 |cons a rest ih=>
  intro pre done VD hlen h;simp only[EK];refine ih (pre++[a]) _ (by simp[VD]) (by simp[hlen]) ?_;intro u i v hu e he;by_cases aj:i<done.length
  .rw[List.getElem?_append_left aj]at he;exact h u i v hu e he
  .rw[List.getElem?_append_right (by omega)]at he;by_cases Eg:i-done.length=0
   .rw[Eg]at he;simp only[List.getElem?_cons_zero,Option.getD_some,List.mem_append,List.mem_flatMap]at he;have Iy:(cY[i]?).getD []=a:=by
     have:i=pre.length:=by omega
     rw[VD,this,List.getElem?_append_right (Nat.le_refl _)];simp
    rcases he with he|⟨hp,qn,he⟩
    .exact hl u i v hu e (by rw[Iy];exact he)
    .have Ek:=hl u i v hu hp (by rw[Iy];exact qn);obtain⟨vq,xq,rfl⟩:=List.append_of_mem Ek;have:=h vq hp (xq++i::v) (by rw[hu];simp) e he;simp[this]
   .rw[List.getElem?_eq_none (by simp;omega)]at he;simp at he
theorem afA {cY:ayd} {l:ayf} (hl:∀u i v,l=u++i::v->∀e∈(cY[i]?).getD [],e∈u):∀u i v,l=u++i::v->∀e∈((nq cY)[i]?).getD [],e∈u:=
 afz hl cY [] [] rfl rfl λu i v _ e he=>by simp at he
def kp (pO:ayd):Nat->List (Nat×fM)->List fM->Bool
 |_,_,[]=>true
 |j,es,f::aF=>(es.all λe=>((pO[j]?).getD []).contains e.1||y0 e.2 f)&&kp pO (j+1) ((j,f)::es) aF
def Nx (pO:ayd) (a b:Nat×fM×List h8):Prop:=a.1∈(pO[b.1]?).getD []\/y0 a.2.1 b.2.1=true
theorem afB {pO:ayd}:∀(iR:List (Nat×fM×List h8)) (j:Nat) (es:List (Nat×fM)),iR.map (·.1)=(List.range iR.length).map (·+j)->kp pO j es (iR.map (·.2.1))=true->
  iR.Pairwise (Nx pO)/\∀e∈es,∀b∈iR,e.1∈(pO[b.1]?).getD []\/y0 e.2 b.2.1=true:=by
 intro iR;induction iR with
 |nil=>intro j es _ _;exact⟨.nil,λe _ b aa=>by cases aa⟩
 |cons a iR ih=>
  intro j es y1 gF;rw[List.length_cons,List.range_succ_eq_map,List.map_cons,List.map_cons,List.map_map]at y1;simp only[List.cons.injEq,Nat.zero_add]at y1;obtain⟨bF,y1⟩:=y1;simp only[List.map_cons,kp,Bool.and_eq_true,List.all_eq_true,Bool.or_eq_true]at gF;obtain⟨ad,af⟩:=gF;obtain⟨g1,g2⟩:=ih (j+1) _ (by rw[y1];congr 1;funext x;simp;omega) af;refine⟨.cons (λb aa=>?_) g1,λe he b aa=>?_⟩
  .have:=g2 (j,a.2.1) (by simp) b aa;simp only[Nx,bF];exact this
  .rcases List.mem_cons.1 aa with rfl|aa
   .rw[bF];exact(ad e he).imp (λh=>by simpa using h) id
   .exact g2 e (by simp[he]) b aa
section
variable {C:cm}
theorem afC {K:Option (List fM)->ak->Prop}:∀(os pre:List cu) (s:ak) (acc:List fM),dJ C s os (some acc) K->
  ∃iR,xp C (pre++os) s iR/\iR.map (·.1)=(List.range os.length).map (·+pre.length)/\K (some ((iR.map (·.2.1)).reverse++acc)) (sB s iR):=by
 intro os;induction os with
 |nil=>intro pre s acc h;exact⟨[],trivial,rfl,h⟩
 |cons o os ih=>
  intro pre s acc h;obtain⟨np,ms,ad,af⟩:=afv h;obtain⟨iR,g1,g2,g3⟩:=ih (pre++[o]) _ (np::acc) ad;refine⟨(pre.length,np,ms)::iR,⟨⟨o,?_,af⟩,?_⟩,?_,?_⟩
  .rw[List.getElem?_append_right (Nat.le_refl _)];simp
  .simpa using g1
  .rw[List.length_cons,List.range_succ_eq_map,List.map_cons,List.map_cons,List.map_map,g2];simp only[List.cons.injEq,Nat.zero_add,true_and];congr 1;funext x;simp;omega
  .simpa [sB]using g3
theorem afD {ros:List cu} {pO:ayd} {K:ak->Prop}:∀(l:ayf) (iR:List (Nat×fM×List h8)) (s:ak),xp C ros s iR->iR.Pairwise (Nx pO)->l.Nodup->(iR.map (·.1)).Nodup->
  (∀i,i∈l↔i∈iR.map (·.1))->(∀u i v,l=u++i::v->∀e∈(pO[i]?).getD [],e∈iR.map (·.1)->e∈u)->K (sB s iR)->kH C ros s l K:=by
 intro l;induction l with
 |nil=>
  intro iR s _ _ _ _ hm _ au;cases iR with
  |nil=>exact au
  |cons e iR=>have:=(hm e.1).2 (by simp);cases this
 |cons i l ih=>
  intro iR s ar ax aV xc hm bI au;obtain⟨e,he,aj⟩:=List.mem_map.1 ((hm i).1 (by simp));obtain⟨pre,post,rfl⟩:=List.append_of_mem he;have afE:∀a∈pre,y0 a.2.1 e.2.1=true:=by
   intro a br;have aQ:=(List.pairwise_append.1 ax).2.2 a br e (by simp);rcases aQ with aQ|aQ
   .rw[aj]at aQ;have:=bI [] i l rfl a.1 aQ (by simp only[List.map_append,List.mem_append,List.mem_map];exact .inl ⟨a,br,rfl⟩);cases this
   .exact aQ
  obtain⟨g1,g2⟩:=afy pre s ar afE;obtain⟨⟨o,afF,Iz⟩,g3⟩:=g1;have VE:i∉(pre++post).map (·.1):=by
   have:(pre.map (·.1)++e.1::post.map (·.1)).Nodup:=by simpa using xc
   have bC:=(List.perm_middle.nodup_iff.1 this)
   rw[List.nodup_cons]at bC;rw[<-aj];simpa using bC.1
  simp only[kH];rw[<-aj,afF];refine Iz.1 s (λ_ _=>rfl) _ ?_;rw[List.nodup_cons]at aV;refine ih (pre++post) _ g3 ?_ aV.2 ?_ ?_ ?_ ?_
  .exact ax.sublist ((List.Sublist.refl pre).append (List.sublist_cons_self e post))
  .have:(pre.map (·.1)++e.1::post.map (·.1)).Nodup:=by simpa using xc
   have bC:=(List.perm_middle.nodup_iff.1 this)
   rw[List.nodup_cons]at bC;simpa using bC.2
  .intro j;constructor
   .intro bF;have ad:=(hm j).1 (by simp[bF]);simp only[List.map_append,List.map_cons,List.mem_append,List.mem_cons]at ad⊢;rcases ad with ad|rfl|ad
    .exact .inl ad
    .exact(aV.1 (aj▸bF)).elim
    .exact .inr ad
   .intro bF;have ad:=(hm j).2 (by
     simp only[List.map_append,List.map_cons,List.mem_append,List.mem_cons]at bF⊢;exact bF.imp id .inr)
    rcases List.mem_cons.1 ad with rfl|ad
    .exact(VE bF).elim
    .exact ad
  .intro u j v hu x ao Ny;have ad:=bI (i::u) j v (by rw[hu];rfl) x ao (by
    simp only[List.map_append,List.map_cons,List.mem_append,List.mem_cons]at Ny⊢;exact Ny.imp id .inr)
   rcases List.mem_cons.1 ad with rfl|ad
   .exact(VE Ny).elim
   .exact ad
  .have:sB s (e::(pre++post))=sB (eR e.2.2 s) (pre++post):=rfl;rw[<-this,g2];exact au
theorem IA {ros:List cu} {cY:ayd} {s:ak} {K:ak->Prop} (hlen:cY.length=ros.length)
  (h:dJ C s ros (some []) (λacc s=>kp (nq cY) 0 [] (acc.getD []).reverse=true/\K s)):∀l,sx cY l->kH C ros s l K:=by
 intro l ⟨h5,l2,Em⟩;obtain⟨iR,g1,g2,g3,g4⟩:=afC ros [] s [] h;simp only[List.nil_append,List.append_nil,List.length_nil,Option.getD_some,List.reverse_reverse]at g1 g2 g3;have hl:iR.length=ros.length:=by have:=congrArg List.length g2;simpa using this
 have y1:iR.map (·.1)=(List.range iR.length).map (·+0):=by rw[g2,hl]
 have aQ:iR.map (·.1)=List.range ros.length:=by rw[g2];simp
 obtain⟨gT,_⟩:=afB iR 0 [] y1 g3;refine afD l iR s g1 gT h5 (by rw[aQ];exact List.nodup_range) (λi=>?_) (λu i v hu e he _=>afA Em u i v hu e he) g4;rw[aQ,l2,hlen,List.mem_range]
end
def pP (C:cm) (dst:Option Nat) (os:List cu) (K:Option (List fM)->ak->Prop):Option (I×ak)->Prop
 |some (av,s1)=>dJ C (fin s1 dst av) os none K
 |none=>False
def qp (C:cm) (l:ayj) (dU dG:ayf) (dst:Option Nat) (os:List cu) (a:List fM) (K:Option (List fM)->ak->Prop):Option (I×ak)->Prop
 |some (av,s1)=>dJ C (fin s1 dst av) os (some (kJ (aq l) dU dst dG av::a)) K
 |none=>False
def lM (C:cm) (l:ayj) (dst:Option Nat) (bX:e2) (t:Nat) (b:Bool) (os:List cu) (acc:Option (List fM)) (K:Option (List fM)->ak->Prop):I->Prop
 | .bool gL=>if gL=b then qo C (aq l) bX (λdG av s1=>dJ C (fin s1 dst av) os (sA acc (kJ (aq l) (t::use (aq l) bX) dst dG av)) K)else dJ C (fin (aq l) dst (.tuple [])) os (sA acc (kJ (aq l) [t] dst [] (.tuple []))) K
 | .tuple []=>dJ C (fin (aq l) dst (.tuple [])) os (sA acc (kJ (aq l) [t] dst [] (.tuple []))) K
 |_=>False
section
variable {C:cm} {l:ayj} {os:List cu} {K:Option (List fM)->ak->Prop} {dst:Option Nat} {a:List fM} {acc:Option (List fM)}
theorem IB {s:ak} {bX:e2} {K:ayf->I->ak->Prop} (aV:bX.jN=false):qo C s bX K=(match cf C s bX with
  |some (av,s1)=>K (l4 s bX) av s1
  |none=>False):=by
 apply propext;constructor
 .intro h;cases bX<;>first
   |(simp[e2.jN]at aV;done)
   |(obtain⟨av,s1,ad,af⟩:=h;rw[ad];exact af)
 .intro h;split at h
  .rename_i av s1 he;cases bX<;>first
    |(simp[e2.jN]at aV;done)
    |exact⟨av,s1,he,h⟩
  .exact h.elim
theorem VF:dJ C (aq l) [] acc K=K acc (aq l):=rfl
theorem xr {bX:e2} (aV:bX.jN=false):dJ C (aq l) (⟨dst,bX,none⟩::os) none K=pP C dst os K (cf C (aq l) bX):=by
 simp only[dJ,oH,sA];rw[IB aV];cases cf C (aq l) bX with
 |none=>rfl
 |some p=>rfl
theorem y2 {bX:e2} (aV:bX.jN=false):dJ C (aq l) (⟨dst,bX,none⟩::os) (some a) K=qp C l (use (aq l) bX) (l4 (aq l) bX) dst os a K (cf C (aq l) bX):=by
 simp only[dJ,oH,sA];rw[IB aV];cases cf C (aq l) bX with
 |none=>rfl
 |some p=>rfl
theorem VG {bX:e2} {t:Nat} {b:Bool}:dJ C (aq l) (⟨dst,bX,some (t,b)⟩::os) acc K=lM C l dst bX t b os acc K (aq l t):=by
 simp only[dJ,oH];generalize aq l t=v;cases v<;>first|rfl|(rename_i vs;cases vs<;>rfl)
theorem Nz {bX:e2} {t:Nat} {b:Bool} (aV:bX.jN=false):lM C l dst bX t b os none K (.bool b)=pP C dst os K (cf C (aq l) bX):=by
 simp only[lM,if_true];rw[IB aV];cases cf C (aq l) bX with
 |none=>rfl
 |some p=>rfl
theorem NA {bX:e2} {t:Nat} {b:Bool} (aV:bX.jN=false):lM C l dst bX t b os (some a) K (.bool b)=qp C l (t::use (aq l) bX) (l4 (aq l) bX) dst os a K (cf C (aq l) bX):=by
 simp only[lM,if_true];rw[IB aV];cases cf C (aq l) bX with
 |none=>rfl
 |some p=>rfl
theorem afG {bX:e2} {t:Nat}:lM C l dst bX t true os none K (.bool false)=dJ C (fin (aq l) dst (.tuple [])) os none K/\lM C l dst bX t false os none K (.bool true)=dJ C (fin (aq l) dst (.tuple [])) os none K/\
  (∀b,lM C l dst bX t b os none K (.tuple [])=dJ C (fin (aq l) dst (.tuple [])) os none K):=⟨rfl,rfl,λ_=>rfl⟩
theorem afH {bX:e2} {t:Nat}:lM C l dst bX t true os (some a) K (.bool false)=dJ C (fin (aq l) dst (.tuple [])) os (some (kJ (aq l) [t] dst [] (.tuple [])::a)) K/\
  lM C l dst bX t false os (some a) K (.bool true)=dJ C (fin (aq l) dst (.tuple [])) os (some (kJ (aq l) [t] dst [] (.tuple [])::a)) K/\
  (∀b,lM C l dst bX t b os (some a) K (.tuple [])=dJ C (fin (aq l) dst (.tuple [])) os (some (kJ (aq l) [t] dst [] (.tuple [])::a)) K):=⟨rfl,rfl,λ_=>rfl⟩
theorem afI (av:I) (s1:ak):pP C dst os K (some (av,s1))=dJ C (fin s1 dst av) os none K:=rfl
theorem afJ (dU dG:ayf) (av:I) (s1:ak):qp C l dU dG dst os a K (some (av,s1))=dJ C (fin s1 dst av) os (some (kJ (aq l) dU dst dG av::a)) K:=rfl
def y3 (s:ak):I->Option (I×ak)
 | .h y q=>dG s (.h y q)
 |d=>some (d,s)
def VH (s:ak):I->I->I->Option (I×ak)
 | .bool gL,x,y=>some (if gL then x else y,s)
 |_,_,_=>none
def lj (s:ak):Option I->Option (I×ak)
 |some d=>some (d,s)
 |none=>none
def db:Option ak->Option (I×ak)
 |some s1=>some (.hole,s1)
 |none=>none
def lk (s:ak):List bz->ayk
 |[]=>[]
 |x::xs=>bu s x::lk s xs
def xt (s:ak):List (Nat×bz)->ayj
 |[]=>[]
 |(k,x)::xs=>(k,bu s x)::xt s xs
def EL (s:ak):Option bz->Option I
 |none=>none
 |some x=>some (bu s x)
theorem NB (s:ak) (x:Option I):(x.map λd=>(d,s))=lj s x:=by cases x<;>rfl
theorem VI (x:Option ak):(x.map λs1=>(I.hole,s1))=db x:=by cases x<;>rfl
theorem Be (s:ak):∀xs:List bz,xs.map (bu s)=lk s xs
 |[]=>rfl
 |x::xs=>by simp only[List.map_cons,lk,Be s xs]
theorem VJ (s:ak):∀xs:List (Nat×bz),(xs.map λp=>(p.1,bu s p.2))=xt s xs
 |[]=>rfl
 |(k,x)::xs=>by simp only[List.map_cons,xt,VJ s xs]
theorem afK (s:ak) (x:Option bz):x.map (bu s)=EL s x:=by cases x<;>rfl
theorem VK:(∀x,e2.jN (.gM x)=false)/\
  (∀x,e2.jN (.hO x)=false)/\
  (∀c x y,e2.jN (.pick c x y)=false)/\
  (∀T,e2.jN (.mL T)=false)/\
  (∀T x,e2.jN (.ij T x)=false)/\
  (∀T ps,e2.jN (.gz T ps)=false)/\
  (∀T n ps,e2.jN (.dW T n ps)=false)/\
  (∀T x,e2.jN (.fS T x)=false)/\
  (∀T x y,e2.jN (.kR T x y)=false)/\
  (∀x,e2.jN (.mm x)=false)/\
  (∀op T x y,e2.jN (.eL op T x y)=false)/\
  (∀op x,e2.jN (.un op x)=false)/\
  (∀A B x,e2.jN (.kT A B x)=false)/\
  (∀f cs,e2.jN (.pJ f cs)=false)/\
  (∀T x y,e2.jN (.fF T x y)=false)/\
  (∀T x fP aj,e2.jN (.iP T x fP aj)=false)/\
  (∀T x k,e2.jN (.hU T x k)=false)/\
  (∀T x y,e2.jN (.kD T x y)=false)/\
  (∀T x y,e2.jN (.idx T x y)=false)/\
  (∀x k,e2.jN (.ex x k)=false)/\
  (∀T x,e2.jN (.len T x)=false)/\
  (∀T dU x y,e2.jN (.app T dU x y)=false):=by
 and_intros<;>intros<;>rfl
theorem VL:(∀x,cf C (aq l) (.gM x)=some (bu (aq l) x,aq l))/\
  (∀x,cf C (aq l) (.hO x)=y3 (aq l) (bu (aq l) x))/\
  (∀c x y,cf C (aq l) (.pick c x y)=VH (aq l) (bu (aq l) c) (bu (aq l) x) (bu (aq l) y))/\
  (∀T,cf C (aq l) (.mL T)=lj (aq l) (mL C T))/\
  (∀T x,cf C (aq l) (.ij T x)=ij (aq l) (bu (aq l) x))/\
  (∀T ps,cf C (aq l) (.gz T ps)=gz C (aq l) T (xt (aq l) ps))/\
  (∀T n ps,cf C (aq l) (.dW T n ps)=dW C (aq l) T n (xt (aq l) ps))/\
  (∀T x,cf C (aq l) (.fS T x)=lj (aq l) (fS C (aq l) T (bu (aq l) x)))/\
  (∀T x y,cf C (aq l) (.kR T x y)=db (kR C (aq l) T (bu (aq l) x) (bu (aq l) y)))/\
  (∀x,cf C (aq l) (.mm x)=lj (aq l) (mm (aq l) (bu (aq l) x)))/\
  (∀op T x y,cf C (aq l) (.eL op T x y)=lj (aq l) (eL C (aq l) op T (bu (aq l) x) (bu (aq l) y)))/\
  (∀op x,cf C (aq l) (.un op x)=lj (aq l) (un op (bu (aq l) x)))/\
  (∀A B x,cf C (aq l) (.kT A B x)=lj (aq l) (kT C (aq l) A B (bu (aq l) x)))/\
  (∀f cs,cf C (aq l) (.pJ f cs)=some (.fn f (lk (aq l) cs),aq l))/\
  (∀T x y,cf C (aq l) (.fF T x y)=lj (aq l) (fF C T (bu (aq l) x) (bu (aq l) y)))/\
  (∀T x fP aj,cf C (aq l) (.iP T x fP aj)=iP C (aq l) T (bu (aq l) x) (EL (aq l) fP) (EL (aq l) aj))/\
  (∀T x k,cf C (aq l) (.hU T x k)=lj (aq l) (hU C (aq l) T (bu (aq l) x) k))/\
  (∀T x y,cf C (aq l) (.kD T x y)=lj (aq l) (kD C (aq l) T (bu (aq l) x) (bu (aq l) y)))/\
  (∀T x y,cf C (aq l) (.idx T x y)=lj (aq l) (idx C T (bu (aq l) x) (bu (aq l) y)))/\
  (∀x k,cf C (aq l) (.ex x k)=lj (aq l) (ex (aq l) (bu (aq l) x) k))/\
  (∀T x,cf C (aq l) (.len T x)=lj (aq l) (vf C (aq l) T (bu (aq l) x)))/\
  (∀T dU x y,cf C (aq l) (.app T dU x y)=vj C (aq l) T dU (bu (aq l) x) (bu (aq l) y)):=by
 and_intros<;>intros<;>first|rfl|(simp only[cf,NB,VI,VJ,Be,afK];done)|(simp only[cf];cases bu (aq l) _<;>first|rfl|(rename_i b;cases b<;>rfl))
end
theorem VM:∀t d,tA t d=if I.plain d=true then d else .h t []:=λ_ _=>rfl
theorem VN:(∀l av,fin (aq l) none av=aq l)/\(∀l t av,fin (aq l) (some t) av=aq ((t,av)::if I.plain av=true then l else vo t l)):=
 ⟨λ_ _=>rfl,λl t av=>by
  simp only[fin];split
  .rw[EG]
  .rw[Nq,EG]⟩
theorem NC:
  (∀k n,I.plain (.int k n)=true)/\
  (∀b,I.plain (.bool b)=true)/\
  (∀x,I.plain (.str x)=true)/\
  (∀xs,I.plain (.slice xs)=true)/\
  (∀d,I.plain (.ref d)=true)/\
  (∀f cap,I.plain (.fn f cap)=true)/\
  (∀x q,I.plain (.h x q)=true)/\
  (∀x q,I.plain (.ax x q)=true)/\
  (I.plain .er=true)/\
  (I.plain .bg=true)/\
  (I.plain .gn=true)/\
  (I.plain .hole=true)/\
  (∀sz xs,I.plain (.ag sz xs)=false)/\
  (∀d,I.plain (.aS d)=false)/\
  (∀aF,I.plain (.agg aF)=I.e5 aF)/\
  (∀aF,I.plain (.tuple aF)=I.e5 aF)/\
  (I.e5 []=true)/\
  (∀d ds,I.e5 (d::ds)=(d.plain&&I.e5 ds)):=
 ⟨λ_ _=>rfl,λ_=>rfl,λ_=>rfl,λ_=>rfl,λ_=>rfl,λ_ _=>rfl,λ_ _=>rfl,λ_ _=>rfl,rfl,rfl,rfl,rfl,λ_ _=>rfl,λ_=>rfl,λ_=>rfl,λ_=>rfl,rfl,λ_ _=>rfl⟩
theorem VO:∀s d,y3 s d=match d with| .h y q=>dG s (.h y q)|d=>some (d,s):=λ_ _=>by unfold y3;rfl
theorem VP:
  (∀t k n,dy t (.int k n)=(.int k n))/\
  (∀t b,dy t (.bool b)=(.bool b))/\
  (∀t x,dy t (.str x)=(.str x))/\
  (∀t xs,dy t (.slice xs)=(.slice xs))/\
  (∀t d,dy t (.ref d)=(.ref d))/\
  (∀t,dy t .er= .er)/\
  (∀t,dy t .bg= .bg)/\
  (∀t,dy t .gn= .gn)/\
  (∀t,dy t .hole= .hole)/\
  (∀t sz xs,dy t (.ag sz xs)=(.ag sz xs))/\
  (∀t d,dy t (.aS d)=(.aS d))/\
  (∀t aF,dy t (.agg aF)=(.agg aF))/\
  (∀t aF,dy t (.tuple aF)=(.tuple aF))/\
  (∀t y q,dy t (.h y q)=if y=t then .hole else .h y q)/\
  (∀t y q,dy t (.ax y q)=if y=t then .hole else .ax y q)/\
  (∀t f c,dy t (.fn f c)= .fn f (la t c))/\
  (∀t,la t []=[])/\
  (∀t d ds,la t (d::ds)=dy t d::la t ds)/\
  (∀t,vo t []=[])/\
  (∀t u d l,vo t ((u,d)::l)=(u,dy t d)::vo t l)/\
  (∀t l,oB t (aq l)=aq (vo t l)):=
 ⟨λ_ _ _=>by unfold dy;rfl,λ_ _=>by unfold dy;rfl,λ_ _=>by unfold dy;rfl,λ_ _=>by unfold dy;rfl,λ_ _=>by unfold dy;rfl,λ_=>by unfold dy;rfl,λ_=>by unfold dy;rfl,λ_=>by unfold dy;rfl,λ_=>by unfold dy;rfl,λ_ _ _=>by unfold dy;rfl,λ_ _=>by unfold dy;rfl,λ_ _=>by unfold dy;rfl,λ_ _=>by unfold dy;rfl,λ_ _ _=>by unfold dy;rfl,λ_ _ _=>by unfold dy;rfl,λ_ _ _=>by simp only[dy],λ_=>by simp only[la],λ_ _ _=>by simp only[la],λ_=>rfl,λ_ _ _ _=>rfl,λt l=>Nq t l⟩
theorem VQ:
  (∀t k n,cJ t (.int k n)=(.int k n))/\
  (∀t b,cJ t (.bool b)=(.bool b))/\
  (∀t x,cJ t (.str x)=(.str x))/\
  (∀t xs,cJ t (.slice xs)=(.slice xs))/\
  (∀t d,cJ t (.ref d)=(.ref d))/\
  (∀t,cJ t .er= .er)/\
  (∀t,cJ t .bg= .bg)/\
  (∀t,cJ t .gn= .gn)/\
  (∀t,cJ t .hole= .hole)/\
  (∀t sz xs,cJ t (.ag sz xs)=(.ag sz xs))/\
  (∀t d,cJ t (.aS d)=(.aS d))/\
  (∀t aF,cJ t (.agg aF)=(.agg aF))/\
  (∀t aF,cJ t (.tuple aF)=(.tuple aF))/\
  (∀t y,cJ t (.h y [])= .h y [])/\
  (∀t y k q,cJ t (.h y (k::q))=if y=t then .hole else .h y (k::q))/\
  (∀t y q,cJ t (.ax y q)=if y=t then .hole else .ax y q)/\
  (∀t f c,cJ t (.fn f c)= .fn f (kC t c))/\
  (∀t,kC t []=[])/\
  (∀t d ds,kC t (d::ds)=cJ t d::kC t ds)/\
  (∀t,yX t []=[])/\
  (∀t u d l,yX t ((u,d)::l)=(u,cJ t d)::yX t l)/\
  (∀t l,jk t (aq l)=aq (yX t l)):=
 ⟨λ_ _ _=>by unfold cJ;rfl,λ_ _=>by unfold cJ;rfl,λ_ _=>by unfold cJ;rfl,λ_ _=>by unfold cJ;rfl,λ_ _=>by unfold cJ;rfl,λ_=>by unfold cJ;rfl,λ_=>by unfold cJ;rfl,λ_=>by unfold cJ;rfl,λ_=>by unfold cJ;rfl,λ_ _ _=>by unfold cJ;rfl,λ_ _=>by unfold cJ;rfl,λ_ _=>by unfold cJ;rfl,λ_ _=>by unfold cJ;rfl,λ_ _=>by simp[cJ],λ_ _ _ _=>by simp[cJ],λ_ _ _=>by unfold cJ;rfl,λ_ _ _=>by simp only[cJ],λ_=>by simp only[kC],λ_ _ _=>by simp only[kC],λ_=>rfl,λ_ _ _ _=>rfl,λt l=>afb t l⟩
def ND:qc->Bool->Option I
 | .bool,b=>some (.bool b)
 |_,_=>none
def xu (neg:Bool):qc->Option ayg->Option I
 | .slice _,some r=>some (se neg r)
 |_,_=>none
def y4 (neg:Bool):qc->ayg->Option I
 | .ptr _,some b=>some (.bool (b !=neg))
 |_,_=>none
theorem VR (C:cm) (s:ak) (T:TypeId):
  (∀op k a di b,eL C s op T (.int k a) (.int di b)=kS op k a di b)/\
  (∀op a b,eL C s op T (.str a) (.str b)=qg op a b)/\
  (∀a b,eL C s .eql T (.bool a) (.bool b)=ND (C.T T).k (a==b))/\
  (∀a b,eL C s .neq T (.bool a) (.bool b)=ND (C.T T).k (!(a==b)))/\
  (∀xs,eL C s .eql T (.slice xs) .bg=xu false (C.T T).k (l1 s (.slice xs)))/\
  (∀xs,eL C s .neq T (.slice xs) .bg=xu true (C.T T).k (l1 s (.slice xs)))/\
  (eL C s .eql T .bg .bg=xu false (C.T T).k (l1 s .bg))/\
  (eL C s .neq T .bg .bg=xu true (C.T T).k (l1 s .bg))/\
  (∀x q,eL C s .eql T (.h x q) .bg=xu false (C.T T).k (l1 s (.h x q)))/\
  (∀x q,eL C s .neq T (.h x q) .bg=xu true (C.T T).k (l1 s (.h x q)))/\
  (∀x q,eL C s .eql T (.h x q) .er=y4 false (C.T T).k (n3 s (.h x q)))/\
  (∀x q,eL C s .neq T (.h x q) .er=y4 true (C.T T).k (n3 s (.h x q)))/\
  (∀d,eL C s .eql T (.ref d) .er=y4 false (C.T T).k (n3 s (.ref d)))/\
  (∀d,eL C s .neq T (.ref d) .er=y4 true (C.T T).k (n3 s (.ref d)))/\
  (eL C s .eql T .er .er=y4 false (C.T T).k (n3 s .er))/\
  (eL C s .neq T .er .er=y4 true (C.T T).k (n3 s .er)):=by
 refine⟨?_,?_,?_,?_,?_,?_,?_,?_,?_,?_,?_,?_,?_,?_,?_,?_⟩<;>intros<;>first
  |rfl
  |(simp only[eL]
    generalize (C.T T).k=n2;cases n2<;>first|rfl|(simp only[xu];generalize l1 s _=v;cases v<;>rfl)|(simp only[y4];generalize n3 s _=v;cases v<;>(try (rename_i b;cases b))<;>rfl))
theorem VS (k:IntKind) (a b:Int):
  kS .add k a k b=some (.int k (k.wrap (a+b)))/\kS .sub k a k b=some (.int k (k.wrap (a-b)))/\kS .mul k a k b=some (.int k (k.wrap (a*b)))/\
  kS .eql k a k b=some (.bool (a==b))/\kS .neq k a k b=some (.bool (a !=b))/\kS .lss k a k b=some (.bool (decide (a<b)))/\kS .leq k a k b=some (.bool (decide (a<=b)))/\
  kS .gtr k a k b=some (.bool (decide (b<a)))/\kS .geq k a k b=some (.bool (decide (b<=a)))/\
  kS .and k a k b=some (.int k (bitsOf .and k a b))/\kS .or k a k b=some (.int k (bitsOf .or k a b))/\kS .xor k a k b=some (.int k (bitsOf .xor k a b))/\kS .andNot k a k b=some (.int k (bitsOf .andNot k a b)):=by
 simp[kS]
theorem afL {k:IntKind} {a b:Int} (h:b≠0):kS .quo k a k b=some (.int k (k.wrap (a.tdiv b))):=by simp[kS,h]
theorem afM {k:IntKind} {a b:Int} (h:b≠0):kS .rem k a k b=some (.int k (a.tmod b)):=by simp[kS,h]
theorem VT (a b:ayc):
  qg .eql a b=some (.bool (a==b))/\qg .neq a b=some (.bool !(a==b))/\qg .lss a b=some (.bool (Op.bytesLess a b))/\
  qg .leq a b=some (.bool (Op.bytesLess a b||a==b))/\qg .gtr a b=some (.bool !(Op.bytesLess a b||a==b))/\qg .geq a b=some (.bool !(Op.bytesLess a b)):=by
 refine⟨rfl,rfl,rfl,rfl,rfl,rfl⟩
theorem VU:(∀b,un .not (.bool b)=some (.bool !b))/\(un .not .gn=some .gn)/\(∀k n,un .neg (.int k n)=some (.int k (k.wrap (0-n)))):=⟨λ_=>rfl,rfl,λ_ _=>rfl⟩
def NF:qc->Option UInt8->Option I
 | .str,some c=>some (.int .u8 c.toNat)
 |_,_=>none
theorem VV (C:cm) (T:TypeId) (l:ayc) (k:IntKind) (n:Int):idx C T (.str l) (.int k n)=NF (C.T T).k (bh l n):=by
 simp only[idx,bh];generalize (C.T T).k=n2;cases n2<;>first|rfl|(simp only[NF];split<;>first|rfl|(cases l[n.toNat]? <;>rfl))
def NG (C:cm):qc->Option I->Option I
 | .slice e,some d=>if(C.T e).ok=true/\d.wd=(C.T e).sz then some (.ref d)else none
 |_,_=>none
theorem VW (C:cm) (s:ak) (T:TypeId) (xs:ayk) (k:IntKind) (n:Int):kD C s T (.slice xs) (.int k n)=NG C (C.T T).k (bh xs n):=by
 simp only[kD,bh];generalize (C.T T).k=n2;cases n2<;>first|rfl|skip
 simp only[NG];by_cases a_:0<=n
 .simp only[a_,true_and,if_true];split
  .cases xs[n.toNat]? <;>simp[*]
  .cases xs[n.toNat]? <;>simp[*]
 .simp only[a_,false_and,if_false]
def EM (C:cm) (y:Nat) (q:ayf) (n:Int):qc->Option I->Option I
 | .slice e,some (.ag sz xs)=>if(bh xs n).isSome=true/\(C.T e).ok=true/\sz=(C.T e).sz then some (.ax y (q++[n.toNat]))else none
 |_,_=>none
theorem VX (C:cm) (s:ak) (T:TypeId) (y:Nat) (q:ayf) (k:IntKind) (n:Int):kD C s T (.h y q) (.int k n)=EM C y q n (C.T T).k (I.sub q (s y)):=by
 simp only[kD];generalize (C.T T).k=n2;cases n2<;>first|rfl|skip
 rename_i e;cases ab:I.sub q (s y)with
 |none=>simp[EM]
 |some d=>
  cases d<;>first
   |(simp[EM];done)
   |skip
  rename_i sz xs;have hg:(bh xs n).isSome=true↔0<=n/\n.toNat<xs.length:=by
   unfold bh;split<;>simp_all<;>omega
  simp only[EM,hg];by_cases a_:0<=n<;>by_cases ad:(C.T e).ok=true<;>simp[a_,ad]
def Bf:qc->ak->Option ayc->Option (I×ak)
 | .str,s,some t=>some (.str t,s)
 |_,_,_=>none
def Bg (C:cm):qc->ak->ayk->Option ayk->Option (I×ak)
 | .slice e,s,xs,some t=>if(C.T e).ok=true/\∀d∈xs,d.wd=(C.T e).sz then some (.slice t,s)else none
 |_,_,_,_=>none
theorem VY (C:cm) (s:ak) (T:TypeId) (l:ayc):
  (∀k a di b,iP C s T (.str l) (some (.int k a)) (some (.int di b))=Bf (C.T T).k s (gB l a b))/\
  (∀di b,iP C s T (.str l) none (some (.int di b))=Bf (C.T T).k s (gB l 0 b))/\
  (∀k a,iP C s T (.str l) (some (.int k a)) none=Bf (C.T T).k s (gB l a l.length)):=by
 have e:∀(fP aj:Option I) (a b:Int),(jF 0 fP=if 0<=a then some a.toNat else none)->(jF l.length aj=if 0<=b then some b.toNat else none)->iP C s T (.str l) fP aj=Bf (C.T T).k s (gB l a b):=by
  intro fP aj a b ad af;simp only[iP];generalize (C.T T).k=n2;cases n2<;>first|rfl|skip
  simp only[ad,af,gB];by_cases br:0<=a<;>by_cases aa:0<=b<;>simp only[br,aa,if_true,if_false,Bf,true_and,false_and]
  .by_cases ar:a<=b/\b<=l.length
   .rw[if_pos ⟨by omega,by omega⟩,if_pos ar]
   .rw[if_neg (λh=>ar ⟨by omega,by omega⟩),if_neg ar]
  .rw[if_neg (by omega)]
 exact⟨λk a di b=>e _ _ a b rfl rfl,λdi b=>e _ _ 0 b rfl rfl,λk a=>e _ _ a l.length rfl (by simp[jF])⟩
theorem VZ (C:cm) (s:ak) (T:TypeId) (xs:ayk):
  (∀k a di b,iP C s T (.slice xs) (some (.int k a)) (some (.int di b))=Bg C (C.T T).k s xs (gB xs a b))/\
  (∀di b,iP C s T (.slice xs) none (some (.int di b))=Bg C (C.T T).k s xs (gB xs 0 b))/\
  (∀k a,iP C s T (.slice xs) (some (.int k a)) none=Bg C (C.T T).k s xs (gB xs a xs.length)):=by
 have e:∀(fP aj:Option I) (a b:Int),(jF 0 fP=if 0<=a then some a.toNat else none)->(jF xs.length aj=if 0<=b then some b.toNat else none)->iP C s T (.slice xs) fP aj=Bg C (C.T T).k s xs (gB xs a b):=by
  intro fP aj a b ad af;simp only[iP];generalize (C.T T).k=n2;cases n2<;>first|rfl|skip
  simp only[ad,af,gB];by_cases br:0<=a<;>by_cases aa:0<=b<;>simp only[br,aa,if_true,if_false,Bg,true_and,false_and]
  .by_cases ar:a<=b/\b<=xs.length
   .rw[if_pos ar];have ad:a.toNat<=b.toNat:=by omega
    have af:b.toNat<=xs.length:=by omega
    simp only[ad,af,true_and]
   .rw[if_neg (λh=>ar ⟨by omega,by omega⟩),if_neg ar]
  .rw[if_neg (by omega)]
 exact⟨λk a di b=>e _ _ a b rfl rfl,λdi b=>e _ _ 0 b rfl rfl,λk a=>e _ _ a xs.length rfl (by simp[jF])⟩
def EN (q:ayf):Option I->Option I
 |some d=>I.sub q d
 |none=>none
theorem V0:(∀d,I.sub [] d=some d)/\(∀k q aF,I.sub (k::q) (.agg aF)=EN q aF[k]?)/\(∀k q aF,I.sub (k::q) (.tuple aF)=EN q aF[k]?)/\(∀k q sz xs,I.sub (k::q) (.ag sz xs)=EN q xs[k]?)/\
  (∀q d,I.sub (0::q) (.aS d)=I.sub q d)/\(∀q d,EN q (some d)=I.sub q d)/\
  (∀k q a b,I.sub (k::q) (.int a b)=none):=by
 refine⟨λd=>by simp[I.sub],?_,?_,?_,λq d=>by simp[I.sub],λ_ _=>rfl,λ_ _ _ _=>by simp[I.sub]⟩
 .intro k q aF;simp only[I.sub];cases aF[k]? <;>rfl
 .intro k q aF;simp only[I.sub];cases aF[k]? <;>rfl
 .intro k q sz aF;simp only[I.sub];cases aF[k]? <;>rfl
def V1 (k:Nat) (q:ayf) (n:I) (aF:ayk):Option I->I
 |some d=>.agg (aF.set k (I.put q n d))
 |none=>.agg aF
def iS (k:Nat) (q:ayf) (n:I) (aF:ayk):Option I->I
 |some d=>.tuple (aF.set k (I.put q n d))
 |none=>.tuple aF
def V2 (k:Nat) (q:ayf) (n:I) (sz:Nat) (xs:ayk):Option I->I
 |some d=>.ag sz (xs.set k (I.put q n d))
 |none=>.ag sz xs
theorem V3:(∀n d,I.put [] n d=n)/\(∀k q n aF,I.put (k::q) n (.agg aF)=V1 k q n aF aF[k]?)/\(∀k q n aF,I.put (k::q) n (.tuple aF)=iS k q n aF aF[k]?)/\
  (∀k q n sz xs,I.put (k::q) n (.ag sz xs)=V2 k q n sz xs xs[k]?)/\(∀q n d,I.put (0::q) n (.aS d)= .aS (I.put q n d))/\
  (∀k q n aF d,V1 k q n aF (some d)= .agg (aF.set k (I.put q n d)))/\(∀k q n aF d,iS k q n aF (some d)= .tuple (aF.set k (I.put q n d)))/\
  (∀k q n sz xs d,V2 k q n sz xs (some d)= .ag sz (xs.set k (I.put q n d))):=by
 refine⟨λn d=>by simp[I.put],?_,?_,?_,λq n d=>by simp[I.put],λ_ _ _ _ _=>rfl,λ_ _ _ _ _=>rfl,λ_ _ _ _ _ _=>rfl⟩
 .intro k q n aF;simp only[I.put];cases aF[k]? <;>rfl
 .intro k q n aF;simp only[I.put];cases aF[k]? <;>rfl
 .intro k q n sz aF;simp only[I.put];cases aF[k]? <;>rfl
theorem NH:(∀k n,I.wd (.int k n)=1)/\(∀b,I.wd (.bool b)=1)/\(∀x,I.wd (.str x)=1)/\(∀x,I.wd (.slice x)=1)/\(∀n x,I.wd (.ag n x)=1)/\(∀x,I.wd (.ref x)=1)/\(∀x,I.wd (.aS x)=1)/\
  I.wd .bg=1/\I.wd .er=1/\I.wd .hole=1/\I.wd .gn=1/\(∀x y,I.wd (.h x y)=1)/\(∀x y,I.wd (.ax x y)=1)/\(∀x y,I.wd (.fn x y)=1)/\(∀aF,I.wd (.agg aF)=I.e9 aF)/\(∀aF,I.wd (.tuple aF)=I.e9 aF)/\I.e9 []=0/\(∀d ds,I.e9 (d::ds)=d.wd+I.e9 ds):=by
 simp[I.wd,I.e9]
theorem NI (l:ayc):(∀d∈l.map i_,d.wd=1)=True:=by simp[i_,I.wd]
theorem afN {α:Type} {e:α->I} {n:Nat} (h:∀x,(e x).wd=n) (xs:List α):(∀d∈xs.map e,d.wd=n)=True:=by
 simp only[List.mem_map,eq_iff_iff,iff_true];rintro d ⟨x,_,rfl⟩;exact h x
theorem afO (C:cm) (s:ak) (A B:TypeId) (k di:IntKind) (n:Int) (ja:(C.T A).ok=true) (iA:(C.T B).k= .int di):kT C s A B (.int k n)=some (.int di (di.wrap n)):=by
 simp only[kT,ja,iA,if_true]
theorem V4 (m:Int):i_ (o3 m)= .int .u8 (u8.wrap m):=by
 have h:0<=u8.wrap m/\u8.wrap m<256:=by rw[wrap_u8];omega
 simp only[i_,o3,UInt8.toNat_ofNat'];congr 1;omega
theorem NJ (m:Int):((o3 m).toNat:Int)=u8.wrap m:=by
 have h:=V4 m;simpa [i_]using h
section
variable {C:cm} {l:ayj} {Q:Exit->ak->Prop} {s:ak}
theorem h9 {ros:List cu} {k:ayf} (h:dJ C (aq l) ros none (λ_ s=>Q .normal (aq (hs k s)))):bn C (.ez ros (some k)) Q (aq l):=yZ (λ_ _ h=>h) h
theorem NK {ros:List cu} {cY:ayd} {k:ayf} (hlen:cY.length=ros.length) (h:dJ C (aq l) ros (some []) (λacc s=>kp (nq cY) 0 [] (acc.getD []).reverse=true/\Q .normal (aq (hs k s)))):
  bn C (.jM ros cY (some k)) Q (aq l):=IA hlen h
theorem afP {a b:aC} (h:∀fk:Exit->ak->Prop,(∀s,eS (bn C b Q) s->fk .normal s)->(∀s,Q .ret s->fk .ret s)->(∀i s,Q (.exit i) s->fk (.exit i) s)->bn C a fk s):bn C (.seq a b) Q s:=
 h _ (λ_ h=>h) (λ_ h=>h) (λ_ _ h=>h)
theorem dC {ros:List cu} {k:ayf} {b:aC} (h:dJ C (aq l) ros none (λ_ s=>bn C b Q (aq (hs k s)))):bn C (.seq (.ez ros (some k)) b) Q (aq l):=yZ (λ_ _ h=>.inl h) h
theorem jz {ros:List cu} {cY:ayd} {k:ayf} {b:aC} (hlen:cY.length=ros.length) (h:dJ C (aq l) ros (some []) (λacc s=>kp (nq cY) 0 [] (acc.getD []).reverse=true/\bn C b Q (aq (hs k s)))):
  bn C (.seq (.jM ros cY (some k)) b) Q (aq l):=IA (K:=λs=>eS (bn C b Q) (aq (hs k s))) hlen (by
   have key:∀(os:List cu) (s:ak) (acc:Option (List fM)),dJ C s os acc (λacc s=>kp (nq cY) 0 [] (acc.getD []).reverse=true/\bn C b Q (aq (hs k s)))->
     dJ C s os acc (λacc s=>kp (nq cY) 0 [] (acc.getD []).reverse=true/\eS (bn C b Q) (aq (hs k s))):=by
    intro os;induction os with
    |nil=>intro s acc h;exact⟨h.1,.inl h.2⟩
    |cons o os ih=>
     intro s acc h;have mono:∀{s:ak} {bX:e2} {K eD:ayf->I->ak->Prop},(∀a b c,K a b c->eD a b c)->qo C s bX K->qo C s bX eD:=by
      intro s bX K eD au h;cases bX with
      |call f args=>
       obtain⟨g,caps,ps,r,ad,hV,af,aG,bf,bU,dc,c1,g_⟩:=h;exact⟨g,caps,ps,r,ad,hV,af,aG,bf,bU,dc,c1,au _ _ _ g_⟩
      |shr bX=>obtain⟨av,s1,ad,af,aG,bf⟩:=h;exact⟨av,s1,ad,af,aG,au _ _ _ bf⟩
      |mM f args us=>
       obtain⟨ct,g,caps,ps,r,ad,hV,af,aG,bf,bU,dc,c1,g_,iN⟩:=h;exact⟨ct,g,caps,ps,r,ad,hV,af,aG,bf,bU,dc,c1,g_,au _ _ _ iN⟩
      |_=>obtain⟨av,s1,ad,af⟩:=h;exact⟨av,s1,ad,au _ _ _ af⟩
     simp only[dJ,oH]at h⊢;split
     .rename_i hg;rw[hg]at h;exact mono (λ_ _ _=>ih _ _) h
     .rename_i t gL hg;rw[hg]at h;simp only at h;split
      .rename_i aws ab;rw[ab]at h;simp only at h;split
       .rename_i aa;rw[if_pos aa]at h;exact mono (λ_ _ _=>ih _ _) h
       .rename_i aa;rw[if_neg aa]at h;exact ih _ _ h
      .rename_i ab;rw[ab]at h;exact ih _ _ h
      .rename_i ad af;split at h
       .exact ad _ (by assumption)
       .exact af (by assumption)
       .exact h
   exact key _ _ _ h)
theorem iT {c:bz} {a b:aC} (ar:bu s c= .bool true) (h:bn C a Q s):bn C (.cond c a b) Q s:=by simp only[bn,ar,if_true];exact h
theorem n8 {c:bz} {a b:aC} (ar:bu s c= .bool false) (h:bn C b Q s):bn C (.cond c a b) Q s:=by simp only[bn,ar];exact h
theorem afQ {c:bz} {a b:aC} (ar:bu s c= .gn) (ad:bn C a Q s) (af:bn C b Q s):bn C (.cond c a b) Q s:=by simp only[bn,ar];exact⟨ad,af⟩
theorem afR {id:Nat} {b:aC} (h:∀fk:Exit->ak->Prop,(∀s,Q .normal s->fk .normal s)->(∀s,Q .ret s->fk .ret s)->(∀s,Q .normal s->fk (.exit id) s)->(∀i s,i≠id->Q (.exit i) s->fk (.exit i) s)->bn C b fk s):bn C (.block id b) Q s:=
 h (A8 id Q) (λ_ h=>h) (λ_ h=>h) (λs h=>by simp only[A8,if_true];exact h) (λi s aj h=>by simp only[A8,if_neg aj];exact h)
theorem cK {id:Nat} (h:Q (.exit id) s):bn C (.exit id) Q s:=h
theorem aw (h:Q .ret s):bn C .ret Q s:=h
theorem aL (h:Q .normal s):bn C .skip Q s:=h
def cD (C:cm) (b:aC) (Q:Exit->ak->Prop) (s:ak):Prop:=∀Z:ak->Prop,(∀aH,bn C b (andThen (eS Z) Q) aH->Z aH)->Z s
theorem cQ {b:aC} (h:eS (cD C b Q) s):bn C (.loop b) Q s:=h
theorem afS {b:aC} (h:∀fk:Exit->ak->Prop,(∀s,eS (cD C b Q) s->fk .normal s)->(∀s,Q .ret s->fk .ret s)->(∀i s,Q (.exit i) s->fk (.exit i) s)->bn C b fk s):cD C b Q s:=by
 intro Z A_;refine A_ s (Ng b ?_ (h (andThen (eS (cD C b Q)) Q) (λ_ h=>h) (λ_ h=>h) (λ_ _ h=>h)));intro e aH bC;cases e with
 |normal=>exact A9 (λs h=>h Z A_) aH bC
 |_=>exact bC
theorem aZ {c6:ayj} (h:c6.map (·.2)=c6.map λp=>s p.1):xl s c6:=by
 intro p ax;left;induction c6 with
 |nil=>cases ax
 |cons a c6 ih=>
  simp only[List.map_cons,List.cons.injEq]at h;rcases List.mem_cons.1 ax with rfl|ax
  .exact h.1
  .exact ih h.2 ax
end
section
variable {C:cm} {l:ayj} {Q:Exit->ak->Prop} {s:ak} {os ros:List cu} {K:Option (List fM)->ak->Prop} {dst:Option Nat}
theorem V5 (l:ayj):(∀n,bu (aq l) (.t n)=tA n (aq l n))/\(∀av,bu (aq l) (.c av)=av)/\(∀g,bu (aq l) (.f g)= .fn g []):=⟨λ_=>rfl,λ_=>rfl,λ_=>rfl⟩
theorem V6:(∀t,aq [] t= .hole)/\(∀u d (l:ayj) t,aq ((u,d)::l) t=if t=u then d else aq l t):=⟨λ_=>rfl,λ_ _ _ _=>rfl⟩
theorem V7 (s:ak):hs [] s=[]/\(∀t k,hs (t::k) s=(t,s t)::hs k s):=⟨rfl,λ_ _=>rfl⟩
theorem V8 (s:ak):(∀d,lj s (some d)=some (d,s))/\(∀s1,db (some s1)=some (.hole,s1))/\lk s []=[]/\(∀x xs,lk s (x::xs)=bu s x::lk s xs)/\xt s []=[]/\(∀k x xs,xt s ((k,x)::xs)=(k,bu s x)::xt s xs)/\
  EL s none=none/\(∀x,EL s (some x)=some (bu s x))/\(∀b x y,VH s (.bool b) x y=some (if b=true then x else y,s)):=
 ⟨λ_=>rfl,λ_=>rfl,rfl,λ_ _=>rfl,rfl,λ_ _ _=>rfl,rfl,λ_=>rfl,λb _ _=>by cases b<;>rfl⟩
theorem V9 (C:cm):(∀e d,NG C (.slice e) (some d)=if(C.T e).ok=true/\d.wd=(C.T e).sz then some (.ref d)else none)/\
  (∀y q n e sz xs,EM C y q n (.slice e) (some (.ag sz xs))=if(bh xs n).isSome=true/\(C.T e).ok=true/\sz=(C.T e).sz then some (.ax y (q++[n.toNat]))else none)/\
  (∀e s xs t,Bg C (.slice e) s xs (some t)=if(C.T e).ok=true/\∀d∈xs,d.wd=(C.T e).sz then some (.slice t,s)else none):=
 ⟨λ_ _=>rfl,λ_ _ _ _ _ _=>rfl,λ_ _ _ _=>rfl⟩
theorem V_:(∀b,ND .bool b=some (.bool b))/\(∀c,NF .str (some c)=some (.int .u8 c.toNat))/\(∀s t,Bf .str s (some t)=some (.str t,s))/\(∀q d,EN q (some d)=I.sub q d):=
 ⟨λ_=>rfl,λ_=>rfl,λ_ _=>rfl,λ_ _=>rfl⟩
theorem Wa (sz bytes:Nat) (z:I):(∀k,hG.ok ⟨.int k,sz,bytes,z⟩=true)/\hG.ok ⟨.bool,sz,bytes,z⟩=true/\hG.ok ⟨.str,sz,bytes,z⟩=true/\(∀e,hG.ok ⟨.ptr e,sz,bytes,z⟩=true)/\(∀e,hG.ok ⟨.slice e,sz,bytes,z⟩=true)/\(∀e,hG.ok ⟨.struct e,sz,bytes,z⟩=true)/\hG.ok ⟨.fn,sz,bytes,z⟩=true:=by
 simp[hG.ok]
theorem Wb (sz bytes:Nat) (z:I):(∀k,hG.flat ⟨.int k,sz,bytes,z⟩=true)/\hG.flat ⟨.bool,sz,bytes,z⟩=true/\hG.flat ⟨.str,sz,bytes,z⟩=true/\(∀e,hG.flat ⟨.ptr e,sz,bytes,z⟩=true)/\(∀e,hG.flat ⟨.slice e,sz,bytes,z⟩=true)/\(∀e,hG.flat ⟨.struct e,sz,bytes,z⟩=false)/\hG.flat ⟨.fn,sz,bytes,z⟩=true:=by
 simp[hG.flat]
theorem EO (c:UInt8) (k:IntKind) (au:k≠.i8):k.wrap (c.toNat:Int)=(c.toNat:Int):=by
 have:=c.toNat_lt;cases k<;>first|(exact(au rfl).elim)|(simp[wrap,IntKind.bits,signed];try omega)
theorem NL (c:UInt8):i64.wrap (c.toNat:Int)=(c.toNat:Int)/\u64.wrap (c.toNat:Int)=(c.toNat:Int)/\u8.wrap (c.toNat:Int)=(c.toNat:Int)/\i32.wrap (c.toNat:Int)=(c.toNat:Int)/\u32.wrap (c.toNat:Int)=(c.toNat:Int):=
 ⟨EO c _ (by simp),EO c _ (by simp),EO c _ (by simp),EO c _ (by simp),EO c _ (by simp)⟩
theorem b6 {k:ayf} {K:ak->Prop} (c6:ayj) (h:∀P:ayj->Prop,P c6->dJ C (aq l) ros none (λ_ s=>P (hs k s))) (au:K (aq c6)):dJ C (aq l) ros none (λ_ s=>K (aq (hs k s))):=
 h (λl=>K (aq l)) au
theorem iU {k:ayf} {pO:ayd} {K:ak->Prop} (c6:ayj) (h:∀P:ayj->Prop,P c6->dJ C (aq l) ros (some []) (λacc s=>kp pO 0 [] (acc.getD []).reverse=true/\P (hs k s))) (au:K (aq c6)):
  dJ C (aq l) ros (some []) (λacc s=>kp pO 0 [] (acc.getD []).reverse=true/\K (aq (hs k s))):=
 h (λl=>K (aq l)) au
theorem aW.afT (bP:C.fH) {f:FuncId} {fn:Func} {c:Code} {ee:aC} {fx:ayf} {as outs:ayk} {r:I} (bD:C.P.funcs[f]? =some fn) (aa:fn.body=some c)
  (mu:(fn.name== "runtime.NumGoroutine")=false) (ab:fW ⟨fn.ntmps,fx⟩ c=some ee.strip) (aV:as.length<=fn.ntmps)
  (h:∀Q:Exit->ak->Prop,(∀s,eS (Ends C fx fn.results.toList r outs) s->Q .ret s)->(∀s,eS (Ends C fx fn.results.toList r outs) s->Q .normal s)->bn C ee Q (aq (num 0 as))) (ax:ee.plain=true:=by kernel_rfl):aW C f as r outs:=by
 refine aW.of_wp bP bD aa mu ab aV ?_ ax;rw[EF];exact h _ (λs h=>⟨.inr rfl,h⟩) (λs h=>⟨.inl rfl,h⟩)
def NM:ayk->I
 |[d]=>d
 |ds=>.tuple ds
theorem hI {fx:ayf} {fQ:List ResultVar} {r:I} {outs:ayk} (ds:ayk) (ad:fQ.map (tP C s)=ds.map some) (af:r=NM ds) (aG:(fQ.map lL).Nodup)
  (bf:∀(i:Nat) (o:I),outs[i]? =some o->o= .hole\/(o=s i/\o.hH=true/\i∈fx/\i∉fQ.map lL)):Ends C fx fQ r outs s:=.inl ⟨ds,ad,by subst af;cases ds with|nil=>rfl|cons a t=>cases t<;>rfl,aG,bf⟩
theorem Wc {fx:ayf} {fQ:List ResultVar} {r:I} (t:Nat) (ds:ayk) {y:Nat} {q:ayf} {d:I} {s1:ak} (af:r=NM ds:=by cases eZ (by assumption);rfl) (a_:s t= .h y q:=by rfl) (au:dG s (.h y q)=some (d,s1):=by rfl) (ad:fQ.map (tP C (fin s1 (some t) d))=ds.map some:=by rfl) (aG:(fQ.map lL).Nodup:=by decide):Ends C fx fQ r [] s:=
 .inr ⟨t,y,q,d,s1,a_,au,ds,ad,by subst af;cases ds with|nil=>rfl|cons a t=>cases t<;>rfl,aG,λi o h=>by simp at h⟩
theorem afU {fx:ayf} {fQ:List ResultVar}:∀(i:Nat) (o:I),([]:ayk)[i]? =some o->o= .hole\/(o=s i/\o.hH=true/\i∈fx/\i∉fQ.map lL):=λi o h=>by simp at h
theorem Wd:∀(as ds:ayk),(pj as ds).filter (·.g)=[]
 |[],_=>rfl
 |_::_,[]=>rfl
 |a::as,d::ds=>by simp only[pj,List.filter_cons];exact Wd as ds
theorem IC {f:bz} {args:List bz} {g:FuncId} {caps:ayk} {K:ayf->I->ak->Prop} (ds:ayk) (r:I)
  (ad:bu (aq l) f= .fn g caps) (hV:I.e5 caps=true) (lK:views (aq l) (lk (aq l) args++caps)=some ds)
  (bU:aW C g ds r []) (dc:r.res=true) (c1:I.e3 (lk (aq l) args++caps)=[]\/r.cX=true) (jJ:K [] r (aq l)):qo C (aq l) (.call f args) K:=by
 obtain⟨aP,aY,aU,b4,cM,cl,b9⟩:=afc _ _ lK;refine⟨g,caps,pj (lk (aq l) args++caps) ds,r,ad,hV,by rw[aP,Be],λp ax=>(aU p ax).1,b4,by rw[aY];exact bU.outs cM.symm,dc,?_,by rw[cl,b9,Wd];exact jJ⟩;intro hl;refine⟨?_,λp ax=>by rw[(aU p ax).2.2.1];rfl⟩;rcases c1 with c1|c1
 .exfalso;simp only[l5,List.any_eq_true]at hl;obtain⟨p,ax,fI⟩:=hl;have hm:=(aU p ax).2.2.2;have:p.a.ab=[]:=by
   have key:∀(as:ayk) (a:I),a∈as->I.e3 as=[]->a.ab=[]:=by
    intro as;induction as with
    |nil=>intro a h;cases h
    |cons b as ih=>
     intro a h he;simp only[I.e3,List.append_eq_nil_iff]at he;rcases List.mem_cons.1 h with rfl|h
     .exact he.1
     .exact ih a h he.2
   exact key _ _ hm c1
  rw[this]at fI;simp at fI
 .exact c1
theorem dD {f:bz} {args:List bz} {g:FuncId} {caps:ayk} {ds:ayk} {r:I} (bU:aW C g ds r [])
  (ad:bu (aq l) f= .fn g caps) (hV:I.e5 caps=true) (lK:views (aq l) (lk (aq l) args++caps)=some ds)
  (dc:r.res=true) (c1:I.e3 (lk (aq l) args++caps)=[]\/r.cX=true)
  (jJ:dJ C (fin (aq l) dst r) os none K):dJ C (aq l) (⟨dst,.call f args,none⟩::os) none K:=by
 simp only[dJ,oH,sA];exact IC ds r ad hV lK bU dc c1 jJ
theorem h_ {a:List fM} {f:bz} {args:List bz} {g:FuncId} {caps:ayk} {ds:ayk} {r:I} (bU:aW C g ds r [])
  (ad:bu (aq l) f= .fn g caps) (hV:I.e5 caps=true) (lK:views (aq l) (lk (aq l) args++caps)=some ds)
  (dc:r.res=true) (c1:I.e3 (lk (aq l) args++caps)=[]\/r.cX=true)
  (jJ:dJ C (fin (aq l) dst r) os (some (kJ (aq l) (use (aq l) (.call f args)) dst [] r::a)) K):dJ C (aq l) (⟨dst,.call f args,none⟩::os) (some a) K:=by
 simp only[dJ,oH,sA];exact IC ds r ad hV lK bU dc c1 jJ
theorem iF {t:Nat} {b:Bool} {f:bz} {args:List bz} {g:FuncId} {caps:ayk} {ds:ayk} {r:I} (bU:aW C g ds r [])
  (ad:bu (aq l) f= .fn g caps) (hV:I.e5 caps=true) (lK:views (aq l) (lk (aq l) args++caps)=some ds)
  (dc:r.res=true) (c1:I.e3 (lk (aq l) args++caps)=[]\/r.cX=true)
  (jJ:dJ C (fin (aq l) dst r) os none K):lM C l dst (.call f args) t b os none K (.bool b):=by
 simp only[lM,if_true];exact IC ds r ad hV lK bU dc c1 jJ
theorem lN {a:List fM} {t:Nat} {b:Bool} {f:bz} {args:List bz} {g:FuncId} {caps:ayk} {ds:ayk} {r:I} (bU:aW C g ds r [])
  (ad:bu (aq l) f= .fn g caps) (hV:I.e5 caps=true) (lK:views (aq l) (lk (aq l) args++caps)=some ds)
  (dc:r.res=true) (c1:I.e3 (lk (aq l) args++caps)=[]\/r.cX=true)
  (jJ:dJ C (fin (aq l) dst r) os (some (kJ (aq l) (t::use (aq l) (.call f args)) dst [] r::a)) K):lM C l dst (.call f args) t b os (some a) K (.bool b):=by
 simp only[lM,if_true];exact IC ds r ad hV lK bU dc c1 jJ
theorem gN (s:ak):views s []=some []/\(∀d ds,views s (d::ds)=(match view s d,views s ds with|some a,some b=>some (a::b)|_,_=>none))/\
  (∀k n,view s (.int k n)=some (.int k n))/\(∀b,view s (.bool b)=some (.bool b))/\(∀x,view s (.str x)=some (.str x))/\(∀x,view s (.slice x)=some (.slice x))/\(∀x,view s (.ref x)=some (.ref x))/\
  view s .bg=some .bg/\view s .er=some .er/\(∀aF,view s (.agg aF)=some (.agg aF))/\(∀f cap,view s (.fn f cap)=(views s cap).map (.fn f)):=by
 refine⟨rfl,λd ds=>?_,λ_ _=>rfl,λ_=>rfl,λ_=>rfl,λ_=>rfl,λ_=>rfl,rfl,rfl,λ_=>rfl,λ_ _=>by simp only[view]⟩;simp only[views];rfl
theorem bV {α:Type} {u e:α->I} (h:∀x,(u x).share=e x) (xs:List α):I.shares (xs.map u)=xs.map e:=by
 rw[I.wZ];simp[h]
theorem kq {α:Type} {u:α->I} (h:∀x,(u x).cX=true) (xs:List α):I.hd (xs.map u)=true:=by
 induction xs with
 |nil=>rfl
 |cons x xs ih=>simp only[List.map_cons,I.hd,h,ih,Bool.and_self]
def xv (s:ak) (H:ayf):ayj->Prop
 |[]=>True
 |p::l=>(p.2=s p.1\/((s p.1).tree=true/\fL (s p.1) p.2/\p.1∉H))/\xv s H l
theorem hW {c6:ayj} (H:ayf) (nI:I.e3 (c6.map (·.2))=H) (h:xv s H c6):xl s c6:=by
 have key:∀(h5:ayj),xv s H h5->∀p∈h5,p.2=s p.1\/((s p.1).tree=true/\fL (s p.1) p.2/\p.1∉H):=by
  intro h5;induction h5 with
  |nil=>intro _ p ax;cases ax
  |cons a h5 ih=>
   intro h p ax;rcases List.mem_cons.1 ax with rfl|ax
   .exact h.1
   .exact ih h.2 p ax
 have ab:∀(h5:ayj),∀da∈h5,∀u∈da.2.ab,u∈I.e3 (h5.map (·.2)):=by
  intro h5;induction h5 with
  |nil=>intro p ax;cases ax
  |cons a h5 ih=>
   intro p ax u hu;simp only[List.map_cons,I.e3,List.mem_append];rcases List.mem_cons.1 ax with rfl|ax
   .exact .inl hu
   .exact .inr (ih p ax u hu)
 intro p ax;rcases key _ h p ax with ad|⟨ad,af,aG⟩
 .exact .inl ad
 .refine .inr ⟨ad,af,λda fp=>.inl λhm=>aG ?_⟩;rw[<-nI];exact ab c6 da fp _ hm
theorem hX {H:ayf}:xv s H []:=trivial
theorem cF {H:ayf} {t:Nat} {d:I} {c6:ayj} (h:d=s t) (hl:xv s H c6):xv s H ((t,d)::c6):=⟨.inl h,hl⟩
theorem hJ {H:ayf} {t:Nat} {d bJ:I} {c6:ayj} (e:s t=d) (ba:d.tree=true) (an:fL d bJ) (nI:t∉H) (hl:xv s H c6):xv s H ((t,bJ)::c6):=⟨.inr ⟨by rw[e];exact ba,by rw[e];exact an,nI⟩,hl⟩
theorem afV {d e:I} (ba:d.tree=true) (aV:d.own=true) (h:d.share=e):fL d e:=by
 subst h;exact .share d ba (λvs e=>by subst e;simp[I.own]at aV) (λo e=>by subst e;simp[I.own]at aV)
theorem We {a b:I} (h:fL a b):∀n,mo (List.replicate n a) (List.replicate n b)
 |0=>.nil
 |n+1=>by simp only[List.replicate_succ];exact .cons h (We h n)
theorem EP {α:Type} {sz:Nat} {u:α->I} {z:α} {a:I} (h:fL a (u z)) (n:Nat):fL (.ag sz (List.replicate n a)) (.ag sz ((List.replicate n z).map u)):=by
 rw[List.map_replicate];exact .ag (We h n)
end
theorem ID {C:cm} {A B:TypeId} {di:IntKind} (ja:(C.T A).ok=true) (iA:(C.T B).k= .int di):∀s k n,kT C s A B (.int k n)=some (.int di (di.wrap n)):=λs k n=>afO C s A B k di n ja iA
def Wf:Option I->Option I
 |some (.ag 1 xs)=>(bytesOf xs).map .str
 |_=>none
theorem Wg {C:cm} {A B e:TypeId} (ja:(C.T A).k= .slice e) (iA:(C.T B).k= .str) (he:(C.T e).k= .int .u8):
  (∀s xs,kT C s A B (.slice xs)=(bytesOf xs).map .str)/\(∀s,kT C s A B .bg=some (.str []))/\(∀s x q,kT C s A B (.h x q)=Wf (I.sub q (s x))):=by
 have Ee:(C.T A).ok=true:=by simp[hG.ok,ja]
 refine⟨λs xs=>?_,λs=>?_,λs x q=>?_⟩
 .simp only[kT,Ee,ja,iA,he,if_true]
 .simp only[kT,Ee,ja,iA,he,if_true]
 .simp only[kT,Ee,ja,iA,he,if_true];rfl
theorem Wh (xs:ayk):Wf (some (.ag 1 xs))=(bytesOf xs).map .str:=rfl
theorem Wi (c:UInt8) (r:ayk):bytesOf (i_ c::r)=(bytesOf r).map (c::·):=by
 have:=c.toNat_lt;simp only[i_,bytesOf];rw[if_pos (by omega)];simp
theorem Wj:bytesOf []=some []/\
  (∀l:ayc,bytesOf (l.map i_)=some l)/\
  (∀c r,bytesOf (.int .u8 (c.toNat:Int)::r)=(bytesOf r).map (c::·))/\
  (∀m r,bytesOf (.int .u8 (u8.wrap m)::r)=(bytesOf r).map (o3 m::·)):=
 ⟨rfl,ac6,λc r=>Wi c r,λm r=>by rw[<-V4];exact Wi _ r⟩
theorem Wk {k:IntKind} {b:Int} (h:b≠0):∀a,kS .quo k a k b=some (.int k (k.wrap (a.tdiv b))):=λ_=>afL h
theorem xw {k:IntKind} {b:Int} (h:b≠0):∀a,kS .rem k a k b=some (.int k (a.tmod b)):=λ_=>afM h
theorem jO {α:Type} {e:α->I} {n:Nat} (h:∀x,(e x).wd=n):∀xs:List α,(∀d∈xs.map e,d.wd=n)=True:=afN h
theorem all_cons {P:I->Prop} (d:I) (ds:ayk):(∀x∈d::ds,P x)=(P d/\∀x∈ds,P x):=by simp
theorem all_nil {P:I->Prop}:(∀x∈([]:ayk),P x)=True:=by simp
def Wl (a b:ayc):Option Unit->Option I
 |some _=>some (.str (a++b))
 |none=>none
theorem vr (a b:ayc):qg .add a b=Wl a b (iz (a.length+b.length)):=by
 simp only[qg,iz];split<;>rfl
theorem vt (a b:ayc) (u:Unit):Wl a b (some u)=some (.str (a++b)):=rfl
theorem Wm:(∀l:ayf,[]++l=l)/\(∀a (l m:ayf),(a::l)++m=a::(l++m)):=⟨λ_=>rfl,λ_ _ _=>rfl⟩
def Wn (C:cm) (e dU:TypeId):Bool:=(C.T e).ok&&((C.T e).zero.wd==(C.T e).sz)&&(flat (C.T e).zero).isSome&&H9 C e dU
def IE (C:cm) (e:TypeId) (xs:ayk):Option (ayk×ak)->Option (I×ak)
 |some (cP,s2)=>if(∀d∈cP,d.wd=(C.T e).sz)/\(room (C.T e).bytes (xs.length+cP.length)).isSome=true then some (.ag (C.T e).sz (xs++cP),s2)else none
 |none=>none
def NN (C:cm) (e:TypeId) (y:I) (o:Option Nat):Option (I×ak)->Option (I×ak)
 |some (.ag sz xs,s1)=>if sz=(C.T e).sz then IE C e xs (n4 s1 (ng o y))else none
 |_=>none
theorem afW (b n:Nat):(room b n).isSome=true↔n*b<=140737488355328/\n<=9223372036854775807:=by unfold room;split<;>simp_all
theorem kr {C:cm} {T dU e:TypeId} (ld:(C.T T).k= .slice e) (gF:Wn C e dU=true):∀s x y,vj C s T dU x y=NN C e y x.owner (tL C e s x):=by
 intro s x y;simp only[Wn,Bool.and_eq_true,beq_iff_eq]at gF;rw[MR,ld];simp only;rw[if_pos ⟨gF.1.1.1,gF.1.1.2,gF.1.2,gF.2⟩];generalize x.owner=o;cases tL C e s x with
 |none=>rfl
 |some p=>
  obtain⟨d,s1⟩:=p;cases d<;>first
   |rfl
   |(simp only[NN]
     split
     .rename_i h;subst h;generalize n4 s1 (ng o y)=z;cases z with
      |none=>rfl
      |some p=>simp only[IE,afW]
     .rfl)
def Wo:Option (I×ak)->Option (ayk×ak)
 |some (.ag _ cP,s2)=>some (cP,s2)
 |_=>none
theorem ks (s:ak):n4 s .bg=some ([],s)/\(∀cP,n4 s (.slice cP)=some (cP,s))/\(∀l,n4 s (.str l)=some (l.map i_,s))/\
  (∀a q,n4 s (.h a q)=Wo (dG s (.h a q)))/\(∀n cP,Wo (some (.ag n cP,s))=some (cP,s)):=
 ⟨rfl,λ_=>rfl,λ_=>rfl,λ_ _=>by simp only[n4];rfl,λ_ _=>rfl⟩
theorem kt (C:cm) (e:TypeId):(∀s,tL C e s .bg=some (.ag (C.T e).sz [],s))/\(∀s a q,tL C e s (.h a q)=dG s (.h a q))/\
  (∀y o sz xs s1,NN C e y o (some (.ag sz xs,s1))=if sz=(C.T e).sz then IE C e xs (n4 s1 (ng o y))else none)/\
  (∀xs cP s2,IE C e xs (some (cP,s2))=if(∀d∈cP,d.wd=(C.T e).sz)/\(room (C.T e).bytes (xs.length+cP.length)).isSome=true then some (.ag (C.T e).sz (xs++cP),s2)else none):=
 ⟨λ_=>rfl,λ_ _ _=>rfl,λ_ _ _ _ _=>rfl,λ_ _ _=>rfl⟩
theorem gO:(∀d,ng none d=d)/\(∀x d,ng (some x) d=cJ x d)/\(∀x q,I.owner (.h x q)=some x)/\I.owner .bg=none:=
 ⟨λ_=>rfl,λ_ _=>rfl,λ_ _=>rfl,rfl⟩
def Wp (s:ak) (x:Nat) (q:ayf):Option I->Option (I×ak)
 |some d=>if d.plain=true then none else some (d,ei (jk x s) x (I.put q d.dY (s x)))
 |none=>none
theorem Wq (s:ak) (x:Nat) (q:ayf):dG s (.h x q)=Wp s x q (I.sub q (s x)):=by
 simp only[dG];cases I.sub q (s x)<;>rfl
theorem Wr (s:ak):(∀x q d,Wp s x q (some d)=if d.plain=true then none else some (d,ei (jk x s) x (I.put q d.dY (s x))))/\(∀k n,dG s (.int k n)=some (.int k n,s))/\(∀b,dG s (.bool b)=some (.bool b,s))/\(∀x,dG s (.str x)=some (.str x,s))/\
  (∀x,dG s (.slice x)=some (.slice x,s))/\(∀x,dG s (.ref x)=some (.ref x,s))/\(∀x,dG s (.agg x)=some (.agg x,s))/\dG s .bg=some (.bg,s)/\dG s .er=some (.er,s):=
 ⟨λ_ _ _=>rfl,λ_ _=>rfl,λ_=>rfl,λ_=>rfl,λ_=>rfl,λ_=>rfl,λ_=>rfl,rfl,rfl⟩
theorem Ws (l:ayj) (t:Nat) (d:I):ei (aq l) t d=aq ((t,d)::l):=EG l t d
theorem Wt:(∀n x,I.dY (.ag n x)= .hole)/\(∀x,I.dY (.aS x)= .hole)/\(∀aF,I.dY (.agg aF)= .agg (I.nY aF))/\(∀aF,I.dY (.tuple aF)= .tuple (I.nY aF))/\I.nY []=[]/\(∀d ds,I.nY (d::ds)=d.dY::I.nY ds)/\
  (∀k n,I.dY (.int k n)= .int k n)/\(∀b,I.dY (.bool b)= .bool b)/\(∀x,I.dY (.str x)= .str x)/\(∀x,I.dY (.slice x)= .slice x)/\(∀x,I.dY (.ref x)= .ref x)/\I.dY .bg= .bg/\I.dY .er= .er/\I.dY .hole= .hole:=by
 simp[I.dY,I.nY]
def y5:Option I->Option I
 |some d=>(match d with| .tuple _=>none| .cc _=>none|d=>if d.plain=true then none else some d.share)
 |none=>none
def y6:Option I->Option I
 |some d=>(match d with| .tuple _=>none|d=>some (.ref d.share))
 |none=>none
theorem gP (s:ak) (x:Nat) (q:ayf):view s (.h x q)=y5 (I.sub q (s x))/\view s (.ax x q)=(if I.gC q (s x)=true then y6 (I.sub q (s x))else none):=by
 constructor
 .simp only[view];rfl
 .simp only[view];rfl
theorem gQ:(∀n xs,y5 (some (.ag n xs))=some (.slice (I.shares xs)))/\(∀d,y5 (some (.aS d))=some (.ref d.share))/\(∀aF,y5 (some (.agg aF))=if I.e5 aF=true then none else some (.agg (I.shares aF)))/\
  (∀aF,y6 (some (.agg aF))=some (.ref (.agg (I.shares aF))))/\(∀k n,y6 (some (.int k n))=some (.ref (.int k n)))/\(∀x,y6 (some (.str x))=some (.ref (.str x))):=
 ⟨λ_ _=>by simp[y5,I.plain,I.share],λ_=>by simp[y5,I.plain,I.share],λaF=>by cases h:I.e5 aF<;>simp[y5,I.plain,I.share,h],λ_=>by simp[y6,I.share],λ_ _=>by simp[y6,I.share],λ_=>by simp[y6,I.share]⟩
theorem cG:(∀n xs,I.share (.ag n xs)= .slice (I.shares xs))/\(∀d,I.share (.aS d)= .ref d.share)/\(∀xs,I.share (.slice xs)= .slice (I.shares xs))/\(∀d,I.share (.ref d)= .ref d.share)/\(∀aF,I.share (.agg aF)= .agg (I.shares aF))/\(∀aF,I.share (.tuple aF)= .tuple (I.shares aF))/\
  (∀k n,I.share (.int k n)= .int k n)/\(∀b,I.share (.bool b)= .bool b)/\(∀x,I.share (.str x)= .str x)/\I.share .bg= .bg/\I.share .er= .er/\I.shares []=[]/\(∀d ds,I.shares (d::ds)=d.share::I.shares ds):=by
 simp[I.share,I.shares]
def n9 (sz:Nat):Option (ayk×ak)->Option (I×ak)
 |some (ds,s1)=>some (.ag sz ds,s1)
 |none=>none
def eA:Option (ayk×ak)->Option (I×ak)
 |some (ds,s1)=>some (.agg ds,s1)
 |none=>none
theorem ER {C:cm} {T e n sz:Nat} {fs:ayk} (ld:(C.T T).k= .slice e) (fj:(C.T e).sz=sz) (b8:List.replicate n (C.T e).zero=fs)
  (gF:((C.T e).ok&&((C.T e).zero.wd==sz)&&(flat (C.T e).zero).isSome&&(sz !=0)&&decide (n*sz<=16777216))=true):∀s ps,dW C s T n ps=n9 sz (eM (λk=>some (k*sz,sz)) s fs [] ps):=by
 intro s ps;subst fj;simp only[Bool.and_eq_true,beq_iff_eq,bne_iff_ne,decide_eq_true_eq]at gF;obtain⟨⟨⟨⟨ad,af⟩,aG⟩,bf⟩,bU⟩:=gF;unfold dW;rw[ld];simp only;rw[if_pos ⟨ad,af,aG,bf,bU⟩,b8];cases eM (λk=>some (k*(C.T e).sz,(C.T e).sz)) s fs [] ps<;>rfl
theorem nr {C:cm} {T:Nat} {aF:List (TypeId×Nat)} {fs:ayk} (ld:(C.T T).k= .struct aF) (b8:(C.T T).zero= .agg fs)
  (gF:((flat (.agg fs)).isSome&&aF.all λf=>(C.T f.1).ok)=true):∀s ps,gz C s T ps=eA (eM (λk=>(aF[k]?).map λf=>(f.2,(C.T f.1).sz)) s fs [] ps):=by
 intro s ps;simp only[Bool.and_eq_true,List.all_eq_true]at gF;unfold gz;rw[ld,b8];simp only;rw[if_pos ⟨gF.1,gF.2⟩];cases eM (λk=>(aF[k]?).map λf=>(f.2,(C.T f.1).sz)) s fs [] ps<;>rfl
def dX (place:Nat->Option (Nat×Nat)) (k:Nat) (fs:ayk) (os:List (Option Nat)) (r:ayj) (o:Option Nat):Option (Nat×Nat)->Option I->Option (I×ak)->Option (ayk×ak)
 |some (off,n),some z,some (d,s1)=>(match d with
  | .tuple _=>none
  |d=>if d.wd=n/\z.wd=n/\I.e9 (fs.take k)=off then eM place s1 (fs.set k d) (os++[o]) r else none)
 |_,_,_=>none
theorem l6 (place:Nat->Option (Nat×Nat)) (s:ak) (fs:ayk) (os:List (Option Nat)):eM place s fs os []=some (fs,s)/\
  (∀k a r,eM place s fs os ((k,a)::r)=dX place k fs os r (nE os a).owner (place k) fs[k]? (dG s (nE os a))):=by
 refine⟨rfl,λk a r=>?_⟩;simp only[eM];cases dG s (nE os a)with
 |none=>cases place k<;>cases fs[k]? <;>rfl
 |some p=>
  obtain⟨d,s1⟩:=p;cases place k with
  |none=>cases fs[k]? <;>rfl
  |some q=>cases fs[k]? <;>(cases d<;>rfl)
theorem l7:(∀a,nE [] a=a)/\(∀o os a,nE (o::os) a=nE os (ng o a)):=⟨λ_=>rfl,λ_ _ _=>rfl⟩
theorem cO:(∀k n,I.owner (.int k n)=none)/\(∀b,I.owner (.bool b)=none)/\(∀x,I.owner (.str x)=none)/\(∀x,I.owner (.slice x)=none)/\(∀x,I.owner (.ref x)=none)/\(∀x,I.owner (.agg x)=none)/\I.owner .er=none/\I.owner .bg=none/\(∀x q,I.owner (.h x q)=some x):=
 ⟨λ_ _=>rfl,λ_=>rfl,λ_=>rfl,λ_=>rfl,λ_=>rfl,λ_=>rfl,rfl,rfl,λ_ _=>rfl⟩
end Go.eg
