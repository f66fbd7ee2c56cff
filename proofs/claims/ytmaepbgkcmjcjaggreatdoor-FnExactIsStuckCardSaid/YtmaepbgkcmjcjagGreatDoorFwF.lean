/- Part of a proof that a law returns true for every input. No condition. -/
import Derived.Test.YtmaepbgkcmjcjagGreatDoorFwE
import Derived.Orders
import Derived.KernelRfl
import Derived.Test.YtmaepbgkcmjcjagGreatDoorFwA
namespace Go.ef
open Go.IntKind Nat
section
variable {C:cj} {w0 w:World} {F0 X:Nat->Prop} {n:Fr} {ρ:Nat->Value} {s s1:ak} {a:Act} {av:I} {Q:Exit->Act->World->Prop}
def cm.un (o:cm):cm:=⟨o.dst,o.bS.base,o.guard⟩
theorem DZ {ops:Array Oper}:∀{os:List Oper} {rs:List cm},tC n ops os=some rs->os.length=rs.length/\∀(i:Nat) (o:Oper),os[i]? =some o->∃r,rs[i]? =some r/\tB n ops o=some r:=by
 intro os;induction os with
 |nil=>intro rs h;simp only[tC,Option.some.injEq]at h;subst h;exact⟨rfl,λi o h=>by simp at h⟩
 |cons o os ih=>
  intro rs h;simp only[tC]at h;split at h
  .rename_i r auc ad ae;simp only[Option.some.injEq]at h;subst h;obtain⟨bX,cN⟩:=ih ae;refine⟨by simp[bX],λi p9 bH=>?_⟩;cases i with
   |zero=>simp at bH;subst bH;exact⟨r,rfl,ad⟩
   |succ i=>simpa using cN i p9 (by simpa using bH)
  .cases h
theorem HB {o:Oper} {y:Nat->axe} (h:o.guard=none):Region.wanted o y=true:=by simp[Region.wanted,h]
theorem adi (h:Rel w0 F0 X n ρ s a w) {ops:Array Oper} {j t:Nat} (bE:(ops[j]?).bind (·.dst)=some t):
  (∀b,s t= .bool b->yielded ops a.tmps j=some b)/\(s t= .tuple []->yielded ops a.tmps j=none):=by
 obtain⟨al,aa,bF,F,S,aQ⟩:=h;have k5:=aQ.ew t;refine⟨λb ab=>?_,λab=>?_⟩
 .rw[ab]at k5;have aE:=wK k5;simp only[yielded,bE,Option.bind_some];rw[Array.getD_eq_getD_getElem?]at aE;cases hg:a.tmps[t]? with
  |none=>rw[hg]at aE;simp[undef]at aE
  |some v=>rw[hg]at aE;simp at aE;subst aE;rfl
 .rw[ab]at k5;obtain⟨⟨arr,ad,ae⟩,_⟩:=(aO.dk (d:=.tuple []) rfl).1 k5;simp only[yielded,bE,Option.bind_some];rw[Array.getD_eq_getD_getElem?]at ad;cases hg:a.tmps[t]? with
  |none=>rfl
  |some v=>rw[hg]at ad;simp at ad;subst ad;rfl
theorem Mo (bK:C.fz) {ops:Array Oper} {ros:List cm} {l2:axd} {K:ak->Prop} (aS:∀aH dC aL,K aH->Rel w0 F0 X n ρ aH dC aL->wpOps C.P ops Q l2 dC aL):
  ∀(l:axd),(∀i∈l,(ops[i]? =none->ros[i]? =none)/\∀o,ops[i]? =some o->∃r,ros[i]? =some r/\tB n ops o=some r.un)->
  ∀(s:ak) (a:Act) (w:World),kx C ros s l K->Rel w0 F0 X n ρ s a w->wpOps C.P ops Q (l++l2) a w:=by
 intro l;induction l with
 |nil=>intro _ s a w h aQ;exact aS s a w h aQ
 |cons i l ih=>
  intro qV s a w h aQ;replace ih:=ih λi ag=>qV i (List.mem_cons_of_mem _ ag);rw[List.cons_append];simp only[wpOps];cases bH:ops[i]? with
  |none=>
   simp only[kx,(qV i (by simp)).1 bH]at h;exact ih s a w h aQ
  |some o=>
   obtain⟨r,ad,ae⟩:=(qV i (by simp)).2 o bH;simp only[kx,ad]at h;show(if Region.wanted o (yielded ops a.tmps)=true then o.wp C.P a w (wpOps C.P ops Q (l++l2)) Q\/(o.asks C.P a w/\LetsOut Q)else wpOps C.P ops Q (l++l2) (a.put o.dst undef) w);simp only[tB]at ae;split at ae
   .rename_i HC;split at ae
    .rename_i g hg;obtain⟨rd,bS,rg⟩:=r;simp only[cm.un,Option.some.injEq,cm.mk.injEq]at ae;obtain⟨rfl,c6,rfl⟩:=ae;simp only[ov]at h;have run:∀(ev:ak->Prop),(∀aH,ev aH->kx C ros aH l K)->qU C s bS (λav s1=>ev (fin s1 o.dst av))->o.wp C.P a w (wpOps C.P ops Q (l++l2)) Q:=
      λev kN hw=>adh bK aQ c6 HC hw (λaH dC aL au fh=>ih aH dC aL (kN aH au) fh)
     cases AL:o.guard with
     |none=>
      rw[AL]at hg;simp only[DT,Option.some.injEq]at hg;subst hg;simp only at h;rw[if_pos (HB AL)];exact .inl (run _ (λ_ h=>h) h)
     |some Mp=>
      obtain⟨j,b⟩:=Mp;rw[AL]at hg;simp only[DT]at hg;split at hg
      .rename_i t aZ;simp only[Option.some.injEq]at hg;subst hg;simp only at h;obtain⟨fG,ie⟩:=adi aQ aZ;have TT:∀(ev:kx C ros (fin s o.dst (.tuple [])) l K),wpOps C.P ops Q (l++l2) (a.put o.dst undef) w:=λev=>ih _ _ _ ev (Rel.skip aQ HC);split at h
       .rename_i gM aa;have hy:=fG gM aa;split at h
        .rename_i ab;subst ab;rw[if_pos (by simp[Region.wanted,AL,hy])];exact .inl (run _ (λ_ h=>h) h)
        .rename_i ab;rw[if_neg (by simp[Region.wanted,AL,hy,ab])];exact TT h
       .rename_i aa;have hy:=ie aa;rw[if_neg (by simp[Region.wanted,AL,hy])];exact TT h
       .exact h.elim
      .cases hg
    .cases ae
   .cases ae
theorem TU (bK:C.fz) {ops:Array Oper} {ros:List cm} (wY:tC n ops ops.toList=some (ros.map cm.un)) {K:ak->Prop} (aS:∀aH dC aL,K aH->Rel w0 F0 X n ρ aH dC aL->Q .normal dC aL):
  ∀(l:axd) (s:ak) (a:Act) (w:World),kx C ros s l K->Rel w0 F0 X n ρ s a w->wpOps C.P ops Q l a w:=by
 obtain⟨aC,qV⟩:=DZ wY;intro l s a w h aQ;have:=Mo (Q:=Q) bK (ros:=ros) (ops:=ops) (l2:=[]) (K:=K) (n:=n) (ρ:=ρ) (w0:=w0) (F0:=F0) (X:=X) (λaH dC aL au fh=>aS aH dC aL au fh) l (λi _=>⟨λbH=>by
   rw[List.getElem?_eq_none_iff,<-List.length_map (f:=cm.un),<-aC];have:=Array.getElem?_eq_none_iff.1 bH;simpa using this,λo bH=>by
   obtain⟨ai,kZ,ae⟩:=qV i o (by simpa using bH);obtain⟨r,ad,rfl⟩:∃r,ros[i]? =some r/\r.un=ai:=by simpa using kZ
   exact⟨r,ad,ae⟩⟩) s a w h aQ
 rwa [List.append_nil]at this
theorem Rel.drawn (h:Rel w0 F0 X n ρ s a w) (k:Nat) (au:w.drawn<=k):Rel w0 F0 X n ρ s a {w with drawn:=k}:=by
 obtain⟨ad,ae,bF,F,S,aI⟩:=h;exact⟨ad,ae,bF,F,S,aI.grow (λ_ _=>rfl) (Nat.le_refl _) rfl rfl ⟨rfl,λ_=>au⟩⟩
theorem adj (bK:C.fz) {id:Nat} {ops:Array Oper} {ros:List cm} (wY:tC n ops ops.toList=some (ros.map cm.un)) {K:ak->Prop} (aS:∀aH dC aL,K aH->Rel w0 F0 X n ρ aH dC aL->Q .normal dC aL)
  (h:nV C s ros K) (aQ:Rel w0 F0 X n ρ s a w):(Code.region id ops false).wp C.P Q a w:=by
 refine wp_region (TU bK wY aS _ s a w ?_ aQ);have:=ac7 C K ros [] s h;have aC:=(DZ wY).1;simp only[List.nil_append,List.length_nil,Nat.add_zero,List.map_id']at this;rw[List.length_map]at aC;rw[<-aC]at this;simpa using this
end
def sd (se:axb) (l:axd):Prop:=
 l.Nodup/\(∀i,i∈l↔i<se.length)/\∀u i v,l=u++i::v->∀e∈(se[i]?).getD [],e∈u
def qW (ops:Array Oper):axb:=ops.toList.map λo=>(o.after.toList.filter λe=>Region.binds .any e).map (·.on)
def D0 (se:axb):Bool:=se.zipIdx.all λp=>p.1.all λe=>decide (e<p.2)
theorem adk {se:axb} (h:D0 se=true) {i:Nat} {l:axd} (ag:se[i]? =some l):∀e∈l,e<i:=by
 intro e he;simp only[D0,List.all_eq_true]at h;have:=h (l,i) (by rw[List.mem_zipIdx_iff_getElem?];exact ag) e he;simpa using this
theorem adl {ops:Array Oper} (ab:D0 (qW ops)=true):∀(fuel t:Nat) (listed:Array Bool),listed.size=ops.size->((List.range ops.size).filter λi=> !listed.getD i true).length<=fuel->
  (Region.linearise.go .any ops fuel t listed []).Nodup/\(∀i,i∈Region.linearise.go .any ops fuel t listed []↔(i<ops.size/\listed.getD i true=false))/\
   ∀u i v,Region.linearise.go .any ops fuel t listed []=u++i::v->∀e∈((qW ops)[i]?).getD [],listed.getD e false=true\/e∈u:=by
 intro fuel;induction fuel with
 |zero=>
  intro t listed aa aC;have DF:((List.range ops.size).filter λi=> !listed.getD i true)=[]:=List.length_eq_zero_iff.1 (le_zero.1 aC);refine⟨by simp[Region.linearise.go],λi=>?_,λu i v h=>by simp[Region.linearise.go]at h⟩;simp only[Region.linearise.go,List.reverse_nil,List.not_mem_nil,false_iff,not_and];intro ag bF;have:i∈((List.range ops.size).filter λi=> !listed.getD i true):=List.mem_filter.2 ⟨List.mem_range.2 ag,by rw[bF];rfl⟩;rw[DF]at this;cases this
 |succ fuel ih=>
  intro t listed aa aC;have TV:∀i,i∈Region.ready .any ops listed↔(i<ops.size/\listed.getD i true=false/\∀e∈((qW ops)[i]?).getD [],listed.getD e false=true):=by
   intro i;simp only[Region.ready,List.mem_filter,List.mem_range,Bool.and_eq_true,Bool.not_eq_true'];constructor
   .rintro⟨ad,ae,aI⟩;refine⟨ad,ae,?_⟩;rw[Array.getElem?_eq_getElem ad]at aI;simp only[Option.map_some,Option.getD_some,Array.all_eq_true_iff_forall_mem]at aI;simp only[qW,List.getElem?_map,Array.getElem?_toList,Array.getElem?_eq_getElem ad,Option.map_some,Option.getD_some,List.mem_map,List.mem_filter];rintro e ⟨x,⟨an,yv⟩,rfl⟩;have:=aI x (by simpa using an);simpa [yv]using this
   .rintro⟨ad,ae,aI⟩;refine⟨ad,ae,?_⟩;rw[Array.getElem?_eq_getElem ad];simp only[Option.map_some,Option.getD_some,Array.all_eq_true_iff_forall_mem];simp only[qW,List.getElem?_map,Array.getElem?_toList,Array.getElem?_eq_getElem ad,Option.map_some,Option.getD_some,List.mem_map,List.mem_filter]at aI;intro x an;cases yv:Region.binds .any x with
    |false=>simp
    |true=>simpa using aI x.on ⟨x,⟨by simpa using an,yv⟩,rfl⟩
  have hex:(∃i,i<ops.size/\listed.getD i true=false)->Region.ready .any ops listed≠[]:=by
   rintro⟨i,ad,ae⟩;have:∃i,(i<ops.size/\listed.getD i true=false)/\∀j,j<i->¬(j<ops.size/\listed.getD j true=false):=by
    induction i using Nat.strongRecOn with
    |_ i adm=>
     by_cases bE:∃j,j<i/\(j<ops.size/\listed.getD j true=false)
     .obtain⟨j,qX,qb,adn⟩:=bE;exact adm j qX qb adn
     .exact⟨i,⟨ad,ae⟩,λj ado ar=>bE ⟨j,ado,ar⟩⟩
   obtain⟨k,⟨bX,cN⟩,dH⟩:=this;have:k∈Region.ready .any ops listed:=(TV k).2 ⟨bX,cN,λe he=>by
    cases bl:(qW ops)[k]? with
    |none=>rw[bl]at he;simp at he
    |some l=>
     rw[bl]at he;have eB:=adk ab bl e he;have:=dH e eB;rw[not_and]at this;have:=this (by omega);have qc:e<listed.size:=by omega
     simp only[Array.getD_eq_getD_getElem?,Array.getElem?_eq_getElem qc,Option.getD_some]at this⊢;simpa using this⟩
   intro e;rw[e]at this;cases this
  have h5:Region.linearise.go .any ops (fuel+1) t listed []=(match(Region.ready .any ops listed)[t%(Region.ready .any ops listed).length]? with
   |some i=>Region.linearise.go .any ops fuel (t/(Region.ready .any ops listed).length) (listed.setIfInBounds i true) [i]
   |none=>[]):=rfl
  cases D1:(Region.ready .any ops listed)[t%(Region.ready .any ops listed).length]? with
  |none=>
   have DF:Region.ready .any ops listed=[]:=by
    cases aQ:Region.ready .any ops listed with
    |nil=>rfl
    |cons a l=>
     rw[aQ]at D1;have:=List.getElem?_eq_none_iff.1 D1;have ae:=mod_lt t (show 0<(a::l).length by simp);omega
   rw[h5,D1];refine⟨by simp,λi=>?_,λu i v h=>by simp at h⟩;simp only[List.not_mem_nil,false_iff];intro ag;exact hex ⟨i,ag⟩ DF
  |some i=>
   have ag:=(TV i).1 (List.mem_of_getElem? D1);obtain⟨D2,mH,adp⟩:=ag;rw[h5,D1];simp only;rw[linearise_go_acc];simp only[List.reverse_singleton,List.singleton_append];have wJ:∀j d,(listed.setIfInBounds i true).getD j d=if j=i then true else listed.getD j d:=by
    intro j d;split
    .rename_i e;subst e;simp[Array.getD_eq_getD_getElem?,Array.getElem?_setIfInBounds_self_of_lt (show j<listed.size by omega)]
    .rename_i e;simp[Array.getD_eq_getD_getElem?,Array.getElem?_setIfInBounds_ne (λh=>e h.symm)]
   obtain⟨g1,g2,g3⟩:=ih (t/(Region.ready .any ops listed).length) (listed.setIfInBounds i true) (by simpa using aa) (by
    have fS:((List.range ops.size).filter λj=> !(listed.setIfInBounds i true).getD j true)=((List.range ops.size).filter λi=> !listed.getD i true).filter λj=>decide (j≠i):=by
     rw[List.filter_filter];apply List.filter_congr;intro j _;rw[wJ];by_cases e:j=i<;>simp[e]
    rw[fS];have eB:(((List.range ops.size).filter λi=> !listed.getD i true).filter λj=>decide (j≠i)).length<((List.range ops.size).filter λi=> !listed.getD i true).length:=by
     rw[List.length_filter_lt_length_iff_exists];exact⟨i,List.mem_filter.2 ⟨List.mem_range.2 D2,by rw[mH];rfl⟩,by simp⟩
    omega)
   refine⟨?_,λj=>?_,?_⟩
   .rw[List.nodup_cons];refine⟨λhm=>?_,g1⟩;have:=((g2 i).1 hm).2;rw[wJ,if_pos rfl]at this;cases this
   .rw[List.mem_cons,g2,wJ];by_cases e:j=i
    .subst e;simp[D2,mH]
    .simp[e]
   .intro u j v h e he;cases u with
    |nil=>
     simp only[List.nil_append,List.cons.injEq]at h;obtain⟨rfl,rfl⟩:=h;exact .inl (adp e he)
    |cons AM u=>
     simp only[List.cons_append,List.cons.injEq]at h;obtain⟨rfl,h⟩:=h;rcases g3 u j v h e he with bB|bB
     .rw[wJ]at bB;split at bB
      .rename_i hd;subst hd;exact .inr (by simp)
      .exact .inl bB
     .exact .inr (by simp[bB])
theorem adq {ops:Array Oper} (ab:D0 (qW ops)=true) (t:Nat):sd (qW ops) (Region.linearise .any ops t):=by
 have TW:∀i d,i<ops.size->(Array.replicate ops.size false).getD i d=false:=by
  intro i d ag;simp[Array.getD_eq_getD_getElem?,ag]
 obtain⟨g1,g2,g3⟩:=adl ab ops.size t (Array.replicate ops.size false) (by simp) (by
  have:=List.length_filter_le (λi=> !(Array.replicate ops.size false).getD i true) (List.range ops.size);simpa using this)
 have hlen:(qW ops).length=ops.size:=by simp[qW]
 refine⟨g1,λi=>?_,λu i v h e he=>?_⟩
 .rw[hlen];rw[show Region.linearise .any ops t=Region.linearise.go .any ops ops.size t (Array.replicate ops.size false) []from rfl,g2];exact⟨λh=>h.1,λh=>⟨h,TW i true h⟩⟩
 .rcases g3 u i v h e he with bB|bB
  .exfalso;by_cases TX:e<ops.size
   .rw[TW e false TX]at bB;cases bB
   .simp[Array.getD_eq_getD_getElem?,TX]at bB
  .exact bB
def aq:axh->ak
 |[],_=>.hole
 |(u,d)::l,t=>if t=u then d else aq l t
mutual
inductive fH:I->I->Prop
 |refl (d:I):fH d d
 |iz (sz:Nat):fH .a8 (.aj sz [])
 |wZ:fH .a8 (.slice [])
 |any (b:Bool):fH (.bool b) .gw
 |share (d:I):d.tree=true->(∀vs,d≠.tuple vs)->(∀o,d≠.b4 o)->fH d d.share
 |agg {ds es:axi}:mh ds es->fH (.agg ds) (.agg es)
 |aM {d e:I}:fH d e->fH (.aM d) (.aM e)
 |aj {sz:Nat} {ds es:axi}:mh ds es->fH (.aj sz ds) (.aj sz es)
 |tuple {ds es:axi}:mh ds es->fH (.tuple ds) (.tuple es)
 |ref {d e:I}:fH d e->fH (.ref d) (.ref e)
 |trans {d e f:I}:fH d e->fH e f->fH d f
inductive mh:axi->axi->Prop
 |nil:mh [] []
 |cons {d e:I} {ds es:axi}:fH d e->mh ds es->mh (d::ds) (e::es)
end
mutual
theorem fH.wd:∀{d e:I},fH d e->e.wd=d.wd
 |_,_,.refl _=>rfl
 |_,_,.iz _=>rfl
 |_,_,.wZ=>rfl
 |_,_,.any _=>rfl
 |_,_,.share d _ _ _=>I.G7 d
 |_,_,.agg h=>by simp only[I.wd];exact mh.wd h
 |_,_,.aM _=>rfl
 |_,_,.aj _=>rfl
 |_,_,.tuple h=>by simp only[I.wd];exact mh.wd h
 |_,_,.ref _=>rfl
 |_,_,.trans h k=>(fH.wd k).trans (fH.wd h)
theorem mh.wd:∀{ds es:axi},mh ds es->I.eY es=I.eY ds
 |_,_,.nil=>rfl
 |_,_,.cons h aa=>by simp only[I.eY];rw[fH.wd h,mh.wd aa]
end
theorem mh.len {ds es:axi} (h:mh ds es):es.length=ds.length:=by
 induction ds generalizing es with
 |nil=>cases h;rfl
 |cons d ds ih=>cases h with|cons h aa=>simp[ih aa]
theorem mh.all {sz:Nat} {ds es:axi} (h:mh ds es) (al:∀d∈ds,d.wd=sz):∀d∈es,d.wd=sz:=by
 induction ds generalizing es with
 |nil=>cases h;intro d al;cases al
 |cons d ds ih=>
  cases h with
  |cons h aa=>
   intro x an;rcases List.mem_cons.1 an with rfl|an
   .rw[h.wd];exact al d (by simp)
   .exact ih aa (λd hm=>al d (by simp[hm])) x an
section
variable {w0 w:World} {F0 X F:Nat->Prop} {S:Nat->Nat->Prop} {s aH:ak} {aG:Nat->Value}
def adr (w:World) (F:Nat->Prop) (_d e:I) (cs:axg) (S:Nat->Prop):Prop:=
 ∃ju jv:Nat->Prop,(∀b,ju b->S b)/\(∀b,jv b->S b)/\(∀b,jv b->¬ju b)/\∀cl,(∀b,F b\/ju b->cl b)->aA w cl e cs jv
mutual
theorem aA.wider:∀{d e:I},fH d e->∀{F:Nat->Prop} {cs:axg} {S:Nat->Prop},aA w F d cs S->adr w F d e cs S
 |_,_,.refl _,F,cs,S,h=>⟨λ_=>False,S,λ_ h=>h.elim,λ_ h=>h,λ_ _ h=>h,λcl bG=>aA.mono (λb ab=>bG b (.inl ab)) _ _ _ _ (λ_ h=>h) h⟩
 | .a8,_,.iz sz,F,cs,S,h=>⟨λ_=>False,S,λ_ h=>h.elim,λ_ h=>h,λ_ _ h=>h,λcl bG=>by simp only[aA]at h⊢;exact .inl ⟨trivial,_,h⟩⟩
 | .a8,_,.wZ,F,cs,S,h=>⟨λ_=>False,S,λ_ h=>h.elim,λ_ h=>h,λ_ _ h=>h,λcl bG=>by simp only[aA]at h⊢;exact .inl ⟨trivial,none,0,h,zero_le _,λ_=>rfl⟩⟩
 | .bool _,_,.any b,F,cs,S,h=>⟨λ_=>False,S,λ_ h=>h.elim,λ_ h=>h,λ_ _ h=>h,λcl bG=>by simp only[aA]at h⊢;exact⟨b,h⟩⟩
 |_,_,.share d _ _ _,F,cs,S,h=>⟨S,λ_=>False,λ_ h=>h,λ_ h=>h.elim,λ_ h=>h.elim,λcl bG=>aA.shared (λb ab=>bG b (.inl ab)) d cs S (λb ab=>bG b (.inr ab)) h⟩
 |_,_,.agg lv,F,cs,S,h=>by
  rw[aA]at h;obtain⟨ju,jv,ad,ae,aI,bc⟩:=bx.wider lv h;exact⟨ju,jv,ad,ae,aI,λcl bG=>by rw[aA];exact bc cl bG⟩
 |_,_,.aM al,F,cs,S,h=>by
  rw[aA]at h;obtain⟨b,cur,ty,fr,aX,bX,cN,dH,dT,eG,eg,kt⟩:=h;obtain⟨ju,jv,ad,ae,aI,bc⟩:=aA.wider al eG;refine⟨ju,λc=>c=b\/jv c,λc ar=>eg c (ad c ar),?_,?_,λcl bG=>?_⟩
  .rintro c (rfl|ar)
   .exact cN
   .exact eg c (ae c ar)
  .rintro c (rfl|ar) bF
   .exact kt (ad _ bF)
   .exact aI c ar bF
  .rw[aA];exact⟨b,cur,ty,fr,jv,bX,.inl rfl,dH,dT,bc cl bG,λc ar=>.inr ar,λar=>kt (ae _ ar)⟩
 | .aj sz ds,.aj _ es,.aj lv,F,cs,S,h=>by
   rw[aA]at h;have aC:=lv.len;rcases h with⟨ad,ae⟩|⟨b,cap,cur,ty,fr,aX,bX,cN,dH,dT,eG,eg,kt,fB,oX,j8,TY⟩
   .refine⟨λ_=>False,S,λ_ h=>h.elim,λ_ h=>h,λ_ _ h=>h,λcl _=>?_⟩;rw[aA];subst ad;exact .inl ⟨List.length_eq_zero_iff.1 (by simpa using aC),ae⟩
   .obtain⟨ju,jv,ad,ae,aI,bc⟩:=bx.wider lv oX;refine⟨ju,λc=>c=b\/jv c,λc ar=>j8 c (ad c ar),?_,?_,λcl bG=>?_⟩
    .rintro c (rfl|ar)
     .exact cN
     .exact j8 c (ae c ar)
    .rintro c (rfl|ar) bF
     .exact TY (ad _ bF)
     .exact aI c ar bF
    .rw[aA];refine .inr ⟨b,cap,cur,ty,fr,jv,by rw[aC];exact bX,.inl rfl,dH,dT,by rw[aC];exact eG,eg,kt,lv.all fB,by rw[aC];exact bc cl bG,λc ar=>.inr ar,λar=>TY (ae _ ar)⟩
 |_,_,.tuple lv,F,cs,S,h=>by
  rw[aA]at h;obtain⟨ju,jv,ad,ae,aI,bc⟩:=bx.wider lv h;exact⟨ju,jv,ad,ae,aI,λcl bG=>by rw[aA];exact bc cl bG⟩
 |_,_,.ref al,F,cs,S,h=>by
  rw[aA]at h;obtain⟨b,o,e9,ad,ae,aI,bc⟩:=h;obtain⟨ju,jv,bX,cN,dH,dT⟩:=aA.wider al bc;refine⟨λ_=>False,S,λ_ h=>h.elim,λ_ h=>h,λ_ _ h=>h,λcl bG=>?_⟩;rw[aA];exact⟨b,o,e9,ad,bG _ (.inl ae),aI,aA.mono (λ_ h=>h) _ _ _ _ (λb ab=>cN b ab) (dT cl λb ab=>bG b (ab.imp id λh=>(bX b h).elim))⟩
 |_,_,.trans al he,F,cs,S,h=>by
  obtain⟨ju,jv,ad,ae,aI,bc⟩:=aA.wider al h;obtain⟨Mq,HD,bX,cN,dH,dT⟩:=aA.wider he (F:=λb=>F b\/ju b) (bc _ λ_ h=>h);refine⟨λb=>ju b\/Mq b,HD,?_,λb ab=>ae b (cN b ab),?_,λcl bG=>dT cl λb ab=>?_⟩
  .rintro b (h|h)
   .exact ad b h
   .exact ae b (bX b h)
  .rintro b ab (h|h)
   .exact aI b (cN b ab) h
   .exact dH b ab h
  .rcases ab with(ab|ab)|ab
   .exact bG b (.inl ab)
   .exact bG b (.inr (.inl ab))
   .exact bG b (.inr (.inr ab))
theorem bx.wider:∀{ds es:axi},mh ds es->∀{F:Nat->Prop} {cs:axg} {S:Nat->Prop},bx w F ds cs S->
  ∃ju jv:Nat->Prop,(∀b,ju b->S b)/\(∀b,jv b->S b)/\(∀b,jv b->¬ju b)/\∀cl,(∀b,F b\/ju b->cl b)->bx w cl es cs jv
 |_,_,.nil,F,cs,S,h=>⟨λ_=>False,λ_=>False,λ_ h=>h.elim,λ_ h=>h.elim,λ_ h=>h.elim,λcl bG=>by rw[bx]at h⊢;exact h⟩
 |_,_,.cons al lv,F,cs,S,h=>by
  rw[bx]at h;obtain⟨cz,c2,cA,eI,rfl,g2,g3,g4,g5,g6⟩:=h;obtain⟨ads,TZ,J,a2,a3,a4⟩:=aA.wider al g2;obtain⟨Mq,HD,hs,fT,fU,bU⟩:=bx.wider lv g3;refine⟨λb=>ads b\/Mq b,λb=>TZ b\/HD b,?_,?_,?_,λcl bG=>?_⟩
  .rintro b (h|h)
   .exact g4 b (J b h)
   .exact g5 b (hs b h)
  .rintro b (h|h)
   .exact g4 b (a2 b h)
   .exact g5 b (fT b h)
  .rintro b (h|h) (bB|bB)
   .exact a3 b h bB
   .exact g6 b (a2 b h) (hs b bB)
   .exact g6 b (J b bB) (fT b h)
   .exact fU b h bB
  .rw[bx];refine⟨cz,c2,TZ,HD,rfl,a4 cl (λb ab=>bG b (ab.imp id .inl)),bU cl (λb ab=>bG b (ab.imp id .inr)),λb ab=>.inl ab,λb ab=>.inr ab,λb ad ae=>g6 b (a2 b ad) (fT b ae)⟩
end
theorem fH.HE:∀{d e:I},fH d e->(∀vs,d≠.tuple vs)->∀vs,e≠.tuple vs
 |_,_,.refl _,h=>h
 |_,_,.iz _,_=>λ_ h=>by cases h
 |_,_,.wZ,_=>λ_ h=>by cases h
 |_,_,.any _,_=>λ_ h=>by cases h
 |_,_,.share d _ _ _,h=>λvs he=>by cases d<;>first|(cases he;done)|exact h _ rfl
 |_,_,.agg _,_=>λ_ h=>by cases h
 |_,_,.aM _,_=>λ_ h=>by cases h
 |_,_,.aj _,_=>λ_ h=>by cases h
 |_,_,.tuple _,h=>λ_ _=>h _ rfl
 |_,_,.ref _,_=>λ_ h=>by cases h
 |_,_,.trans h k,aS=>fH.HE k (fH.HE h aS)
theorem fH.jM:∀{d e:I} {v:Value},fH d e->(∀vs,d≠.tuple vs)->ef.jM d v->ef.jM e v
 |_,_,_,.refl _,_,h=>h
 |_,_,_,.iz _,_,h=>h
 |_,_,_,.wZ,_,h=>h
 |_,_,_,.any _,_,h=>h
 |_,_,_,.share d _ aS _,_,h=>by cases d<;>first|exact h|exact(aS _ rfl).elim
 |_,_,_,.agg _,_,h=>h
 |_,_,_,.aM _,_,h=>h
 |_,_,_,.aj _,_,h=>h
 |_,_,_,.tuple _,aS,_=>(aS _ rfl).elim
 |_,_,_,.ref _,_,h=>h
 |_,_,_,.trans h k,aS,aa=>fH.jM k (fH.HE h aS) (fH.jM h aS aa)
theorem mh.get:∀{ds es:axi},mh ds es->∀(k:Nat) (e:I),es[k]? =some e->∃d,ds[k]? =some d/\fH d e
 |_,_,.nil,k,e,h=>by simp at h
 |_,_,.cons al aa,0,e,h=>by simp at h;subst h;exact⟨_,rfl,al⟩
 |_,_,.cons al aa,k+1,e,h=>mh.get aa k e (by simpa using h)
theorem fH.eM:∀{d e:I} {v:Value},fH d e->ef.eM d v->ef.eM e v
 |_,_,_,.refl _,aa=>aa
 |_,_,_,.iz _,aa=>aa
 |_,_,_,.wZ,aa=>aa
 |_,_,_,.any _,aa=>aa
 |_,_,_,.share _ _ ny _,aa=>Md ny aa
 |_,_,_,.agg _,aa=>aa
 |_,_,_,.aM _,aa=>aa
 |_,_,_,.aj _,aa=>aa
 |_,_,_,.ref _,aa=>aa
 |_,_,_,.tuple al,aa=>by
  obtain⟨arr,ad,ae,aI⟩:=aa;refine⟨arr,ad,ae.trans al.len.symm,λk e x he an=>?_⟩;obtain⟨d,au,hw⟩:=al.get k e he;obtain⟨J,a2,a3⟩:=aI k d x au an;exact⟨hw.jM a2 J,hw.HE a2,a3.trans hw.wd.symm⟩
 |_,_,_,.trans h k,aa=>fH.eM k (fH.eM h aa)
theorem fH.tree:∀{d e:I},fH d e->d.tree=true->e.tree=true
 |_,_,.refl _,al=>al
 |_,_,.iz _,_=>rfl
 |_,_,.wZ,_=>rfl
 |_,_,.any _,_=>rfl
 |_,_,.share d _ _ ns,al=>by cases d<;>first|exact al|rfl|exact(ns _ rfl).elim
 |_,_,.agg _,_=>rfl
 |_,_,.aM _,_=>rfl
 |_,_,.aj _,_=>rfl
 |_,_,.tuple _,_=>rfl
 |_,_,.ref _,_=>rfl
 |_,_,.trans h k,al=>fH.tree k (fH.tree h al)
mutual
def I.yB:I->axd
 | .h x q=>if q.isEmpty then []else [x]
 | .ax x _=>[x]
 | .ab x _=>[x]
 | .fn _ cap=>I.D3 cap
 |_=>[]
def I.D3:axi->axd
 |[]=>[]
 |d::ds=>d.yB++I.D3 ds
end
def D4 (s aH:ak) (x:Nat) (D:axd):Prop:=aH x=s x\/aH x= .hole\/((s x).own=true/\(aH x).own=true/\x∉D)
theorem D4.less {s aH:ak} {x:Nat} {D E:axd} (h:D4 s aH x D) (D5:∀u∈E,u∈D):D4 s aH x E:=by
 rcases h with h|h|⟨ad,ae,aI⟩
 .exact .inl h
 .exact .inr (.inl h)
 .exact .inr (.inr ⟨ad,ae,λan=>aI (D5 x an)⟩)
theorem aO.keep {cl:Nat->Prop} (bG:∀b,F b->cl b):∀n,(∀(d:I) (v:Value) (eS:Nat->Prop),SizeOf.sizeOf d<=n->(∀x∈d.aa,D4 s aH x d.yB)->aO w F s aG d v eS->aO w cl aH aG d v eS)/\
  (∀(ds:axi) (vs:axg),SizeOf.sizeOf ds<=n->(∀x∈I.fo ds,D4 s aH x (I.D3 ds))->fm w F s aG ds vs->fm w cl aH aG ds vs):=by
 intro n;induction n with
 |zero=>
  refine⟨λd v eS b9=>?_,λds vs b9=>?_⟩
  .cases d<;>simp at b9<;>omega
  .cases ds<;>simp at b9<;>omega
 |succ n ih=>
  refine⟨λd v eS b9 au h=>?_,λds vs b9 au h=>?_⟩
  .cases d with
   |hole=>rw[aO];trivial
   |h x q=>
    rw[aO]at h⊢;intro e fS ax;rcases au x (by simp[I.aa])with he|he|⟨D6,T0,AN⟩
    .rw[he]at fS⊢;exact h e fS ax
    .rw[he]at fS;cases q with
     |nil=>simp only[I.sub,Option.some.injEq]at fS;subst fS;simp[I.plain]at ax
     |cons k q=>simp[I.sub]at fS
    .cases q with
     |nil=>
      simp only[I.sub,Option.some.injEq]at fS;subst fS;obtain⟨dp,a0,hp,iV,kq⟩:=h (s x) (by simp only[I.sub]) (Hy D6).1;simp only[er,Option.some.injEq,Prod.mk.injEq,true_and]at hp;exact⟨c8 (aG x),none,by simp only[er],by rw[iV,<-hp.1],((Hy T0).2.2.2.2.2 _).2 (((Hy D6).2.2.2.2.2 _).1 kq)⟩
     |cons k q=>exact(AN (by simp[I.yB])).elim
   |ax x q=>
    rw[aO]at h⊢;intro e fS ar;rcases au x (by simp[I.aa])with he|he|⟨_,_,AN⟩
    .rw[he]at fS ar⊢;exact h e fS ar
    .rw[he]at ar;cases q<;>simp[I.gD]at ar
    .exact(AN (by simp[I.yB])).elim
   |ab x k=>
    rw[aO]at h⊢;intro ax;rcases au x (by simp[I.aa])with he|he|⟨_,_,AN⟩
    rotate_left 2
    .exact(AN (by simp[I.yB])).elim
    .rw[he]at ax;obtain⟨b,cur,e,fr,ad,ae,aI,bc⟩:=h ax;exact⟨b,cur,e,fr,ad,bG b ae,aI,bc⟩
    .rw[he]at ax;simp[I.plain]at ax
   |fn f cap=>
    rw[aO]at h⊢;obtain⟨arr,rfl,ar⟩:=h;exact⟨arr,rfl,ih.2 _ _ (by simp at b9;omega) (by simpa [I.aa,I.yB]using au) ar⟩
   |_=>
    have bB:=(aO.dk rfl).1 h;exact(aO.dk rfl).2 ⟨bB.1,aA.mono bG _ _ _ _ (λ_ h=>h) bB.2⟩
  .cases ds with
   |nil=>rw[fm]at h⊢;exact h
   |cons d ds=>
    rw[fm]at h⊢;obtain⟨v,nO,rfl,ad,ae⟩:=h;simp at b9;simp only[I.fo,List.mem_append]at au;exact⟨v,nO,rfl,ih.1 _ _ _ (by omega) (λx an=>(au x (.inl an)).less λu hu=>by simp[I.D3,hu]) ad,ih.2 _ _ (by omega) (λx an=>(au x (.inr an)).less λu hu=>by simp[I.D3,hu]) ae⟩
def yC (s:ak) (l:axh):Prop:=
 ∀p∈l,p.2=s p.1\/((s p.1).tree=true/\fH (s p.1) p.2/\∀da∈l,p.1∉da.2.aa\/((s p.1).own=true/\p.2.own=true/\p.1∉da.2.yB))
theorem T1:∀(l:axh) (t:Nat),aq l t= .hole\/∃p∈l,p.1=t/\aq l t=p.2:=by
 intro l;induction l with
 |nil=>intro t;exact .inl rfl
 |cons p l ih=>
  intro t;obtain⟨u,d⟩:=p;simp only[aq];split
  .rename_i e;exact .inr ⟨(u,d),by simp,e.symm,rfl⟩
  .rcases ih t with h|⟨p,ax,h⟩
   .exact .inl h
   .exact .inr ⟨p,by simp[ax],h⟩
theorem b8.T2 (h:b8 w0 F0 X F S s aG w) {l:axh} (hw:yC s l):∃cl aX,b8 w0 F0 X cl aX (aq l) aG w:=by
 have each:∀t,∃ju jv:Nat->Prop,(∀b,ju b->S t b)/\(∀b,jv b->S t b)/\(∀b,jv b->¬ju b)/\∀cl,(∀b,F b\/ju b->cl b)->aO w cl (aq l) aG (aq l t) (aG t) jv:=by
  intro t;rcases T1 l t with e|⟨p,ax,rfl,e⟩
  .exact⟨λ_=>False,λ_=>False,λ_ h=>h.elim,λ_ h=>h.elim,λ_ h=>h.elim,λcl _=>by rw[e,aO];trivial⟩
  .rw[e];rcases hw p ax with au|⟨aZ,mX,_⟩
   .refine⟨λ_=>False,S p.1,λ_ h=>h.elim,λ_ h=>h,λ_ _ h=>h,λcl bG=>?_⟩;rw[au];refine(aO.keep (λb ab=>bG b (.inl ab)) (SizeOf.sizeOf (s p.1))).1 _ _ _ (Nat.le_refl _) ?_ (h.ew p.1);intro x an;rcases T1 l x with hd|⟨da,fj,rfl,hd⟩
    .exact .inr (.inl hd)
    .rcases hw da fj with nv|⟨_,_,ns⟩
     .exact .inl (hd.trans nv)
     .rcases ns p ax with ns|⟨qa,nz,r9⟩
      .exact(ns (by rw[au];exact an)).elim
      .exact .inr (.inr ⟨qa,by rw[hd];exact nz,by rw[au]at r9;exact r9⟩)
   .obtain⟨g1,g2⟩:=(aO.dk aZ).1 (h.ew p.1);obtain⟨ju,jv,bX,cN,dH,dT⟩:=aA.wider mX g2;exact⟨ju,jv,bX,cN,dH,λcl bG=>(aO.dk (mX.tree aZ)).2 ⟨mX.eM g1,dT cl bG⟩⟩
 have cz:=λt=>(each t).choose_spec;let ju:=λt=>(each t).choose
 have c2:=λt=>(cz t).choose_spec;let jv:=λt=>(cz t).choose
 have hj:∀t b,ju t b->S t b:=λt=>(c2 t).1;have gO:∀t b,jv t b->S t b:=λt=>(c2 t).2.1;have iJ:∀t b,jv t b->¬ju t b:=λt=>(c2 t).2.2.1;have jN:=λt=>(c2 t).2.2.2;refine⟨λb=>F b\/∃t,ju t b,jv,λb ab=>.inl (h.iI b ab),?_,?_,λt b ab=>h.fN t b (gO t b ab),?_,λt u b dQ ab hu=>h.gE t u b dQ (gO t b ab) (gO u b hu),λt b ab=>h.eS t b (gO t b ab),?_,h.old,h.size,h.os,h.tape,h.output,h.gS⟩
 .rintro b (ab|⟨t,ab⟩)
  .exact h.jg b ab
  .exact .inr (h.eS t b (hj t b ab))
 .rintro b (ab|⟨t,ab⟩)
  .exact h.gN b ab
  .exact h.fN t b (hj t b ab)
 .rintro t b ab (bF|⟨u,hu⟩)
  .exact h.hf t b (gO t b ab) bF
  .by_cases e:t=u
   .subst e;exact iJ t b ab hu
   .exact h.gE t u b e (gO t b ab) (hj u b hu)
 .intro t;exact jN t _ (λb ab=>ab.imp id λh=>⟨t,h⟩)
end
inductive aB where
 |skip
 |eu (ros:List cm) (keep:Option axd)
 |jw (ros:List cm) (se:axb) (keep:Option axd)
 |seq (a b:aB)
 |cond (c:bC) (a b:aB)
 |block (id:Nat) (b:aB)
 |loop (b:aB)
 |exit (id:Nat)
 |ret
 |ky (T:(Exit->ak->Prop)->ak->Prop) (b:aB)
 |raw (c:Code)
def fV (n:Fr):Code->Option aB
 | .skip=>some .skip
 | .region id ops false=>match tC n ops ops.toList with
   |some r=>some (.eu r none)
   |none=>some (.raw (.region id ops false))
 | .region _ ops true=>if D0 (qW ops)=true then(tC n ops ops.toList).map λr=>.jw r (qW ops) none else none
 | .seq a b=>match fV n a,fV n b with
   |some a,some b=>some (.seq a b)
   |_,_=>none
 | .cond c a b=>match eC c,fV n a,fV n b with
   |some c,some a,some b=>some (.cond c a b)
   |_,_,_=>none
 | .block id b=>(fV n b).map (.block id)
 | .loop b=>(fV n b).map .loop
 | .exit id=>some (.exit id)
 | .ret=>some .ret
 |_=>none
def aB.nf:aB->aB
 | .eu ros _=>.eu ros none
 | .jw ros cT _=>.jw ros cT none
 | .seq a b=>.seq a.nf b.nf
 | .cond c a b=>.cond c a.nf b.nf
 | .block id b=>.block id b.nf
 | .loop b=>.loop b.nf
 | .ky T b=>.ky T b.nf
 |c=>c
def aB.strip:aB->aB
 | .eu ros _=>.eu (ros.map cm.un) none
 | .jw ros cT _=>.jw (ros.map cm.un) cT none
 | .seq a b=>.seq a.strip b.strip
 | .cond c a b=>.cond c a.strip b.strip
 | .block id b=>.block id b.strip
 | .loop b=>.loop b.strip
 | .ky _ b=>b.strip
 |c=>c
theorem aB.Mr:∀c:aB,c.nf.strip=c.strip:=by
 intro c;induction c with
 |seq a b mi mj=>simp only[aB.nf,aB.strip,mi,mj]
 |cond c a b mi mj=>simp only[aB.nf,aB.strip,mi,mj]
 |block id b ih=>simp only[aB.nf,aB.strip,ih]
 |loop b ih=>simp only[aB.nf,aB.strip,ih]
 |ky T b ih=>simp only[aB.nf,aB.strip,ih]
 |_=>rfl
def aB.bare (H:((Exit->ak->Prop)->ak->Prop)->aB->Prop):aB->Prop
 | .eu _ k=>k=none
 | .jw _ _ k=>k=none
 | .seq a b=>a.bare H/\b.bare H
 | .cond _ a b=>a.bare H/\b.bare H
 | .block _ b=>b.bare H
 | .loop b=>b.bare H
 | .ky T b=>H T b
 |_=>True
def aB.py (H:((Exit->ak->Prop)->ak->Prop)->aB->Prop):aB->Prop
 | .seq a b=>a.py H/\b.py H
 | .cond _ a b=>a.py H/\b.py H
 | .block _ b=>b.py H
 | .loop b=>b.py H
 | .ky T b=>H T b.nf
 |_=>True
theorem aB.HF {H:((Exit->ak->Prop)->ak->Prop)->aB->Prop}:∀c:aB,c.py H->c.nf.bare H:=by
 intro c;induction c with
 |seq a b mi mj=>intro h;exact⟨mi h.1,mj h.2⟩
 |cond c a b mi mj=>intro h;exact⟨mi h.1,mj h.2⟩
 |block id b ih=>intro h;exact ih h
 |loop b ih=>intro h;exact ih h
 |eu=>intro _;rfl
 |jw=>intro _;rfl
 |ky T b _=>intro h;exact h
 |_=>intro _;trivial
def aB.plain:aB->Bool
 | .seq a b=>a.plain&&b.plain
 | .cond _ a b=>a.plain&&b.plain
 | .block _ b=>b.plain
 | .loop b=>b.plain
 | .ky _ _=>false
 |_=>true
theorem aB.T3 {H:((Exit->ak->Prop)->ak->Prop)->aB->Prop}:∀c:aB,c.plain=true->c.py H:=by
 intro c;induction c with
 |seq a b mi mj=>intro h;simp only[aB.plain,Bool.and_eq_true]at h;exact⟨mi h.1,mj h.2⟩
 |cond c a b mi mj=>intro h;simp only[aB.plain,Bool.and_eq_true]at h;exact⟨mi h.1,mj h.2⟩
 |block id b ih=>intro h;exact ih h
 |loop b ih=>intro h;exact ih h
 |ky T b _=>intro h;cases h
 |_=>intro _;trivial
def andThen (K:ak->Prop) (Q:Exit->ak->Prop):Exit->ak->Prop
 | .normal,s=>K s
 |e,s=>Q e s
def AO (id:Nat) (Q:Exit->ak->Prop):Exit->ak->Prop
 | .exit i,s=>if i=id then Q .normal s else Q (.exit i) s
 |e,s=>Q e s
def eJ (K:ak->Prop) (s:ak):Prop:=K s\/∃l,yC s l/\K (aq l)
def D7:Option axd->(ak->Prop)->ak->Prop
 |none,K,s=>eJ K s
 |some k,K,s=>K (aq (k.map λt=>(t,s t)))
def bk (C:cj):aB->(Exit->ak->Prop)->ak->Prop
 | .skip,Q,s=>Q .normal s
 | .eu ros keep,Q,s=>nV C s ros (D7 keep (Q .normal))
 | .jw ros se keep,Q,s=>∀l,sd se l->kx C ros s l (D7 keep (Q .normal))
 | .seq a b,Q,s=>bk C a (andThen (eJ (bk C b Q)) Q) s
 | .cond c a b,Q,s=>match bw s c with
   | .bool gM=>if gM=true then bk C a Q s else bk C b Q s
   | .gw=>bk C a Q s/\bk C b Q s
   |_=>False
 | .block id b,Q,s=>bk C b (AO id Q) s
 | .loop b,Q,s=>eJ (λs=>∀Z:ak->Prop,(∀aH,bk C b (andThen (eJ Z) Q) aH->Z aH)->Z s) s
 | .exit id,Q,s=>Q (.exit id) s
 | .ret,Q,s=>Q .ret s
 | .ky T _,Q,s=>∀e6:Exit->ak->Prop,(∀e s,Q e s->e6 e s)->T e6 s
 | .raw _,_,_=>False
section
variable {C:cj}
theorem HG {s:ak} {o:cm} {K ev:ak->Prop} (h:ov C s o K) (au:∀s,K s->ev s):ov C s o ev:=by
 unfold ov at h⊢;split
 .rename_i hg;rw[hg]at h;exact HA h λav s1=>au _
 .rename_i t b hg;rw[hg]at h;simp only at h;split
  .rename_i gM aa;rw[aa]at h;simp only at h;split
   .rename_i ab;rw[if_pos ab]at h;exact HA h λav s1=>au _
   .rename_i ab;rw[if_neg ab]at h;exact au _ h
  .rename_i aa;rw[aa]at h;exact au _ h
  .rename_i ad ae;split at h
   .exact ad _ (by assumption)
   .exact ae (by assumption)
   .exact h
theorem T4 {K ev:ak->Prop} (au:∀s,K s->ev s):∀{ros:List cm} {s:ak},nV C s ros K->nV C s ros ev:=by
 intro ros;induction ros with
 |nil=>intro s h;exact au s h
 |cons o ros ih=>intro s h;exact HG h λs h=>ih h
theorem T5 {ros:List cm} {K ev:ak->Prop} (au:∀s,K s->ev s):∀{l:axd} {s:ak},kx C ros s l K->kx C ros s l ev:=by
 intro l;induction l with
 |nil=>intro s h;exact au s h
 |cons i l ih=>
  intro s h;simp only[kx]at h⊢;split
  .rename_i bH;rw[bH]at h;exact ih h
  .rename_i o bH;rw[bH]at h;exact HG h λs h=>ih h
theorem AP {K ev:ak->Prop} (au:∀s,K s->ev s) (s:ak) (h:eJ K s):eJ ev s:=
 h.imp (au s) λ⟨l,ad,ae⟩=>⟨l,ad,au _ ae⟩
theorem T6 {keep:Option axd} {K ev:ak->Prop} (au:∀s,K s->ev s) (s:ak) (h:D7 keep K s):D7 keep ev s:=by
 cases keep with
 |none=>exact AP au s h
 |some k=>exact au _ h
theorem T7 {keep:Option axd} {K:ak->Prop} {s:ak} (h:D7 keep K s):eJ K s:=by
 cases keep with
 |none=>exact h
 |some k=>
  refine .inr ⟨_,?_,h⟩;intro p ax;obtain⟨t,_,rfl⟩:=List.mem_map.1 ax;exact .inl rfl
theorem Ms {K ev:ak->Prop} {Q e6:Exit->ak->Prop} (au:∀s,K s->ev s) (cx:∀e s,Q e s->e6 e s):∀e s,andThen K Q e s->andThen ev e6 e s:=by
 intro e s h;cases e with
 |normal=>exact au s h
 |_=>exact cx _ s h
theorem Mt:∀(c:aB) {Q e6:Exit->ak->Prop} {s:ak},(∀e s,Q e s->e6 e s)->bk C c Q s->bk C c e6 s:=by
 intro c;induction c with
 |skip=>intro Q e6 s cx h;exact cx _ _ h
 |eu ros keep=>intro Q e6 s cx h;exact T4 (T6 (cx _)) h
 |jw ros se keep=>intro Q e6 s cx h l aC;exact T5 (T6 (cx _)) (h l aC)
 |seq a b mi mj=>
  intro Q e6 s cx h;exact mi (Ms (λs h=>AP (λ_ h=>mj cx h) s h) cx) h
 |cond c a b mi mj=>
  intro Q e6 s cx h;simp only[bk]at h⊢;split
  .rename_i gM ab;rw[ab]at h;simp only at h;split
   .rename_i e;rw[if_pos e]at h;exact mi cx h
   .rename_i e;rw[if_neg e]at h;exact mj cx h
  .rename_i ab;rw[ab]at h;exact⟨mi cx h.1,mj cx h.2⟩
  .rename_i ad ae;split at h
   .exact ad _ (by assumption)
   .exact ae (by assumption)
   .exact h
 |block id b ih=>
  intro Q e6 s cx h;refine ih ?_ h;intro e s h;cases e with
  |exit i=>
   simp only[AO]at h⊢;split
   .rename_i e;rw[if_pos e]at h;exact cx _ _ h
   .rename_i e;rw[if_neg e]at h;exact cx _ _ h
  |_=>exact cx _ _ h
 |loop b ih=>
  intro Q e6 s cx h;refine AP (λs h Z AQ=>?_) s h;exact h Z λaH fW=>AQ aH (ih (Ms (λ_ h=>h) cx) fW)
 |exit id=>intro Q e6 s cx h;exact cx _ _ h
 |ret=>intro Q e6 s cx h;exact cx _ _ h
 |ky T b _=>intro Q e6 s cx h dJ ae;exact h dJ λe s he=>ae e s (cx e s he)
 |raw c=>intro Q e6 s cx h;exact h
theorem HH:∀(c:aB) {Q:Exit->ak->Prop} {s:ak},bk C c Q s->bk C c.nf Q s:=by
 intro c;induction c with
 |eu ros keep=>intro Q s h;exact T4 (λs h=>T7 h) h
 |jw ros cT keep=>intro Q s h l aC;exact T5 (λs h=>T7 h) (h l aC)
 |seq a b mi mj=>intro Q s h;exact mi (Mt a (Ms (λs h=>AP (λ_ h=>mj h) s h) (λ_ _ h=>h)) h)
 |cond c a b mi mj=>
  intro Q s h;simp only[aB.nf,bk]at h⊢;split
  .rename_i gM ab;rw[ab]at h;simp only at h;split
   .rename_i e;rw[if_pos e]at h;exact mi h
   .rename_i e;rw[if_neg e]at h;exact mj h
  .rename_i ab;rw[ab]at h;exact⟨mi h.1,mj h.2⟩
  .rename_i ad ae;split at h
   .exact ad _ (by assumption)
   .exact ae (by assumption)
   .exact h
 |block id b ih=>intro Q s h;exact ih h
 |loop b ih=>
  intro Q s h;refine AP (λs h Z AQ=>?_) s h;exact h Z λaH fW=>AQ aH (ih fW)
 |ky T b _=>intro Q s h;exact h
 |_=>intro Q s h;exact h
variable {w0 w:World} {F0 X:Nat->Prop} {n:Fr} {ρ:Nat->Value} {s:ak} {a:Act}
def yD (w0:World) (F0 X:Nat->Prop) (n:Fr) (ρ:Nat->Value) (Q:Exit->ak->Prop):Exit->Act->World->Prop:=λe a w=>∃s,Q e s/\Rel w0 F0 X n ρ s a w
theorem Rel.eJ {K:ak->Prop} {s:ak} {a:Act} {w:World} (aQ:Rel w0 F0 X n ρ s a w) (h:eJ K s):∃aH,K aH/\Rel w0 F0 X n ρ aH a w:=by
 rcases h with h|⟨l,ad,ae⟩
 .exact⟨s,h,aQ⟩
 .obtain⟨g1,g2,g3,F,S,g4⟩:=aQ;obtain⟨cl,aX,g5⟩:=g4.T2 ad;exact⟨aq l,ae,g1,g2,g3,cl,aX,g5⟩
theorem aB.adt {c:aB} (h:c.strip= .skip):c= .skip\/∃T b,c= .ky T b:=by cases c<;>first|exact .inl rfl|exact .inr ⟨_,_,rfl⟩|cases h
theorem aB.adu {c:aB} (h:c.strip= .ret):c= .ret\/∃T b,c= .ky T b:=by cases c<;>first|exact .inl rfl|exact .inr ⟨_,_,rfl⟩|cases h
theorem aB.adv {c:aB} {i:Nat} (h:c.strip= .exit i):c= .exit i\/∃T b,c= .ky T b:=by cases c<;>first|exact .inl h|exact .inr ⟨_,_,rfl⟩|cases h
theorem aB.adw {c:aB} {x:Code} (h:c.strip= .raw x):c= .raw x\/∃T b,c= .ky T b:=by cases c<;>first|exact .inl h|exact .inr ⟨_,_,rfl⟩|cases h
theorem aB.adx {c:aB} {r:List cm} {k:Option axd} (h:c.strip= .eu r k):(∃ros c_,c= .eu ros c_/\ros.map cm.un=r)\/∃T b,c= .ky T b:=by
 cases c<;>first|(cases h;exact .inl ⟨_,_,rfl,rfl⟩)|exact .inr ⟨_,_,rfl⟩|cases h
theorem aB.ady {c:aB} {r:List cm} {cT:axb} {k:Option axd} (h:c.strip= .jw r cT k):(∃ros T8 c_,c= .jw ros T8 c_/\ros.map cm.un=r/\T8=cT)\/∃T b,c= .ky T b:=by
 cases c<;>first|(cases h;exact .inl ⟨_,_,_,rfl,rfl,rfl⟩)|exact .inr ⟨_,_,rfl⟩|cases h
theorem aB.adz {c x y:aB} (h:c.strip= .seq x y):(∃a b,c= .seq a b/\a.strip=x/\b.strip=y)\/∃T b,c= .ky T b:=by
 cases c<;>first|(cases h;exact .inl ⟨_,_,rfl,rfl,rfl⟩)|exact .inr ⟨_,_,rfl⟩|cases h
theorem aB.adA {c x y:aB} {o:bC} (h:c.strip= .cond o x y):(∃p9 a b,c= .cond p9 a b/\p9=o/\a.strip=x/\b.strip=y)\/∃T b,c= .ky T b:=by
 cases c<;>first|(cases h;exact .inl ⟨_,_,_,rfl,rfl,rfl,rfl⟩)|exact .inr ⟨_,_,rfl⟩|cases h
theorem aB.adB {c x:aB} {i:Nat} (h:c.strip= .block i x):(∃a,c= .block i a/\a.strip=x)\/∃T b,c= .ky T b:=by
 cases c<;>first|(cases h;exact .inl ⟨_,rfl,rfl⟩)|exact .inr ⟨_,_,rfl⟩|cases h
theorem aB.adC {c x:aB} (h:c.strip= .loop x):(∃a,c= .loop a/\a.strip=x)\/∃T b,c= .ky T b:=by
 cases c<;>first|(cases h;exact .inl ⟨_,rfl,rfl⟩)|exact .inr ⟨_,_,rfl⟩|cases h
theorem Mu (bK:C.fz) {H:((Exit->ak->Prop)->ak->Prop)->aB->Prop}
  (nA:∀(c:Code) (T:(Exit->ak->Prop)->ak->Prop) (b:aB) (Q:Exit->ak->Prop) (s:ak) (a:Act) (w:World),H T b->fV n c=some b.strip->T Q s->Rel w0 F0 X n ρ s a w->c.wp C.P (yD w0 F0 X n ρ Q) a w):
  ∀(c:Code) {dU:aB} {Q:Exit->ak->Prop} {s:ak} {a:Act} {w:World},fV n c=some dU.strip->dU.bare H->bk C dU Q s->Rel w0 F0 X n ρ s a w->c.wp C.P (yD w0 F0 X n ρ Q) a w:=by
 intro c;induction c with
 |skip=>
  intro dU Q s a w aa iZ h aQ;have ng:=aa;simp only[fV,Option.some.injEq]at aa;rcases aB.adt aa.symm with rfl|⟨T,b,rfl⟩
  .exact wp_skip ⟨s,h,aQ⟩
  .exact nA _ T b Q s a w iZ (by simpa only[aB.strip]using ng) (h Q λ_ _ h=>h) aQ
 |region id ops draw=>
  intro dU Q s a w aa iZ h aQ;have ng:=aa;cases draw with
  |false=>
   simp only[fV]at aa;split at aa
   rotate_left
   .have fW:=(Option.some.injEq _ _▸aa).symm;rcases aB.adw fW with rfl|⟨T,b,rfl⟩
    .exact h.elim
    .exact nA _ T b Q s a w iZ (by simpa only[aB.strip]using ng) (h Q λ_ _ h=>h) aQ
   rename_i adD D8;simp only[Option.some.injEq]at aa;rcases aB.adx aa.symm with⟨ros,k,rfl,rfl⟩|⟨T,b,rfl⟩
   rotate_left
   .exact nA _ T b Q s a w iZ (by simpa only[aB.strip]using ng) (h Q λ_ _ h=>h) aQ
   cases iZ;exact adj bK D8 (λaH dC aL au fh=>fh.eJ au) h aQ
  |true=>
   simp only[fV]at aa;split at aa
   .rename_i ab;simp only[Option.map_eq_some_iff]at aa;obtain⟨adD,D8,aa⟩:=aa;rcases aB.ady aa.symm with⟨ros,cT,k,rfl,rfl,rfl⟩|⟨T,b,rfl⟩
    rotate_left
    .exact nA _ T b Q s a w iZ (by simpa only[aB.strip]using ng) (h Q λ_ _ h=>h) aQ
    cases iZ;refine wp_region_draw λt=>?_;rw[show Region.schedule (C.P.follows .mixedOrders) ops t=Region.linearise .any ops t by simp[Region.schedule,bK.mixed]];exact TU bK D8 (λaH dC aL au fh=>fh.eJ au) _ s a _ (h _ (adq ab t)) (aQ.drawn _ (by first|exact le_succ _|exact le_add_right _ _|omega))
   .cases aa
 |seq x y adE HI=>
  intro dU Q s a w aa iZ h aQ;have ng:=aa;simp only[fV]at aa;split at aa
  .rename_i AD T9 an hy;simp only[Option.some.injEq]at aa;rcases aB.adz aa.symm with⟨e2,oo,rfl,rfl,rfl⟩|⟨T,b,rfl⟩
   rotate_left
   .exact nA _ T b Q s a w iZ (by simpa only[aB.strip]using ng) (h Q λ_ _ h=>h) aQ
   refine wp_seq (wp_mono (adE an iZ.1 h aQ) ?_);rintro e dC aL ⟨aH,bB,fh⟩;cases e with
   |normal=>
    obtain⟨aH,bB,fh⟩:=fh.eJ bB;exact HI hy iZ.2 bB fh
   |_=>exact⟨aH,bB,fh⟩
  .cases aa
 |cond x y z HI T_=>
  intro dU Q s a w aa iZ h aQ;have ng:=aa;simp only[fV]at aa;split at aa
  .rename_i AD T9 sz an hy b9;simp only[Option.some.injEq]at aa;rcases aB.adA aa.symm with⟨e2,oo,uU,rfl,rfl,rfl,rfl⟩|⟨T,b,rfl⟩
   rotate_left
   .exact nA _ T b Q s a w iZ (by simpa only[aB.strip]using ng) (h Q λ_ _ h=>h) aQ
   have fh:=aQ;obtain⟨al,fg,bF,F,S,sc⟩:=fh;have aE:=(gF (a:=a) sc (λ_=>rfl) an).2;simp only[bk]at h;split at h
   .rename_i gM ab;rw[ab]at aE;have:=wK aE;refine wp_cond this ?_;split
    .rename_i e;rw[if_pos e]at h;exact HI hy iZ.1 h aQ
    .rename_i e;rw[if_neg e]at h;exact T_ b9 iZ.2 h aQ
   .rename_i ab;rw[ab]at aE;obtain⟨gM,oO⟩:=SF aE;refine wp_cond oO ?_;split
    .exact HI hy iZ.1 h.1 aQ
    .exact T_ b9 iZ.2 h.2 aQ
   .exact h.elim
  .cases aa
 |block id b ih=>
  intro dU Q s a w aa iZ h aQ;have ng:=aa;simp only[fV,Option.map_eq_some_iff]at aa;obtain⟨DG,ab,aa⟩:=aa;rcases aB.adB aa.symm with⟨gM,rfl,rfl⟩|⟨T,b,rfl⟩
  rotate_left
  .exact nA _ T b Q s a w iZ (by simpa only[aB.strip]using ng) (h Q λ_ _ h=>h) aQ
  refine wp_block (wp_mono (ih ab iZ h aQ) ?_);rintro e dC aL ⟨aH,bB,fh⟩;cases e with
  |exit i=>
   simp only[AO]at bB;simp only[Exit.inBlock];split
   .rename_i e;rw[if_pos e]at bB;exact⟨aH,bB,fh⟩
   .rename_i e;rw[if_neg e]at bB;exact⟨aH,bB,fh⟩
  |_=>exact⟨aH,bB,fh⟩
 |loop b ih=>
  intro dU Q s a w aa iZ h aQ;have ng:=aa;simp only[fV,Option.map_eq_some_iff]at aa;obtain⟨DG,ab,aa⟩:=aa;rcases aB.adC aa.symm with⟨gM,rfl,rfl⟩|⟨T,b,rfl⟩
  rotate_left
  .exact nA _ T b Q s a w iZ (by simpa only[aB.strip]using ng) (h Q λ_ _ h=>h) aQ
  obtain⟨s,h,aQ⟩:=aQ.eJ h;have key:=h (λs=>∀a w,Rel w0 F0 X n ρ s a w->∀(f:Frame) (k:List Item) (cs:List Frame),∃e dC aL,yD w0 F0 X n ρ Q e dC aL/\Arrives C.P (lone (f.at a (.code b:: .inLoop b::k)) cs w) f k cs e dC aL) ?_
  .intro f k cs;obtain⟨e,dC,aL,cx,w1⟩:=key a w aQ f k cs;exact⟨e,dC,aL,cx,.of_steps (.one step_loop) w1⟩
  .intro aH fW a w aQ f k cs;obtain⟨e,a₁,w₁,⟨s1,cx,w2⟩,w1⟩:=ih ab iZ fW aQ f (.inLoop b::k) cs;cases e with
   |normal=>
    simp only[andThen]at cx;obtain⟨s1,cx,w2⟩:=w2.eJ cx;obtain⟨e₂,a₂,w₂,hq₂,harr₂⟩:=cx a₁ w₁ w2 f k cs;exact⟨e₂,a₂,w₂,hq₂,.of_steps (Steps.trans w1 (.one step_inLoop)) harr₂⟩
   |exit id=>exact⟨_,a₁,w₁,⟨s1,cx,w2⟩,.pass (x:=.inLoop b) rfl (λ_ _=>.inl (by simp)) w1⟩
   |goto l=>exact⟨_,a₁,w₁,⟨s1,cx,w2⟩,.pass (x:=.inLoop b) rfl (λ_ _=>.inl (by simp)) w1⟩
   |ret=>exact⟨_,a₁,w₁,⟨s1,cx,w2⟩,.pass (x:=.inLoop b) rfl (λ_ _=>.inl (by simp)) w1⟩
   |panic aud=>exact⟨_,a₁,w₁,⟨s1,cx,w2⟩,.pass (x:=.inLoop b) rfl (λ_ _=>.inl (by simp)) w1⟩
   |outgrown=>exact⟨_,a₁,w₁,⟨s1,cx,w2⟩,.pass (x:=.inLoop b) rfl (λ_ _=>.inl (by simp)) w1⟩
 |exit id=>
  intro dU Q s a w aa iZ h aQ;have ng:=aa;simp only[fV,Option.some.injEq]at aa;rcases aB.adv aa.symm with rfl|⟨T,b,rfl⟩
  .exact wp_exit ⟨s,h,aQ⟩
  .exact nA _ T b Q s a w iZ (by simpa only[aB.strip]using ng) (h Q λ_ _ h=>h) aQ
 |ret=>
  intro dU Q s a w aa iZ h aQ;have ng:=aa;simp only[fV,Option.some.injEq]at aa;rcases aB.adu aa.symm with rfl|⟨T,b,rfl⟩
  .exact wp_ret ⟨s,h,aQ⟩
  .exact nA _ T b Q s a w iZ (by simpa only[aB.strip]using ng) (h Q λ_ _ h=>h) aQ
 |_=>intro dU Q s a w aa;simp[fV]at aa
theorem Ua (bK:C.fz) (c:Code) {dU:aB} {Q:Exit->ak->Prop} {s:ak} {a:Act} {w:World} (aa:fV n c=some dU.strip) (ab:dU.bare (λ_ _=>False)) (h:bk C dU Q s) (aQ:Rel w0 F0 X n ρ s a w):c.wp C.P (yD w0 F0 X n ρ Q) a w:=
 Mu bK (λ_ _ _ _ _ _ _ bF=>bF.elim) c aa ab h aQ
end
def lx:ResultVar->Nat
 | .tmp t=>t
 | .cell a _=>a
def tD (C:cj) (s:ak):ResultVar->Option I
 | .tmp t=>if(s t).tree=true then(match s t with| .tuple _=>none|d=>some d)else none
 | .cell a T=>match s a with
   | .aM d=>if fits C T d=true/\d.tree=true then some d else none
   |_=>none
def Mv (C:cj) (fx:axd) (fI:List ResultVar) (r:I) (outs:axi) (s:ak):Prop:=
 ∃ds,fI.map (tD C s)=ds.map some/\r=(match ds with|[d]=>d|ds=>.tuple ds)/\(fI.map lx).Nodup/\
  ∀(i:Nat) (o:I),outs[i]? =some o->o= .hole\/(o=s i/\o.hB=true/\i∈fx/\i∉fI.map lx)
def Ends (C:cj) (fx:axd) (fI:List ResultVar) (r:I) (outs:axi) (s:ak):Prop:=
 Mv C fx fI r outs s\/∃t y q d s1,s t= .h y q/\dw s (.h y q)=some (d,s1)/\Mv C fx fI r outs (fin s1 (some t) d)
theorem b8.takes {w0 w:World} {F0 X F:Nat->Prop} {S:Nat->Nat->Prop} {s s1:ak} {aG:Nat->Value} {t y:Nat} {q:axd} {d:I} (aQ:b8 w0 F0 X F S s aG w) (ad:s t= .h y q) (ae:dw s (.h y q)=some (d,s1)):
  ∃aX,b8 w0 F0 X F aX (ef.fin s1 (some t) d) aG w:=by
 have aa:=aQ.ew t;rw[ad,aO]at aa;obtain⟨cA,k0,bX,cN,Sn,dH,dT,eG,eg,kt,_⟩:=rW aQ (av:=.h y q) (v:=aG t) rfl (by rw[aO];exact aa) ae;obtain⟨aX,bB⟩:=k0.fin (.inr ⟨bX,cN,Sn,dH,dT,eG,eg,kt⟩) (some t);refine⟨aX,?_⟩;have e:p3 aG (some t) (aG t)=aG:=by
  funext u;simp only[p3,et];split
  .rename_i h;rw[h]
  .rfl
 rwa [e]at bB
section
variable {C:cj} {w0 w:World} {F0 X F:Nat->Prop} {S:Nat->Nat->Prop} {s:ak} {tmps:Array Value}
theorem Ub {d:I} {x:Value} (al:∀vs,d≠.tuple vs) (h:eM d x):c8 x=je x/\jM d x:=by
 have:jM d x:=by cases d<;>first|exact h|exact(al _ rfl).elim
 refine⟨?_,this⟩;cases d<;>first
  |(obtain⟨a,rfl⟩:=this;rfl)
  |(simp only[jM]at this
    rw[ib this];cases x<;>first|rfl|(simp[Value.hE]at this))
def D9 (tmps:Array Value):ResultVar->Sem Value
 | .tmp t=>pure (tmps.getD t undef)
 | .cell a t=>do loadVar t (<-asAddr (tmps.getD a undef))
theorem adF (bK:C.fz) (h:b8 w0 F0 X F S s (λt=>tmps.getD t undef) w) {v:ResultVar} {d:I} (aE:tD C s v=some d):
  ∃x,(D9 tmps v).run C.P w= .ok x w/\d.tree=true/\(∀vs,d≠.tuple vs)/\eM d x/\aA w F d (c8 x) (S (lx v)):=by
 cases v with
 |tmp t=>
  simp only[tD]at aE;split at aE
  .rename_i aZ;have ny:(∀vs,s t≠.tuple vs)/\d=s t:=by
    cases aa:s t<;>rw[aa]at aE<;>simp only at aE<;>first
     |(cases aE;done)
     |(simp only[Option.some.injEq]at aE;exact⟨(λ_ h=>by cases h),aE.symm⟩)
   obtain⟨ny,rfl⟩:=ny;obtain⟨g1,g2⟩:=(aO.dk aZ).1 (h.ew t);exact⟨_,by simp[D9],aZ,ny,g1,g2⟩
  .cases aE
 |cell a T=>
  simp only[tD]at aE;split at aE
  .rename_i e aa;split at aE
   .rename_i adG;obtain⟨j4,adH⟩:=adG;simp only[Option.some.injEq]at aE;subst aE;have k5:=h.ew a;rw[aa]at k5;obtain⟨g1,g2⟩:=(aO.dk (d:=.aM e) rfl).1 k5;rw[ib g1,aA]at g2;obtain⟨b,cur,ty,fr,aX,bX,cN,dH,dT,eG,eg,kt⟩:=g2;simp only[List.cons.injEq,and_true]at bX;have mc:jc w b 0 cur.toList:=by
     have:=Ao dH cur.size
     rwa [List.take_of_length_le (by simp)]at this
    obtain⟨x,ea,bf,de⟩:=Hf (C:=C) bK mc eG j4;refine⟨x,?_,adH,?_,de,?_⟩
    .simp only[D9];rw[bX];simpa [asAddr]using ea
    .intro vs hd;subst hd;unfold fits at j4;split at j4<;>simp_all
    .rw[bf];exact aA.mono (λ_ h=>h) _ _ _ _ eg eG
   .cases aE
  .cases aE
theorem adI (bK:C.fz) (h:b8 w0 F0 X F S s (λt=>tmps.getD t undef) w):∀(fI:List ResultVar) (ds:axi),fI.map (tD C s)=ds.map some->(fI.map lx).Nodup->
  ∃xs,(fI.mapM (D9 tmps)).run C.P w= .ok xs w/\xs.length=ds.length/\bx w F ds (xs.flatMap je) (λb=>∃t∈fI.map lx,S t b)/\
   ∀(k:Nat) (d:I) (x:Value),ds[k]? =some d->xs[k]? =some x->eM d x/\(∀vs,d≠.tuple vs)/\(je x).length=d.wd/\c8 x=je x/\d.tree=true:=by
 intro fI;induction fI with
 |nil=>
  intro ds he _;have:ds=[]:=by simpa using he.symm
  subst this;exact⟨[],by simp,rfl,by simp only[List.flatMap_nil];rw[bx],λk d x al=>by simp at al⟩
 |cons v fI ih=>
  intro ds he AR;cases ds with
  |nil=>simp at he
  |cons d ds=>
   simp only[List.map_cons,List.cons.injEq]at he;simp only[List.map_cons,List.nodup_cons]at AR;obtain⟨x,ea,rt,bf,de,bR⟩:=adF bK h he.1;obtain⟨xs,hj,gO,iJ,jN⟩:=ih ds he.2 AR.2;obtain⟨aN,aU⟩:=Ub bf de;refine⟨x::xs,by simp[List.mapM_cons,ea,hj],by simp[gO],?_,?_⟩
   .simp only[List.flatMap_cons];rw[bx];rw[aN]at bR;refine⟨je x,xs.flatMap je,S (lx v),λb=>∃t∈fI.map lx,S t b,rfl,bR,iJ,λb ab=>⟨lx v,by simp,ab⟩,?_,?_⟩
    .rintro b ⟨t,aZ,ab⟩;exact⟨t,by simp[aZ],ab⟩
    .rintro b ab ⟨t,aZ,oO⟩;have:t≠lx v:=λe=>AR.1 (e▸aZ);exact h.gE t (lx v) b this oO ab
   .intro k bI e2 al an;cases k with
    |zero=>
     simp at al an;subst al an;refine⟨de,bf,?_,aN,rt⟩;rw[<-aN];exact aA.length _ _ _ bR
    |succ k=>exact jN k bI e2 (by simpa using al) (by simpa using an)
theorem Mw (bK:C.fz) {f:FuncId} {fn:Func} {c:Code} {fx:axd} {as outs:axi} {r:I} (bF:C.P.funcs[f]? =some fn) (ab:fn.body=some c)
  (ml:(fn.name== "runtime.NumGoroutine")=false) (aS:as.length<=fn.ntmps)
  {w:World} {F X:Nat->Prop} {S:Nat->Nat->Prop} {vs:axg} (aC:vs.length=as.length) (aQ:b8 w F X F S (gp as) (h3 vs) w)
  (Mx:∀a,Rel w F X ⟨fn.ntmps,fx⟩ (h3 vs) (gp as) a w->(∀t,a.tmps.getD t undef=h3 vs t)->c.wp C.P (yD w F X ⟨fn.ntmps,fx⟩ (h3 vs) (λe s=>(e= .normal\/e= .ret)/\eJ (Ends C fx fn.results.toList r outs) s)) a w):
  r_ C.P f vs.toArray w λv aL=>∃cl aX,b8 w F X cl aX (gp (r::outs)) (h3 (v::vs)) aL:=by
 have qR:(vs.toArray++Array.replicate (fn.ntmps-vs.toArray.size) undef).size=fn.ntmps:=by simp;omega
 have e_:(λt=>(vs.toArray++Array.replicate (fn.ntmps-vs.toArray.size) undef).getD t undef)=h3 vs:=by
  funext t;simp only[h3,Array.getD_eq_getD_getElem?,List.getD_eq_getElem?_getD];by_cases aZ:t<vs.length
  .rw[Array.getElem?_append_left (by simpa using aZ)];simp
  .rw[Array.getElem?_append_right (by simpa using aZ)];rw[List.getElem?_eq_none (by omega)];simp only[Array.getElem?_replicate];split<;>rfl
 have sc:Rel w F X ⟨fn.ntmps,fx⟩ (h3 vs) (gp as) {tmps:=vs.toArray++Array.replicate (fn.ntmps-vs.toArray.size) undef,defers:=[]} w:=
  ⟨rfl,qR,λi _=>congrFun e_ i,F,S,by rw[e_];exact aQ⟩
 have My:fn.name≠ "runtime.NumGoroutine" :=by simpa using ml
 refine .inl ⟨by simp[callFunc,bF,My,ab],calls_of_wp bF ab (wp_mono (Mx _ sc (congrFun e_)) ?_)⟩;rintro e dC aL ⟨aH,⟨he,adJ⟩,adK⟩;obtain⟨aH,⟨ds,lv,Uc,AR,yc⟩,al,fg,jQ,cl,aX,fh⟩:∃aH,Mv C fx fn.results.toList r outs aH/\Rel w F X ⟨fn.ntmps,fx⟩ (h3 vs) aH dC aL:=by
  obtain⟨aH,he,w3⟩:=adK.eJ adJ;rcases he with he|⟨t,y,q,d,s1,ad,ae,he⟩
  .exact⟨aH,he,w3⟩
  .obtain⟨g1,g2,g3,F,S,g4⟩:=w3;obtain⟨aX,g5⟩:=g4.takes ad ae;exact⟨_,he,g1,g2,g3,F,aX,g5⟩
 obtain⟨xs,hj,gO,iJ,jN⟩:=adI bK fh _ ds lv AR;have adL:(results fn dC.tmps)=(do let vs<-fn.results.mapM (D9 dC.tmps);pure (if h:vs.size=1 then vs[0]else .tuple vs)):=by
  unfold results;congr 1
 have yh:(results fn dC.tmps).run C.P aL= .ok (if h:xs.toArray.size=1 then xs.toArray[0]else .tuple xs.toArray) aL:=by
  rw[adL,Array.mapM_eq_mapM_toList];simp[hj]
 have tE:(r.tree=true/\eM r (if h:xs.toArray.size=1 then xs.toArray[0]else .tuple xs.toArray)/\
   aA aL cl r (c8 (if h:xs.toArray.size=1 then xs.toArray[0]else .tuple xs.toArray)) (λb=>∃t∈fn.results.toList.map lx,aX t b)):=by
  by_cases ad:∃d,ds=[d]
  .obtain⟨d,rfl⟩:=ad;obtain⟨x,rfl⟩:∃x,xs=[x]:=by
    cases xs with
    |nil=>simp at gO
    |cons x xs=>cases xs with
     |nil=>exact⟨x,rfl⟩
     |cons y cL=>simp at gO
   obtain⟨bX,cN,dH,dT,eG⟩:=jN 0 d x rfl rfl;have adM:d=r:=Uc.symm;subst adM;simp only[List.flatMap_cons,List.flatMap_nil,List.append_nil]at iJ;rw[bx]at iJ;obtain⟨cz,c2,cA,eI,aN,aU,aR,bW,cM,cg⟩:=iJ;rw[bx]at aR;subst aR;simp only[List.append_nil]at aN;subst aN;have an:(if h:([x]:axg).toArray.size=1 then([x]:axg).toArray[0]else .tuple ([x]:axg).toArray)=x:=by simp
   rw[an,dT];exact⟨eG,bX,aA.mono (λ_ h=>h) _ _ _ _ bW aU⟩
  .have HJ:r= .tuple ds:=by
    rw[Uc];cases ds with
    |nil=>rfl
    |cons d ds=>cases ds with
     |nil=>exact(ad ⟨d,rfl⟩).elim
     |cons e ds=>rfl
   have an:(if h:xs.toArray.size=1 then xs.toArray[0]else Value.tuple xs.toArray)= .tuple xs.toArray:=by
    rw[dif_neg];intro fg;have:ds.length=1:=by rw[<-gO];simpa using fg
    obtain⟨d,al⟩:=List.length_eq_one_iff.1 this;exact ad ⟨d,al⟩
   rw[an,HJ];refine⟨rfl,⟨xs.toArray,rfl,by simpa using gO,λk d x al an=>?_⟩,?_⟩
   .obtain⟨bX,cN,dH,dT,_⟩:=jN k d x al (by simpa using an);exact⟨(Ub cN bX).2,cN,dH⟩
   .rw[aA];simpa [c8]using iJ
 have post:∀(v:Value),(r.tree=true/\eM r v/\aA aL cl r (c8 v) (λb=>∃t∈fn.results.toList.map lx,aX t b))->∃AK cA,b8 w F X AK cA (gp (r::outs)) (h3 (v::vs)) aL:=by
  rintro v ⟨v1,v2,v3⟩;have Mz:∀i,(outs.getD i .hole).hB=true->outs.getD i .hole=aH i/\i∈fx/\i∉fn.results.toList.map lx:=by
   intro i ag;cases bH:outs[i]? with
   |none=>simp[List.getD,bH,I.hB]at ag
   |some o=>
    have e:outs.getD i .hole=o:=by simp[List.getD,bH]
    rw[e]at ag⊢;rcases yc i o bH with h|h
    .subst h;simp[I.hB]at ag
    .exact⟨h.1,h.2.2⟩
  refine⟨cl,λt b=>match t with|0=>∃t∈fn.results.toList.map lx,aX t b|i+1=>(outs.getD i .hole).hB=true/\aX i b,fh.iI,fh.jg,fh.gN,?_,?_,?_,?_,?_,fh.old,fh.size,fh.os,fh.tape,fh.output,aQ.gS⟩
  .intro t b ab;cases t with
   |zero=>obtain⟨t,_,ab⟩:=ab;exact fh.fN t b ab
   |succ i=>exact fh.fN i b ab.2
  .intro t b ab;cases t with
   |zero=>obtain⟨t,_,ab⟩:=ab;exact fh.hf t b ab
   |succ i=>exact fh.hf i b ab.2
  .intro t u b dQ ab hu;cases t with
   |zero=>
    obtain⟨t,aZ,ab⟩:=ab;cases u with
    |zero=>exact dQ rfl
    |succ j=>
     refine fh.gE t j b (λe=>?_) ab hu.2;subst e;exact(Mz t hu.1).2.2 aZ
   |succ i=>
    cases u with
    |zero=>
     obtain⟨t,aZ,hu⟩:=hu;refine fh.gE t i b (λe=>?_) hu ab.2;subst e;exact(Mz t ab.1).2.2 aZ
    |succ j=>exact fh.gE i j b (by omega) ab.2 hu.2
  .intro t b ab;cases t with
   |zero=>obtain⟨t,_,ab⟩:=ab;exact fh.eS t b ab
   |succ i=>exact fh.eS i b ab.2
  .intro t;cases t with
   |zero=>exact(aO.dk v1).2 ⟨v2,v3⟩
   |succ i=>
    show aO aL cl (gp (r::outs)) (h3 (v::vs)) (outs.getD i .hole) (vs.getD i undef) (λb=>(outs.getD i .hole).hB=true/\aX i b);cases ag:(outs.getD i .hole).hB with
    |false=>
     have:outs.getD i .hole= .hole:=by
      cases bH:outs[i]? with
      |none=>simp[List.getD,bH]
      |some o=>
       have e:outs.getD i .hole=o:=by simp[List.getD,bH]
       rw[e]at ag⊢;rcases yc i o bH with h|h
       .exact h
       .rw[h.2.1]at ag;cases ag
     rw[this,aO];trivial
    |true=>
     obtain⟨qa,nz,r9⟩:=Mz i ag;have aZ:=(wV ag).2.1;have k5:=fh.ew i;rw[<-qa]at k5;obtain⟨g1,g2⟩:=(aO.dk aZ).1 k5;have aE:dC.tmps.getD i undef=vs.getD i undef:=jQ i nz;rw[aE]at g1 g2;exact(aO.dk aZ).2 ⟨g1,aA.mono (λ_ h=>h) _ _ _ _ (λb ab=>⟨rfl,ab⟩) g2⟩
 rcases he with rfl|rfl
 .exact⟨al,_,yh,_,rfl,post _ tE⟩
 .exact⟨al,_,yh,_,rfl,post _ tE⟩
theorem aV.of_wp (bK:C.fz) {f:FuncId} {fn:Func} {c:Code} {dU:aB} {fx:axd} {as outs:axi} {r:I} (bF:C.P.funcs[f]? =some fn) (ab:fn.body=some c)
  (ml:(fn.name== "runtime.NumGoroutine")=false) (aa:fV ⟨fn.ntmps,fx⟩ c=some dU.strip) (aS:as.length<=fn.ntmps)
  (h:bk C dU (λe s=>(e= .normal\/e= .ret)/\eJ (Ends C fx fn.results.toList r outs) s) (gp as)) (ax:dU.plain=true:=by kernel_rfl):aV C f as r outs:=
 λw F X S vs aC aQ=>Mw bK bF ab ml aS aC aQ λa sc _=>Ua bK c (by rw[aB.Mr];exact aa) (aB.HF dU (aB.T3 dU ax)) (HH dU h) sc
end
def num:Nat->axi->axh
 |_,[]=>[]
 |k,a::as=>(k,a)::num (k+1) as
theorem adN:∀(as:axi) (k t:Nat),aq (num k as) (k+t)=as.getD t .hole:=by
 intro as;induction as with
 |nil=>intro k t;simp[num,aq]
 |cons a as ih=>
  intro k t;cases t with
  |zero=>simp[num,aq]
  |succ t=>
   have:=ih (k+1) t;simp only[num,aq];rw[if_neg (by omega)];rw[show k+(t+1)=k+1+t by omega,this];simp
theorem HK (as:axi):gp as=aq (num 0 as):=by
 funext t;have:=adN as 0 t;rw[Nat.zero_add]at this;rw[this];rfl
theorem HL (l:axh) (t:Nat) (d:I):et (aq l) t d=aq ((t,d)::l):=by
 funext u;simp only[et,aq]
def u6 (t:Nat):axh->axh
 |[]=>[]
 |(u,d)::l=>(u,dq t d)::u6 t l
def yE (t:Nat):axh->axh
 |[]=>[]
 |(u,d)::l=>(u,cK t d)::yE t l
theorem MA (t:Nat):∀l:axh,om t (aq l)=aq (u6 t l):=by
 intro l;funext u;induction l with
 |nil=>rfl
 |cons p l ih=>
  obtain⟨v,d⟩:=p;simp only[om,aq,u6]at ih⊢;split
  .rfl
  .exact ih
theorem adO (t:Nat):∀l:axh,iW t (aq l)=aq (yE t l):=by
 intro l;funext u;induction l with
 |nil=>rfl
 |cons p l ih=>
  obtain⟨v,d⟩:=p;simp only[iW,aq,yE]at ih⊢;split
  .rfl
  .exact ih
def hk (k:axd) (s:ak):axh:=k.map λt=>(t,s t)
section
variable {C:cj} {l:axh}
def eT.jx:eT->Bool
 | .call _ _=>true
 | .hS _=>false
 | .h2 _=>false
 | .pick _ _ _=>false
 | .mE _=>false
 | .iY _ _=>false
 | .gx _ _=>false
 | .dO _ _ _=>false
 | .fO _ _=>false
 | .kI _ _ _=>false
 | .mf _=>false
 | .eN _ _ _ _=>false
 | .un _ _=>false
 | .kL _ _ _=>false
 | .pv _ _=>false
 | .fv _ _ _=>false
 | .ix _ _ _ _=>false
 | .hK _ _ _=>false
 | .ks _ _ _=>false
 | .idx _ _ _=>false
 | .ex _ _=>false
 | .oV _ _ _=>false
 | .len _ _=>false
 | .app _ _ _ _=>false
 | .shr _=>true
 | .cap _ _=>false
 | .ku _ _ _=>false
 | .bad=>false
 | .pw _=>false
 | .oZ _=>false
 | .r4=>false
 | .jt _ _ _=>false
 | .kM _ _ _ _=>false
variable {Q:Exit->ak->Prop}
def I.D_:I->Bool
 | .tuple _=>true
 |_=>false
theorem Ends.one {fx:axd} {t:Nat} {r:I} {s:ak} (ad:s t=r) (ae:(r.tree&& !r.D_)=true):Ends C fx [.tmp t] r [] s:=by
 simp only[Bool.and_eq_true,Bool.not_eq_true']at ae;obtain⟨ae,HM⟩:=ae;have aI:∀vs,r≠.tuple vs:=λvs e=>by subst e;simp[I.D_]at HM
 refine .inl ⟨[r],?_,rfl,by simp,λi o h=>by simp at h⟩;have:tD C s (.tmp t)=some r:=by
  simp only[tD,ad,ae,if_true];try (cases r<;>first|rfl|exact(aI _ rfl).elim)
 simp only[List.map_cons,List.map_nil,this]
end
section
variable {C:cj} {l:axh} {Q:Exit->ak->Prop}
theorem aV.outs {f:FuncId} {as:axi} {r:I} {qa nz:axi} (h:aV C f as r qa) (he:gp qa=gp nz):aV C f as r nz:=by
 intro w F X S vs aC aQ;refine r_.mono (h w F X S vs aC aQ) ?_;rintro v aL ⟨cl,aX,bB⟩;refine⟨cl,aX,?_⟩;have:gp (r::nz)=gp (r::qa):=by
  funext t;cases t with
  |zero=>rfl
  |succ t=>exact(congrFun he t).symm
 rw[this];exact bB
def o2:axi->axi->List dm
 |a::as,d::ds=>⟨a,false,d,.hole⟩::o2 as ds
 |_,_=>[]
theorem adP {s:ak}:∀(as ds:axi),views s as=some ds->(o2 as ds).map (·.a)=as/\(o2 as ds).map (·.d)=ds/\(∀p∈o2 as ds,p.ok s/\p.g=false/\p.o= .hole/\p.a∈as)/\j9 (o2 as ds)=true/\
  gp ((o2 as ds).map (·.o))=gp []/\(∀u7,gn u7 (o2 as ds)=u7)/\(∀u7,jO u7 (o2 as ds)=u7):=by
 intro as;induction as with
 |nil=>
  intro ds h;simp only[views,Option.some.injEq]at h;subst h;exact⟨rfl,rfl,(λp ax=>by cases ax),rfl,rfl,λ_=>rfl,λ_=>rfl⟩
 |cons a as ih=>
  intro ds h;simp only[views]at h;split at h
  .rename_i d adQ ad ae;simp only[Option.some.injEq]at h;subst h;obtain⟨aN,aU,aR,bW,cM,cg,b3⟩:=ih adQ ae;refine⟨by simp only[o2,List.map_cons,aN],by simp only[o2,List.map_cons,aU],?_,?_,?_,?_,?_⟩
   .intro p ax;simp only[o2,List.mem_cons]at ax;rcases ax with rfl|ax
    .exact⟨by simp only[dm.ok];exact ad,rfl,rfl,by simp⟩
    .obtain⟨g1,g2,g3,g4⟩:=aR p ax;exact⟨g1,g2,g3,by simp[g4]⟩
   .simp only[o2,j9,bW,Bool.and_true,List.all_eq_true];intro p ax;simp[(aR p ax).2.1]
   .funext t;cases t with
    |zero=>rfl
    |succ t=>exact(congrFun cM t).trans (by simp[gp])
   .intro u7;exact cg u7
   .intro u7;exact b3 u7
  .cases h
end
structure fJ where
 dI:axd
 H:axd
 T:axd
 c:Bool
mutual
def I.clean:I->Bool
 | .hole=>false
 | .fn _ cap=>I.AU cap
 |_=>true
def I.AU:axi->Bool
 |[]=>true
 |d::ds=>d.clean&&I.AU ds
end
mutual
theorem Ud {x:Nat}:∀a:I,(cK x a).clean=true->cK x a=a
 | .h y q,h=>by
   simp only[cK]at h⊢;split
   .rename_i e;rw[if_pos e]at h;split
    .rfl
    .rename_i hd;rw[if_neg hd]at h;simp[I.clean]at h
   .rfl
 | .ax y q,h=>by
   simp only[cK]at h⊢;split
   .rename_i e;rw[if_pos e]at h;simp[I.clean]at h
   .rfl
 | .ab y q,h=>rfl
 | .fn f cap,h=>by simp only[cK,I.clean]at h⊢;rw[Ue cap h]
 | .hole,_=>rfl
 | .bool _,_=>rfl
 | .gw,_=>rfl
 | .int _ _,_=>rfl
 | .str _,_=>rfl
 | .en,_=>rfl
 | .a8,_=>rfl
 | .slice _,_=>rfl
 | .aj _ _,_=>rfl
 | .ref _,_=>rfl
 | .aM _,_=>rfl
 | .agg _,_=>rfl
 | .tuple _,_=>rfl
 | .b4 _,_=>rfl
theorem Ue {x:Nat}:∀ds:axi,I.AU (kr x ds)=true->kr x ds=ds
 |[],_=>rfl
 |d::ds,h=>by
  simp only[kr,I.AU,Bool.and_eq_true]at h⊢;rw[Ud d h.1,Ue ds h.2]
end
mutual
theorem Uf {x:Nat}:∀a:I,(dq x a).clean=true->dq x a=a
 | .h y q,h=>by
   simp only[dq]at h⊢;split
   .rename_i e;rw[if_pos e]at h;simp[I.clean]at h
   .rfl
 | .ax y q,h=>by
   simp only[dq]at h⊢;split
   .rename_i e;rw[if_pos e]at h;simp[I.clean]at h
   .rfl
 | .ab y q,h=>by
   simp only[dq]at h⊢;split
   .rename_i e;rw[if_pos e]at h;simp[I.clean]at h
   .rfl
 | .fn f cap,h=>by simp only[dq,I.clean]at h⊢;rw[Ug cap h]
 | .hole,_=>rfl
 | .bool _,_=>rfl
 | .gw,_=>rfl
 | .int _ _,_=>rfl
 | .str _,_=>rfl
 | .en,_=>rfl
 | .a8,_=>rfl
 | .slice _,_=>rfl
 | .aj _ _,_=>rfl
 | .ref _,_=>rfl
 | .aM _,_=>rfl
 | .agg _,_=>rfl
 | .tuple _,_=>rfl
 | .b4 _,_=>rfl
theorem Ug {x:Nat}:∀ds:axi,I.AU (k2 x ds)=true->k2 x ds=ds
 |[],_=>rfl
 |d::ds,h=>by
  simp only[k2,I.AU,Bool.and_eq_true]at h⊢;rw[Uf d h.1,Ug ds h.2]
end
theorem adR {k:tw} {x:Nat} {a:I} (h:(k.app x a).clean=true):k.app x a=a:=by
 cases k with
 |no=>rfl
 |cK=>exact Ud a h
 |dq=>exact Uf a h
theorem adS:∀(ms:List hT) (u:Nat) (a:I),(∀m∈ms,m.x≠u)->(mg ms u a).clean=true->mg ms u a=a:=by
 intro ms;induction ms with
 |nil=>intros;rfl
 |cons m ms ih=>
  intro u a an ar;simp only[mg]at ar⊢;have e:=ih u _ (λjs yF=>an js (by simp[yF])) ar;have hm:m.at u a=m.k.app m.x a:=by
   simp only[hT.at];rw[if_neg (λe=>an m (by simp) e.symm)]
  rw[e,hm];rw[e,hm]at ar;exact adR ar
theorem adT:∀(ms:List hT) (u:Nat) (a:I),(∀m∈ms,m.x≠u/\m.x∉a.aa)->mg ms u a=a:=by
 intro ms;induction ms with
 |nil=>intros;rfl
 |cons m ms ih=>
  intro u a an;simp only[mg];have hm:m.at u a=a:=by
   simp only[hT.at];rw[if_neg (λe=>(an m (by simp)).1 e.symm)];exact DP (.inr (an m (by simp)).2)
  rw[hm];exact ih u a λjs yF=>an js (by simp[yF])
theorem adU (m:hT):∀(ms:List hT) (u:Nat) (a:I),(∀js∈ms,js.x≠m.x/\js.x∉m.d.aa/\m.x∉js.d.aa)->mg ms u (m.at u a)=m.at u (mg ms u a):=by
 intro ms;induction ms with
 |nil=>intros;rfl
 |cons n ms ih=>
  intro u a an;simp only[mg];have aS:=an n (by simp);have ar:n.at u (m.at u a)=m.at u (n.at u a):=by
   simp only[hT.at];by_cases aN:u=n.x
   .subst aN;rw[if_pos rfl,if_neg aS.1,if_pos rfl];exact(DP (.inr aS.2.2)).symm
   .rw[if_neg aN];by_cases aU:u=m.x
    .subst aU;rw[if_pos rfl,if_pos rfl];exact DP (.inr aS.2.1)
    .rw[if_neg aU,if_neg aN,if_neg aU];exact acy _ _ _ _ _
  rw[ar];exact ih u _ λjs yF=>an js (by simp[yF])
theorem adV:∀(ms lT:List hT) (s:ak),(∀m∈ms,∀n∈lT,n.x≠m.x/\n.x∉m.d.aa/\m.x∉n.d.aa)->eO lT (eO ms s)=eO ms (eO lT s):=by
 intro ms;induction ms with
 |nil=>intros;rfl
 |cons m ms ih=>
  intro lT s h;have e:∀s,eO (m::ms) s=eO ms (eO [m] s):=λs=>p_ [m] ms s;rw[e,e,ih lT _ (λjs yF=>h js (by simp[yF]))];congr 1;funext u;simp only[eO,mg];exact adU m lT u _ (h m (by simp))
def adW (C:cj) (s:ak) (f:bC) (args:List bC) (K:axd->I->ak->Prop):Prop:=
 ∃(g:FuncId) (caps:axi) (ps:List dm) (r:I),bw s f= .fn g caps/\I.hz caps=true/\ps.map (·.a)=args.map (bw s)++caps/\(∀p∈ps,p.ok s)/\j9 ps=true/\
   aV C g (ps.map (·.d)) r (ps.map (·.o))/\r.res=true/\(mG ps=true->r.cZ=true/\∀p∈ps,p.o.cZ=true)/\K (I.fo ((ps.filter (·.g)).map (·.a))) r (jO (gn s ps) ps)
def qY (C:cj) (s:ak) (bS:eT) (K:axd->I->ak->Prop):Prop:=
 match bS with
 | .call f args=>∃(g:FuncId) (caps:axi) (ps:List dm) (r:I),bw s f= .fn g caps/\I.hz caps=true/\ps.map (·.a)=args.map (bw s)++caps/\(∀p∈ps,p.ok s)/\j9 ps=true/\
   aV C g (ps.map (·.d)) r (ps.map (·.o))/\r.res=true/\(mG ps=true->r.cZ=true/\∀p∈ps,p.o.cZ=true)/\K (I.fo ((ps.filter (·.g)).map (·.a))) r (jO (gn s ps) ps)
 | .shr bS=>∃av s1,b7 C s bS=some (av,s1)/\av.tree=true/\(∀vs,av≠.tuple vs)/\K (lU s bS) av.share s1
 |bS=>∃av s1,b7 C s bS=some (av,s1)/\K (lU s bS) av s1
def kz (s:ak) (dI:axd) (dst:Option Nat) (dw:axd) (av:I):fJ:=
 ⟨dI,dI.flatMap (λu=>(s u).aa)++av.aa,dst.toList++dw,dI.all λu=>(s u).clean⟩
def o3 (C:cj) (s:ak) (o:cm) (K:fJ->ak->Prop):Prop:=
 match o.guard with
 |none=>qY C s o.bS λdw av s1=>K (kz s (use s o.bS) o.dst dw av) (fin s1 o.dst av)
 |some (t,b)=>match s t with
  | .bool gM=>if gM=b then qY C s o.bS (λdw av s1=>K (kz s (t::use s o.bS) o.dst dw av) (fin s1 o.dst av))else K (kz s [t] o.dst [] (.tuple [])) (fin s o.dst (.tuple []))
  | .tuple []=>K (kz s [t] o.dst [] (.tuple [])) (fin s o.dst (.tuple []))
  |_=>False
def tF:Option (List fJ)->fJ->Option (List fJ)
 |none,_=>none
 |some l,f=>some (f::l)
def dA (C:cj) (s:ak):List cm->Option (List fJ)->(Option (List fJ)->ak->Prop)->Prop
 |[],acc,K=>K acc s
 |o::os,acc,K=>o3 C s o λf s1=>dA C s1 os (tF acc f) K
section
variable {C:cj}
theorem Uh {s:ak} {bS:eT} {K:axd->I->ak->Prop} {ev:I->ak->Prop} (au:∀dw av s,K dw av s->ev av s) (h:qY C s bS K):qU C s bS ev:=by
 cases bS with
 |call f args=>
  obtain⟨g,caps,ps,r,ad,j_,ae,aI,bc,bY,dt,dv,hN⟩:=h;exact⟨g,caps,ps,r,ad,j_,ae,aI,bc,bY,dt,dv,au _ _ _ hN⟩
 |shr bS=>
  obtain⟨av,s1,ad,ae,aI,bc⟩:=h;exact⟨av,s1,ad,ae,aI,au _ _ _ bc⟩
 |_=>
  obtain⟨av,s1,ad,ae⟩:=h;exact⟨av,s1,ad,au _ _ _ ae⟩
theorem adX {s:ak} {o:cm} {K:fJ->ak->Prop} {ev:ak->Prop} (au:∀f s,K f s->ev s) (h:o3 C s o K):ov C s o ev:=by
 unfold o3 at h;unfold ov;split
 .rename_i hg;rw[hg]at h;exact Uh (λ_ _ _=>au _ _) h
 .rename_i t b hg;rw[hg]at h;simp only at h;split
  .rename_i gM aa;rw[aa]at h;simp only at h;split
   .rename_i ab;rw[if_pos ab]at h;exact Uh (λ_ _ _=>au _ _) h
   .rename_i ab;rw[if_neg ab]at h;exact au _ _ h
  .rename_i aa;rw[aa]at h;exact au _ _ h
  .rename_i ad ae;split at h
   .exact ad _ (by assumption)
   .exact ae (by assumption)
   .exact h
theorem yG {K:ak->Prop}:∀{ros:List cm} {s:ak} {acc:Option (List fJ)} {ev:Option (List fJ)->ak->Prop},(∀a s,ev a s->K s)->dA C s ros acc ev->nV C s ros K:=by
 intro ros;induction ros with
 |nil=>intro s acc ev au h;exact au _ _ h
 |cons o ros ih=>intro s acc ev au h;exact adX (λf s h=>ih au h) h
theorem Ui {q:axd} {a d:I} (h:I.sub q a=some d) (cx:q≠[]\/d.aa=[]):a.aa=[]:=by
 cases q with
 |nil=>
  simp only[I.sub,Option.some.injEq]at h;subst h;exact cx.resolve_left (λe=>e rfl)
 |cons k q=>cases a<;>first|rfl|(simp[I.sub]at h)
def HN (s:ak) (p:dm) (e:I->Prop):Prop:=p.g=true->∃x q d,p.a= .h x q/\I.sub q (s x)=some d/\e d/\(p.o= .hole\/p.o.hB=true)
theorem Uj {d:I} (h:d.hB=true):d.aa=[]:=TJ (wV h).2.1
theorem Uk {d:I} (h:d.hB=true):d.dN.aa=[]:=by cases d<;>first|rfl|(simp[I.hB]at h)
theorem Ul {p:dm} {ps:List dm} (h:j9 (p::ps)=true):j9 ps=true/\∀da∈ps,(p.g=true\/da.g=true)->∀u∈p.a.aa,u∉da.a.aa:=by
 simp only[j9,Bool.and_eq_true,List.all_eq_true,Bool.or_eq_true,Bool.not_eq_true']at h;refine⟨h.2,λda fj hg u hu=>?_⟩;rcases h.1 da fj with e|e
 .rcases hg with hg|hg<;>simp[hg]at e
 .simpa using e u hu
def u9 (ps:List dm):axd:=I.fo ((ps.filter (·.g)).map (·.a))
theorem AV (p:dm) (ps:List dm):(∀u∈u9 ps,u∈u9 (p::ps))/\(p.g=true->∀u∈p.a.aa,u∈u9 (p::ps)):=by
 unfold u9;by_cases hg:p.g=true
 .simp only[List.filter_cons,hg,if_true,List.map_cons,I.fo,List.mem_append];exact⟨λu h=>.inr h,λ_ u h=>.inl h⟩
 .simp only[List.filter_cons,hg];exact⟨λu h=>h,λh=>by simp at h⟩
theorem adY {p:dm} {ps:List dm} (h:p∈ps):∀u∈p.a.aa,u∈I.fo (ps.map (·.a)):=by
 induction ps with
 |nil=>cases h
 |cons da ps ih=>
  intro u hu;simp only[List.map_cons,I.fo,List.mem_append];rcases List.mem_cons.1 h with rfl|h
  .exact .inl hu
  .exact .inr (ih h u hu)
theorem adZ:∀(ps:List dm) (s:ak),(∀p∈ps,HN s p (λd=>d=p.d/\p.d.hB=true))->j9 ps=true->
  (∃ms:List hT,(∀m∈ms,m.x∈u9 ps/\m.d.aa=[])/\∀aH,eP (I.fo (ps.map (·.a))) aH s->gn aH ps=eO ms aH)/\∀p∈ps,HN (gn s ps) p (λd=>d=p.d.dN/\p.d.hB=true):=by
 intro ps;induction ps with
 |nil=>intro s _ _;exact⟨⟨[],by simp,λaH _=>rfl⟩,λp ax=>by cases ax⟩
 |cons p ps ih=>
  intro s hg nx;obtain⟨r8,qS⟩:=Ul nx;by_cases o4:p.g=true
  .obtain⟨x,q,d,bl,aa,⟨rfl,al⟩,bH⟩:=hg p (by simp) o4;have lP:(I.put q p.d.dN (s x)).aa=[]:=AG q _ _ _ aa (.inl (wV al).1) λ_=>Uk al;have Ea:∀aH:ak,aH x=s x->p.take aH=eO [⟨.cK,x,I.put q p.d.dN (s x)⟩] aH:=by
    intro aH e;simp only[dm.take,o4,if_true,bl,e,yx]
   have dQ:∀da∈ps,∀e2 lq,da.a= .h e2 lq->e2≠x:=by
    intro da fj e2 lq e hd;have:=qS da fj (.inl o4) x (by simp[bl,I.aa]);rw[e,hd]at this;simp[I.aa]at this
   have wW:∀e2,e2≠x->(s e2).aa=[]->eO [⟨.cK,x,I.put q p.d.dN (s x)⟩] s e2=s e2:=by
    intro e2 Aw bb;simp only[eO,mg,hT.at];rw[if_neg Aw];exact DP (.inr (by rw[bb];simp))
   obtain⟨⟨ms,m1,m2⟩,m3⟩:=ih (eO [⟨.cK,x,I.put q p.d.dN (s x)⟩] s) (λda fj MB=>by
    obtain⟨e2,lq,bI,yz,fW,iS,Eb⟩:=hg da (by simp[fj]) MB;refine⟨e2,lq,bI,yz,?_,iS,Eb⟩;rw[wW e2 (dQ da fj e2 lq yz) (Ui fW (.inr (by rw[iS.1];exact Uj iS.2)))];exact fW) r8
   refine⟨⟨[⟨.cK,x,I.put q p.d.dN (s x)⟩]++ms,?_,?_⟩,?_⟩
   .intro m hm;rcases List.mem_append.1 hm with hm|hm
    .simp only[List.mem_singleton]at hm;subst hm;exact⟨(AV p ps).2 o4 x (by simp[bl,I.aa]),lP⟩
    .exact⟨(AV p ps).1 _ (m1 m hm).1,(m1 m hm).2⟩
   .intro aH fW;simp only[List.map_cons,I.fo]at fW;have e:aH x=s x:=fW x (by simp[bl,I.aa]);rw[p_];show gn (p.take aH) ps=_;rw[Ea aH e];exact m2 _ (eP.eO fW.right _)
   .have aN:gn s (p::ps)=gn (eO [⟨.cK,x,I.put q p.d.dN (s x)⟩] s) ps:=by
     show gn (p.take s) ps=_;rw[Ea s rfl]
    rw[aN];intro da fj;rcases List.mem_cons.1 fj with rfl|fj
    .intro _;refine⟨x,q,da.d.dN,bl,?_,⟨rfl,al⟩,bH⟩;have aE:eO [⟨.cK,x,I.put q da.d.dN (s x)⟩] s x=I.put q da.d.dN (s x):=by
      simp only[eO,mg,hT.at,if_true]
     rw[Me (by rw[aE];exact lP) (λad0 ad1 aue=>?_),aE]
     .exact TG q _ _ _ aa
     .exact qS ad0 ad1 (.inl o4) x (by simp[bl,I.aa])
    .exact m3 da fj
  .have Ea:∀aH:ak,p.take aH=aH:=by intro aH;simp only[dm.take,o4];rfl
   obtain⟨⟨ms,m1,m2⟩,m3⟩:=ih s (λda fj=>hg da (by simp[fj])) r8;refine⟨⟨ms,λm hm=>⟨(AV p ps).1 _ (m1 m hm).1,(m1 m hm).2⟩,?_⟩,?_⟩
   .intro aH fW;simp only[List.map_cons,I.fo]at fW;show gn (p.take aH) ps=_;rw[Ea];exact m2 aH fW.right
   .intro da fj;have aN:gn s (p::ps)=gn s ps:=by show gn (p.take s) ps=_;rw[Ea]
    rw[aN];rcases List.mem_cons.1 fj with rfl|fj
    .intro h;exact(o4 h).elim
    .exact m3 da fj
theorem ad2:∀(ps:List dm) (s:ak),(∀p∈ps,HN s p (λd=>d=p.d.dN/\p.d.hB=true))->j9 ps=true->
  (∃ms:List hT,(∀m∈ms,m.x∈u9 ps/\m.d.aa=[])/\∀aH,eP (I.fo (ps.map (·.a))) aH s->jO aH ps=eO ms aH):=by
 intro ps;induction ps with
 |nil=>intro s _ _;exact⟨[],by simp,λaH _=>rfl⟩
 |cons p ps ih=>
  intro s hg nx;obtain⟨r8,qS⟩:=Ul nx;by_cases o4:p.g=true/\p.o≠.hole
  .obtain⟨o4,ad3⟩:=o4;obtain⟨x,q,d,bl,aa,⟨rfl,al⟩,bH⟩:=hg p (by simp) o4;have bH:p.o.hB=true:=bH.resolve_left ad3;have lP:(I.put q p.o (s x)).aa=[]:=by
    cases q with
    |nil=>simp only[I.put];exact Uj bH
    |cons k q=>exact AG _ _ _ _ aa (.inr (by simp)) (by simp)
   have MC:∀aH:ak,aH x=s x->p.kv aH=eO [⟨.dq,x,I.put q p.o (s x)⟩] aH:=by
    intro aH e;simp only[dm.kv,o4,if_true,bl];rw[e,To]
   have dQ:∀da∈ps,∀e2 lq,da.a= .h e2 lq->e2≠x:=by
    intro da fj e2 lq e hd;have:=qS da fj (.inl o4) x (by simp[bl,I.aa]);rw[e,hd]at this;simp[I.aa]at this
   obtain⟨ms,m1,m2⟩:=ih (eO [⟨.dq,x,I.put q p.o (s x)⟩] s) (λda fj MB=>by
    obtain⟨e2,lq,bI,yz,fW,iS,Eb⟩:=hg da (by simp[fj]) MB;refine⟨e2,lq,bI,yz,?_,iS,Eb⟩;have bb:=Ui fW (.inr (by rw[iS.1];exact Uk iS.2));have wW:eO [⟨.dq,x,I.put q p.o (s x)⟩] s e2=s e2:=by
     simp only[eO,mg,hT.at];rw[if_neg (dQ da fj e2 lq yz)];exact DP (.inr (by rw[bb];simp))
    rw[wW];exact fW) r8
   refine⟨[⟨.dq,x,I.put q p.o (s x)⟩]++ms,?_,?_⟩
   .intro m hm;rcases List.mem_append.1 hm with hm|hm
    .simp only[List.mem_singleton]at hm;subst hm;exact⟨(AV p ps).2 o4 x (by simp[bl,I.aa]),lP⟩
    .exact⟨(AV p ps).1 _ (m1 m hm).1,(m1 m hm).2⟩
   .intro aH fW;simp only[List.map_cons,I.fo]at fW;have e:aH x=s x:=fW x (by simp[bl,I.aa]);rw[p_];show jO (p.kv aH) ps=_;rw[MC aH e];exact m2 _ (eP.eO fW.right _)
  .have MC:∀aH:ak,p.kv aH=aH:=by
    intro aH;unfold dm.kv;split
    .rename_i iy;have:p.o= .hole:=by
      by_cases h:p.o= .hole
      .exact h
      .exact(o4 ⟨iy,h⟩).elim
     rw[this]
    .rfl
   obtain⟨ms,m1,m2⟩:=ih s (λda fj=>hg da (by simp[fj])) r8;refine⟨ms,λm hm=>⟨(AV p ps).1 _ (m1 m hm).1,(m1 m hm).2⟩,?_⟩;intro aH fW;simp only[List.map_cons,I.fo]at fW;show jO (p.kv aH) ps=_;rw[MC];exact m2 aH fW.right
theorem ad4 {s aH:ak}:∀(a:I) (d:I),eP a.aa aH s->view s a=some d->view aH a=some d:=by
 intro a d h;have:=Mh (s:=s) (aH:=aH) a d;intro aE;cases a with
 |h x q=>simp only[view]at aE⊢;rw[h x (by simp[I.aa])];exact aE
 |ax x q=>simp only[view]at aE⊢;rw[h x (by simp[I.aa])];exact aE
 |fn f cap=>
  refine this (λu hu _=>h u hu) aE
 |_=>exact aE
theorem ad5 {p:dm} {s aH:ak} (h:eP p.a.aa aH s) (gG:p.ok s):p.ok aH:=by
 unfold dm.ok at gG⊢;split
 .rename_i hg;rw[if_pos hg]at gG;cases bl:p.a with
  |h x q=>
   rw[bl]at gG;simp only at gG⊢;rw[h x (by simp[bl,I.aa])];exact gG
  |_=>rw[bl]at gG;exact gG.elim
 .rename_i hg;rw[if_neg hg]at gG;exact ad4 _ _ h gG
def HO (C:cj) (o:cm) (s:ak) (nh:fJ) (ms:List hT):Prop:=
 (∀aH,eP nh.dI aH s->∀K:ak->Prop,K (eO ms aH)->ov C aH o K)/\(∀m∈ms,m.x∈nh.T/\∀u∈m.d.aa,u∈nh.H)/\(∀u∈nh.dI,∀x∈(s u).aa,x∈nh.H)/\(nh.c=true->∀u∈nh.dI,(s u).clean=true)
theorem Um (dst:Option Nat) (av:I):∃ms:List hT,(∀m∈ms,m.x∈dst.toList/\m.d=av)/\∀s1:ak,fin s1 dst av=eO ms s1:=by
 cases dst with
 |none=>exact⟨[],by simp,λs=>rfl⟩
 |some t=>
  simp only[fin];by_cases h:av.plain=true
  .exact⟨[⟨.no,t,av⟩],by simp,λs=>by rw[if_pos h,acx]⟩
  .exact⟨[⟨.dq,t,av⟩],by simp,λs=>by rw[if_neg h,To]⟩
theorem HP {s:ak} {dI:axd} {dst:Option Nat} {dw:axd} {av:I}:(∀u∈(kz s dI dst dw av).dI,∀x∈(s u).aa,x∈(kz s dI dst dw av).H)/\((kz s dI dst dw av).c=true->∀u∈(kz s dI dst dw av).dI,(s u).clean=true):=by
 refine⟨λu hu x an=>?_,λar=>?_⟩
 .simp only[kz,List.mem_append,List.mem_flatMap];exact .inl ⟨u,hu,an⟩
 .simp only[kz,List.all_eq_true]at ar;exact ar
theorem ad6 {s:ak} {f:bC} {args:List bC} {K:axd->I->ak->Prop} (h:adW C s f args K):
  ∃dw av ms,K dw av (eO ms s)/\(∀m∈ms,m.x∈dw/\m.d.aa=[])/\∀aH,eP (use s (.call f args)) aH s->∀ev:I->ak->Prop,ev av (eO ms aH)->TQ C aH f args ev:=by
 obtain⟨g,caps,ps,r,ad,j_,ae,aI,bc,bY,dt,dv,hN⟩:=h;have ad7:∀p∈ps,HN s p (λd=>d=p.d/\p.d.hB=true):=by
  intro p ax hg;have:=aI p ax;simp only[dm.ok,hg,if_true]at this;cases bl:p.a with
  |h x q=>rw[bl]at this;exact⟨x,q,p.d,rfl,this.1,⟨rfl,this.2.1⟩,this.2.2.imp id λh=>h.1⟩
  |_=>rw[bl]at this;exact this.elim
 obtain⟨⟨r6,J,a2⟩,a3⟩:=adZ ps s ad7 bc;obtain⟨wS,hs,fT⟩:=ad2 ps (gn s ps) a3 bc;have tt:∀u∈I.fo (ps.map (·.a)),u∈use s (.call f args):=by
  rw[ae];intro u hu;simp only[use,List.mem_append];have key:∀(hP l2:axi),u∈I.fo (hP++l2)->u∈I.fo hP\/u∈I.fo l2:=by
   intro hP;induction hP with
   |nil=>intro l2 h;exact .inr h
   |cons a hP ih=>
    intro l2 h;simp only[List.cons_append,I.fo,List.mem_append]at h⊢;rcases h with h|h
    .exact .inl (.inl h)
    .exact(ih l2 h).imp .inr id
  rcases key _ _ hu with hu|hu
  .exact .inr (bC.Hx u hu)
  .refine .inl (bC.yy u ?_);rw[ad];exact hu
 have ga:jO (gn s ps) ps=eO (r6++wS) s:=by
  rw[p_,<-a2 s (λ_ _=>rfl),fT _ (λ_ _=>rfl)]
 refine⟨u9 ps,r,r6++wS,by rw[<-ga];exact hN,?_,?_⟩
 .intro m hm;rcases List.mem_append.1 hm with hm|hm
  .exact J m hm
  .exact hs m hm
 .intro aH aa ev au;have u3:eP (I.fo (ps.map (·.a))) aH s:=aa.sub tt;have bF:eP (f.use s) aH s:=by simp only[use]at aa;exact aa.left
  have an:eP (bC.tx s args) aH s:=by simp only[use]at aa;exact aa.right
  have aN:jO (gn aH ps) ps=eO (r6++wS) aH:=by
   rw[p_,<-a2 aH u3,fT];rw[a2 aH u3,a2 s (λ_ _=>rfl)];exact eP.eO u3 _
  exact⟨g,caps,ps,r,by rw[bC.gP bF];exact ad,j_,by rw[bC.L6 an];exact ae,λp ax=>ad5 (u3.sub (adY ax)) (aI p ax),bc,bY,dt,dv,by rw[aN];exact au⟩
theorem ad8 {s:ak} {bS:eT} {K:axd->I->ak->Prop} (h:qY C s bS K):
  ∃dw av ms,K dw av (eO ms s)/\(∀m∈ms,m.x∈dw/\∀v∈m.d.aa,∃u∈use s bS,v∈(s u).aa)/\∀aH,eP (use s bS) aH s->∀ev:I->ak->Prop,ev av (eO ms aH)->qU C aH bS ev:=by
 have plain:(∃av s1,b7 C s bS=some (av,s1)/\K (lU s bS) av s1)->(∀aH (ev:I->ak->Prop) av s1,b7 C aH bS=some (av,s1)->ev av s1->qU C aH bS ev)->
   ∃dw av ms,K dw av (eO ms s)/\(∀m∈ms,m.x∈dw/\∀v∈m.d.aa,∃u∈use s bS,v∈(s u).aa)/\∀aH,eP (use s bS) aH s->∀ev:I->ak->Prop,ev av (eO ms aH)->qU C aH bS ev:=by
  rintro⟨av,s1,ad,ae⟩ hw;obtain⟨ms,aN,aU,aR⟩:=TE ad;subst aN;exact⟨_,av,ms,ae,λm hm=>⟨(aU m hm).1,λv aE=>by rw[(aU m hm).2]at aE;cases aE⟩,λaH aa ev au=>hw aH ev av _ (aR aH aa) au⟩
 cases bS with
 |call f args=>
  obtain⟨dw,av,ms,J,a2,a3⟩:=ad6 h;exact⟨dw,av,ms,J,λm hm=>⟨(a2 m hm).1,λv aE=>by rw[(a2 m hm).2]at aE;cases aE⟩,λaH aa ev au=>a3 aH aa ev au⟩
 |shr bS=>
  obtain⟨av,s1,ad,ae,aI,bc⟩:=h;obtain⟨ms,aN,aU,aR⟩:=TE ad;subst aN;exact⟨_,av.share,ms,bc,λm hm=>⟨(aU m hm).1,λv aE=>by rw[(aU m hm).2]at aE;cases aE⟩,λaH aa ev au=>⟨av,_,aR aH aa,ae,aI,au⟩⟩
 |_=>exact plain h (λaH ev av s1 ad ae=>⟨av,s1,ad,ae⟩)
theorem ad9 {s:ak} {o:cm} {K:fJ->ak->Prop} (h:o3 C s o K):∃nh ms,K nh (eO ms s)/\HO C o s nh ms:=by
 have op:∀(dI:axd),(∀u∈use s o.bS,u∈dI)->(∀aH,eP dI aH s->∀ev:ak->Prop,qU C aH o.bS (λav s1=>ev (fin s1 o.dst av))->ov C aH o ev)->
   qY C s o.bS (λdw av s1=>K (kz s dI o.dst dw av) (fin s1 o.dst av))->∃nh ms,K nh (eO ms s)/\HO C o s nh ms:=by
  intro dI tt oQ hw;obtain⟨dw,av,ms,ad,ae,aI⟩:=ad8 hw;obtain⟨lT,mm,bL⟩:=Um o.dst av;refine⟨kz s dI o.dst dw av,ms++lT,?_,?_,?_,HP.1,HP.2⟩
  .rw[p_,<-bL];exact ad
  .intro aH aa ev au;refine oQ aH aa ev (aI aH (aa.sub tt) _ ?_);rw[bL,<-p_];exact au
  .intro m hm;simp only[kz,List.mem_append];rcases List.mem_append.1 hm with hm|hm
   .refine⟨.inr (ae m hm).1,λv aE=>.inl ?_⟩;obtain⟨u,hu,oR⟩:=(ae m hm).2 v aE;exact List.mem_flatMap.2 ⟨u,tt u hu,oR⟩
   .exact⟨.inl (mm m hm).1,λu hu=>.inr (by rw[(mm m hm).2]at hu;exact hu)⟩
 have skip:∀t,(∀aH,eP [t] aH s->∀ev:ak->Prop,ev (fin aH o.dst (.tuple []))->ov C aH o ev)->K (kz s [t] o.dst [] (.tuple [])) (fin s o.dst (.tuple []))->∃nh ms,K nh (eO ms s)/\HO C o s nh ms:=by
  intro t oQ au;obtain⟨lT,mm,bL⟩:=Um o.dst (.tuple []);refine⟨_,lT,by rw[<-bL];exact au,?_,?_,HP.1,HP.2⟩
  .intro aH aa ev nv;exact oQ aH aa ev (by rw[bL];exact nv)
  .intro m hm;simp only[kz,List.mem_append];exact⟨.inl (mm m hm).1,λu hu=>by rw[(mm m hm).2]at hu;simp[I.aa]at hu⟩
 unfold o3 at h;split at h
 .rename_i hg;exact op _ (λ_ h=>h) (λaH _ ev hw=>by unfold ov;rw[hg];exact hw) h
 .rename_i t b hg;split at h
  .rename_i gM ab;split at h
   .rename_i e;refine op (t::use s o.bS) (λu hu=>by simp[hu]) (λaH aa ev hw=>?_) h;have:aH t=s t:=aa t (by simp);unfold ov;rw[hg];simp only[this,ab,if_pos e];exact hw
   .rename_i e;refine skip t (λaH aa ev au=>?_) h;have:aH t=s t:=aa t (by simp);unfold ov;rw[hg];simp only[this,ab,if_neg e];exact au
  .rename_i ab;refine skip t (λaH aa ev au=>?_) h;have:aH t=s t:=aa t (by simp);unfold ov;rw[hg];simp only[this,ab];exact au
  .exact h.elim
def w4 (C:cj) (ros:List cm):ak->List (Nat×fJ×List hT)->Prop
 |_,[]=>True
 |s,e::r=>(∃o,ros[e.1]? =some o/\HO C o s e.2.1 e.2.2)/\w4 C ros (eO e.2.2 s) r
def sf (s:ak) (r:List (Nat×fJ×List hT)):ak:=r.foldl (λs e=>eO e.2.2 s) s
def qN (a b:axd):Bool:=a.all λx=> !b.contains x
theorem AW {a b:axd} (h:qN a b=true):∀x∈a,x∉b:=by
 intro x an;simp only[qN,List.all_eq_true]at h;simpa using h x an
def yH (a b:fJ):Bool:=qN b.T a.dI&&qN b.T a.H&&qN b.T a.T&&qN a.T b.dI&&qN a.T b.H&&b.c
theorem ad_ {ros:List cm} {s:ak} {a b:Nat×fJ×List hT} {r:List (Nat×fJ×List hT)} (h:w4 C ros s (a::b::r)) (ag:yH a.2.1 b.2.1=true):
  w4 C ros s (b::a::r)/\sf s (b::a::r)=sf s (a::b::r):=by
 obtain⟨⟨aea,bl,J,a2,a3,a4⟩,⟨b4,ab,hs,fT,fU,bU⟩,aQ⟩:=h;simp only[yH,Bool.and_eq_true]at ag;obtain⟨⟨⟨⟨⟨wE,i2⟩,i3⟩,i4⟩,i5⟩,La⟩:=ag;have MD:∀u∈b.2.1.dI,eO a.2.2 s u=s u:=by
  intro u hu;refine adS _ _ _ (λm hm e=>?_) (bU La u hu);exact AW i4 m.x (a2 m hm).1 (e▸hu)
 have ME:∀u∈a.2.1.dI,eO b.2.2 s u=s u:=by
  intro u hu;refine adT _ _ _ λm hm=>⟨λe=>?_,λan=>?_⟩
  .exact AW wE m.x (fT m hm).1 (e▸hu)
  .exact AW i2 m.x (fT m hm).1 (a3 u hu _ an)
 have Un:eO b.2.2 (eO a.2.2 s)=eO a.2.2 (eO b.2.2 s):=by
  refine adV _ _ _ λm hm n aS=>⟨λe=>?_,λh=>?_,λh=>?_⟩
  .exact AW i3 n.x (fT n aS).1 (e▸(a2 m hm).1)
  .exact AW i2 n.x (fT n aS).1 ((a2 m hm).2 _ h)
  .exact AW i5 m.x (a2 m hm).1 ((fT n aS).2 _ h)
 refine⟨⟨⟨b4,ab,?_,fT,?_,?_⟩,⟨aea,bl,?_,a2,?_,?_⟩,?_⟩,?_⟩
 .intro aH aa K au;exact hs aH (λu hu=>(aa u hu).trans (MD u hu).symm) K au
 .intro u hu x an;exact fU u hu x (by rw[MD u hu];exact an)
 .intro ar u hu;have:=bU ar u hu
  rwa [MD u hu]at this
 .intro aH aa K au;exact J aH (λu hu=>(aa u hu).trans (ME u hu)) K au
 .intro u hu x an;rw[ME u hu]at an;exact a3 u hu x an
 .intro ar u hu;rw[ME u hu];exact a4 ar u hu
 .rw[<-Un];exact aQ
 .simp only[sf,List.foldl_cons];rw[Un]
theorem aeb {ros:List cm} {e:Nat×fJ×List hT} {post:List (Nat×fJ×List hT)}:∀(pre:List (Nat×fJ×List hT)) (s:ak),w4 C ros s (pre++e::post)->(∀a∈pre,yH a.2.1 e.2.1=true)->
  w4 C ros s (e::(pre++post))/\sf s (e::(pre++post))=sf s (pre++e::post):=by
 intro pre;induction pre with
 |nil=>intro s h _;exact⟨h,rfl⟩
 |cons a pre ih=>
  intro s h ag;obtain⟨ad,ae⟩:=h;obtain⟨g1,g2⟩:=ih _ ae λb ab=>ag b (by simp[ab]);have ar:w4 C ros s (a::e::(pre++post)):=⟨ad,g1⟩
  obtain⟨bX,cN⟩:=ad_ ar (ag a (by simp));refine⟨bX,cN.trans ?_⟩;simp only[sf,List.foldl_cons,List.cons_append]at g2⊢;exact g2
end
def Ec:axb->axb->axb
 |done,[]=>done
 |done,a::r=>Ec (done++[a++a.flatMap λe=>(done[e]?).getD []]) r
def ni (cT:axb):axb:=Ec [] cT
theorem aec {cT:axb} {l:axd} (aC:∀u i v,l=u++i::v->∀e∈(cT[i]?).getD [],e∈u):∀(rest pre done:axb),cT=pre++rest->done.length=pre.length->
  (∀u i v,l=u++i::v->∀e∈(done[i]?).getD [],e∈u)->∀u i v,l=u++i::v->∀e∈((Ec done rest)[i]?).getD [],e∈u:=by
 intro rest;induction rest with
 |nil=>intro pre done _ _ h;exact h
 |cons a rest ih=>
  intro pre done Uo hlen h;simp only[Ec];refine ih (pre++[a]) _ (by simp[Uo]) (by simp[hlen]) ?_;intro u i v hu e he;by_cases ag:i<done.length
  .rw[List.getElem?_append_left ag]at he;exact h u i v hu e he
  .rw[List.getElem?_append_right (by omega)]at he;by_cases DM:i-done.length=0
   .rw[DM]at he;simp only[List.getElem?_cons_zero,Option.getD_some,List.mem_append,List.mem_flatMap]at he;have HQ:(cT[i]?).getD []=a:=by
     have:i=pre.length:=by omega
     rw[Uo,this,List.getElem?_append_right (Nat.le_refl _)];simp
    rcases he with he|⟨hd,qc,he⟩
    .exact aC u i v hu e (by rw[HQ];exact he)
    .have DQ:=aC u i v hu hd (by rw[HQ];exact qc);obtain⟨u_,w5,rfl⟩:=List.append_of_mem DQ;have:=h u_ hd (w5++i::v) (by rw[hu];simp) e he;simp[this]
   .rw[List.getElem?_eq_none (by simp;omega)]at he;simp at he
theorem aed {cT:axb} {l:axd} (aC:∀u i v,l=u++i::v->∀e∈(cT[i]?).getD [],e∈u):∀u i v,l=u++i::v->∀e∈((ni cT)[i]?).getD [],e∈u:=
 aec aC cT [] [] rfl rfl λu i v _ e he=>by simp at he
def ka (pz:axb):Nat->List (Nat×fJ)->List fJ->Bool
 |_,_,[]=>true
 |j,es,f::aD=>(es.all λe=>((pz[j]?).getD []).contains e.1||yH e.2 f)&&ka pz (j+1) ((j,f)::es) aD
def MF (pz:axb) (a b:Nat×fJ×List hT):Prop:=a.1∈(pz[b.1]?).getD []\/yH a.2.1 b.2.1=true
theorem aee {pz:axb}:∀(iA:List (Nat×fJ×List hT)) (j:Nat) (es:List (Nat×fJ)),iA.map (·.1)=(List.range iA.length).map (·+j)->ka pz j es (iA.map (·.2.1))=true->
  iA.Pairwise (MF pz)/\∀e∈es,∀b∈iA,e.1∈(pz[b.1]?).getD []\/yH e.2 b.2.1=true:=by
 intro iA;induction iA with
 |nil=>intro j es _ _;exact⟨.nil,λe _ b ab=>by cases ab⟩
 |cons a iA ih=>
  intro j es yI gG;rw[List.length_cons,List.range_succ_eq_map,List.map_cons,List.map_cons,List.map_map]at yI;simp only[List.cons.injEq,Nat.zero_add]at yI;obtain⟨bE,yI⟩:=yI;simp only[List.map_cons,ka,Bool.and_eq_true,List.all_eq_true,Bool.or_eq_true]at gG;obtain⟨ad,ae⟩:=gG;obtain⟨g1,g2⟩:=ih (j+1) _ (by rw[yI];congr 1;funext x;simp;omega) ae;refine⟨.cons (λb ab=>?_) g1,λe he b ab=>?_⟩
  .have:=g2 (j,a.2.1) (by simp) b ab;simp only[MF,bE];exact this
  .rcases List.mem_cons.1 ab with rfl|ab
   .rw[bE];exact(ad e he).imp (λh=>by simpa using h) id
   .exact g2 e (by simp[he]) b ab
section
variable {C:cj}
theorem aef {K:Option (List fJ)->ak->Prop}:∀(os pre:List cm) (s:ak) (acc:List fJ),dA C s os (some acc) K->
  ∃iA,w4 C (pre++os) s iA/\iA.map (·.1)=(List.range os.length).map (·+pre.length)/\K (some ((iA.map (·.2.1)).reverse++acc)) (sf s iA):=by
 intro os;induction os with
 |nil=>intro pre s acc h;exact⟨[],trivial,rfl,h⟩
 |cons o os ih=>
  intro pre s acc h;obtain⟨nh,ms,ad,ae⟩:=ad9 h;obtain⟨iA,g1,g2,g3⟩:=ih (pre++[o]) _ (nh::acc) ad;refine⟨(pre.length,nh,ms)::iA,⟨⟨o,?_,ae⟩,?_⟩,?_,?_⟩
  .rw[List.getElem?_append_right (Nat.le_refl _)];simp
  .simpa using g1
  .rw[List.length_cons,List.range_succ_eq_map,List.map_cons,List.map_cons,List.map_map,g2];simp only[List.cons.injEq,Nat.zero_add,true_and];congr 1;funext x;simp;omega
  .simpa [sf]using g3
theorem aeg {ros:List cm} {pz:axb} {K:ak->Prop}:∀(l:axd) (iA:List (Nat×fJ×List hT)) (s:ak),w4 C ros s iA->iA.Pairwise (MF pz)->l.Nodup->(iA.map (·.1)).Nodup->
  (∀i,i∈l↔i∈iA.map (·.1))->(∀u i v,l=u++i::v->∀e∈(pz[i]?).getD [],e∈iA.map (·.1)->e∈u)->K (sf s iA)->kx C ros s l K:=by
 intro l;induction l with
 |nil=>
  intro iA s _ _ _ _ hm _ au;cases iA with
  |nil=>exact au
  |cons e iA=>have:=(hm e.1).2 (by simp);cases this
 |cons i l ih=>
  intro iA s ar ax aS wT hm bH au;obtain⟨e,he,ag⟩:=List.mem_map.1 ((hm i).1 (by simp));obtain⟨pre,post,rfl⟩:=List.append_of_mem he;have aeh:∀a∈pre,yH a.2.1 e.2.1=true:=by
   intro a bl;have aQ:=(List.pairwise_append.1 ax).2.2 a bl e (by simp);rcases aQ with aQ|aQ
   .rw[ag]at aQ;have:=bH [] i l rfl a.1 aQ (by simp only[List.map_append,List.mem_append,List.mem_map];exact .inl ⟨a,bl,rfl⟩);cases this
   .exact aQ
  obtain⟨g1,g2⟩:=aeb pre s ar aeh;obtain⟨⟨o,aei,HR⟩,g3⟩:=g1;have Up:i∉(pre++post).map (·.1):=by
   have:(pre.map (·.1)++e.1::post.map (·.1)).Nodup:=by simpa using wT
   have bB:=(List.perm_middle.nodup_iff.1 this)
   rw[List.nodup_cons]at bB;rw[<-ag];simpa using bB.1
  simp only[kx];rw[<-ag,aei];refine HR.1 s (λ_ _=>rfl) _ ?_;rw[List.nodup_cons]at aS;refine ih (pre++post) _ g3 ?_ aS.2 ?_ ?_ ?_ ?_
  .exact ax.sublist ((List.Sublist.refl pre).append (List.sublist_cons_self e post))
  .have:(pre.map (·.1)++e.1::post.map (·.1)).Nodup:=by simpa using wT
   have bB:=(List.perm_middle.nodup_iff.1 this)
   rw[List.nodup_cons]at bB;simpa using bB.2
  .intro j;constructor
   .intro bE;have ad:=(hm j).1 (by simp[bE]);simp only[List.map_append,List.map_cons,List.mem_append,List.mem_cons]at ad⊢;rcases ad with ad|rfl|ad
    .exact .inl ad
    .exact(aS.1 (ag▸bE)).elim
    .exact .inr ad
   .intro bE;have ad:=(hm j).2 (by
     simp only[List.map_append,List.map_cons,List.mem_append,List.mem_cons]at bE⊢;exact bE.imp id .inr)
    rcases List.mem_cons.1 ad with rfl|ad
    .exact(Up bE).elim
    .exact ad
  .intro u j v hu x an MG;have ad:=bH (i::u) j v (by rw[hu];rfl) x an (by
    simp only[List.map_append,List.map_cons,List.mem_append,List.mem_cons]at MG⊢;exact MG.imp id .inr)
   rcases List.mem_cons.1 ad with rfl|ad
   .exact(Up MG).elim
   .exact ad
  .have:sf s (e::(pre++post))=sf (eO e.2.2 s) (pre++post):=rfl;rw[<-this,g2];exact au
theorem HS {ros:List cm} {cT:axb} {s:ak} {K:ak->Prop} (hlen:cT.length=ros.length)
  (h:dA C s ros (some []) (λacc s=>ka (ni cT) 0 [] (acc.getD []).reverse=true/\K s)):∀l,sd cT l->kx C ros s l K:=by
 intro l ⟨hP,l2,DS⟩;obtain⟨iA,g1,g2,g3,g4⟩:=aef ros [] s [] h;simp only[List.nil_append,List.append_nil,List.length_nil,Option.getD_some,List.reverse_reverse]at g1 g2 g3;have aC:iA.length=ros.length:=by have:=congrArg List.length g2;simpa using this
 have yI:iA.map (·.1)=(List.range iA.length).map (·+0):=by rw[g2,aC]
 have aQ:iA.map (·.1)=List.range ros.length:=by rw[g2];simp
 obtain⟨hp,_⟩:=aee iA 0 [] yI g3;refine aeg l iA s g1 hp hP (by rw[aQ];exact List.nodup_range) (λi=>?_) (λu i v hu e he _=>aed DS u i v hu e he) g4;rw[aQ,l2,hlen,List.mem_range]
end
def qd (C:cj) (dst:Option Nat) (os:List cm) (K:Option (List fJ)->ak->Prop):Option (I×ak)->Prop
 |some (av,s1)=>dA C (fin s1 dst av) os none K
 |none=>False
def qe (C:cj) (l:axh) (dI dw:axd) (dst:Option Nat) (os:List cm) (a:List fJ) (K:Option (List fJ)->ak->Prop):Option (I×ak)->Prop
 |some (av,s1)=>dA C (fin s1 dst av) os (some (kz (aq l) dI dst dw av::a)) K
 |none=>False
def ly (C:cj) (l:axh) (dst:Option Nat) (bS:eT) (t:Nat) (b:Bool) (os:List cm) (acc:Option (List fJ)) (K:Option (List fJ)->ak->Prop):I->Prop
 | .bool gM=>if gM=b then qY C (aq l) bS (λdw av s1=>dA C (fin s1 dst av) os (tF acc (kz (aq l) (t::use (aq l) bS) dst dw av)) K)else dA C (fin (aq l) dst (.tuple [])) os (tF acc (kz (aq l) [t] dst [] (.tuple []))) K
 | .tuple []=>dA C (fin (aq l) dst (.tuple [])) os (tF acc (kz (aq l) [t] dst [] (.tuple []))) K
 |_=>False
section
variable {C:cj} {l:axh} {os:List cm} {K:Option (List fJ)->ak->Prop} {dst:Option Nat} {a:List fJ} {acc:Option (List fJ)}
theorem HT {s:ak} {bS:eT} {K:axd->I->ak->Prop} (aS:bS.jx=false):qY C s bS K=(match b7 C s bS with
  |some (av,s1)=>K (lU s bS) av s1
  |none=>False):=by
 apply propext;constructor
 .intro h;cases bS<;>first
   |(simp[eT.jx]at aS;done)
   |(obtain⟨av,s1,ad,ae⟩:=h;rw[ad];exact ae)
 .intro h;split at h
  .rename_i av s1 he;cases bS<;>first
    |(simp[eT.jx]at aS;done)
    |exact⟨av,s1,he,h⟩
  .exact h.elim
theorem Uq:dA C (aq l) [] acc K=K acc (aq l):=rfl
theorem yJ {bS:eT} (aS:bS.jx=false):dA C (aq l) (⟨dst,bS,none⟩::os) none K=qd C dst os K (b7 C (aq l) bS):=by
 simp only[dA,o3,tF];rw[HT aS];cases b7 C (aq l) bS with
 |none=>rfl
 |some p=>rfl
theorem yK {bS:eT} (aS:bS.jx=false):dA C (aq l) (⟨dst,bS,none⟩::os) (some a) K=qe C l (use (aq l) bS) (lU (aq l) bS) dst os a K (b7 C (aq l) bS):=by
 simp only[dA,o3,tF];rw[HT aS];cases b7 C (aq l) bS with
 |none=>rfl
 |some p=>rfl
theorem Ur {bS:eT} {t:Nat} {b:Bool}:dA C (aq l) (⟨dst,bS,some (t,b)⟩::os) acc K=ly C l dst bS t b os acc K (aq l t):=by
 simp only[dA,o3];generalize aq l t=v;cases v<;>first|rfl|(rename_i vs;cases vs<;>rfl)
theorem MH {bS:eT} {t:Nat} {b:Bool} (aS:bS.jx=false):ly C l dst bS t b os none K (.bool b)=qd C dst os K (b7 C (aq l) bS):=by
 simp only[ly,if_true];rw[HT aS];cases b7 C (aq l) bS with
 |none=>rfl
 |some p=>rfl
theorem MI {bS:eT} {t:Nat} {b:Bool} (aS:bS.jx=false):ly C l dst bS t b os (some a) K (.bool b)=qe C l (t::use (aq l) bS) (lU (aq l) bS) dst os a K (b7 C (aq l) bS):=by
 simp only[ly,if_true];rw[HT aS];cases b7 C (aq l) bS with
 |none=>rfl
 |some p=>rfl
theorem aej {bS:eT} {t:Nat}:ly C l dst bS t true os none K (.bool false)=dA C (fin (aq l) dst (.tuple [])) os none K/\ly C l dst bS t false os none K (.bool true)=dA C (fin (aq l) dst (.tuple [])) os none K/\
  (∀b,ly C l dst bS t b os none K (.tuple [])=dA C (fin (aq l) dst (.tuple [])) os none K):=⟨rfl,rfl,λ_=>rfl⟩
theorem aek {bS:eT} {t:Nat}:ly C l dst bS t true os (some a) K (.bool false)=dA C (fin (aq l) dst (.tuple [])) os (some (kz (aq l) [t] dst [] (.tuple [])::a)) K/\
  ly C l dst bS t false os (some a) K (.bool true)=dA C (fin (aq l) dst (.tuple [])) os (some (kz (aq l) [t] dst [] (.tuple [])::a)) K/\
  (∀b,ly C l dst bS t b os (some a) K (.tuple [])=dA C (fin (aq l) dst (.tuple [])) os (some (kz (aq l) [t] dst [] (.tuple [])::a)) K):=⟨rfl,rfl,λ_=>rfl⟩
theorem ael (av:I) (s1:ak):qd C dst os K (some (av,s1))=dA C (fin s1 dst av) os none K:=rfl
theorem aem (dI dw:axd) (av:I) (s1:ak):qe C l dI dw dst os a K (some (av,s1))=dA C (fin s1 dst av) os (some (kz (aq l) dI dst dw av::a)) K:=rfl
def AX (s:ak):I->Option (I×ak)
 | .h y q=>dw s (.h y q)
 |d=>some (d,s)
def Us (s:ak):I->I->I->Option (I×ak)
 | .bool gM,x,y=>some (if gM then x else y,s)
 |_,_,_=>none
def k6 (s:ak):Option I->Option (I×ak)
 |some d=>some (d,s)
 |none=>none
def dV:Option ak->Option (I×ak)
 |some s1=>some (.hole,s1)
 |none=>none
def lW (s:ak):List bC->axi
 |[]=>[]
 |x::xs=>bw s x::lW s xs
def w6 (s:ak):List (Nat×bC)->axh
 |[]=>[]
 |(k,x)::xs=>(k,bw s x)::w6 s xs
def Ed (s:ak):Option bC->Option I
 |none=>none
 |some x=>some (bw s x)
theorem MJ (s:ak) (x:Option I):(x.map λd=>(d,s))=k6 s x:=by cases x<;>rfl
theorem Ut (x:Option ak):(x.map λs1=>(I.hole,s1))=dV x:=by cases x<;>rfl
theorem Ee (s:ak):∀xs:List bC,xs.map (bw s)=lW s xs
 |[]=>rfl
 |x::xs=>by simp only[List.map_cons,lW,Ee s xs]
theorem Uu (s:ak):∀xs:List (Nat×bC),(xs.map λp=>(p.1,bw s p.2))=w6 s xs
 |[]=>rfl
 |(k,x)::xs=>by simp only[List.map_cons,w6,Uu s xs]
theorem aen (s:ak) (x:Option bC):x.map (bw s)=Ed s x:=by cases x<;>rfl
theorem Uv:(∀x,eT.jx (.hS x)=false)/\
  (∀x,eT.jx (.h2 x)=false)/\
  (∀c x y,eT.jx (.pick c x y)=false)/\
  (∀T,eT.jx (.mE T)=false)/\
  (∀T x,eT.jx (.iY T x)=false)/\
  (∀T ps,eT.jx (.gx T ps)=false)/\
  (∀T n ps,eT.jx (.dO T n ps)=false)/\
  (∀T x,eT.jx (.fO T x)=false)/\
  (∀T x y,eT.jx (.kI T x y)=false)/\
  (∀x,eT.jx (.mf x)=false)/\
  (∀op T x y,eT.jx (.eN op T x y)=false)/\
  (∀op x,eT.jx (.un op x)=false)/\
  (∀A B x,eT.jx (.kL A B x)=false)/\
  (∀f cs,eT.jx (.pv f cs)=false)/\
  (∀T x y,eT.jx (.fv T x y)=false)/\
  (∀T x fF ag,eT.jx (.ix T x fF ag)=false)/\
  (∀T x k,eT.jx (.hK T x k)=false)/\
  (∀T x y,eT.jx (.ks T x y)=false)/\
  (∀T x y,eT.jx (.idx T x y)=false)/\
  (∀x k,eT.jx (.ex x k)=false)/\
  (∀T x,eT.jx (.len T x)=false)/\
  (∀T dI x y,eT.jx (.app T dI x y)=false):=by
 and_intros<;>intros<;>rfl
theorem Uw:(∀x,b7 C (aq l) (.hS x)=some (bw (aq l) x,aq l))/\
  (∀x,b7 C (aq l) (.h2 x)=AX (aq l) (bw (aq l) x))/\
  (∀c x y,b7 C (aq l) (.pick c x y)=Us (aq l) (bw (aq l) c) (bw (aq l) x) (bw (aq l) y))/\
  (∀T,b7 C (aq l) (.mE T)=k6 (aq l) (mE C T))/\
  (∀T x,b7 C (aq l) (.iY T x)=iY (aq l) (bw (aq l) x))/\
  (∀T ps,b7 C (aq l) (.gx T ps)=gx C (aq l) T (w6 (aq l) ps))/\
  (∀T n ps,b7 C (aq l) (.dO T n ps)=dO C (aq l) T n (w6 (aq l) ps))/\
  (∀T x,b7 C (aq l) (.fO T x)=k6 (aq l) (fO C (aq l) T (bw (aq l) x)))/\
  (∀T x y,b7 C (aq l) (.kI T x y)=dV (kI C (aq l) T (bw (aq l) x) (bw (aq l) y)))/\
  (∀x,b7 C (aq l) (.mf x)=k6 (aq l) (mf (aq l) (bw (aq l) x)))/\
  (∀op T x y,b7 C (aq l) (.eN op T x y)=k6 (aq l) (eN C (aq l) op T (bw (aq l) x) (bw (aq l) y)))/\
  (∀op x,b7 C (aq l) (.un op x)=k6 (aq l) (un op (bw (aq l) x)))/\
  (∀A B x,b7 C (aq l) (.kL A B x)=k6 (aq l) (kL C (aq l) A B (bw (aq l) x)))/\
  (∀f cs,b7 C (aq l) (.pv f cs)=some (.fn f (lW (aq l) cs),aq l))/\
  (∀T x y,b7 C (aq l) (.fv T x y)=k6 (aq l) (fv C T (bw (aq l) x) (bw (aq l) y)))/\
  (∀T x fF ag,b7 C (aq l) (.ix T x fF ag)=ix C (aq l) T (bw (aq l) x) (Ed (aq l) fF) (Ed (aq l) ag))/\
  (∀T x k,b7 C (aq l) (.hK T x k)=k6 (aq l) (hK C (aq l) T (bw (aq l) x) k))/\
  (∀T x y,b7 C (aq l) (.ks T x y)=k6 (aq l) (ks C (aq l) T (bw (aq l) x) (bw (aq l) y)))/\
  (∀T x y,b7 C (aq l) (.idx T x y)=k6 (aq l) (idx C T (bw (aq l) x) (bw (aq l) y)))/\
  (∀x k,b7 C (aq l) (.ex x k)=k6 (aq l) (ex (aq l) (bw (aq l) x) k))/\
  (∀T x,b7 C (aq l) (.len T x)=k6 (aq l) (uX C (aq l) T (bw (aq l) x)))/\
  (∀T dI x y,b7 C (aq l) (.app T dI x y)=u1 C (aq l) T dI (bw (aq l) x) (bw (aq l) y)):=by
 and_intros<;>intros<;>first|rfl|(simp only[b7,MJ,Ut,Uu,Ee,aen];done)|(simp only[b7];cases bw (aq l) _<;>first|rfl|(rename_i b;cases b<;>rfl))
end
theorem Ux:∀t d,uT t d=if I.plain d=true then d else .h t []:=λ_ _=>rfl
theorem Uy:(∀l av,fin (aq l) none av=aq l)/\(∀l t av,fin (aq l) (some t) av=aq ((t,av)::if I.plain av=true then l else u6 t l)):=
 ⟨λ_ _=>rfl,λl t av=>by
  simp only[fin];split
  .rw[HL]
  .rw[MA,HL]⟩
theorem Uz:
  (∀k n,I.plain (.int k n)=true)/\
  (∀b,I.plain (.bool b)=true)/\
  (∀x,I.plain (.str x)=true)/\
  (∀xs,I.plain (.slice xs)=true)/\
  (∀d,I.plain (.ref d)=true)/\
  (∀f cap,I.plain (.fn f cap)=true)/\
  (∀x q,I.plain (.h x q)=true)/\
  (∀x q,I.plain (.ax x q)=true)/\
  (I.plain .en=true)/\
  (I.plain .a8=true)/\
  (I.plain .gw=true)/\
  (I.plain .hole=true)/\
  (∀sz xs,I.plain (.aj sz xs)=false)/\
  (∀d,I.plain (.aM d)=false)/\
  (∀aD,I.plain (.agg aD)=I.hz aD)/\
  (∀aD,I.plain (.tuple aD)=I.hz aD)/\
  (I.hz []=true)/\
  (∀d ds,I.hz (d::ds)=(d.plain&&I.hz ds)):=
 ⟨λ_ _=>rfl,λ_=>rfl,λ_=>rfl,λ_=>rfl,λ_=>rfl,λ_ _=>rfl,λ_ _=>rfl,λ_ _=>rfl,rfl,rfl,rfl,rfl,λ_ _=>rfl,λ_=>rfl,λ_=>rfl,λ_=>rfl,rfl,λ_ _=>rfl⟩
theorem UA:∀s d,AX s d=match d with| .h y q=>dw s (.h y q)|d=>some (d,s):=λ_ _=>by unfold AX;rfl
theorem UB:
  (∀t k n,dq t (.int k n)=(.int k n))/\
  (∀t b,dq t (.bool b)=(.bool b))/\
  (∀t x,dq t (.str x)=(.str x))/\
  (∀t xs,dq t (.slice xs)=(.slice xs))/\
  (∀t d,dq t (.ref d)=(.ref d))/\
  (∀t,dq t .en= .en)/\
  (∀t,dq t .a8= .a8)/\
  (∀t,dq t .gw= .gw)/\
  (∀t,dq t .hole= .hole)/\
  (∀t sz xs,dq t (.aj sz xs)=(.aj sz xs))/\
  (∀t d,dq t (.aM d)=(.aM d))/\
  (∀t aD,dq t (.agg aD)=(.agg aD))/\
  (∀t aD,dq t (.tuple aD)=(.tuple aD))/\
  (∀t y q,dq t (.h y q)=if y=t then .hole else .h y q)/\
  (∀t y q,dq t (.ax y q)=if y=t then .hole else .ax y q)/\
  (∀t f c,dq t (.fn f c)= .fn f (k2 t c))/\
  (∀t,k2 t []=[])/\
  (∀t d ds,k2 t (d::ds)=dq t d::k2 t ds)/\
  (∀t,u6 t []=[])/\
  (∀t u d l,u6 t ((u,d)::l)=(u,dq t d)::u6 t l)/\
  (∀t l,om t (aq l)=aq (u6 t l)):=
 ⟨λ_ _ _=>by unfold dq;rfl,λ_ _=>by unfold dq;rfl,λ_ _=>by unfold dq;rfl,λ_ _=>by unfold dq;rfl,λ_ _=>by unfold dq;rfl,λ_=>by unfold dq;rfl,λ_=>by unfold dq;rfl,λ_=>by unfold dq;rfl,λ_=>by unfold dq;rfl,λ_ _ _=>by unfold dq;rfl,λ_ _=>by unfold dq;rfl,λ_ _=>by unfold dq;rfl,λ_ _=>by unfold dq;rfl,λ_ _ _=>by unfold dq;rfl,λ_ _ _=>by unfold dq;rfl,λ_ _ _=>by simp only[dq],λ_=>by simp only[k2],λ_ _ _=>by simp only[k2],λ_=>rfl,λ_ _ _ _=>rfl,λt l=>MA t l⟩
theorem UC:
  (∀t k n,cK t (.int k n)=(.int k n))/\
  (∀t b,cK t (.bool b)=(.bool b))/\
  (∀t x,cK t (.str x)=(.str x))/\
  (∀t xs,cK t (.slice xs)=(.slice xs))/\
  (∀t d,cK t (.ref d)=(.ref d))/\
  (∀t,cK t .en= .en)/\
  (∀t,cK t .a8= .a8)/\
  (∀t,cK t .gw= .gw)/\
  (∀t,cK t .hole= .hole)/\
  (∀t sz xs,cK t (.aj sz xs)=(.aj sz xs))/\
  (∀t d,cK t (.aM d)=(.aM d))/\
  (∀t aD,cK t (.agg aD)=(.agg aD))/\
  (∀t aD,cK t (.tuple aD)=(.tuple aD))/\
  (∀t y,cK t (.h y [])= .h y [])/\
  (∀t y k q,cK t (.h y (k::q))=if y=t then .hole else .h y (k::q))/\
  (∀t y q,cK t (.ax y q)=if y=t then .hole else .ax y q)/\
  (∀t f c,cK t (.fn f c)= .fn f (kr t c))/\
  (∀t,kr t []=[])/\
  (∀t d ds,kr t (d::ds)=cK t d::kr t ds)/\
  (∀t,yE t []=[])/\
  (∀t u d l,yE t ((u,d)::l)=(u,cK t d)::yE t l)/\
  (∀t l,iW t (aq l)=aq (yE t l)):=
 ⟨λ_ _ _=>by unfold cK;rfl,λ_ _=>by unfold cK;rfl,λ_ _=>by unfold cK;rfl,λ_ _=>by unfold cK;rfl,λ_ _=>by unfold cK;rfl,λ_=>by unfold cK;rfl,λ_=>by unfold cK;rfl,λ_=>by unfold cK;rfl,λ_=>by unfold cK;rfl,λ_ _ _=>by unfold cK;rfl,λ_ _=>by unfold cK;rfl,λ_ _=>by unfold cK;rfl,λ_ _=>by unfold cK;rfl,λ_ _=>by simp[cK],λ_ _ _ _=>by simp[cK],λ_ _ _=>by unfold cK;rfl,λ_ _ _=>by simp only[cK],λ_=>by simp only[kr],λ_ _ _=>by simp only[kr],λ_=>rfl,λ_ _ _ _=>rfl,λt l=>adO t l⟩
def MK:p2->Bool->Option I
 | .bool,b=>some (.bool b)
 |_,_=>none
def w7 (neg:Bool):p2->Option axe->Option I
 | .slice _,some r=>some (r0 neg r)
 |_,_=>none
def yL (neg:Bool):p2->axe->Option I
 | .ptr _,some b=>some (.bool (b !=neg))
 |_,_=>none
theorem UD (C:cj) (s:ak) (T:TypeId):
  (∀op k a c_ b,eN C s op T (.int k a) (.int c_ b)=kJ op k a c_ b)/\
  (∀op a b,eN C s op T (.str a) (.str b)=p5 op a b)/\
  (∀a b,eN C s .eql T (.bool a) (.bool b)=MK (C.T T).k (a==b))/\
  (∀a b,eN C s .neq T (.bool a) (.bool b)=MK (C.T T).k (!(a==b)))/\
  (∀xs,eN C s .eql T (.slice xs) .a8=w7 false (C.T T).k (lS s (.slice xs)))/\
  (∀xs,eN C s .neq T (.slice xs) .a8=w7 true (C.T T).k (lS s (.slice xs)))/\
  (eN C s .eql T .a8 .a8=w7 false (C.T T).k (lS s .a8))/\
  (eN C s .neq T .a8 .a8=w7 true (C.T T).k (lS s .a8))/\
  (∀x q,eN C s .eql T (.h x q) .a8=w7 false (C.T T).k (lS s (.h x q)))/\
  (∀x q,eN C s .neq T (.h x q) .a8=w7 true (C.T T).k (lS s (.h x q)))/\
  (∀x q,eN C s .eql T (.h x q) .en=yL false (C.T T).k (nS s (.h x q)))/\
  (∀x q,eN C s .neq T (.h x q) .en=yL true (C.T T).k (nS s (.h x q)))/\
  (∀d,eN C s .eql T (.ref d) .en=yL false (C.T T).k (nS s (.ref d)))/\
  (∀d,eN C s .neq T (.ref d) .en=yL true (C.T T).k (nS s (.ref d)))/\
  (eN C s .eql T .en .en=yL false (C.T T).k (nS s .en))/\
  (eN C s .neq T .en .en=yL true (C.T T).k (nS s .en)):=by
 refine⟨?_,?_,?_,?_,?_,?_,?_,?_,?_,?_,?_,?_,?_,?_,?_,?_⟩<;>intros<;>first
  |rfl
  |(simp only[eN]
    generalize (C.T T).k=nR;cases nR<;>first|rfl|(simp only[w7];generalize lS s _=v;cases v<;>rfl)|(simp only[yL];generalize nS s _=v;cases v<;>(try (rename_i b;cases b))<;>rfl))
theorem UE (k:IntKind) (a b:Int):
  kJ .add k a k b=some (.int k (k.wrap (a+b)))/\kJ .sub k a k b=some (.int k (k.wrap (a-b)))/\kJ .mul k a k b=some (.int k (k.wrap (a*b)))/\
  kJ .eql k a k b=some (.bool (a==b))/\kJ .neq k a k b=some (.bool (a !=b))/\kJ .lss k a k b=some (.bool (decide (a<b)))/\kJ .leq k a k b=some (.bool (decide (a<=b)))/\
  kJ .gtr k a k b=some (.bool (decide (b<a)))/\kJ .geq k a k b=some (.bool (decide (b<=a)))/\
  kJ .and k a k b=some (.int k (bitsOf .and k a b))/\kJ .or k a k b=some (.int k (bitsOf .or k a b))/\kJ .xor k a k b=some (.int k (bitsOf .xor k a b))/\kJ .andNot k a k b=some (.int k (bitsOf .andNot k a b)):=by
 simp[kJ]
theorem aeo {k:IntKind} {a b:Int} (h:b≠0):kJ .quo k a k b=some (.int k (k.wrap (a.tdiv b))):=by simp[kJ,h]
theorem aep {k:IntKind} {a b:Int} (h:b≠0):kJ .rem k a k b=some (.int k (a.tmod b)):=by simp[kJ,h]
theorem UF (a b:axa):
  p5 .eql a b=some (.bool (a==b))/\p5 .neq a b=some (.bool !(a==b))/\p5 .lss a b=some (.bool (Op.bytesLess a b))/\
  p5 .leq a b=some (.bool (Op.bytesLess a b||a==b))/\p5 .gtr a b=some (.bool !(Op.bytesLess a b||a==b))/\p5 .geq a b=some (.bool !(Op.bytesLess a b)):=by
 refine⟨rfl,rfl,rfl,rfl,rfl,rfl⟩
theorem UG:(∀b,un .not (.bool b)=some (.bool !b))/\(un .not .gw=some .gw)/\(∀k n,un .neg (.int k n)=some (.int k (k.wrap (0-n)))):=⟨λ_=>rfl,rfl,λ_ _=>rfl⟩
def ML:p2->Option UInt8->Option I
 | .str,some c=>some (.int .u8 c.toNat)
 |_,_=>none
theorem UH (C:cj) (T:TypeId) (l:axa) (k:IntKind) (n:Int):idx C T (.str l) (.int k n)=ML (C.T T).k (bm l n):=by
 simp only[idx,bm];generalize (C.T T).k=nR;cases nR<;>first|rfl|(simp only[ML];split<;>first|rfl|(cases l[n.toNat]? <;>rfl))
def MM (C:cj):p2->Option I->Option I
 | .slice e,some d=>if(C.T e).ok=true/\d.wd=(C.T e).sz then some (.ref d)else none
 |_,_=>none
theorem UI (C:cj) (s:ak) (T:TypeId) (xs:axi) (k:IntKind) (n:Int):ks C s T (.slice xs) (.int k n)=MM C (C.T T).k (bm xs n):=by
 simp only[ks,bm];generalize (C.T T).k=nR;cases nR<;>first|rfl|skip
 simp only[MM];by_cases bb:0<=n
 .simp only[bb,true_and,if_true];split
  .cases xs[n.toNat]? <;>simp[*]
  .cases xs[n.toNat]? <;>simp[*]
 .simp only[bb,false_and,if_false]
def Ef (C:cj) (y:Nat) (q:axd) (n:Int):p2->Option I->Option I
 | .slice e,some (.aj sz xs)=>if(bm xs n).isSome=true/\(C.T e).ok=true/\sz=(C.T e).sz then some (.ax y (q++[n.toNat]))else none
 |_,_=>none
theorem UJ (C:cj) (s:ak) (T:TypeId) (y:Nat) (q:axd) (k:IntKind) (n:Int):ks C s T (.h y q) (.int k n)=Ef C y q n (C.T T).k (I.sub q (s y)):=by
 simp only[ks];generalize (C.T T).k=nR;cases nR<;>first|rfl|skip
 rename_i e;cases aa:I.sub q (s y)with
 |none=>simp[Ef]
 |some d=>
  cases d<;>first
   |(simp[Ef];done)
   |skip
  rename_i sz xs;have hg:(bm xs n).isSome=true↔0<=n/\n.toNat<xs.length:=by
   unfold bm;split<;>simp_all<;>omega
  simp only[Ef,hg];by_cases bb:0<=n<;>by_cases ad:(C.T e).ok=true<;>simp[bb,ad]
def AY:p2->ak->Option axa->Option (I×ak)
 | .str,s,some t=>some (.str t,s)
 |_,_,_=>none
def AZ (C:cj):p2->ak->axi->Option axi->Option (I×ak)
 | .slice e,s,xs,some t=>if(C.T e).ok=true/\∀d∈xs,d.wd=(C.T e).sz then some (.slice t,s)else none
 |_,_,_,_=>none
theorem UK (C:cj) (s:ak) (T:TypeId) (l:axa):
  (∀k a c_ b,ix C s T (.str l) (some (.int k a)) (some (.int c_ b))=AY (C.T T).k s (gC l a b))/\
  (∀c_ b,ix C s T (.str l) none (some (.int c_ b))=AY (C.T T).k s (gC l 0 b))/\
  (∀k a,ix C s T (.str l) (some (.int k a)) none=AY (C.T T).k s (gC l a l.length)):=by
 have e:∀(fF ag:Option I) (a b:Int),(jr 0 fF=if 0<=a then some a.toNat else none)->(jr l.length ag=if 0<=b then some b.toNat else none)->ix C s T (.str l) fF ag=AY (C.T T).k s (gC l a b):=by
  intro fF ag a b ad ae;simp only[ix];generalize (C.T T).k=nR;cases nR<;>first|rfl|skip
  simp only[ad,ae,gC];by_cases bl:0<=a<;>by_cases ab:0<=b<;>simp only[bl,ab,if_true,if_false,AY,true_and,false_and]
  .by_cases ar:a<=b/\b<=l.length
   .rw[if_pos ⟨by omega,by omega⟩,if_pos ar]
   .rw[if_neg (λh=>ar ⟨by omega,by omega⟩),if_neg ar]
  .rw[if_neg (by omega)]
 exact⟨λk a c_ b=>e _ _ a b rfl rfl,λc_ b=>e _ _ 0 b rfl rfl,λk a=>e _ _ a l.length rfl (by simp[jr])⟩
theorem UL (C:cj) (s:ak) (T:TypeId) (xs:axi):
  (∀k a c_ b,ix C s T (.slice xs) (some (.int k a)) (some (.int c_ b))=AZ C (C.T T).k s xs (gC xs a b))/\
  (∀c_ b,ix C s T (.slice xs) none (some (.int c_ b))=AZ C (C.T T).k s xs (gC xs 0 b))/\
  (∀k a,ix C s T (.slice xs) (some (.int k a)) none=AZ C (C.T T).k s xs (gC xs a xs.length)):=by
 have e:∀(fF ag:Option I) (a b:Int),(jr 0 fF=if 0<=a then some a.toNat else none)->(jr xs.length ag=if 0<=b then some b.toNat else none)->ix C s T (.slice xs) fF ag=AZ C (C.T T).k s xs (gC xs a b):=by
  intro fF ag a b ad ae;simp only[ix];generalize (C.T T).k=nR;cases nR<;>first|rfl|skip
  simp only[ad,ae,gC];by_cases bl:0<=a<;>by_cases ab:0<=b<;>simp only[bl,ab,if_true,if_false,AZ,true_and,false_and]
  .by_cases ar:a<=b/\b<=xs.length
   .rw[if_pos ar];have ad:a.toNat<=b.toNat:=by omega
    have ae:b.toNat<=xs.length:=by omega
    simp only[ad,ae,true_and]
   .rw[if_neg (λh=>ar ⟨by omega,by omega⟩),if_neg ar]
  .rw[if_neg (by omega)]
 exact⟨λk a c_ b=>e _ _ a b rfl rfl,λc_ b=>e _ _ 0 b rfl rfl,λk a=>e _ _ a xs.length rfl (by simp[jr])⟩
def Eg (q:axd):Option I->Option I
 |some d=>I.sub q d
 |none=>none
theorem UM:(∀d,I.sub [] d=some d)/\(∀k q aD,I.sub (k::q) (.agg aD)=Eg q aD[k]?)/\(∀k q aD,I.sub (k::q) (.tuple aD)=Eg q aD[k]?)/\(∀k q sz xs,I.sub (k::q) (.aj sz xs)=Eg q xs[k]?)/\
  (∀q d,I.sub (0::q) (.aM d)=I.sub q d)/\(∀q d,Eg q (some d)=I.sub q d)/\
  (∀k q a b,I.sub (k::q) (.int a b)=none):=by
 refine⟨λd=>by simp[I.sub],?_,?_,?_,λq d=>by simp[I.sub],λ_ _=>rfl,λ_ _ _ _=>by simp[I.sub]⟩
 .intro k q aD;simp only[I.sub];cases aD[k]? <;>rfl
 .intro k q aD;simp only[I.sub];cases aD[k]? <;>rfl
 .intro k q sz aD;simp only[I.sub];cases aD[k]? <;>rfl
def UN (k:Nat) (q:axd) (n:I) (aD:axi):Option I->I
 |some d=>.agg (aD.set k (I.put q n d))
 |none=>.agg aD
def iB (k:Nat) (q:axd) (n:I) (aD:axi):Option I->I
 |some d=>.tuple (aD.set k (I.put q n d))
 |none=>.tuple aD
def UO (k:Nat) (q:axd) (n:I) (sz:Nat) (xs:axi):Option I->I
 |some d=>.aj sz (xs.set k (I.put q n d))
 |none=>.aj sz xs
theorem UP:(∀n d,I.put [] n d=n)/\(∀k q n aD,I.put (k::q) n (.agg aD)=UN k q n aD aD[k]?)/\(∀k q n aD,I.put (k::q) n (.tuple aD)=iB k q n aD aD[k]?)/\
  (∀k q n sz xs,I.put (k::q) n (.aj sz xs)=UO k q n sz xs xs[k]?)/\(∀q n d,I.put (0::q) n (.aM d)= .aM (I.put q n d))/\
  (∀k q n aD d,UN k q n aD (some d)= .agg (aD.set k (I.put q n d)))/\(∀k q n aD d,iB k q n aD (some d)= .tuple (aD.set k (I.put q n d)))/\
  (∀k q n sz xs d,UO k q n sz xs (some d)= .aj sz (xs.set k (I.put q n d))):=by
 refine⟨λn d=>by simp[I.put],?_,?_,?_,λq n d=>by simp[I.put],λ_ _ _ _ _=>rfl,λ_ _ _ _ _=>rfl,λ_ _ _ _ _ _=>rfl⟩
 .intro k q n aD;simp only[I.put];cases aD[k]? <;>rfl
 .intro k q n aD;simp only[I.put];cases aD[k]? <;>rfl
 .intro k q n sz aD;simp only[I.put];cases aD[k]? <;>rfl
theorem MN:(∀k n,I.wd (.int k n)=1)/\(∀b,I.wd (.bool b)=1)/\(∀x,I.wd (.str x)=1)/\(∀x,I.wd (.slice x)=1)/\(∀n x,I.wd (.aj n x)=1)/\(∀x,I.wd (.ref x)=1)/\(∀x,I.wd (.aM x)=1)/\
  I.wd .a8=1/\I.wd .en=1/\I.wd .hole=1/\I.wd .gw=1/\(∀x y,I.wd (.h x y)=1)/\(∀x y,I.wd (.ax x y)=1)/\(∀x y,I.wd (.fn x y)=1)/\(∀aD,I.wd (.agg aD)=I.eY aD)/\(∀aD,I.wd (.tuple aD)=I.eY aD)/\I.eY []=0/\(∀d ds,I.eY (d::ds)=d.wd+I.eY ds):=by
 simp[I.wd,I.eY]
theorem MO (l:axa):(∀d∈l.map iK,d.wd=1)=True:=by simp[iK,I.wd]
theorem aeq {α:Type} {e:α->I} {n:Nat} (h:∀x,(e x).wd=n) (xs:List α):(∀d∈xs.map e,d.wd=n)=True:=by
 simp only[List.mem_map,eq_iff_iff,iff_true];rintro d ⟨x,_,rfl⟩;exact h x
theorem aer (C:cj) (s:ak) (A B:TypeId) (k c_:IntKind) (n:Int) (iL:(C.T A).ok=true) (iH:(C.T B).k= .int c_):kL C s A B (.int k n)=some (.int c_ (c_.wrap n)):=by
 simp only[kL,iL,iH,if_true]
theorem UQ (m:Int):iK (ti m)= .int .u8 (u8.wrap m):=by
 have h:0<=u8.wrap m/\u8.wrap m<256:=by rw[wrap_u8];omega
 simp only[iK,ti,UInt8.toNat_ofNat'];congr 1;omega
theorem MP (m:Int):((ti m).toNat:Int)=u8.wrap m:=by
 have h:=UQ m;simpa [iK]using h
section
variable {C:cj} {l:axh} {Q:Exit->ak->Prop} {s:ak}
theorem jh {ros:List cm} {k:axd} (h:dA C (aq l) ros none (λ_ s=>Q .normal (aq (hk k s)))):bk C (.eu ros (some k)) Q (aq l):=yG (λ_ _ h=>h) h
theorem MQ {ros:List cm} {cT:axb} {k:axd} (hlen:cT.length=ros.length) (h:dA C (aq l) ros (some []) (λacc s=>ka (ni cT) 0 [] (acc.getD []).reverse=true/\Q .normal (aq (hk k s)))):
  bk C (.jw ros cT (some k)) Q (aq l):=HS hlen h
theorem aes {a b:aB} (h:∀e6:Exit->ak->Prop,(∀s,eJ (bk C b Q) s->e6 .normal s)->(∀s,Q .ret s->e6 .ret s)->(∀i s,Q (.exit i) s->e6 (.exit i) s)->bk C a e6 s):bk C (.seq a b) Q s:=
 h _ (λ_ h=>h) (λ_ h=>h) (λ_ _ h=>h)
theorem eQ {ros:List cm} {k:axd} {b:aB} (h:dA C (aq l) ros none (λ_ s=>bk C b Q (aq (hk k s)))):bk C (.seq (.eu ros (some k)) b) Q (aq l):=yG (λ_ _ h=>.inl h) h
theorem i1 {ros:List cm} {cT:axb} {k:axd} {b:aB} (hlen:cT.length=ros.length) (h:dA C (aq l) ros (some []) (λacc s=>ka (ni cT) 0 [] (acc.getD []).reverse=true/\bk C b Q (aq (hk k s)))):
  bk C (.seq (.jw ros cT (some k)) b) Q (aq l):=HS (K:=λs=>eJ (bk C b Q) (aq (hk k s))) hlen (by
   have key:∀(os:List cm) (s:ak) (acc:Option (List fJ)),dA C s os acc (λacc s=>ka (ni cT) 0 [] (acc.getD []).reverse=true/\bk C b Q (aq (hk k s)))->
     dA C s os acc (λacc s=>ka (ni cT) 0 [] (acc.getD []).reverse=true/\eJ (bk C b Q) (aq (hk k s))):=by
    intro os;induction os with
    |nil=>intro s acc h;exact⟨h.1,.inl h.2⟩
    |cons o os ih=>
     intro s acc h;have mono:∀{s:ak} {bS:eT} {K ev:axd->I->ak->Prop},(∀a b c,K a b c->ev a b c)->qY C s bS K->qY C s bS ev:=by
      intro s bS K ev au h;cases bS with
      |call f args=>
       obtain⟨g,caps,ps,r,ad,j_,ae,aI,bc,bY,dt,dv,hN⟩:=h;exact⟨g,caps,ps,r,ad,j_,ae,aI,bc,bY,dt,dv,au _ _ _ hN⟩
      |shr bS=>obtain⟨av,s1,ad,ae,aI,bc⟩:=h;exact⟨av,s1,ad,ae,aI,au _ _ _ bc⟩
      |_=>obtain⟨av,s1,ad,ae⟩:=h;exact⟨av,s1,ad,au _ _ _ ae⟩
     simp only[dA,o3]at h⊢;split
     .rename_i hg;rw[hg]at h;exact mono (λ_ _ _=>ih _ _) h
     .rename_i t gM hg;rw[hg]at h;simp only at h;split
      .rename_i auf aa;rw[aa]at h;simp only at h;split
       .rename_i ab;rw[if_pos ab]at h;exact mono (λ_ _ _=>ih _ _) h
       .rename_i ab;rw[if_neg ab]at h;exact ih _ _ h
      .rename_i aa;rw[aa]at h;exact ih _ _ h
      .rename_i ad ae;split at h
       .exact ad _ (by assumption)
       .exact ae (by assumption)
       .exact h
   exact key _ _ _ h)
theorem iM {c:bC} {a b:aB} (ar:bw s c= .bool true) (h:bk C a Q s):bk C (.cond c a b) Q s:=by simp only[bk,ar,if_true];exact h
theorem nW {c:bC} {a b:aB} (ar:bw s c= .bool false) (h:bk C b Q s):bk C (.cond c a b) Q s:=by simp only[bk,ar];exact h
theorem aet {c:bC} {a b:aB} (ar:bw s c= .gw) (ad:bk C a Q s) (ae:bk C b Q s):bk C (.cond c a b) Q s:=by simp only[bk,ar];exact⟨ad,ae⟩
theorem aeu {id:Nat} {b:aB} (h:∀e6:Exit->ak->Prop,(∀s,Q .normal s->e6 .normal s)->(∀s,Q .ret s->e6 .ret s)->(∀s,Q .normal s->e6 (.exit id) s)->(∀i s,i≠id->Q (.exit i) s->e6 (.exit i) s)->bk C b e6 s):bk C (.block id b) Q s:=
 h (AO id Q) (λ_ h=>h) (λ_ h=>h) (λs h=>by simp only[AO,if_true];exact h) (λi s ag h=>by simp only[AO,if_neg ag];exact h)
theorem c7 {id:Nat} (h:Q (.exit id) s):bk C (.exit id) Q s:=h
theorem aw (h:Q .ret s):bk C .ret Q s:=h
theorem aJ (h:Q .normal s):bk C .skip Q s:=h
def cX (C:cj) (b:aB) (Q:Exit->ak->Prop) (s:ak):Prop:=∀Z:ak->Prop,(∀aH,bk C b (andThen (eJ Z) Q) aH->Z aH)->Z s
theorem db {b:aB} (h:eJ (cX C b Q) s):bk C (.loop b) Q s:=h
theorem aev {b:aB} (h:∀e6:Exit->ak->Prop,(∀s,eJ (cX C b Q) s->e6 .normal s)->(∀s,Q .ret s->e6 .ret s)->(∀i s,Q (.exit i) s->e6 (.exit i) s)->bk C b e6 s):cX C b Q s:=by
 intro Z AQ;refine AQ s (Mt b ?_ (h (andThen (eJ (cX C b Q)) Q) (λ_ h=>h) (λ_ h=>h) (λ_ _ h=>h)));intro e aH bB;cases e with
 |normal=>exact AP (λs h=>h Z AQ) aH bB
 |_=>exact bB
theorem aY {cW:axh} (h:cW.map (·.2)=cW.map λp=>s p.1):yC s cW:=by
 intro p ax;left;induction cW with
 |nil=>cases ax
 |cons a cW ih=>
  simp only[List.map_cons,List.cons.injEq]at h;rcases List.mem_cons.1 ax with rfl|ax
  .exact h.1
  .exact ih h.2 ax
end
section
variable {C:cj} {l:axh} {Q:Exit->ak->Prop} {s:ak} {os ros:List cm} {K:Option (List fJ)->ak->Prop} {dst:Option Nat}
theorem UR (l:axh):(∀n,bw (aq l) (.t n)=uT n (aq l n))/\(∀av,bw (aq l) (.c av)=av)/\(∀g,bw (aq l) (.f g)= .fn g []):=⟨λ_=>rfl,λ_=>rfl,λ_=>rfl⟩
theorem US:(∀t,aq [] t= .hole)/\(∀u d (l:axh) t,aq ((u,d)::l) t=if t=u then d else aq l t):=⟨λ_=>rfl,λ_ _ _ _=>rfl⟩
theorem UT (s:ak):hk [] s=[]/\(∀t k,hk (t::k) s=(t,s t)::hk k s):=⟨rfl,λ_ _=>rfl⟩
theorem UU (s:ak):(∀d,k6 s (some d)=some (d,s))/\(∀s1,dV (some s1)=some (.hole,s1))/\lW s []=[]/\(∀x xs,lW s (x::xs)=bw s x::lW s xs)/\w6 s []=[]/\(∀k x xs,w6 s ((k,x)::xs)=(k,bw s x)::w6 s xs)/\
  Ed s none=none/\(∀x,Ed s (some x)=some (bw s x))/\(∀b x y,Us s (.bool b) x y=some (if b=true then x else y,s)):=
 ⟨λ_=>rfl,λ_=>rfl,rfl,λ_ _=>rfl,rfl,λ_ _ _=>rfl,rfl,λ_=>rfl,λb _ _=>by cases b<;>rfl⟩
theorem UW (C:cj):(∀e d,MM C (.slice e) (some d)=if(C.T e).ok=true/\d.wd=(C.T e).sz then some (.ref d)else none)/\
  (∀y q n e sz xs,Ef C y q n (.slice e) (some (.aj sz xs))=if(bm xs n).isSome=true/\(C.T e).ok=true/\sz=(C.T e).sz then some (.ax y (q++[n.toNat]))else none)/\
  (∀e s xs t,AZ C (.slice e) s xs (some t)=if(C.T e).ok=true/\∀d∈xs,d.wd=(C.T e).sz then some (.slice t,s)else none):=
 ⟨λ_ _=>rfl,λ_ _ _ _ _ _=>rfl,λ_ _ _ _=>rfl⟩
theorem UX:(∀b,MK .bool b=some (.bool b))/\(∀c,ML .str (some c)=some (.int .u8 c.toNat))/\(∀s t,AY .str s (some t)=some (.str t,s))/\(∀q d,Eg q (some d)=I.sub q d):=
 ⟨λ_=>rfl,λ_=>rfl,λ_ _=>rfl,λ_ _=>rfl⟩
theorem UY (sz bytes:Nat) (z:I):(∀k,hA.ok ⟨.int k,sz,bytes,z⟩=true)/\hA.ok ⟨.bool,sz,bytes,z⟩=true/\hA.ok ⟨.str,sz,bytes,z⟩=true/\(∀e,hA.ok ⟨.ptr e,sz,bytes,z⟩=true)/\(∀e,hA.ok ⟨.slice e,sz,bytes,z⟩=true)/\(∀e,hA.ok ⟨.struct e,sz,bytes,z⟩=true)/\hA.ok ⟨.fn,sz,bytes,z⟩=true:=by
 simp[hA.ok]
theorem UZ (sz bytes:Nat) (z:I):(∀k,hA.flat ⟨.int k,sz,bytes,z⟩=true)/\hA.flat ⟨.bool,sz,bytes,z⟩=true/\hA.flat ⟨.str,sz,bytes,z⟩=true/\(∀e,hA.flat ⟨.ptr e,sz,bytes,z⟩=true)/\(∀e,hA.flat ⟨.slice e,sz,bytes,z⟩=true)/\(∀e,hA.flat ⟨.struct e,sz,bytes,z⟩=false)/\hA.flat ⟨.fn,sz,bytes,z⟩=true:=by
 simp[hA.flat]
theorem Eh (c:UInt8) (k:IntKind) (au:k≠.i8):k.wrap (c.toNat:Int)=(c.toNat:Int):=by
 have:=c.toNat_lt;cases k<;>first|(exact(au rfl).elim)|(simp[wrap,IntKind.bits,signed];try omega)
theorem MR (c:UInt8):i64.wrap (c.toNat:Int)=(c.toNat:Int)/\u64.wrap (c.toNat:Int)=(c.toNat:Int)/\u8.wrap (c.toNat:Int)=(c.toNat:Int)/\i32.wrap (c.toNat:Int)=(c.toNat:Int)/\u32.wrap (c.toNat:Int)=(c.toNat:Int):=
 ⟨Eh c _ (by simp),Eh c _ (by simp),Eh c _ (by simp),Eh c _ (by simp),Eh c _ (by simp)⟩
theorem cI {k:axd} {K:ak->Prop} (cW:axh) (h:∀P:axh->Prop,P cW->dA C (aq l) ros none (λ_ s=>P (hk k s))) (au:K (aq cW)):dA C (aq l) ros none (λ_ s=>K (aq (hk k s))):=
 h (λl=>K (aq l)) au
theorem ig {k:axd} {pz:axb} {K:ak->Prop} (cW:axh) (h:∀P:axh->Prop,P cW->dA C (aq l) ros (some []) (λacc s=>ka pz 0 [] (acc.getD []).reverse=true/\P (hk k s))) (au:K (aq cW)):
  dA C (aq l) ros (some []) (λacc s=>ka pz 0 [] (acc.getD []).reverse=true/\K (aq (hk k s))):=
 h (λl=>K (aq l)) au
theorem aV.aew (bK:C.fz) {f:FuncId} {fn:Func} {c:Code} {dU:aB} {fx:axd} {as outs:axi} {r:I} (bF:C.P.funcs[f]? =some fn) (ab:fn.body=some c)
  (ml:(fn.name== "runtime.NumGoroutine")=false) (aa:fV ⟨fn.ntmps,fx⟩ c=some dU.strip) (aS:as.length<=fn.ntmps)
  (h:∀Q:Exit->ak->Prop,(∀s,eJ (Ends C fx fn.results.toList r outs) s->Q .ret s)->(∀s,eJ (Ends C fx fn.results.toList r outs) s->Q .normal s)->bk C dU Q (aq (num 0 as))) (ax:dU.plain=true:=by kernel_rfl):aV C f as r outs:=by
 refine aV.of_wp bK bF ab ml aa aS ?_ ax;rw[HK];exact h _ (λs h=>⟨.inr rfl,h⟩) (λs h=>⟨.inl rfl,h⟩)
def MS:axi->I
 |[d]=>d
 |ds=>.tuple ds
theorem kb {fx:axd} {fI:List ResultVar} {r:I} {outs:axi} (ds:axi) (ad:fI.map (tD C s)=ds.map some) (ae:r=MS ds) (aI:(fI.map lx).Nodup)
  (bc:∀(i:Nat) (o:I),outs[i]? =some o->o= .hole\/(o=s i/\o.hB=true/\i∈fx/\i∉fI.map lx)):Ends C fx fI r outs s:=.inl ⟨ds,ad,by subst ae;cases ds with|nil=>rfl|cons a t=>cases t<;>rfl,aI,bc⟩
theorem U0 {fx:axd} {fI:List ResultVar} {r:I} (t:Nat) (ds:axi) {y:Nat} {q:axd} {d:I} {s1:ak} (ae:r=MS ds:=by cases gl (by assumption);rfl) (bb:s t= .h y q:=by rfl) (au:dw s (.h y q)=some (d,s1):=by rfl) (ad:fI.map (tD C (fin s1 (some t) d))=ds.map some:=by rfl) (aI:(fI.map lx).Nodup:=by decide):Ends C fx fI r [] s:=
 .inr ⟨t,y,q,d,s1,bb,au,ds,ad,by subst ae;cases ds with|nil=>rfl|cons a t=>cases t<;>rfl,aI,λi o h=>by simp at h⟩
theorem aex {fx:axd} {fI:List ResultVar}:∀(i:Nat) (o:I),([]:axi)[i]? =some o->o= .hole\/(o=s i/\o.hB=true/\i∈fx/\i∉fI.map lx):=λi o h=>by simp at h
theorem U1:∀(as ds:axi),(o2 as ds).filter (·.g)=[]
 |[],_=>rfl
 |_::_,[]=>rfl
 |a::as,d::ds=>by simp only[o2,List.filter_cons];exact U1 as ds
theorem HU {f:bC} {args:List bC} {g:FuncId} {caps:axi} {K:axd->I->ak->Prop} (ds:axi) (r:I)
  (ad:bw (aq l) f= .fn g caps) (j_:I.hz caps=true) (lv:views (aq l) (lW (aq l) args++caps)=some ds)
  (bY:aV C g ds r []) (dt:r.res=true) (dv:I.fo (lW (aq l) args++caps)=[]\/r.cZ=true) (kN:K [] r (aq l)):qY C (aq l) (.call f args) K:=by
 obtain⟨aN,aU,aR,bW,cM,cg,b3⟩:=adP _ _ lv;refine⟨g,caps,o2 (lW (aq l) args++caps) ds,r,ad,j_,by rw[aN,Ee],λp ax=>(aR p ax).1,bW,by rw[aU];exact bY.outs cM.symm,dt,?_,by rw[cg,b3,U1];exact kN⟩;intro aC;refine⟨?_,λp ax=>by rw[(aR p ax).2.2.1];rfl⟩;rcases dv with dv|dv
 .exfalso;simp only[mG,List.any_eq_true]at aC;obtain⟨p,ax,fA⟩:=aC;have hm:=(aR p ax).2.2.2;have:p.a.aa=[]:=by
   have key:∀(as:axi) (a:I),a∈as->I.fo as=[]->a.aa=[]:=by
    intro as;induction as with
    |nil=>intro a h;cases h
    |cons b as ih=>
     intro a h he;simp only[I.fo,List.append_eq_nil_iff]at he;rcases List.mem_cons.1 h with rfl|h
     .exact he.1
     .exact ih a h he.2
   exact key _ _ hm dv
  rw[this]at fA;simp at fA
 .exact dv
theorem dR {f:bC} {args:List bC} {g:FuncId} {caps:axi} {ds:axi} {r:I} (bY:aV C g ds r [])
  (ad:bw (aq l) f= .fn g caps) (j_:I.hz caps=true) (lv:views (aq l) (lW (aq l) args++caps)=some ds)
  (dt:r.res=true) (dv:I.fo (lW (aq l) args++caps)=[]\/r.cZ=true)
  (kN:dA C (fin (aq l) dst r) os none K):dA C (aq l) (⟨dst,.call f args,none⟩::os) none K:=by
 simp only[dA,o3,tF];exact HU ds r ad j_ lv bY dt dv kN
theorem hL {a:List fJ} {f:bC} {args:List bC} {g:FuncId} {caps:axi} {ds:axi} {r:I} (bY:aV C g ds r [])
  (ad:bw (aq l) f= .fn g caps) (j_:I.hz caps=true) (lv:views (aq l) (lW (aq l) args++caps)=some ds)
  (dt:r.res=true) (dv:I.fo (lW (aq l) args++caps)=[]\/r.cZ=true)
  (kN:dA C (fin (aq l) dst r) os (some (kz (aq l) (use (aq l) (.call f args)) dst [] r::a)) K):dA C (aq l) (⟨dst,.call f args,none⟩::os) (some a) K:=by
 simp only[dA,o3,tF];exact HU ds r ad j_ lv bY dt dv kN
theorem iN {t:Nat} {b:Bool} {f:bC} {args:List bC} {g:FuncId} {caps:axi} {ds:axi} {r:I} (bY:aV C g ds r [])
  (ad:bw (aq l) f= .fn g caps) (j_:I.hz caps=true) (lv:views (aq l) (lW (aq l) args++caps)=some ds)
  (dt:r.res=true) (dv:I.fo (lW (aq l) args++caps)=[]\/r.cZ=true)
  (kN:dA C (fin (aq l) dst r) os none K):ly C l dst (.call f args) t b os none K (.bool b):=by
 simp only[ly,if_true];exact HU ds r ad j_ lv bY dt dv kN
theorem lz {a:List fJ} {t:Nat} {b:Bool} {f:bC} {args:List bC} {g:FuncId} {caps:axi} {ds:axi} {r:I} (bY:aV C g ds r [])
  (ad:bw (aq l) f= .fn g caps) (j_:I.hz caps=true) (lv:views (aq l) (lW (aq l) args++caps)=some ds)
  (dt:r.res=true) (dv:I.fo (lW (aq l) args++caps)=[]\/r.cZ=true)
  (kN:dA C (fin (aq l) dst r) os (some (kz (aq l) (t::use (aq l) (.call f args)) dst [] r::a)) K):ly C l dst (.call f args) t b os (some a) K (.bool b):=by
 simp only[ly,if_true];exact HU ds r ad j_ lv bY dt dv kN
theorem i6 (s:ak):views s []=some []/\(∀d ds,views s (d::ds)=(match view s d,views s ds with|some a,some b=>some (a::b)|_,_=>none))/\
  (∀k n,view s (.int k n)=some (.int k n))/\(∀b,view s (.bool b)=some (.bool b))/\(∀x,view s (.str x)=some (.str x))/\(∀x,view s (.slice x)=some (.slice x))/\(∀x,view s (.ref x)=some (.ref x))/\
  view s .a8=some .a8/\view s .en=some .en/\(∀aD,view s (.agg aD)=some (.agg aD))/\(∀f cap,view s (.fn f cap)=(views s cap).map (.fn f)):=by
 refine⟨rfl,λd ds=>?_,λ_ _=>rfl,λ_=>rfl,λ_=>rfl,λ_=>rfl,λ_=>rfl,rfl,rfl,λ_=>rfl,λ_ _=>by simp only[view]⟩;simp only[views];rfl
theorem b0 {α:Type} {u e:α->I} (h:∀x,(u x).share=e x) (xs:List α):I.shares (xs.map u)=xs.map e:=by
 rw[I.wF];simp[h]
theorem kO {α:Type} {u:α->I} (h:∀x,(u x).cZ=true) (xs:List α):I.ht (xs.map u)=true:=by
 induction xs with
 |nil=>rfl
 |cons x xs ih=>simp only[List.map_cons,I.ht,h,ih,Bool.and_self]
def w8 (s:ak) (H:axd):axh->Prop
 |[]=>True
 |p::l=>(p.2=s p.1\/((s p.1).tree=true/\fH (s p.1) p.2/\p.1∉H))/\w8 s H l
theorem ij {cW:axh} (H:axd) (nA:I.fo (cW.map (·.2))=H) (h:w8 s H cW):yC s cW:=by
 have key:∀(hP:axh),w8 s H hP->∀p∈hP,p.2=s p.1\/((s p.1).tree=true/\fH (s p.1) p.2/\p.1∉H):=by
  intro hP;induction hP with
  |nil=>intro _ p ax;cases ax
  |cons a hP ih=>
   intro h p ax;rcases List.mem_cons.1 ax with rfl|ax
   .exact h.1
   .exact ih h.2 p ax
 have aa:∀(hP:axh),∀da∈hP,∀u∈da.2.aa,u∈I.fo (hP.map (·.2)):=by
  intro hP;induction hP with
  |nil=>intro p ax;cases ax
  |cons a hP ih=>
   intro p ax u hu;simp only[List.map_cons,I.fo,List.mem_append];rcases List.mem_cons.1 ax with rfl|ax
   .exact .inl hu
   .exact .inr (ih p ax u hu)
 intro p ax;rcases key _ h p ax with ad|⟨ad,ae,aI⟩
 .exact .inl ad
 .refine .inr ⟨ad,ae,λda fj=>.inl λhm=>aI ?_⟩;rw[<-nA];exact aa cW da fj _ hm
theorem ik {H:axd}:w8 s H []:=trivial
theorem cF {H:axd} {t:Nat} {d:I} {cW:axh} (h:d=s t) (aC:w8 s H cW):w8 s H ((t,d)::cW):=⟨.inl h,aC⟩
theorem h6 {H:axd} {t:Nat} {d bI:I} {cW:axh} (e:s t=d) (aZ:d.tree=true) (al:fH d bI) (nA:t∉H) (aC:w8 s H cW):w8 s H ((t,bI)::cW):=⟨.inr ⟨by rw[e];exact aZ,by rw[e];exact al,nA⟩,aC⟩
theorem aey {d e:I} (aZ:d.tree=true) (aS:d.own=true) (h:d.share=e):fH d e:=by
 subst h;exact .share d aZ (λvs e=>by subst e;simp[I.own]at aS) (λo e=>by subst e;simp[I.own]at aS)
theorem U2 {a b:I} (h:fH a b):∀n,mh (List.replicate n a) (List.replicate n b)
 |0=>.nil
 |n+1=>by simp only[List.replicate_succ];exact .cons h (U2 h n)
theorem Ei {α:Type} {sz:Nat} {u:α->I} {z:α} {a:I} (h:fH a (u z)) (n:Nat):fH (.aj sz (List.replicate n a)) (.aj sz ((List.replicate n z).map u)):=by
 rw[List.map_replicate];exact .aj (U2 h n)
end
theorem MT {C:cj} {A B:TypeId} {c_:IntKind} (iL:(C.T A).ok=true) (iH:(C.T B).k= .int c_):∀s k n,kL C s A B (.int k n)=some (.int c_ (c_.wrap n)):=λs k n=>aer C s A B k c_ n iL iH
def U3:Option I->Option I
 |some (.aj 1 xs)=>(bytesOf xs).map .str
 |_=>none
theorem aez {C:cj} {A B e:TypeId} (iL:(C.T A).k= .slice e) (iH:(C.T B).k= .str) (he:(C.T e).k= .int .u8):
  (∀s xs,kL C s A B (.slice xs)=(bytesOf xs).map .str)/\(∀s,kL C s A B .a8=some (.str []))/\(∀s x q,kL C s A B (.h x q)=U3 (I.sub q (s x))):=by
 have DK:(C.T A).ok=true:=by simp[hA.ok,iL]
 refine⟨λs xs=>?_,λs=>?_,λs x q=>?_⟩
 .simp only[kL,DK,iL,iH,he,if_true]
 .simp only[kL,DK,iL,iH,he,if_true]
 .simp only[kL,DK,iL,iH,he,if_true];rfl
theorem aeA (xs:axi):U3 (some (.aj 1 xs))=(bytesOf xs).map .str:=rfl
theorem U4 (c:UInt8) (r:axi):bytesOf (iK c::r)=(bytesOf r).map (c::·):=by
 have:=c.toNat_lt;simp only[iK,bytesOf];rw[if_pos (by omega)];simp
theorem aeB:bytesOf []=some []/\
  (∀l:axa,bytesOf (l.map iK)=some l)/\
  (∀c r,bytesOf (.int .u8 (c.toNat:Int)::r)=(bytesOf r).map (c::·))/\
  (∀m r,bytesOf (.int .u8 (u8.wrap m)::r)=(bytesOf r).map (ti m::·)):=
 ⟨rfl,abL,λc r=>U4 c r,λm r=>by rw[<-UQ];exact U4 _ r⟩
theorem aeC {k:IntKind} {b:Int} (h:b≠0):∀a,kJ .quo k a k b=some (.int k (k.wrap (a.tdiv b))):=λ_=>aeo h
theorem yM {k:IntKind} {b:Int} (h:b≠0):∀a,kJ .rem k a k b=some (.int k (a.tmod b)):=λ_=>aep h
theorem jy {α:Type} {e:α->I} {n:Nat} (h:∀x,(e x).wd=n):∀xs:List α,(∀d∈xs.map e,d.wd=n)=True:=aeq h
theorem all_cons {P:I->Prop} (d:I) (ds:axi):(∀x∈d::ds,P x)=(P d/\∀x∈ds,P x):=by simp
theorem all_nil {P:I->Prop}:(∀x∈([]:axi),P x)=True:=by simp
def U5 (a b:axa):Option Unit->Option I
 |some _=>some (.str (a++b))
 |none=>none
theorem yN (a b:axa):p5 .add a b=U5 a b (ko (a.length+b.length)):=by
 simp only[p5,ko];split<;>rfl
theorem yO (a b:axa) (u:Unit):U5 a b (some u)=some (.str (a++b)):=rfl
theorem U6:(∀l:axd,[]++l=l)/\(∀a (l m:axd),(a::l)++m=a::(l++m)):=⟨λ_=>rfl,λ_ _ _=>rfl⟩
def U7 (C:cj) (e dI:TypeId):Bool:=(C.T e).ok&&((C.T e).zero.wd==(C.T e).sz)&&(flat (C.T e).zero).isSome&&Hq C e dI
def HV (C:cj) (e:TypeId) (xs:axi):Option (axi×ak)->Option (I×ak)
 |some (cL,s2)=>if(∀d∈cL,d.wd=(C.T e).sz)/\(room (C.T e).bytes (xs.length+cL.length)).isSome=true then some (.aj (C.T e).sz (xs++cL),s2)else none
 |none=>none
def MU (C:cj) (e:TypeId) (y:I) (o:Option Nat):Option (I×ak)->Option (I×ak)
 |some (.aj sz xs,s1)=>if sz=(C.T e).sz then HV C e xs (nT s1 (na o y))else none
 |_=>none
theorem aeD (b n:Nat):(room b n).isSome=true↔n*b<=140737488355328/\n<=9223372036854775807:=by unfold room;split<;>simp_all
theorem kc {C:cj} {T dI e:TypeId} (k3:(C.T T).k= .slice e) (gG:U7 C e dI=true):∀s x y,u1 C s T dI x y=MU C e y x.owner (tz C e s x):=by
 intro s x y;simp only[U7,Bool.and_eq_true,beq_iff_eq]at gG;rw[Ma,k3];simp only;rw[if_pos ⟨gG.1.1.1,gG.1.1.2,gG.1.2,gG.2⟩];generalize x.owner=o;cases tz C e s x with
 |none=>rfl
 |some p=>
  obtain⟨d,s1⟩:=p;cases d<;>first
   |rfl
   |(simp only[MU]
     split
     .rename_i h;subst h;generalize nT s1 (na o y)=z;cases z with
      |none=>rfl
      |some p=>simp only[HV,aeD]
     .rfl)
def U8:Option (I×ak)->Option (axi×ak)
 |some (.aj _ cL,s2)=>some (cL,s2)
 |_=>none
theorem kd (s:ak):nT s .a8=some ([],s)/\(∀cL,nT s (.slice cL)=some (cL,s))/\(∀l,nT s (.str l)=some (l.map iK,s))/\
  (∀a q,nT s (.h a q)=U8 (dw s (.h a q)))/\(∀n cL,U8 (some (.aj n cL,s))=some (cL,s)):=
 ⟨rfl,λ_=>rfl,λ_=>rfl,λ_ _=>by simp only[nT];rfl,λ_ _=>rfl⟩
theorem ke (C:cj) (e:TypeId):(∀s,tz C e s .a8=some (.aj (C.T e).sz [],s))/\(∀s a q,tz C e s (.h a q)=dw s (.h a q))/\
  (∀y o sz xs s1,MU C e y o (some (.aj sz xs,s1))=if sz=(C.T e).sz then HV C e xs (nT s1 (na o y))else none)/\
  (∀xs cL s2,HV C e xs (some (cL,s2))=if(∀d∈cL,d.wd=(C.T e).sz)/\(room (C.T e).bytes (xs.length+cL.length)).isSome=true then some (.aj (C.T e).sz (xs++cL),s2)else none):=
 ⟨λ_=>rfl,λ_ _ _=>rfl,λ_ _ _ _ _=>rfl,λ_ _ _=>rfl⟩
theorem gH:(∀d,na none d=d)/\(∀x d,na (some x) d=cK x d)/\(∀x q,I.owner (.h x q)=some x)/\I.owner .a8=none:=
 ⟨λ_=>rfl,λ_ _=>rfl,λ_ _=>rfl,rfl⟩
def U9 (s:ak) (x:Nat) (q:axd):Option I->Option (I×ak)
 |some d=>if d.plain=true then none else some (d,et (iW x s) x (I.put q d.dN (s x)))
 |none=>none
theorem U_ (s:ak) (x:Nat) (q:axd):dw s (.h x q)=U9 s x q (I.sub q (s x)):=by
 simp only[dw];cases I.sub q (s x)<;>rfl
theorem Va (s:ak):(∀x q d,U9 s x q (some d)=if d.plain=true then none else some (d,et (iW x s) x (I.put q d.dN (s x))))/\(∀k n,dw s (.int k n)=some (.int k n,s))/\(∀b,dw s (.bool b)=some (.bool b,s))/\(∀x,dw s (.str x)=some (.str x,s))/\
  (∀x,dw s (.slice x)=some (.slice x,s))/\(∀x,dw s (.ref x)=some (.ref x,s))/\(∀x,dw s (.agg x)=some (.agg x,s))/\dw s .a8=some (.a8,s)/\dw s .en=some (.en,s):=
 ⟨λ_ _ _=>rfl,λ_ _=>rfl,λ_=>rfl,λ_=>rfl,λ_=>rfl,λ_=>rfl,λ_=>rfl,rfl,rfl⟩
theorem Vb (l:axh) (t:Nat) (d:I):et (aq l) t d=aq ((t,d)::l):=HL l t d
theorem Vc:(∀n x,I.dN (.aj n x)= .hole)/\(∀x,I.dN (.aM x)= .hole)/\(∀aD,I.dN (.agg aD)= .agg (I.nN aD))/\(∀aD,I.dN (.tuple aD)= .tuple (I.nN aD))/\I.nN []=[]/\(∀d ds,I.nN (d::ds)=d.dN::I.nN ds)/\
  (∀k n,I.dN (.int k n)= .int k n)/\(∀b,I.dN (.bool b)= .bool b)/\(∀x,I.dN (.str x)= .str x)/\(∀x,I.dN (.slice x)= .slice x)/\(∀x,I.dN (.ref x)= .ref x)/\I.dN .a8= .a8/\I.dN .en= .en/\I.dN .hole= .hole:=by
 simp[I.dN,I.nN]
def yP:Option I->Option I
 |some d=>(match d with| .tuple _=>none| .b4 _=>none|d=>if d.plain=true then none else some d.share)
 |none=>none
def yQ:Option I->Option I
 |some d=>(match d with| .tuple _=>none|d=>some (.ref d.share))
 |none=>none
theorem i7 (s:ak) (x:Nat) (q:axd):view s (.h x q)=yP (I.sub q (s x))/\view s (.ax x q)=(if I.gD q (s x)=true then yQ (I.sub q (s x))else none):=by
 constructor
 .simp only[view];rfl
 .simp only[view];rfl
theorem i_:(∀n xs,yP (some (.aj n xs))=some (.slice (I.shares xs)))/\(∀d,yP (some (.aM d))=some (.ref d.share))/\(∀aD,yP (some (.agg aD))=if I.hz aD=true then none else some (.agg (I.shares aD)))/\
  (∀aD,yQ (some (.agg aD))=some (.ref (.agg (I.shares aD))))/\(∀k n,yQ (some (.int k n))=some (.ref (.int k n)))/\(∀x,yQ (some (.str x))=some (.ref (.str x))):=
 ⟨λ_ _=>by simp[yP,I.plain,I.share],λ_=>by simp[yP,I.plain,I.share],λaD=>by cases h:I.hz aD<;>simp[yP,I.plain,I.share,h],λ_=>by simp[yQ,I.share],λ_ _=>by simp[yQ,I.share],λ_=>by simp[yQ,I.share]⟩
theorem cY:(∀n xs,I.share (.aj n xs)= .slice (I.shares xs))/\(∀d,I.share (.aM d)= .ref d.share)/\(∀xs,I.share (.slice xs)= .slice (I.shares xs))/\(∀d,I.share (.ref d)= .ref d.share)/\(∀aD,I.share (.agg aD)= .agg (I.shares aD))/\(∀aD,I.share (.tuple aD)= .tuple (I.shares aD))/\
  (∀k n,I.share (.int k n)= .int k n)/\(∀b,I.share (.bool b)= .bool b)/\(∀x,I.share (.str x)= .str x)/\I.share .a8= .a8/\I.share .en= .en/\I.shares []=[]/\(∀d ds,I.shares (d::ds)=d.share::I.shares ds):=by
 simp[I.share,I.shares]
def nX (sz:Nat):Option (axi×ak)->Option (I×ak)
 |some (ds,s1)=>some (.aj sz ds,s1)
 |none=>none
def eb:Option (axi×ak)->Option (I×ak)
 |some (ds,s1)=>some (.agg ds,s1)
 |none=>none
theorem Ej {C:cj} {T e n sz:Nat} {fc:axi} (k3:(C.T T).k= .slice e) (fg:(C.T e).sz=sz) (b9:List.replicate n (C.T e).zero=fc)
  (gG:((C.T e).ok&&((C.T e).zero.wd==sz)&&(flat (C.T e).zero).isSome&&(sz !=0)&&decide (n*sz<=16777216))=true):∀s ps,dO C s T n ps=nX sz (ey (λk=>some (k*sz,sz)) s fc [] ps):=by
 intro s ps;subst fg;simp only[Bool.and_eq_true,beq_iff_eq,bne_iff_ne,decide_eq_true_eq]at gG;obtain⟨⟨⟨⟨ad,ae⟩,aI⟩,bc⟩,bY⟩:=gG;unfold dO;rw[k3];simp only;rw[if_pos ⟨ad,ae,aI,bc,bY⟩,b9];cases ey (λk=>some (k*(C.T e).sz,(C.T e).sz)) s fc [] ps<;>rfl
theorem mI {C:cj} {T:Nat} {aD:List (TypeId×Nat)} {fc:axi} (k3:(C.T T).k= .struct aD) (b9:(C.T T).zero= .agg fc)
  (gG:((flat (.agg fc)).isSome&&aD.all λf=>(C.T f.1).ok)=true):∀s ps,gx C s T ps=eb (ey (λk=>(aD[k]?).map λf=>(f.2,(C.T f.1).sz)) s fc [] ps):=by
 intro s ps;simp only[Bool.and_eq_true,List.all_eq_true]at gG;unfold gx;rw[k3,b9];simp only;rw[if_pos ⟨gG.1,gG.2⟩];cases ey (λk=>(aD[k]?).map λf=>(f.2,(C.T f.1).sz)) s fc [] ps<;>rfl
def dF (place:Nat->Option (Nat×Nat)) (k:Nat) (fc:axi) (os:List (Option Nat)) (r:axh) (o:Option Nat):Option (Nat×Nat)->Option I->Option (I×ak)->Option (axi×ak)
 |some (off,n),some z,some (d,s1)=>(match d with
  | .tuple _=>none
  |d=>if d.wd=n/\z.wd=n/\I.eY (fc.take k)=off then ey place s1 (fc.set k d) (os++[o]) r else none)
 |_,_,_=>none
theorem lA (place:Nat->Option (Nat×Nat)) (s:ak) (fc:axi) (os:List (Option Nat)):ey place s fc os []=some (fc,s)/\
  (∀k a r,ey place s fc os ((k,a)::r)=dF place k fc os r (nw os a).owner (place k) fc[k]? (dw s (nw os a))):=by
 refine⟨rfl,λk a r=>?_⟩;simp only[ey];cases dw s (nw os a)with
 |none=>cases place k<;>cases fc[k]? <;>rfl
 |some p=>
  obtain⟨d,s1⟩:=p;cases place k with
  |none=>cases fc[k]? <;>rfl
  |some q=>cases fc[k]? <;>(cases d<;>rfl)
theorem lB:(∀a,nw [] a=a)/\(∀o os a,nw (o::os) a=nw os (na o a)):=⟨λ_=>rfl,λ_ _ _=>rfl⟩
theorem eo:(∀k n,I.owner (.int k n)=none)/\(∀b,I.owner (.bool b)=none)/\(∀x,I.owner (.str x)=none)/\(∀x,I.owner (.slice x)=none)/\(∀x,I.owner (.ref x)=none)/\(∀x,I.owner (.agg x)=none)/\I.owner .en=none/\I.owner .a8=none/\(∀x q,I.owner (.h x q)=some x):=
 ⟨λ_ _=>rfl,λ_=>rfl,λ_=>rfl,λ_=>rfl,λ_=>rfl,λ_=>rfl,rfl,rfl,λ_ _=>rfl⟩
end Go.ef
