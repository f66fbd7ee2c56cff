/- Part of a proof that a law returns true for every input. No condition. -/
import Derived.Test.YtcmimclaknmnbaaGreatDoorFwE
import Derived.Orders
import Derived.KernelRfl
import Derived.Test.YtcmimclaknmnbaaGreatDoorFwA
namespace Go.cC
open Go.IntKind Nat Or
section
variable {C:bx} {w0 w:World} {F0 X:Nat->Prop} {n:Fr} {ρ:Nat->Value} {s s1:an} {a:Act} {av:I} {Q:Exit->Act->World->Prop}
def bt.un (o:bt):bt:=⟨o.dst,o.bz.base,o.guard⟩
theorem xL {ops:Array Oper}:∀{os:List Oper} {rs:List bt},kN n ops os=some rs->os.length=rs.length/\∀(i:Nat) (o:Oper),os[i]? =some o->∃r,rs[i]? =some r/\lh n ops o=some r:=by
 intro os;induction os with
 |nil=>intro rs h;simp only[kN,Option.some.injEq]at h;subst h;exact⟨rfl,λi o h=>by simp at h⟩
 |cons o os ih=>
  intro rs h;simp only[kN]at h;split at h
  .rename_i r Ou h1 ab;simp only[Option.some.injEq]at h;subst h;obtain⟨bT,b2⟩:=ih ab;refine⟨by simp[bT],λi kj a1=>?_⟩;cases i with
   |zero=>simp at a1;subst a1;exact⟨r,rfl,h1⟩
   |succ i=>simpa using b2 i kj (by simpa using a1)
  .cases h
theorem Ar {o:Oper} {y:Nat->anV} (h:o.guard=none):Region.wanted o y=true:=by simp[Region.wanted,h]
theorem Yi (h:Rel w0 F0 X n ρ s a w) {ops:Array Oper} {j t:Nat} (bo:(ops[j]?).bind (·.dst)=some t):
  (∀b,s t= .bool b->yielded ops a.tmps j=some b)/\(s t= .tuple []->yielded ops a.tmps j=none):=by
 obtain⟨ae,U,bc,F,S,ax⟩:=h;have hP:=ax.cD t;refine⟨λb R=>?_,λR=>?_⟩
 .rw[R]at hP;have aD:=tF hP;simp only[yielded,bo,Option.bind_some];rw[Array.getD_eq_getD_getElem?]at aD;cases hg:a.tmps[t]? with
  |none=>rw[hg]at aD;simp[undef]at aD
  |some v=>rw[hg]at aD;simp at aD;subst aD;rfl
 .rw[R]at hP;obtain⟨⟨arr,h1,ab⟩,_⟩:=(aF.b_ (d:=.tuple []) rfl).1 hP;simp only[yielded,bo,Option.bind_some];rw[Array.getD_eq_getD_getElem?]at h1;cases hg:a.tmps[t]? with
  |none=>rfl
  |some v=>rw[hg]at h1;simp at h1;subst h1;rfl
theorem vB (bb:C.Ok) {ops:Array Oper} {ros:List bt} {l2:anU} {K:an->Prop} (aN:∀aA bN aq,K aA->Rel w0 F0 X n ρ aA bN aq->wpOps C.P ops Q l2 bN aq):
  ∀(l:anU),(∀i∈l,(ops[i]? =none->ros[i]? =none)/\∀o,ops[i]? =some o->∃r,ros[i]? =some r/\lh n ops o=some r.un)->
  ∀(s:an) (a:Act) (w:World),ko C ros s l K->Rel w0 F0 X n ρ s a w->wpOps C.P ops Q (l++l2) a w:=by
 intro l;induction l with
 |nil=>intro _ s a w h ax;exact aN s a w h ax
 |cons i l ih=>
  intro jD s a w h ax;replace ih:=ih λi ak=>jD i (List.mem_cons_of_mem _ ak);rw[List.cons_append];simp only[wpOps];cases a1:ops[i]? with
  |none=>
   simp only[ko,(jD i (by simp)).1 a1]at h;exact ih s a w h ax
  |some o=>
   obtain⟨r,h1,ab⟩:=(jD i (by simp)).2 o a1;simp only[ko,h1]at h;show(if Region.wanted o (yielded ops a.tmps)=true then o.wp C.P a w (wpOps C.P ops Q (l++l2)) Q\/(o.asks C.P a w/\LetsOut Q)else wpOps C.P ops Q (l++l2) (a.put o.dst undef) w);simp only[lh]at ab;split at ab
   .rename_i sI;split at ab
    .rename_i g hg;obtain⟨rd,bz,rg⟩:=r;simp only[bt.un,Option.some.injEq,bt.mk.injEq]at ab;obtain⟨rfl,bH,rfl⟩:=ab;simp only[mS]at h;have run:∀(c8:an->Prop),(∀aA,c8 aA->ko C ros aA l K)->pO C s bz (λav s1=>c8 (fin s1 o.dst av))->o.wp C.P a w (wpOps C.P ops Q (l++l2)) Q:=
      λc8 hK hw=>Yg bb ax bH sI hw (λaA bN aq hk dA=>ih aA bN aq (hK aA hk) dA)
     cases pP:o.guard with
     |none=>
      rw[pP]at hg;simp only[An,Option.some.injEq]at hg;subst hg;simp only at h;rw[if_pos (Ar pP)];exact .inl (run _ (λ_ h=>h) h)
     |some HC=>
      obtain⟨j,b⟩:=HC;rw[pP]at hg;simp only[An]at hg;split at hg
      .rename_i t aL;simp only[Option.some.injEq]at hg;subst hg;simp only at h;obtain⟨f_,iW⟩:=Yi ax aL;have Ov:∀(c8:ko C ros (fin s o.dst (.tuple [])) l K),wpOps C.P ops Q (l++l2) (a.put o.dst undef) w:=λc8=>ih _ _ _ c8 (Rel.skip ax sI);split at h
       .rename_i e8 U;have hy:=f_ e8 U;split at h
        .rename_i R;subst R;rw[if_pos (by simp[Region.wanted,pP,hy])];exact .inl (run _ (λ_ h=>h) h)
        .rename_i R;rw[if_neg (by simp[Region.wanted,pP,hy,R])];exact Ov h
       .rename_i U;have hy:=iW U;rw[if_neg (by simp[Region.wanted,pP,hy])];exact Ov h
       .exact h.elim
      .cases hg
    .cases ab
   .cases ab
theorem Ow (bb:C.Ok) {ops:Array Oper} {ros:List bt} (j9:kN n ops ops.toList=some (ros.map bt.un)) {K:an->Prop} (aN:∀aA bN aq,K aA->Rel w0 F0 X n ρ aA bN aq->Q .normal bN aq):
  ∀(l:anU) (s:an) (a:Act) (w:World),ko C ros s l K->Rel w0 F0 X n ρ s a w->wpOps C.P ops Q l a w:=by
 obtain⟨hl,jD⟩:=xL j9;intro l s a w h ax;have:=vB (Q:=Q) bb (ros:=ros) (ops:=ops) (l2:=[]) (K:=K) (n:=n) (ρ:=ρ) (w0:=w0) (F0:=F0) (X:=X) (λaA bN aq hk dA=>aN aA bN aq hk dA) l (λi _=>⟨λa1=>by
   rw[List.getElem?_eq_none_iff,<-List.length_map (f:=bt.un),<-hl];have:=Array.getElem?_eq_none_iff.1 a1;simpa using this,λo a1=>by
   obtain⟨az,gW,ab⟩:=jD i o (by simpa using a1);obtain⟨r,h1,rfl⟩:∃r,ros[i]? =some r/\r.un=az:=by simpa using gW
   exact⟨r,h1,ab⟩⟩) s a w h ax
 rwa [List.append_nil]at this
theorem Rel.drawn (h:Rel w0 F0 X n ρ s a w) (k:Nat) (hk:w.drawn<=k):Rel w0 F0 X n ρ s a {w with drawn:=k}:=by
 obtain⟨h1,ab,bc,F,S,ay⟩:=h;exact⟨h1,ab,bc,F,S,ay.grow (λ_ _=>rfl) (Nat.le_refl _) rfl rfl ⟨rfl,λ_=>hk⟩⟩
theorem Ox (bb:C.Ok) {id:Nat} {ops:Array Oper} {ros:List bt} (j9:kN n ops ops.toList=some (ros.map bt.un)) {K:an->Prop} (aN:∀aA bN aq,K aA->Rel w0 F0 X n ρ aA bN aq->Q .normal bN aq)
  (h:iq C s ros K) (ax:Rel w0 F0 X n ρ s a w):(Code.region id ops false).wp C.P Q a w:=by
 refine wp_region (Ow bb j9 aN _ s a w ?_ ax);have:=X5 C K ros [] s h;have hl:=(xL j9).1;simp only[List.nil_append,List.length_nil,Nat.add_zero,List.map_id']at this;rw[List.length_map]at hl;rw[<-hl]at this;simpa using this
end
def HD (qz:anS) (l:anU):Prop:=
 l.Nodup/\(∀i,i∈l↔i<qz.length)/\∀u i v,l=u++i::v->∀e∈(qz[i]?).getD [],e∈u
def pQ (ops:Array Oper):anS:=ops.toList.map λo=>(o.after.toList.filter λe=>Region.binds .any e).map (·.on)
def As (qz:anS):Bool:=qz.zipIdx.all λp=>p.1.all λe=>decide (e<p.2)
theorem Yj {qz:anS} (h:As qz=true) {i:Nat} {l:anU} (ak:qz[i]? =some l):∀e∈l,e<i:=by
 intro e he;simp only[As,List.all_eq_true]at h;have:=h (l,i) (by rw[List.mem_zipIdx_iff_getElem?];exact ak) e he;simpa using this
theorem Yk {ops:Array Oper} (R:As (pQ ops)=true):∀(fuel t:Nat) (listed:Array Bool),listed.size=ops.size->((List.range ops.size).filter λi=> !listed.getD i true).length<=fuel->
  (Region.linearise.go .any ops fuel t listed []).Nodup/\(∀i,i∈Region.linearise.go .any ops fuel t listed []↔(i<ops.size/\listed.getD i true=false))/\
   ∀u i v,Region.linearise.go .any ops fuel t listed []=u++i::v->∀e∈((pQ ops)[i]?).getD [],listed.getD e false=true\/e∈u:=by
 intro fuel;induction fuel with
 |zero=>
  intro t listed U hl;have Aa:((List.range ops.size).filter λi=> !listed.getD i true)=[]:=List.length_eq_zero_iff.1 (le_zero.1 hl);refine⟨by simp[Region.linearise.go],λi=>?_,λu i v h=>by simp[Region.linearise.go]at h⟩;simp only[Region.linearise.go,List.reverse_nil,List.not_mem_nil,false_iff,not_and];intro ak bc;have:i∈((List.range ops.size).filter λi=> !listed.getD i true):=List.mem_filter.2 ⟨List.mem_range.2 ak,by rw[bc];rfl⟩;rw[Aa]at this;cases this
 |succ fuel ih=>
  intro t listed U hl;have Oy:∀i,i∈Region.ready .any ops listed↔(i<ops.size/\listed.getD i true=false/\∀e∈((pQ ops)[i]?).getD [],listed.getD e false=true):=by
   intro i;simp only[Region.ready,List.mem_filter,List.mem_range,Bool.and_eq_true,Bool.not_eq_true'];constructor
   .rintro⟨h1,ab,ay⟩;refine⟨h1,ab,?_⟩;rw[Array.getElem?_eq_getElem h1]at ay;simp only[Option.map_some,Option.getD_some,Array.all_eq_true_iff_forall_mem]at ay;simp only[pQ,List.getElem?_map,Array.getElem?_toList,Array.getElem?_eq_getElem h1,Option.map_some,Option.getD_some,List.mem_map,List.mem_filter];rintro e ⟨x,⟨ag,rA⟩,rfl⟩;have:=ay x (by simpa using ag);simpa [rA]using this
   .rintro⟨h1,ab,ay⟩;refine⟨h1,ab,?_⟩;rw[Array.getElem?_eq_getElem h1];simp only[Option.map_some,Option.getD_some,Array.all_eq_true_iff_forall_mem];simp only[pQ,List.getElem?_map,Array.getElem?_toList,Array.getElem?_eq_getElem h1,Option.map_some,Option.getD_some,List.mem_map,List.mem_filter]at ay;intro x ag;cases rA:Region.binds .any x with
    |false=>simp
    |true=>simpa using ay x.on ⟨x,⟨by simpa using ag,rA⟩,rfl⟩
  have hex:(∃i,i<ops.size/\listed.getD i true=false)->Region.ready .any ops listed≠[]:=by
   rintro⟨i,h1,ab⟩;have:∃i,(i<ops.size/\listed.getD i true=false)/\∀j,j<i->¬(j<ops.size/\listed.getD j true=false):=by
    induction i using Nat.strongRecOn with
    |_ i Yl=>
     by_cases bo:∃j,j<i/\(j<ops.size/\listed.getD j true=false)
     .obtain⟨j,Ym,o2,Yn⟩:=bo;exact Yl j Ym o2 Yn
     .exact⟨i,⟨h1,ab⟩,λj Yo ai=>bo ⟨j,Yo,ai⟩⟩
   obtain⟨k,⟨bT,b2⟩,dm⟩:=this;have:k∈Region.ready .any ops listed:=(Oy k).2 ⟨bT,b2,λe he=>by
    cases bg:(pQ ops)[k]? with
    |none=>rw[bg]at he;simp at he
    |some l=>
     rw[bg]at he;have cp:=Yj R bg e he;have:=dm e cp;rw[not_and]at this;have:=this (by omega);have HE:e<listed.size:=by omega
     simp only[Array.getD_eq_getD_getElem?,Array.getElem?_eq_getElem HE,Option.getD_some]at this⊢;simpa using this⟩
   intro e;rw[e]at this;cases this
  have Oz:Region.linearise.go .any ops (fuel+1) t listed []=(match(Region.ready .any ops listed)[t%(Region.ready .any ops listed).length]? with
   |some i=>Region.linearise.go .any ops fuel (t/(Region.ready .any ops listed).length) (listed.setIfInBounds i true) [i]
   |none=>[]):=rfl
  cases Au:(Region.ready .any ops listed)[t%(Region.ready .any ops listed).length]? with
  |none=>
   have Aa:Region.ready .any ops listed=[]:=by
    cases ax:Region.ready .any ops listed with
    |nil=>rfl
    |cons a l=>
     rw[ax]at Au;have:=List.getElem?_eq_none_iff.1 Au;have ab:=mod_lt t (show 0<(a::l).length by simp);omega
   rw[Oz,Au];refine⟨by simp,λi=>?_,λu i v h=>by simp at h⟩;simp only[List.not_mem_nil,false_iff];intro ak;exact hex ⟨i,ak⟩ Aa
  |some i=>
   have ak:=(Oy i).1 (List.mem_of_getElem? Au);obtain⟨Av,OA,Yp⟩:=ak;rw[Oz,Au];simp only;rw[linearise_go_acc];simp only[List.reverse_singleton,List.singleton_append];have qj:∀j d,(listed.setIfInBounds i true).getD j d=if j=i then true else listed.getD j d:=by
    intro j d;split
    .rename_i e;subst e;simp[Array.getD_eq_getD_getElem?,Array.getElem?_setIfInBounds_self_of_lt (show j<listed.size by omega)]
    .rename_i e;simp[Array.getD_eq_getD_getElem?,Array.getElem?_setIfInBounds_ne (λh=>e h.symm)]
   obtain⟨g1,g2,g3⟩:=ih (t/(Region.ready .any ops listed).length) (listed.setIfInBounds i true) (by simpa using U) (by
    have eV:((List.range ops.size).filter λj=> !(listed.setIfInBounds i true).getD j true)=((List.range ops.size).filter λi=> !listed.getD i true).filter λj=>decide (j≠i):=by
     rw[List.filter_filter];apply List.filter_congr;intro j _;rw[qj];by_cases e:j=i<;>simp[e]
    rw[eV];have cp:(((List.range ops.size).filter λi=> !listed.getD i true).filter λj=>decide (j≠i)).length<((List.range ops.size).filter λi=> !listed.getD i true).length:=by
     rw[List.length_filter_lt_length_iff_exists];exact⟨i,List.mem_filter.2 ⟨List.mem_range.2 Av,by rw[OA];rfl⟩,by simp⟩
    omega)
   refine⟨?_,λj=>?_,?_⟩
   .rw[List.nodup_cons];refine⟨λhm=>?_,g1⟩;have:=((g2 i).1 hm).2;rw[qj,if_pos rfl]at this;cases this
   .rw[List.mem_cons,g2,qj];by_cases e:j=i
    .subst e;simp[Av,OA]
    .simp[e]
   .intro u j v h e he;cases u with
    |nil=>
     simp only[List.nil_append,List.cons.injEq]at h;obtain⟨rfl,rfl⟩:=h;exact .inl (Yp e he)
    |cons Dx u=>
     simp only[List.cons_append,List.cons.injEq]at h;obtain⟨rfl,h⟩:=h;rcases g3 u j v h e he with bn|bn
     .rw[qj]at bn;split at bn
      .rename_i gC;subst gC;exact .inr (by simp)
      .exact .inl bn
     .exact .inr (by simp[bn])
theorem Yq {ops:Array Oper} (R:As (pQ ops)=true) (t:Nat):HD (pQ ops) (Region.linearise .any ops t):=by
 have OB:∀i d,i<ops.size->(Array.replicate ops.size false).getD i d=false:=by
  intro i d ak;simp[Array.getD_eq_getD_getElem?,ak]
 obtain⟨g1,g2,g3⟩:=Yk R ops.size t (Array.replicate ops.size false) (by simp) (by
  have:=List.length_filter_le (λi=> !(Array.replicate ops.size false).getD i true) (List.range ops.size);simpa using this)
 have hlen:(pQ ops).length=ops.size:=by simp[pQ]
 refine⟨g1,λi=>?_,λu i v h e he=>?_⟩
 .rw[hlen];rw[show Region.linearise .any ops t=Region.linearise.go .any ops ops.size t (Array.replicate ops.size false) []from rfl,g2];exact⟨λh=>h.1,λh=>⟨h,OB i true h⟩⟩
 .rcases g3 u i v h e he with bn|bn
  .exfalso;by_cases OC:e<ops.size
   .rw[OB e false OC]at bn;cases bn
   .simp[Array.getD_eq_getD_getElem?,OC]at bn
  .exact bn
def aj:anY->an
 |[],_=>.hole
 |(u,d)::l,t=>if t=u then d else aj l t
mutual
inductive eP:I->I->Prop
 |refl (d:I):eP d d
 |gN (sz:Nat):eP .bd (.ah sz [])
 |tQ:eP .bd (.slice [])
 |any (b:Bool):eP (.bool b) .fj
 |share (d:I):d.tree=true->(∀vs,d≠.tuple vs)->(∀o,d≠.cc o)->(∀f c,d≠.bm f c)->(∀c,d≠.cX c)->eP d d.share
 |agg {ds es:anZ}:j_ ds es->eP (.agg ds) (.agg es)
 |aV {d e:I}:eP d e->eP (.aV d) (.aV e)
 |ah {sz:Nat} {ds es:anZ}:j_ ds es->eP (.ah sz ds) (.ah sz es)
 |tuple {ds es:anZ}:j_ ds es->eP (.tuple ds) (.tuple es)
 |ref {d e:I}:eP d e->eP (.ref d) (.ref e)
 |trans {d e f:I}:eP d e->eP e f->eP d f
inductive j_:anZ->anZ->Prop
 |nil:j_ [] []
 |cons {d e:I} {ds es:anZ}:eP d e->j_ ds es->j_ (d::ds) (e::es)
end
mutual
theorem eP.wd:∀{d e:I},eP d e->e.wd=d.wd
 |_,_,.refl _=>rfl
 |_,_,.gN _=>rfl
 |_,_,.tQ=>rfl
 |_,_,.any _=>rfl
 |_,_,.share d _ _ _ _ _=>I.CT d
 |_,_,.agg h=>by simp only[I.wd];exact j_.wd h
 |_,_,.aV _=>rfl
 |_,_,.ah _=>rfl
 |_,_,.tuple h=>by simp only[I.wd];exact j_.wd h
 |_,_,.ref _=>rfl
 |_,_,.trans h k=>(eP.wd k).trans (eP.wd h)
theorem j_.wd:∀{ds es:anZ},j_ ds es->I.dR es=I.dR ds
 |_,_,.nil=>rfl
 |_,_,.cons h U=>by simp only[I.dR];rw[eP.wd h,j_.wd U]
end
theorem j_.len {ds es:anZ} (h:j_ ds es):es.length=ds.length:=by
 induction ds generalizing es with
 |nil=>cases h;rfl
 |cons d ds ih=>cases h with|cons h U=>simp[ih U]
theorem j_.all {sz:Nat} {ds es:anZ} (h:j_ ds es) (ae:∀d∈ds,d.wd=sz):∀d∈es,d.wd=sz:=by
 induction ds generalizing es with
 |nil=>cases h;intro d ae;cases ae
 |cons d ds ih=>
  cases h with
  |cons h U=>
   intro x ag;rcases List.mem_cons.1 ag with rfl|ag
   .rw[h.wd];exact ae d (by simp)
   .exact ih U (λd hm=>ae d (by simp[hm])) x ag
section
variable {w0 w:World} {F0 X F:Nat->Prop} {S:Nat->Nat->Prop} {s aA:an} {au:Nat->Value}
def Yr (w:World) (F:Nat->Prop) (_d e:I) (cs:anX) (S:Nat->Prop):Prop:=
 ∃h5 h6:Nat->Prop,(∀b,h5 b->S b)/\(∀b,h6 b->S b)/\(∀b,h6 b->¬h5 b)/\∀br,(∀b,F b\/h5 b->br b)->ar w br e cs h6
mutual
theorem ar.wider:∀{d e:I},eP d e->∀{F:Nat->Prop} {cs:anX} {S:Nat->Prop},ar w F d cs S->Yr w F d e cs S
 |_,_,.refl _,F,cs,S,h=>⟨λ_=>False,S,λ_ h=>h.elim,λ_ h=>h,λ_ _ h=>h,λbr a8=>ar.mono (λb R=>a8 b (.inl R)) _ _ _ _ (λ_ h=>h) h⟩
 | .bd,_,.gN sz,F,cs,S,h=>⟨λ_=>False,S,λ_ h=>h.elim,λ_ h=>h,λ_ _ h=>h,λbr a8=>by simp only[ar]at h⊢;exact .inl ⟨trivial,_,h⟩⟩
 | .bd,_,.tQ,F,cs,S,h=>⟨λ_=>False,S,λ_ h=>h.elim,λ_ h=>h,λ_ _ h=>h,λbr a8=>by simp only[ar]at h⊢;exact .inl ⟨trivial,none,0,h,zero_le _,λ_=>rfl⟩⟩
 | .bool _,_,.any b,F,cs,S,h=>⟨λ_=>False,S,λ_ h=>h.elim,λ_ h=>h,λ_ _ h=>h,λbr a8=>by simp only[ar]at h⊢;exact⟨b,h⟩⟩
 |_,_,.share d _ _ _ _ _,F,cs,S,h=>⟨S,λ_=>False,λ_ h=>h,λ_ h=>h.elim,λ_ h=>h.elim,λbr a8=>ar.shared (λb R=>a8 b (.inl R)) d cs S (λb R=>a8 b (.inr R)) h⟩
 |_,_,.agg gA,F,cs,S,h=>by
  rw[ar]at h;obtain⟨h5,h6,h1,ab,ay,aT⟩:=aW.wider gA h;exact⟨h5,h6,h1,ab,ay,λbr a8=>by rw[ar];exact aT br a8⟩
 |_,_,.aV ae,F,cs,S,h=>by
  rw[ar]at h;obtain⟨b,cur,ty,fr,aJ,bT,b2,dm,de,e5,dJ,jy⟩:=h;obtain⟨h5,h6,h1,ab,ay,aT⟩:=ar.wider ae e5;refine⟨h5,λc=>c=b\/h6 c,λc ai=>dJ c (h1 c ai),?_,?_,λbr a8=>?_⟩
  .rintro c (rfl|ai)
   .exact b2
   .exact dJ c (ab c ai)
  .rintro c (rfl|ai) bc
   .exact jy (h1 _ bc)
   .exact ay c ai bc
  .rw[ar];exact⟨b,cur,ty,fr,h6,bT,.inl rfl,dm,de,aT br a8,λc ai=>.inr ai,λai=>jy (ab _ ai)⟩
 | .ah sz ds,.ah _ es,.ah gA,F,cs,S,h=>by
   rw[ar]at h;have hl:=gA.len;rcases h with⟨h1,ab⟩|⟨b,cap,cur,ty,fr,aJ,bT,b2,dm,de,e5,dJ,jy,cM,nA,mn,OD⟩
   .refine⟨λ_=>False,S,λ_ h=>h.elim,λ_ h=>h,λ_ _ h=>h,λbr _=>?_⟩;rw[ar];subst h1;exact .inl ⟨List.length_eq_zero_iff.1 (by simpa using hl),ab⟩
   .obtain⟨h5,h6,h1,ab,ay,aT⟩:=aW.wider gA nA;refine⟨h5,λc=>c=b\/h6 c,λc ai=>mn c (h1 c ai),?_,?_,λbr a8=>?_⟩
    .rintro c (rfl|ai)
     .exact b2
     .exact mn c (ab c ai)
    .rintro c (rfl|ai) bc
     .exact OD (h1 _ bc)
     .exact ay c ai bc
    .rw[ar];refine .inr ⟨b,cap,cur,ty,fr,h6,by rw[hl];exact bT,.inl rfl,dm,de,by rw[hl];exact e5,dJ,jy,gA.all cM,by rw[hl];exact aT br a8,λc ai=>.inr ai,λai=>OD (ab _ ai)⟩
 |_,_,.tuple gA,F,cs,S,h=>by
  rw[ar]at h;obtain⟨h5,h6,h1,ab,ay,aT⟩:=aW.wider gA h;exact⟨h5,h6,h1,ab,ay,λbr a8=>by rw[ar];exact aT br a8⟩
 |_,_,.ref ae,F,cs,S,h=>by
  rw[ar]at h;obtain⟨b,o,eh,h1,ab,ay,aT⟩:=h;obtain⟨h5,h6,bT,b2,dm,de⟩:=ar.wider ae aT;refine⟨λ_=>False,S,λ_ h=>h.elim,λ_ h=>h,λ_ _ h=>h,λbr a8=>?_⟩;rw[ar];exact⟨b,o,eh,h1,a8 _ (.inl ab),ay,ar.mono (λ_ h=>h) _ _ _ _ (λb R=>b2 b R) (de br λb R=>a8 b (R.imp id λh=>(bT b h).elim))⟩
 |_,_,.trans ae he,F,cs,S,h=>by
  obtain⟨h5,h6,h1,ab,ay,aT⟩:=ar.wider ae h;obtain⟨HF,Dy,bT,b2,dm,de⟩:=ar.wider he (F:=λb=>F b\/h5 b) (aT _ λ_ h=>h);refine⟨λb=>h5 b\/HF b,Dy,?_,λb R=>ab b (b2 b R),?_,λbr a8=>de br λb R=>?_⟩
  .rintro b (h|h)
   .exact h1 b h
   .exact ab b (bT b h)
  .rintro b R (h|h)
   .exact ay b (b2 b R) h
   .exact dm b R h
  .rcases R with(R|R)|R
   .exact a8 b (.inl R)
   .exact a8 b (.inr (.inl R))
   .exact a8 b (.inr (.inr R))
theorem aW.wider:∀{ds es:anZ},j_ ds es->∀{F:Nat->Prop} {cs:anX} {S:Nat->Prop},aW w F ds cs S->
  ∃h5 h6:Nat->Prop,(∀b,h5 b->S b)/\(∀b,h6 b->S b)/\(∀b,h6 b->¬h5 b)/\∀br,(∀b,F b\/h5 b->br b)->aW w br es cs h6
 |_,_,.nil,F,cs,S,h=>⟨λ_=>False,λ_=>False,λ_ h=>h.elim,λ_ h=>h.elim,λ_ h=>h.elim,λbr a8=>by rw[aW]at h⊢;exact h⟩
 |_,_,.cons ae gA,F,cs,S,h=>by
  rw[aW]at h;obtain⟨c1,c2,bR,cH,rfl,g2,g3,g4,g5,g6⟩:=h;obtain⟨Ys,OE,J,a2,a3,a4⟩:=ar.wider ae g2;obtain⟨HF,Dy,ik,gJ,iT,cw⟩:=aW.wider gA g3;refine⟨λb=>Ys b\/HF b,λb=>OE b\/Dy b,?_,?_,?_,λbr a8=>?_⟩
  .rintro b (h|h)
   .exact g4 b (J b h)
   .exact g5 b (ik b h)
  .rintro b (h|h)
   .exact g4 b (a2 b h)
   .exact g5 b (gJ b h)
  .rintro b (h|h) (bn|bn)
   .exact a3 b h bn
   .exact g6 b (a2 b h) (ik b bn)
   .exact g6 b (J b bn) (gJ b h)
   .exact iT b h bn
  .rw[aW];refine⟨c1,c2,OE,Dy,rfl,a4 br (λb R=>a8 b (R.imp id .inl)),cw br (λb R=>a8 b (R.imp id .inr)),λb R=>.inl R,λb R=>.inr R,λb h1 ab=>g6 b (a2 b h1) (gJ b ab)⟩
end
theorem eP.Dz:∀{d e:I},eP d e->(∀vs,d≠.tuple vs)->∀vs,e≠.tuple vs
 |_,_,.refl _,h=>h
 |_,_,.gN _,_=>λ_ h=>by cases h
 |_,_,.tQ,_=>λ_ h=>by cases h
 |_,_,.any _,_=>λ_ h=>by cases h
 |_,_,.share d _ _ _ _ _,h=>λvs he=>by cases d<;>first|(cases he;done)|exact h _ rfl
 |_,_,.agg _,_=>λ_ h=>by cases h
 |_,_,.aV _,_=>λ_ h=>by cases h
 |_,_,.ah _,_=>λ_ h=>by cases h
 |_,_,.tuple _,h=>λ_ _=>h _ rfl
 |_,_,.ref _,_=>λ_ h=>by cases h
 |_,_,.trans h k,aN=>eP.Dz k (eP.Dz h aN)
theorem eP.ie:∀{d e:I} {v:Value},eP d e->(∀vs,d≠.tuple vs)->cC.ie d v->cC.ie e v
 |_,_,_,.refl _,_,h=>h
 |_,_,_,.gN _,_,h=>h
 |_,_,_,.tQ,_,h=>h
 |_,_,_,.any _,_,h=>h
 |_,_,_,.share d _ aN _ _ _,_,h=>by cases d<;>first|exact h|exact(aN _ rfl).elim
 |_,_,_,.agg _,_,h=>h
 |_,_,_,.aV _,_,h=>h
 |_,_,_,.ah _,_,h=>h
 |_,_,_,.tuple _,aN,_=>(aN _ rfl).elim
 |_,_,_,.ref _,_,h=>h
 |_,_,_,.trans h k,aN,U=>eP.ie k (eP.Dz h aN) (eP.ie h aN U)
theorem j_.get:∀{ds es:anZ},j_ ds es->∀(k:Nat) (e:I),es[k]? =some e->∃d,ds[k]? =some d/\eP d e
 |_,_,.nil,k,e,h=>by simp at h
 |_,_,.cons ae U,0,e,h=>by simp at h;subst h;exact⟨_,rfl,ae⟩
 |_,_,.cons ae U,k+1,e,h=>j_.get U k e (by simpa using h)
theorem eP.c7:∀{d e:I} {v:Value},eP d e->cC.c7 d v->cC.c7 e v
 |_,_,_,.refl _,U=>U
 |_,_,_,.gN _,U=>U
 |_,_,_,.tQ,U=>U
 |_,_,_,.any _,U=>U
 |_,_,_,.share _ _ ow _ _ _,U=>Hq ow U
 |_,_,_,.agg _,U=>U
 |_,_,_,.aV _,U=>U
 |_,_,_,.ah _,U=>U
 |_,_,_,.ref _,U=>U
 |_,_,_,.tuple ae,U=>by
  obtain⟨arr,h1,ab,ay⟩:=U;refine⟨arr,h1,ab.trans ae.len.symm,λk e x he ag=>?_⟩;obtain⟨d,hk,hw⟩:=ae.get k e he;obtain⟨J,a2,a3⟩:=ay k d x hk ag;exact⟨hw.ie a2 J,hw.Dz a2,a3.trans hw.wd.symm⟩
 |_,_,_,.trans h k,U=>eP.c7 k (eP.c7 h U)
theorem eP.tree:∀{d e:I},eP d e->d.tree=true->e.tree=true
 |_,_,.refl _,ae=>ae
 |_,_,.gN _,_=>rfl
 |_,_,.tQ,_=>rfl
 |_,_,.any _,_=>rfl
 |_,_,.share d _ _ iR Hr Hs,ae=>by cases d<;>first|exact ae|rfl|exact(iR _ rfl).elim|exact(Hr _ _ rfl).elim|exact(Hs _ rfl).elim
 |_,_,.agg _,_=>rfl
 |_,_,.aV _,_=>rfl
 |_,_,.ah _,_=>rfl
 |_,_,.tuple _,_=>rfl
 |_,_,.ref _,_=>rfl
 |_,_,.trans h k,ae=>eP.tree k (eP.tree h ae)
mutual
def I.vC:I->anU
 | .h x q=>if q.isEmpty then []else [x]
 | .al x _=>[x]
 | .R x _=>[x]
 | .fn _ cap=>I.Aw cap
 |_=>[]
def I.Aw:anZ->anU
 |[]=>[]
 |d::ds=>d.vC++I.Aw ds
end
def Ax (s aA:an) (x:Nat) (D:anU):Prop:=aA x=s x\/aA x= .hole\/((s x).own=true/\(aA x).own=true/\x∉D)
theorem Ax.less {s aA:an} {x:Nat} {D E:anU} (h:Ax s aA x D) (Ay:∀u∈E,u∈D):Ax s aA x E:=by
 rcases h with h|h|⟨h1,ab,ay⟩
 .exact .inl h
 .exact .inr (.inl h)
 .exact .inr (.inr ⟨h1,ab,λag=>ay (Ay x ag)⟩)
theorem aF.keep {br:Nat->Prop} (a8:∀b,F b->br b):∀n,(∀(d:I) (v:Value) (cR:Nat->Prop),SizeOf.sizeOf d<=n->(∀x∈d.U,Ax s aA x d.vC)->aF w F s au d v cR->aF w br aA au d v cR)/\
  (∀(ds:anZ) (vs:anX),SizeOf.sizeOf ds<=n->(∀x∈I.dL ds,Ax s aA x (I.Aw ds))->cV w F s au ds vs->cV w br aA au ds vs):=by
 intro n;induction n with
 |zero=>
  refine⟨λd v cR bC=>?_,λds vs bC=>?_⟩
  .cases d<;>simp at bC<;>omega
  .cases ds<;>simp at bC<;>omega
 |succ n ih=>
  refine⟨λd v cR bC hk h=>?_,λds vs bC hk h=>?_⟩
  .cases d with
   |hole=>rw[aF];trivial
   |h x q=>
    rw[aF]at h⊢;intro e eV al;rcases hk x (by simp[I.U])with he|he|⟨OG,Yt,Az⟩
    .rw[he]at eV⊢;exact h e eV al
    .rw[he]at eV;cases q with
     |nil=>simp only[I.sub,Option.some.injEq]at eV;subst eV;simp[I.plain]at al
     |cons k q=>simp[I.sub]at eV
    .cases q with
     |nil=>
      simp only[I.sub,Option.some.injEq]at eV;subst eV;obtain⟨cx,a0,eF,fk,hp⟩:=h (s x) (by simp only[I.sub]) (vA OG).1;simp only[c6,Option.some.injEq,Prod.mk.injEq,true_and]at eF;exact⟨bZ (au x),none,by simp only[c6],by rw[fk,<-eF.1],((vA Yt).2.2.2.2.2 _).2 (((vA OG).2.2.2.2.2 _).1 hp)⟩
     |cons k q=>exact(Az (by simp[I.vC])).elim
   |al x q=>
    rw[aF]at h⊢;intro e eV ai;rcases hk x (by simp[I.U])with he|he|⟨_,_,Az⟩
    .rw[he]at eV ai⊢;exact h e eV ai
    .rw[he]at ai;cases q<;>simp[I.fy]at ai
    .exact(Az (by simp[I.vC])).elim
   |R x k=>
    rw[aF]at h⊢;intro al;rcases hk x (by simp[I.U])with he|he|⟨_,_,Az⟩
    rotate_left 2
    .exact(Az (by simp[I.vC])).elim
    .rw[he]at al;obtain⟨b,cur,e,fr,h1,ab,ay,aT⟩:=h al;exact⟨b,cur,e,fr,h1,a8 b ab,ay,aT⟩
    .rw[he]at al;simp[I.plain]at al
   |fn f cap=>
    rw[aF]at h⊢;obtain⟨arr,rfl,ai⟩:=h;exact⟨arr,rfl,ih.2 _ _ (by simp at bC;omega) (by simpa [I.U,I.vC]using hk) ai⟩
   |_=>
    have bn:=(aF.b_ rfl).1 h;exact(aF.b_ rfl).2 ⟨bn.1,ar.mono a8 _ _ _ _ (λ_ h=>h) bn.2⟩
  .cases ds with
   |nil=>rw[cV]at h⊢;exact h
   |cons d ds=>
    rw[cV]at h⊢;obtain⟨v,eW,rfl,h1,ab⟩:=h;simp at bC;simp only[I.dL,List.mem_append]at hk;exact⟨v,eW,rfl,ih.1 _ _ _ (by omega) (λx ag=>(hk x (.inl ag)).less λu hu=>by simp[I.Aw,hu]) h1,ih.2 _ _ (by omega) (λx ag=>(hk x (.inr ag)).less λu hu=>by simp[I.Aw,hu]) ab⟩
def vD (s:an) (l:anY):Prop:=
 ∀p∈l,p.2=s p.1\/((s p.1).tree=true/\eP (s p.1) p.2/\∀ct∈l,p.1∉ct.2.U\/((s p.1).own=true/\p.2.own=true/\p.1∉ct.2.vC))
theorem HG:∀(l:anY) (t:Nat),aj l t= .hole\/∃p∈l,p.1=t/\aj l t=p.2:=by
 intro l;induction l with
 |nil=>intro t;exact .inl rfl
 |cons p l ih=>
  intro t;obtain⟨u,d⟩:=p;simp only[aj];split
  .rename_i e;exact .inr ⟨(u,d),by simp,e.symm,rfl⟩
  .rcases ih t with h|⟨p,al,h⟩
   .exact .inl h
   .exact .inr ⟨p,by simp[al],h⟩
theorem bq.OH (h:bq w0 F0 X F S s au w) {l:anY} (hw:vD s l):∃br aJ,bq w0 F0 X br aJ (aj l) au w:=by
 have each:∀t,∃h5 h6:Nat->Prop,(∀b,h5 b->S t b)/\(∀b,h6 b->S t b)/\(∀b,h6 b->¬h5 b)/\∀br,(∀b,F b\/h5 b->br b)->aF w br (aj l) au (aj l t) (au t) h6:=by
  intro t;rcases HG l t with e|⟨p,al,rfl,e⟩
  .exact⟨λ_=>False,λ_=>False,λ_ h=>h.elim,λ_ h=>h.elim,λ_ h=>h.elim,λbr _=>by rw[e,aF];trivial⟩
  .rw[e];rcases hw p al with hk|⟨aL,k6,_⟩
   .refine⟨λ_=>False,S p.1,λ_ h=>h.elim,λ_ h=>h,λ_ _ h=>h,λbr a8=>?_⟩;rw[hk];refine(aF.keep (λb R=>a8 b (.inl R)) (SizeOf.sizeOf (s p.1))).1 _ _ _ (Nat.le_refl _) ?_ (h.cD p.1);intro x ag;rcases HG l x with gC|⟨ct,eg,rfl,gC⟩
    .exact .inr (.inl gC)
    .rcases hw ct eg with j8|⟨_,_,iR⟩
     .exact .inl (gC.trans j8)
     .rcases iR p al with iR|⟨lg,mR,Dn⟩
      .exact(iR (by rw[hk];exact ag)).elim
      .exact .inr (.inr ⟨lg,by rw[gC];exact mR,by rw[hk]at Dn;exact Dn⟩)
   .obtain⟨g1,g2⟩:=(aF.b_ aL).1 (h.cD p.1);obtain⟨h5,h6,bT,b2,dm,de⟩:=ar.wider k6 g2;exact⟨h5,h6,bT,b2,dm,λbr a8=>(aF.b_ (k6.tree aL)).2 ⟨k6.c7 g1,de br a8⟩⟩
 have c1:=λt=>(each t).choose_spec;let h5:=λt=>(each t).choose
 have c2:=λt=>(c1 t).choose_spec;let h6:=λt=>(c1 t).choose
 have eH:∀t b,h5 t b->S t b:=λt=>(c2 t).1;have eB:∀t b,h6 t b->S t b:=λt=>(c2 t).2.1;have gD:∀t b,h6 t b->¬h5 t b:=λt=>(c2 t).2.2.1;have gK:=λt=>(c2 t).2.2.2;refine⟨λb=>F b\/∃t,h5 t b,h6,λb R=>.inl (h.fl b R),?_,?_,λt b R=>h.dh t b (eB t b R),?_,λt u b cI R hu=>h.ev t u b cI (eB t b R) (eB u b hu),λt b R=>h.cR t b (eB t b R),?_,h.old,h.size,h.os,h.tape,h.output,h.e4⟩
 .rintro b (R|⟨t,R⟩)
  .exact h.fL b R
  .exact .inr (h.cR t b (eH t b R))
 .rintro b (R|⟨t,R⟩)
  .exact h.dV b R
  .exact h.dh t b (eH t b R)
 .rintro t b R (bc|⟨u,hu⟩)
  .exact h.ep t b (eB t b R) bc
  .by_cases e:t=u
   .subst e;exact gD t b R hu
   .exact h.ev t u b e (eB t b R) (eH u b hu)
 .intro t;exact gK t _ (λb R=>R.imp id λh=>⟨t,h⟩)
end
inductive aH where
 |skip
 |ew (ros:List bt) (keep:Option anU)
 |kp (ros:List bt) (qz:anS) (keep:Option anU)
 |seq (a b:aH)
 |cond (c:aX) (a b:aH)
 |block (id:Nat) (b:aH)
 |loop (b:aH)
 |exit (id:Nat)
 |ret
 |gF (T:(Exit->an->Prop)->an->Prop) (b:aH)
 |raw (c:Code)
def fh (n:Fr):Code->Option aH
 | .skip=>some .skip
 | .region id ops false=>match kN n ops ops.toList with
   |some r=>some (.ew r none)
   |none=>some (.raw (.region id ops false))
 | .region _ ops true=>if As (pQ ops)=true then(kN n ops ops.toList).map λr=>.kp r (pQ ops) none else none
 | .seq a b=>match fh n a,fh n b with
   |some a,some b=>some (.seq a b)
   |_,_=>none
 | .cond c a b=>match dz c,fh n a,fh n b with
   |some c,some a,some b=>some (.cond c a b)
   |_,_,_=>none
 | .block id b=>(fh n b).map (.block id)
 | .loop b=>(fh n b).map .loop
 | .exit id=>some (.exit id)
 | .ret=>some .ret
 |_=>none
def aH.mv:aH->aH
 | .ew ros _=>.ew ros none
 | .kp ros e6 _=>.kp ros e6 none
 | .seq a b=>.seq a.mv b.mv
 | .cond c a b=>.cond c a.mv b.mv
 | .block id b=>.block id b.mv
 | .loop b=>.loop b.mv
 | .gF T b=>.gF T b.mv
 |c=>c
def aH.strip:aH->aH
 | .ew ros _=>.ew (ros.map bt.un) none
 | .kp ros e6 _=>.kp (ros.map bt.un) e6 none
 | .seq a b=>.seq a.strip b.strip
 | .cond c a b=>.cond c a.strip b.strip
 | .block id b=>.block id b.strip
 | .loop b=>.loop b.strip
 | .gF _ b=>b.strip
 |c=>c
theorem aH.AA:∀c:aH,c.mv.strip=c.strip:=by
 intro c;induction c with
 |seq a b kq kr=>simp only[aH.mv,aH.strip,kq,kr]
 |cond c a b kq kr=>simp only[aH.mv,aH.strip,kq,kr]
 |block id b ih=>simp only[aH.mv,aH.strip,ih]
 |loop b ih=>simp only[aH.mv,aH.strip,ih]
 |gF T b ih=>simp only[aH.mv,aH.strip,ih]
 |_=>rfl
def aH.bare (H:((Exit->an->Prop)->an->Prop)->aH->Prop):aH->Prop
 | .ew _ k=>k=none
 | .kp _ _ k=>k=none
 | .seq a b=>a.bare H/\b.bare H
 | .cond _ a b=>a.bare H/\b.bare H
 | .block _ b=>b.bare H
 | .loop b=>b.bare H
 | .gF T b=>H T b
 |_=>True
def aH.lN (H:((Exit->an->Prop)->an->Prop)->aH->Prop):aH->Prop
 | .seq a b=>a.lN H/\b.lN H
 | .cond _ a b=>a.lN H/\b.lN H
 | .block _ b=>b.lN H
 | .loop b=>b.lN H
 | .gF T b=>H T b.mv
 |_=>True
theorem aH.AB {H:((Exit->an->Prop)->an->Prop)->aH->Prop}:∀c:aH,c.lN H->c.mv.bare H:=by
 intro c;induction c with
 |seq a b kq kr=>intro h;exact⟨kq h.1,kr h.2⟩
 |cond c a b kq kr=>intro h;exact⟨kq h.1,kr h.2⟩
 |block id b ih=>intro h;exact ih h
 |loop b ih=>intro h;exact ih h
 |ew=>intro _;rfl
 |kp=>intro _;rfl
 |gF T b _=>intro h;exact h
 |_=>intro _;trivial
def aH.plain:aH->Bool
 | .seq a b=>a.plain&&b.plain
 | .cond _ a b=>a.plain&&b.plain
 | .block _ b=>b.plain
 | .loop b=>b.plain
 | .gF _ _=>false
 |_=>true
theorem aH.Yu {H:((Exit->an->Prop)->an->Prop)->aH->Prop}:∀c:aH,c.plain=true->c.lN H:=by
 intro c;induction c with
 |seq a b kq kr=>intro h;simp only[aH.plain,Bool.and_eq_true]at h;exact⟨kq h.1,kr h.2⟩
 |cond c a b kq kr=>intro h;simp only[aH.plain,Bool.and_eq_true]at h;exact⟨kq h.1,kr h.2⟩
 |block id b ih=>intro h;exact ih h
 |loop b ih=>intro h;exact ih h
 |gF T b _=>intro h;cases h
 |_=>intro _;trivial
def andThen (K:an->Prop) (Q:Exit->an->Prop):Exit->an->Prop
 | .normal,s=>K s
 |e,s=>Q e s
def xM (id:Nat) (Q:Exit->an->Prop):Exit->an->Prop
 | .exit i,s=>if i=id then Q .normal s else Q (.exit i) s
 |e,s=>Q e s
def di (K:an->Prop) (s:an):Prop:=K s\/∃l,vD s l/\K (aj l)
def ed:Option anU->(an->Prop)->an->Prop
 |none,K,s=>di K s
 |some k,K,s=>K (aj (k.map λt=>(t,s t)))
def bh (C:bx):aH->(Exit->an->Prop)->an->Prop
 | .skip,Q,s=>Q .normal s
 | .ew ros keep,Q,s=>iq C s ros (ed keep (Q .normal))
 | .kp ros qz keep,Q,s=>∀l,HD qz l->ko C ros s l (ed keep (Q .normal))
 | .seq a b,Q,s=>bh C a (andThen (di (bh C b Q)) Q) s
 | .cond c a b,Q,s=>match a6 s c with
   | .bool e8=>if e8=true then bh C a Q s else bh C b Q s
   | .fj=>bh C a Q s/\bh C b Q s
   |_=>False
 | .block id b,Q,s=>bh C b (xM id Q) s
 | .loop b,Q,s=>di (λs=>∀Z:an->Prop,(∀aA,bh C b (andThen (di Z) Q) aA->Z aA)->Z s) s
 | .exit id,Q,s=>Q (.exit id) s
 | .ret,Q,s=>Q .ret s
 | .gF T _,Q,s=>∀ee:Exit->an->Prop,(∀e s,Q e s->ee e s)->T ee s
 | .raw _,_,_=>False
section
variable {C:bx}
theorem HH {s:an} {o:bt} {K c8:an->Prop} (h:mS C s o K) (hk:∀s,K s->c8 s):mS C s o c8:=by
 unfold mS at h⊢;split
 .rename_i hg;rw[hg]at h;exact Du h λav s1=>hk _
 .rename_i t b hg;rw[hg]at h;simp only at h;split
  .rename_i e8 U;rw[U]at h;simp only at h;split
   .rename_i R;rw[if_pos R]at h;exact Du h λav s1=>hk _
   .rename_i R;rw[if_neg R]at h;exact hk _ h
  .rename_i U;rw[U]at h;exact hk _ h
  .rename_i h1 ab;split at h
   .exact h1 _ (by assumption)
   .exact ab (by assumption)
   .exact h
theorem OI {K c8:an->Prop} (hk:∀s,K s->c8 s):∀{ros:List bt} {s:an},iq C s ros K->iq C s ros c8:=by
 intro ros;induction ros with
 |nil=>intro s h;exact hk s h
 |cons o ros ih=>intro s h;exact HH h λs h=>ih h
theorem OJ {ros:List bt} {K c8:an->Prop} (hk:∀s,K s->c8 s):∀{l:anU} {s:an},ko C ros s l K->ko C ros s l c8:=by
 intro l;induction l with
 |nil=>intro s h;exact hk s h
 |cons i l ih=>
  intro s h;simp only[ko]at h⊢;split
  .rename_i a1;rw[a1]at h;exact ih h
  .rename_i o a1;rw[a1]at h;exact HH h λs h=>ih h
theorem sJ {K c8:an->Prop} (hk:∀s,K s->c8 s) (s:an) (h:di K s):di c8 s:=
 h.imp (hk s) λ⟨l,h1,ab⟩=>⟨l,h1,hk _ ab⟩
theorem OK {keep:Option anU} {K c8:an->Prop} (hk:∀s,K s->c8 s) (s:an) (h:ed keep K s):ed keep c8 s:=by
 cases keep with
 |none=>exact sJ hk s h
 |some k=>exact hk _ h
theorem OL {keep:Option anU} {K:an->Prop} {s:an} (h:ed keep K s):di K s:=by
 cases keep with
 |none=>exact h
 |some k=>
  refine .inr ⟨_,?_,h⟩;intro p al;obtain⟨t,_,rfl⟩:=List.mem_map.1 al;exact .inl rfl
theorem HI {K c8:an->Prop} {Q ee:Exit->an->Prop} (hk:∀s,K s->c8 s) (ca:∀e s,Q e s->ee e s):∀e s,andThen K Q e s->andThen c8 ee e s:=by
 intro e s h;cases e with
 |normal=>exact hk s h
 |_=>exact ca _ s h
theorem OM:∀(c:aH) {Q ee:Exit->an->Prop} {s:an},(∀e s,Q e s->ee e s)->bh C c Q s->bh C c ee s:=by
 intro c;induction c with
 |skip=>intro Q ee s ca h;exact ca _ _ h
 |ew ros keep=>intro Q ee s ca h;exact OI (OK (ca _)) h
 |kp ros qz keep=>intro Q ee s ca h l hl;exact OJ (OK (ca _)) (h l hl)
 |seq a b kq kr=>
  intro Q ee s ca h;exact kq (HI (λs h=>sJ (λ_ h=>kr ca h) s h) ca) h
 |cond c a b kq kr=>
  intro Q ee s ca h;simp only[bh]at h⊢;split
  .rename_i e8 R;rw[R]at h;simp only at h;split
   .rename_i e;rw[if_pos e]at h;exact kq ca h
   .rename_i e;rw[if_neg e]at h;exact kr ca h
  .rename_i R;rw[R]at h;exact⟨kq ca h.1,kr ca h.2⟩
  .rename_i h1 ab;split at h
   .exact h1 _ (by assumption)
   .exact ab (by assumption)
   .exact h
 |block id b ih=>
  intro Q ee s ca h;refine ih ?_ h;intro e s h;cases e with
  |exit i=>
   simp only[xM]at h⊢;split
   .rename_i e;rw[if_pos e]at h;exact ca _ _ h
   .rename_i e;rw[if_neg e]at h;exact ca _ _ h
  |_=>exact ca _ _ h
 |loop b ih=>
  intro Q ee s ca h;refine sJ (λs h Z xN=>?_) s h;exact h Z λaA gO=>xN aA (ih (HI (λ_ h=>h) ca) gO)
 |exit id=>intro Q ee s ca h;exact ca _ _ h
 |ret=>intro Q ee s ca h;exact ca _ _ h
 |gF T b _=>intro Q ee s ca h Yv ab;exact h Yv λe s he=>ab e s (ca e s he)
 |raw c=>intro Q ee s ca h;exact h
theorem AD:∀(c:aH) {Q:Exit->an->Prop} {s:an},bh C c Q s->bh C c.mv Q s:=by
 intro c;induction c with
 |ew ros keep=>intro Q s h;exact OI (λs h=>OL h) h
 |kp ros e6 keep=>intro Q s h l hl;exact OJ (λs h=>OL h) (h l hl)
 |seq a b kq kr=>intro Q s h;exact kq (OM a (HI (λs h=>sJ (λ_ h=>kr h) s h) (λ_ _ h=>h)) h)
 |cond c a b kq kr=>
  intro Q s h;simp only[aH.mv,bh]at h⊢;split
  .rename_i e8 R;rw[R]at h;simp only at h;split
   .rename_i e;rw[if_pos e]at h;exact kq h
   .rename_i e;rw[if_neg e]at h;exact kr h
  .rename_i R;rw[R]at h;exact⟨kq h.1,kr h.2⟩
  .rename_i h1 ab;split at h
   .exact h1 _ (by assumption)
   .exact ab (by assumption)
   .exact h
 |block id b ih=>intro Q s h;exact ih h
 |loop b ih=>
  intro Q s h;refine sJ (λs h Z xN=>?_) s h;exact h Z λaA gO=>xN aA (ih gO)
 |gF T b _=>intro Q s h;exact h
 |_=>intro Q s h;exact h
variable {w0 w:World} {F0 X:Nat->Prop} {n:Fr} {ρ:Nat->Value} {s:an} {a:Act}
def o3 (w0:World) (F0 X:Nat->Prop) (n:Fr) (ρ:Nat->Value) (Q:Exit->an->Prop):Exit->Act->World->Prop:=λe a w=>∃s,Q e s/\Rel w0 F0 X n ρ s a w
theorem Rel.di {K:an->Prop} {s:an} {a:Act} {w:World} (ax:Rel w0 F0 X n ρ s a w) (h:di K s):∃aA,K aA/\Rel w0 F0 X n ρ aA a w:=by
 rcases h with h|⟨l,h1,ab⟩
 .exact⟨s,h,ax⟩
 .obtain⟨g1,g2,g3,F,S,g4⟩:=ax;obtain⟨br,aJ,g5⟩:=g4.OH h1;exact⟨aj l,ab,g1,g2,g3,br,aJ,g5⟩
theorem aH.Yw {c:aH} (h:c.strip= .skip):c= .skip\/∃T b,c= .gF T b:=by cases c<;>first|exact .inl rfl|exact .inr ⟨_,_,rfl⟩|cases h
theorem aH.Yx {c:aH} (h:c.strip= .ret):c= .ret\/∃T b,c= .gF T b:=by cases c<;>first|exact .inl rfl|exact .inr ⟨_,_,rfl⟩|cases h
theorem aH.Yy {c:aH} {i:Nat} (h:c.strip= .exit i):c= .exit i\/∃T b,c= .gF T b:=by cases c<;>first|exact .inl h|exact .inr ⟨_,_,rfl⟩|cases h
theorem aH.Yz {c:aH} {x:Code} (h:c.strip= .raw x):c= .raw x\/∃T b,c= .gF T b:=by cases c<;>first|exact .inl h|exact .inr ⟨_,_,rfl⟩|cases h
theorem aH.YA {c:aH} {r:List bt} {k:Option anU} (h:c.strip= .ew r k):(∃ros da,c= .ew ros da/\ros.map bt.un=r)\/∃T b,c= .gF T b:=by
 cases c<;>first|(cases h;exact .inl ⟨_,_,rfl,rfl⟩)|exact .inr ⟨_,_,rfl⟩|cases h
theorem aH.YB {c:aH} {r:List bt} {e6:anS} {k:Option anU} (h:c.strip= .kp r e6 k):(∃ros ON da,c= .kp ros ON da/\ros.map bt.un=r/\ON=e6)\/∃T b,c= .gF T b:=by
 cases c<;>first|(cases h;exact .inl ⟨_,_,_,rfl,rfl,rfl⟩)|exact .inr ⟨_,_,rfl⟩|cases h
theorem aH.YC {c x y:aH} (h:c.strip= .seq x y):(∃a b,c= .seq a b/\a.strip=x/\b.strip=y)\/∃T b,c= .gF T b:=by
 cases c<;>first|(cases h;exact .inl ⟨_,_,rfl,rfl,rfl⟩)|exact .inr ⟨_,_,rfl⟩|cases h
theorem aH.YD {c x y:aH} {o:aX} (h:c.strip= .cond o x y):(∃kj a b,c= .cond kj a b/\kj=o/\a.strip=x/\b.strip=y)\/∃T b,c= .gF T b:=by
 cases c<;>first|(cases h;exact .inl ⟨_,_,_,rfl,rfl,rfl,rfl⟩)|exact .inr ⟨_,_,rfl⟩|cases h
theorem aH.YE {c x:aH} {i:Nat} (h:c.strip= .block i x):(∃a,c= .block i a/\a.strip=x)\/∃T b,c= .gF T b:=by
 cases c<;>first|(cases h;exact .inl ⟨_,rfl,rfl⟩)|exact .inr ⟨_,_,rfl⟩|cases h
theorem aH.YF {c x:aH} (h:c.strip= .loop x):(∃a,c= .loop a/\a.strip=x)\/∃T b,c= .gF T b:=by
 cases c<;>first|(cases h;exact .inl ⟨_,rfl,rfl⟩)|exact .inr ⟨_,_,rfl⟩|cases h
def tR:Code->List (Array Oper)
 | .region _ ops _=>[ops]
 | .seq a b=>tR a++tR b
 | .cond _ a b=>tR a++tR b
 | .block _ b=>tR b
 | .loop b=>tR b
 |_=>[]
theorem YG (bb:C.Ok) {H:((Exit->an->Prop)->an->Prop)->aH->Prop} {er:List (Array Oper)}
  (hH:∀(c:Code) (T:(Exit->an->Prop)->an->Prop) (b:aH) (Q:Exit->an->Prop) (s:an) (a:Act) (w:World),(∀r∈tR c,r∈er)->H T b->fh n c=some b.strip->T Q s->Rel w0 F0 X n ρ s a w->c.wp C.P (o3 w0 F0 X n ρ Q) a w):
  ∀(c:Code) {dM:aH} {Q:Exit->an->Prop} {s:an} {a:Act} {w:World},(∀r∈tR c,r∈er)->fh n c=some dM.strip->dM.bare H->bh C dM Q s->Rel w0 F0 X n ρ s a w->c.wp C.P (o3 w0 F0 X n ρ Q) a w:=by
 intro c;induction c with
 |skip=>
  intro dM Q s a w fO U gR h ax;have ir:=U;simp only[fh,Option.some.injEq]at U;rcases aH.Yw U.symm with rfl|⟨T,b,rfl⟩
  .exact wp_skip ⟨s,h,ax⟩
  .exact hH _ T b Q s a w fO gR (by simpa only[aH.strip]using ir) (h Q λ_ _ h=>h) ax
 |region id ops draw=>
  intro dM Q s a w fO U gR h ax;have ir:=U;cases draw with
  |false=>
   simp only[fh]at U;split at U
   rotate_left
   .have gO:=(Option.some.injEq _ _▸U).symm;rcases aH.Yz gO with rfl|⟨T,b,rfl⟩
    .exact h.elim
    .exact hH _ T b Q s a w fO gR (by simpa only[aH.strip]using ir) (h Q λ_ _ h=>h) ax
   rename_i YH sK;simp only[Option.some.injEq]at U;rcases aH.YA U.symm with⟨ros,k,rfl,rfl⟩|⟨T,b,rfl⟩
   rotate_left
   .exact hH _ T b Q s a w fO gR (by simpa only[aH.strip]using ir) (h Q λ_ _ h=>h) ax
   cases gR;exact Ox bb sK (λaA bN aq hk dA=>dA.di hk) h ax
  |true=>
   simp only[fh]at U;split at U
   .rename_i R;simp only[Option.map_eq_some_iff]at U;obtain⟨YH,sK,U⟩:=U;rcases aH.YB U.symm with⟨ros,e6,k,rfl,rfl,rfl⟩|⟨T,b,rfl⟩
    rotate_left
    .exact hH _ T b Q s a w fO gR (by simpa only[aH.strip]using ir) (h Q λ_ _ h=>h) ax
    cases gR;refine wp_region_draw λt=>?_;rw[show Region.schedule (C.P.follows .mixedOrders) ops t=Region.linearise .any ops t by simp[Region.schedule,bb.mixed]];exact Ow bb sK (λaA bN aq hk dA=>dA.di hk) _ s a _ (h _ (Yq R t)) (ax.drawn _ (by first|exact le_succ _|exact le_add_right _ _|omega))
   .cases U
 |seq x y YI DA=>
  intro dM Q s a w fO U gR h ax;have ir:=U;simp only[fh]at U;split at U
  .rename_i Ad YJ ag hy;simp only[Option.some.injEq]at U;rcases aH.YC U.symm with⟨cF,lJ,rfl,rfl,rfl⟩|⟨T,b,rfl⟩
   rotate_left
   .exact hH _ T b Q s a w fO gR (by simpa only[aH.strip]using ir) (h Q λ_ _ h=>h) ax
   refine wp_seq (wp_mono (YI (λr ax=>fO r (List.mem_append.2 (.inl ax))) ag gR.1 h ax) ?_);rintro e bN aq ⟨aA,bn,dA⟩;cases e with
   |normal=>
    obtain⟨aA,bn,dA⟩:=dA.di bn;exact DA (λr ax=>fO r (List.mem_append.2 (.inr ax))) hy gR.2 bn dA
   |_=>exact⟨aA,bn,dA⟩
  .cases U
 |cond x y z DA OO=>
  intro dM Q s a w fO U gR h ax;have ir:=U;simp only[fh]at U;split at U
  .rename_i Ad YJ sz ag hy bC;simp only[Option.some.injEq]at U;rcases aH.YD U.symm with⟨cF,lJ,rm,rfl,rfl,rfl,rfl⟩|⟨T,b,rfl⟩
   rotate_left
   .exact hH _ T b Q s a w fO gR (by simpa only[aH.strip]using ir) (h Q λ_ _ h=>h) ax
   have dA:=ax;obtain⟨ae,dr,bc,F,S,hrel⟩:=dA;have aD:=(e9 (a:=a) hrel (λ_=>rfl) ag).2;simp only[bh]at h;split at h
   .rename_i e8 R;rw[R]at aD;have:=tF aD;refine wp_cond this ?_;split
    .rename_i e;rw[if_pos e]at h;exact DA (λr ax=>fO r (List.mem_append.2 (.inl ax))) hy gR.1 h ax
    .rename_i e;rw[if_neg e]at h;exact OO (λr ax=>fO r (List.mem_append.2 (.inr ax))) bC gR.2 h ax
   .rename_i R;rw[R]at aD;obtain⟨e8,iA⟩:=M8 aD;refine wp_cond iA ?_;split
    .exact DA (λr ax=>fO r (List.mem_append.2 (.inl ax))) hy gR.1 h.1 ax
    .exact OO (λr ax=>fO r (List.mem_append.2 (.inr ax))) bC gR.2 h.2 ax
   .exact h.elim
  .cases U
 |block id b ih=>
  intro dM Q s a w fO U gR h ax;have ir:=U;simp only[fh,Option.map_eq_some_iff]at U;obtain⟨Dd,R,U⟩:=U;rcases aH.YE U.symm with⟨e8,rfl,rfl⟩|⟨T,b,rfl⟩
  rotate_left
  .exact hH _ T b Q s a w fO gR (by simpa only[aH.strip]using ir) (h Q λ_ _ h=>h) ax
  refine wp_block (wp_mono (ih fO R gR h ax) ?_);rintro e bN aq ⟨aA,bn,dA⟩;cases e with
  |exit i=>
   simp only[xM]at bn;simp only[Exit.inBlock];split
   .rename_i e;rw[if_pos e]at bn;exact⟨aA,bn,dA⟩
   .rename_i e;rw[if_neg e]at bn;exact⟨aA,bn,dA⟩
  |_=>exact⟨aA,bn,dA⟩
 |loop b ih=>
  intro dM Q s a w fO U gR h ax;have ir:=U;simp only[fh,Option.map_eq_some_iff]at U;obtain⟨Dd,R,U⟩:=U;rcases aH.YF U.symm with⟨e8,rfl,rfl⟩|⟨T,b,rfl⟩
  rotate_left
  .exact hH _ T b Q s a w fO gR (by simpa only[aH.strip]using ir) (h Q λ_ _ h=>h) ax
  obtain⟨s,h,ax⟩:=ax.di h;have key:=h (λs=>∀a w,Rel w0 F0 X n ρ s a w->∀(f:Frame) (k:List Item) (cs:List Frame),∃e bN aq,o3 w0 F0 X n ρ Q e bN aq/\Arrives C.P (lone (f.at a (.code b:: .inLoop b::k)) cs w) f k cs e bN aq) ?_
  .intro f k cs;obtain⟨e,bN,aq,ca,qA⟩:=key a w ax f k cs;exact⟨e,bN,aq,ca,.of_steps (.one step_loop) qA⟩
  .intro aA gO a w ax f k cs;obtain⟨e,a₁,w₁,⟨s1,ca,rK⟩,qA⟩:=ih fO R gR gO ax f (.inLoop b::k) cs;cases e with
   |normal=>
    simp only[andThen]at ca;obtain⟨s1,ca,rK⟩:=rK.di ca;obtain⟨e₂,a₂,w₂,hq₂,harr₂⟩:=ca a₁ w₁ rK f k cs;exact⟨e₂,a₂,w₂,hq₂,.of_steps (Steps.trans qA (.one step_inLoop)) harr₂⟩
   |exit id=>exact⟨_,a₁,w₁,⟨s1,ca,rK⟩,.pass (x:=.inLoop b) rfl (λ_ _=>.inl (by simp)) qA⟩
   |goto l=>exact⟨_,a₁,w₁,⟨s1,ca,rK⟩,.pass (x:=.inLoop b) rfl (λ_ _=>.inl (by simp)) qA⟩
   |ret=>exact⟨_,a₁,w₁,⟨s1,ca,rK⟩,.pass (x:=.inLoop b) rfl (λ_ _=>.inl (by simp)) qA⟩
   |panic amw=>exact⟨_,a₁,w₁,⟨s1,ca,rK⟩,.pass (x:=.inLoop b) rfl (λ_ _=>.inl (by simp)) qA⟩
   |outgrown=>exact⟨_,a₁,w₁,⟨s1,ca,rK⟩,.pass (x:=.inLoop b) rfl (λ_ _=>.inl (by simp)) qA⟩
 |exit id=>
  intro dM Q s a w fO U gR h ax;have ir:=U;simp only[fh,Option.some.injEq]at U;rcases aH.Yy U.symm with rfl|⟨T,b,rfl⟩
  .exact wp_exit ⟨s,h,ax⟩
  .exact hH _ T b Q s a w fO gR (by simpa only[aH.strip]using ir) (h Q λ_ _ h=>h) ax
 |ret=>
  intro dM Q s a w fO U gR h ax;have ir:=U;simp only[fh,Option.some.injEq]at U;rcases aH.Yx U.symm with rfl|⟨T,b,rfl⟩
  .exact wp_ret ⟨s,h,ax⟩
  .exact hH _ T b Q s a w fO gR (by simpa only[aH.strip]using ir) (h Q λ_ _ h=>h) ax
 |_=>intro dM Q s a w fO U;simp[fh]at U
theorem AE (bb:C.Ok) {H:((Exit->an->Prop)->an->Prop)->aH->Prop}
  (hH:∀(c:Code) (T:(Exit->an->Prop)->an->Prop) (b:aH) (Q:Exit->an->Prop) (s:an) (a:Act) (w:World),H T b->fh n c=some b.strip->T Q s->Rel w0 F0 X n ρ s a w->c.wp C.P (o3 w0 F0 X n ρ Q) a w):
  ∀(c:Code) {dM:aH} {Q:Exit->an->Prop} {s:an} {a:Act} {w:World},fh n c=some dM.strip->dM.bare H->bh C dM Q s->Rel w0 F0 X n ρ s a w->c.wp C.P (o3 w0 F0 X n ρ Q) a w:=
 λc _ _ _ _ _ U R h ax=>YG bb (λc T b Q s a w _ fK U h ax=>hH c T b Q s a w fK U h ax) c (λ_ ax=>ax) U R h ax
theorem YK (bb:C.Ok) (c:Code) {dM:aH} {Q:Exit->an->Prop} {s:an} {a:Act} {w:World} (U:fh n c=some dM.strip) (R:dM.bare (λ_ _=>False)) (h:bh C dM Q s) (ax:Rel w0 F0 X n ρ s a w):c.wp C.P (o3 w0 F0 X n ρ Q) a w:=
 AE bb (λ_ _ _ _ _ _ _ bc=>bc.elim) c U R h ax
end
def jE:ResultVar->Nat
 | .tmp t=>t
 | .cell a _=>a
def qB (C:bx) (s:an):ResultVar->Option I
 | .tmp t=>if(s t).tree=true then(match s t with| .tuple _=>none|d=>some d)else none
 | .cell a T=>match s a with
   | .aV d=>if fits C T d=true/\d.tree=true then some d else none
   |_=>none
def HJ (C:bx) (fx:anU) (dY:List ResultVar) (r:I) (outs:anZ) (s:an):Prop:=
 ∃ds,dY.map (qB C s)=ds.map some/\r=(match ds with|[d]=>d|ds=>.tuple ds)/\(dY.map jE).Nodup/\
  ∀(i:Nat) (o:I),outs[i]? =some o->o= .hole\/(o=s i/\o.ga=true/\i∈fx/\i∉dY.map jE)
def Ends (C:bx) (fx:anU) (dY:List ResultVar) (r:I) (outs:anZ) (s:an):Prop:=
 HJ C fx dY r outs s\/∃t y q d s1,s t= .h y q/\cy s (.h y q)=some (d,s1)/\HJ C fx dY r outs (fin s1 (some t) d)
theorem bq.takes {w0 w:World} {F0 X F:Nat->Prop} {S:Nat->Nat->Prop} {s s1:an} {au:Nat->Value} {t y:Nat} {q:anU} {d:I} (ax:bq w0 F0 X F S s au w) (h1:s t= .h y q) (ab:cy s (.h y q)=some (d,s1)):
  ∃aJ,bq w0 F0 X F aJ (cC.fin s1 (some t) d) au w:=by
 have U:=ax.cD t;rw[h1,aF]at U;obtain⟨bR,k0,bT,b2,Sn,dm,de,e5,dJ,jy,_⟩:=rj ax (av:=.h y q) (v:=au t) rfl (by rw[aF];exact U) ab;obtain⟨aJ,bn⟩:=k0.fin (.inr ⟨bT,b2,Sn,dm,de,e5,dJ,jy⟩) (some t);refine⟨aJ,?_⟩;have e:oi au (some t) (au t)=au:=by
  funext u;simp only[oi,cK];split
  .rename_i h;rw[h]
  .rfl
 rwa [e]at bn
section
variable {C:bx} {w0 w:World} {F0 X F:Nat->Prop} {S:Nat->Nat->Prop} {s:an} {tmps:Array Value}
theorem OP {d:I} {x:Value} (ae:∀vs,d≠.tuple vs) (h:c7 d x):bZ x=gX x/\ie d x:=by
 have:ie d x:=by cases d<;>first|exact h|exact(ae _ rfl).elim
 refine⟨?_,this⟩;cases d<;>first
  |(obtain⟨a,rfl⟩:=this;rfl)
  |(simp only[ie]at this
    rw[e_ this];cases x<;>first|rfl|(simp[Value.eJ]at this))
def AF (tmps:Array Value):ResultVar->Sem Value
 | .tmp t=>pure (tmps.getD t undef)
 | .cell a t=>do loadVar t (<-asAddr (tmps.getD a undef))
theorem YL (bb:C.Ok) (h:bq w0 F0 X F S s (λt=>tmps.getD t undef) w) {v:ResultVar} {d:I} (aD:qB C s v=some d):
  ∃x,(AF tmps v).run C.P w= .ok x w/\d.tree=true/\(∀vs,d≠.tuple vs)/\c7 d x/\ar w F d (bZ x) (S (jE v)):=by
 cases v with
 |tmp t=>
  simp only[qB]at aD;split at aD
  .rename_i aL;have ow:(∀vs,s t≠.tuple vs)/\d=s t:=by
    cases U:s t<;>rw[U]at aD<;>simp only at aD<;>first
     |(cases aD;done)
     |(simp only[Option.some.injEq]at aD;exact⟨(λ_ h=>by cases h),aD.symm⟩)
   obtain⟨ow,rfl⟩:=ow;obtain⟨g1,g2⟩:=(aF.b_ aL).1 (h.cD t);exact⟨_,by simp[AF],aL,ow,g1,g2⟩
  .cases aD
 |cell a T=>
  simp only[qB]at aD;split at aD
  .rename_i e U;split at aD
   .rename_i YM;obtain⟨h0,HK⟩:=YM;simp only[Option.some.injEq]at aD;subst aD;have hP:=h.cD a;rw[U]at hP;obtain⟨g1,g2⟩:=(aF.b_ (d:=.aV e) rfl).1 hP;rw[e_ g1,ar]at g2;obtain⟨b,cur,ty,fr,aJ,bT,b2,dm,de,e5,dJ,jy⟩:=g2;simp only[List.cons.injEq,and_true]at bT;have jQ:Rd w b 0 cur.toList:=by
     have:=xk dm cur.size
     rwa [List.take_of_length_le (by simp)]at this
    obtain⟨x,cY,bl,cz⟩:=C6 (C:=C) bb jQ e5 h0;refine⟨x,?_,HK,?_,cz,?_⟩
    .simp only[AF];rw[bT];simpa [asAddr]using cY
    .intro vs gC;subst gC;unfold fits at h0;split at h0<;>simp_all
    .rw[bl];exact ar.mono (λ_ h=>h) _ _ _ _ dJ e5
   .cases aD
  .cases aD
theorem YN (bb:C.Ok) (h:bq w0 F0 X F S s (λt=>tmps.getD t undef) w):∀(dY:List ResultVar) (ds:anZ),dY.map (qB C s)=ds.map some->(dY.map jE).Nodup->
  ∃xs,(dY.mapM (AF tmps)).run C.P w= .ok xs w/\xs.length=ds.length/\aW w F ds (xs.flatMap gX) (λb=>∃t∈dY.map jE,S t b)/\
   ∀(k:Nat) (d:I) (x:Value),ds[k]? =some d->xs[k]? =some x->c7 d x/\(∀vs,d≠.tuple vs)/\(gX x).length=d.wd/\bZ x=gX x/\d.tree=true:=by
 intro dY;induction dY with
 |nil=>
  intro ds he _;have:ds=[]:=by simpa using he.symm
  subst this;exact⟨[],by simp,rfl,by simp only[List.flatMap_nil];rw[aW],λk d x ae=>by simp at ae⟩
 |cons v dY ih=>
  intro ds he tS;cases ds with
  |nil=>simp at he
  |cons d ds=>
   simp only[List.map_cons,List.cons.injEq]at he;simp only[List.map_cons,List.nodup_cons]at tS;obtain⟨x,cY,rt,bl,cz,b0⟩:=YL bb h he.1;obtain⟨xs,eH,eB,gD,gK⟩:=ih ds he.2 tS.2;obtain⟨aI,aM⟩:=OP bl cz;refine⟨x::xs,by simp[List.mapM_cons,cY,eH],by simp[eB],?_,?_⟩
   .simp only[List.flatMap_cons];rw[aW];rw[aI]at b0;refine⟨gX x,xs.flatMap gX,S (jE v),λb=>∃t∈dY.map jE,S t b,rfl,b0,gD,λb R=>⟨jE v,by simp,R⟩,?_,?_⟩
    .rintro b ⟨t,aL,R⟩;exact⟨t,by simp[aL],R⟩
    .rintro b R ⟨t,aL,iA⟩;have:t≠jE v:=λe=>tS.1 (e▸aL);exact h.ev t (jE v) b this iA R
   .intro k bf cF ae ag;cases k with
    |zero=>
     simp at ae ag;subst ae ag;refine⟨cz,bl,?_,aI,rt⟩;rw[<-aI];exact ar.length _ _ _ b0
    |succ k=>exact gK k bf cF (by simpa using ae) (by simpa using ag)
theorem AG (bb:C.Ok) {f:FuncId} {fn:Func} {c:Code} {fx:anU} {as outs:anZ} {r:I} (bc:C.P.funcs[f]? =some fn) (R:fn.body=some c)
  (jV:(fn.name== "runtime.NumGoroutine")=false) (aN:as.length<=fn.ntmps)
  {w:World} {F X:Nat->Prop} {S:Nat->Nat->Prop} {vs:anX} (hl:vs.length=as.length) (ax:bq w F X F S (eb as) (fs vs) w)
  (HL:∀a,Rel w F X ⟨fn.ntmps,fx⟩ (fs vs) (eb as) a w->(∀t,a.tmps.getD t undef=fs vs t)->c.wp C.P (o3 w F X ⟨fn.ntmps,fx⟩ (fs vs) (λe s=>(e= .normal\/e= .ret)/\di (Ends C fx fn.results.toList r outs) s)) a w):
  kn C.P f vs.toArray w λv aq=>∃br aJ,bq w F X br aJ (eb (r::outs)) (fs (v::vs)) aq:=by
 have lf:(vs.toArray++Array.replicate (fn.ntmps-vs.toArray.size) undef).size=fn.ntmps:=by simp;omega
 have dW:(λt=>(vs.toArray++Array.replicate (fn.ntmps-vs.toArray.size) undef).getD t undef)=fs vs:=by
  funext t;simp only[fs,Array.getD_eq_getD_getElem?,List.getD_eq_getElem?_getD];by_cases aL:t<vs.length
  .rw[Array.getElem?_append_left (by simpa using aL)];simp
  .rw[Array.getElem?_append_right (by simpa using aL)];rw[List.getElem?_eq_none (by omega)];simp only[Array.getElem?_replicate];split<;>rfl
 have hrel:Rel w F X ⟨fn.ntmps,fx⟩ (fs vs) (eb as) {tmps:=vs.toArray++Array.replicate (fn.ntmps-vs.toArray.size) undef,defers:=[]} w:=
  ⟨rfl,lf,λi _=>congrFun dW i,F,S,by rw[dW];exact ax⟩
 have HM:fn.name≠ "runtime.NumGoroutine" :=by simpa using jV
 refine .inl ⟨by simp[callFunc,bc,HM,R],calls_of_wp bc R (wp_mono (HL _ hrel (congrFun dW)) ?_)⟩;rintro e bN aq ⟨aA,⟨he,YO⟩,YP⟩;obtain⟨aA,⟨ds,gA,OQ,tS,vb⟩,ae,dr,hz,br,aJ,dA⟩:∃aA,HJ C fx fn.results.toList r outs aA/\Rel w F X ⟨fn.ntmps,fx⟩ (fs vs) aA bN aq:=by
  obtain⟨aA,he,OR⟩:=YP.di YO;rcases he with he|⟨t,y,q,d,s1,h1,ab,he⟩
  .exact⟨aA,he,OR⟩
  .obtain⟨g1,g2,g3,F,S,g4⟩:=OR;obtain⟨aJ,g5⟩:=g4.takes h1 ab;exact⟨_,he,g1,g2,g3,F,aJ,g5⟩
 obtain⟨xs,eH,eB,gD,gK⟩:=YN bb dA _ ds gA tS;have YQ:(results fn bN.tmps)=(do let vs<-fn.results.mapM (AF bN.tmps);pure (if h:vs.size=1 then vs[0]else .tuple vs)):=by
  unfold results;congr 1
 have vg:(results fn bN.tmps).run C.P aq= .ok (if h:xs.toArray.size=1 then xs.toArray[0]else .tuple xs.toArray) aq:=by
  rw[YQ,Array.mapM_eq_mapM_toList];simp[eH]
 have pR:(r.tree=true/\c7 r (if h:xs.toArray.size=1 then xs.toArray[0]else .tuple xs.toArray)/\
   ar aq br r (bZ (if h:xs.toArray.size=1 then xs.toArray[0]else .tuple xs.toArray)) (λb=>∃t∈fn.results.toList.map jE,aJ t b)):=by
  by_cases h1:∃d,ds=[d]
  .obtain⟨d,rfl⟩:=h1;obtain⟨x,rfl⟩:∃x,xs=[x]:=by
    cases xs with
    |nil=>simp at eB
    |cons x xs=>cases xs with
     |nil=>exact⟨x,rfl⟩
     |cons y ys=>simp at eB
   obtain⟨bT,b2,dm,de,e5⟩:=gK 0 d x rfl rfl;have YR:d=r:=OQ.symm;subst YR;simp only[List.flatMap_cons,List.flatMap_nil,List.append_nil]at gD;rw[aW]at gD;obtain⟨c1,c2,bR,cH,aI,aM,aP,bK,cg,bP⟩:=gD;rw[aW]at aP;subst aP;simp only[List.append_nil]at aI;subst aI;have ag:(if h:([x]:anX).toArray.size=1 then([x]:anX).toArray[0]else .tuple ([x]:anX).toArray)=x:=by simp
   rw[ag,de];exact⟨e5,bT,ar.mono (λ_ h=>h) _ _ _ _ bK aM⟩
  .have AH:r= .tuple ds:=by
    rw[OQ];cases ds with
    |nil=>rfl
    |cons d ds=>cases ds with
     |nil=>exact(h1 ⟨d,rfl⟩).elim
     |cons e ds=>rfl
   have ag:(if h:xs.toArray.size=1 then xs.toArray[0]else Value.tuple xs.toArray)= .tuple xs.toArray:=by
    rw[dif_neg];intro dr;have:ds.length=1:=by rw[<-eB];simpa using dr
    obtain⟨d,ae⟩:=List.length_eq_one_iff.1 this;exact h1 ⟨d,ae⟩
   rw[ag,AH];refine⟨rfl,⟨xs.toArray,rfl,by simpa using eB,λk d x ae ag=>?_⟩,?_⟩
   .obtain⟨bT,b2,dm,de,_⟩:=gK k d x ae (by simpa using ag);exact⟨(OP b2 bT).2,b2,dm⟩
   .rw[ar];simpa [bZ]using gD
 have post:∀(v:Value),(r.tree=true/\c7 r v/\ar aq br r (bZ v) (λb=>∃t∈fn.results.toList.map jE,aJ t b))->∃tP bR,bq w F X tP bR (eb (r::outs)) (fs (v::vs)) aq:=by
  rintro v ⟨v1,v2,v3⟩;have HN:∀i,(outs.getD i .hole).ga=true->outs.getD i .hole=aA i/\i∈fx/\i∉fn.results.toList.map jE:=by
   intro i ak;cases a1:outs[i]? with
   |none=>simp[List.getD,a1,I.ga]at ak
   |some o=>
    have e:outs.getD i .hole=o:=by simp[List.getD,a1]
    rw[e]at ak⊢;rcases vb i o a1 with h|h
    .subst h;simp[I.ga]at ak
    .exact⟨h.1,h.2.2⟩
  refine⟨br,λt b=>match t with|0=>∃t∈fn.results.toList.map jE,aJ t b|i+1=>(outs.getD i .hole).ga=true/\aJ i b,dA.fl,dA.fL,dA.dV,?_,?_,?_,?_,?_,dA.old,dA.size,dA.os,dA.tape,dA.output,ax.e4⟩
  .intro t b R;cases t with
   |zero=>obtain⟨t,_,R⟩:=R;exact dA.dh t b R
   |succ i=>exact dA.dh i b R.2
  .intro t b R;cases t with
   |zero=>obtain⟨t,_,R⟩:=R;exact dA.ep t b R
   |succ i=>exact dA.ep i b R.2
  .intro t u b cI R hu;cases t with
   |zero=>
    obtain⟨t,aL,R⟩:=R;cases u with
    |zero=>exact cI rfl
    |succ j=>
     refine dA.ev t j b (λe=>?_) R hu.2;subst e;exact(HN t hu.1).2.2 aL
   |succ i=>
    cases u with
    |zero=>
     obtain⟨t,aL,hu⟩:=hu;refine dA.ev t i b (λe=>?_) hu R.2;subst e;exact(HN t R.1).2.2 aL
    |succ j=>exact dA.ev i j b (by omega) R.2 hu.2
  .intro t b R;cases t with
   |zero=>obtain⟨t,_,R⟩:=R;exact dA.cR t b R
   |succ i=>exact dA.cR i b R.2
  .intro t;cases t with
   |zero=>exact(aF.b_ v1).2 ⟨v2,v3⟩
   |succ i=>
    show aF aq br (eb (r::outs)) (fs (v::vs)) (outs.getD i .hole) (vs.getD i undef) (λb=>(outs.getD i .hole).ga=true/\aJ i b);cases ak:(outs.getD i .hole).ga with
    |false=>
     have:outs.getD i .hole= .hole:=by
      cases a1:outs[i]? with
      |none=>simp[List.getD,a1]
      |some o=>
       have e:outs.getD i .hole=o:=by simp[List.getD,a1]
       rw[e]at ak⊢;rcases vb i o a1 with h|h
       .exact h
       .rw[h.2.1]at ak;cases ak
     rw[this,aF];trivial
    |true=>
     obtain⟨lg,mR,Dn⟩:=HN i ak;have aL:=(sF ak).2.1;have hP:=dA.cD i;rw[<-lg]at hP;obtain⟨g1,g2⟩:=(aF.b_ aL).1 hP;have aD:bN.tmps.getD i undef=vs.getD i undef:=hz i mR;rw[aD]at g1 g2;exact(aF.b_ aL).2 ⟨g1,ar.mono (λ_ h=>h) _ _ _ _ (λb R=>⟨rfl,R⟩) g2⟩
 rcases he with rfl|rfl
 .exact⟨ae,_,vg,_,rfl,post _ pR⟩
 .exact⟨ae,_,vg,_,rfl,post _ pR⟩
theorem aY.of_wp (bb:C.Ok) {f:FuncId} {fn:Func} {c:Code} {dM:aH} {fx:anU} {as outs:anZ} {r:I} (bc:C.P.funcs[f]? =some fn) (R:fn.body=some c)
  (jV:(fn.name== "runtime.NumGoroutine")=false) (U:fh ⟨fn.ntmps,fx⟩ c=some dM.strip) (aN:as.length<=fn.ntmps)
  (h:bh C dM (λe s=>(e= .normal\/e= .ret)/\di (Ends C fx fn.results.toList r outs) s) (eb as)) (al:dM.plain=true:=by kernel_rfl):aY C f as r outs:=
 λw F X S vs hl ax=>AG bb bc R jV aN hl ax λa hrel _=>YK bb c (by rw[aH.AA];exact U) (aH.AB dM (aH.Yu dM al)) (AD dM h) hrel
end
def num:Nat->anZ->anY
 |_,[]=>[]
 |k,a::as=>(k,a)::num (k+1) as
theorem YS:∀(as:anZ) (k t:Nat),aj (num k as) (k+t)=as.getD t .hole:=by
 intro as;induction as with
 |nil=>intro k t;simp[num,aj]
 |cons a as ih=>
  intro k t;cases t with
  |zero=>simp[num,aj]
  |succ t=>
   have:=ih (k+1) t;simp only[num,aj];rw[if_neg (by omega)];rw[show k+(t+1)=k+1+t by omega,this];simp
theorem xO (as:anZ):eb as=aj (num 0 as):=by
 funext t;have:=YS as 0 t;rw[Nat.zero_add]at this;rw[this];rfl
theorem rL (l:anY) (t:Nat) (d:I):cK (aj l) t d=aj ((t,d)::l):=by
 funext u;simp only[cK,aj]
def qC (t:Nat):anY->anY
 |[]=>[]
 |(u,d)::l=>(u,cu t d)::qC t l
def vE (t:Nat):anY->anY
 |[]=>[]
 |(u,d)::l=>(u,b4 t d)::vE t l
theorem vF (t:Nat):∀l:anY,k8 t (aj l)=aj (qC t l):=by
 intro l;funext u;induction l with
 |nil=>rfl
 |cons p l ih=>
  obtain⟨v,d⟩:=p;simp only[k8,aj,qC]at ih⊢;split
  .rfl
  .exact ih
theorem YT (t:Nat):∀l:anY,hM t (aj l)=aj (vE t l):=by
 intro l;funext u;induction l with
 |nil=>rfl
 |cons p l ih=>
  obtain⟨v,d⟩:=p;simp only[hM,aj,vE]at ih⊢;split
  .rfl
  .exact ih
def fo (k:anU) (s:an):anY:=k.map λt=>(t,s t)
section
variable {C:bx} {l:anY}
def dK.h7:dK->Bool
 | .call _ _=>true
 | .fC _=>false
 | .iB _=>false
 | .pick _ _ _=>false
 | .nw _=>false
 | .h2 _ _=>false
 | .ij _ _=>false
 | .ei _ _ _=>false
 | .ld _ _=>false
 | .ki _ _ _=>false
 | .jx _=>false
 | .ef _ _ _ _=>false
 | .un _ _=>false
 | .je _ _ _=>false
 | .o1 _ _=>false
 | .eL _ _ _=>false
 | .fR _ _ _ _=>false
 | .hq _ _ _=>false
 | .jb _ _ _=>false
 | .idx _ _ _=>false
 | .ex _ _=>false
 | .ny _ _ _=>false
 | .len _ _=>false
 | .app _ _ _ _=>false
 | .shr _=>true
 | .iV _ _ _ _=>false
 | .cap _ _=>false
 | .jf _ _ _=>false
 | .bad=>false
 | .mo _ _ _=>true
 | .jR _ _=>false
 | .rD=>false
 | .il _ _ _=>false
 | .jz _ _ _ _=>false
variable {Q:Exit->an->Prop}
def I.AJ:I->Bool
 | .tuple _=>true
 |_=>false
theorem Ends.one {fx:anU} {t:Nat} {r:I} {s:an} (h1:s t=r) (ab:(r.tree&& !r.AJ)=true):Ends C fx [.tmp t] r [] s:=by
 simp only[Bool.and_eq_true,Bool.not_eq_true']at ab;obtain⟨ab,rM⟩:=ab;have ay:∀vs,r≠.tuple vs:=λvs e=>by subst e;simp[I.AJ]at rM
 refine .inl ⟨[r],?_,rfl,by simp,λi o h=>by simp at h⟩;have:qB C s (.tmp t)=some r:=by
  simp only[qB,h1,ab,if_true];try (cases r<;>first|rfl|exact(ay _ rfl).elim)
 simp only[List.map_cons,List.map_nil,this]
end
section
variable {C:bx} {l:anY} {Q:Exit->an->Prop}
theorem aY.outs {f:FuncId} {as:anZ} {r:I} {lg mR:anZ} (h:aY C f as r lg) (he:eb lg=eb mR):aY C f as r mR:=by
 intro w F X S vs hl ax;refine kn.mono (h w F X S vs hl ax) ?_;rintro v aq ⟨br,aJ,bn⟩;refine⟨br,aJ,?_⟩;have:eb (r::mR)=eb (r::lg):=by
  funext t;cases t with
  |zero=>rfl
  |succ t=>exact(congrFun he t).symm
 rw[this];exact bn
def nD:anZ->anZ->List b6
 |a::as,d::ds=>⟨a,false,d,.hole⟩::nD as ds
 |_,_=>[]
theorem YU {s:an}:∀(as ds:anZ),views s as=some ds->(nD as ds).map (·.a)=as/\(nD as ds).map (·.d)=ds/\(∀p∈nD as ds,p.ok s/\p.g=false/\p.o= .hole/\p.a∈as)/\gE (nD as ds)=true/\
  eb ((nD as ds).map (·.o))=eb []/\(∀sL,ea sL (nD as ds)=sL)/\(∀sL,fE sL (nD as ds)=sL):=by
 intro as;induction as with
 |nil=>
  intro ds h;simp only[views,Option.some.injEq]at h;subst h;exact⟨rfl,rfl,(λp al=>by cases al),rfl,rfl,λ_=>rfl,λ_=>rfl⟩
 |cons a as ih=>
  intro ds h;simp only[views]at h;split at h
  .rename_i d YV h1 ab;simp only[Option.some.injEq]at h;subst h;obtain⟨aI,aM,aP,bK,cg,bP,bL⟩:=ih YV ab;refine⟨by simp only[nD,List.map_cons,aI],by simp only[nD,List.map_cons,aM],?_,?_,?_,?_,?_⟩
   .intro p al;simp only[nD,List.mem_cons]at al;rcases al with rfl|al
    .exact⟨by simp only[b6.ok];exact h1,rfl,rfl,by simp⟩
    .obtain⟨g1,g2,g3,g4⟩:=aP p al;exact⟨g1,g2,g3,by simp[g4]⟩
   .simp only[nD,gE,bK,Bool.and_true,List.all_eq_true];intro p al;simp[(aP p al).2.1]
   .funext t;cases t with
    |zero=>rfl
    |succ t=>exact(congrFun cg t).trans (by simp[eb])
   .intro sL;exact bP sL
   .intro sL;exact bL sL
  .cases h
end
structure e7 where
 b5:anU
 H:anU
 T:anU
 c:Bool
mutual
def I.clean:I->Bool
 | .hole=>false
 | .fn _ cap=>I.xP cap
 |_=>true
def I.xP:anZ->Bool
 |[]=>true
 |d::ds=>d.clean&&I.xP ds
end
mutual
theorem OS {x:Nat}:∀a:I,(b4 x a).clean=true->b4 x a=a
 | .h y q,h=>by
   simp only[b4]at h⊢;split
   .rename_i e;rw[if_pos e]at h;split
    .rfl
    .rename_i gC;rw[if_neg gC]at h;simp[I.clean]at h
   .rfl
 | .al y q,h=>by
   simp only[b4]at h⊢;split
   .rename_i e;rw[if_pos e]at h;simp[I.clean]at h
   .rfl
 | .R y q,h=>rfl
 | .fn f cap,h=>by simp only[b4,I.clean]at h⊢;rw[OT cap h]
 | .hole,_=>rfl
 | .bool _,_=>rfl
 | .fj,_=>rfl
 | .int _ _,_=>rfl
 | .str _,_=>rfl
 | .dq,_=>rfl
 | .bd,_=>rfl
 | .slice _,_=>rfl
 | .ah _ _,_=>rfl
 | .ref _,_=>rfl
 | .aV _,_=>rfl
 | .agg _,_=>rfl
 | .tuple _,_=>rfl
 | .cc _,_=>rfl
 | .bm _ _,_=>rfl
 | .cX _,_=>rfl
theorem OT {x:Nat}:∀ds:anZ,I.xP (iP x ds)=true->iP x ds=ds
 |[],_=>rfl
 |d::ds,h=>by
  simp only[iP,I.xP,Bool.and_eq_true]at h⊢;rw[OS d h.1,OT ds h.2]
end
mutual
theorem OU {x:Nat}:∀a:I,(cu x a).clean=true->cu x a=a
 | .h y q,h=>by
   simp only[cu]at h⊢;split
   .rename_i e;rw[if_pos e]at h;simp[I.clean]at h
   .rfl
 | .al y q,h=>by
   simp only[cu]at h⊢;split
   .rename_i e;rw[if_pos e]at h;simp[I.clean]at h
   .rfl
 | .R y q,h=>by
   simp only[cu]at h⊢;split
   .rename_i e;rw[if_pos e]at h;simp[I.clean]at h
   .rfl
 | .fn f cap,h=>by simp only[cu,I.clean]at h⊢;rw[OV cap h]
 | .hole,_=>rfl
 | .bool _,_=>rfl
 | .fj,_=>rfl
 | .int _ _,_=>rfl
 | .str _,_=>rfl
 | .dq,_=>rfl
 | .bd,_=>rfl
 | .slice _,_=>rfl
 | .ah _ _,_=>rfl
 | .ref _,_=>rfl
 | .aV _,_=>rfl
 | .agg _,_=>rfl
 | .tuple _,_=>rfl
 | .cc _,_=>rfl
 | .bm _ _,_=>rfl
 | .cX _,_=>rfl
theorem OV {x:Nat}:∀ds:anZ,I.xP (jt x ds)=true->jt x ds=ds
 |[],_=>rfl
 |d::ds,h=>by
  simp only[jt,I.xP,Bool.and_eq_true]at h⊢;rw[OU d h.1,OV ds h.2]
end
theorem YW {k:rE} {x:Nat} {a:I} (h:(k.app x a).clean=true):k.app x a=a:=by
 cases k with
 |no=>rfl
 |b4=>exact OS a h
 |cu=>exact OU a h
theorem YX:∀(ms:List gL) (u:Nat) (a:I),(∀m∈ms,m.x≠u)->(kk ms u a).clean=true->kk ms u a=a:=by
 intro ms;induction ms with
 |nil=>intros;rfl
 |cons m ms ih=>
  intro u a ag ai;simp only[kk]at ai⊢;have e:=ih u _ (λkh vG=>ag kh (by simp[vG])) ai;have hm:m.at u a=m.k.app m.x a:=by
   simp only[gL.at];rw[if_neg (λe=>ag m (by simp) e.symm)]
  rw[e,hm];rw[e,hm]at ai;exact YW ai
theorem YY:∀(ms:List gL) (u:Nat) (a:I),(∀m∈ms,m.x≠u/\m.x∉a.U)->kk ms u a=a:=by
 intro ms;induction ms with
 |nil=>intros;rfl
 |cons m ms ih=>
  intro u a ag;simp only[kk];have hm:m.at u a=a:=by
   simp only[gL.at];rw[if_neg (λe=>(ag m (by simp)).1 e.symm)];exact Ai (.inr (ag m (by simp)).2)
  rw[hm];exact ih u a λkh vG=>ag kh (by simp[vG])
theorem YZ (m:gL):∀(ms:List gL) (u:Nat) (a:I),(∀kh∈ms,kh.x≠m.x/\kh.x∉m.d.U/\m.x∉kh.d.U)->kk ms u (m.at u a)=m.at u (kk ms u a):=by
 intro ms;induction ms with
 |nil=>intros;rfl
 |cons n ms ih=>
  intro u a ag;simp only[kk];have aN:=ag n (by simp);have ai:n.at u (m.at u a)=m.at u (n.at u a):=by
   simp only[gL.at];by_cases aI:u=n.x
   .subst aI;rw[if_pos rfl,if_neg aN.1,if_pos rfl];exact(Ai (.inr aN.2.2)).symm
   .rw[if_neg aI];by_cases aM:u=m.x
    .subst aM;rw[if_pos rfl,if_pos rfl];exact Ai (.inr aN.2.1)
    .rw[if_neg aM,if_neg aI,if_neg aM];exact Xt _ _ _ _ _
  rw[ai];exact ih u _ λkh vG=>ag kh (by simp[vG])
theorem Y0:∀(ms lM:List gL) (s:an),(∀m∈ms,∀n∈lM,n.x≠m.x/\n.x∉m.d.U/\m.x∉n.d.U)->dB lM (dB ms s)=dB ms (dB lM s):=by
 intro ms;induction ms with
 |nil=>intros;rfl
 |cons m ms ih=>
  intro lM s h;have e:∀s,dB (m::ms) s=dB ms (dB [m] s):=λs=>nC [m] ms s;rw[e,e,ih lM _ (λkh vG=>h kh (by simp[vG]))];congr 1;funext u;simp only[dB,kk];exact YZ m lM u _ (h m (by simp))
def OW (C:bx) (s:an) (f:aX) (args:List aX) (K:anU->I->an->Prop):Prop:=
 ∃(g:FuncId) (caps:anZ) (ps:List b6) (r:I),a6 s f= .fn g caps/\I.dS caps=true/\ps.map (·.a)=args.map (a6 s)++caps/\(∀p∈ps,p.ok s)/\gE ps=true/\
   aY C g (ps.map (·.d)) r (ps.map (·.o))/\r.res=true/\(hx ps=true->r.ch=true/\∀p∈ps,p.o.ch=true)/\K (I.dL ((ps.filter (·.g)).map (·.a))) r (fE (ea s ps) ps)
def o4 (C:bx) (s:an) (bz:dK) (K:anU->I->an->Prop):Prop:=
 match bz with
 | .call f args=>∃(g:FuncId) (caps:anZ) (ps:List b6) (r:I),a6 s f= .fn g caps/\I.dS caps=true/\ps.map (·.a)=args.map (a6 s)++caps/\(∀p∈ps,p.ok s)/\gE ps=true/\
   aY C g (ps.map (·.d)) r (ps.map (·.o))/\r.res=true/\(hx ps=true->r.ch=true/\∀p∈ps,p.o.ch=true)/\K (I.dL ((ps.filter (·.g)).map (·.a))) r (fE (ea s ps) ps)
 | .shr bz=>∃av s1,bJ C s bz=some (av,s1)/\av.tree=true/\(∀vs,av≠.tuple vs)/\K (kl s bz) av.share s1
 | .mo f args us=>mu s (jB s us)=true/\OW C s f args λcy av s1=>mu s1 (jB s us)=true/\K (us++cy) av (ox s1 (jB s us))
 |bz=>∃av s1,bJ C s bz=some (av,s1)/\K (kl s bz) av s1
def jh (s:an) (b5:anU) (dst:Option Nat) (cy:anU) (av:I):e7:=
 ⟨b5,b5.flatMap (λu=>(s u).U)++av.U,dst.toList++cy,b5.all λu=>(s u).clean⟩
def nE (C:bx) (s:an) (o:bt) (K:e7->an->Prop):Prop:=
 match o.guard with
 |none=>o4 C s o.bz λcy av s1=>K (jh s (use s o.bz) o.dst cy av) (fin s1 o.dst av)
 |some (t,b)=>match s t with
  | .bool e8=>if e8=b then o4 C s o.bz (λcy av s1=>K (jh s (t::use s o.bz) o.dst cy av) (fin s1 o.dst av))else K (jh s [t] o.dst [] (.tuple [])) (fin s o.dst (.tuple []))
  | .tuple []=>K (jh s [t] o.dst [] (.tuple [])) (fin s o.dst (.tuple []))
  |_=>False
def rN:Option (List e7)->e7->Option (List e7)
 |none,_=>none
 |some l,f=>some (f::l)
def cq (C:bx) (s:an):List bt->Option (List e7)->(Option (List e7)->an->Prop)->Prop
 |[],acc,K=>K acc s
 |o::os,acc,K=>nE C s o λf s1=>cq C s1 os (rN acc f) K
section
variable {C:bx}
theorem OX {s:an} {bz:dK} {K:anU->I->an->Prop} {c8:I->an->Prop} (hk:∀cy av s,K cy av s->c8 av s) (h:o4 C s bz K):pO C s bz c8:=by
 cases bz with
 |call f args=>
  obtain⟨g,caps,ps,r,h1,gS,ab,ay,aT,bp,bX,bM,dy⟩:=h;exact⟨g,caps,ps,r,h1,gS,ab,ay,aT,bp,bX,bM,hk _ _ _ dy⟩
 |mo f args us=>
  obtain⟨b2,g,caps,ps,r,h1,gS,ab,ay,aT,bp,bX,bM,dy,hG⟩:=h;exact⟨b2,g,caps,ps,r,h1,gS,ab,ay,aT,bp,bX,bM,dy,hk _ _ _ hG⟩
 |shr bz=>
  obtain⟨av,s1,h1,ab,ay,aT⟩:=h;exact⟨av,s1,h1,ab,ay,hk _ _ _ aT⟩
 |_=>
  obtain⟨av,s1,h1,ab⟩:=h;exact⟨av,s1,h1,hk _ _ _ ab⟩
theorem Y1 {s:an} {o:bt} {K:e7->an->Prop} {c8:an->Prop} (hk:∀f s,K f s->c8 s) (h:nE C s o K):mS C s o c8:=by
 unfold nE at h;unfold mS;split
 .rename_i hg;rw[hg]at h;exact OX (λ_ _ _=>hk _ _) h
 .rename_i t b hg;rw[hg]at h;simp only at h;split
  .rename_i e8 U;rw[U]at h;simp only at h;split
   .rename_i R;rw[if_pos R]at h;exact OX (λ_ _ _=>hk _ _) h
   .rename_i R;rw[if_neg R]at h;exact hk _ _ h
  .rename_i U;rw[U]at h;exact hk _ _ h
  .rename_i h1 ab;split at h
   .exact h1 _ (by assumption)
   .exact ab (by assumption)
   .exact h
theorem rO {K:an->Prop}:∀{ros:List bt} {s:an} {acc:Option (List e7)} {c8:Option (List e7)->an->Prop},(∀a s,c8 a s->K s)->cq C s ros acc c8->iq C s ros K:=by
 intro ros;induction ros with
 |nil=>intro s acc c8 hk h;exact hk _ _ h
 |cons o ros ih=>intro s acc c8 hk h;exact Y1 (λf s h=>ih hk h) h
theorem OY {q:anU} {a d:I} (h:I.sub q a=some d) (ca:q≠[]\/d.U=[]):a.U=[]:=by
 cases q with
 |nil=>
  simp only[I.sub,Option.some.injEq]at h;subst h;exact ca.resolve_left (λe=>e rfl)
 |cons k q=>cases a<;>first|rfl|(simp[I.sub]at h)
def DB (s:an) (p:b6) (e:I->Prop):Prop:=p.g=true->∃x q d,p.a= .h x q/\I.sub q (s x)=some d/\e d/\(p.o= .hole\/p.o.ga=true)
theorem OZ {d:I} (h:d.ga=true):d.U=[]:=Hu (sF h).2.1
theorem O0 {d:I} (h:d.ga=true):d.cJ.U=[]:=by cases d<;>first|rfl|(simp[I.ga]at h)
theorem O1 {p:b6} {ps:List b6} (h:gE (p::ps)=true):gE ps=true/\∀ct∈ps,(p.g=true\/ct.g=true)->∀u∈p.a.U,u∉ct.a.U:=by
 simp only[gE,Bool.and_eq_true,List.all_eq_true,Bool.or_eq_true,Bool.not_eq_true']at h;refine⟨h.2,λct eg hg u hu=>?_⟩;rcases h.1 ct eg with e|e
 .rcases hg with hg|hg<;>simp[hg]at e
 .simpa using e u hu
def sM (ps:List b6):anU:=I.dL ((ps.filter (·.g)).map (·.a))
theorem xQ (p:b6) (ps:List b6):(∀u∈sM ps,u∈sM (p::ps))/\(p.g=true->∀u∈p.a.U,u∈sM (p::ps)):=by
 unfold sM;by_cases hg:p.g=true
 .simp only[List.filter_cons,hg,if_true,List.map_cons,I.dL,List.mem_append];exact⟨λu h=>.inr h,λ_ u h=>.inl h⟩
 .simp only[List.filter_cons,hg];exact⟨λu h=>h,λh=>by simp at h⟩
theorem Y2 {p:b6} {ps:List b6} (h:p∈ps):∀u∈p.a.U,u∈I.dL (ps.map (·.a)):=by
 induction ps with
 |nil=>cases h
 |cons ct ps ih=>
  intro u hu;simp only[List.map_cons,I.dL,List.mem_append];rcases List.mem_cons.1 h with rfl|h
  .exact .inl hu
  .exact .inr (ih h u hu)
theorem Y3:∀(ps:List b6) (s:an),(∀p∈ps,DB s p (λd=>d=p.d/\p.d.ga=true))->gE ps=true->
  (∃ms:List gL,(∀m∈ms,m.x∈sM ps/\m.d.U=[])/\∀aA,du (I.dL (ps.map (·.a))) aA s->ea aA ps=dB ms aA)/\∀p∈ps,DB (ea s ps) p (λd=>d=p.d.cJ/\p.d.ga=true):=by
 intro ps;induction ps with
 |nil=>intro s _ _;exact⟨⟨[],by simp,λaA _=>rfl⟩,λp al=>by cases al⟩
 |cons p ps ih=>
  intro s hg kK;obtain⟨qu,pL⟩:=O1 kK;by_cases nF:p.g=true
  .obtain⟨x,q,d,bg,U,⟨rfl,ae⟩,a1⟩:=hg p (by simp) nF;have j4:(I.put q p.d.cJ (s x)).U=[]:=xF q _ _ _ U (.inl (sF ae).1) λ_=>O0 ae;have AK:∀aA:an,aA x=s x->p.take aA=dB [⟨.b4,x,I.put q p.d.cJ (s x)⟩] aA:=by
    intro aA e;simp only[b6.take,nF,if_true,bg,e,vy]
   have cI:∀ct∈ps,∀cF ig,ct.a= .h cF ig->cF≠x:=by
    intro ct eg cF ig e gC;have:=pL ct eg (.inl nF) x (by simp[bg,I.U]);rw[e,gC]at this;simp[I.U]at this
   have pM:∀cF,cF≠x->(s cF).U=[]->dB [⟨.b4,x,I.put q p.d.cJ (s x)⟩] s cF=s cF:=by
    intro cF tG ba;simp only[dB,kk,gL.at];rw[if_neg tG];exact Ai (.inr (by rw[ba];simp))
   obtain⟨⟨ms,m1,m2⟩,m3⟩:=ih (dB [⟨.b4,x,I.put q p.d.cJ (s x)⟩] s) (λct eg HO=>by
    obtain⟨cF,ig,bf,sG,gO,gq,AL⟩:=hg ct (by simp[eg]) HO;refine⟨cF,ig,bf,sG,?_,gq,AL⟩;rw[pM cF (cI ct eg cF ig sG) (OY gO (.inr (by rw[gq.1];exact OZ gq.2)))];exact gO) qu
   refine⟨⟨[⟨.b4,x,I.put q p.d.cJ (s x)⟩]++ms,?_,?_⟩,?_⟩
   .intro m hm;rcases List.mem_append.1 hm with hm|hm
    .simp only[List.mem_singleton]at hm;subst hm;exact⟨(xQ p ps).2 nF x (by simp[bg,I.U]),j4⟩
    .exact⟨(xQ p ps).1 _ (m1 m hm).1,(m1 m hm).2⟩
   .intro aA gO;simp only[List.map_cons,I.dL]at gO;have e:aA x=s x:=gO x (by simp[bg,I.U]);rw[nC];show ea (p.take aA) ps=_;rw[AK aA e];exact m2 _ (du.dB gO.right _)
   .have aI:ea s (p::ps)=ea (dB [⟨.b4,x,I.put q p.d.cJ (s x)⟩] s) ps:=by
     show ea (p.take s) ps=_;rw[AK s rfl]
    rw[aI];intro ct eg;rcases List.mem_cons.1 eg with rfl|eg
    .intro _;refine⟨x,q,ct.d.cJ,bg,?_,⟨rfl,ae⟩,a1⟩;have aD:dB [⟨.b4,x,I.put q ct.d.cJ (s x)⟩] s x=I.put q ct.d.cJ (s x):=by
      simp only[dB,kk,gL.at,if_true]
     rw[Ht (by rw[aD];exact j4) (λY4 Y5 amx=>?_),aD]
     .exact Od q _ _ _ U
     .exact pL Y4 Y5 (.inl nF) x (by simp[bg,I.U])
    .exact m3 ct eg
  .have AK:∀aA:an,p.take aA=aA:=by intro aA;simp only[b6.take,nF];rfl
   obtain⟨⟨ms,m1,m2⟩,m3⟩:=ih s (λct eg=>hg ct (by simp[eg])) qu;refine⟨⟨ms,λm hm=>⟨(xQ p ps).1 _ (m1 m hm).1,(m1 m hm).2⟩,?_⟩,?_⟩
   .intro aA gO;simp only[List.map_cons,I.dL]at gO;show ea (p.take aA) ps=_;rw[AK];exact m2 aA gO.right
   .intro ct eg;have aI:ea s (p::ps)=ea s ps:=by show ea (p.take s) ps=_;rw[AK]
    rw[aI];rcases List.mem_cons.1 eg with rfl|eg
    .intro h;exact(nF h).elim
    .exact m3 ct eg
theorem Y6:∀(ps:List b6) (s:an),(∀p∈ps,DB s p (λd=>d=p.d.cJ/\p.d.ga=true))->gE ps=true->
  (∃ms:List gL,(∀m∈ms,m.x∈sM ps/\m.d.U=[])/\∀aA,du (I.dL (ps.map (·.a))) aA s->fE aA ps=dB ms aA):=by
 intro ps;induction ps with
 |nil=>intro s _ _;exact⟨[],by simp,λaA _=>rfl⟩
 |cons p ps ih=>
  intro s hg kK;obtain⟨qu,pL⟩:=O1 kK;by_cases nF:p.g=true/\p.o≠.hole
  .obtain⟨nF,Y7⟩:=nF;obtain⟨x,q,d,bg,U,⟨rfl,ae⟩,a1⟩:=hg p (by simp) nF;have a1:p.o.ga=true:=a1.resolve_left Y7;have j4:(I.put q p.o (s x)).U=[]:=by
    cases q with
    |nil=>simp only[I.put];exact OZ a1
    |cons k q=>exact xF _ _ _ _ U (.inr (by simp)) (by simp)
   have HP:∀aA:an,aA x=s x->p.im aA=dB [⟨.cu,x,I.put q p.o (s x)⟩] aA:=by
    intro aA e;simp only[b6.im,nF,if_true,bg];rw[e,NV]
   have cI:∀ct∈ps,∀cF ig,ct.a= .h cF ig->cF≠x:=by
    intro ct eg cF ig e gC;have:=pL ct eg (.inl nF) x (by simp[bg,I.U]);rw[e,gC]at this;simp[I.U]at this
   obtain⟨ms,m1,m2⟩:=ih (dB [⟨.cu,x,I.put q p.o (s x)⟩] s) (λct eg HO=>by
    obtain⟨cF,ig,bf,sG,gO,gq,AL⟩:=hg ct (by simp[eg]) HO;refine⟨cF,ig,bf,sG,?_,gq,AL⟩;have ba:=OY gO (.inr (by rw[gq.1];exact O0 gq.2));have pM:dB [⟨.cu,x,I.put q p.o (s x)⟩] s cF=s cF:=by
     simp only[dB,kk,gL.at];rw[if_neg (cI ct eg cF ig sG)];exact Ai (.inr (by rw[ba];simp))
    rw[pM];exact gO) qu
   refine⟨[⟨.cu,x,I.put q p.o (s x)⟩]++ms,?_,?_⟩
   .intro m hm;rcases List.mem_append.1 hm with hm|hm
    .simp only[List.mem_singleton]at hm;subst hm;exact⟨(xQ p ps).2 nF x (by simp[bg,I.U]),j4⟩
    .exact⟨(xQ p ps).1 _ (m1 m hm).1,(m1 m hm).2⟩
   .intro aA gO;simp only[List.map_cons,I.dL]at gO;have e:aA x=s x:=gO x (by simp[bg,I.U]);rw[nC];show fE (p.im aA) ps=_;rw[HP aA e];exact m2 _ (du.dB gO.right _)
  .have HP:∀aA:an,p.im aA=aA:=by
    intro aA;unfold b6.im;split
    .rename_i hc;have:p.o= .hole:=by
      by_cases h:p.o= .hole
      .exact h
      .exact(nF ⟨hc,h⟩).elim
     rw[this]
    .rfl
   obtain⟨ms,m1,m2⟩:=ih s (λct eg=>hg ct (by simp[eg])) qu;refine⟨ms,λm hm=>⟨(xQ p ps).1 _ (m1 m hm).1,(m1 m hm).2⟩,?_⟩;intro aA gO;simp only[List.map_cons,I.dL]at gO;show fE (p.im aA) ps=_;rw[HP];exact m2 aA gO.right
theorem Y8 {s aA:an}:∀(a:I) (d:I),du a.U aA s->view s a=some d->view aA a=some d:=by
 intro a d h;have:=Hv (s:=s) (aA:=aA) a d;intro aD;cases a with
 |h x q=>simp only[view]at aD⊢;rw[h x (by simp[I.U])];exact aD
 |al x q=>simp only[view]at aD⊢;rw[h x (by simp[I.U])];exact aD
 |fn f cap=>
  refine this (λu hu _=>h u hu) aD
 |_=>exact aD
theorem Y9 {p:b6} {s aA:an} (h:du p.a.U aA s) (eZ:p.ok s):p.ok aA:=by
 unfold b6.ok at eZ⊢;split
 .rename_i hg;rw[if_pos hg]at eZ;cases bg:p.a with
  |h x q=>
   rw[bg]at eZ;simp only at eZ⊢;rw[h x (by simp[bg,I.U])];exact eZ
  |_=>rw[bg]at eZ;exact eZ.elim
 .rename_i hg;rw[if_neg hg]at eZ;exact Y8 _ _ h eZ
def DC (C:bx) (o:bt) (s:an) (lj:e7) (ms:List gL):Prop:=
 (∀aA,du lj.b5 aA s->∀K:an->Prop,K (dB ms aA)->mS C aA o K)/\(∀m∈ms,m.x∈lj.T/\∀u∈m.d.U,u∈lj.H)/\(∀u∈lj.b5,∀x∈(s u).U,x∈lj.H)/\(lj.c=true->∀u∈lj.b5,(s u).clean=true)
theorem O2 (dst:Option Nat) (av:I):∃ms:List gL,(∀m∈ms,m.x∈dst.toList/\m.d=av)/\∀s1:an,fin s1 dst av=dB ms s1:=by
 cases dst with
 |none=>exact⟨[],by simp,λs=>rfl⟩
 |some t=>
  simp only[fin];by_cases h:av.plain=true
  .exact⟨[⟨.no,t,av⟩],by simp,λs=>by rw[if_pos h,NW]⟩
  .exact⟨[⟨.cu,t,av⟩],by simp,λs=>by rw[if_neg h,NV]⟩
theorem DD {s:an} {b5:anU} {dst:Option Nat} {cy:anU} {av:I}:(∀u∈(jh s b5 dst cy av).b5,∀x∈(s u).U,x∈(jh s b5 dst cy av).H)/\((jh s b5 dst cy av).c=true->∀u∈(jh s b5 dst cy av).b5,(s u).clean=true):=by
 refine⟨λu hu x ag=>?_,λai=>?_⟩
 .simp only[jh,List.mem_append,List.mem_flatMap];exact .inl ⟨u,hu,ag⟩
 .simp only[jh,List.all_eq_true]at ai;exact ai
theorem O3 {s:an} {f:aX} {args:List aX} {K:anU->I->an->Prop} (h:OW C s f args K):
  ∃cy av ms,K cy av (dB ms s)/\(∀m∈ms,m.x∈cy/\m.d.U=[])/\∀aA,du (use s (.call f args)) aA s->∀c8:I->an->Prop,c8 av (dB ms aA)->Hz C aA f args c8:=by
 obtain⟨g,caps,ps,r,h1,gS,ab,ay,aT,bp,bX,bM,dy⟩:=h;have Y_:∀p∈ps,DB s p (λd=>d=p.d/\p.d.ga=true):=by
  intro p al hg;have:=ay p al;simp only[b6.ok,hg,if_true]at this;cases bg:p.a with
  |h x q=>rw[bg]at this;exact⟨x,q,p.d,rfl,this.1,⟨rfl,this.2.1⟩,this.2.2.imp id λh=>h.1⟩
  |_=>rw[bg]at this;exact this.elim
 obtain⟨⟨qt,J,a2⟩,a3⟩:=Y3 ps s Y_ aT;obtain⟨tL,ik,gJ⟩:=Y6 ps (ea s ps) a3 aT;have rz:∀u∈I.dL (ps.map (·.a)),u∈use s (.call f args):=by
  rw[ab];intro u hu;simp only[use,List.mem_append];have key:∀(en l2:anZ),u∈I.dL (en++l2)->u∈I.dL en\/u∈I.dL l2:=by
   intro en;induction en with
   |nil=>intro l2 h;exact .inr h
   |cons a en ih=>
    intro l2 h;simp only[List.cons_append,I.dL,List.mem_append]at h⊢;rcases h with h|h
    .exact .inl (.inl h)
    .exact(ih l2 h).imp .inr id
  rcases key _ _ hu with hu|hu
  .exact .inr (aX.Dl u hu)
  .refine .inl (aX.vz u ?_);rw[h1];exact hu
 have fA:fE (ea s ps) ps=dB (qt++tL) s:=by
  rw[nC,<-a2 s (λ_ _=>rfl),gJ _ (λ_ _=>rfl)]
 refine⟨sM ps,r,qt++tL,by rw[<-fA];exact dy,?_,?_⟩
 .intro m hm;rcases List.mem_append.1 hm with hm|hm
  .exact J m hm
  .exact ik m hm
 .intro aA U c8 hk;have rF:du (I.dL (ps.map (·.a))) aA s:=U.sub rz;have bc:du (f.use s) aA s:=by simp only[use]at U;exact U.left
  have ag:du (aX.qs s args) aA s:=by simp only[use]at U;exact U.right
  have aI:fE (ea aA ps) ps=dB (qt++tL) aA:=by
   rw[nC,<-a2 aA rF,gJ];rw[a2 aA rF,a2 s (λ_ _=>rfl)];exact du.dB rF _
  exact⟨g,caps,ps,r,by rw[aX.fD bc];exact h1,gS,by rw[aX.Hi ag];exact ab,λp al=>Y9 (rF.sub (Y2 al)) (ay p al),aT,bp,bX,bM,by rw[aI];exact hk⟩
mutual
theorem O4 {s aA:an}:∀(d:I),du d.U aA s->d.fm aA=d.fm s
 | .h x q,h=>by simp only[I.fm];rw[h x (by simp[I.U])]
 | .R x q,h=>by simp only[I.fm];rw[h x (by simp[I.U])]
 | .fn f cap,h=>by simp only[I.fm];exact O5 cap (by simpa only[I.U]using h)
 | .al _ _,_=>by simp only[I.fm]
 | .hole,_=>by simp only[I.fm]
 | .bool _,_=>by simp only[I.fm]
 | .fj,_=>by simp only[I.fm]
 | .int _ _,_=>by simp only[I.fm]
 | .str _,_=>by simp only[I.fm]
 | .dq,_=>by simp only[I.fm]
 | .bd,_=>by simp only[I.fm]
 | .slice _,_=>by simp only[I.fm]
 | .ah _ _,_=>by simp only[I.fm]
 | .ref _,_=>by simp only[I.fm]
 | .aV _,_=>by simp only[I.fm]
 | .agg _,_=>by simp only[I.fm]
 | .tuple _,_=>by simp only[I.fm]
 | .cc _,_=>by simp only[I.fm]
 | .bm _ _,_=>by simp only[I.fm]
 | .cX _,_=>by simp only[I.fm]
theorem O5 {s aA:an}:∀(ds:anZ),du (I.dL ds) aA s->I.pN aA ds=I.pN s ds
 |[],_=>rfl
 |d::ds,h=>by
  simp only[I.dL]at h;simp only[I.pN];rw[O4 d h.left,O5 ds h.right]
end
theorem HQ {s aA:an} {us:anU} (h:du (us.flatMap λu=>u::(s u).U) aA s):jB aA us=jB s us:=by
 unfold jB;refine List.map_congr_left λu hu=>?_;rw[h u (List.mem_flatMap.2 ⟨u,hu,by simp⟩)]
theorem HR {s aA:an}:∀(L:anY),(∀p∈L,du p.2.U aA s)->mu aA L=mu s L
 |[],_=>rfl
 |p::L,h=>by
  simp only[mu];rw[O4 p.2 (h p (by simp)),HR L (λq ca=>h q (by simp[ca]))]
theorem O6:∀(L:anY) (s:an),ox s L=dB (L.map λp=>⟨.no,p.1,p.2⟩) s
 |[],s=>rfl
 |p::L,s=>by
  simp only[ox,List.map_cons];rw[O6 L,NW];exact(nC [⟨.no,p.1,p.2⟩] _ s).symm
theorem Za {s:an} {bz:dK} {K:anU->I->an->Prop} (h:o4 C s bz K):
  ∃cy av ms,K cy av (dB ms s)/\(∀m∈ms,m.x∈cy/\∀v∈m.d.U,∃u∈use s bz,v∈(s u).U)/\∀aA,du (use s bz) aA s->∀c8:I->an->Prop,c8 av (dB ms aA)->pO C aA bz c8:=by
 have plain:(∃av s1,bJ C s bz=some (av,s1)/\K (kl s bz) av s1)->(∀aA (c8:I->an->Prop) av s1,bJ C aA bz=some (av,s1)->c8 av s1->pO C aA bz c8)->
   ∃cy av ms,K cy av (dB ms s)/\(∀m∈ms,m.x∈cy/\∀v∈m.d.U,∃u∈use s bz,v∈(s u).U)/\∀aA,du (use s bz) aA s->∀c8:I->an->Prop,c8 av (dB ms aA)->pO C aA bz c8:=by
  rintro⟨av,s1,h1,ab⟩ hw;obtain⟨ms,aI,aM,aP⟩:=Oa h1;subst aI;exact⟨_,av,ms,ab,λm hm=>⟨(aM m hm).1,λv aD=>by rw[(aM m hm).2]at aD;cases aD⟩,λaA U c8 hk=>hw aA c8 av _ (aP aA U) hk⟩
 cases bz with
 |call f args=>
  obtain⟨cy,av,ms,J,a2,a3⟩:=O3 h;exact⟨cy,av,ms,J,λm hm=>⟨(a2 m hm).1,λv aD=>by rw[(a2 m hm).2]at aD;cases aD⟩,λaA U c8 hk=>a3 aA U c8 hk⟩
 |mo f args us=>
  obtain⟨b2,ai⟩:=h;obtain⟨cy,av,ms,⟨J,Zb⟩,a2,a3⟩:=O3 ai;have e:∀aA:an,ox (dB ms aA) (jB s us)=dB (ms++(jB s us).map λp=>⟨.no,p.1,p.2⟩) aA:=λaA=>by rw[nC,O6]
  have hN:∀{aA:an},du (us.flatMap λu=>u::(s u).U) aA s->∀p∈jB s us,du p.2.U aA s:=λ{aA} U p al v aD=>by
   obtain⟨u,hu,rfl⟩:=List.mem_map.1 al;exact U v (List.mem_flatMap.2 ⟨u,hu,by simp[aD]⟩)
  refine⟨us++cy,av,ms++(jB s us).map λp=>⟨.no,p.1,p.2⟩,by rw[<-e];exact Zb,?_,?_⟩
  .intro m hm;rcases List.mem_append.1 hm with hm|hm
   .exact⟨by simp[(a2 m hm).1],λv aD=>by rw[(a2 m hm).2]at aD;cases aD⟩
   .obtain⟨p,al,rfl⟩:=List.mem_map.1 hm;obtain⟨u,hu,rfl⟩:=List.mem_map.1 al;exact⟨List.mem_append_left _ hu,λv aD=>⟨u,by simp only[use,List.mem_append,List.mem_flatMap];exact .inl ⟨u,hu,by simp⟩,aD⟩⟩
  .intro aA U c8 hk;simp only[use]at U;refine⟨by rw[HQ U.left,HR _ (hN U.left)];exact b2,a3 aA U.right _ ⟨?_,?_⟩⟩
   .rw[HQ U.left,HR _ (λp al=>(hN U.left p al).dB ms)];exact J
   .rw[HQ U.left,e];exact hk
 |shr bz=>
  obtain⟨av,s1,h1,ab,ay,aT⟩:=h;obtain⟨ms,aI,aM,aP⟩:=Oa h1;subst aI;exact⟨_,av.share,ms,aT,λm hm=>⟨(aM m hm).1,λv aD=>by rw[(aM m hm).2]at aD;cases aD⟩,λaA U c8 hk=>⟨av,_,aP aA U,ab,ay,hk⟩⟩
 |_=>exact plain h (λaA c8 av s1 h1 ab=>⟨av,s1,h1,ab⟩)
theorem Zc {s:an} {o:bt} {K:e7->an->Prop} (h:nE C s o K):∃lj ms,K lj (dB ms s)/\DC C o s lj ms:=by
 have op:∀(b5:anU),(∀u∈use s o.bz,u∈b5)->(∀aA,du b5 aA s->∀c8:an->Prop,pO C aA o.bz (λav s1=>c8 (fin s1 o.dst av))->mS C aA o c8)->
   o4 C s o.bz (λcy av s1=>K (jh s b5 o.dst cy av) (fin s1 o.dst av))->∃lj ms,K lj (dB ms s)/\DC C o s lj ms:=by
  intro b5 rz fO hw;obtain⟨cy,av,ms,h1,ab,ay⟩:=Za hw;obtain⟨lM,jW,bY⟩:=O2 o.dst av;refine⟨jh s b5 o.dst cy av,ms++lM,?_,?_,?_,DD.1,DD.2⟩
  .rw[nC,<-bY];exact h1
  .intro aA U c8 hk;refine fO aA U c8 (ay aA (U.sub rz) _ ?_);rw[bY,<-nC];exact hk
  .intro m hm;simp only[jh,List.mem_append];rcases List.mem_append.1 hm with hm|hm
   .refine⟨.inr (ab m hm).1,λv aD=>.inl ?_⟩;obtain⟨u,hu,ml⟩:=(ab m hm).2 v aD;exact List.mem_flatMap.2 ⟨u,rz u hu,ml⟩
   .exact⟨.inl (jW m hm).1,λu hu=>.inr (by rw[(jW m hm).2]at hu;exact hu)⟩
 have skip:∀t,(∀aA,du [t] aA s->∀c8:an->Prop,c8 (fin aA o.dst (.tuple []))->mS C aA o c8)->K (jh s [t] o.dst [] (.tuple [])) (fin s o.dst (.tuple []))->∃lj ms,K lj (dB ms s)/\DC C o s lj ms:=by
  intro t fO hk;obtain⟨lM,jW,bY⟩:=O2 o.dst (.tuple []);refine⟨_,lM,by rw[<-bY];exact hk,?_,?_,DD.1,DD.2⟩
  .intro aA U c8 j8;exact fO aA U c8 (by rw[bY];exact j8)
  .intro m hm;simp only[jh,List.mem_append];exact⟨.inl (jW m hm).1,λu hu=>by rw[(jW m hm).2]at hu;simp[I.U]at hu⟩
 unfold nE at h;split at h
 .rename_i hg;exact op _ (λ_ h=>h) (λaA _ c8 hw=>by unfold mS;rw[hg];exact hw) h
 .rename_i t b hg;split at h
  .rename_i e8 R;split at h
   .rename_i e;refine op (t::use s o.bz) (λu hu=>by simp[hu]) (λaA U c8 hw=>?_) h;have:aA t=s t:=U t (by simp);unfold mS;rw[hg];simp only[this,R,if_pos e];exact hw
   .rename_i e;refine skip t (λaA U c8 hk=>?_) h;have:aA t=s t:=U t (by simp);unfold mS;rw[hg];simp only[this,R,if_neg e];exact hk
  .rename_i R;refine skip t (λaA U c8 hk=>?_) h;have:aA t=s t:=U t (by simp);unfold mS;rw[hg];simp only[this,R];exact hk
  .exact h.elim
def tT (C:bx) (ros:List bt):an->List (Nat×e7×List gL)->Prop
 |_,[]=>True
 |s,e::r=>(∃o,ros[e.1]? =some o/\DC C o s e.2.1 e.2.2)/\tT C ros (dB e.2.2 s) r
def qD (s:an) (r:List (Nat×e7×List gL)):an:=r.foldl (λs e=>dB e.2.2 s) s
def pI (a b:anU):Bool:=a.all λx=> !b.contains x
theorem xR {a b:anU} (h:pI a b=true):∀x∈a,x∉b:=by
 intro x ag;simp only[pI,List.all_eq_true]at h;simpa using h x ag
def vH (a b:e7):Bool:=pI b.T a.b5&&pI b.T a.H&&pI b.T a.T&&pI a.T b.b5&&pI a.T b.H&&b.c
theorem Zd {ros:List bt} {s:an} {a b:Nat×e7×List gL} {r:List (Nat×e7×List gL)} (h:tT C ros s (a::b::r)) (ak:vH a.2.1 b.2.1=true):
  tT C ros s (b::a::r)/\qD s (b::a::r)=qD s (a::b::r):=by
 obtain⟨⟨Ze,bg,J,a2,a3,a4⟩,⟨cc,R,ik,gJ,iT,cw⟩,ax⟩:=h;simp only[vH,Bool.and_eq_true]at ak;obtain⟨⟨⟨⟨⟨tx,i2⟩,i3⟩,i4⟩,i5⟩,Gp⟩:=ak;have HS:∀u∈b.2.1.b5,dB a.2.2 s u=s u:=by
  intro u hu;refine YX _ _ _ (λm hm e=>?_) (cw Gp u hu);exact xR i4 m.x (a2 m hm).1 (e▸hu)
 have HT:∀u∈a.2.1.b5,dB b.2.2 s u=s u:=by
  intro u hu;refine YY _ _ _ λm hm=>⟨λe=>?_,λag=>?_⟩
  .exact xR tx m.x (gJ m hm).1 (e▸hu)
  .exact xR i2 m.x (gJ m hm).1 (a3 u hu _ ag)
 have O7:dB b.2.2 (dB a.2.2 s)=dB a.2.2 (dB b.2.2 s):=by
  refine Y0 _ _ _ λm hm n aN=>⟨λe=>?_,λh=>?_,λh=>?_⟩
  .exact xR i3 n.x (gJ n aN).1 (e▸(a2 m hm).1)
  .exact xR i2 n.x (gJ n aN).1 ((a2 m hm).2 _ h)
  .exact xR i5 m.x (a2 m hm).1 ((gJ n aN).2 _ h)
 refine⟨⟨⟨cc,R,?_,gJ,?_,?_⟩,⟨Ze,bg,?_,a2,?_,?_⟩,?_⟩,?_⟩
 .intro aA U K hk;exact ik aA (λu hu=>(U u hu).trans (HS u hu).symm) K hk
 .intro u hu x ag;exact iT u hu x (by rw[HS u hu];exact ag)
 .intro ai u hu;have:=cw ai u hu
  rwa [HS u hu]at this
 .intro aA U K hk;exact J aA (λu hu=>(U u hu).trans (HT u hu)) K hk
 .intro u hu x ag;rw[HT u hu]at ag;exact a3 u hu x ag
 .intro ai u hu;rw[HT u hu];exact a4 ai u hu
 .rw[<-O7];exact ax
 .simp only[qD,List.foldl_cons];rw[O7]
theorem Zf {ros:List bt} {e:Nat×e7×List gL} {post:List (Nat×e7×List gL)}:∀(pre:List (Nat×e7×List gL)) (s:an),tT C ros s (pre++e::post)->(∀a∈pre,vH a.2.1 e.2.1=true)->
  tT C ros s (e::(pre++post))/\qD s (e::(pre++post))=qD s (pre++e::post):=by
 intro pre;induction pre with
 |nil=>intro s h _;exact⟨h,rfl⟩
 |cons a pre ih=>
  intro s h ak;obtain⟨h1,ab⟩:=h;obtain⟨g1,g2⟩:=ih _ ab λb R=>ak b (by simp[R]);have ai:tT C ros s (a::e::(pre++post)):=⟨h1,g1⟩
  obtain⟨bT,b2⟩:=Zd ai (ak a (by simp));refine⟨bT,b2.trans ?_⟩;simp only[qD,List.foldl_cons,List.cons_append]at g2⊢;exact g2
end
def AM:anS->anS->anS
 |done,[]=>done
 |done,a::r=>AM (done++[a++a.flatMap λe=>(done[e]?).getD []]) r
def rP (e6:anS):anS:=AM [] e6
theorem Zg {e6:anS} {l:anU} (hl:∀u i v,l=u++i::v->∀e∈(e6[i]?).getD [],e∈u):∀(rest pre done:anS),e6=pre++rest->done.length=pre.length->
  (∀u i v,l=u++i::v->∀e∈(done[i]?).getD [],e∈u)->∀u i v,l=u++i::v->∀e∈((AM done rest)[i]?).getD [],e∈u:=by
 intro rest;induction rest with
 |nil=>intro pre done _ _ h;exact h
 |cons a rest ih=>
  intro pre done O8 hlen h;simp only[AM];refine ih (pre++[a]) _ (by simp[O8]) (by simp[hlen]) ?_;intro u i v hu e he;by_cases ak:i<done.length
  .rw[List.getElem?_append_left ak]at he;exact h u i v hu e he
  .rw[List.getElem?_append_right (by omega)]at he;by_cases xE:i-done.length=0
   .rw[xE]at he;simp only[List.getElem?_cons_zero,Option.getD_some,List.mem_append,List.mem_flatMap]at he;have O9:(e6[i]?).getD []=a:=by
     have:i=pre.length:=by omega
     rw[O8,this,List.getElem?_append_right (Nat.le_refl _)];simp
    rcases he with he|⟨gC,HE,he⟩
    .exact hl u i v hu e (by rw[O9];exact he)
    .have Ak:=hl u i v hu gC (by rw[O9];exact HE);obtain⟨xA,NH,rfl⟩:=List.append_of_mem Ak;have:=h xA gC (NH++i::v) (by rw[hu];simp) e he;simp[this]
   .rw[List.getElem?_eq_none (by simp;omega)]at he;simp at he
theorem Zh {e6:anS} {l:anU} (hl:∀u i v,l=u++i::v->∀e∈(e6[i]?).getD [],e∈u):∀u i v,l=u++i::v->∀e∈((rP e6)[i]?).getD [],e∈u:=
 Zg hl e6 [] [] rfl rfl λu i v _ e he=>by simp at he
def lO (cl:anS):Nat->List (Nat×e7)->List e7->Bool
 |_,_,[]=>true
 |j,es,f::aC=>(es.all λe=>((cl[j]?).getD []).contains e.1||vH e.2 f)&&lO cl (j+1) ((j,f)::es) aC
def HU (cl:anS) (a b:Nat×e7×List gL):Prop:=a.1∈(cl[b.1]?).getD []\/vH a.2.1 b.2.1=true
theorem Zi {cl:anS}:∀(hd:List (Nat×e7×List gL)) (j:Nat) (es:List (Nat×e7)),hd.map (·.1)=(List.range hd.length).map (·+j)->lO cl j es (hd.map (·.2.1))=true->
  hd.Pairwise (HU cl)/\∀e∈es,∀b∈hd,e.1∈(cl[b.1]?).getD []\/vH e.2 b.2.1=true:=by
 intro hd;induction hd with
 |nil=>intro j es _ _;exact⟨.nil,λe _ b R=>by cases R⟩
 |cons a hd ih=>
  intro j es vI eZ;rw[List.length_cons,List.range_succ_eq_map,List.map_cons,List.map_cons,List.map_map]at vI;simp only[List.cons.injEq,Nat.zero_add]at vI;obtain⟨bo,vI⟩:=vI;simp only[List.map_cons,lO,Bool.and_eq_true,List.all_eq_true,Bool.or_eq_true]at eZ;obtain⟨h1,ab⟩:=eZ;obtain⟨g1,g2⟩:=ih (j+1) _ (by rw[vI];congr 1;funext x;simp;omega) ab;refine⟨.cons (λb R=>?_) g1,λe he b R=>?_⟩
  .have:=g2 (j,a.2.1) (by simp) b R;simp only[HU,bo];exact this
  .rcases List.mem_cons.1 R with rfl|R
   .rw[bo];exact(h1 e he).imp (λh=>by simpa using h) id
   .exact g2 e (by simp[he]) b R
section
variable {C:bx}
theorem Zj {K:Option (List e7)->an->Prop}:∀(os pre:List bt) (s:an) (acc:List e7),cq C s os (some acc) K->
  ∃hd,tT C (pre++os) s hd/\hd.map (·.1)=(List.range os.length).map (·+pre.length)/\K (some ((hd.map (·.2.1)).reverse++acc)) (qD s hd):=by
 intro os;induction os with
 |nil=>intro pre s acc h;exact⟨[],trivial,rfl,h⟩
 |cons o os ih=>
  intro pre s acc h;obtain⟨lj,ms,h1,ab⟩:=Zc h;obtain⟨hd,g1,g2,g3⟩:=ih (pre++[o]) _ (lj::acc) h1;refine⟨(pre.length,lj,ms)::hd,⟨⟨o,?_,ab⟩,?_⟩,?_,?_⟩
  .rw[List.getElem?_append_right (Nat.le_refl _)];simp
  .simpa using g1
  .rw[List.length_cons,List.range_succ_eq_map,List.map_cons,List.map_cons,List.map_map,g2];simp only[List.cons.injEq,Nat.zero_add,true_and];congr 1;funext x;simp;omega
  .simpa [qD]using g3
theorem Zk {ros:List bt} {cl:anS} {K:an->Prop}:∀(l:anU) (hd:List (Nat×e7×List gL)) (s:an),tT C ros s hd->hd.Pairwise (HU cl)->l.Nodup->(hd.map (·.1)).Nodup->
  (∀i,i∈l↔i∈hd.map (·.1))->(∀u i v,l=u++i::v->∀e∈(cl[i]?).getD [],e∈hd.map (·.1)->e∈u)->K (qD s hd)->ko C ros s l K:=by
 intro l;induction l with
 |nil=>
  intro hd s _ _ _ _ hm _ hk;cases hd with
  |nil=>exact hk
  |cons e hd=>have:=(hm e.1).2 (by simp);cases this
 |cons i l ih=>
  intro hd s ai al aN rC hm a1 hk;obtain⟨e,he,ak⟩:=List.mem_map.1 ((hm i).1 (by simp));obtain⟨pre,post,rfl⟩:=List.append_of_mem he;have Zl:∀a∈pre,vH a.2.1 e.2.1=true:=by
   intro a bg;have ax:=(List.pairwise_append.1 al).2.2 a bg e (by simp);rcases ax with ax|ax
   .rw[ak]at ax;have:=a1 [] i l rfl a.1 ax (by simp only[List.map_append,List.mem_append,List.mem_map];exact .inl ⟨a,bg,rfl⟩);cases this
   .exact ax
  obtain⟨g1,g2⟩:=Zf pre s ai Zl;obtain⟨⟨o,Zm,Dw⟩,g3⟩:=g1;have O_:i∉(pre++post).map (·.1):=by
   have:(pre.map (·.1)++e.1::post.map (·.1)).Nodup:=by simpa using rC
   have bn:=(List.perm_middle.nodup_iff.1 this)
   rw[List.nodup_cons]at bn;rw[<-ak];simpa using bn.1
  simp only[ko];rw[<-ak,Zm];refine Dw.1 s (λ_ _=>rfl) _ ?_;rw[List.nodup_cons]at aN;refine ih (pre++post) _ g3 ?_ aN.2 ?_ ?_ ?_ ?_
  .exact al.sublist ((List.Sublist.refl pre).append (List.sublist_cons_self e post))
  .have:(pre.map (·.1)++e.1::post.map (·.1)).Nodup:=by simpa using rC
   have bn:=(List.perm_middle.nodup_iff.1 this)
   rw[List.nodup_cons]at bn;simpa using bn.2
  .intro j;constructor
   .intro bo;have h1:=(hm j).1 (by simp[bo]);simp only[List.map_append,List.map_cons,List.mem_append,List.mem_cons]at h1⊢;rcases h1 with h1|rfl|h1
    .exact .inl h1
    .exact(aN.1 (ak▸bo)).elim
    .exact .inr h1
   .intro bo;have h1:=(hm j).2 (by
     simp only[List.map_append,List.map_cons,List.mem_append,List.mem_cons]at bo⊢;exact bo.imp id .inr)
    rcases List.mem_cons.1 h1 with rfl|h1
    .exact(O_ bo).elim
    .exact h1
  .intro u j v hu x ag HV;have h1:=a1 (i::u) j v (by rw[hu];rfl) x ag (by
    simp only[List.map_append,List.map_cons,List.mem_append,List.mem_cons]at HV⊢;exact HV.imp id .inr)
   rcases List.mem_cons.1 h1 with rfl|h1
   .exact(O_ HV).elim
   .exact h1
  .have:qD s (e::(pre++post))=qD (dB e.2.2 s) (pre++post):=rfl;rw[<-this,g2];exact hk
theorem Pa {ros:List bt} {e6:anS} {s:an} {K:an->Prop} (hlen:e6.length=ros.length)
  (h:cq C s ros (some []) (λacc s=>lO (rP e6) 0 [] (acc.getD []).reverse=true/\K s)):∀l,HD e6 l->ko C ros s l K:=by
 intro l ⟨en,l2,Hx⟩;obtain⟨hd,g1,g2,g3,g4⟩:=Zj ros [] s [] h;simp only[List.nil_append,List.append_nil,List.length_nil,Option.getD_some,List.reverse_reverse]at g1 g2 g3;have hl:hd.length=ros.length:=by have:=congrArg List.length g2;simpa using this
 have vI:hd.map (·.1)=(List.range hd.length).map (·+0):=by rw[g2,hl]
 have ax:hd.map (·.1)=List.range ros.length:=by rw[g2];simp
 obtain⟨eF,_⟩:=Zi hd 0 [] vI g3;refine Zk l hd s g1 eF en (by rw[ax];exact List.nodup_range) (λi=>?_) (λu i v hu e he _=>Zh Hx u i v hu e he) g4;rw[ax,l2,hlen,List.mem_range]
end
def oy (C:bx) (dst:Option Nat) (os:List bt) (K:Option (List e7)->an->Prop):Option (I×an)->Prop
 |some (av,s1)=>cq C (fin s1 dst av) os none K
 |none=>False
def o5 (C:bx) (l:anY) (b5 cy:anU) (dst:Option Nat) (os:List bt) (a:List e7) (K:Option (List e7)->an->Prop):Option (I×an)->Prop
 |some (av,s1)=>cq C (fin s1 dst av) os (some (jh (aj l) b5 dst cy av::a)) K
 |none=>False
def jX (C:bx) (l:anY) (dst:Option Nat) (bz:dK) (t:Nat) (b:Bool) (os:List bt) (acc:Option (List e7)) (K:Option (List e7)->an->Prop):I->Prop
 | .bool e8=>if e8=b then o4 C (aj l) bz (λcy av s1=>cq C (fin s1 dst av) os (rN acc (jh (aj l) (t::use (aj l) bz) dst cy av)) K)else cq C (fin (aj l) dst (.tuple [])) os (rN acc (jh (aj l) [t] dst [] (.tuple []))) K
 | .tuple []=>cq C (fin (aj l) dst (.tuple [])) os (rN acc (jh (aj l) [t] dst [] (.tuple []))) K
 |_=>False
section
variable {C:bx} {l:anY} {os:List bt} {K:Option (List e7)->an->Prop} {dst:Option Nat} {a:List e7} {acc:Option (List e7)}
theorem DE {s:an} {bz:dK} {K:anU->I->an->Prop} (aN:bz.h7=false):o4 C s bz K=(match bJ C s bz with
  |some (av,s1)=>K (kl s bz) av s1
  |none=>False):=by
 apply propext;constructor
 .intro h;cases bz<;>first
   |(simp[dK.h7]at aN;done)
   |(obtain⟨av,s1,h1,ab⟩:=h;rw[h1];exact ab)
 .intro h;split at h
  .rename_i av s1 he;cases bz<;>first
    |(simp[dK.h7]at aN;done)
    |exact⟨av,s1,he,h⟩
  .exact h.elim
theorem Pb:cq C (aj l) [] acc K=K acc (aj l):=rfl
theorem tU {bz:dK} (aN:bz.h7=false):cq C (aj l) (⟨dst,bz,none⟩::os) none K=oy C dst os K (bJ C (aj l) bz):=by
 simp only[cq,nE,rN];rw[DE aN];cases bJ C (aj l) bz with
 |none=>rfl
 |some p=>rfl
theorem vJ {bz:dK} (aN:bz.h7=false):cq C (aj l) (⟨dst,bz,none⟩::os) (some a) K=o5 C l (use (aj l) bz) (kl (aj l) bz) dst os a K (bJ C (aj l) bz):=by
 simp only[cq,nE,rN];rw[DE aN];cases bJ C (aj l) bz with
 |none=>rfl
 |some p=>rfl
theorem Pc {bz:dK} {t:Nat} {b:Bool}:cq C (aj l) (⟨dst,bz,some (t,b)⟩::os) acc K=jX C l dst bz t b os acc K (aj l t):=by
 simp only[cq,nE];generalize aj l t=v;cases v<;>first|rfl|(rename_i vs;cases vs<;>rfl)
theorem HW {bz:dK} {t:Nat} {b:Bool} (aN:bz.h7=false):jX C l dst bz t b os none K (.bool b)=oy C dst os K (bJ C (aj l) bz):=by
 simp only[jX,if_true];rw[DE aN];cases bJ C (aj l) bz with
 |none=>rfl
 |some p=>rfl
theorem HX {bz:dK} {t:Nat} {b:Bool} (aN:bz.h7=false):jX C l dst bz t b os (some a) K (.bool b)=o5 C l (t::use (aj l) bz) (kl (aj l) bz) dst os a K (bJ C (aj l) bz):=by
 simp only[jX,if_true];rw[DE aN];cases bJ C (aj l) bz with
 |none=>rfl
 |some p=>rfl
theorem Zn {bz:dK} {t:Nat}:jX C l dst bz t true os none K (.bool false)=cq C (fin (aj l) dst (.tuple [])) os none K/\jX C l dst bz t false os none K (.bool true)=cq C (fin (aj l) dst (.tuple [])) os none K/\
  (∀b,jX C l dst bz t b os none K (.tuple [])=cq C (fin (aj l) dst (.tuple [])) os none K):=⟨rfl,rfl,λ_=>rfl⟩
theorem Zo {bz:dK} {t:Nat}:jX C l dst bz t true os (some a) K (.bool false)=cq C (fin (aj l) dst (.tuple [])) os (some (jh (aj l) [t] dst [] (.tuple [])::a)) K/\
  jX C l dst bz t false os (some a) K (.bool true)=cq C (fin (aj l) dst (.tuple [])) os (some (jh (aj l) [t] dst [] (.tuple [])::a)) K/\
  (∀b,jX C l dst bz t b os (some a) K (.tuple [])=cq C (fin (aj l) dst (.tuple [])) os (some (jh (aj l) [t] dst [] (.tuple [])::a)) K):=⟨rfl,rfl,λ_=>rfl⟩
theorem Zp (av:I) (s1:an):oy C dst os K (some (av,s1))=cq C (fin s1 dst av) os none K:=rfl
theorem Zq (b5 cy:anU) (av:I) (s1:an):o5 C l b5 cy dst os a K (some (av,s1))=cq C (fin s1 dst av) os (some (jh (aj l) b5 dst cy av::a)) K:=rfl
def DF (s:an):I->Option (I×an)
 | .h y q=>cy s (.h y q)
 |d=>some (d,s)
def Pd (s:an):I->I->I->Option (I×an)
 | .bool e8,x,y=>some (if e8 then x else y,s)
 |_,_,_=>none
def iu (s:an):Option I->Option (I×an)
 |some d=>some (d,s)
 |none=>none
def dj:Option an->Option (I×an)
 |some s1=>some (.hole,s1)
 |none=>none
def ji (s:an):List aX->anZ
 |[]=>[]
 |x::xs=>a6 s x::ji s xs
def tV (s:an):List (Nat×aX)->anY
 |[]=>[]
 |(k,x)::xs=>(k,a6 s x)::tV s xs
def AN (s:an):Option aX->Option I
 |none=>none
 |some x=>some (a6 s x)
theorem DG (s:an) (x:Option I):(x.map λd=>(d,s))=iu s x:=by cases x<;>rfl
theorem Pe (x:Option an):(x.map λs1=>(I.hole,s1))=dj x:=by cases x<;>rfl
theorem tW (s:an):∀xs:List aX,xs.map (a6 s)=ji s xs
 |[]=>rfl
 |x::xs=>by simp only[List.map_cons,ji,tW s xs]
theorem Pf (s:an):∀xs:List (Nat×aX),(xs.map λp=>(p.1,a6 s p.2))=tV s xs
 |[]=>rfl
 |(k,x)::xs=>by simp only[List.map_cons,tV,Pf s xs]
theorem Zr (s:an) (x:Option aX):x.map (a6 s)=AN s x:=by cases x<;>rfl
theorem Pg:(∀x,dK.h7 (.fC x)=false)/\
  (∀x,dK.h7 (.iB x)=false)/\
  (∀c x y,dK.h7 (.pick c x y)=false)/\
  (∀T,dK.h7 (.nw T)=false)/\
  (∀T x,dK.h7 (.h2 T x)=false)/\
  (∀T ps,dK.h7 (.ij T ps)=false)/\
  (∀T n ps,dK.h7 (.ei T n ps)=false)/\
  (∀T x,dK.h7 (.ld T x)=false)/\
  (∀T x y,dK.h7 (.ki T x y)=false)/\
  (∀x,dK.h7 (.jx x)=false)/\
  (∀op T x y,dK.h7 (.ef op T x y)=false)/\
  (∀op x,dK.h7 (.un op x)=false)/\
  (∀A B x,dK.h7 (.je A B x)=false)/\
  (∀f cs,dK.h7 (.o1 f cs)=false)/\
  (∀T x y,dK.h7 (.eL T x y)=false)/\
  (∀T x eK ak,dK.h7 (.fR T x eK ak)=false)/\
  (∀T x k,dK.h7 (.hq T x k)=false)/\
  (∀T x y,dK.h7 (.jb T x y)=false)/\
  (∀T x y,dK.h7 (.idx T x y)=false)/\
  (∀x k,dK.h7 (.ex x k)=false)/\
  (∀T x,dK.h7 (.len T x)=false)/\
  (∀T b5 x y,dK.h7 (.app T b5 x y)=false):=by
 and_intros<;>intros<;>rfl
theorem Ph:(∀x,bJ C (aj l) (.fC x)=some (a6 (aj l) x,aj l))/\
  (∀x,bJ C (aj l) (.iB x)=DF (aj l) (a6 (aj l) x))/\
  (∀c x y,bJ C (aj l) (.pick c x y)=Pd (aj l) (a6 (aj l) c) (a6 (aj l) x) (a6 (aj l) y))/\
  (∀T,bJ C (aj l) (.nw T)=iu (aj l) (nw C T))/\
  (∀T x,bJ C (aj l) (.h2 T x)=h2 (aj l) (a6 (aj l) x))/\
  (∀T ps,bJ C (aj l) (.ij T ps)=ij C (aj l) T (tV (aj l) ps))/\
  (∀T n ps,bJ C (aj l) (.ei T n ps)=ei C (aj l) T n (tV (aj l) ps))/\
  (∀T x,bJ C (aj l) (.ld T x)=iu (aj l) (ld C (aj l) T (a6 (aj l) x)))/\
  (∀T x y,bJ C (aj l) (.ki T x y)=dj (ki C (aj l) T (a6 (aj l) x) (a6 (aj l) y)))/\
  (∀x,bJ C (aj l) (.jx x)=iu (aj l) (jx (aj l) (a6 (aj l) x)))/\
  (∀op T x y,bJ C (aj l) (.ef op T x y)=iu (aj l) (ef C (aj l) op T (a6 (aj l) x) (a6 (aj l) y)))/\
  (∀op x,bJ C (aj l) (.un op x)=iu (aj l) (un op (a6 (aj l) x)))/\
  (∀A B x,bJ C (aj l) (.je A B x)=iu (aj l) (je C (aj l) A B (a6 (aj l) x)))/\
  (∀f cs,bJ C (aj l) (.o1 f cs)=some (.fn f (ji (aj l) cs),aj l))/\
  (∀T x y,bJ C (aj l) (.eL T x y)=iu (aj l) (eL C T (a6 (aj l) x) (a6 (aj l) y)))/\
  (∀T x eK ak,bJ C (aj l) (.fR T x eK ak)=fR C (aj l) T (a6 (aj l) x) (AN (aj l) eK) (AN (aj l) ak))/\
  (∀T x k,bJ C (aj l) (.hq T x k)=iu (aj l) (hq C (aj l) T (a6 (aj l) x) k))/\
  (∀T x y,bJ C (aj l) (.jb T x y)=iu (aj l) (jb C (aj l) T (a6 (aj l) x) (a6 (aj l) y)))/\
  (∀T x y,bJ C (aj l) (.idx T x y)=iu (aj l) (idx C T (a6 (aj l) x) (a6 (aj l) y)))/\
  (∀x k,bJ C (aj l) (.ex x k)=iu (aj l) (ex (aj l) (a6 (aj l) x) k))/\
  (∀T x,bJ C (aj l) (.len T x)=iu (aj l) (sw C (aj l) T (a6 (aj l) x)))/\
  (∀T b5 x y,bJ C (aj l) (.app T b5 x y)=sA C (aj l) T b5 (a6 (aj l) x) (a6 (aj l) y)):=by
 and_intros<;>intros<;>first|rfl|(simp only[bJ,DG,Pe,Pf,tW,Zr];done)|(simp only[bJ];cases a6 (aj l) _<;>first|rfl|(rename_i b;cases b<;>rfl))
end
theorem Pj:∀t d,mi t d=if I.plain d=true then d else .h t []:=λ_ _=>rfl
theorem Pk:(∀l av,fin (aj l) none av=aj l)/\(∀l t av,fin (aj l) (some t) av=aj ((t,av)::if I.plain av=true then l else qC t l)):=
 ⟨λ_ _=>rfl,λl t av=>by
  simp only[fin];split
  .rw[rL]
  .rw[vF,rL]⟩
theorem HY:
  (∀k n,I.plain (.int k n)=true)/\
  (∀b,I.plain (.bool b)=true)/\
  (∀x,I.plain (.str x)=true)/\
  (∀xs,I.plain (.slice xs)=true)/\
  (∀d,I.plain (.ref d)=true)/\
  (∀f cap,I.plain (.fn f cap)=true)/\
  (∀x q,I.plain (.h x q)=true)/\
  (∀x q,I.plain (.al x q)=true)/\
  (I.plain .dq=true)/\
  (I.plain .bd=true)/\
  (I.plain .fj=true)/\
  (I.plain .hole=true)/\
  (∀sz xs,I.plain (.ah sz xs)=false)/\
  (∀d,I.plain (.aV d)=false)/\
  (∀aC,I.plain (.agg aC)=I.dS aC)/\
  (∀aC,I.plain (.tuple aC)=I.dS aC)/\
  (I.dS []=true)/\
  (∀d ds,I.dS (d::ds)=(d.plain&&I.dS ds)):=
 ⟨λ_ _=>rfl,λ_=>rfl,λ_=>rfl,λ_=>rfl,λ_=>rfl,λ_ _=>rfl,λ_ _=>rfl,λ_ _=>rfl,rfl,rfl,rfl,rfl,λ_ _=>rfl,λ_=>rfl,λ_=>rfl,λ_=>rfl,rfl,λ_ _=>rfl⟩
theorem Pl:∀s d,DF s d=match d with| .h y q=>cy s (.h y q)|d=>some (d,s):=λ_ _=>by unfold DF;rfl
theorem Pm:
  (∀t k n,cu t (.int k n)=(.int k n))/\
  (∀t b,cu t (.bool b)=(.bool b))/\
  (∀t x,cu t (.str x)=(.str x))/\
  (∀t xs,cu t (.slice xs)=(.slice xs))/\
  (∀t d,cu t (.ref d)=(.ref d))/\
  (∀t,cu t .dq= .dq)/\
  (∀t,cu t .bd= .bd)/\
  (∀t,cu t .fj= .fj)/\
  (∀t,cu t .hole= .hole)/\
  (∀t sz xs,cu t (.ah sz xs)=(.ah sz xs))/\
  (∀t d,cu t (.aV d)=(.aV d))/\
  (∀t aC,cu t (.agg aC)=(.agg aC))/\
  (∀t aC,cu t (.tuple aC)=(.tuple aC))/\
  (∀t y q,cu t (.h y q)=if y=t then .hole else .h y q)/\
  (∀t y q,cu t (.al y q)=if y=t then .hole else .al y q)/\
  (∀t f c,cu t (.fn f c)= .fn f (jt t c))/\
  (∀t,jt t []=[])/\
  (∀t d ds,jt t (d::ds)=cu t d::jt t ds)/\
  (∀t,qC t []=[])/\
  (∀t u d l,qC t ((u,d)::l)=(u,cu t d)::qC t l)/\
  (∀t l,k8 t (aj l)=aj (qC t l)):=
 ⟨λ_ _ _=>by unfold cu;rfl,λ_ _=>by unfold cu;rfl,λ_ _=>by unfold cu;rfl,λ_ _=>by unfold cu;rfl,λ_ _=>by unfold cu;rfl,λ_=>by unfold cu;rfl,λ_=>by unfold cu;rfl,λ_=>by unfold cu;rfl,λ_=>by unfold cu;rfl,λ_ _ _=>by unfold cu;rfl,λ_ _=>by unfold cu;rfl,λ_ _=>by unfold cu;rfl,λ_ _=>by unfold cu;rfl,λ_ _ _=>by unfold cu;rfl,λ_ _ _=>by unfold cu;rfl,λ_ _ _=>by simp only[cu],λ_=>by simp only[jt],λ_ _ _=>by simp only[jt],λ_=>rfl,λ_ _ _ _=>rfl,λt l=>vF t l⟩
theorem Pn:
  (∀t k n,b4 t (.int k n)=(.int k n))/\
  (∀t b,b4 t (.bool b)=(.bool b))/\
  (∀t x,b4 t (.str x)=(.str x))/\
  (∀t xs,b4 t (.slice xs)=(.slice xs))/\
  (∀t d,b4 t (.ref d)=(.ref d))/\
  (∀t,b4 t .dq= .dq)/\
  (∀t,b4 t .bd= .bd)/\
  (∀t,b4 t .fj= .fj)/\
  (∀t,b4 t .hole= .hole)/\
  (∀t sz xs,b4 t (.ah sz xs)=(.ah sz xs))/\
  (∀t d,b4 t (.aV d)=(.aV d))/\
  (∀t aC,b4 t (.agg aC)=(.agg aC))/\
  (∀t aC,b4 t (.tuple aC)=(.tuple aC))/\
  (∀t y,b4 t (.h y [])= .h y [])/\
  (∀t y k q,b4 t (.h y (k::q))=if y=t then .hole else .h y (k::q))/\
  (∀t y q,b4 t (.al y q)=if y=t then .hole else .al y q)/\
  (∀t f c,b4 t (.fn f c)= .fn f (iP t c))/\
  (∀t,iP t []=[])/\
  (∀t d ds,iP t (d::ds)=b4 t d::iP t ds)/\
  (∀t,vE t []=[])/\
  (∀t u d l,vE t ((u,d)::l)=(u,b4 t d)::vE t l)/\
  (∀t l,hM t (aj l)=aj (vE t l)):=
 ⟨λ_ _ _=>by unfold b4;rfl,λ_ _=>by unfold b4;rfl,λ_ _=>by unfold b4;rfl,λ_ _=>by unfold b4;rfl,λ_ _=>by unfold b4;rfl,λ_=>by unfold b4;rfl,λ_=>by unfold b4;rfl,λ_=>by unfold b4;rfl,λ_=>by unfold b4;rfl,λ_ _ _=>by unfold b4;rfl,λ_ _=>by unfold b4;rfl,λ_ _=>by unfold b4;rfl,λ_ _=>by unfold b4;rfl,λ_ _=>by simp[b4],λ_ _ _ _=>by simp[b4],λ_ _ _=>by unfold b4;rfl,λ_ _ _=>by simp only[b4],λ_=>by simp only[iP],λ_ _ _=>by simp only[iP],λ_=>rfl,λ_ _ _ _=>rfl,λt l=>YT t l⟩
def HZ:oh->Bool->Option I
 | .bool,b=>some (.bool b)
 |_,_=>none
def tX (neg:Bool):oh->Option anV->Option I
 | .slice _,some r=>some (qm neg r)
 |_,_=>none
def vK (neg:Bool):oh->anV->Option I
 | .ptr _,some b=>some (.bool (b !=neg))
 |_,_=>none
theorem Po (C:bx) (s:an) (T:TypeId):
  (∀op k a da b,ef C s op T (.int k a) (.int da b)=jc op k a da b)/\
  (∀op a b,ef C s op T (.str a) (.str b)=oY op a b)/\
  (∀a b,ef C s .eql T (.bool a) (.bool b)=HZ (C.T T).k (a==b))/\
  (∀a b,ef C s .neq T (.bool a) (.bool b)=HZ (C.T T).k (!(a==b)))/\
  (∀xs,ef C s .eql T (.slice xs) .bd=tX false (C.T T).k (j7 s (.slice xs)))/\
  (∀xs,ef C s .neq T (.slice xs) .bd=tX true (C.T T).k (j7 s (.slice xs)))/\
  (ef C s .eql T .bd .bd=tX false (C.T T).k (j7 s .bd))/\
  (ef C s .neq T .bd .bd=tX true (C.T T).k (j7 s .bd))/\
  (∀x q,ef C s .eql T (.h x q) .bd=tX false (C.T T).k (j7 s (.h x q)))/\
  (∀x q,ef C s .neq T (.h x q) .bd=tX true (C.T T).k (j7 s (.h x q)))/\
  (∀x q,ef C s .eql T (.h x q) .dq=vK false (C.T T).k (mm s (.h x q)))/\
  (∀x q,ef C s .neq T (.h x q) .dq=vK true (C.T T).k (mm s (.h x q)))/\
  (∀d,ef C s .eql T (.ref d) .dq=vK false (C.T T).k (mm s (.ref d)))/\
  (∀d,ef C s .neq T (.ref d) .dq=vK true (C.T T).k (mm s (.ref d)))/\
  (ef C s .eql T .dq .dq=vK false (C.T T).k (mm s .dq))/\
  (ef C s .neq T .dq .dq=vK true (C.T T).k (mm s .dq)):=by
 refine⟨?_,?_,?_,?_,?_,?_,?_,?_,?_,?_,?_,?_,?_,?_,?_,?_⟩<;>intros<;>first
  |rfl
  |(simp only[ef]
    generalize (C.T T).k=dC;cases dC<;>first|rfl|(simp only[tX];generalize j7 s _=v;cases v<;>rfl)|(simp only[vK];generalize mm s _=v;cases v<;>(try (rename_i b;cases b))<;>rfl))
theorem Pp (k:IntKind) (a b:Int):
  jc .add k a k b=some (.int k (k.wrap (a+b)))/\jc .sub k a k b=some (.int k (k.wrap (a-b)))/\jc .mul k a k b=some (.int k (k.wrap (a*b)))/\
  jc .eql k a k b=some (.bool (a==b))/\jc .neq k a k b=some (.bool (a !=b))/\jc .lss k a k b=some (.bool (decide (a<b)))/\jc .leq k a k b=some (.bool (decide (a<=b)))/\
  jc .gtr k a k b=some (.bool (decide (b<a)))/\jc .geq k a k b=some (.bool (decide (b<=a)))/\
  jc .and k a k b=some (.int k (bitsOf .and k a b))/\jc .or k a k b=some (.int k (bitsOf .or k a b))/\jc .xor k a k b=some (.int k (bitsOf .xor k a b))/\jc .andNot k a k b=some (.int k (bitsOf .andNot k a b)):=by
 simp[jc]
theorem Zs {k:IntKind} {a b:Int} (h:b≠0):jc .quo k a k b=some (.int k (k.wrap (a.tdiv b))):=by simp[jc,h]
theorem Zt {k:IntKind} {a b:Int} (h:b≠0):jc .rem k a k b=some (.int k (a.tmod b)):=by simp[jc,h]
theorem Pq (a b:anR):
  oY .eql a b=some (.bool (a==b))/\oY .neq a b=some (.bool !(a==b))/\oY .lss a b=some (.bool (Op.bytesLess a b))/\
  oY .leq a b=some (.bool (Op.bytesLess a b||a==b))/\oY .gtr a b=some (.bool !(Op.bytesLess a b||a==b))/\oY .geq a b=some (.bool !(Op.bytesLess a b)):=by
 refine⟨rfl,rfl,rfl,rfl,rfl,rfl⟩
theorem Pr:(∀b,un .not (.bool b)=some (.bool !b))/\(un .not .fj=some .fj)/\(∀k n,un .neg (.int k n)=some (.int k (k.wrap (0-n)))):=⟨λ_=>rfl,rfl,λ_ _=>rfl⟩
def H0:oh->Option UInt8->Option I
 | .str,some c=>some (.int .u8 c.toNat)
 |_,_=>none
theorem Ps (C:bx) (T:TypeId) (l:anR) (k:IntKind) (n:Int):idx C T (.str l) (.int k n)=H0 (C.T T).k (bI l n):=by
 simp only[idx,bI];generalize (C.T T).k=dC;cases dC<;>first|rfl|(simp only[H0];split<;>first|rfl|(cases l[n.toNat]? <;>rfl))
def H2 (C:bx):oh->Option I->Option I
 | .slice e,some d=>if(C.T e).ok=true/\d.wd=(C.T e).sz then some (.ref d)else none
 |_,_=>none
theorem Pt (C:bx) (s:an) (T:TypeId) (xs:anZ) (k:IntKind) (n:Int):jb C s T (.slice xs) (.int k n)=H2 C (C.T T).k (bI xs n):=by
 simp only[jb,bI];generalize (C.T T).k=dC;cases dC<;>first|rfl|skip
 simp only[H2];by_cases ba:0<=n
 .simp only[ba,true_and,if_true];split
  .cases xs[n.toNat]? <;>simp[*]
  .cases xs[n.toNat]? <;>simp[*]
 .simp only[ba,false_and,if_false]
def AO (C:bx) (y:Nat) (q:anU) (n:Int):oh->Option I->Option I
 | .slice e,some (.ah sz xs)=>if(bI xs n).isSome=true/\(C.T e).ok=true/\sz=(C.T e).sz then some (.al y (q++[n.toNat]))else none
 |_,_=>none
theorem Pu (C:bx) (s:an) (T:TypeId) (y:Nat) (q:anU) (k:IntKind) (n:Int):jb C s T (.h y q) (.int k n)=AO C y q n (C.T T).k (I.sub q (s y)):=by
 simp only[jb];generalize (C.T T).k=dC;cases dC<;>first|rfl|skip
 rename_i e;cases U:I.sub q (s y)with
 |none=>simp[AO]
 |some d=>
  cases d<;>first
   |(simp[AO];done)
   |skip
  rename_i sz xs;have hg:(bI xs n).isSome=true↔0<=n/\n.toNat<xs.length:=by
   unfold bI;split<;>simp_all<;>omega
  simp only[AO,hg];by_cases ba:0<=n<;>by_cases h1:(C.T e).ok=true<;>simp[ba,h1]
def xS:oh->an->Option anR->Option (I×an)
 | .str,s,some t=>some (.str t,s)
 |_,_,_=>none
def xT (C:bx):oh->an->anZ->Option anZ->Option (I×an)
 | .slice e,s,xs,some t=>if(C.T e).ok=true/\∀d∈xs,d.wd=(C.T e).sz then some (.slice t,s)else none
 |_,_,_,_=>none
theorem Pv (C:bx) (s:an) (T:TypeId) (l:anR):
  (∀k a da b,fR C s T (.str l) (some (.int k a)) (some (.int da b))=xS (C.T T).k s (fw l a b))/\
  (∀da b,fR C s T (.str l) none (some (.int da b))=xS (C.T T).k s (fw l 0 b))/\
  (∀k a,fR C s T (.str l) (some (.int k a)) none=xS (C.T T).k s (fw l a l.length)):=by
 have e:∀(eK ak:Option I) (a b:Int),(hZ 0 eK=if 0<=a then some a.toNat else none)->(hZ l.length ak=if 0<=b then some b.toNat else none)->fR C s T (.str l) eK ak=xS (C.T T).k s (fw l a b):=by
  intro eK ak a b h1 ab;simp only[fR];generalize (C.T T).k=dC;cases dC<;>first|rfl|skip
  simp only[h1,ab,fw];by_cases bg:0<=a<;>by_cases R:0<=b<;>simp only[bg,R,if_true,if_false,xS,true_and,false_and]
  .by_cases ai:a<=b/\b<=l.length
   .rw[if_pos ⟨by omega,by omega⟩,if_pos ai]
   .rw[if_neg (λh=>ai ⟨by omega,by omega⟩),if_neg ai]
  .rw[if_neg (by omega)]
 exact⟨λk a da b=>e _ _ a b rfl rfl,λda b=>e _ _ 0 b rfl rfl,λk a=>e _ _ a l.length rfl (by simp[hZ])⟩
theorem Pw (C:bx) (s:an) (T:TypeId) (xs:anZ):
  (∀k a da b,fR C s T (.slice xs) (some (.int k a)) (some (.int da b))=xT C (C.T T).k s xs (fw xs a b))/\
  (∀da b,fR C s T (.slice xs) none (some (.int da b))=xT C (C.T T).k s xs (fw xs 0 b))/\
  (∀k a,fR C s T (.slice xs) (some (.int k a)) none=xT C (C.T T).k s xs (fw xs a xs.length)):=by
 have e:∀(eK ak:Option I) (a b:Int),(hZ 0 eK=if 0<=a then some a.toNat else none)->(hZ xs.length ak=if 0<=b then some b.toNat else none)->fR C s T (.slice xs) eK ak=xT C (C.T T).k s xs (fw xs a b):=by
  intro eK ak a b h1 ab;simp only[fR];generalize (C.T T).k=dC;cases dC<;>first|rfl|skip
  simp only[h1,ab,fw];by_cases bg:0<=a<;>by_cases R:0<=b<;>simp only[bg,R,if_true,if_false,xT,true_and,false_and]
  .by_cases ai:a<=b/\b<=xs.length
   .rw[if_pos ai];have h1:a.toNat<=b.toNat:=by omega
    have ab:b.toNat<=xs.length:=by omega
    simp only[h1,ab,true_and]
   .rw[if_neg (λh=>ai ⟨by omega,by omega⟩),if_neg ai]
  .rw[if_neg (by omega)]
 exact⟨λk a da b=>e _ _ a b rfl rfl,λda b=>e _ _ 0 b rfl rfl,λk a=>e _ _ a xs.length rfl (by simp[hZ])⟩
def AP (q:anU):Option I->Option I
 |some d=>I.sub q d
 |none=>none
theorem Px:(∀d,I.sub [] d=some d)/\(∀k q aC,I.sub (k::q) (.agg aC)=AP q aC[k]?)/\(∀k q aC,I.sub (k::q) (.tuple aC)=AP q aC[k]?)/\(∀k q sz xs,I.sub (k::q) (.ah sz xs)=AP q xs[k]?)/\
  (∀q d,I.sub (0::q) (.aV d)=I.sub q d)/\(∀q d,AP q (some d)=I.sub q d)/\
  (∀k q a b,I.sub (k::q) (.int a b)=none):=by
 refine⟨λd=>by simp[I.sub],?_,?_,?_,λq d=>by simp[I.sub],λ_ _=>rfl,λ_ _ _ _=>by simp[I.sub]⟩
 .intro k q aC;simp only[I.sub];cases aC[k]? <;>rfl
 .intro k q aC;simp only[I.sub];cases aC[k]? <;>rfl
 .intro k q sz aC;simp only[I.sub];cases aC[k]? <;>rfl
def Py (k:Nat) (q:anU) (n:I) (aC:anZ):Option I->I
 |some d=>.agg (aC.set k (I.put q n d))
 |none=>.agg aC
def Pz (k:Nat) (q:anU) (n:I) (aC:anZ):Option I->I
 |some d=>.tuple (aC.set k (I.put q n d))
 |none=>.tuple aC
def PA (k:Nat) (q:anU) (n:I) (sz:Nat) (xs:anZ):Option I->I
 |some d=>.ah sz (xs.set k (I.put q n d))
 |none=>.ah sz xs
theorem PB:(∀n d,I.put [] n d=n)/\(∀k q n aC,I.put (k::q) n (.agg aC)=Py k q n aC aC[k]?)/\(∀k q n aC,I.put (k::q) n (.tuple aC)=Pz k q n aC aC[k]?)/\
  (∀k q n sz xs,I.put (k::q) n (.ah sz xs)=PA k q n sz xs xs[k]?)/\(∀q n d,I.put (0::q) n (.aV d)= .aV (I.put q n d))/\
  (∀k q n aC d,Py k q n aC (some d)= .agg (aC.set k (I.put q n d)))/\(∀k q n aC d,Pz k q n aC (some d)= .tuple (aC.set k (I.put q n d)))/\
  (∀k q n sz xs d,PA k q n sz xs (some d)= .ah sz (xs.set k (I.put q n d))):=by
 refine⟨λn d=>by simp[I.put],?_,?_,?_,λq n d=>by simp[I.put],λ_ _ _ _ _=>rfl,λ_ _ _ _ _=>rfl,λ_ _ _ _ _ _=>rfl⟩
 .intro k q n aC;simp only[I.put];cases aC[k]? <;>rfl
 .intro k q n aC;simp only[I.put];cases aC[k]? <;>rfl
 .intro k q n sz aC;simp only[I.put];cases aC[k]? <;>rfl
theorem H3:(∀k n,I.wd (.int k n)=1)/\(∀b,I.wd (.bool b)=1)/\(∀x,I.wd (.str x)=1)/\(∀x,I.wd (.slice x)=1)/\(∀n x,I.wd (.ah n x)=1)/\(∀x,I.wd (.ref x)=1)/\(∀x,I.wd (.aV x)=1)/\
  I.wd .bd=1/\I.wd .dq=1/\I.wd .hole=1/\I.wd .fj=1/\(∀x y,I.wd (.h x y)=1)/\(∀x y,I.wd (.al x y)=1)/\(∀x y,I.wd (.fn x y)=1)/\(∀aC,I.wd (.agg aC)=I.dR aC)/\(∀aC,I.wd (.tuple aC)=I.dR aC)/\I.dR []=0/\(∀d ds,I.dR (d::ds)=d.wd+I.dR ds):=by
 simp[I.wd,I.dR]
theorem H4 (l:anR):(∀d∈l.map hv,d.wd=1)=True:=by simp[hv,I.wd]
theorem Zu {α:Type} {e:α->I} {n:Nat} (h:∀x,(e x).wd=n) (xs:List α):(∀d∈xs.map e,d.wd=n)=True:=by
 simp only[List.mem_map,eq_iff_iff,iff_true];rintro d ⟨x,_,rfl⟩;exact h x
theorem Zv (C:bx) (s:an) (A B:TypeId) (k da:IntKind) (n:Int) (iS:(C.T A).ok=true) (gY:(C.T B).k= .int da):je C s A B (.int k n)=some (.int da (da.wrap n)):=by
 simp only[je,iS,gY,if_true]
theorem PC (m:Int):hv (ns m)= .int .u8 (u8.wrap m):=by
 have h:0<=u8.wrap m/\u8.wrap m<256:=by rw[wrap_u8];omega
 simp only[hv,ns,UInt8.toNat_ofNat'];congr 1;omega
theorem H5 (m:Int):((ns m).toNat:Int)=u8.wrap m:=by
 have h:=PC m;simpa [hv]using h
section
variable {C:bx} {l:anY} {Q:Exit->an->Prop} {s:an}
theorem iv {ros:List bt} {k:anU} (h:cq C (aj l) ros none (λ_ s=>Q .normal (aj (fo k s)))):bh C (.ew ros (some k)) Q (aj l):=rO (λ_ _ h=>h) h
theorem PD {ros:List bt} {e6:anS} {k:anU} (hlen:e6.length=ros.length) (h:cq C (aj l) ros (some []) (λacc s=>lO (rP e6) 0 [] (acc.getD []).reverse=true/\Q .normal (aj (fo k s)))):
  bh C (.kp ros e6 (some k)) Q (aj l):=Pa hlen h
theorem Zw {a b:aH} (h:∀ee:Exit->an->Prop,(∀s,di (bh C b Q) s->ee .normal s)->(∀s,Q .ret s->ee .ret s)->(∀i s,Q (.exit i) s->ee (.exit i) s)->bh C a ee s):bh C (.seq a b) Q s:=
 h _ (λ_ h=>h) (λ_ h=>h) (λ_ _ h=>h)
theorem dn {ros:List bt} {k:anU} {b:aH} (h:cq C (aj l) ros none (λ_ s=>bh C b Q (aj (fo k s)))):bh C (.seq (.ew ros (some k)) b) Q (aj l):=rO (λ_ _ h=>.inl h) h
theorem sN {ros:List bt} {e6:anS} {k:anU} {b:aH} (hlen:e6.length=ros.length) (h:cq C (aj l) ros (some []) (λacc s=>lO (rP e6) 0 [] (acc.getD []).reverse=true/\bh C b Q (aj (fo k s)))):
  bh C (.seq (.kp ros e6 (some k)) b) Q (aj l):=Pa (K:=λs=>di (bh C b Q) (aj (fo k s))) hlen (by
   have key:∀(os:List bt) (s:an) (acc:Option (List e7)),cq C s os acc (λacc s=>lO (rP e6) 0 [] (acc.getD []).reverse=true/\bh C b Q (aj (fo k s)))->
     cq C s os acc (λacc s=>lO (rP e6) 0 [] (acc.getD []).reverse=true/\di (bh C b Q) (aj (fo k s))):=by
    intro os;induction os with
    |nil=>intro s acc h;exact⟨h.1,.inl h.2⟩
    |cons o os ih=>
     intro s acc h;have mono:∀{s:an} {bz:dK} {K c8:anU->I->an->Prop},(∀a b c,K a b c->c8 a b c)->o4 C s bz K->o4 C s bz c8:=by
      intro s bz K c8 hk h;cases bz with
      |call f args=>
       obtain⟨g,caps,ps,r,h1,gS,ab,ay,aT,bp,bX,bM,dy⟩:=h;exact⟨g,caps,ps,r,h1,gS,ab,ay,aT,bp,bX,bM,hk _ _ _ dy⟩
      |shr bz=>obtain⟨av,s1,h1,ab,ay,aT⟩:=h;exact⟨av,s1,h1,ab,ay,hk _ _ _ aT⟩
      |mo f args us=>
       obtain⟨b2,g,caps,ps,r,h1,gS,ab,ay,aT,bp,bX,bM,dy,hG⟩:=h;exact⟨b2,g,caps,ps,r,h1,gS,ab,ay,aT,bp,bX,bM,dy,hk _ _ _ hG⟩
      |_=>obtain⟨av,s1,h1,ab⟩:=h;exact⟨av,s1,h1,hk _ _ _ ab⟩
     simp only[cq,nE]at h⊢;split
     .rename_i hg;rw[hg]at h;exact mono (λ_ _ _=>ih _ _) h
     .rename_i t e8 hg;rw[hg]at h;simp only at h;split
      .rename_i amy U;rw[U]at h;simp only at h;split
       .rename_i R;rw[if_pos R]at h;exact mono (λ_ _ _=>ih _ _) h
       .rename_i R;rw[if_neg R]at h;exact ih _ _ h
      .rename_i U;rw[U]at h;exact ih _ _ h
      .rename_i h1 ab;split at h
       .exact h1 _ (by assumption)
       .exact ab (by assumption)
       .exact h
   exact key _ _ _ h)
theorem ka {c:aX} {a b:aH} (ai:a6 s c= .bool true) (h:bh C a Q s):bh C (.cond c a b) Q s:=by simp only[bh,ai,if_true];exact h
theorem sO {c:aX} {a b:aH} (ai:a6 s c= .bool false) (h:bh C b Q s):bh C (.cond c a b) Q s:=by simp only[bh,ai];exact h
theorem Zx {c:aX} {a b:aH} (ai:a6 s c= .fj) (h1:bh C a Q s) (ab:bh C b Q s):bh C (.cond c a b) Q s:=by simp only[bh,ai];exact⟨h1,ab⟩
theorem Zy {id:Nat} {b:aH} (h:∀ee:Exit->an->Prop,(∀s,Q .normal s->ee .normal s)->(∀s,Q .ret s->ee .ret s)->(∀s,Q .normal s->ee (.exit id) s)->(∀i s,i≠id->Q (.exit i) s->ee (.exit i) s)->bh C b ee s):bh C (.block id b) Q s:=
 h (xM id Q) (λ_ h=>h) (λ_ h=>h) (λs h=>by simp only[xM,if_true];exact h) (λi s ak h=>by simp only[xM,if_neg ak];exact h)
theorem cZ {id:Nat} (h:Q (.exit id) s):bh C (.exit id) Q s:=h
theorem hT (h:Q .ret s):bh C .ret Q s:=h
theorem aZ (h:Q .normal s):bh C .skip Q s:=h
def cU (C:bx) (b:aH) (Q:Exit->an->Prop) (s:an):Prop:=∀Z:an->Prop,(∀aA,bh C b (andThen (di Z) Q) aA->Z aA)->Z s
theorem rQ {b:aH} (h:di (cU C b Q) s):bh C (.loop b) Q s:=h
theorem Zz {b:aH} (h:∀ee:Exit->an->Prop,(∀s,di (cU C b Q) s->ee .normal s)->(∀s,Q .ret s->ee .ret s)->(∀i s,Q (.exit i) s->ee (.exit i) s)->bh C b ee s):cU C b Q s:=by
 intro Z xN;refine xN s (OM b ?_ (h (andThen (di (cU C b Q)) Q) (λ_ h=>h) (λ_ h=>h) (λ_ _ h=>h)));intro e aA bn;cases e with
 |normal=>exact sJ (λs h=>h Z xN) aA bn
 |_=>exact bn
theorem b9 {bV:anY} (h:bV.map (·.2)=bV.map λp=>s p.1):vD s bV:=by
 intro p al;left;induction bV with
 |nil=>cases al
 |cons a bV ih=>
  simp only[List.map_cons,List.cons.injEq]at h;rcases List.mem_cons.1 al with rfl|al
  .exact h.1
  .exact ih h.2 al
end
section
variable {C:bx} {l:anY} {Q:Exit->an->Prop} {s:an} {os ros:List bt} {K:Option (List e7)->an->Prop} {dst:Option Nat}
theorem PE (l:anY):(∀n,a6 (aj l) (.t n)=mi n (aj l n))/\(∀av,a6 (aj l) (.c av)=av)/\(∀g,a6 (aj l) (.f g)= .fn g []):=⟨λ_=>rfl,λ_=>rfl,λ_=>rfl⟩
theorem PF:(∀t,aj [] t= .hole)/\(∀u d (l:anY) t,aj ((u,d)::l) t=if t=u then d else aj l t):=⟨λ_=>rfl,λ_ _ _ _=>rfl⟩
theorem PG (s:an):fo [] s=[]/\(∀t k,fo (t::k) s=(t,s t)::fo k s):=⟨rfl,λ_ _=>rfl⟩
theorem PH (s:an):(∀d,iu s (some d)=some (d,s))/\(∀s1,dj (some s1)=some (.hole,s1))/\ji s []=[]/\(∀x xs,ji s (x::xs)=a6 s x::ji s xs)/\tV s []=[]/\(∀k x xs,tV s ((k,x)::xs)=(k,a6 s x)::tV s xs)/\
  AN s none=none/\(∀x,AN s (some x)=some (a6 s x))/\(∀b x y,Pd s (.bool b) x y=some (if b=true then x else y,s)):=
 ⟨λ_=>rfl,λ_=>rfl,rfl,λ_ _=>rfl,rfl,λ_ _ _=>rfl,rfl,λ_=>rfl,λb _ _=>by cases b<;>rfl⟩
theorem PI (C:bx):(∀e d,H2 C (.slice e) (some d)=if(C.T e).ok=true/\d.wd=(C.T e).sz then some (.ref d)else none)/\
  (∀y q n e sz xs,AO C y q n (.slice e) (some (.ah sz xs))=if(bI xs n).isSome=true/\(C.T e).ok=true/\sz=(C.T e).sz then some (.al y (q++[n.toNat]))else none)/\
  (∀e s xs t,xT C (.slice e) s xs (some t)=if(C.T e).ok=true/\∀d∈xs,d.wd=(C.T e).sz then some (.slice t,s)else none):=
 ⟨λ_ _=>rfl,λ_ _ _ _ _ _=>rfl,λ_ _ _ _=>rfl⟩
theorem PJ:(∀b,HZ .bool b=some (.bool b))/\(∀c,H0 .str (some c)=some (.int .u8 c.toNat))/\(∀s t,xS .str s (some t)=some (.str t,s))/\(∀q d,AP q (some d)=I.sub q d):=
 ⟨λ_=>rfl,λ_=>rfl,λ_ _=>rfl,λ_ _=>rfl⟩
theorem PK (sz bytes:Nat) (z:I):(∀k,gr.ok ⟨.int k,sz,bytes,z⟩=true)/\gr.ok ⟨.bool,sz,bytes,z⟩=true/\gr.ok ⟨.str,sz,bytes,z⟩=true/\(∀e,gr.ok ⟨.ptr e,sz,bytes,z⟩=true)/\(∀e,gr.ok ⟨.slice e,sz,bytes,z⟩=true)/\(∀e,gr.ok ⟨.struct e,sz,bytes,z⟩=true)/\gr.ok ⟨.fn,sz,bytes,z⟩=true:=by
 simp[gr.ok]
theorem PL (sz bytes:Nat) (z:I):(∀k,gr.flat ⟨.int k,sz,bytes,z⟩=true)/\gr.flat ⟨.bool,sz,bytes,z⟩=true/\gr.flat ⟨.str,sz,bytes,z⟩=true/\(∀e,gr.flat ⟨.ptr e,sz,bytes,z⟩=true)/\(∀e,gr.flat ⟨.slice e,sz,bytes,z⟩=true)/\(∀e,gr.flat ⟨.struct e,sz,bytes,z⟩=false)/\gr.flat ⟨.fn,sz,bytes,z⟩=true:=by
 simp[gr.flat]
theorem AQ (c:UInt8) (k:IntKind) (hk:k≠.i8):k.wrap (c.toNat:Int)=(c.toNat:Int):=by
 have:=c.toNat_lt;cases k<;>first|(exact(hk rfl).elim)|(simp[wrap,IntKind.bits,signed];try omega)
theorem H6 (c:UInt8):i64.wrap (c.toNat:Int)=(c.toNat:Int)/\u64.wrap (c.toNat:Int)=(c.toNat:Int)/\u8.wrap (c.toNat:Int)=(c.toNat:Int)/\i32.wrap (c.toNat:Int)=(c.toNat:Int)/\u32.wrap (c.toNat:Int)=(c.toNat:Int):=
 ⟨AQ c _ (by simp),AQ c _ (by simp),AQ c _ (by simp),AQ c _ (by simp),AQ c _ (by simp)⟩
theorem cr {k:anU} {K:an->Prop} (bV:anY) (h:∀P:anY->Prop,P bV->cq C (aj l) ros none (λ_ s=>P (fo k s))) (hk:K (aj bV)):cq C (aj l) ros none (λ_ s=>K (aj (fo k s))):=
 h (λl=>K (aj l)) hk
theorem qE {k:anU} {cl:anS} {K:an->Prop} (bV:anY) (h:∀P:anY->Prop,P bV->cq C (aj l) ros (some []) (λacc s=>lO cl 0 [] (acc.getD []).reverse=true/\P (fo k s))) (hk:K (aj bV)):
  cq C (aj l) ros (some []) (λacc s=>lO cl 0 [] (acc.getD []).reverse=true/\K (aj (fo k s))):=
 h (λl=>K (aj l)) hk
theorem aY.ZA (bb:C.Ok) {f:FuncId} {fn:Func} {c:Code} {dM:aH} {fx:anU} {as outs:anZ} {r:I} (bc:C.P.funcs[f]? =some fn) (R:fn.body=some c)
  (jV:(fn.name== "runtime.NumGoroutine")=false) (U:fh ⟨fn.ntmps,fx⟩ c=some dM.strip) (aN:as.length<=fn.ntmps)
  (h:∀Q:Exit->an->Prop,(∀s,di (Ends C fx fn.results.toList r outs) s->Q .ret s)->(∀s,di (Ends C fx fn.results.toList r outs) s->Q .normal s)->bh C dM Q (aj (num 0 as))) (al:dM.plain=true:=by kernel_rfl):aY C f as r outs:=by
 refine aY.of_wp bb bc R jV U aN ?_ al;rw[xO];exact h _ (λs h=>⟨.inr rfl,h⟩) (λs h=>⟨.inl rfl,h⟩)
def DH:anZ->I
 |[d]=>d
 |ds=>.tuple ds
theorem mw {fx:anU} {dY:List ResultVar} {r:I} {outs:anZ} (ds:anZ) (h1:dY.map (qB C s)=ds.map some) (ab:r=DH ds) (ay:(dY.map jE).Nodup)
  (aT:∀(i:Nat) (o:I),outs[i]? =some o->o= .hole\/(o=s i/\o.ga=true/\i∈fx/\i∉dY.map jE)):Ends C fx dY r outs s:=.inl ⟨ds,h1,by subst ab;cases ds with|nil=>rfl|cons a t=>cases t<;>rfl,ay,aT⟩
theorem ZB {fx:anU} {dY:List ResultVar}:∀(i:Nat) (o:I),([]:anZ)[i]? =some o->o= .hole\/(o=s i/\o.ga=true/\i∈fx/\i∉dY.map jE):=λi o h=>by simp at h
theorem PM:∀(as ds:anZ),(nD as ds).filter (·.g)=[]
 |[],_=>rfl
 |_::_,[]=>rfl
 |a::as,d::ds=>by simp only[nD,List.filter_cons];exact PM as ds
theorem DI {f:aX} {args:List aX} {g:FuncId} {caps:anZ} {K:anU->I->an->Prop} (ds:anZ) (r:I)
  (h1:a6 (aj l) f= .fn g caps) (gS:I.dS caps=true) (gA:views (aj l) (ji (aj l) args++caps)=some ds)
  (bp:aY C g ds r []) (bX:r.res=true) (bM:I.dL (ji (aj l) args++caps)=[]\/r.ch=true) (hK:K [] r (aj l)):o4 C (aj l) (.call f args) K:=by
 obtain⟨aI,aM,aP,bK,cg,bP,bL⟩:=YU _ _ gA;refine⟨g,caps,nD (ji (aj l) args++caps) ds,r,h1,gS,by rw[aI,tW],λp al=>(aP p al).1,bK,by rw[aM];exact bp.outs cg.symm,bX,?_,by rw[bP,bL,PM];exact hK⟩;intro hl;refine⟨?_,λp al=>by rw[(aP p al).2.2.1];rfl⟩;rcases bM with bM|bM
 .exfalso;simp only[hx,List.any_eq_true]at hl;obtain⟨p,al,eA⟩:=hl;have hm:=(aP p al).2.2.2;have:p.a.U=[]:=by
   have key:∀(as:anZ) (a:I),a∈as->I.dL as=[]->a.U=[]:=by
    intro as;induction as with
    |nil=>intro a h;cases h
    |cons b as ih=>
     intro a h he;simp only[I.dL,List.append_eq_nil_iff]at he;rcases List.mem_cons.1 h with rfl|h
     .exact he.1
     .exact ih a h he.2
   exact key _ _ hm bM
  rw[this]at eA;simp at eA
 .exact bM
theorem dv {f:aX} {args:List aX} {g:FuncId} {caps:anZ} {ds:anZ} {r:I} (bp:aY C g ds r [])
  (h1:a6 (aj l) f= .fn g caps:=by rfl) (gS:I.dS caps=true:=by rfl) (gA:views (aj l) (ji (aj l) args++caps)=some ds:=by rfl)
  (bX:r.res=true:=by rfl) (bM:I.dL (ji (aj l) args++caps)=[]\/r.ch=true:=by exact .inl (by rfl))
  (hK:cq C (fin (aj l) dst r) os none K):cq C (aj l) (⟨dst,.call f args,none⟩::os) none K:=by
 simp only[cq,nE,rN];exact DI ds r h1 gS gA bp bX bM hK
theorem o6 {a:List e7} {f:aX} {args:List aX} {g:FuncId} {caps:anZ} {ds:anZ} {r:I} (bp:aY C g ds r [])
  (h1:a6 (aj l) f= .fn g caps:=by rfl) (gS:I.dS caps=true:=by rfl) (gA:views (aj l) (ji (aj l) args++caps)=some ds:=by rfl)
  (bX:r.res=true:=by rfl) (bM:I.dL (ji (aj l) args++caps)=[]\/r.ch=true:=by exact .inl (by rfl))
  (hK:cq C (fin (aj l) dst r) os (some (jh (aj l) (use (aj l) (.call f args)) dst [] r::a)) K):cq C (aj l) (⟨dst,.call f args,none⟩::os) (some a) K:=by
 simp only[cq,nE,rN];exact DI ds r h1 gS gA bp bX bM hK
theorem nG {t:Nat} {b:Bool} {f:aX} {args:List aX} {g:FuncId} {caps:anZ} {ds:anZ} {r:I} (bp:aY C g ds r [])
  (h1:a6 (aj l) f= .fn g caps:=by rfl) (gS:I.dS caps=true:=by rfl) (gA:views (aj l) (ji (aj l) args++caps)=some ds:=by rfl)
  (bX:r.res=true:=by rfl) (bM:I.dL (ji (aj l) args++caps)=[]\/r.ch=true:=by exact .inl (by rfl))
  (hK:cq C (fin (aj l) dst r) os none K):jX C l dst (.call f args) t b os none K (.bool b):=by
 simp only[jX,if_true];exact DI ds r h1 gS gA bp bX bM hK
theorem AR {a:List e7} {t:Nat} {b:Bool} {f:aX} {args:List aX} {g:FuncId} {caps:anZ} {ds:anZ} {r:I} (bp:aY C g ds r [])
  (h1:a6 (aj l) f= .fn g caps:=by rfl) (gS:I.dS caps=true:=by rfl) (gA:views (aj l) (ji (aj l) args++caps)=some ds:=by rfl)
  (bX:r.res=true:=by rfl) (bM:I.dL (ji (aj l) args++caps)=[]\/r.ch=true:=by exact .inl (by rfl))
  (hK:cq C (fin (aj l) dst r) os (some (jh (aj l) (t::use (aj l) (.call f args)) dst [] r::a)) K):jX C l dst (.call f args) t b os (some a) K (.bool b):=by
 simp only[jX,if_true];exact DI ds r h1 gS gA bp bX bM hK
theorem hA (s:an):views s []=some []/\(∀d ds,views s (d::ds)=(match view s d,views s ds with|some a,some b=>some (a::b)|_,_=>none))/\
  (∀k n,view s (.int k n)=some (.int k n))/\(∀b,view s (.bool b)=some (.bool b))/\(∀x,view s (.str x)=some (.str x))/\(∀x,view s (.slice x)=some (.slice x))/\(∀x,view s (.ref x)=some (.ref x))/\
  view s .bd=some .bd/\view s .dq=some .dq/\(∀aC,view s (.agg aC)=some (.agg aC))/\(∀f cap,view s (.fn f cap)=(views s cap).map (.fn f)):=by
 refine⟨rfl,λd ds=>?_,λ_ _=>rfl,λ_=>rfl,λ_=>rfl,λ_=>rfl,λ_=>rfl,rfl,rfl,λ_=>rfl,λ_ _=>by simp only[view]⟩;simp only[views];rfl
theorem cN {α:Type} {u e:α->I} (h:∀x,(u x).share=e x) (xs:List α):I.shares (xs.map u)=xs.map e:=by
 rw[I.tz];simp[h]
theorem jY {α:Type} {u:α->I} (h:∀x,(u x).ch=true) (xs:List α):I.gM (xs.map u)=true:=by
 induction xs with
 |nil=>rfl
 |cons x xs ih=>simp only[List.map_cons,I.gM,h,ih,Bool.and_self]
def tY (s:an) (H:anU):anY->Prop
 |[]=>True
 |p::l=>(p.2=s p.1\/((s p.1).tree=true/\eP (s p.1) p.2/\p.1∉H))/\tY s H l
theorem hf {bV:anY} (H:anU) (hH:I.dL (bV.map (·.2))=H) (h:tY s H bV):vD s bV:=by
 have key:∀(en:anY),tY s H en->∀p∈en,p.2=s p.1\/((s p.1).tree=true/\eP (s p.1) p.2/\p.1∉H):=by
  intro en;induction en with
  |nil=>intro _ p al;cases al
  |cons a en ih=>
   intro h p al;rcases List.mem_cons.1 al with rfl|al
   .exact h.1
   .exact ih h.2 p al
 have U:∀(en:anY),∀ct∈en,∀u∈ct.2.U,u∈I.dL (en.map (·.2)):=by
  intro en;induction en with
  |nil=>intro p al;cases al
  |cons a en ih=>
   intro p al u hu;simp only[List.map_cons,I.dL,List.mem_append];rcases List.mem_cons.1 al with rfl|al
   .exact .inl hu
   .exact .inr (ih p al u hu)
 intro p al;rcases key _ h p al with h1|⟨h1,ab,ay⟩
 .exact .inl h1
 .refine .inr ⟨h1,ab,λct eg=>.inl λhm=>ay ?_⟩;rw[<-hH];exact U bV ct eg _ hm
theorem hh {H:anU}:tY s H []:=trivial
theorem dU {H:anU} {t:Nat} {d:I} {bV:anY} (h:d=s t) (hl:tY s H bV):tY s H ((t,d)::bV):=⟨.inl h,hl⟩
theorem gZ {H:anU} {t:Nat} {d bf:I} {bV:anY} (e:s t=d) (aL:d.tree=true) (ae:eP d bf) (hH:t∉H) (hl:tY s H bV):tY s H ((t,bf)::bV):=⟨.inr ⟨by rw[e];exact aL,by rw[e];exact ae,hH⟩,hl⟩
theorem ZC {d e:I} (aL:d.tree=true) (aN:d.own=true) (h:d.share=e):eP d e:=by
 subst h;exact .share d aL (λvs e=>by subst e;simp[I.own]at aN) (λo e=>by subst e;simp[I.own]at aN) (λ_ _ e=>by subst e;simp[I.own]at aN) (λ_ e=>by subst e;simp[I.own]at aN)
theorem PN {a b:I} (h:eP a b):∀n,j_ (List.replicate n a) (List.replicate n b)
 |0=>.nil
 |n+1=>by simp only[List.replicate_succ];exact .cons h (PN h n)
theorem PO {α:Type} {sz:Nat} {u:α->I} {z:α} {a:I} (h:eP a (u z)) (n:Nat):eP (.ah sz (List.replicate n a)) (.ah sz ((List.replicate n z).map u)):=by
 rw[List.map_replicate];exact .ah (PN h n)
end
theorem DJ {C:bx} {A B:TypeId} {da:IntKind} (iS:(C.T A).ok=true) (gY:(C.T B).k= .int da):∀s k n,je C s A B (.int k n)=some (.int da (da.wrap n)):=λs k n=>Zv C s A B k da n iS gY
def PQ:Option I->Option I
 |some (.ah 1 xs)=>(bytesOf xs).map .str
 |_=>none
theorem PR {C:bx} {A B e:TypeId} (iS:(C.T A).k= .slice e) (gY:(C.T B).k= .str) (he:(C.T e).k= .int .u8):
  (∀s xs,je C s A B (.slice xs)=(bytesOf xs).map .str)/\(∀s,je C s A B .bd=some (.str []))/\(∀s x q,je C s A B (.h x q)=PQ (I.sub q (s x))):=by
 have Ae:(C.T A).ok=true:=by simp[gr.ok,iS]
 refine⟨λs xs=>?_,λs=>?_,λs x q=>?_⟩
 .simp only[je,Ae,iS,gY,he,if_true]
 .simp only[je,Ae,iS,gY,he,if_true]
 .simp only[je,Ae,iS,gY,he,if_true];rfl
theorem PS (xs:anZ):PQ (some (.ah 1 xs))=(bytesOf xs).map .str:=rfl
theorem PT (c:UInt8) (r:anZ):bytesOf (hv c::r)=(bytesOf r).map (c::·):=by
 have:=c.toNat_lt;simp only[hv,bytesOf];rw[if_pos (by omega)];simp
theorem PU:bytesOf []=some []/\
  (∀l:anR,bytesOf (l.map hv)=some l)/\
  (∀c r,bytesOf (.int .u8 (c.toNat:Int)::r)=(bytesOf r).map (c::·))/\
  (∀m r,bytesOf (.int .u8 (u8.wrap m)::r)=(bytesOf r).map (ns m::·)):=
 ⟨rfl,WI,λc r=>PT c r,λm r=>by rw[<-PC];exact PT _ r⟩
theorem PV {k:IntKind} {b:Int} (h:b≠0):∀a,jc .quo k a k b=some (.int k (k.wrap (a.tdiv b))):=λ_=>Zs h
theorem tZ {k:IntKind} {b:Int} (h:b≠0):∀a,jc .rem k a k b=some (.int k (a.tmod b)):=λ_=>Zt h
theorem lP {α:Type} {e:α->I} {n:Nat} (h:∀x,(e x).wd=n):∀xs:List α,(∀d∈xs.map e,d.wd=n)=True:=Zu h
theorem kO {P:I->Prop} (d:I) (ds:anZ):(∀x∈d::ds,P x)=(P d/\∀x∈ds,P x):=by simp
theorem all_nil {P:I->Prop}:(∀x∈([]:anZ),P x)=True:=by simp
def PW (a b:anR):Option Unit->Option I
 |some _=>some (.str (a++b))
 |none=>none
theorem rR (a b:anR):oY .add a b=PW a b (iO (a.length+b.length)):=by
 simp only[oY,iO];split<;>rfl
theorem rS (a b:anR) (u:Unit):PW a b (some u)=some (.str (a++b)):=rfl
theorem PX:(∀l:anU,[]++l=l)/\(∀a (l m:anU),(a::l)++m=a::(l++m)):=⟨λ_=>rfl,λ_ _ _=>rfl⟩
def PY (C:bx) (e b5:TypeId):Bool:=(C.T e).ok&&((C.T e).zero.wd==(C.T e).sz)&&(flat (C.T e).zero).isSome&&Dc C e b5
def DK (C:bx) (e:TypeId) (xs:anZ):Option (anZ×an)->Option (I×an)
 |some (ys,s2)=>if(∀d∈ys,d.wd=(C.T e).sz)/\(room (C.T e).bytes (xs.length+ys.length)).isSome=true then some (.ah (C.T e).sz (xs++ys),s2)else none
 |none=>none
def H7 (C:bx) (e:TypeId) (y:I) (o:Option Nat):Option (I×an)->Option (I×an)
 |some (.ah sz xs,s1)=>if sz=(C.T e).sz then DK C e xs (mq s1 (k9 o y))else none
 |_=>none
theorem ZD (b n:Nat):(room b n).isSome=true↔n*b<=140737488355328/\n<=9223372036854775807:=by unfold room;split<;>simp_all
theorem kP {C:bx} {T b5 e:TypeId} (fK:(C.T T).k= .slice e) (eZ:PY C e b5=true):∀s x y,sA C s T b5 x y=H7 C e y x.owner (rG C e s x):=by
 intro s x y;simp only[PY,Bool.and_eq_true,beq_iff_eq]at eZ;rw[Hn,fK];simp only;rw[if_pos ⟨eZ.1.1.1,eZ.1.1.2,eZ.1.2,eZ.2⟩];generalize x.owner=o;cases rG C e s x with
 |none=>rfl
 |some p=>
  obtain⟨d,s1⟩:=p;cases d<;>first
   |rfl
   |(simp only[H7]
     split
     .rename_i h;subst h;generalize mq s1 (k9 o y)=z;cases z with
      |none=>rfl
      |some p=>simp only[DK,ZD]
     .rfl)
def PZ:Option (I×an)->Option (anZ×an)
 |some (.ah _ ys,s2)=>some (ys,s2)
 |_=>none
theorem kQ (s:an):mq s .bd=some ([],s)/\(∀ys,mq s (.slice ys)=some (ys,s))/\(∀l,mq s (.str l)=some (l.map hv,s))/\
  (∀a q,mq s (.h a q)=PZ (cy s (.h a q)))/\(∀n ys,PZ (some (.ah n ys,s))=some (ys,s)):=
 ⟨rfl,λ_=>rfl,λ_=>rfl,λ_ _=>by simp only[mq];rfl,λ_ _=>rfl⟩
theorem kR (C:bx) (e:TypeId):(∀s,rG C e s .bd=some (.ah (C.T e).sz [],s))/\(∀s a q,rG C e s (.h a q)=cy s (.h a q))/\
  (∀y o sz xs s1,H7 C e y o (some (.ah sz xs,s1))=if sz=(C.T e).sz then DK C e xs (mq s1 (k9 o y))else none)/\
  (∀xs ys s2,DK C e xs (some (ys,s2))=if(∀d∈ys,d.wd=(C.T e).sz)/\(room (C.T e).bytes (xs.length+ys.length)).isSome=true then some (.ah (C.T e).sz (xs++ys),s2)else none):=
 ⟨λ_=>rfl,λ_ _ _=>rfl,λ_ _ _ _ _=>rfl,λ_ _ _=>rfl⟩
theorem jF:(∀d,k9 none d=d)/\(∀x d,k9 (some x) d=b4 x d)/\(∀x q,I.owner (.h x q)=some x)/\I.owner .bd=none:=
 ⟨λ_=>rfl,λ_ _=>rfl,λ_ _=>rfl,rfl⟩
def P0 (s:an) (x:Nat) (q:anU):Option I->Option (I×an)
 |some d=>if d.plain=true then none else some (d,cK (hM x s) x (I.put q d.cJ (s x)))
 |none=>none
theorem P1 (s:an) (x:Nat) (q:anU):cy s (.h x q)=P0 s x q (I.sub q (s x)):=by
 simp only[cy];cases I.sub q (s x)<;>rfl
theorem P2 (s:an):(∀x q d,P0 s x q (some d)=if d.plain=true then none else some (d,cK (hM x s) x (I.put q d.cJ (s x))))/\(∀k n,cy s (.int k n)=some (.int k n,s))/\(∀b,cy s (.bool b)=some (.bool b,s))/\(∀x,cy s (.str x)=some (.str x,s))/\
  (∀x,cy s (.slice x)=some (.slice x,s))/\(∀x,cy s (.ref x)=some (.ref x,s))/\(∀x,cy s (.agg x)=some (.agg x,s))/\cy s .bd=some (.bd,s)/\cy s .dq=some (.dq,s):=
 ⟨λ_ _ _=>rfl,λ_ _=>rfl,λ_=>rfl,λ_=>rfl,λ_=>rfl,λ_=>rfl,λ_=>rfl,rfl,rfl⟩
theorem P3 (l:anY) (t:Nat) (d:I):cK (aj l) t d=aj ((t,d)::l):=rL l t d
theorem P4:(∀n x,I.cJ (.ah n x)= .hole)/\(∀x,I.cJ (.aV x)= .hole)/\(∀aC,I.cJ (.agg aC)= .agg (I.mg aC))/\(∀aC,I.cJ (.tuple aC)= .tuple (I.mg aC))/\I.mg []=[]/\(∀d ds,I.mg (d::ds)=d.cJ::I.mg ds)/\
  (∀k n,I.cJ (.int k n)= .int k n)/\(∀b,I.cJ (.bool b)= .bool b)/\(∀x,I.cJ (.str x)= .str x)/\(∀x,I.cJ (.slice x)= .slice x)/\(∀x,I.cJ (.ref x)= .ref x)/\I.cJ .bd= .bd/\I.cJ .dq= .dq/\I.cJ .hole= .hole:=by
 simp[I.cJ,I.mg]
def vL:Option I->Option I
 |some d=>(match d with| .tuple _=>none| .cc _=>none| .bm _ _=>none| .cX _=>none|d=>if d.plain=true then none else some d.share)
 |none=>none
def vM:Option I->Option I
 |some d=>(match d with| .tuple _=>none|d=>some (.ref d.share))
 |none=>none
theorem hB (s:an) (x:Nat) (q:anU):view s (.h x q)=vL (I.sub q (s x))/\view s (.al x q)=(if I.fy q (s x)=true then vM (I.sub q (s x))else none):=by
 constructor
 .simp only[view];rfl
 .simp only[view];rfl
theorem hC:(∀n xs,vL (some (.ah n xs))=some (.slice (I.shares xs)))/\(∀d,vL (some (.aV d))=some (.ref d.share))/\(∀aC,vL (some (.agg aC))=if I.dS aC=true then none else some (.agg (I.shares aC)))/\
  (∀aC,vM (some (.agg aC))=some (.ref (.agg (I.shares aC))))/\(∀k n,vM (some (.int k n))=some (.ref (.int k n)))/\(∀x,vM (some (.str x))=some (.ref (.str x))):=
 ⟨λ_ _=>by simp[vL,I.plain,I.share],λ_=>by simp[vL,I.plain,I.share],λaC=>by cases h:I.dS aC<;>simp[vL,I.plain,I.share,h],λ_=>by simp[vM,I.share],λ_ _=>by simp[vM,I.share],λ_=>by simp[vM,I.share]⟩
theorem dZ:(∀n xs,I.share (.ah n xs)= .slice (I.shares xs))/\(∀d,I.share (.aV d)= .ref d.share)/\(∀xs,I.share (.slice xs)= .slice (I.shares xs))/\(∀d,I.share (.ref d)= .ref d.share)/\(∀aC,I.share (.agg aC)= .agg (I.shares aC))/\(∀aC,I.share (.tuple aC)= .tuple (I.shares aC))/\
  (∀k n,I.share (.int k n)= .int k n)/\(∀b,I.share (.bool b)= .bool b)/\(∀x,I.share (.str x)= .str x)/\I.share .bd= .bd/\I.share .dq= .dq/\I.shares []=[]/\(∀d ds,I.shares (d::ds)=d.share::I.shares ds):=by
 simp[I.share,I.shares]
def mx (sz:Nat):Option (anZ×an)->Option (I×an)
 |some (ds,s1)=>some (.ah sz ds,s1)
 |none=>none
def fi:Option (anZ×an)->Option (I×an)
 |some (ds,s1)=>some (.agg ds,s1)
 |none=>none
theorem AU {C:bx} {T e n sz:Nat} {dX:anZ} (fK:(C.T T).k= .slice e) (dr:(C.T e).sz=sz) (bC:List.replicate n (C.T e).zero=dX)
  (eZ:((C.T e).ok&&((C.T e).zero.wd==sz)&&(flat (C.T e).zero).isSome&&(sz !=0)&&decide (n*sz<=16777216))=true):∀s ps,ei C s T n ps=mx sz (kJ (λk=>some (k*sz,sz)) s dX [] ps):=by
 intro s ps;subst dr;simp only[Bool.and_eq_true,beq_iff_eq,bne_iff_ne,decide_eq_true_eq]at eZ;obtain⟨⟨⟨⟨h1,ab⟩,ay⟩,aT⟩,bp⟩:=eZ;unfold ei;rw[fK];simp only;rw[if_pos ⟨h1,ab,ay,aT,bp⟩,bC];cases kJ (λk=>some (k*(C.T e).sz,(C.T e).sz)) s dX [] ps<;>rfl
theorem H8 {C:bx} {T:Nat} {aC:List (TypeId×Nat)} {dX:anZ} (fK:(C.T T).k= .struct aC) (bC:(C.T T).zero= .agg dX)
  (eZ:((flat (.agg dX)).isSome&&aC.all λf=>(C.T f.1).ok)=true):∀s ps,ij C s T ps=fi (kJ (λk=>(aC[k]?).map λf=>(f.2,(C.T f.1).sz)) s dX [] ps):=by
 intro s ps;simp only[Bool.and_eq_true,List.all_eq_true]at eZ;unfold ij;rw[fK,bC];simp only;rw[if_pos ⟨eZ.1,eZ.2⟩];cases kJ (λk=>(aC[k]?).map λf=>(f.2,(C.T f.1).sz)) s dX [] ps<;>rfl
def d_ (place:Nat->Option (Nat×Nat)) (k:Nat) (dX:anZ) (os:List (Option Nat)) (r:anY) (o:Option Nat):Option (Nat×Nat)->Option I->Option (I×an)->Option (anZ×an)
 |some (off,n),some z,some (d,s1)=>(match d with
  | .tuple _=>none
  |d=>if d.wd=n/\z.wd=n/\I.dR (dX.take k)=off then kJ place s1 (dX.set k d) (os++[o]) r else none)
 |_,_,_=>none
theorem t_ (place:Nat->Option (Nat×Nat)) (s:an) (dX:anZ) (os:List (Option Nat)):kJ place s dX os []=some (dX,s)/\
  (∀k a r,kJ place s dX os ((k,a)::r)=d_ place k dX os r (lL os a).owner (place k) dX[k]? (cy s (lL os a))):=by
 refine⟨rfl,λk a r=>?_⟩;simp only[kJ];cases cy s (lL os a)with
 |none=>cases place k<;>cases dX[k]? <;>rfl
 |some p=>
  obtain⟨d,s1⟩:=p;cases place k with
  |none=>cases dX[k]? <;>rfl
  |some q=>cases dX[k]? <;>(cases d<;>rfl)
theorem ua:(∀a,lL [] a=a)/\(∀o os a,lL (o::os) a=lL os (k9 o a)):=⟨λ_=>rfl,λ_ _ _=>rfl⟩
theorem ey:(∀k n,I.owner (.int k n)=none)/\(∀b,I.owner (.bool b)=none)/\(∀x,I.owner (.str x)=none)/\(∀x,I.owner (.slice x)=none)/\(∀x,I.owner (.ref x)=none)/\(∀x,I.owner (.agg x)=none)/\I.owner .dq=none/\I.owner .bd=none/\(∀x q,I.owner (.h x q)=some x):=
 ⟨λ_ _=>rfl,λ_=>rfl,λ_=>rfl,λ_=>rfl,λ_=>rfl,λ_=>rfl,rfl,rfl,λ_ _=>rfl⟩
end Go.cC
