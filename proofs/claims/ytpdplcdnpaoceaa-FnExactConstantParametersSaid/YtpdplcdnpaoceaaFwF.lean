/- Part of a proof that a law returns true for every input. No condition. -/
import Derived.Test.YtpdplcdnpaoceaaFwE
import Derived.Orders
import Derived.KernelRfl
import Derived.Test.YtpdplcdnpaoceaaFwA
namespace Go.cM
open Go.IntKind Nat Or
section
variable {C:bA} {w0 w:World} {F0 X:Nat->Prop} {n:Fr} {ρ:Nat->Value} {s s1:ah} {a:Act} {av:I} {Q:Exit->Act->World->Prop}
def bW.un (o:bW):bW:=⟨o.dst,o.a9.base,o.guard⟩
theorem wt {ops:Array Oper}:∀{os:List Oper} {rs:List bW},nx n ops os=some rs->os.length=rs.length/\∀(i:Nat) (o:Oper),os[i]? =some o->∃r,rs[i]? =some r/\nw n ops o=some r:=by
 intro os;induction os with
 |nil=>intro rs h;simp only[nx,Option.some.injEq]at h;subst h;exact⟨rfl,λi o h=>by simp at h⟩
 |cons o os ih=>
  intro rs h;simp only[nx]at h;split at h
  .rename_i r Wf ab ad;simp only[Option.some.injEq]at h;subst h;obtain⟨bM,b1⟩:=ih ad;refine⟨by simp[bM],λi lf bG=>?_⟩;cases i with
   |zero=>simp at bG;subst bG;exact⟨r,rfl,ab⟩
   |succ i=>simpa using b1 i lf (by simpa using bG)
  .cases h
theorem wu {o:Oper} {y:Nat->Xu} (h:o.guard=none):Region.wanted o y=true:=by simp[Region.wanted,h]
theorem L7 (h:Rel w0 F0 X n ρ s a w) {ops:Array Oper} {j t:Nat} (b6:(ops[j]?).bind (·.dst)=some t):
  (∀b,s t= .bool b->yielded ops a.tmps j=some b)/\(s t= .tuple []->yielded ops a.tmps j=none):=by
 obtain⟨af,aa,bk,F,S,aI⟩:=h;have g9:=aI.cE t;refine⟨λb U=>?_,λU=>?_⟩
 .rw[U]at g9;have aD:=o_ g9;simp only[yielded,b6,Option.bind_some];rw[Array.getD_eq_getD_getElem?]at aD;cases bf:a.tmps[t]? with
  |none=>rw[bf]at aD;simp[undef]at aD
  |some v=>rw[bf]at aD;simp at aD;subst aD;rfl
 .rw[U]at g9;obtain⟨⟨arr,ab,ad⟩,_⟩:=(aA.bY (d:=.tuple []) rfl).1 g9;simp only[yielded,b6,Option.bind_some];rw[Array.getD_eq_getD_getElem?]at ab;cases bf:a.tmps[t]? with
  |none=>rfl
  |some v=>rw[bf]at ab;simp at ab;subst ab;rfl
theorem wv (a0:C.dm) {ops:Array Oper} {ros:List bW} {l2:Xt} {K:ah->Prop} (aU:∀ax b7 az,K ax->Rel w0 F0 X n ρ ax b7 az->wpOps C.P ops Q l2 b7 az):
  ∀(l:Xt),(∀i∈l,(ops[i]? =none->ros[i]? =none)/\∀o,ops[i]? =some o->∃r,ros[i]? =some r/\nw n ops o=some r.un)->
  ∀(s:ah) (a:Act) (w:World),ig C ros s l K->Rel w0 F0 X n ρ s a w->wpOps C.P ops Q (l++l2) a w:=by
 intro l;induction l with
 |nil=>intro _ s a w h aI;exact aU s a w h aI
 |cons i l ih=>
  intro l3 s a w h aI;replace ih:=ih λi aE=>l3 i (List.mem_cons_of_mem _ aE);rw[List.cons_append];simp only[wpOps];cases bG:ops[i]? with
  |none=>
   simp only[ig,(l3 i (by simp)).1 bG]at h;exact ih s a w h aI
  |some o=>
   obtain⟨r,ab,ad⟩:=(l3 i (by simp)).2 o bG;simp only[ig,ab]at h;show(if Region.wanted o (yielded ops a.tmps)=true then o.wp C.P a w (wpOps C.P ops Q (l++l2)) Q\/(o.asks C.P a w/\LetsOut Q)else wpOps C.P ops Q (l++l2) (a.put o.dst undef) w);simp only[nw]at ad;split at ad
   .rename_i wx;split at ad
    .rename_i g bf;obtain⟨rd,a9,rg⟩:=r;simp only[bW.un,Option.some.injEq,bW.mk.injEq]at ad;obtain⟨rfl,bX,rfl⟩:=ad;simp only[j0]at h;have run:∀(cA:ah->Prop),(∀ax,cA ax->ig C ros ax l K)->l0 C s a9 (λav s1=>cA (fin s1 o.dst av))->o.wp C.P a w (wpOps C.P ops Q (l++l2)) Q:=
      λcA hK hw=>L5 a0 aI bX wx hw (λax b7 az ai dn=>ih ax b7 az (hK ax ai) dn)
     cases rV:o.guard with
     |none=>
      rw[rV]at bf;simp only[tV,Option.some.injEq]at bf;subst bf;simp only at h;rw[if_pos (wu rV)];exact .inl (run _ (λ_ h=>h) h)
     |some zZ=>
      obtain⟨j,b⟩:=zZ;rw[rV]at bf;simp only[tV]at bf;split at bf
      .rename_i t aN;simp only[Option.some.injEq]at bf;subst bf;simp only at h;obtain⟨gC,h3⟩:=L7 aI aN;have E0:∀(cA:ig C ros (fin s o.dst (.tuple [])) l K),wpOps C.P ops Q (l++l2) (a.put o.dst undef) w:=λcA=>ih _ _ _ cA (Rel.skip aI wx);split at h
       .rename_i eh aa;have a2:=gC eh aa;split at h
        .rename_i U;subst U;rw[if_pos (by simp[Region.wanted,rV,a2])];exact .inl (run _ (λ_ h=>h) h)
        .rename_i U;rw[if_neg (by simp[Region.wanted,rV,a2,U])];exact E0 h
       .rename_i aa;have a2:=h3 aa;rw[if_neg (by simp[Region.wanted,rV,a2])];exact E0 h
       .exact h.elim
      .cases bf
    .cases ad
   .cases ad
theorem E1 (a0:C.dm) {ops:Array Oper} {ros:List bW} (ny:nx n ops ops.toList=some (ros.map bW.un)) {K:ah->Prop} (aU:∀ax b7 az,K ax->Rel w0 F0 X n ρ ax b7 az->Q .normal b7 az):
  ∀(l:Xt) (s:ah) (a:Act) (w:World),ig C ros s l K->Rel w0 F0 X n ρ s a w->wpOps C.P ops Q l a w:=by
 obtain⟨hl,l3⟩:=wt ny;intro l s a w h aI;have:=wv (Q:=Q) a0 (ros:=ros) (ops:=ops) (l2:=[]) (K:=K) (n:=n) (ρ:=ρ) (w0:=w0) (F0:=F0) (X:=X) (λax b7 az ai dn=>aU ax b7 az ai dn) l (λi _=>⟨λbG=>by
   rw[List.getElem?_eq_none_iff,<-List.length_map (f:=bW.un),<-hl];have:=Array.getElem?_eq_none_iff.1 bG;simpa using this,λo bG=>by
   obtain⟨aC,gw,ad⟩:=l3 i o (by simpa using bG);obtain⟨r,ab,rfl⟩:∃r,ros[i]? =some r/\r.un=aC:=by simpa using gw
   exact⟨r,ab,ad⟩⟩) s a w h aI
 rwa [List.append_nil]at this
theorem Rel.drawn (h:Rel w0 F0 X n ρ s a w) (k:Nat) (ai:w.drawn<=k):Rel w0 F0 X n ρ s a {w with drawn:=k}:=by
 obtain⟨ab,ad,bk,F,S,aB⟩:=h;exact⟨ab,ad,bk,F,S,aB.grow (λ_ _=>rfl) (Nat.le_refl _) rfl rfl ⟨rfl,λ_=>ai⟩⟩
theorem L8 (a0:C.dm) {id:Nat} {ops:Array Oper} {ros:List bW} (ny:nx n ops ops.toList=some (ros.map bW.un)) {K:ah->Prop} (aU:∀ax b7 az,K ax->Rel w0 F0 X n ρ ax b7 az->Q .normal b7 az)
  (h:jD C s ros K) (aI:Rel w0 F0 X n ρ s a w):(Code.region id ops false).wp C.P Q a w:=by
 refine wp_region (E1 a0 ny aU _ s a w ?_ aI);have:=LS C K ros [] s h;have hl:=(wt ny).1;simp only[List.nil_append,List.length_nil,Nat.add_zero,List.map_id']at this;rw[List.length_map]at hl;rw[<-hl]at this;simpa using this
end
def z0 (mL:Xr) (l:Xt):Prop:=
 l.Nodup/\(∀i,i∈l↔i<mL.length)/\∀u i v,l=u++i::v->∀e∈(mL[i]?).getD [],e∈u
def l4 (ops:Array Oper):Xr:=ops.toList.map λo=>(o.after.toList.filter λe=>Region.binds .any e).map (·.on)
def tY (mL:Xr):Bool:=mL.zipIdx.all λp=>p.1.all λe=>decide (e<p.2)
theorem L9 {mL:Xr} (h:tY mL=true) {i:Nat} {l:Xt} (aE:mL[i]? =some l):∀e∈l,e<i:=by
 intro e he;simp only[tY,List.all_eq_true]at h;have:=h (l,i) (by rw[List.mem_zipIdx_iff_getElem?];exact aE) e he;simpa using this
theorem L_ {ops:Array Oper} (U:tY (l4 ops)=true):∀(fuel t:Nat) (eX:Array Bool),eX.size=ops.size->((List.range ops.size).filter λi=> !eX.getD i true).length<=fuel->
  (Region.linearise.go .any ops fuel t eX []).Nodup/\(∀i,i∈Region.linearise.go .any ops fuel t eX []↔(i<ops.size/\eX.getD i true=false))/\
   ∀u i v,Region.linearise.go .any ops fuel t eX []=u++i::v->∀e∈((l4 ops)[i]?).getD [],eX.getD e false=true\/e∈u:=by
 intro fuel;induction fuel with
 |zero=>
  intro t eX aa hl;have tH:((List.range ops.size).filter λi=> !eX.getD i true)=[]:=List.length_eq_zero_iff.1 (le_zero.1 hl);refine⟨by simp[Region.linearise.go],λi=>?_,λu i v h=>by simp[Region.linearise.go]at h⟩;simp only[Region.linearise.go,List.reverse_nil,List.not_mem_nil,false_iff,not_and];intro aE bk;have:i∈((List.range ops.size).filter λi=> !eX.getD i true):=List.mem_filter.2 ⟨List.mem_range.2 aE,by rw[bk];rfl⟩;rw[tH]at this;cases this
 |succ fuel ih=>
  intro t eX aa hl;have E2:∀i,i∈Region.ready .any ops eX↔(i<ops.size/\eX.getD i true=false/\∀e∈((l4 ops)[i]?).getD [],eX.getD e false=true):=by
   intro i;simp only[Region.ready,List.mem_filter,List.mem_range,Bool.and_eq_true,Bool.not_eq_true'];constructor
   .rintro⟨ab,ad,aB⟩;refine⟨ab,ad,?_⟩;rw[Array.getElem?_eq_getElem ab]at aB;simp only[Option.map_some,Option.getD_some,Array.all_eq_true_iff_forall_mem]at aB;simp only[l4,List.getElem?_map,Array.getElem?_toList,Array.getElem?_eq_getElem ab,Option.map_some,Option.getD_some,List.mem_map,List.mem_filter];rintro e ⟨x,⟨an,qk⟩,rfl⟩;have:=aB x (by simpa using an);simpa [qk]using this
   .rintro⟨ab,ad,aB⟩;refine⟨ab,ad,?_⟩;rw[Array.getElem?_eq_getElem ab];simp only[Option.map_some,Option.getD_some,Array.all_eq_true_iff_forall_mem];simp only[l4,List.getElem?_map,Array.getElem?_toList,Array.getElem?_eq_getElem ab,Option.map_some,Option.getD_some,List.mem_map,List.mem_filter]at aB;intro x an;cases qk:Region.binds .any x with
    |false=>simp
    |true=>simpa using aB x.on ⟨x,⟨by simpa using an,qk⟩,rfl⟩
  have hex:(∃i,i<ops.size/\eX.getD i true=false)->Region.ready .any ops eX≠[]:=by
   rintro⟨i,ab,ad⟩;have:∃i,(i<ops.size/\eX.getD i true=false)/\∀j,j<i->¬(j<ops.size/\eX.getD j true=false):=by
    induction i using Nat.strongRecOn with
    |_ i Ma=>
     by_cases b6:∃j,j<i/\(j<ops.size/\eX.getD j true=false)
     .obtain⟨j,E3,z1,Mb⟩:=b6;exact Ma j E3 z1 Mb
     .exact⟨i,⟨ab,ad⟩,λj Mc aj=>b6 ⟨j,Mc,aj⟩⟩
   obtain⟨k,⟨bM,b1⟩,cZ⟩:=this;have:k∈Region.ready .any ops eX:=(E2 k).2 ⟨bM,b1,λe he=>by
    cases bQ:(l4 ops)[k]? with
    |none=>rw[bQ]at he;simp at he
    |some l=>
     rw[bQ]at he;have c8:=L9 U bQ e he;have:=cZ e c8;rw[not_and]at this;have:=this (by omega);have z2:e<eX.size:=by omega
     simp only[Array.getD_eq_getD_getElem?,Array.getElem?_eq_getElem z2,Option.getD_some]at this⊢;simpa using this⟩
   intro e;rw[e]at this;cases this
  have E4:Region.linearise.go .any ops (fuel+1) t eX []=(match(Region.ready .any ops eX)[t%(Region.ready .any ops eX).length]? with
   |some i=>Region.linearise.go .any ops fuel (t/(Region.ready .any ops eX).length) (eX.setIfInBounds i true) [i]
   |none=>[]):=rfl
  cases tZ:(Region.ready .any ops eX)[t%(Region.ready .any ops eX).length]? with
  |none=>
   have tH:Region.ready .any ops eX=[]:=by
    cases aI:Region.ready .any ops eX with
    |nil=>rfl
    |cons a l=>
     rw[aI]at tZ;have:=List.getElem?_eq_none_iff.1 tZ;have ad:=mod_lt t (show 0<(a::l).length by simp);omega
   rw[E4,tZ];refine⟨by simp,λi=>?_,λu i v h=>by simp at h⟩;simp only[List.not_mem_nil,false_iff];intro aE;exact hex ⟨i,aE⟩ tH
  |some i=>
   have aE:=(E2 i).1 (List.mem_of_getElem? tZ);obtain⟨z3,E5,Md⟩:=aE;rw[E4,tZ];simp only;rw[linearise_go_acc];simp only[List.reverse_singleton,List.singleton_append];have o9:∀j d,(eX.setIfInBounds i true).getD j d=if j=i then true else eX.getD j d:=by
    intro j d;split
    .rename_i e;subst e;simp[Array.getD_eq_getD_getElem?,Array.getElem?_setIfInBounds_self_of_lt (show j<eX.size by omega)]
    .rename_i e;simp[Array.getD_eq_getD_getElem?,Array.getElem?_setIfInBounds_ne (λh=>e h.symm)]
   obtain⟨aO,a3,bJ⟩:=ih (t/(Region.ready .any ops eX).length) (eX.setIfInBounds i true) (by simpa using aa) (by
    have dK:((List.range ops.size).filter λj=> !(eX.setIfInBounds i true).getD j true)=((List.range ops.size).filter λi=> !eX.getD i true).filter λj=>decide (j≠i):=by
     rw[List.filter_filter];apply List.filter_congr;intro j _;rw[o9];by_cases e:j=i<;>simp[e]
    rw[dK];have c8:(((List.range ops.size).filter λi=> !eX.getD i true).filter λj=>decide (j≠i)).length<((List.range ops.size).filter λi=> !eX.getD i true).length:=by
     rw[List.length_filter_lt_length_iff_exists];exact⟨i,List.mem_filter.2 ⟨List.mem_range.2 z3,by rw[E5];rfl⟩,by simp⟩
    omega)
   refine⟨?_,λj=>?_,?_⟩
   .rw[List.nodup_cons];refine⟨λhm=>?_,aO⟩;have:=((a3 i).1 hm).2;rw[o9,if_pos rfl]at this;cases this
   .rw[List.mem_cons,a3,o9];by_cases e:j=i
    .subst e;simp[z3,E5]
    .simp[e]
   .intro u j v h e he;cases u with
    |nil=>
     simp only[List.nil_append,List.cons.injEq]at h;obtain⟨rfl,rfl⟩:=h;exact .inl (Md e he)
    |cons wy u=>
     simp only[List.cons_append,List.cons.injEq]at h;obtain⟨rfl,h⟩:=h;rcases bJ u j v h e he with bj|bj
     .rw[o9]at bj;split at bj
      .rename_i e_;subst e_;exact .inr (by simp)
      .exact .inl bj
     .exact .inr (by simp[bj])
theorem Me {ops:Array Oper} (U:tY (l4 ops)=true) (t:Nat):z0 (l4 ops) (Region.linearise .any ops t):=by
 have E6:∀i d,i<ops.size->(Array.replicate ops.size false).getD i d=false:=by
  intro i d aE;simp[Array.getD_eq_getD_getElem?,aE]
 obtain⟨aO,a3,bJ⟩:=L_ U ops.size t (Array.replicate ops.size false) (by simp) (by
  have:=List.length_filter_le (λi=> !(Array.replicate ops.size false).getD i true) (List.range ops.size);simpa using this)
 have hlen:(l4 ops).length=ops.size:=by simp[l4]
 refine⟨aO,λi=>?_,λu i v h e he=>?_⟩
 .rw[hlen];rw[show Region.linearise .any ops t=Region.linearise.go .any ops ops.size t (Array.replicate ops.size false) []from rfl,a3];exact⟨λh=>h.1,λh=>⟨h,E6 i true h⟩⟩
 .rcases bJ u i v h e he with bj|bj
  .exfalso;by_cases E7:e<ops.size
   .rw[E6 e false E7]at bj;cases bj
   .simp[Array.getD_eq_getD_getElem?,E7]at bj
  .exact bj
def au:Xx->ah
 |[],_=>.hole
 |(u,d)::l,t=>if t=u then d else au l t
mutual
inductive dI:I->I->Prop
 |refl (d:I):dI d d
 |iR (sz:Nat):dI .a5 (.aw sz [])
 |qy:dI .a5 (.slice [])
 |any (b:Bool):dI (.bool b) .dR
 |share (d:I):d.tree=true->(∀vs,d≠.tuple vs)->(∀o,d≠.cS o)->(∀f c,d≠.er f c)->dI d d.share
 |agg {ds es:Xy}:iF ds es->dI (.agg ds) (.agg es)
 |bh {d e:I}:dI d e->dI (.bh d) (.bh e)
 |aw {sz:Nat} {ds es:Xy}:iF ds es->dI (.aw sz ds) (.aw sz es)
 |tuple {ds es:Xy}:iF ds es->dI (.tuple ds) (.tuple es)
 |ref {d e:I}:dI d e->dI (.ref d) (.ref e)
 |trans {d e f:I}:dI d e->dI e f->dI d f
inductive iF:Xy->Xy->Prop
 |nil:iF [] []
 |cons {d e:I} {ds es:Xy}:dI d e->iF ds es->iF (d::ds) (e::es)
end
mutual
theorem dI.wd:∀{d e:I},dI d e->e.wd=d.wd
 |_,_,.refl _=>rfl
 |_,_,.iR _=>rfl
 |_,_,.qy=>rfl
 |_,_,.any _=>rfl
 |_,_,.share d _ _ _ _=>I.vD d
 |_,_,.agg h=>by simp only[I.wd];exact iF.wd h
 |_,_,.bh _=>rfl
 |_,_,.aw _=>rfl
 |_,_,.tuple h=>by simp only[I.wd];exact iF.wd h
 |_,_,.ref _=>rfl
 |_,_,.trans h k=>(dI.wd k).trans (dI.wd h)
theorem iF.wd:∀{ds es:Xy},iF ds es->I.c3 es=I.c3 ds
 |_,_,.nil=>rfl
 |_,_,.cons h aa=>by simp only[I.c3];rw[dI.wd h,iF.wd aa]
end
theorem iF.len {ds es:Xy} (h:iF ds es):es.length=ds.length:=by
 induction ds generalizing es with
 |nil=>cases h;rfl
 |cons d ds ih=>cases h with|cons h aa=>simp[ih aa]
theorem iF.all {sz:Nat} {ds es:Xy} (h:iF ds es) (af:∀d∈ds,d.wd=sz):∀d∈es,d.wd=sz:=by
 induction ds generalizing es with
 |nil=>cases h;intro d af;cases af
 |cons d ds ih=>
  cases h with
  |cons h aa=>
   intro x an;rcases List.mem_cons.1 an with rfl|an
   .rw[h.wd];exact af d (by simp)
   .exact ih aa (λd hm=>af d (by simp[hm])) x an
section
variable {w0 w:World} {F0 X F:Nat->Prop} {S:Nat->Nat->Prop} {s ax:ah} {aq:Nat->Value}
def Mf (w:World) (F:Nat->Prop) (_d e:I) (cs:Xw) (S:Nat->Prop):Prop:=
 ∃gE gF:Nat->Prop,(∀b,gE b->S b)/\(∀b,gF b->S b)/\(∀b,gF b->¬gE b)/\∀bo,(∀b,F b\/gE b->bo b)->al w bo e cs gF
mutual
theorem al.mM:∀{d e:I},dI d e->∀{F:Nat->Prop} {cs:Xw} {S:Nat->Prop},al w F d cs S->Mf w F d e cs S
 |_,_,.refl _,F,cs,S,h=>⟨λ_=>False,S,λ_ h=>h.elim,λ_ h=>h,λ_ _ h=>h,λbo a1=>al.mono (λb U=>a1 b (.inl U)) _ _ _ _ (λ_ h=>h) h⟩
 | .a5,_,.iR sz,F,cs,S,h=>⟨λ_=>False,S,λ_ h=>h.elim,λ_ h=>h,λ_ _ h=>h,λbo a1=>by simp only[al]at h⊢;exact .inl ⟨trivial,_,h⟩⟩
 | .a5,_,.qy,F,cs,S,h=>⟨λ_=>False,S,λ_ h=>h.elim,λ_ h=>h,λ_ _ h=>h,λbo a1=>by simp only[al]at h⊢;exact .inl ⟨trivial,none,0,h,zero_le _,λ_=>rfl⟩⟩
 | .bool _,_,.any b,F,cs,S,h=>⟨λ_=>False,S,λ_ h=>h.elim,λ_ h=>h,λ_ _ h=>h,λbo a1=>by simp only[al]at h⊢;exact⟨b,h⟩⟩
 |_,_,.share d _ _ _ _,F,cs,S,h=>⟨S,λ_=>False,λ_ h=>h,λ_ h=>h.elim,λ_ h=>h.elim,λbo a1=>al.shared (λb U=>a1 b (.inl U)) d cs S (λb U=>a1 b (.inr U)) h⟩
 |_,_,.agg hL,F,cs,S,h=>by
  rw[al]at h;obtain⟨gE,gF,ab,ad,aB,aY⟩:=aQ.mM hL h;exact⟨gE,gF,ab,ad,aB,λbo a1=>by rw[al];exact aY bo a1⟩
 |_,_,.bh af,F,cs,S,h=>by
  rw[al]at h;obtain⟨b,cur,ty,fr,aF,bM,b1,cZ,cF,dL,dj,hk⟩:=h;obtain⟨gE,gF,ab,ad,aB,aY⟩:=al.mM af dL;refine⟨gE,λc=>c=b\/gF c,λc aj=>dj c (ab c aj),?_,?_,λbo a1=>?_⟩
  .rintro c (rfl|aj)
   .exact b1
   .exact dj c (ad c aj)
  .rintro c (rfl|aj) bk
   .exact hk (ab _ bk)
   .exact aB c aj bk
  .rw[al];exact⟨b,cur,ty,fr,gF,bM,.inl rfl,cZ,cF,aY bo a1,λc aj=>.inr aj,λaj=>hk (ad _ aj)⟩
 | .aw sz ds,.aw _ es,.aw hL,F,cs,S,h=>by
   rw[al]at h;have hl:=hL.len;rcases h with⟨ab,ad⟩|⟨b,cap,cur,ty,fr,aF,bM,b1,cZ,cF,dL,dj,hk,dp,jW,mC,E8⟩
   .refine⟨λ_=>False,S,λ_ h=>h.elim,λ_ h=>h,λ_ _ h=>h,λbo _=>?_⟩;rw[al];subst ab;exact .inl ⟨List.length_eq_zero_iff.1 (by simpa using hl),ad⟩
   .obtain⟨gE,gF,ab,ad,aB,aY⟩:=aQ.mM hL jW;refine⟨gE,λc=>c=b\/gF c,λc aj=>mC c (ab c aj),?_,?_,λbo a1=>?_⟩
    .rintro c (rfl|aj)
     .exact b1
     .exact mC c (ad c aj)
    .rintro c (rfl|aj) bk
     .exact E8 (ab _ bk)
     .exact aB c aj bk
    .rw[al];refine .inr ⟨b,cap,cur,ty,fr,gF,by rw[hl];exact bM,.inl rfl,cZ,cF,by rw[hl];exact dL,dj,hk,hL.all dp,by rw[hl];exact aY bo a1,λc aj=>.inr aj,λaj=>E8 (ad _ aj)⟩
 |_,_,.tuple hL,F,cs,S,h=>by
  rw[al]at h;obtain⟨gE,gF,ab,ad,aB,aY⟩:=aQ.mM hL h;exact⟨gE,gF,ab,ad,aB,λbo a1=>by rw[al];exact aY bo a1⟩
 |_,_,.ref af,F,cs,S,h=>by
  rw[al]at h;obtain⟨b,o,dc,ab,ad,aB,aY⟩:=h;obtain⟨gE,gF,bM,b1,cZ,cF⟩:=al.mM af aY;refine⟨λ_=>False,S,λ_ h=>h.elim,λ_ h=>h,λ_ _ h=>h,λbo a1=>?_⟩;rw[al];exact⟨b,o,dc,ab,a1 _ (.inl ad),aB,al.mono (λ_ h=>h) _ _ _ _ (λb U=>b1 b U) (cF bo λb U=>a1 b (U.imp id λh=>(bM b h).elim))⟩
 |_,_,.trans af he,F,cs,S,h=>by
  obtain⟨gE,gF,ab,ad,aB,aY⟩:=al.mM af h;obtain⟨z4,wz,bM,b1,cZ,cF⟩:=al.mM he (F:=λb=>F b\/gE b) (aY _ λ_ h=>h);refine⟨λb=>gE b\/z4 b,wz,?_,λb U=>ad b (b1 b U),?_,λbo a1=>cF bo λb U=>?_⟩
  .rintro b (h|h)
   .exact ab b h
   .exact ad b (bM b h)
  .rintro b U (h|h)
   .exact aB b (b1 b U) h
   .exact cZ b U h
  .rcases U with(U|U)|U
   .exact a1 b (.inl U)
   .exact a1 b (.inr (.inl U))
   .exact a1 b (.inr (.inr U))
theorem aQ.mM:∀{ds es:Xy},iF ds es->∀{F:Nat->Prop} {cs:Xw} {S:Nat->Prop},aQ w F ds cs S->
  ∃gE gF:Nat->Prop,(∀b,gE b->S b)/\(∀b,gF b->S b)/\(∀b,gF b->¬gE b)/\∀bo,(∀b,F b\/gE b->bo b)->aQ w bo es cs gF
 |_,_,.nil,F,cs,S,h=>⟨λ_=>False,λ_=>False,λ_ h=>h.elim,λ_ h=>h.elim,λ_ h=>h.elim,λbo a1=>by rw[aQ]at h⊢;exact h⟩
 |_,_,.cons af hL,F,cs,S,h=>by
  rw[aQ]at h;obtain⟨bx,bE,S1,S2,rfl,a3,bJ,cN,dD,gp⟩:=h;obtain⟨Mg,E9,ag,a4,gB,pa⟩:=al.mM af a3;obtain⟨z4,wz,g7,gq,iD,cy⟩:=aQ.mM hL bJ;refine⟨λb=>Mg b\/z4 b,λb=>E9 b\/wz b,?_,?_,?_,λbo a1=>?_⟩
  .rintro b (h|h)
   .exact cN b (ag b h)
   .exact dD b (g7 b h)
  .rintro b (h|h)
   .exact cN b (a4 b h)
   .exact dD b (gq b h)
  .rintro b (h|h) (bj|bj)
   .exact gB b h bj
   .exact gp b (a4 b h) (g7 b bj)
   .exact gp b (ag b bj) (gq b h)
   .exact iD b h bj
  .rw[aQ];refine⟨bx,bE,E9,wz,rfl,pa bo (λb U=>a1 b (U.imp id .inl)),cy bo (λb U=>a1 b (U.imp id .inr)),λb U=>.inl U,λb U=>.inr U,λb ab ad=>gp b (a4 b ab) (gq b ad)⟩
end
theorem dI.wA:∀{d e:I},dI d e->(∀vs,d≠.tuple vs)->∀vs,e≠.tuple vs
 |_,_,.refl _,h=>h
 |_,_,.iR _,_=>λ_ h=>by cases h
 |_,_,.qy,_=>λ_ h=>by cases h
 |_,_,.any _,_=>λ_ h=>by cases h
 |_,_,.share d _ _ _ _,h=>λvs he=>by cases d<;>first|(cases he;done)|exact h _ rfl
 |_,_,.agg _,_=>λ_ h=>by cases h
 |_,_,.bh _,_=>λ_ h=>by cases h
 |_,_,.aw _,_=>λ_ h=>by cases h
 |_,_,.tuple _,h=>λ_ _=>h _ rfl
 |_,_,.ref _,_=>λ_ h=>by cases h
 |_,_,.trans h k,aU=>dI.wA k (dI.wA h aU)
theorem dI.gN:∀{d e:I} {v:Value},dI d e->(∀vs,d≠.tuple vs)->cM.gN d v->cM.gN e v
 |_,_,_,.refl _,_,h=>h
 |_,_,_,.iR _,_,h=>h
 |_,_,_,.qy,_,h=>h
 |_,_,_,.any _,_,h=>h
 |_,_,_,.share d _ aU _ _,_,h=>by cases d<;>first|exact h|exact(aU _ rfl).elim
 |_,_,_,.agg _,_,h=>h
 |_,_,_,.bh _,_,h=>h
 |_,_,_,.aw _,_,h=>h
 |_,_,_,.tuple _,aU,_=>(aU _ rfl).elim
 |_,_,_,.ref _,_,h=>h
 |_,_,_,.trans h k,aU,aa=>dI.gN k (dI.wA h aU) (dI.gN h aU aa)
theorem iF.get:∀{ds es:Xy},iF ds es->∀(k:Nat) (e:I),es[k]? =some e->∃d,ds[k]? =some d/\dI d e
 |_,_,.nil,k,e,h=>by simp at h
 |_,_,.cons af aa,0,e,h=>by simp at h;subst h;exact⟨_,rfl,af⟩
 |_,_,.cons af aa,k+1,e,h=>iF.get aa k e (by simpa using h)
theorem dI.cO:∀{d e:I} {v:Value},dI d e->cM.cO d v->cM.cO e v
 |_,_,_,.refl _,aa=>aa
 |_,_,_,.iR _,aa=>aa
 |_,_,_,.qy,aa=>aa
 |_,_,_,.any _,aa=>aa
 |_,_,_,.share _ _ kR _ _,aa=>zK kR aa
 |_,_,_,.agg _,aa=>aa
 |_,_,_,.bh _,aa=>aa
 |_,_,_,.aw _,aa=>aa
 |_,_,_,.ref _,aa=>aa
 |_,_,_,.tuple af,aa=>by
  obtain⟨arr,ab,ad,aB⟩:=aa;refine⟨arr,ab,ad.trans af.len.symm,λk e x he an=>?_⟩;obtain⟨d,ai,hw⟩:=af.get k e he;obtain⟨ag,a4,gB⟩:=aB k d x ai an;exact⟨hw.gN a4 ag,hw.wA a4,gB.trans hw.wd.symm⟩
 |_,_,_,.trans h k,aa=>dI.cO k (dI.cO h aa)
theorem dI.tree:∀{d e:I},dI d e->d.tree=true->e.tree=true
 |_,_,.refl _,af=>af
 |_,_,.iR _,_=>rfl
 |_,_,.qy,_=>rfl
 |_,_,.any _,_=>rfl
 |_,_,.share d _ _ ja zL,af=>by cases d<;>first|exact af|rfl|exact(ja _ rfl).elim|exact(zL _ _ rfl).elim
 |_,_,.agg _,_=>rfl
 |_,_,.bh _,_=>rfl
 |_,_,.aw _,_=>rfl
 |_,_,.tuple _,_=>rfl
 |_,_,.ref _,_=>rfl
 |_,_,.trans h k,af=>dI.tree k (dI.tree h af)
mutual
def I.qz:I->Xt
 | .h x q=>if q.isEmpty then []else [x]
 | .ao x _=>[x]
 | .U x _=>[x]
 | .fn _ cap=>I.t_ cap
 |_=>[]
def I.t_:Xy->Xt
 |[]=>[]
 |d::ds=>d.qz++I.t_ ds
end
def ua (s ax:ah) (x:Nat) (D:Xt):Prop:=ax x=s x\/ax x= .hole\/((s x).own=true/\(ax x).own=true/\x∉D)
theorem ua.less {s ax:ah} {x:Nat} {D E:Xt} (h:ua s ax x D) (z5:∀u∈E,u∈D):ua s ax x E:=by
 rcases h with h|h|⟨ab,ad,aB⟩
 .exact .inl h
 .exact .inr (.inl h)
 .exact .inr (.inr ⟨ab,ad,λan=>aB (z5 x an)⟩)
theorem aA.dd {bo:Nat->Prop} (a1:∀b,F b->bo b):∀n,(∀(d:I) (v:Value) (cW:Nat->Prop),SizeOf.sizeOf d<=n->(∀x∈d.aa,ua s ax x d.qz)->aA w F s aq d v cW->aA w bo ax aq d v cW)/\
  (∀(ds:Xy) (vs:Xw),SizeOf.sizeOf ds<=n->(∀x∈I.cV ds,ua s ax x (I.t_ ds))->c5 w F s aq ds vs->c5 w bo ax aq ds vs):=by
 intro n;induction n with
 |zero=>
  refine⟨λd v cW bz=>?_,λds vs bz=>?_⟩
  .cases d<;>simp at bz<;>omega
  .cases ds<;>simp at bz<;>omega
 |succ n ih=>
  refine⟨λd v cW bz ai h=>?_,λds vs bz ai h=>?_⟩
  .cases d with
   |hole=>rw[aA];trivial
   |h x q=>
    rw[aA]at h⊢;intro e dK ao;rcases ai x (by simp[I.aa])with he|he|⟨wB,z6,ub⟩
    .rw[he]at dK⊢;exact h e dK ao
    .rw[he]at dK;cases q with
     |nil=>simp only[I.sub,Option.some.injEq]at dK;subst dK;simp[I.plain]at ao
     |cons k q=>simp[I.sub]at dK
    .cases q with
     |nil=>
      simp only[I.sub,Option.some.injEq]at dK;subst dK;obtain⟨b4,J,dS,e9,fX⟩:=h (s x) (by simp only[I.sub]) (qt wB).1;simp only[cu,Option.some.injEq,Prod.mk.injEq,true_and]at dS;exact⟨bL (aq x),none,by simp only[cu],by rw[e9,<-dS.1],((qt z6).2.2.2.2.2 _).2 (((qt wB).2.2.2.2.2 _).1 fX)⟩
     |cons k q=>exact(ub (by simp[I.qz])).elim
   |ao x q=>
    rw[aA]at h⊢;intro e dK aj;rcases ai x (by simp[I.aa])with he|he|⟨_,_,ub⟩
    .rw[he]at dK aj⊢;exact h e dK aj
    .rw[he]at aj;cases q<;>simp[I.ei]at aj
    .exact(ub (by simp[I.qz])).elim
   |U x k=>
    rw[aA]at h⊢;intro ao;rcases ai x (by simp[I.aa])with he|he|⟨_,_,ub⟩
    rotate_left 2
    .exact(ub (by simp[I.qz])).elim
    .rw[he]at ao;obtain⟨b,cur,e,fr,ab,ad,aB,aY⟩:=h ao;exact⟨b,cur,e,fr,ab,a1 b ad,aB,aY⟩
    .rw[he]at ao;simp[I.plain]at ao
   |fn f cap=>
    rw[aA]at h⊢;obtain⟨arr,rfl,aj⟩:=h;exact⟨arr,rfl,ih.2 _ _ (by simp at bz;omega) (by simpa [I.aa,I.qz]using ai) aj⟩
   |_=>
    have bj:=(aA.bY rfl).1 h;exact(aA.bY rfl).2 ⟨bj.1,al.mono a1 _ _ _ _ (λ_ h=>h) bj.2⟩
  .cases ds with
   |nil=>rw[c5]at h⊢;exact h
   |cons d ds=>
    rw[c5]at h⊢;obtain⟨v,hX,rfl,ab,ad⟩:=h;simp at bz;simp only[I.cV,List.mem_append]at ai;exact⟨v,hX,rfl,ih.1 _ _ _ (by omega) (λx an=>(ai x (.inl an)).less λu hu=>by simp[I.t_,hu]) ab,ih.2 _ _ (by omega) (λx an=>(ai x (.inr an)).less λu hu=>by simp[I.t_,hu]) ad⟩
def rW (s:ah) (l:Xx):Prop:=
 ∀p∈l,p.2=s p.1\/((s p.1).tree=true/\dI (s p.1) p.2/\∀b0∈l,p.1∉b0.2.aa\/((s p.1).own=true/\p.2.own=true/\p.1∉b0.2.qz))
theorem E_:∀(l:Xx) (t:Nat),au l t= .hole\/∃p∈l,p.1=t/\au l t=p.2:=by
 intro l;induction l with
 |nil=>intro t;exact .inl rfl
 |cons p l ih=>
  intro t;obtain⟨u,d⟩:=p;simp only[au];split
  .rename_i e;exact .inr ⟨(u,d),by simp,e.symm,rfl⟩
  .rcases ih t with h|⟨p,ao,h⟩
   .exact .inl h
   .exact .inr ⟨p,by simp[ao],h⟩
theorem bg.Fa (h:bg w0 F0 X F S s aq w) {l:Xx} (hw:rW s l):∃bo aF,bg w0 F0 X bo aF (au l) aq w:=by
 have each:∀t,∃gE gF:Nat->Prop,(∀b,gE b->S t b)/\(∀b,gF b->S t b)/\(∀b,gF b->¬gE b)/\∀bo,(∀b,F b\/gE b->bo b)->aA w bo (au l) aq (au l t) (aq t) gF:=by
  intro t;rcases E_ l t with e|⟨p,ao,rfl,e⟩
  .exact⟨λ_=>False,λ_=>False,λ_ h=>h.elim,λ_ h=>h.elim,λ_ h=>h.elim,λbo _=>by rw[e,aA];trivial⟩
  .rw[e];rcases hw p ao with ai|⟨aN,iM,_⟩
   .refine⟨λ_=>False,S p.1,λ_ h=>h.elim,λ_ h=>h,λ_ _ h=>h,λbo a1=>?_⟩;rw[ai];refine(aA.dd (λb U=>a1 b (.inl U)) (SizeOf.sizeOf (s p.1))).1 _ _ _ (Nat.le_refl _) ?_ (h.cE p.1);intro x an;rcases E_ l x with e_|⟨b0,c_,rfl,e_⟩
    .exact .inr (.inl e_)
    .rcases hw b0 c_ with jX|⟨_,_,ja⟩
     .exact .inl (e_.trans jX)
     .rcases ja p ao with ja|⟨jA,hM,kS⟩
      .exact(ja (by rw[ai];exact an)).elim
      .exact .inr (.inr ⟨jA,by rw[e_];exact hM,by rw[ai]at kS;exact kS⟩)
   .obtain⟨aO,a3⟩:=(aA.bY aN).1 (h.cE p.1);obtain⟨gE,gF,bM,b1,cZ,cF⟩:=al.mM iM a3;exact⟨gE,gF,bM,b1,cZ,λbo a1=>(aA.bY (iM.tree aN)).2 ⟨iM.cO aO,cF bo a1⟩⟩
 have bx:=λt=>(each t).choose_spec;let gE:=λt=>(each t).choose
 have bE:=λt=>(bx t).choose_spec;let gF:=λt=>(bx t).choose
 have gX:∀t b,gE t b->S t b:=λt=>(bE t).1;have fv:∀t b,gF t b->S t b:=λt=>(bE t).2.1;have fZ:∀t b,gF t b->¬gE t b:=λt=>(bE t).2.2.1;have gA:=λt=>(bE t).2.2.2;refine⟨λb=>F b\/∃t,gE t b,gF,λb U=>.inl (h.fN b U),?_,?_,λt b U=>h.dA t b (fv t b U),?_,λt u b c4 U hu=>h.ej t u b c4 (fv t b U) (fv u b hu),λt b U=>h.cW t b (fv t b U),?_,h.old,h.size,h.os,h.tape,h.output,h.gn⟩
 .rintro b (U|⟨t,U⟩)
  .exact h.gm b U
  .exact .inr (h.cW t b (gX t b U))
 .rintro b (U|⟨t,U⟩)
  .exact h.eu b U
  .exact h.dA t b (gX t b U)
 .rintro t b U (bk|⟨u,hu⟩)
  .exact h.eH t b (fv t b U) bk
  .by_cases e:t=u
   .subst e;exact fZ t b U hu
   .exact h.ej t u b e (fv t b U) (gX u b hu)
 .intro t;exact gA t _ (λb U=>U.imp id λh=>⟨t,h⟩)
end
inductive aL where
 |skip
 |eM (ros:List bW) (dd:Option Xt)
 |jl (ros:List bW) (mL:Xr) (dd:Option Xt)
 |seq (a b:aL)
 |cond (c:aX) (a b:aL)
 |block (id:Nat) (b:aL)
 |loop (b:aL)
 |exit (id:Nat)
 |ret
 |g_ (T:(Exit->ah->Prop)->ah->Prop) (b:aL)
 |raw (c:Code)
def eN (n:Fr):Code->Option aL
 | .skip=>some .skip
 | .region id ops false=>match nx n ops ops.toList with
   |some r=>some (.eM r none)
   |none=>some (.raw (.region id ops false))
 | .region _ ops true=>if tY (l4 ops)=true then(nx n ops ops.toList).map λr=>.jl r (l4 ops) none else none
 | .seq a b=>match eN n a,eN n b with
   |some a,some b=>some (.seq a b)
   |_,_=>none
 | .cond c a b=>match cD c,eN n a,eN n b with
   |some c,some a,some b=>some (.cond c a b)
   |_,_,_=>none
 | .block id b=>(eN n b).map (.block id)
 | .loop b=>(eN n b).map .loop
 | .exit id=>some (.exit id)
 | .ret=>some .ret
 |_=>none
def aL.jE:aL->aL
 | .eM ros _=>.eM ros none
 | .jl ros eE _=>.jl ros eE none
 | .seq a b=>.seq a.jE b.jE
 | .cond c a b=>.cond c a.jE b.jE
 | .block id b=>.block id b.jE
 | .loop b=>.loop b.jE
 | .g_ T b=>.g_ T b.jE
 |c=>c
def aL.strip:aL->aL
 | .eM ros _=>.eM (ros.map bW.un) none
 | .jl ros eE _=>.jl (ros.map bW.un) eE none
 | .seq a b=>.seq a.strip b.strip
 | .cond c a b=>.cond c a.strip b.strip
 | .block id b=>.block id b.strip
 | .loop b=>.loop b.strip
 | .g_ _ b=>b.strip
 |c=>c
theorem aL.z7:∀c:aL,c.jE.strip=c.strip:=by
 intro c;induction c with
 |seq a b ik il=>simp only[aL.jE,aL.strip,ik,il]
 |cond c a b ik il=>simp only[aL.jE,aL.strip,ik,il]
 |block id b ih=>simp only[aL.jE,aL.strip,ih]
 |loop b ih=>simp only[aL.jE,aL.strip,ih]
 |g_ T b ih=>simp only[aL.jE,aL.strip,ih]
 |_=>rfl
def aL.bare (H:((Exit->ah->Prop)->ah->Prop)->aL->Prop):aL->Prop
 | .eM _ k=>k=none
 | .jl _ _ k=>k=none
 | .seq a b=>a.bare H/\b.bare H
 | .cond _ a b=>a.bare H/\b.bare H
 | .block _ b=>b.bare H
 | .loop b=>b.bare H
 | .g_ T b=>H T b
 |_=>True
def aL.l5 (H:((Exit->ah->Prop)->ah->Prop)->aL->Prop):aL->Prop
 | .seq a b=>a.l5 H/\b.l5 H
 | .cond _ a b=>a.l5 H/\b.l5 H
 | .block _ b=>b.l5 H
 | .loop b=>b.l5 H
 | .g_ T b=>H T b.jE
 |_=>True
theorem aL.z8 {H:((Exit->ah->Prop)->ah->Prop)->aL->Prop}:∀c:aL,c.l5 H->c.jE.bare H:=by
 intro c;induction c with
 |seq a b ik il=>intro h;exact⟨ik h.1,il h.2⟩
 |cond c a b ik il=>intro h;exact⟨ik h.1,il h.2⟩
 |block id b ih=>intro h;exact ih h
 |loop b ih=>intro h;exact ih h
 |eM=>intro _;rfl
 |jl=>intro _;rfl
 |g_ T b _=>intro h;exact h
 |_=>intro _;trivial
def aL.plain:aL->Bool
 | .seq a b=>a.plain&&b.plain
 | .cond _ a b=>a.plain&&b.plain
 | .block _ b=>b.plain
 | .loop b=>b.plain
 | .g_ _ _=>false
 |_=>true
theorem aL.Mh {H:((Exit->ah->Prop)->ah->Prop)->aL->Prop}:∀c:aL,c.plain=true->c.l5 H:=by
 intro c;induction c with
 |seq a b ik il=>intro h;simp only[aL.plain,Bool.and_eq_true]at h;exact⟨ik h.1,il h.2⟩
 |cond c a b ik il=>intro h;simp only[aL.plain,Bool.and_eq_true]at h;exact⟨ik h.1,il h.2⟩
 |block id b ih=>intro h;exact ih h
 |loop b ih=>intro h;exact ih h
 |g_ T b _=>intro h;cases h
 |_=>intro _;trivial
def andThen (K:ah->Prop) (Q:Exit->ah->Prop):Exit->ah->Prop
 | .normal,s=>K s
 |e,s=>Q e s
def rX (id:Nat) (Q:Exit->ah->Prop):Exit->ah->Prop
 | .exit i,s=>if i=id then Q .normal s else Q (.exit i) s
 |e,s=>Q e s
def dC (K:ah->Prop) (s:ah):Prop:=K s\/∃l,rW s l/\K (au l)
def uc:Option Xt->(ah->Prop)->ah->Prop
 |none,K,s=>dC K s
 |some k,K,s=>K (au (k.map λt=>(t,s t)))
def bc (C:bA):aL->(Exit->ah->Prop)->ah->Prop
 | .skip,Q,s=>Q .normal s
 | .eM ros dd,Q,s=>jD C s ros (uc dd (Q .normal))
 | .jl ros mL dd,Q,s=>∀l,z0 mL l->ig C ros s l (uc dd (Q .normal))
 | .seq a b,Q,s=>bc C a (andThen (dC (bc C b Q)) Q) s
 | .cond c a b,Q,s=>match a6 s c with
   | .bool eh=>if eh=true then bc C a Q s else bc C b Q s
   | .dR=>bc C a Q s/\bc C b Q s
   |_=>False
 | .block id b,Q,s=>bc C b (rX id Q) s
 | .loop b,Q,s=>dC (λs=>∀Z:ah->Prop,(∀ax,bc C b (andThen (dC Z) Q) ax->Z ax)->Z s) s
 | .exit id,Q,s=>Q (.exit id) s
 | .ret,Q,s=>Q .ret s
 | .g_ T _,Q,s=>∀de:Exit->ah->Prop,(∀e s,Q e s->de e s)->T de s
 | .raw _,_,_=>False
section
variable {C:bA}
theorem z9 {s:ah} {o:bW} {K cA:ah->Prop} (h:j0 C s o K) (ai:∀s,K s->cA s):j0 C s o cA:=by
 unfold j0 at h⊢;split
 .rename_i bf;rw[bf]at h;exact wm h λav s1=>ai _
 .rename_i t b bf;rw[bf]at h;simp only at h;split
  .rename_i eh aa;rw[aa]at h;simp only at h;split
   .rename_i U;rw[if_pos U]at h;exact wm h λav s1=>ai _
   .rename_i U;rw[if_neg U]at h;exact ai _ h
  .rename_i aa;rw[aa]at h;exact ai _ h
  .rename_i ab ad;split at h
   .exact ab _ (by assumption)
   .exact ad (by assumption)
   .exact h
theorem Fb {K cA:ah->Prop} (ai:∀s,K s->cA s):∀{ros:List bW} {s:ah},jD C s ros K->jD C s ros cA:=by
 intro ros;induction ros with
 |nil=>intro s h;exact ai s h
 |cons o ros ih=>intro s h;exact z9 h λs h=>ih h
theorem Fe {ros:List bW} {K cA:ah->Prop} (ai:∀s,K s->cA s):∀{l:Xt} {s:ah},ig C ros s l K->ig C ros s l cA:=by
 intro l;induction l with
 |nil=>intro s h;exact ai s h
 |cons i l ih=>
  intro s h;simp only[ig]at h⊢;split
  .rename_i bG;rw[bG]at h;exact ih h
  .rename_i o bG;rw[bG]at h;exact z9 h λs h=>ih h
theorem qA {K cA:ah->Prop} (ai:∀s,K s->cA s) (s:ah) (h:dC K s):dC cA s:=
 h.imp (ai s) λ⟨l,ab,ad⟩=>⟨l,ab,ai _ ad⟩
theorem Ff {dd:Option Xt} {K cA:ah->Prop} (ai:∀s,K s->cA s) (s:ah) (h:uc dd K s):uc dd cA s:=by
 cases dd with
 |none=>exact qA ai s h
 |some k=>exact ai _ h
theorem Fg {dd:Option Xt} {K:ah->Prop} {s:ah} (h:uc dd K s):dC K s:=by
 cases dd with
 |none=>exact h
 |some k=>
  refine .inr ⟨_,?_,h⟩;intro p ao;obtain⟨t,_,rfl⟩:=List.mem_map.1 ao;exact .inl rfl
theorem z_ {K cA:ah->Prop} {Q de:Exit->ah->Prop} (ai:∀s,K s->cA s) (cx:∀e s,Q e s->de e s):∀e s,andThen K Q e s->andThen cA de e s:=by
 intro e s h;cases e with
 |normal=>exact ai s h
 |_=>exact cx _ s h
theorem Fh:∀(c:aL) {Q de:Exit->ah->Prop} {s:ah},(∀e s,Q e s->de e s)->bc C c Q s->bc C c de s:=by
 intro c;induction c with
 |skip=>intro Q de s cx h;exact cx _ _ h
 |eM ros dd=>intro Q de s cx h;exact Fb (Ff (cx _)) h
 |jl ros mL dd=>intro Q de s cx h l hl;exact Fe (Ff (cx _)) (h l hl)
 |seq a b ik il=>
  intro Q de s cx h;exact ik (z_ (λs h=>qA (λ_ h=>il cx h) s h) cx) h
 |cond c a b ik il=>
  intro Q de s cx h;simp only[bc]at h⊢;split
  .rename_i eh U;rw[U]at h;simp only at h;split
   .rename_i e;rw[if_pos e]at h;exact ik cx h
   .rename_i e;rw[if_neg e]at h;exact il cx h
  .rename_i U;rw[U]at h;exact⟨ik cx h.1,il cx h.2⟩
  .rename_i ab ad;split at h
   .exact ab _ (by assumption)
   .exact ad (by assumption)
   .exact h
 |block id b ih=>
  intro Q de s cx h;refine ih ?_ h;intro e s h;cases e with
  |exit i=>
   simp only[rX]at h⊢;split
   .rename_i e;rw[if_pos e]at h;exact cx _ _ h
   .rename_i e;rw[if_neg e]at h;exact cx _ _ h
  |_=>exact cx _ _ h
 |loop b ih=>
  intro Q de s cx h;refine qA (λs h Z rY=>?_) s h;exact h Z λax ff=>rY ax (ih (z_ (λ_ h=>h) cx) ff)
 |exit id=>intro Q de s cx h;exact cx _ _ h
 |ret=>intro Q de s cx h;exact cx _ _ h
 |g_ T b _=>intro Q de s cx h Mi ad;exact h Mi λe s he=>ad e s (cx e s he)
 |raw c=>intro Q de s cx h;exact h
theorem Aa:∀(c:aL) {Q:Exit->ah->Prop} {s:ah},bc C c Q s->bc C c.jE Q s:=by
 intro c;induction c with
 |eM ros dd=>intro Q s h;exact Fb (λs h=>Fg h) h
 |jl ros eE dd=>intro Q s h l hl;exact Fe (λs h=>Fg h) (h l hl)
 |seq a b ik il=>intro Q s h;exact ik (Fh a (z_ (λs h=>qA (λ_ h=>il h) s h) (λ_ _ h=>h)) h)
 |cond c a b ik il=>
  intro Q s h;simp only[aL.jE,bc]at h⊢;split
  .rename_i eh U;rw[U]at h;simp only at h;split
   .rename_i e;rw[if_pos e]at h;exact ik h
   .rename_i e;rw[if_neg e]at h;exact il h
  .rename_i U;rw[U]at h;exact⟨ik h.1,il h.2⟩
  .rename_i ab ad;split at h
   .exact ab _ (by assumption)
   .exact ad (by assumption)
   .exact h
 |block id b ih=>intro Q s h;exact ih h
 |loop b ih=>
  intro Q s h;refine qA (λs h Z rY=>?_) s h;exact h Z λax ff=>rY ax (ih ff)
 |g_ T b _=>intro Q s h;exact h
 |_=>intro Q s h;exact h
variable {w0 w:World} {F0 X:Nat->Prop} {n:Fr} {ρ:Nat->Value} {s:ah} {a:Act}
def l6 (w0:World) (F0 X:Nat->Prop) (n:Fr) (ρ:Nat->Value) (Q:Exit->ah->Prop):Exit->Act->World->Prop:=λe a w=>∃s,Q e s/\Rel w0 F0 X n ρ s a w
theorem Rel.dC {K:ah->Prop} {s:ah} {a:Act} {w:World} (aI:Rel w0 F0 X n ρ s a w) (h:dC K s):∃ax,K ax/\Rel w0 F0 X n ρ ax a w:=by
 rcases h with h|⟨l,ab,ad⟩
 .exact⟨s,h,aI⟩
 .obtain⟨aO,a3,bJ,F,S,cN⟩:=aI;obtain⟨bo,aF,dD⟩:=cN.Fa ab;exact⟨au l,ad,aO,a3,bJ,bo,aF,dD⟩
theorem aL.Mj {c:aL} (h:c.strip= .skip):c= .skip\/∃T b,c= .g_ T b:=by cases c<;>first|exact .inl rfl|exact .inr ⟨_,_,rfl⟩|cases h
theorem aL.Mk {c:aL} (h:c.strip= .ret):c= .ret\/∃T b,c= .g_ T b:=by cases c<;>first|exact .inl rfl|exact .inr ⟨_,_,rfl⟩|cases h
theorem aL.Ml {c:aL} {i:Nat} (h:c.strip= .exit i):c= .exit i\/∃T b,c= .g_ T b:=by cases c<;>first|exact .inl h|exact .inr ⟨_,_,rfl⟩|cases h
theorem aL.Mm {c:aL} {x:Code} (h:c.strip= .raw x):c= .raw x\/∃T b,c= .g_ T b:=by cases c<;>first|exact .inl h|exact .inr ⟨_,_,rfl⟩|cases h
theorem aL.Mn {c:aL} {r:List bW} {k:Option Xt} (h:c.strip= .eM r k):(∃ros cH,c= .eM ros cH/\ros.map bW.un=r)\/∃T b,c= .g_ T b:=by
 cases c<;>first|(cases h;exact .inl ⟨_,_,rfl,rfl⟩)|exact .inr ⟨_,_,rfl⟩|cases h
theorem aL.Mo {c:aL} {r:List bW} {eE:Xr} {k:Option Xt} (h:c.strip= .jl r eE k):(∃ros Fi cH,c= .jl ros Fi cH/\ros.map bW.un=r/\Fi=eE)\/∃T b,c= .g_ T b:=by
 cases c<;>first|(cases h;exact .inl ⟨_,_,_,rfl,rfl,rfl⟩)|exact .inr ⟨_,_,rfl⟩|cases h
theorem aL.Mp {c x y:aL} (h:c.strip= .seq x y):(∃a b,c= .seq a b/\a.strip=x/\b.strip=y)\/∃T b,c= .g_ T b:=by
 cases c<;>first|(cases h;exact .inl ⟨_,_,rfl,rfl,rfl⟩)|exact .inr ⟨_,_,rfl⟩|cases h
theorem aL.Mq {c x y:aL} {o:aX} (h:c.strip= .cond o x y):(∃lf a b,c= .cond lf a b/\lf=o/\a.strip=x/\b.strip=y)\/∃T b,c= .g_ T b:=by
 cases c<;>first|(cases h;exact .inl ⟨_,_,_,rfl,rfl,rfl,rfl⟩)|exact .inr ⟨_,_,rfl⟩|cases h
theorem aL.Mr {c x:aL} {i:Nat} (h:c.strip= .block i x):(∃a,c= .block i a/\a.strip=x)\/∃T b,c= .g_ T b:=by
 cases c<;>first|(cases h;exact .inl ⟨_,rfl,rfl⟩)|exact .inr ⟨_,_,rfl⟩|cases h
theorem aL.Ms {c x:aL} (h:c.strip= .loop x):(∃a,c= .loop a/\a.strip=x)\/∃T b,c= .g_ T b:=by
 cases c<;>first|(cases h;exact .inl ⟨_,rfl,rfl⟩)|exact .inr ⟨_,_,rfl⟩|cases h
def kW:Code->List (Array Oper)
 | .region _ ops _=>[ops]
 | .seq a b=>kW a++kW b
 | .cond _ a b=>kW a++kW b
 | .block _ b=>kW b
 | .loop b=>kW b
 |_=>[]
theorem Fj (a0:C.dm) {H:((Exit->ah->Prop)->ah->Prop)->aL->Prop} {R:List (Array Oper)}
  (j2:∀(c:Code) (T:(Exit->ah->Prop)->ah->Prop) (b:aL) (Q:Exit->ah->Prop) (s:ah) (a:Act) (w:World),(∀r∈kW c,r∈R)->H T b->eN n c=some b.strip->T Q s->Rel w0 F0 X n ρ s a w->c.wp C.P (l6 w0 F0 X n ρ Q) a w):
  ∀(c:Code) {dt:aL} {Q:Exit->ah->Prop} {s:ah} {a:Act} {w:World},(∀r∈kW c,r∈R)->eN n c=some dt.strip->dt.bare H->bc C dt Q s->Rel w0 F0 X n ρ s a w->c.wp C.P (l6 w0 F0 X n ρ Q) a w:=by
 intro c;induction c with
 |skip=>
  intro dt Q s a w dT aa f_ h aI;have iS:=aa;simp only[eN,Option.some.injEq]at aa;rcases aL.Mj aa.symm with rfl|⟨T,b,rfl⟩
  .exact wp_skip ⟨s,h,aI⟩
  .exact j2 _ T b Q s a w dT f_ (by simpa only[aL.strip]using iS) (h Q λ_ _ h=>h) aI
 |region id ops draw=>
  intro dt Q s a w dT aa f_ h aI;have iS:=aa;cases draw with
  |false=>
   simp only[eN]at aa;split at aa
   rotate_left
   .have ff:=(Option.some.injEq _ _▸aa).symm;rcases aL.Mm ff with rfl|⟨T,b,rfl⟩
    .exact h.elim
    .exact j2 _ T b Q s a w dT f_ (by simpa only[aL.strip]using iS) (h Q λ_ _ h=>h) aI
   rename_i Mt ud;simp only[Option.some.injEq]at aa;rcases aL.Mn aa.symm with⟨ros,k,rfl,rfl⟩|⟨T,b,rfl⟩
   rotate_left
   .exact j2 _ T b Q s a w dT f_ (by simpa only[aL.strip]using iS) (h Q λ_ _ h=>h) aI
   cases f_;exact L8 a0 ud (λax b7 az ai dn=>dn.dC ai) h aI
  |true=>
   simp only[eN]at aa;split at aa
   .rename_i U;simp only[Option.map_eq_some_iff]at aa;obtain⟨Mt,ud,aa⟩:=aa;rcases aL.Mo aa.symm with⟨ros,eE,k,rfl,rfl,rfl⟩|⟨T,b,rfl⟩
    rotate_left
    .exact j2 _ T b Q s a w dT f_ (by simpa only[aL.strip]using iS) (h Q λ_ _ h=>h) aI
    cases f_;refine wp_region_draw λt=>?_;rw[show Region.schedule (C.P.follows .mixedOrders) ops t=Region.linearise .any ops t by simp[Region.schedule,a0.mixed]];exact E1 a0 ud (λax b7 az ai dn=>dn.dC ai) _ s a _ (h _ (Me U t)) (aI.drawn _ (by first|exact le_succ _|exact le_add_right _ _|omega))
   .cases aa
 |seq x y Mu wC=>
  intro dt Q s a w dT aa f_ h aI;have iS:=aa;simp only[eN]at aa;split at aa
  .rename_i tM Mv an a2;simp only[Option.some.injEq]at aa;rcases aL.Mp aa.symm with⟨cf,jb,rfl,rfl,rfl⟩|⟨T,b,rfl⟩
   rotate_left
   .exact j2 _ T b Q s a w dT f_ (by simpa only[aL.strip]using iS) (h Q λ_ _ h=>h) aI
   refine wp_seq (wp_mono (Mu (λr aI=>dT r (List.mem_append.2 (.inl aI))) an f_.1 h aI) ?_);rintro e b7 az ⟨ax,bj,dn⟩;cases e with
   |normal=>
    obtain⟨ax,bj,dn⟩:=dn.dC bj;exact wC (λr aI=>dT r (List.mem_append.2 (.inr aI))) a2 f_.2 bj dn
   |_=>exact⟨ax,bj,dn⟩
  .cases aa
 |cond x y z wC Fk=>
  intro dt Q s a w dT aa f_ h aI;have iS:=aa;simp only[eN]at aa;split at aa
  .rename_i tM Mv sz an a2 bz;simp only[Option.some.injEq]at aa;rcases aL.Mq aa.symm with⟨cf,jb,nf,rfl,rfl,rfl,rfl⟩|⟨T,b,rfl⟩
   rotate_left
   .exact j2 _ T b Q s a w dT f_ (by simpa only[aL.strip]using iS) (h Q λ_ _ h=>h) aI
   have dn:=aI;obtain⟨af,cK,bk,F,S,j1⟩:=dn;have aD:=(dU (a:=a) j1 (λ_=>rfl) an).2;simp only[bc]at h;split at h
   .rename_i eh U;rw[U]at aD;have:=o_ aD;refine wp_cond this ?_;split
    .rename_i e;rw[if_pos e]at h;exact wC (λr aI=>dT r (List.mem_append.2 (.inl aI))) a2 f_.1 h aI
    .rename_i e;rw[if_neg e]at h;exact Fk (λr aI=>dT r (List.mem_append.2 (.inr aI))) bz f_.2 h aI
   .rename_i U;rw[U]at aD;obtain⟨eh,kk⟩:=DG aD;refine wp_cond kk ?_;split
    .exact wC (λr aI=>dT r (List.mem_append.2 (.inl aI))) a2 f_.1 h.1 aI
    .exact Fk (λr aI=>dT r (List.mem_append.2 (.inr aI))) bz f_.2 h.2 aI
   .exact h.elim
  .cases aa
 |block id b ih=>
  intro dt Q s a w dT aa f_ h aI;have iS:=aa;simp only[eN,Option.map_eq_some_iff]at aa;obtain⟨vX,U,aa⟩:=aa;rcases aL.Mr aa.symm with⟨eh,rfl,rfl⟩|⟨T,b,rfl⟩
  rotate_left
  .exact j2 _ T b Q s a w dT f_ (by simpa only[aL.strip]using iS) (h Q λ_ _ h=>h) aI
  refine wp_block (wp_mono (ih dT U f_ h aI) ?_);rintro e b7 az ⟨ax,bj,dn⟩;cases e with
  |exit i=>
   simp only[rX]at bj;simp only[Exit.inBlock];split
   .rename_i e;rw[if_pos e]at bj;exact⟨ax,bj,dn⟩
   .rename_i e;rw[if_neg e]at bj;exact⟨ax,bj,dn⟩
  |_=>exact⟨ax,bj,dn⟩
 |loop b ih=>
  intro dt Q s a w dT aa f_ h aI;have iS:=aa;simp only[eN,Option.map_eq_some_iff]at aa;obtain⟨vX,U,aa⟩:=aa;rcases aL.Ms aa.symm with⟨eh,rfl,rfl⟩|⟨T,b,rfl⟩
  rotate_left
  .exact j2 _ T b Q s a w dT f_ (by simpa only[aL.strip]using iS) (h Q λ_ _ h=>h) aI
  obtain⟨s,h,aI⟩:=aI.dC h;have key:=h (λs=>∀a w,Rel w0 F0 X n ρ s a w->∀(f:Frame) (k:List Item) (cs:List Frame),∃e b7 az,l6 w0 F0 X n ρ Q e b7 az/\Arrives C.P (lone (f.at a (.code b:: .inLoop b::k)) cs w) f k cs e b7 az) ?_
  .intro f k cs;obtain⟨e,b7,az,cx,pr⟩:=key a w aI f k cs;exact⟨e,b7,az,cx,.of_steps (.one step_loop) pr⟩
  .intro ax ff a w aI f k cs;obtain⟨e,a₁,w₁,⟨s1,cx,nz⟩,pr⟩:=ih dT U f_ ff aI f (.inLoop b::k) cs;cases e with
   |normal=>
    simp only[andThen]at cx;obtain⟨s1,cx,nz⟩:=nz.dC cx;obtain⟨e₂,a₂,w₂,hq₂,harr₂⟩:=cx a₁ w₁ nz f k cs;exact⟨e₂,a₂,w₂,hq₂,.of_steps (Steps.trans pr (.one step_inLoop)) harr₂⟩
   |exit id=>exact⟨_,a₁,w₁,⟨s1,cx,nz⟩,.pass (x:=.inLoop b) rfl (λ_ _=>.inl (by simp)) pr⟩
   |goto l=>exact⟨_,a₁,w₁,⟨s1,cx,nz⟩,.pass (x:=.inLoop b) rfl (λ_ _=>.inl (by simp)) pr⟩
   |ret=>exact⟨_,a₁,w₁,⟨s1,cx,nz⟩,.pass (x:=.inLoop b) rfl (λ_ _=>.inl (by simp)) pr⟩
   |panic Wg=>exact⟨_,a₁,w₁,⟨s1,cx,nz⟩,.pass (x:=.inLoop b) rfl (λ_ _=>.inl (by simp)) pr⟩
   |outgrown=>exact⟨_,a₁,w₁,⟨s1,cx,nz⟩,.pass (x:=.inLoop b) rfl (λ_ _=>.inl (by simp)) pr⟩
 |exit id=>
  intro dt Q s a w dT aa f_ h aI;have iS:=aa;simp only[eN,Option.some.injEq]at aa;rcases aL.Ml aa.symm with rfl|⟨T,b,rfl⟩
  .exact wp_exit ⟨s,h,aI⟩
  .exact j2 _ T b Q s a w dT f_ (by simpa only[aL.strip]using iS) (h Q λ_ _ h=>h) aI
 |ret=>
  intro dt Q s a w dT aa f_ h aI;have iS:=aa;simp only[eN,Option.some.injEq]at aa;rcases aL.Mk aa.symm with rfl|⟨T,b,rfl⟩
  .exact wp_ret ⟨s,h,aI⟩
  .exact j2 _ T b Q s a w dT f_ (by simpa only[aL.strip]using iS) (h Q λ_ _ h=>h) aI
 |_=>intro dt Q s a w dT aa;simp[eN]at aa
theorem Fl (a0:C.dm) {H:((Exit->ah->Prop)->ah->Prop)->aL->Prop}
  (j2:∀(c:Code) (T:(Exit->ah->Prop)->ah->Prop) (b:aL) (Q:Exit->ah->Prop) (s:ah) (a:Act) (w:World),H T b->eN n c=some b.strip->T Q s->Rel w0 F0 X n ρ s a w->c.wp C.P (l6 w0 F0 X n ρ Q) a w):
  ∀(c:Code) {dt:aL} {Q:Exit->ah->Prop} {s:ah} {a:Act} {w:World},eN n c=some dt.strip->dt.bare H->bc C dt Q s->Rel w0 F0 X n ρ s a w->c.wp C.P (l6 w0 F0 X n ρ Q) a w:=
 λc _ _ _ _ _ aa U h aI=>Fj a0 (λc T b Q s a w _ gx aa h aI=>j2 c T b Q s a w gx aa h aI) c (λ_ aI=>aI) aa U h aI
theorem Mw (a0:C.dm) (c:Code) {dt:aL} {Q:Exit->ah->Prop} {s:ah} {a:Act} {w:World} (aa:eN n c=some dt.strip) (U:dt.bare (λ_ _=>False)) (h:bc C dt Q s) (aI:Rel w0 F0 X n ρ s a w):c.wp C.P (l6 w0 F0 X n ρ Q) a w:=
 Fl a0 (λ_ _ _ _ _ _ _ bk=>bk.elim) c aa U h aI
end
def hE:ResultVar->Nat
 | .tmp t=>t
 | .cell a _=>a
def mN (C:bA) (s:ah):ResultVar->Option I
 | .tmp t=>if(s t).tree=true then(match s t with| .tuple _=>none|d=>some d)else none
 | .cell a T=>match s a with
   | .bh d=>if fits C T d=true/\d.tree=true then some d else none
   |_=>none
def Ab (C:bA) (fx:Xt) (dr:List ResultVar) (r:I) (outs:Xy) (s:ah):Prop:=
 ∃ds,dr.map (mN C s)=ds.map some/\r=(match ds with|[d]=>d|ds=>.tuple ds)/\(dr.map hE).Nodup/\
  ∀(i:Nat) (o:I),outs[i]? =some o->o= .hole\/(o=s i/\o.eW=true/\i∈fx/\i∉dr.map hE)
def Ends (C:bA) (fx:Xt) (dr:List ResultVar) (r:I) (outs:Xy) (s:ah):Prop:=
 Ab C fx dr r outs s\/∃t y q d s1,s t= .h y q/\b9 s (.h y q)=some (d,s1)/\Ab C fx dr r outs (fin s1 (some t) d)
theorem bg.takes {w0 w:World} {F0 X F:Nat->Prop} {S:Nat->Nat->Prop} {s s1:ah} {aq:Nat->Value} {t y:Nat} {q:Xt} {d:I} (aI:bg w0 F0 X F S s aq w) (ab:s t= .h y q) (ad:b9 s (.h y q)=some (d,s1)):
  ∃aF,bg w0 F0 X F aF (cM.fin s1 (some t) d) aq w:=by
 have aa:=aI.cE t;rw[ab,aA]at aa;obtain⟨S1,k0,bM,b1,Sn,cZ,cF,dL,dj,hk,_⟩:=mw aI (av:=.h y q) (v:=aq t) rfl (by rw[aA];exact aa) ad;obtain⟨aF,bj⟩:=k0.fin (.inr ⟨bM,b1,Sn,cZ,cF,dL,dj,hk⟩) (some t);refine⟨aF,?_⟩;have e:jd aq (some t) (aq t)=aq:=by
  funext u;simp only[jd,cl];split
  .rename_i h;rw[h]
  .rfl
 rwa [e]at bj
section
variable {C:bA} {w0 w:World} {F0 X F:Nat->Prop} {S:Nat->Nat->Prop} {s:ah} {tmps:Array Value}
theorem Fm {d:I} {x:Value} (af:∀vs,d≠.tuple vs) (h:cO d x):bL x=gk x/\gN d x:=by
 have:gN d x:=by cases d<;>first|exact h|exact(af _ rfl).elim
 refine⟨?_,this⟩;cases d<;>first
  |(obtain⟨a,rfl⟩:=this;rfl)
  |(simp only[gN]at this
    rw[eV this];cases x<;>first|rfl|(simp[Value.eZ]at this))
def ue (tmps:Array Value):ResultVar->Sem Value
 | .tmp t=>pure (tmps.getD t undef)
 | .cell a t=>do loadVar t (<-asAddr (tmps.getD a undef))
theorem Mx (a0:C.dm) (h:bg w0 F0 X F S s (λt=>tmps.getD t undef) w) {v:ResultVar} {d:I} (aD:mN C s v=some d):
  ∃x,(ue tmps v).run C.P w= .ok x w/\d.tree=true/\(∀vs,d≠.tuple vs)/\cO d x/\al w F d (bL x) (S (hE v)):=by
 cases v with
 |tmp t=>
  simp only[mN]at aD;split at aD
  .rename_i aN;have kR:(∀vs,s t≠.tuple vs)/\d=s t:=by
    cases aa:s t<;>rw[aa]at aD<;>simp only at aD<;>first
     |(cases aD;done)
     |(simp only[Option.some.injEq]at aD;exact⟨(λ_ h=>by cases h),aD.symm⟩)
   obtain⟨kR,rfl⟩:=kR;obtain⟨aO,a3⟩:=(aA.bY aN).1 (h.cE t);exact⟨_,by simp[ue],aN,kR,aO,a3⟩
  .cases aD
 |cell a T=>
  simp only[mN]at aD;split at aD
  .rename_i e aa;split at aD
   .rename_i My;obtain⟨gz,wD⟩:=My;simp only[Option.some.injEq]at aD;subst aD;have g9:=h.cE a;rw[aa]at g9;obtain⟨aO,a3⟩:=(aA.bY (d:=.bh e) rfl).1 g9;rw[eV aO,al]at a3;obtain⟨b,cur,ty,fr,aF,bM,b1,cZ,cF,dL,dj,hk⟩:=a3;simp only[List.cons.injEq,and_true]at bM;have h9:gi w b 0 cur.toList:=by
     have:=rv cZ cur.size
     rwa [List.take_of_length_le (by simp)]at this
    obtain⟨x,dx,br,e5⟩:=vL (C:=C) a0 h9 dL gz;refine⟨x,?_,wD,?_,e5,?_⟩
    .simp only[ue];rw[bM];simpa [asAddr]using dx
    .intro vs e_;subst e_;unfold fits at gz;split at gz<;>simp_all
    .rw[br];exact al.mono (λ_ h=>h) _ _ _ _ dj dL
   .cases aD
  .cases aD
theorem Mz (a0:C.dm) (h:bg w0 F0 X F S s (λt=>tmps.getD t undef) w):∀(dr:List ResultVar) (ds:Xy),dr.map (mN C s)=ds.map some->(dr.map hE).Nodup->
  ∃xs,(dr.mapM (ue tmps)).run C.P w= .ok xs w/\xs.length=ds.length/\aQ w F ds (xs.flatMap gk) (λb=>∃t∈dr.map hE,S t b)/\
   ∀(k:Nat) (d:I) (x:Value),ds[k]? =some d->xs[k]? =some x->cO d x/\(∀vs,d≠.tuple vs)/\(gk x).length=d.wd/\bL x=gk x/\d.tree=true:=by
 intro dr;induction dr with
 |nil=>
  intro ds he _;have:ds=[]:=by simpa using he.symm
  subst this;exact⟨[],by simp,rfl,by simp only[List.flatMap_nil];rw[aQ],λk d x af=>by simp at af⟩
 |cons v dr ih=>
  intro ds he rZ;cases ds with
  |nil=>simp at he
  |cons d ds=>
   simp only[List.map_cons,List.cons.injEq]at he;simp only[List.map_cons,List.nodup_cons]at rZ;obtain⟨x,dx,rt,br,e5,bV⟩:=Mx a0 h he.1;obtain⟨xs,gX,fv,fZ,gA⟩:=ih ds he.2 rZ.2;obtain⟨aM,aS⟩:=Fm br e5;refine⟨x::xs,by simp[List.mapM_cons,dx,gX],by simp[fv],?_,?_⟩
   .simp only[List.flatMap_cons];rw[aQ];rw[aM]at bV;refine⟨gk x,xs.flatMap gk,S (hE v),λb=>∃t∈dr.map hE,S t b,rfl,bV,fZ,λb U=>⟨hE v,by simp,U⟩,?_,?_⟩
    .rintro b ⟨t,aN,U⟩;exact⟨t,by simp[aN],U⟩
    .rintro b U ⟨t,aN,kk⟩;have:t≠hE v:=λe=>rZ.1 (e▸aN);exact h.ej t (hE v) b this kk U
   .intro k a7 cf af an;cases k with
    |zero=>
     simp at af an;subst af an;refine⟨e5,br,?_,aM,rt⟩;rw[<-aM];exact al.length _ _ _ bV
    |succ k=>exact gA k a7 cf (by simpa using af) (by simpa using an)
theorem Ac (a0:C.dm) {f:FuncId} {fn:Func} {c:Code} {fx:Xt} {as outs:Xy} {r:I} (bk:C.P.funcs[f]? =some fn) (U:fn.body=some c)
  (jF:(fn.name== "runtime.NumGoroutine")=false) (aU:as.length<=fn.ntmps)
  {w:World} {F X:Nat->Prop} {S:Nat->Nat->Prop} {vs:Xw} (hl:vs.length=as.length) (aI:bg w F X F S (ez as) (fA vs) w)
  (Ad:∀a,Rel w F X ⟨fn.ntmps,fx⟩ (fA vs) (ez as) a w->(∀t,a.tmps.getD t undef=fA vs t)->c.wp C.P (l6 w F X ⟨fn.ntmps,fx⟩ (fA vs) (λe s=>(e= .normal\/e= .ret)/\dC (Ends C fx fn.results.toList r outs) s)) a w):
  kT C.P f vs.toArray w λv az=>∃bo aF,bg w F X bo aF (ez (r::outs)) (fA (v::vs)) az:=by
 have kQ:(vs.toArray++Array.replicate (fn.ntmps-vs.toArray.size) undef).size=fn.ntmps:=by simp;omega
 have cX:(λt=>(vs.toArray++Array.replicate (fn.ntmps-vs.toArray.size) undef).getD t undef)=fA vs:=by
  funext t;simp only[fA,Array.getD_eq_getD_getElem?,List.getD_eq_getElem?_getD];by_cases aN:t<vs.length
  .rw[Array.getElem?_append_left (by simpa using aN)];simp
  .rw[Array.getElem?_append_right (by simpa using aN)];rw[List.getElem?_eq_none (by omega)];simp only[Array.getElem?_replicate];split<;>rfl
 have j1:Rel w F X ⟨fn.ntmps,fx⟩ (fA vs) (ez as) {tmps:=vs.toArray++Array.replicate (fn.ntmps-vs.toArray.size) undef,defers:=[]} w:=
  ⟨rfl,kQ,λi _=>congrFun cX i,F,S,by rw[cX];exact aI⟩
 have Ae:fn.name≠ "runtime.NumGoroutine" :=by simpa using jF
 refine .inl ⟨by simp[callFunc,bk,Ae,U],calls_of_wp bk U (wp_mono (Ad _ j1 (congrFun cX)) ?_)⟩;rintro e b7 az ⟨ax,⟨he,MA⟩,MB⟩;obtain⟨ax,⟨ds,hL,Fo,rZ,p6⟩,af,cK,g0,bo,aF,dn⟩:∃ax,Ab C fx fn.results.toList r outs ax/\Rel w F X ⟨fn.ntmps,fx⟩ (fA vs) ax b7 az:=by
  obtain⟨ax,he,Fp⟩:=MB.dC MA;rcases he with he|⟨t,y,q,d,s1,ab,ad,he⟩
  .exact⟨ax,he,Fp⟩
  .obtain⟨aO,a3,bJ,F,S,cN⟩:=Fp;obtain⟨aF,dD⟩:=cN.takes ab ad;exact⟨_,he,aO,a3,bJ,F,aF,dD⟩
 obtain⟨xs,gX,fv,fZ,gA⟩:=Mz a0 dn _ ds hL rZ;have MC:(results fn b7.tmps)=(do let vs<-fn.results.mapM (ue b7.tmps);pure (if h:vs.size=1 then vs[0]else .tuple vs)):=by
  unfold results;congr 1
 have n8:(results fn b7.tmps).run C.P az= .ok (if h:xs.toArray.size=1 then xs.toArray[0]else .tuple xs.toArray) az:=by
  rw[MC,Array.mapM_eq_mapM_toList];simp[gX]
 have ov:(r.tree=true/\cO r (if h:xs.toArray.size=1 then xs.toArray[0]else .tuple xs.toArray)/\
   al az bo r (bL (if h:xs.toArray.size=1 then xs.toArray[0]else .tuple xs.toArray)) (λb=>∃t∈fn.results.toList.map hE,aF t b)):=by
  by_cases ab:∃d,ds=[d]
  .obtain⟨d,rfl⟩:=ab;obtain⟨x,rfl⟩:∃x,xs=[x]:=by
    cases xs with
    |nil=>simp at fv
    |cons x xs=>cases xs with
     |nil=>exact⟨x,rfl⟩
     |cons y bT=>simp at fv
   obtain⟨bM,b1,cZ,cF,dL⟩:=gA 0 d x rfl rfl;have MD:d=r:=Fo.symm;subst MD;simp only[List.flatMap_cons,List.flatMap_nil,List.append_nil]at fZ;rw[aQ]at fZ;obtain⟨bx,bE,S1,S2,aM,aS,aV,bK,cn,bB⟩:=fZ;rw[aQ]at aV;subst aV;simp only[List.append_nil]at aM;subst aM;have an:(if h:([x]:Xw).toArray.size=1 then([x]:Xw).toArray[0]else .tuple ([x]:Xw).toArray)=x:=by simp
   rw[an,cF];exact⟨dL,bM,al.mono (λ_ h=>h) _ _ _ _ bK aS⟩
  .have wE:r= .tuple ds:=by
    rw[Fo];cases ds with
    |nil=>rfl
    |cons d ds=>cases ds with
     |nil=>exact(ab ⟨d,rfl⟩).elim
     |cons e ds=>rfl
   have an:(if h:xs.toArray.size=1 then xs.toArray[0]else Value.tuple xs.toArray)= .tuple xs.toArray:=by
    rw[dif_neg];intro cK;have:ds.length=1:=by rw[<-fv];simpa using cK
    obtain⟨d,af⟩:=List.length_eq_one_iff.1 this;exact ab ⟨d,af⟩
   rw[an,wE];refine⟨rfl,⟨xs.toArray,rfl,by simpa using fv,λk d x af an=>?_⟩,?_⟩
   .obtain⟨bM,b1,cZ,cF,_⟩:=gA k d x af (by simpa using an);exact⟨(Fm b1 bM).2,b1,cZ⟩
   .rw[al];simpa [bL]using fZ
 have post:∀(v:Value),(r.tree=true/\cO r v/\al az bo r (bL v) (λb=>∃t∈fn.results.toList.map hE,aF t b))->∃qv S1,bg w F X qv S1 (ez (r::outs)) (fA (v::vs)) az:=by
  rintro v ⟨v1,v2,ME⟩;have Af:∀i,(outs.getD i .hole).eW=true->outs.getD i .hole=ax i/\i∈fx/\i∉fn.results.toList.map hE:=by
   intro i aE;cases bG:outs[i]? with
   |none=>simp[List.getD,bG,I.eW]at aE
   |some o=>
    have e:outs.getD i .hole=o:=by simp[List.getD,bG]
    rw[e]at aE⊢;rcases p6 i o bG with h|h
    .subst h;simp[I.eW]at aE
    .exact⟨h.1,h.2.2⟩
  refine⟨bo,λt b=>match t with|0=>∃t∈fn.results.toList.map hE,aF t b|i+1=>(outs.getD i .hole).eW=true/\aF i b,dn.fN,dn.gm,dn.eu,?_,?_,?_,?_,?_,dn.old,dn.size,dn.os,dn.tape,dn.output,aI.gn⟩
  .intro t b U;cases t with
   |zero=>obtain⟨t,_,U⟩:=U;exact dn.dA t b U
   |succ i=>exact dn.dA i b U.2
  .intro t b U;cases t with
   |zero=>obtain⟨t,_,U⟩:=U;exact dn.eH t b U
   |succ i=>exact dn.eH i b U.2
  .intro t u b c4 U hu;cases t with
   |zero=>
    obtain⟨t,aN,U⟩:=U;cases u with
    |zero=>exact c4 rfl
    |succ j=>
     refine dn.ej t j b (λe=>?_) U hu.2;subst e;exact(Af t hu.1).2.2 aN
   |succ i=>
    cases u with
    |zero=>
     obtain⟨t,aN,hu⟩:=hu;refine dn.ej t i b (λe=>?_) hu U.2;subst e;exact(Af t U.1).2.2 aN
    |succ j=>exact dn.ej i j b (by omega) U.2 hu.2
  .intro t b U;cases t with
   |zero=>obtain⟨t,_,U⟩:=U;exact dn.cW t b U
   |succ i=>exact dn.cW i b U.2
  .intro t;cases t with
   |zero=>exact(aA.bY v1).2 ⟨v2,ME⟩
   |succ i=>
    show aA az bo (ez (r::outs)) (fA (v::vs)) (outs.getD i .hole) (vs.getD i undef) (λb=>(outs.getD i .hole).eW=true/\aF i b);cases aE:(outs.getD i .hole).eW with
    |false=>
     have:outs.getD i .hole= .hole:=by
      cases bG:outs[i]? with
      |none=>simp[List.getD,bG]
      |some o=>
       have e:outs.getD i .hole=o:=by simp[List.getD,bG]
       rw[e]at aE⊢;rcases p6 i o bG with h|h
       .exact h
       .rw[h.2.1]at aE;cases aE
     rw[this,aA];trivial
    |true=>
     obtain⟨jA,hM,kS⟩:=Af i aE;have aN:=(ot aE).2.1;have g9:=dn.cE i;rw[<-jA]at g9;obtain⟨aO,a3⟩:=(aA.bY aN).1 g9;have aD:b7.tmps.getD i undef=vs.getD i undef:=g0 i hM;rw[aD]at aO a3;exact(aA.bY aN).2 ⟨aO,al.mono (λ_ h=>h) _ _ _ _ (λb U=>⟨rfl,U⟩) a3⟩
 rcases he with rfl|rfl
 .exact⟨af,_,n8,_,rfl,post _ ov⟩
 .exact⟨af,_,n8,_,rfl,post _ ov⟩
theorem bb.of_wp (a0:C.dm) {f:FuncId} {fn:Func} {c:Code} {dt:aL} {fx:Xt} {as outs:Xy} {r:I} (bk:C.P.funcs[f]? =some fn) (U:fn.body=some c)
  (jF:(fn.name== "runtime.NumGoroutine")=false) (aa:eN ⟨fn.ntmps,fx⟩ c=some dt.strip) (aU:as.length<=fn.ntmps)
  (h:bc C dt (λe s=>(e= .normal\/e= .ret)/\dC (Ends C fx fn.results.toList r outs) s) (ez as)) (ao:dt.plain=true:=by kernel_rfl):bb C f as r outs:=
 λw F X S vs hl aI=>Ac a0 bk U jF aU hl aI λa j1 _=>Mw a0 c (by rw[aL.z7];exact aa) (aL.z8 dt (aL.Mh dt ao)) (Aa dt h) j1
end
def num:Nat->Xy->Xx
 |_,[]=>[]
 |k,a::as=>(k,a)::num (k+1) as
theorem MF:∀(as:Xy) (k t:Nat),au (num k as) (k+t)=as.getD t .hole:=by
 intro as;induction as with
 |nil=>intro k t;simp[num,au]
 |cons a as ih=>
  intro k t;cases t with
  |zero=>simp[num,au]
  |succ t=>
   have:=ih (k+1) t;simp only[num,au];rw[if_neg (by omega)];rw[show k+(t+1)=k+1+t by omega,this];simp
theorem wF (as:Xy):ez as=au (num 0 as):=by
 funext t;have:=MF as 0 t;rw[Nat.zero_add]at this;rw[this];rfl
theorem uf (l:Xx) (t:Nat) (d:I):cl (au l) t d=au ((t,d)::l):=by
 funext u;simp only[cl,au]
def ow (t:Nat):Xx->Xx
 |[]=>[]
 |(u,d)::l=>(u,b8 t d)::ow t l
def qB (t:Nat):Xx->Xx
 |[]=>[]
 |(u,d)::l=>(u,bH t d)::qB t l
theorem Ag (t:Nat):∀l:Xx,jR t (au l)=au (ow t l):=by
 intro l;funext u;induction l with
 |nil=>rfl
 |cons p l ih=>
  obtain⟨v,d⟩:=p;simp only[jR,au,ow]at ih⊢;split
  .rfl
  .exact ih
theorem MG (t:Nat):∀l:Xx,ft t (au l)=au (qB t l):=by
 intro l;funext u;induction l with
 |nil=>rfl
 |cons p l ih=>
  obtain⟨v,d⟩:=p;simp only[ft,au,qB]at ih⊢;split
  .rfl
  .exact ih
def fB (k:Xt) (s:ah):Xx:=k.map λt=>(t,s t)
section
variable {C:bA} {l:Xx}
def cU.gG:cU->Bool
 | .call _ _=>true
 | .fc _=>false
 | .ko _=>false
 | .pick _ _ _=>false
 | .kL _=>false
 | .g6 _ _=>false
 | .fw _ _=>false
 | .ek _ _ _=>false
 | .ew _ _=>false
 | .iC _ _ _=>false
 | .hC _=>false
 | .dE _ _ _ _=>false
 | .un _ _=>false
 | .hi _ _ _=>false
 | .om _ _=>false
 | .dB _ _ _=>false
 | .eb _ _ _ _=>false
 | .gO _ _ _=>false
 | .h_ _ _ _=>false
 | .idx _ _ _=>false
 | .ex _ _=>false
 | .km _ _ _=>false
 | .len _ _=>false
 | .app _ _ _ _=>false
 | .shr _=>true
 | .hJ _ _ _ _=>false
 | .cap _ _=>false
 | .nr _ _ _=>false
 | .bad=>false
 | .jy _ _ _=>true
 | .h0 _ _=>false
 | .tP=>false
 | .lV _ _ _=>false
 | .kO _ _ _ _=>false
variable {Q:Exit->ah->Prop}
def I.ug:I->Bool
 | .tuple _=>true
 |_=>false
theorem Ends.one {fx:Xt} {t:Nat} {r:I} {s:ah} (ab:s t=r) (ad:(r.tree&& !r.ug)=true):Ends C fx [.tmp t] r [] s:=by
 simp only[Bool.and_eq_true,Bool.not_eq_true']at ad;obtain⟨ad,wG⟩:=ad;have aB:∀vs,r≠.tuple vs:=λvs e=>by subst e;simp[I.ug]at wG
 refine .inl ⟨[r],?_,rfl,by simp,λi o h=>by simp at h⟩;have:mN C s (.tmp t)=some r:=by
  simp only[mN,ab,ad,if_true];try (cases r<;>first|rfl|exact(aB _ rfl).elim)
 simp only[List.map_cons,List.map_nil,this]
end
section
variable {C:bA} {l:Xx} {Q:Exit->ah->Prop}
theorem bb.outs {f:FuncId} {as:Xy} {r:I} {jA hM:Xy} (h:bb C f as r jA) (he:ez jA=ez hM):bb C f as r hM:=by
 intro w F X S vs hl aI;refine kT.mono (h w F X S vs hl aI) ?_;rintro v az ⟨bo,aF,bj⟩;refine⟨bo,aF,?_⟩;have:ez (r::hM)=ez (r::jA):=by
  funext t;cases t with
  |zero=>rfl
  |succ t=>exact(congrFun he t).symm
 rw[this];exact bj
def kr:Xy->Xy->List bZ
 |a::as,d::ds=>⟨a,false,d,.hole⟩::kr as ds
 |_,_=>[]
theorem MH {s:ah}:∀(as ds:Xy),views s as=some ds->(kr as ds).map (·.a)=as/\(kr as ds).map (·.d)=ds/\(∀p∈kr as ds,p.ok s/\p.g=false/\p.o= .hole/\p.a∈as)/\gR (kr as ds)=true/\
  ez ((kr as ds).map (·.o))=ez []/\(∀ox,dH ox (kr as ds)=ox)/\(∀ox,fP ox (kr as ds)=ox):=by
 intro as;induction as with
 |nil=>
  intro ds h;simp only[views,Option.some.injEq]at h;subst h;exact⟨rfl,rfl,(λp ao=>by cases ao),rfl,rfl,λ_=>rfl,λ_=>rfl⟩
 |cons a as ih=>
  intro ds h;simp only[views]at h;split at h
  .rename_i d MI ab ad;simp only[Option.some.injEq]at h;subst h;obtain⟨aM,aS,aV,bK,cn,bB,bt⟩:=ih MI ad;refine⟨by simp only[kr,List.map_cons,aM],by simp only[kr,List.map_cons,aS],?_,?_,?_,?_,?_⟩
   .intro p ao;simp only[kr,List.mem_cons]at ao;rcases ao with rfl|ao
    .exact⟨by simp only[bZ.ok];exact ab,rfl,rfl,by simp⟩
    .obtain⟨aO,a3,bJ,cN⟩:=aV p ao;exact⟨aO,a3,bJ,by simp[cN]⟩
   .simp only[kr,gR,bK,Bool.and_true,List.all_eq_true];intro p ao;simp[(aV p ao).2.1]
   .funext t;cases t with
    |zero=>rfl
    |succ t=>exact(congrFun cn t).trans (by simp[ez])
   .intro ox;exact bB ox
   .intro ox;exact bt ox
  .cases h
end
structure ee where
 bC:Xt
 H:Xt
 T:Xt
 c:Bool
mutual
def I.clean:I->Bool
 | .hole=>false
 | .fn _ cap=>I.r0 cap
 |_=>true
def I.r0:Xy->Bool
 |[]=>true
 |d::ds=>d.clean&&I.r0 ds
end
mutual
theorem Fq {x:Nat}:∀a:I,(bH x a).clean=true->bH x a=a
 | .h y q,h=>by
   simp only[bH]at h⊢;split
   .rename_i e;rw[if_pos e]at h;split
    .rfl
    .rename_i e_;rw[if_neg e_]at h;simp[I.clean]at h
   .rfl
 | .ao y q,h=>by
   simp only[bH]at h⊢;split
   .rename_i e;rw[if_pos e]at h;simp[I.clean]at h
   .rfl
 | .U y q,h=>rfl
 | .fn f cap,h=>by simp only[bH,I.clean]at h⊢;rw[Fs cap h]
 | .hole,_=>rfl
 | .bool _,_=>rfl
 | .dR,_=>rfl
 | .int _ _,_=>rfl
 | .str _,_=>rfl
 | .cJ,_=>rfl
 | .a5,_=>rfl
 | .slice _,_=>rfl
 | .aw _ _,_=>rfl
 | .ref _,_=>rfl
 | .bh _,_=>rfl
 | .agg _,_=>rfl
 | .tuple _,_=>rfl
 | .cS _,_=>rfl
 | .er _ _,_=>rfl
theorem Fs {x:Nat}:∀ds:Xy,I.r0 (g4 x ds)=true->g4 x ds=ds
 |[],_=>rfl
 |d::ds,h=>by
  simp only[g4,I.r0,Bool.and_eq_true]at h⊢;rw[Fq d h.1,Fs ds h.2]
end
mutual
theorem Ft {x:Nat}:∀a:I,(b8 x a).clean=true->b8 x a=a
 | .h y q,h=>by
   simp only[b8]at h⊢;split
   .rename_i e;rw[if_pos e]at h;simp[I.clean]at h
   .rfl
 | .ao y q,h=>by
   simp only[b8]at h⊢;split
   .rename_i e;rw[if_pos e]at h;simp[I.clean]at h
   .rfl
 | .U y q,h=>by
   simp only[b8]at h⊢;split
   .rename_i e;rw[if_pos e]at h;simp[I.clean]at h
   .rfl
 | .fn f cap,h=>by simp only[b8,I.clean]at h⊢;rw[Fu cap h]
 | .hole,_=>rfl
 | .bool _,_=>rfl
 | .dR,_=>rfl
 | .int _ _,_=>rfl
 | .str _,_=>rfl
 | .cJ,_=>rfl
 | .a5,_=>rfl
 | .slice _,_=>rfl
 | .aw _ _,_=>rfl
 | .ref _,_=>rfl
 | .bh _,_=>rfl
 | .agg _,_=>rfl
 | .tuple _,_=>rfl
 | .cS _,_=>rfl
 | .er _ _,_=>rfl
theorem Fu {x:Nat}:∀ds:Xy,I.r0 (hA x ds)=true->hA x ds=ds
 |[],_=>rfl
 |d::ds,h=>by
  simp only[hA,I.r0,Bool.and_eq_true]at h⊢;rw[Ft d h.1,Fu ds h.2]
end
theorem MJ {k:nt} {x:Nat} {a:I} (h:(k.app x a).clean=true):k.app x a=a:=by
 cases k with
 |no=>rfl
 |bH=>exact Fq a h
 |b8=>exact Ft a h
theorem MK:∀(ms:List fe) (u:Nat) (a:I),(∀m∈ms,m.x≠u)->(ic ms u a).clean=true->ic ms u a=a:=by
 intro ms;induction ms with
 |nil=>intros;rfl
 |cons m ms ih=>
  intro u a an aj;simp only[ic]at aj⊢;have e:=ih u _ (λib qC=>an ib (by simp[qC])) aj;have hm:m.at u a=m.k.app m.x a:=by
   simp only[fe.at];rw[if_neg (λe=>an m (by simp) e.symm)]
  rw[e,hm];rw[e,hm]at aj;exact MJ aj
theorem ML:∀(ms:List fe) (u:Nat) (a:I),(∀m∈ms,m.x≠u/\m.x∉a.aa)->ic ms u a=a:=by
 intro ms;induction ms with
 |nil=>intros;rfl
 |cons m ms ih=>
  intro u a an;simp only[ic];have hm:m.at u a=a:=by
   simp only[fe.at];rw[if_neg (λe=>(an m (by simp)).1 e.symm)];exact tS (.inr (an m (by simp)).2)
  rw[hm];exact ih u a λib qC=>an ib (by simp[qC])
theorem MM (m:fe):∀(ms:List fe) (u:Nat) (a:I),(∀ib∈ms,ib.x≠m.x/\ib.x∉m.d.aa/\m.x∉ib.d.aa)->ic ms u (m.at u a)=m.at u (ic ms u a):=by
 intro ms;induction ms with
 |nil=>intros;rfl
 |cons n ms ih=>
  intro u a an;simp only[ic];have aU:=an n (by simp);have aj:n.at u (m.at u a)=m.at u (n.at u a):=by
   simp only[fe.at];by_cases aM:u=n.x
   .subst aM;rw[if_pos rfl,if_neg aU.1,if_pos rfl];exact(tS (.inr aU.2.2)).symm
   .rw[if_neg aM];by_cases aS:u=m.x
    .subst aS;rw[if_pos rfl,if_pos rfl];exact tS (.inr aU.2.1)
    .rw[if_neg aS,if_neg aM,if_neg aS];exact Lc _ _ _ _ _
  rw[aj];exact ih u _ λib qC=>an ib (by simp[qC])
theorem MN:∀(ms jk:List fe) (s:ah),(∀m∈ms,∀n∈jk,n.x≠m.x/\n.x∉m.d.aa/\m.x∉n.d.aa)->cI jk (cI ms s)=cI ms (cI jk s):=by
 intro ms;induction ms with
 |nil=>intros;rfl
 |cons m ms ih=>
  intro jk s h;have e:∀s,cI (m::ms) s=cI ms (cI [m] s):=λs=>kp [m] ms s;rw[e,e,ih jk _ (λib qC=>h ib (by simp[qC]))];congr 1;funext u;simp only[cI,ic];exact MM m jk u _ (h m (by simp))
def Fv (C:bA) (s:ah) (f:aX) (args:List aX) (K:Xt->I->ah->Prop):Prop:=
 ∃(g:FuncId) (caps:Xy) (ps:List bZ) (r:I),a6 s f= .fn g caps/\I.dz caps=true/\ps.map (·.a)=args.map (a6 s)++caps/\(∀p∈ps,p.ok s)/\gR ps=true/\
   bb C g (ps.map (·.d)) r (ps.map (·.o))/\r.res=true/\(ie ps=true->r.cr=true/\∀p∈ps,p.o.cr=true)/\K (I.cV ((ps.filter (·.g)).map (·.a))) r (fP (dH s ps) ps)
def lh (C:bA) (s:ah) (a9:cU) (K:Xt->I->ah->Prop):Prop:=
 match a9 with
 | .call f args=>∃(g:FuncId) (caps:Xy) (ps:List bZ) (r:I),a6 s f= .fn g caps/\I.dz caps=true/\ps.map (·.a)=args.map (a6 s)++caps/\(∀p∈ps,p.ok s)/\gR ps=true/\
   bb C g (ps.map (·.d)) r (ps.map (·.o))/\r.res=true/\(ie ps=true->r.cr=true/\∀p∈ps,p.o.cr=true)/\K (I.cV ((ps.filter (·.g)).map (·.a))) r (fP (dH s ps) ps)
 | .shr a9=>∃av s1,bp C s a9=some (av,s1)/\av.tree=true/\(∀vs,av≠.tuple vs)/\K (kq s a9) av.share s1
 | .jy f args us=>jC s (hD s us)=true/\Fv C s f args λb9 av s1=>jC s1 (hD s us)=true/\K (us++b9) av (kU s1 (hD s us))
 |a9=>∃av s1,bp C s a9=some (av,s1)/\K (kq s a9) av s1
def hn (s:ah) (bC:Xt) (dst:Option Nat) (b9:Xt) (av:I):ee:=
 ⟨bC,bC.flatMap (λu=>(s u).aa)++av.aa,dst.toList++b9,bC.all λu=>(s u).clean⟩
def ks (C:bA) (s:ah) (o:bW) (K:ee->ah->Prop):Prop:=
 match o.guard with
 |none=>lh C s o.a9 λb9 av s1=>K (hn s (use s o.a9) o.dst b9 av) (fin s1 o.dst av)
 |some (t,b)=>match s t with
  | .bool eh=>if eh=b then lh C s o.a9 (λb9 av s1=>K (hn s (t::use s o.a9) o.dst b9 av) (fin s1 o.dst av))else K (hn s [t] o.dst [] (.tuple [])) (fin s o.dst (.tuple []))
  | .tuple []=>K (hn s [t] o.dst [] (.tuple [])) (fin s o.dst (.tuple []))
  |_=>False
def nA:Option (List ee)->ee->Option (List ee)
 |none,_=>none
 |some l,f=>some (f::l)
def cw (C:bA) (s:ah):List bW->Option (List ee)->(Option (List ee)->ah->Prop)->Prop
 |[],acc,K=>K acc s
 |o::os,acc,K=>ks C s o λf s1=>cw C s1 os (nA acc f) K
section
variable {C:bA}
theorem Fw {s:ah} {a9:cU} {K:Xt->I->ah->Prop} {cA:I->ah->Prop} (ai:∀b9 av s,K b9 av s->cA av s) (h:lh C s a9 K):l0 C s a9 cA:=by
 cases a9 with
 |call f args=>
  obtain⟨g,caps,ps,r,ab,fl,ad,aB,aY,bn,cb,cc,ea⟩:=h;exact⟨g,caps,ps,r,ab,fl,ad,aB,aY,bn,cb,cc,ai _ _ _ ea⟩
 |jy f args us=>
  obtain⟨b1,g,caps,ps,r,ab,fl,ad,aB,aY,bn,cb,cc,ea,hH⟩:=h;exact⟨b1,g,caps,ps,r,ab,fl,ad,aB,aY,bn,cb,cc,ea,ai _ _ _ hH⟩
 |shr a9=>
  obtain⟨av,s1,ab,ad,aB,aY⟩:=h;exact⟨av,s1,ab,ad,aB,ai _ _ _ aY⟩
 |_=>
  obtain⟨av,s1,ab,ad⟩:=h;exact⟨av,s1,ab,ai _ _ _ ad⟩
theorem MO {s:ah} {o:bW} {K:ee->ah->Prop} {cA:ah->Prop} (ai:∀f s,K f s->cA s) (h:ks C s o K):j0 C s o cA:=by
 unfold ks at h;unfold j0;split
 .rename_i bf;rw[bf]at h;exact Fw (λ_ _ _=>ai _ _) h
 .rename_i t b bf;rw[bf]at h;simp only at h;split
  .rename_i eh aa;rw[aa]at h;simp only at h;split
   .rename_i U;rw[if_pos U]at h;exact Fw (λ_ _ _=>ai _ _) h
   .rename_i U;rw[if_neg U]at h;exact ai _ _ h
  .rename_i aa;rw[aa]at h;exact ai _ _ h
  .rename_i ab ad;split at h
   .exact ab _ (by assumption)
   .exact ad (by assumption)
   .exact h
theorem uh {K:ah->Prop}:∀{ros:List bW} {s:ah} {acc:Option (List ee)} {cA:Option (List ee)->ah->Prop},(∀a s,cA a s->K s)->cw C s ros acc cA->jD C s ros K:=by
 intro ros;induction ros with
 |nil=>intro s acc cA ai h;exact ai _ _ h
 |cons o ros ih=>intro s acc cA ai h;exact MO (λf s h=>ih ai h) h
theorem Fx {q:Xt} {a d:I} (h:I.sub q a=some d) (cx:q≠[]\/d.aa=[]):a.aa=[]:=by
 cases q with
 |nil=>
  simp only[I.sub,Option.some.injEq]at h;subst h;exact cx.resolve_left (λe=>e rfl)
 |cons k q=>cases a<;>first|rfl|(simp[I.sub]at h)
def wH (s:ah) (p:bZ) (e:I->Prop):Prop:=p.g=true->∃x q d,p.a= .h x q/\I.sub q (s x)=some d/\e d/\(p.o= .hole\/p.o.eW=true)
theorem Fy {d:I} (h:d.eW=true):d.aa=[]:=zP (ot h).2.1
theorem Fz {d:I} (h:d.eW=true):d.cj.aa=[]:=by cases d<;>first|rfl|(simp[I.eW]at h)
theorem FA {p:bZ} {ps:List bZ} (h:gR (p::ps)=true):gR ps=true/\∀b0∈ps,(p.g=true\/b0.g=true)->∀u∈p.a.aa,u∉b0.a.aa:=by
 simp only[gR,Bool.and_eq_true,List.all_eq_true,Bool.or_eq_true,Bool.not_eq_true']at h;refine⟨h.2,λb0 c_ bf u hu=>?_⟩;rcases h.1 b0 c_ with e|e
 .rcases bf with bf|bf<;>simp[bf]at e
 .simpa using e u hu
def oy (ps:List bZ):Xt:=I.cV ((ps.filter (·.g)).map (·.a))
theorem r1 (p:bZ) (ps:List bZ):(∀u∈oy ps,u∈oy (p::ps))/\(p.g=true->∀u∈p.a.aa,u∈oy (p::ps)):=by
 unfold oy;by_cases bf:p.g=true
 .simp only[List.filter_cons,bf,if_true,List.map_cons,I.cV,List.mem_append];exact⟨λu h=>.inr h,λ_ u h=>.inl h⟩
 .simp only[List.filter_cons,bf];exact⟨λu h=>h,λh=>by simp at h⟩
theorem MP {p:bZ} {ps:List bZ} (h:p∈ps):∀u∈p.a.aa,u∈I.cV (ps.map (·.a)):=by
 induction ps with
 |nil=>cases h
 |cons b0 ps ih=>
  intro u hu;simp only[List.map_cons,I.cV,List.mem_append];rcases List.mem_cons.1 h with rfl|h
  .exact .inl hu
  .exact .inr (ih h u hu)
theorem MQ:∀(ps:List bZ) (s:ah),(∀p∈ps,wH s p (λd=>d=p.d/\p.d.eW=true))->gR ps=true->
  (∃ms:List fe,(∀m∈ms,m.x∈oy ps/\m.d.aa=[])/\∀ax,cG (I.cV (ps.map (·.a))) ax s->dH ax ps=cI ms ax)/\∀p∈ps,wH (dH s ps) p (λd=>d=p.d.cj/\p.d.eW=true):=by
 intro ps;induction ps with
 |nil=>intro s _ _;exact⟨⟨[],by simp,λax _=>rfl⟩,λp ao=>by cases ao⟩
 |cons p ps ih=>
  intro s bf iE;obtain⟨mI,lX⟩:=FA iE;by_cases kt:p.g=true
  .obtain⟨x,q,d,bQ,aa,⟨rfl,af⟩,bG⟩:=bf p (by simp) kt;have hW:(I.put q p.d.cj (s x)).aa=[]:=rR q _ _ _ aa (.inl (ot af).1) λ_=>Fz af;have ui:∀ax:ah,ax x=s x->p.take ax=cI [⟨.bH,x,I.put q p.d.cj (s x)⟩] ax:=by
    intro ax e;simp only[bZ.take,kt,if_true,bQ,e,qp]
   have c4:∀b0∈ps,∀cf hI,b0.a= .h cf hI->cf≠x:=by
    intro b0 c_ cf hI e e_;have:=lX b0 c_ (.inl kt) x (by simp[bQ,I.aa]);rw[e,e_]at this;simp[I.aa]at this
   have pk:∀cf,cf≠x->(s cf).aa=[]->cI [⟨.bH,x,I.put q p.d.cj (s x)⟩] s cf=s cf:=by
    intro cf lR ba;simp only[cI,ic,fe.at];rw[if_neg lR];exact tS (.inr (by rw[ba];simp))
   obtain⟨⟨ms,dZ,fj⟩,gQ⟩:=ih (cI [⟨.bH,x,I.put q p.d.cj (s x)⟩] s) (λb0 c_ Ah=>by
    obtain⟨cf,hI,a7,qu,ff,fG,uj⟩:=bf b0 (by simp[c_]) Ah;refine⟨cf,hI,a7,qu,?_,fG,uj⟩;rw[pk cf (c4 b0 c_ cf hI qu) (Fx ff (.inr (by rw[fG.1];exact Fy fG.2)))];exact ff) mI
   refine⟨⟨[⟨.bH,x,I.put q p.d.cj (s x)⟩]++ms,?_,?_⟩,?_⟩
   .intro m hm;rcases List.mem_append.1 hm with hm|hm
    .simp only[List.mem_singleton]at hm;subst hm;exact⟨(r1 p ps).2 kt x (by simp[bQ,I.aa]),hW⟩
    .exact⟨(r1 p ps).1 _ (dZ m hm).1,(dZ m hm).2⟩
   .intro ax ff;simp only[List.map_cons,I.cV]at ff;have e:ax x=s x:=ff x (by simp[bQ,I.aa]);rw[kp];show dH (p.take ax) ps=_;rw[ui ax e];exact fj _ (cG.cI ff.right _)
   .have aM:dH s (p::ps)=dH (cI [⟨.bH,x,I.put q p.d.cj (s x)⟩] s) ps:=by
     show dH (p.take s) ps=_;rw[ui s rfl]
    rw[aM];intro b0 c_;rcases List.mem_cons.1 c_ with rfl|c_
    .intro _;refine⟨x,q,b0.d.cj,bQ,?_,⟨rfl,af⟩,bG⟩;have aD:cI [⟨.bH,x,I.put q b0.d.cj (s x)⟩] s x=I.put q b0.d.cj (s x):=by
      simp only[cI,ic,fe.at,if_true]
     rw[zM (by rw[aD];exact hW) (λMR MS Wh=>?_),aD]
     .exact EH q _ _ _ aa
     .exact lX MR MS (.inl kt) x (by simp[bQ,I.aa])
    .exact gQ b0 c_
  .have ui:∀ax:ah,p.take ax=ax:=by intro ax;simp only[bZ.take,kt];rfl
   obtain⟨⟨ms,dZ,fj⟩,gQ⟩:=ih s (λb0 c_=>bf b0 (by simp[c_])) mI;refine⟨⟨ms,λm hm=>⟨(r1 p ps).1 _ (dZ m hm).1,(dZ m hm).2⟩,?_⟩,?_⟩
   .intro ax ff;simp only[List.map_cons,I.cV]at ff;show dH (p.take ax) ps=_;rw[ui];exact fj ax ff.right
   .intro b0 c_;have aM:dH s (p::ps)=dH s ps:=by show dH (p.take s) ps=_;rw[ui]
    rw[aM];rcases List.mem_cons.1 c_ with rfl|c_
    .intro h;exact(kt h).elim
    .exact gQ b0 c_
theorem MT:∀(ps:List bZ) (s:ah),(∀p∈ps,wH s p (λd=>d=p.d.cj/\p.d.eW=true))->gR ps=true->
  (∃ms:List fe,(∀m∈ms,m.x∈oy ps/\m.d.aa=[])/\∀ax,cG (I.cV (ps.map (·.a))) ax s->fP ax ps=cI ms ax):=by
 intro ps;induction ps with
 |nil=>intro s _ _;exact⟨[],by simp,λax _=>rfl⟩
 |cons p ps ih=>
  intro s bf iE;obtain⟨mI,lX⟩:=FA iE;by_cases kt:p.g=true/\p.o≠.hole
  .obtain⟨kt,MU⟩:=kt;obtain⟨x,q,d,bQ,aa,⟨rfl,af⟩,bG⟩:=bf p (by simp) kt;have bG:p.o.eW=true:=bG.resolve_left MU;have hW:(I.put q p.o (s x)).aa=[]:=by
    cases q with
    |nil=>simp only[I.put];exact Fy bG
    |cons k q=>exact rR _ _ _ _ aa (.inr (by simp)) (by simp)
   have Ai:∀ax:ah,ax x=s x->p.g8 ax=cI [⟨.b8,x,I.put q p.o (s x)⟩] ax:=by
    intro ax e;simp only[bZ.g8,kt,if_true,bQ];rw[e,Ep]
   have c4:∀b0∈ps,∀cf hI,b0.a= .h cf hI->cf≠x:=by
    intro b0 c_ cf hI e e_;have:=lX b0 c_ (.inl kt) x (by simp[bQ,I.aa]);rw[e,e_]at this;simp[I.aa]at this
   obtain⟨ms,dZ,fj⟩:=ih (cI [⟨.b8,x,I.put q p.o (s x)⟩] s) (λb0 c_ Ah=>by
    obtain⟨cf,hI,a7,qu,ff,fG,uj⟩:=bf b0 (by simp[c_]) Ah;refine⟨cf,hI,a7,qu,?_,fG,uj⟩;have ba:=Fx ff (.inr (by rw[fG.1];exact Fz fG.2));have pk:cI [⟨.b8,x,I.put q p.o (s x)⟩] s cf=s cf:=by
     simp only[cI,ic,fe.at];rw[if_neg (c4 b0 c_ cf hI qu)];exact tS (.inr (by rw[ba];simp))
    rw[pk];exact ff) mI
   refine⟨[⟨.b8,x,I.put q p.o (s x)⟩]++ms,?_,?_⟩
   .intro m hm;rcases List.mem_append.1 hm with hm|hm
    .simp only[List.mem_singleton]at hm;subst hm;exact⟨(r1 p ps).2 kt x (by simp[bQ,I.aa]),hW⟩
    .exact⟨(r1 p ps).1 _ (dZ m hm).1,(dZ m hm).2⟩
   .intro ax ff;simp only[List.map_cons,I.cV]at ff;have e:ax x=s x:=ff x (by simp[bQ,I.aa]);rw[kp];show fP (p.g8 ax) ps=_;rw[Ai ax e];exact fj _ (cG.cI ff.right _)
  .have Ai:∀ax:ah,p.g8 ax=ax:=by
    intro ax;unfold bZ.g8;split
    .rename_i ga;have:p.o= .hole:=by
      by_cases h:p.o= .hole
      .exact h
      .exact(kt ⟨ga,h⟩).elim
     rw[this]
    .rfl
   obtain⟨ms,dZ,fj⟩:=ih s (λb0 c_=>bf b0 (by simp[c_])) mI;refine⟨ms,λm hm=>⟨(r1 p ps).1 _ (dZ m hm).1,(dZ m hm).2⟩,?_⟩;intro ax ff;simp only[List.map_cons,I.cV]at ff;show fP (p.g8 ax) ps=_;rw[Ai];exact fj ax ff.right
theorem MV {s ax:ah}:∀(a:I) (d:I),cG a.aa ax s->view s a=some d->view ax a=some d:=by
 intro a d h;have:=zQ (s:=s) (ax:=ax) a d;intro aD;cases a with
 |h x q=>simp only[view]at aD⊢;rw[h x (by simp[I.aa])];exact aD
 |ao x q=>simp only[view]at aD⊢;rw[h x (by simp[I.aa])];exact aD
 |fn f cap=>
  refine this (λu hu _=>h u hu) aD
 |_=>exact aD
theorem MW {p:bZ} {s ax:ah} (h:cG p.a.aa ax s) (ey:p.ok s):p.ok ax:=by
 unfold bZ.ok at ey⊢;split
 .rename_i bf;rw[if_pos bf]at ey;cases bQ:p.a with
  |h x q=>
   rw[bQ]at ey;simp only at ey⊢;rw[h x (by simp[bQ,I.aa])];exact ey
  |_=>rw[bQ]at ey;exact ey.elim
 .rename_i bf;rw[if_neg bf]at ey;exact MV _ _ h ey
def wI (C:bA) (o:bW) (s:ah) (iT:ee) (ms:List fe):Prop:=
 (∀ax,cG iT.bC ax s->∀K:ah->Prop,K (cI ms ax)->j0 C ax o K)/\(∀m∈ms,m.x∈iT.T/\∀u∈m.d.aa,u∈iT.H)/\(∀u∈iT.bC,∀x∈(s u).aa,x∈iT.H)/\(iT.c=true->∀u∈iT.bC,(s u).clean=true)
theorem FB (dst:Option Nat) (av:I):∃ms:List fe,(∀m∈ms,m.x∈dst.toList/\m.d=av)/\∀s1:ah,fin s1 dst av=cI ms s1:=by
 cases dst with
 |none=>exact⟨[],by simp,λs=>rfl⟩
 |some t=>
  simp only[fin];by_cases h:av.plain=true
  .exact⟨[⟨.no,t,av⟩],by simp,λs=>by rw[if_pos h,Er]⟩
  .exact⟨[⟨.b8,t,av⟩],by simp,λs=>by rw[if_neg h,Ep]⟩
theorem wJ {s:ah} {bC:Xt} {dst:Option Nat} {b9:Xt} {av:I}:(∀u∈(hn s bC dst b9 av).bC,∀x∈(s u).aa,x∈(hn s bC dst b9 av).H)/\((hn s bC dst b9 av).c=true->∀u∈(hn s bC dst b9 av).bC,(s u).clean=true):=by
 refine⟨λu hu x an=>?_,λaj=>?_⟩
 .simp only[hn,List.mem_append,List.mem_flatMap];exact .inl ⟨u,hu,an⟩
 .simp only[hn,List.all_eq_true]at aj;exact aj
theorem FC {s:ah} {f:aX} {args:List aX} {K:Xt->I->ah->Prop} (h:Fv C s f args K):
  ∃b9 av ms,K b9 av (cI ms s)/\(∀m∈ms,m.x∈b9/\m.d.aa=[])/\∀ax,cG (use s (.call f args)) ax s->∀cA:I->ah->Prop,cA av (cI ms ax)->zV C ax f args cA:=by
 obtain⟨g,caps,ps,r,ab,fl,ad,aB,aY,bn,cb,cc,ea⟩:=h;have MX:∀p∈ps,wH s p (λd=>d=p.d/\p.d.eW=true):=by
  intro p ao bf;have:=aB p ao;simp only[bZ.ok,bf,if_true]at this;cases bQ:p.a with
  |h x q=>rw[bQ]at this;exact⟨x,q,p.d,rfl,this.1,⟨rfl,this.2.1⟩,this.2.2.imp id λh=>h.1⟩
  |_=>rw[bQ]at this;exact this.elim
 obtain⟨⟨mH,ag,a4⟩,gB⟩:=MQ ps s MX aY;obtain⟨pf,g7,gq⟩:=MT ps (dH s ps) gB aY;have nq:∀u∈I.cV (ps.map (·.a)),u∈use s (.call f args):=by
  rw[ad];intro u hu;simp only[use,List.mem_append];have key:∀(e6 l2:Xy),u∈I.cV (e6++l2)->u∈I.cV e6\/u∈I.cV l2:=by
   intro e6;induction e6 with
   |nil=>intro l2 h;exact .inr h
   |cons a e6 ih=>
    intro l2 h;simp only[List.cons_append,I.cV,List.mem_append]at h⊢;rcases h with h|h
    .exact .inl (.inl h)
    .exact(ih l2 h).imp .inr id
  rcases key _ _ hu with hu|hu
  .exact .inr (aX.we u hu)
  .refine .inl (aX.qq u ?_);rw[ab];exact hu
 have fb:fP (dH s ps) ps=cI (mH++pf) s:=by
  rw[kp,<-a4 s (λ_ _=>rfl),gq _ (λ_ _=>rfl)]
 refine⟨oy ps,r,mH++pf,by rw[<-fb];exact ea,?_,?_⟩
 .intro m hm;rcases List.mem_append.1 hm with hm|hm
  .exact ag m hm
  .exact g7 m hm
 .intro ax aa cA ai;have oq:cG (I.cV (ps.map (·.a))) ax s:=aa.sub nq;have bk:cG (f.use s) ax s:=by simp only[use]at aa;exact aa.left
  have an:cG (aX.mG s args) ax s:=by simp only[use]at aa;exact aa.right
  have aM:fP (dH ax ps) ps=cI (mH++pf) ax:=by
   rw[kp,<-a4 ax oq,gq];rw[a4 ax oq,a4 s (λ_ _=>rfl)];exact cG.cI oq _
  exact⟨g,caps,ps,r,by rw[aX.ep bk];exact ab,fl,by rw[aX.zC an];exact ad,λp ao=>MW (oq.sub (MP ao)) (aB p ao),aY,bn,cb,cc,by rw[aM];exact ai⟩
mutual
theorem FD {s ax:ah}:∀(d:I),cG d.aa ax s->d.ed ax=d.ed s
 | .h x q,h=>by simp only[I.ed];rw[h x (by simp[I.aa])]
 | .U x q,h=>by simp only[I.ed];rw[h x (by simp[I.aa])]
 | .fn f cap,h=>by simp only[I.ed];exact FE cap (by simpa only[I.aa]using h)
 | .ao _ _,_=>by simp only[I.ed]
 | .hole,_=>by simp only[I.ed]
 | .bool _,_=>by simp only[I.ed]
 | .dR,_=>by simp only[I.ed]
 | .int _ _,_=>by simp only[I.ed]
 | .str _,_=>by simp only[I.ed]
 | .cJ,_=>by simp only[I.ed]
 | .a5,_=>by simp only[I.ed]
 | .slice _,_=>by simp only[I.ed]
 | .aw _ _,_=>by simp only[I.ed]
 | .ref _,_=>by simp only[I.ed]
 | .bh _,_=>by simp only[I.ed]
 | .agg _,_=>by simp only[I.ed]
 | .tuple _,_=>by simp only[I.ed]
 | .cS _,_=>by simp only[I.ed]
 | .er _ _,_=>by simp only[I.ed]
theorem FE {s ax:ah}:∀(ds:Xy),cG (I.cV ds) ax s->I.lZ ax ds=I.lZ s ds
 |[],_=>rfl
 |d::ds,h=>by
  simp only[I.cV]at h;simp only[I.lZ];rw[FD d h.left,FE ds h.right]
end
theorem Aj {s ax:ah} {us:Xt} (h:cG (us.flatMap λu=>u::(s u).aa) ax s):hD ax us=hD s us:=by
 unfold hD;refine List.map_congr_left λu hu=>?_;rw[h u (List.mem_flatMap.2 ⟨u,hu,by simp⟩)]
theorem Ak {s ax:ah}:∀(L:Xx),(∀p∈L,cG p.2.aa ax s)->jC ax L=jC s L
 |[],_=>rfl
 |p::L,h=>by
  simp only[jC];rw[FD p.2 (h p (by simp)),Ak L (λq cx=>h q (by simp[cx]))]
theorem FF:∀(L:Xx) (s:ah),kU s L=cI (L.map λp=>⟨.no,p.1,p.2⟩) s
 |[],s=>rfl
 |p::L,s=>by
  simp only[kU,List.map_cons];rw[FF L,Er];exact(kp [⟨.no,p.1,p.2⟩] _ s).symm
theorem MY {s:ah} {a9:cU} {K:Xt->I->ah->Prop} (h:lh C s a9 K):
  ∃b9 av ms,K b9 av (cI ms s)/\(∀m∈ms,m.x∈b9/\∀v∈m.d.aa,∃u∈use s a9,v∈(s u).aa)/\∀ax,cG (use s a9) ax s->∀cA:I->ah->Prop,cA av (cI ms ax)->l0 C ax a9 cA:=by
 have plain:(∃av s1,bp C s a9=some (av,s1)/\K (kq s a9) av s1)->(∀ax (cA:I->ah->Prop) av s1,bp C ax a9=some (av,s1)->cA av s1->l0 C ax a9 cA)->
   ∃b9 av ms,K b9 av (cI ms s)/\(∀m∈ms,m.x∈b9/\∀v∈m.d.aa,∃u∈use s a9,v∈(s u).aa)/\∀ax,cG (use s a9) ax s->∀cA:I->ah->Prop,cA av (cI ms ax)->l0 C ax a9 cA:=by
  rintro⟨av,s1,ab,ad⟩ hw;obtain⟨ms,aM,aS,aV⟩:=EG ab;subst aM;exact⟨_,av,ms,ad,λm hm=>⟨(aS m hm).1,λv aD=>by rw[(aS m hm).2]at aD;cases aD⟩,λax aa cA ai=>hw ax cA av _ (aV ax aa) ai⟩
 cases a9 with
 |call f args=>
  obtain⟨b9,av,ms,ag,a4,gB⟩:=FC h;exact⟨b9,av,ms,ag,λm hm=>⟨(a4 m hm).1,λv aD=>by rw[(a4 m hm).2]at aD;cases aD⟩,λax aa cA ai=>gB ax aa cA ai⟩
 |jy f args us=>
  obtain⟨b1,aj⟩:=h;obtain⟨b9,av,ms,⟨ag,MZ⟩,a4,gB⟩:=FC aj;have e:∀ax:ah,kU (cI ms ax) (hD s us)=cI (ms++(hD s us).map λp=>⟨.no,p.1,p.2⟩) ax:=λax=>by rw[kp,FF]
  have kH:∀{ax:ah},cG (us.flatMap λu=>u::(s u).aa) ax s->∀p∈hD s us,cG p.2.aa ax s:=λ{ax} aa p ao v aD=>by
   obtain⟨u,hu,rfl⟩:=List.mem_map.1 ao;exact aa v (List.mem_flatMap.2 ⟨u,hu,by simp[aD]⟩)
  refine⟨us++b9,av,ms++(hD s us).map λp=>⟨.no,p.1,p.2⟩,by rw[<-e];exact MZ,?_,?_⟩
  .intro m hm;rcases List.mem_append.1 hm with hm|hm
   .exact⟨by simp[(a4 m hm).1],λv aD=>by rw[(a4 m hm).2]at aD;cases aD⟩
   .obtain⟨p,ao,rfl⟩:=List.mem_map.1 hm;obtain⟨u,hu,rfl⟩:=List.mem_map.1 ao;exact⟨List.mem_append_left _ hu,λv aD=>⟨u,by simp only[use,List.mem_append,List.mem_flatMap];exact .inl ⟨u,hu,by simp⟩,aD⟩⟩
  .intro ax aa cA ai;simp only[use]at aa;refine⟨by rw[Aj aa.left,Ak _ (kH aa.left)];exact b1,gB ax aa.right _ ⟨?_,?_⟩⟩
   .rw[Aj aa.left,Ak _ (λp ao=>(kH aa.left p ao).cI ms)];exact ag
   .rw[Aj aa.left,e];exact ai
 |shr a9=>
  obtain⟨av,s1,ab,ad,aB,aY⟩:=h;obtain⟨ms,aM,aS,aV⟩:=EG ab;subst aM;exact⟨_,av.share,ms,aY,λm hm=>⟨(aS m hm).1,λv aD=>by rw[(aS m hm).2]at aD;cases aD⟩,λax aa cA ai=>⟨av,_,aV ax aa,ad,aB,ai⟩⟩
 |_=>exact plain h (λax cA av s1 ab ad=>⟨av,s1,ab,ad⟩)
theorem M0 {s:ah} {o:bW} {K:ee->ah->Prop} (h:ks C s o K):∃iT ms,K iT (cI ms s)/\wI C o s iT ms:=by
 have op:∀(bC:Xt),(∀u∈use s o.a9,u∈bC)->(∀ax,cG bC ax s->∀cA:ah->Prop,l0 C ax o.a9 (λav s1=>cA (fin s1 o.dst av))->j0 C ax o cA)->
   lh C s o.a9 (λb9 av s1=>K (hn s bC o.dst b9 av) (fin s1 o.dst av))->∃iT ms,K iT (cI ms s)/\wI C o s iT ms:=by
  intro bC nq dT hw;obtain⟨b9,av,ms,ab,ad,aB⟩:=MY hw;obtain⟨jk,l7,b5⟩:=FB o.dst av;refine⟨hn s bC o.dst b9 av,ms++jk,?_,?_,?_,wJ.1,wJ.2⟩
  .rw[kp,<-b5];exact ab
  .intro ax aa cA ai;refine dT ax aa cA (aB ax (aa.sub nq) _ ?_);rw[b5,<-kp];exact ai
  .intro m hm;simp only[hn,List.mem_append];rcases List.mem_append.1 hm with hm|hm
   .refine⟨.inr (ad m hm).1,λv aD=>.inl ?_⟩;obtain⟨u,hu,kl⟩:=(ad m hm).2 v aD;exact List.mem_flatMap.2 ⟨u,nq u hu,kl⟩
   .exact⟨.inl (l7 m hm).1,λu hu=>.inr (by rw[(l7 m hm).2]at hu;exact hu)⟩
 have skip:∀t,(∀ax,cG [t] ax s->∀cA:ah->Prop,cA (fin ax o.dst (.tuple []))->j0 C ax o cA)->K (hn s [t] o.dst [] (.tuple [])) (fin s o.dst (.tuple []))->∃iT ms,K iT (cI ms s)/\wI C o s iT ms:=by
  intro t dT ai;obtain⟨jk,l7,b5⟩:=FB o.dst (.tuple []);refine⟨_,jk,by rw[<-b5];exact ai,?_,?_,wJ.1,wJ.2⟩
  .intro ax aa cA jX;exact dT ax aa cA (by rw[b5];exact jX)
  .intro m hm;simp only[hn,List.mem_append];exact⟨.inl (l7 m hm).1,λu hu=>by rw[(l7 m hm).2]at hu;simp[I.aa]at hu⟩
 unfold ks at h;split at h
 .rename_i bf;exact op _ (λ_ h=>h) (λax _ cA hw=>by unfold j0;rw[bf];exact hw) h
 .rename_i t b bf;split at h
  .rename_i eh U;split at h
   .rename_i e;refine op (t::use s o.a9) (λu hu=>by simp[hu]) (λax aa cA hw=>?_) h;have:ax t=s t:=aa t (by simp);unfold j0;rw[bf];simp only[this,U,if_pos e];exact hw
   .rename_i e;refine skip t (λax aa cA ai=>?_) h;have:ax t=s t:=aa t (by simp);unfold j0;rw[bf];simp only[this,U,if_neg e];exact ai
  .rename_i U;refine skip t (λax aa cA ai=>?_) h;have:ax t=s t:=aa t (by simp);unfold j0;rw[bf];simp only[this,U];exact ai
  .exact h.elim
def pt (C:bA) (ros:List bW):ah->List (Nat×ee×List fe)->Prop
 |_,[]=>True
 |s,e::r=>(∃o,ros[e.1]? =some o/\wI C o s e.2.1 e.2.2)/\pt C ros (cI e.2.2 s) r
def mO (s:ah) (r:List (Nat×ee×List fe)):ah:=r.foldl (λs e=>cI e.2.2 s) s
def lU (a b:Xt):Bool:=a.all λx=> !b.contains x
theorem r2 {a b:Xt} (h:lU a b=true):∀x∈a,x∉b:=by
 intro x an;simp only[lU,List.all_eq_true]at h;simpa using h x an
def qD (a b:ee):Bool:=lU b.T a.bC&&lU b.T a.H&&lU b.T a.T&&lU a.T b.bC&&lU a.T b.H&&b.c
theorem M1 {ros:List bW} {s:ah} {a b:Nat×ee×List fe} {r:List (Nat×ee×List fe)} (h:pt C ros s (a::b::r)) (aE:qD a.2.1 b.2.1=true):
  pt C ros s (b::a::r)/\mO s (b::a::r)=mO s (a::b::r):=by
 obtain⟨⟨M3,bQ,ag,a4,gB,pa⟩,⟨cS,U,g7,gq,iD,cy⟩,aI⟩:=h;simp only[qD,Bool.and_eq_true]at aE;obtain⟨⟨⟨⟨⟨o4,mq⟩,p2⟩,yM⟩,td⟩,yO⟩:=aE;have Al:∀u∈b.2.1.bC,cI a.2.2 s u=s u:=by
  intro u hu;refine MK _ _ _ (λm hm e=>?_) (cy yO u hu);exact r2 yM m.x (a4 m hm).1 (e▸hu)
 have Am:∀u∈a.2.1.bC,cI b.2.2 s u=s u:=by
  intro u hu;refine ML _ _ _ λm hm=>⟨λe=>?_,λan=>?_⟩
  .exact r2 o4 m.x (gq m hm).1 (e▸hu)
  .exact r2 mq m.x (gq m hm).1 (gB u hu _ an)
 have FG:cI b.2.2 (cI a.2.2 s)=cI a.2.2 (cI b.2.2 s):=by
  refine MN _ _ _ λm hm n aU=>⟨λe=>?_,λh=>?_,λh=>?_⟩
  .exact r2 p2 n.x (gq n aU).1 (e▸(a4 m hm).1)
  .exact r2 mq n.x (gq n aU).1 ((a4 m hm).2 _ h)
  .exact r2 td m.x (a4 m hm).1 ((gq n aU).2 _ h)
 refine⟨⟨⟨cS,U,?_,gq,?_,?_⟩,⟨M3,bQ,?_,a4,?_,?_⟩,?_⟩,?_⟩
 .intro ax aa K ai;exact g7 ax (λu hu=>(aa u hu).trans (Al u hu).symm) K ai
 .intro u hu x an;exact iD u hu x (by rw[Al u hu];exact an)
 .intro aj u hu;have:=cy aj u hu
  rwa [Al u hu]at this
 .intro ax aa K ai;exact ag ax (λu hu=>(aa u hu).trans (Am u hu)) K ai
 .intro u hu x an;rw[Am u hu]at an;exact gB u hu x an
 .intro aj u hu;rw[Am u hu];exact pa aj u hu
 .rw[<-FG];exact aI
 .simp only[mO,List.foldl_cons];rw[FG]
theorem M4 {ros:List bW} {e:Nat×ee×List fe} {post:List (Nat×ee×List fe)}:∀(pre:List (Nat×ee×List fe)) (s:ah),pt C ros s (pre++e::post)->(∀a∈pre,qD a.2.1 e.2.1=true)->
  pt C ros s (e::(pre++post))/\mO s (e::(pre++post))=mO s (pre++e::post):=by
 intro pre;induction pre with
 |nil=>intro s h _;exact⟨h,rfl⟩
 |cons a pre ih=>
  intro s h aE;obtain⟨ab,ad⟩:=h;obtain⟨aO,a3⟩:=ih _ ad λb U=>aE b (by simp[U]);have aj:pt C ros s (a::e::(pre++post)):=⟨ab,aO⟩
  obtain⟨bM,b1⟩:=M1 aj (aE a (by simp));refine⟨bM,b1.trans ?_⟩;simp only[mO,List.foldl_cons,List.cons_append]at a3⊢;exact a3
end
def uk:Xr->Xr->Xr
 |done,[]=>done
 |done,a::r=>uk (done++[a++a.flatMap λe=>(done[e]?).getD []]) r
def pv (eE:Xr):Xr:=uk [] eE
theorem M5 {eE:Xr} {l:Xt} (hl:∀u i v,l=u++i::v->∀e∈(eE[i]?).getD [],e∈u):∀(rest pre done:Xr),eE=pre++rest->done.length=pre.length->
  (∀u i v,l=u++i::v->∀e∈(done[i]?).getD [],e∈u)->∀u i v,l=u++i::v->∀e∈((uk done rest)[i]?).getD [],e∈u:=by
 intro rest;induction rest with
 |nil=>intro pre done _ _ h;exact h
 |cons a rest ih=>
  intro pre done FH hlen h;simp only[uk];refine ih (pre++[a]) _ (by simp[FH]) (by simp[hlen]) ?_;intro u i v hu e he;by_cases aE:i<done.length
  .rw[List.getElem?_append_left aE]at he;exact h u i v hu e he
  .rw[List.getElem?_append_right (by omega)]at he;by_cases oo:i-done.length=0
   .rw[oo]at he;simp only[List.getElem?_cons_zero,Option.getD_some,List.mem_append,List.mem_flatMap]at he;have FI:(eE[i]?).getD []=a:=by
     have:i=pre.length:=by omega
     rw[FH,this,List.getElem?_append_right (Nat.le_refl _)];simp
    rcases he with he|⟨e_,z2,he⟩
    .exact hl u i v hu e (by rw[FI];exact he)
    .have tT:=hl u i v hu e_ (by rw[FI];exact z2);obtain⟨Ea,Eb,rfl⟩:=List.append_of_mem tT;have:=h Ea e_ (Eb++i::v) (by rw[hu];simp) e he;simp[this]
   .rw[List.getElem?_eq_none (by simp;omega)]at he;simp at he
theorem M6 {eE:Xr} {l:Xt} (hl:∀u i v,l=u++i::v->∀e∈(eE[i]?).getD [],e∈u):∀u i v,l=u++i::v->∀e∈((pv eE)[i]?).getD [],e∈u:=
 M5 hl eE [] [] rfl rfl λu i v _ e he=>by simp at he
def j3 (kX:Xr):Nat->List (Nat×ee)->List ee->Bool
 |_,_,[]=>true
 |j,es,f::ar=>(es.all λe=>((kX[j]?).getD []).contains e.1||qD e.2 f)&&j3 kX (j+1) ((j,f)::es) ar
def An (kX:Xr) (a b:Nat×ee×List fe):Prop:=a.1∈(kX[b.1]?).getD []\/qD a.2.1 b.2.1=true
theorem M7 {kX:Xr}:∀(fH:List (Nat×ee×List fe)) (j:Nat) (es:List (Nat×ee)),fH.map (·.1)=(List.range fH.length).map (·+j)->j3 kX j es (fH.map (·.2.1))=true->
  fH.Pairwise (An kX)/\∀e∈es,∀b∈fH,e.1∈(kX[b.1]?).getD []\/qD e.2 b.2.1=true:=by
 intro fH;induction fH with
 |nil=>intro j es _ _;exact⟨.nil,λe _ b U=>by cases U⟩
 |cons a fH ih=>
  intro j es qE ey;rw[List.length_cons,List.range_succ_eq_map,List.map_cons,List.map_cons,List.map_map]at qE;simp only[List.cons.injEq,Nat.zero_add]at qE;obtain⟨b6,qE⟩:=qE;simp only[List.map_cons,j3,Bool.and_eq_true,List.all_eq_true,Bool.or_eq_true]at ey;obtain⟨ab,ad⟩:=ey;obtain⟨aO,a3⟩:=ih (j+1) _ (by rw[qE];congr 1;funext x;simp;omega) ad;refine⟨.cons (λb U=>?_) aO,λe he b U=>?_⟩
  .have:=a3 (j,a.2.1) (by simp) b U;simp only[An,b6];exact this
  .rcases List.mem_cons.1 U with rfl|U
   .rw[b6];exact(ab e he).imp (λh=>by simpa using h) id
   .exact a3 e (by simp[he]) b U
section
variable {C:bA}
theorem M8 {K:Option (List ee)->ah->Prop}:∀(os pre:List bW) (s:ah) (acc:List ee),cw C s os (some acc) K->
  ∃fH,pt C (pre++os) s fH/\fH.map (·.1)=(List.range os.length).map (·+pre.length)/\K (some ((fH.map (·.2.1)).reverse++acc)) (mO s fH):=by
 intro os;induction os with
 |nil=>intro pre s acc h;exact⟨[],trivial,rfl,h⟩
 |cons o os ih=>
  intro pre s acc h;obtain⟨iT,ms,ab,ad⟩:=M0 h;obtain⟨fH,aO,a3,bJ⟩:=ih (pre++[o]) _ (iT::acc) ab;refine⟨(pre.length,iT,ms)::fH,⟨⟨o,?_,ad⟩,?_⟩,?_,?_⟩
  .rw[List.getElem?_append_right (Nat.le_refl _)];simp
  .simpa using aO
  .rw[List.length_cons,List.range_succ_eq_map,List.map_cons,List.map_cons,List.map_map,a3];simp only[List.cons.injEq,Nat.zero_add,true_and];congr 1;funext x;simp;omega
  .simpa [mO]using bJ
theorem M9 {ros:List bW} {kX:Xr} {K:ah->Prop}:∀(l:Xt) (fH:List (Nat×ee×List fe)) (s:ah),pt C ros s fH->fH.Pairwise (An kX)->l.Nodup->(fH.map (·.1)).Nodup->
  (∀i,i∈l↔i∈fH.map (·.1))->(∀u i v,l=u++i::v->∀e∈(kX[i]?).getD [],e∈fH.map (·.1)->e∈u)->K (mO s fH)->ig C ros s l K:=by
 intro l;induction l with
 |nil=>
  intro fH s _ _ _ _ hm _ ai;cases fH with
  |nil=>exact ai
  |cons e fH=>have:=(hm e.1).2 (by simp);cases this
 |cons i l ih=>
  intro fH s aj ao aU tO hm bG ai;obtain⟨e,he,aE⟩:=List.mem_map.1 ((hm i).1 (by simp));obtain⟨pre,post,rfl⟩:=List.append_of_mem he;have M_:∀a∈pre,qD a.2.1 e.2.1=true:=by
   intro a bQ;have aI:=(List.pairwise_append.1 ao).2.2 a bQ e (by simp);rcases aI with aI|aI
   .rw[aE]at aI;have:=bG [] i l rfl a.1 aI (by simp only[List.map_append,List.mem_append,List.mem_map];exact .inl ⟨a,bQ,rfl⟩);cases this
   .exact aI
  obtain⟨aO,a3⟩:=M4 pre s aj M_;obtain⟨⟨o,Na,wq⟩,bJ⟩:=aO;have FJ:i∉(pre++post).map (·.1):=by
   have:(pre.map (·.1)++e.1::post.map (·.1)).Nodup:=by simpa using tO
   have bj:=(List.perm_middle.nodup_iff.1 this)
   rw[List.nodup_cons]at bj;rw[<-aE];simpa using bj.1
  simp only[ig];rw[<-aE,Na];refine wq.1 s (λ_ _=>rfl) _ ?_;rw[List.nodup_cons]at aU;refine ih (pre++post) _ bJ ?_ aU.2 ?_ ?_ ?_ ?_
  .exact ao.sublist ((List.Sublist.refl pre).append (List.sublist_cons_self e post))
  .have:(pre.map (·.1)++e.1::post.map (·.1)).Nodup:=by simpa using tO
   have bj:=(List.perm_middle.nodup_iff.1 this)
   rw[List.nodup_cons]at bj;simpa using bj.2
  .intro j;constructor
   .intro b6;have ab:=(hm j).1 (by simp[b6]);simp only[List.map_append,List.map_cons,List.mem_append,List.mem_cons]at ab⊢;rcases ab with ab|rfl|ab
    .exact .inl ab
    .exact(aU.1 (aE▸b6)).elim
    .exact .inr ab
   .intro b6;have ab:=(hm j).2 (by
     simp only[List.map_append,List.map_cons,List.mem_append,List.mem_cons]at b6⊢;exact b6.imp id .inr)
    rcases List.mem_cons.1 ab with rfl|ab
    .exact(FJ b6).elim
    .exact ab
  .intro u j v hu x an Ao;have ab:=bG (i::u) j v (by rw[hu];rfl) x an (by
    simp only[List.map_append,List.map_cons,List.mem_append,List.mem_cons]at Ao⊢;exact Ao.imp id .inr)
   rcases List.mem_cons.1 ab with rfl|ab
   .exact(FJ Ao).elim
   .exact ab
  .have:mO s (e::(pre++post))=mO (cI e.2.2 s) (pre++post):=rfl;rw[<-this,a3];exact ai
theorem Nb {ros:List bW} {eE:Xr} {s:ah} {K:ah->Prop} (hlen:eE.length=ros.length)
  (h:cw C s ros (some []) (λacc s=>j3 (pv eE) 0 [] (acc.getD []).reverse=true/\K s)):∀l,z0 eE l->ig C ros s l K:=by
 intro l ⟨e6,l2,zU⟩;obtain⟨fH,aO,a3,bJ,cN⟩:=M8 ros [] s [] h;simp only[List.nil_append,List.append_nil,List.length_nil,Option.getD_some,List.reverse_reverse]at aO a3 bJ;have hl:fH.length=ros.length:=by have:=congrArg List.length a3;simpa using this
 have qE:fH.map (·.1)=(List.range fH.length).map (·+0):=by rw[a3,hl]
 have aI:fH.map (·.1)=List.range ros.length:=by rw[a3];simp
 obtain⟨dS,_⟩:=M7 fH 0 [] qE bJ;refine M9 l fH s aO dS e6 (by rw[aI];exact List.nodup_range) (λi=>?_) (λu i v hu e he _=>M6 zU u i v hu e he) cN;rw[aI,l2,hlen,List.mem_range]
end
def pw (C:bA) (dst:Option Nat) (os:List bW) (K:Option (List ee)->ah->Prop):Option (I×ah)->Prop
 |some (av,s1)=>cw C (fin s1 dst av) os none K
 |none=>False
def qF (C:bA) (l:Xx) (bC b9:Xt) (dst:Option Nat) (os:List bW) (a:List ee) (K:Option (List ee)->ah->Prop):Option (I×ah)->Prop
 |some (av,s1)=>cw C (fin s1 dst av) os (some (hn (au l) bC dst b9 av::a)) K
 |none=>False
def iU (C:bA) (l:Xx) (dst:Option Nat) (a9:cU) (t:Nat) (b:Bool) (os:List bW) (acc:Option (List ee)) (K:Option (List ee)->ah->Prop):I->Prop
 | .bool eh=>if eh=b then lh C (au l) a9 (λb9 av s1=>cw C (fin s1 dst av) os (nA acc (hn (au l) (t::use (au l) a9) dst b9 av)) K)else cw C (fin (au l) dst (.tuple [])) os (nA acc (hn (au l) [t] dst [] (.tuple []))) K
 | .tuple []=>cw C (fin (au l) dst (.tuple [])) os (nA acc (hn (au l) [t] dst [] (.tuple []))) K
 |_=>False
section
variable {C:bA} {l:Xx} {os:List bW} {K:Option (List ee)->ah->Prop} {dst:Option Nat} {a:List ee} {acc:Option (List ee)}
theorem wK {s:ah} {a9:cU} {K:Xt->I->ah->Prop} (aU:a9.gG=false):lh C s a9 K=(match bp C s a9 with
  |some (av,s1)=>K (kq s a9) av s1
  |none=>False):=by
 apply propext;constructor
 .intro h;cases a9<;>first
   |(simp[cU.gG]at aU;done)
   |(obtain⟨av,s1,ab,ad⟩:=h;rw[ab];exact ad)
 .intro h;split at h
  .rename_i av s1 he;cases a9<;>first
    |(simp[cU.gG]at aU;done)
    |exact⟨av,s1,he,h⟩
  .exact h.elim
theorem FK:cw C (au l) [] acc K=K acc (au l):=rfl
theorem wL {a9:cU} (aU:a9.gG=false):cw C (au l) (⟨dst,a9,none⟩::os) none K=pw C dst os K (bp C (au l) a9):=by
 simp only[cw,ks,nA];rw[wK aU];cases bp C (au l) a9 with
 |none=>rfl
 |some p=>rfl
theorem Ap {a9:cU} (aU:a9.gG=false):cw C (au l) (⟨dst,a9,none⟩::os) (some a) K=qF C l (use (au l) a9) (kq (au l) a9) dst os a K (bp C (au l) a9):=by
 simp only[cw,ks,nA];rw[wK aU];cases bp C (au l) a9 with
 |none=>rfl
 |some p=>rfl
theorem FL {a9:cU} {t:Nat} {b:Bool}:cw C (au l) (⟨dst,a9,some (t,b)⟩::os) acc K=iU C l dst a9 t b os acc K (au l t):=by
 simp only[cw,ks];generalize au l t=v;cases v<;>first|rfl|(rename_i vs;cases vs<;>rfl)
theorem Nc {a9:cU} {t:Nat} {b:Bool} (aU:a9.gG=false):iU C l dst a9 t b os none K (.bool b)=pw C dst os K (bp C (au l) a9):=by
 simp only[iU,if_true];rw[wK aU];cases bp C (au l) a9 with
 |none=>rfl
 |some p=>rfl
theorem Nd {a9:cU} {t:Nat} {b:Bool} (aU:a9.gG=false):iU C l dst a9 t b os (some a) K (.bool b)=qF C l (t::use (au l) a9) (kq (au l) a9) dst os a K (bp C (au l) a9):=by
 simp only[iU,if_true];rw[wK aU];cases bp C (au l) a9 with
 |none=>rfl
 |some p=>rfl
theorem Nf {a9:cU} {t:Nat}:iU C l dst a9 t true os none K (.bool false)=cw C (fin (au l) dst (.tuple [])) os none K/\iU C l dst a9 t false os none K (.bool true)=cw C (fin (au l) dst (.tuple [])) os none K/\
  (∀b,iU C l dst a9 t b os none K (.tuple [])=cw C (fin (au l) dst (.tuple [])) os none K):=⟨rfl,rfl,λ_=>rfl⟩
theorem Ng {a9:cU} {t:Nat}:iU C l dst a9 t true os (some a) K (.bool false)=cw C (fin (au l) dst (.tuple [])) os (some (hn (au l) [t] dst [] (.tuple [])::a)) K/\
  iU C l dst a9 t false os (some a) K (.bool true)=cw C (fin (au l) dst (.tuple [])) os (some (hn (au l) [t] dst [] (.tuple [])::a)) K/\
  (∀b,iU C l dst a9 t b os (some a) K (.tuple [])=cw C (fin (au l) dst (.tuple [])) os (some (hn (au l) [t] dst [] (.tuple [])::a)) K):=⟨rfl,rfl,λ_=>rfl⟩
theorem Nh (av:I) (s1:ah):pw C dst os K (some (av,s1))=cw C (fin s1 dst av) os none K:=rfl
theorem Ni (bC b9:Xt) (av:I) (s1:ah):qF C l bC b9 dst os a K (some (av,s1))=cw C (fin s1 dst av) os (some (hn (au l) bC dst b9 av::a)) K:=rfl
def wM (s:ah):I->Option (I×ah)
 | .h y q=>b9 s (.h y q)
 |d=>some (d,s)
def FM (s:ah):I->I->I->Option (I×ah)
 | .bool eh,x,y=>some (if eh then x else y,s)
 |_,_,_=>none
def jm (s:ah):Option I->Option (I×ah)
 |some d=>some (d,s)
 |none=>none
def da:Option ah->Option (I×ah)
 |some s1=>some (.hole,s1)
 |none=>none
def h4 (s:ah):List aX->Xy
 |[]=>[]
 |x::xs=>a6 s x::h4 s xs
def px (s:ah):List (Nat×aX)->Xx
 |[]=>[]
 |(k,x)::xs=>(k,a6 s x)::px s xs
def um (s:ah):Option aX->Option I
 |none=>none
 |some x=>some (a6 s x)
theorem FN (s:ah) (x:Option I):(x.map λd=>(d,s))=jm s x:=by cases x<;>rfl
theorem Nj (x:Option ah):(x.map λs1=>(I.hole,s1))=da x:=by cases x<;>rfl
theorem uo (s:ah):∀xs:List aX,xs.map (a6 s)=h4 s xs
 |[]=>rfl
 |x::xs=>by simp only[List.map_cons,h4,uo s xs]
theorem FO (s:ah):∀xs:List (Nat×aX),(xs.map λp=>(p.1,a6 s p.2))=px s xs
 |[]=>rfl
 |(k,x)::xs=>by simp only[List.map_cons,px,FO s xs]
theorem Nk (s:ah) (x:Option aX):x.map (a6 s)=um s x:=by cases x<;>rfl
theorem FP:(∀x,cU.gG (.fc x)=false)/\
  (∀x,cU.gG (.ko x)=false)/\
  (∀c x y,cU.gG (.pick c x y)=false)/\
  (∀T,cU.gG (.kL T)=false)/\
  (∀T x,cU.gG (.g6 T x)=false)/\
  (∀T ps,cU.gG (.fw T ps)=false)/\
  (∀T n ps,cU.gG (.ek T n ps)=false)/\
  (∀T x,cU.gG (.ew T x)=false)/\
  (∀T x y,cU.gG (.iC T x y)=false)/\
  (∀x,cU.gG (.hC x)=false)/\
  (∀op T x y,cU.gG (.dE op T x y)=false)/\
  (∀op x,cU.gG (.un op x)=false)/\
  (∀A B x,cU.gG (.hi A B x)=false)/\
  (∀f cs,cU.gG (.om f cs)=false)/\
  (∀T x y,cU.gG (.dB T x y)=false)/\
  (∀T x c9 aE,cU.gG (.eb T x c9 aE)=false)/\
  (∀T x k,cU.gG (.gO T x k)=false)/\
  (∀T x y,cU.gG (.h_ T x y)=false)/\
  (∀T x y,cU.gG (.idx T x y)=false)/\
  (∀x k,cU.gG (.ex x k)=false)/\
  (∀T x,cU.gG (.len T x)=false)/\
  (∀T bC x y,cU.gG (.app T bC x y)=false):=by
 and_intros<;>intros<;>rfl
theorem FQ:(∀x,bp C (au l) (.fc x)=some (a6 (au l) x,au l))/\
  (∀x,bp C (au l) (.ko x)=wM (au l) (a6 (au l) x))/\
  (∀c x y,bp C (au l) (.pick c x y)=FM (au l) (a6 (au l) c) (a6 (au l) x) (a6 (au l) y))/\
  (∀T,bp C (au l) (.kL T)=jm (au l) (kL C T))/\
  (∀T x,bp C (au l) (.g6 T x)=g6 (au l) (a6 (au l) x))/\
  (∀T ps,bp C (au l) (.fw T ps)=fw C (au l) T (px (au l) ps))/\
  (∀T n ps,bp C (au l) (.ek T n ps)=ek C (au l) T n (px (au l) ps))/\
  (∀T x,bp C (au l) (.ew T x)=jm (au l) (ew C (au l) T (a6 (au l) x)))/\
  (∀T x y,bp C (au l) (.iC T x y)=da (iC C (au l) T (a6 (au l) x) (a6 (au l) y)))/\
  (∀x,bp C (au l) (.hC x)=jm (au l) (hC (au l) (a6 (au l) x)))/\
  (∀op T x y,bp C (au l) (.dE op T x y)=jm (au l) (dE C (au l) op T (a6 (au l) x) (a6 (au l) y)))/\
  (∀op x,bp C (au l) (.un op x)=jm (au l) (un op (a6 (au l) x)))/\
  (∀A B x,bp C (au l) (.hi A B x)=jm (au l) (hi C (au l) A B (a6 (au l) x)))/\
  (∀f cs,bp C (au l) (.om f cs)=some (.fn f (h4 (au l) cs),au l))/\
  (∀T x y,bp C (au l) (.dB T x y)=jm (au l) (dB C T (a6 (au l) x) (a6 (au l) y)))/\
  (∀T x c9 aE,bp C (au l) (.eb T x c9 aE)=eb C (au l) T (a6 (au l) x) (um (au l) c9) (um (au l) aE))/\
  (∀T x k,bp C (au l) (.gO T x k)=jm (au l) (gO C (au l) T (a6 (au l) x) k))/\
  (∀T x y,bp C (au l) (.h_ T x y)=jm (au l) (h_ C (au l) T (a6 (au l) x) (a6 (au l) y)))/\
  (∀T x y,bp C (au l) (.idx T x y)=jm (au l) (idx C T (a6 (au l) x) (a6 (au l) y)))/\
  (∀x k,bp C (au l) (.ex x k)=jm (au l) (ex (au l) (a6 (au l) x) k))/\
  (∀T x,bp C (au l) (.len T x)=jm (au l) (od C (au l) T (a6 (au l) x)))/\
  (∀T bC x y,bp C (au l) (.app T bC x y)=oh C (au l) T bC (a6 (au l) x) (a6 (au l) y)):=by
 and_intros<;>intros<;>first|rfl|(simp only[bp,FN,Nj,FO,uo,Nk];done)|(simp only[bp];cases a6 (au l) _<;>first|rfl|(rename_i b;cases b<;>rfl))
end
theorem FR:∀t d,nb t d=if I.plain d=true then d else .h t []:=λ_ _=>rfl
theorem FT:(∀l av,fin (au l) none av=au l)/\(∀l t av,fin (au l) (some t) av=au ((t,av)::if I.plain av=true then l else ow t l)):=
 ⟨λ_ _=>rfl,λl t av=>by
  simp only[fin];split
  .rw[uf]
  .rw[Ag,uf]⟩
theorem Aq:
  (∀k n,I.plain (.int k n)=true)/\
  (∀b,I.plain (.bool b)=true)/\
  (∀x,I.plain (.str x)=true)/\
  (∀xs,I.plain (.slice xs)=true)/\
  (∀d,I.plain (.ref d)=true)/\
  (∀f cap,I.plain (.fn f cap)=true)/\
  (∀x q,I.plain (.h x q)=true)/\
  (∀x q,I.plain (.ao x q)=true)/\
  (I.plain .cJ=true)/\
  (I.plain .a5=true)/\
  (I.plain .dR=true)/\
  (I.plain .hole=true)/\
  (∀sz xs,I.plain (.aw sz xs)=false)/\
  (∀d,I.plain (.bh d)=false)/\
  (∀ar,I.plain (.agg ar)=I.dz ar)/\
  (∀ar,I.plain (.tuple ar)=I.dz ar)/\
  (I.dz []=true)/\
  (∀d ds,I.dz (d::ds)=(d.plain&&I.dz ds)):=
 ⟨λ_ _=>rfl,λ_=>rfl,λ_=>rfl,λ_=>rfl,λ_=>rfl,λ_ _=>rfl,λ_ _=>rfl,λ_ _=>rfl,rfl,rfl,rfl,rfl,λ_ _=>rfl,λ_=>rfl,λ_=>rfl,λ_=>rfl,rfl,λ_ _=>rfl⟩
theorem FU:∀s d,wM s d=match d with| .h y q=>b9 s (.h y q)|d=>some (d,s):=λ_ _=>by unfold wM;rfl
theorem FV:
  (∀t k n,b8 t (.int k n)=(.int k n))/\
  (∀t b,b8 t (.bool b)=(.bool b))/\
  (∀t x,b8 t (.str x)=(.str x))/\
  (∀t xs,b8 t (.slice xs)=(.slice xs))/\
  (∀t d,b8 t (.ref d)=(.ref d))/\
  (∀t,b8 t .cJ= .cJ)/\
  (∀t,b8 t .a5= .a5)/\
  (∀t,b8 t .dR= .dR)/\
  (∀t,b8 t .hole= .hole)/\
  (∀t sz xs,b8 t (.aw sz xs)=(.aw sz xs))/\
  (∀t d,b8 t (.bh d)=(.bh d))/\
  (∀t ar,b8 t (.agg ar)=(.agg ar))/\
  (∀t ar,b8 t (.tuple ar)=(.tuple ar))/\
  (∀t y q,b8 t (.h y q)=if y=t then .hole else .h y q)/\
  (∀t y q,b8 t (.ao y q)=if y=t then .hole else .ao y q)/\
  (∀t f c,b8 t (.fn f c)= .fn f (hA t c))/\
  (∀t,hA t []=[])/\
  (∀t d ds,hA t (d::ds)=b8 t d::hA t ds)/\
  (∀t,ow t []=[])/\
  (∀t u d l,ow t ((u,d)::l)=(u,b8 t d)::ow t l)/\
  (∀t l,jR t (au l)=au (ow t l)):=
 ⟨λ_ _ _=>by unfold b8;rfl,λ_ _=>by unfold b8;rfl,λ_ _=>by unfold b8;rfl,λ_ _=>by unfold b8;rfl,λ_ _=>by unfold b8;rfl,λ_=>by unfold b8;rfl,λ_=>by unfold b8;rfl,λ_=>by unfold b8;rfl,λ_=>by unfold b8;rfl,λ_ _ _=>by unfold b8;rfl,λ_ _=>by unfold b8;rfl,λ_ _=>by unfold b8;rfl,λ_ _=>by unfold b8;rfl,λ_ _ _=>by unfold b8;rfl,λ_ _ _=>by unfold b8;rfl,λ_ _ _=>by simp only[b8],λ_=>by simp only[hA],λ_ _ _=>by simp only[hA],λ_=>rfl,λ_ _ _ _=>rfl,λt l=>Ag t l⟩
theorem FW:
  (∀t k n,bH t (.int k n)=(.int k n))/\
  (∀t b,bH t (.bool b)=(.bool b))/\
  (∀t x,bH t (.str x)=(.str x))/\
  (∀t xs,bH t (.slice xs)=(.slice xs))/\
  (∀t d,bH t (.ref d)=(.ref d))/\
  (∀t,bH t .cJ= .cJ)/\
  (∀t,bH t .a5= .a5)/\
  (∀t,bH t .dR= .dR)/\
  (∀t,bH t .hole= .hole)/\
  (∀t sz xs,bH t (.aw sz xs)=(.aw sz xs))/\
  (∀t d,bH t (.bh d)=(.bh d))/\
  (∀t ar,bH t (.agg ar)=(.agg ar))/\
  (∀t ar,bH t (.tuple ar)=(.tuple ar))/\
  (∀t y,bH t (.h y [])= .h y [])/\
  (∀t y k q,bH t (.h y (k::q))=if y=t then .hole else .h y (k::q))/\
  (∀t y q,bH t (.ao y q)=if y=t then .hole else .ao y q)/\
  (∀t f c,bH t (.fn f c)= .fn f (g4 t c))/\
  (∀t,g4 t []=[])/\
  (∀t d ds,g4 t (d::ds)=bH t d::g4 t ds)/\
  (∀t,qB t []=[])/\
  (∀t u d l,qB t ((u,d)::l)=(u,bH t d)::qB t l)/\
  (∀t l,ft t (au l)=au (qB t l)):=
 ⟨λ_ _ _=>by unfold bH;rfl,λ_ _=>by unfold bH;rfl,λ_ _=>by unfold bH;rfl,λ_ _=>by unfold bH;rfl,λ_ _=>by unfold bH;rfl,λ_=>by unfold bH;rfl,λ_=>by unfold bH;rfl,λ_=>by unfold bH;rfl,λ_=>by unfold bH;rfl,λ_ _ _=>by unfold bH;rfl,λ_ _=>by unfold bH;rfl,λ_ _=>by unfold bH;rfl,λ_ _=>by unfold bH;rfl,λ_ _=>by simp[bH],λ_ _ _ _=>by simp[bH],λ_ _ _=>by unfold bH;rfl,λ_ _ _=>by simp only[bH],λ_=>by simp only[g4],λ_ _ _=>by simp only[g4],λ_=>rfl,λ_ _ _ _=>rfl,λt l=>MG t l⟩
def Ar:kI->Bool->Option I
 | .bool,b=>some (.bool b)
 |_,_=>none
def py (neg:Bool):kI->Option Xu->Option I
 | .slice _,some r=>some (mB neg r)
 |_,_=>none
def qG (neg:Bool):kI->Xu->Option I
 | .ptr _,some b=>some (.bool (b !=neg))
 |_,_=>none
theorem FX (C:bA) (s:ah) (T:TypeId):
  (∀op k a cH b,dE C s op T (.int k a) (.int cH b)=hh op k a cH b)/\
  (∀op a b,dE C s op T (.str a) (.str b)=lb op a b)/\
  (∀a b,dE C s .eql T (.bool a) (.bool b)=Ar (C.T T).k (a==b))/\
  (∀a b,dE C s .neq T (.bool a) (.bool b)=Ar (C.T T).k (!(a==b)))/\
  (∀xs,dE C s .eql T (.slice xs) .a5=py false (C.T T).k (h1 s (.slice xs)))/\
  (∀xs,dE C s .neq T (.slice xs) .a5=py true (C.T T).k (h1 s (.slice xs)))/\
  (dE C s .eql T .a5 .a5=py false (C.T T).k (h1 s .a5))/\
  (dE C s .neq T .a5 .a5=py true (C.T T).k (h1 s .a5))/\
  (∀x q,dE C s .eql T (.h x q) .a5=py false (C.T T).k (h1 s (.h x q)))/\
  (∀x q,dE C s .neq T (.h x q) .a5=py true (C.T T).k (h1 s (.h x q)))/\
  (∀x q,dE C s .eql T (.h x q) .cJ=qG false (C.T T).k (jv s (.h x q)))/\
  (∀x q,dE C s .neq T (.h x q) .cJ=qG true (C.T T).k (jv s (.h x q)))/\
  (∀d,dE C s .eql T (.ref d) .cJ=qG false (C.T T).k (jv s (.ref d)))/\
  (∀d,dE C s .neq T (.ref d) .cJ=qG true (C.T T).k (jv s (.ref d)))/\
  (dE C s .eql T .cJ .cJ=qG false (C.T T).k (jv s .cJ))/\
  (dE C s .neq T .cJ .cJ=qG true (C.T T).k (jv s .cJ)):=by
 refine⟨?_,?_,?_,?_,?_,?_,?_,?_,?_,?_,?_,?_,?_,?_,?_,?_⟩<;>intros<;>first
  |rfl
  |(simp only[dE]
    generalize (C.T T).k=ia;cases ia<;>first|rfl|(simp only[py];generalize h1 s _=v;cases v<;>rfl)|(simp only[qG];generalize jv s _=v;cases v<;>(try (rename_i b;cases b))<;>rfl))
theorem FY (k:IntKind) (a b:Int):
  hh .add k a k b=some (.int k (k.wrap (a+b)))/\hh .sub k a k b=some (.int k (k.wrap (a-b)))/\hh .mul k a k b=some (.int k (k.wrap (a*b)))/\
  hh .eql k a k b=some (.bool (a==b))/\hh .neq k a k b=some (.bool (a !=b))/\hh .lss k a k b=some (.bool (decide (a<b)))/\hh .leq k a k b=some (.bool (decide (a<=b)))/\
  hh .gtr k a k b=some (.bool (decide (b<a)))/\hh .geq k a k b=some (.bool (decide (b<=a)))/\
  hh .and k a k b=some (.int k (bitsOf .and k a b))/\hh .or k a k b=some (.int k (bitsOf .or k a b))/\hh .xor k a k b=some (.int k (bitsOf .xor k a b))/\hh .andNot k a k b=some (.int k (bitsOf .andNot k a b)):=by
 simp[hh]
theorem Nl {k:IntKind} {a b:Int} (h:b≠0):hh .quo k a k b=some (.int k (k.wrap (a.tdiv b))):=by simp[hh,h]
theorem Nm {k:IntKind} {a b:Int} (h:b≠0):hh .rem k a k b=some (.int k (a.tmod b)):=by simp[hh,h]
theorem FZ (a b:Xq):
  lb .eql a b=some (.bool (a==b))/\lb .neq a b=some (.bool !(a==b))/\lb .lss a b=some (.bool (Op.bytesLess a b))/\
  lb .leq a b=some (.bool (Op.bytesLess a b||a==b))/\lb .gtr a b=some (.bool !(Op.bytesLess a b||a==b))/\lb .geq a b=some (.bool !(Op.bytesLess a b)):=by
 refine⟨rfl,rfl,rfl,rfl,rfl,rfl⟩
theorem F1:(∀b,un .not (.bool b)=some (.bool !b))/\(un .not .dR=some .dR)/\(∀k n,un .neg (.int k n)=some (.int k (k.wrap (0-n)))):=⟨λ_=>rfl,rfl,λ_ _=>rfl⟩
def As:kI->Option UInt8->Option I
 | .str,some c=>some (.int .u8 c.toNat)
 |_,_=>none
theorem F2 (C:bA) (T:TypeId) (l:Xq) (k:IntKind) (n:Int):idx C T (.str l) (.int k n)=As (C.T T).k (bR l n):=by
 simp only[idx,bR];generalize (C.T T).k=ia;cases ia<;>first|rfl|(simp only[As];split<;>first|rfl|(cases l[n.toNat]? <;>rfl))
def At (C:bA):kI->Option I->Option I
 | .slice e,some d=>if(C.T e).ok=true/\d.wd=(C.T e).sz then some (.ref d)else none
 |_,_=>none
theorem F3 (C:bA) (s:ah) (T:TypeId) (xs:Xy) (k:IntKind) (n:Int):h_ C s T (.slice xs) (.int k n)=At C (C.T T).k (bR xs n):=by
 simp only[h_,bR];generalize (C.T T).k=ia;cases ia<;>first|rfl|skip
 simp only[At];by_cases ba:0<=n
 .simp only[ba,true_and,if_true];split
  .cases xs[n.toNat]? <;>simp[*]
  .cases xs[n.toNat]? <;>simp[*]
 .simp only[ba,false_and,if_false]
def uq (C:bA) (y:Nat) (q:Xt) (n:Int):kI->Option I->Option I
 | .slice e,some (.aw sz xs)=>if(bR xs n).isSome=true/\(C.T e).ok=true/\sz=(C.T e).sz then some (.ao y (q++[n.toNat]))else none
 |_,_=>none
theorem F4 (C:bA) (s:ah) (T:TypeId) (y:Nat) (q:Xt) (k:IntKind) (n:Int):h_ C s T (.h y q) (.int k n)=uq C y q n (C.T T).k (I.sub q (s y)):=by
 simp only[h_];generalize (C.T T).k=ia;cases ia<;>first|rfl|skip
 rename_i e;cases aa:I.sub q (s y)with
 |none=>simp[uq]
 |some d=>
  cases d<;>first
   |(simp[uq];done)
   |skip
  rename_i sz xs;have bf:(bR xs n).isSome=true↔0<=n/\n.toNat<xs.length:=by
   unfold bR;split<;>simp_all<;>omega
  simp only[uq,bf];by_cases ba:0<=n<;>by_cases ab:(C.T e).ok=true<;>simp[ba,ab]
def r3:kI->ah->Option Xq->Option (I×ah)
 | .str,s,some t=>some (.str t,s)
 |_,_,_=>none
def r4 (C:bA):kI->ah->Xy->Option Xy->Option (I×ah)
 | .slice e,s,xs,some t=>if(C.T e).ok=true/\∀d∈xs,d.wd=(C.T e).sz then some (.slice t,s)else none
 |_,_,_,_=>none
theorem F5 (C:bA) (s:ah) (T:TypeId) (l:Xq):
  (∀k a cH b,eb C s T (.str l) (some (.int k a)) (some (.int cH b))=r3 (C.T T).k s (fF l a b))/\
  (∀cH b,eb C s T (.str l) none (some (.int cH b))=r3 (C.T T).k s (fF l 0 b))/\
  (∀k a,eb C s T (.str l) (some (.int k a)) none=r3 (C.T T).k s (fF l a l.length)):=by
 have e:∀(c9 aE:Option I) (a b:Int),(gv 0 c9=if 0<=a then some a.toNat else none)->(gv l.length aE=if 0<=b then some b.toNat else none)->eb C s T (.str l) c9 aE=r3 (C.T T).k s (fF l a b):=by
  intro c9 aE a b ab ad;simp only[eb];generalize (C.T T).k=ia;cases ia<;>first|rfl|skip
  simp only[ab,ad,fF];by_cases bQ:0<=a<;>by_cases U:0<=b<;>simp only[bQ,U,if_true,if_false,r3,true_and,false_and]
  .by_cases aj:a<=b/\b<=l.length
   .rw[if_pos ⟨by omega,by omega⟩,if_pos aj]
   .rw[if_neg (λh=>aj ⟨by omega,by omega⟩),if_neg aj]
  .rw[if_neg (by omega)]
 exact⟨λk a cH b=>e _ _ a b rfl rfl,λcH b=>e _ _ 0 b rfl rfl,λk a=>e _ _ a l.length rfl (by simp[gv])⟩
theorem F6 (C:bA) (s:ah) (T:TypeId) (xs:Xy):
  (∀k a cH b,eb C s T (.slice xs) (some (.int k a)) (some (.int cH b))=r4 C (C.T T).k s xs (fF xs a b))/\
  (∀cH b,eb C s T (.slice xs) none (some (.int cH b))=r4 C (C.T T).k s xs (fF xs 0 b))/\
  (∀k a,eb C s T (.slice xs) (some (.int k a)) none=r4 C (C.T T).k s xs (fF xs a xs.length)):=by
 have e:∀(c9 aE:Option I) (a b:Int),(gv 0 c9=if 0<=a then some a.toNat else none)->(gv xs.length aE=if 0<=b then some b.toNat else none)->eb C s T (.slice xs) c9 aE=r4 C (C.T T).k s xs (fF xs a b):=by
  intro c9 aE a b ab ad;simp only[eb];generalize (C.T T).k=ia;cases ia<;>first|rfl|skip
  simp only[ab,ad,fF];by_cases bQ:0<=a<;>by_cases U:0<=b<;>simp only[bQ,U,if_true,if_false,r4,true_and,false_and]
  .by_cases aj:a<=b/\b<=xs.length
   .rw[if_pos aj];have ab:a.toNat<=b.toNat:=by omega
    have ad:b.toNat<=xs.length:=by omega
    simp only[ab,ad,true_and]
   .rw[if_neg (λh=>aj ⟨by omega,by omega⟩),if_neg aj]
  .rw[if_neg (by omega)]
 exact⟨λk a cH b=>e _ _ a b rfl rfl,λcH b=>e _ _ 0 b rfl rfl,λk a=>e _ _ a xs.length rfl (by simp[gv])⟩
def ur (q:Xt):Option I->Option I
 |some d=>I.sub q d
 |none=>none
theorem F7:(∀d,I.sub [] d=some d)/\(∀k q ar,I.sub (k::q) (.agg ar)=ur q ar[k]?)/\(∀k q ar,I.sub (k::q) (.tuple ar)=ur q ar[k]?)/\(∀k q sz xs,I.sub (k::q) (.aw sz xs)=ur q xs[k]?)/\
  (∀q d,I.sub (0::q) (.bh d)=I.sub q d)/\(∀q d,ur q (some d)=I.sub q d)/\
  (∀k q a b,I.sub (k::q) (.int a b)=none):=by
 refine⟨λd=>by simp[I.sub],?_,?_,?_,λq d=>by simp[I.sub],λ_ _=>rfl,λ_ _ _ _=>by simp[I.sub]⟩
 .intro k q ar;simp only[I.sub];cases ar[k]? <;>rfl
 .intro k q ar;simp only[I.sub];cases ar[k]? <;>rfl
 .intro k q sz ar;simp only[I.sub];cases ar[k]? <;>rfl
def F8 (k:Nat) (q:Xt) (n:I) (ar:Xy):Option I->I
 |some d=>.agg (ar.set k (I.put q n d))
 |none=>.agg ar
def F9 (k:Nat) (q:Xt) (n:I) (ar:Xy):Option I->I
 |some d=>.tuple (ar.set k (I.put q n d))
 |none=>.tuple ar
def F_ (k:Nat) (q:Xt) (n:I) (sz:Nat) (xs:Xy):Option I->I
 |some d=>.aw sz (xs.set k (I.put q n d))
 |none=>.aw sz xs
theorem Ga:(∀n d,I.put [] n d=n)/\(∀k q n ar,I.put (k::q) n (.agg ar)=F8 k q n ar ar[k]?)/\(∀k q n ar,I.put (k::q) n (.tuple ar)=F9 k q n ar ar[k]?)/\
  (∀k q n sz xs,I.put (k::q) n (.aw sz xs)=F_ k q n sz xs xs[k]?)/\(∀q n d,I.put (0::q) n (.bh d)= .bh (I.put q n d))/\
  (∀k q n ar d,F8 k q n ar (some d)= .agg (ar.set k (I.put q n d)))/\(∀k q n ar d,F9 k q n ar (some d)= .tuple (ar.set k (I.put q n d)))/\
  (∀k q n sz xs d,F_ k q n sz xs (some d)= .aw sz (xs.set k (I.put q n d))):=by
 refine⟨λn d=>by simp[I.put],?_,?_,?_,λq n d=>by simp[I.put],λ_ _ _ _ _=>rfl,λ_ _ _ _ _=>rfl,λ_ _ _ _ _ _=>rfl⟩
 .intro k q n ar;simp only[I.put];cases ar[k]? <;>rfl
 .intro k q n ar;simp only[I.put];cases ar[k]? <;>rfl
 .intro k q n sz ar;simp only[I.put];cases ar[k]? <;>rfl
theorem Au:(∀k n,I.wd (.int k n)=1)/\(∀b,I.wd (.bool b)=1)/\(∀x,I.wd (.str x)=1)/\(∀x,I.wd (.slice x)=1)/\(∀n x,I.wd (.aw n x)=1)/\(∀x,I.wd (.ref x)=1)/\(∀x,I.wd (.bh x)=1)/\
  I.wd .a5=1/\I.wd .cJ=1/\I.wd .hole=1/\I.wd .dR=1/\(∀x y,I.wd (.h x y)=1)/\(∀x y,I.wd (.ao x y)=1)/\(∀x y,I.wd (.fn x y)=1)/\(∀ar,I.wd (.agg ar)=I.c3 ar)/\(∀ar,I.wd (.tuple ar)=I.c3 ar)/\I.c3 []=0/\(∀d ds,I.c3 (d::ds)=d.wd+I.c3 ds):=by
 simp[I.wd,I.c3]
theorem Nn {α:Type} {e:α->I} {n:Nat} (h:∀x,(e x).wd=n) (xs:List α):(∀d∈xs.map e,d.wd=n)=True:=by
 simp only[List.mem_map,eq_iff_iff,iff_true];rintro d ⟨x,_,rfl⟩;exact h x
theorem Np (C:bA) (s:ah) (A B:TypeId) (k cH:IntKind) (n:Int) (hj:(C.T A).ok=true) (fu:(C.T B).k= .int cH):hi C s A B (.int k n)=some (.int cH (cH.wrap n)):=by
 simp only[hi,hj,fu,if_true]
theorem Gb (m:Int):jf (n3 m)= .int .u8 (u8.wrap m):=by
 have h:0<=u8.wrap m/\u8.wrap m<256:=by rw[wrap_u8];omega
 simp only[jf,n3,UInt8.toNat_ofNat'];congr 1;omega
theorem Av (m:Int):((n3 m).toNat:Int)=u8.wrap m:=by
 have h:=Gb m;simpa [jf]using h
section
variable {C:bA} {l:Xx} {Q:Exit->ah->Prop} {s:ah}
theorem jG {ros:List bW} {k:Xt} (h:cw C (au l) ros none (λ_ s=>Q .normal (au (fB k s)))):bc C (.eM ros (some k)) Q (au l):=uh (λ_ _ h=>h) h
theorem Nq {a b:aL} (h:∀de:Exit->ah->Prop,(∀s,dC (bc C b Q) s->de .normal s)->(∀s,Q .ret s->de .ret s)->(∀i s,Q (.exit i) s->de (.exit i) s)->bc C a de s):bc C (.seq a b) Q s:=
 h _ (λ_ h=>h) (λ_ h=>h) (λ_ _ h=>h)
theorem df {ros:List bW} {k:Xt} {b:aL} (h:cw C (au l) ros none (λ_ s=>bc C b Q (au (fB k s)))):bc C (.seq (.eM ros (some k)) b) Q (au l):=uh (λ_ _ h=>.inl h) h
theorem qH {ros:List bW} {eE:Xr} {k:Xt} {b:aL} (hlen:eE.length=ros.length) (h:cw C (au l) ros (some []) (λacc s=>j3 (pv eE) 0 [] (acc.getD []).reverse=true/\bc C b Q (au (fB k s)))):
  bc C (.seq (.jl ros eE (some k)) b) Q (au l):=Nb (K:=λs=>dC (bc C b Q) (au (fB k s))) hlen (by
   have key:∀(os:List bW) (s:ah) (acc:Option (List ee)),cw C s os acc (λacc s=>j3 (pv eE) 0 [] (acc.getD []).reverse=true/\bc C b Q (au (fB k s)))->
     cw C s os acc (λacc s=>j3 (pv eE) 0 [] (acc.getD []).reverse=true/\dC (bc C b Q) (au (fB k s))):=by
    intro os;induction os with
    |nil=>intro s acc h;exact⟨h.1,.inl h.2⟩
    |cons o os ih=>
     intro s acc h;have mono:∀{s:ah} {a9:cU} {K cA:Xt->I->ah->Prop},(∀a b c,K a b c->cA a b c)->lh C s a9 K->lh C s a9 cA:=by
      intro s a9 K cA ai h;cases a9 with
      |call f args=>
       obtain⟨g,caps,ps,r,ab,fl,ad,aB,aY,bn,cb,cc,ea⟩:=h;exact⟨g,caps,ps,r,ab,fl,ad,aB,aY,bn,cb,cc,ai _ _ _ ea⟩
      |shr a9=>obtain⟨av,s1,ab,ad,aB,aY⟩:=h;exact⟨av,s1,ab,ad,aB,ai _ _ _ aY⟩
      |jy f args us=>
       obtain⟨b1,g,caps,ps,r,ab,fl,ad,aB,aY,bn,cb,cc,ea,hH⟩:=h;exact⟨b1,g,caps,ps,r,ab,fl,ad,aB,aY,bn,cb,cc,ea,ai _ _ _ hH⟩
      |_=>obtain⟨av,s1,ab,ad⟩:=h;exact⟨av,s1,ab,ai _ _ _ ad⟩
     simp only[cw,ks]at h⊢;split
     .rename_i bf;rw[bf]at h;exact mono (λ_ _ _=>ih _ _) h
     .rename_i t eh bf;rw[bf]at h;simp only at h;split
      .rename_i Wi aa;rw[aa]at h;simp only at h;split
       .rename_i U;rw[if_pos U]at h;exact mono (λ_ _ _=>ih _ _) h
       .rename_i U;rw[if_neg U]at h;exact ih _ _ h
      .rename_i aa;rw[aa]at h;exact ih _ _ h
      .rename_i ab ad;split at h
       .exact ab _ (by assumption)
       .exact ad (by assumption)
       .exact h
   exact key _ _ _ h)
theorem iV {c:aX} {a b:aL} (aj:a6 s c= .bool true) (h:bc C a Q s):bc C (.cond c a b) Q s:=by simp only[bc,aj,if_true];exact h
theorem nB {c:aX} {a b:aL} (aj:a6 s c= .bool false) (h:bc C b Q s):bc C (.cond c a b) Q s:=by simp only[bc,aj];exact h
theorem Gc {c:aX} {a b:aL} (aj:a6 s c= .dR) (ab:bc C a Q s) (ad:bc C b Q s):bc C (.cond c a b) Q s:=by simp only[bc,aj];exact⟨ab,ad⟩
theorem Nr {id:Nat} {b:aL} (h:∀de:Exit->ah->Prop,(∀s,Q .normal s->de .normal s)->(∀s,Q .ret s->de .ret s)->(∀s,Q .normal s->de (.exit id) s)->(∀i s,i≠id->Q (.exit i) s->de (.exit i) s)->bc C b de s):bc C (.block id b) Q s:=
 h (rX id Q) (λ_ h=>h) (λ_ h=>h) (λs h=>by simp only[rX,if_true];exact h) (λi s aE h=>by simp only[rX,if_neg aE];exact h)
theorem el {id:Nat} (h:Q (.exit id) s):bc C (.exit id) Q s:=h
theorem lj (h:Q .ret s):bc C .ret Q s:=h
theorem bd (h:Q .normal s):bc C .skip Q s:=h
def dy (C:bA) (b:aL) (Q:Exit->ah->Prop) (s:ah):Prop:=∀Z:ah->Prop,(∀ax,bc C b (andThen (dC Z) Q) ax->Z ax)->Z s
theorem qI {b:aL} (h:dC (dy C b Q) s):bc C (.loop b) Q s:=h
theorem Ns {b:aL} (h:∀de:Exit->ah->Prop,(∀s,dC (dy C b Q) s->de .normal s)->(∀s,Q .ret s->de .ret s)->(∀i s,Q (.exit i) s->de (.exit i) s)->bc C b de s):dy C b Q s:=by
 intro Z rY;refine rY s (Fh b ?_ (h (andThen (dC (dy C b Q)) Q) (λ_ h=>h) (λ_ h=>h) (λ_ _ h=>h)));intro e ax bj;cases e with
 |normal=>exact qA (λs h=>h Z rY) ax bj
 |_=>exact bj
theorem cL {bU:Xx} (h:bU.map (·.2)=bU.map λp=>s p.1):rW s bU:=by
 intro p ao;left;induction bU with
 |nil=>cases ao
 |cons a bU ih=>
  simp only[List.map_cons,List.cons.injEq]at h;rcases List.mem_cons.1 ao with rfl|ao
  .exact h.1
  .exact ih h.2 ao
end
section
variable {C:bA} {l:Xx} {Q:Exit->ah->Prop} {s:ah} {os ros:List bW} {K:Option (List ee)->ah->Prop} {dst:Option Nat}
theorem Gd (l:Xx):(∀n,a6 (au l) (.t n)=nb n (au l n))/\(∀av,a6 (au l) (.c av)=av)/\(∀g,a6 (au l) (.f g)= .fn g []):=⟨λ_=>rfl,λ_=>rfl,λ_=>rfl⟩
theorem Ge:(∀t,au [] t= .hole)/\(∀u d (l:Xx) t,au ((u,d)::l) t=if t=u then d else au l t):=⟨λ_=>rfl,λ_ _ _ _=>rfl⟩
theorem Gf (s:ah):fB [] s=[]/\(∀t k,fB (t::k) s=(t,s t)::fB k s):=⟨rfl,λ_ _=>rfl⟩
theorem Gg (s:ah):(∀d,jm s (some d)=some (d,s))/\(∀s1,da (some s1)=some (.hole,s1))/\h4 s []=[]/\(∀x xs,h4 s (x::xs)=a6 s x::h4 s xs)/\px s []=[]/\(∀k x xs,px s ((k,x)::xs)=(k,a6 s x)::px s xs)/\
  um s none=none/\(∀x,um s (some x)=some (a6 s x))/\(∀b x y,FM s (.bool b) x y=some (if b=true then x else y,s)):=
 ⟨λ_=>rfl,λ_=>rfl,rfl,λ_ _=>rfl,rfl,λ_ _ _=>rfl,rfl,λ_=>rfl,λb _ _=>by cases b<;>rfl⟩
theorem Gh (C:bA):(∀e d,At C (.slice e) (some d)=if(C.T e).ok=true/\d.wd=(C.T e).sz then some (.ref d)else none)/\
  (∀y q n e sz xs,uq C y q n (.slice e) (some (.aw sz xs))=if(bR xs n).isSome=true/\(C.T e).ok=true/\sz=(C.T e).sz then some (.ao y (q++[n.toNat]))else none)/\
  (∀e s xs t,r4 C (.slice e) s xs (some t)=if(C.T e).ok=true/\∀d∈xs,d.wd=(C.T e).sz then some (.slice t,s)else none):=
 ⟨λ_ _=>rfl,λ_ _ _ _ _ _=>rfl,λ_ _ _ _=>rfl⟩
theorem Gi:(∀b,Ar .bool b=some (.bool b))/\(∀c,As .str (some c)=some (.int .u8 c.toNat))/\(∀s t,r3 .str s (some t)=some (.str t,s))/\(∀q d,ur q (some d)=I.sub q d):=
 ⟨λ_=>rfl,λ_=>rfl,λ_ _=>rfl,λ_ _=>rfl⟩
theorem Gj (sz bytes:Nat) (z:I):(∀k,eU.ok ⟨.int k,sz,bytes,z⟩=true)/\eU.ok ⟨.bool,sz,bytes,z⟩=true/\eU.ok ⟨.str,sz,bytes,z⟩=true/\(∀e,eU.ok ⟨.ptr e,sz,bytes,z⟩=true)/\(∀e,eU.ok ⟨.slice e,sz,bytes,z⟩=true)/\(∀e,eU.ok ⟨.struct e,sz,bytes,z⟩=true)/\eU.ok ⟨.fn,sz,bytes,z⟩=true:=by
 simp[eU.ok]
theorem Gk (sz bytes:Nat) (z:I):(∀k,eU.flat ⟨.int k,sz,bytes,z⟩=true)/\eU.flat ⟨.bool,sz,bytes,z⟩=true/\eU.flat ⟨.str,sz,bytes,z⟩=true/\(∀e,eU.flat ⟨.ptr e,sz,bytes,z⟩=true)/\(∀e,eU.flat ⟨.slice e,sz,bytes,z⟩=true)/\(∀e,eU.flat ⟨.struct e,sz,bytes,z⟩=false)/\eU.flat ⟨.fn,sz,bytes,z⟩=true:=by
 simp[eU.flat]
theorem uu (c:UInt8) (k:IntKind) (ai:k≠.i8):k.wrap (c.toNat:Int)=(c.toNat:Int):=by
 have:=c.toNat_lt;cases k<;>first|(exact(ai rfl).elim)|(simp[wrap,IntKind.bits,signed];try omega)
theorem Aw (c:UInt8):i64.wrap (c.toNat:Int)=(c.toNat:Int)/\u64.wrap (c.toNat:Int)=(c.toNat:Int)/\u8.wrap (c.toNat:Int)=(c.toNat:Int)/\i32.wrap (c.toNat:Int)=(c.toNat:Int)/\u32.wrap (c.toNat:Int)=(c.toNat:Int):=
 ⟨uu c _ (by simp),uu c _ (by simp),uu c _ (by simp),uu c _ (by simp),uu c _ (by simp)⟩
theorem cB {k:Xt} {K:ah->Prop} (bU:Xx) (h:∀P:Xx->Prop,P bU->cw C (au l) ros none (λ_ s=>P (fB k s))) (ai:K (au bU)):cw C (au l) ros none (λ_ s=>K (au (fB k s))):=
 h (λl=>K (au l)) ai
theorem qJ {k:Xt} {kX:Xr} {K:ah->Prop} (bU:Xx) (h:∀P:Xx->Prop,P bU->cw C (au l) ros (some []) (λacc s=>j3 kX 0 [] (acc.getD []).reverse=true/\P (fB k s))) (ai:K (au bU)):
  cw C (au l) ros (some []) (λacc s=>j3 kX 0 [] (acc.getD []).reverse=true/\K (au (fB k s))):=
 h (λl=>K (au l)) ai
theorem bb.Nt (a0:C.dm) {f:FuncId} {fn:Func} {c:Code} {dt:aL} {fx:Xt} {as outs:Xy} {r:I} (bk:C.P.funcs[f]? =some fn) (U:fn.body=some c)
  (jF:(fn.name== "runtime.NumGoroutine")=false) (aa:eN ⟨fn.ntmps,fx⟩ c=some dt.strip) (aU:as.length<=fn.ntmps)
  (h:∀Q:Exit->ah->Prop,(∀s,dC (Ends C fx fn.results.toList r outs) s->Q .ret s)->(∀s,dC (Ends C fx fn.results.toList r outs) s->Q .normal s)->bc C dt Q (au (num 0 as))) (ao:dt.plain=true:=by kernel_rfl):bb C f as r outs:=by
 refine bb.of_wp a0 bk U jF aa aU ?_ ao;rw[wF];exact h _ (λs h=>⟨.inr rfl,h⟩) (λs h=>⟨.inl rfl,h⟩)
def wN:Xy->I
 |[d]=>d
 |ds=>.tuple ds
theorem pz {fx:Xt} {dr:List ResultVar} {r:I} {outs:Xy} (ds:Xy) (ab:dr.map (mN C s)=ds.map some) (ad:r=wN ds) (aB:(dr.map hE).Nodup)
  (aY:∀(i:Nat) (o:I),outs[i]? =some o->o= .hole\/(o=s i/\o.eW=true/\i∈fx/\i∉dr.map hE)):Ends C fx dr r outs s:=.inl ⟨ds,ab,by subst ad;cases ds with|nil=>rfl|cons a t=>cases t<;>rfl,aB,aY⟩
theorem Nu {fx:Xt} {dr:List ResultVar}:∀(i:Nat) (o:I),([]:Xy)[i]? =some o->o= .hole\/(o=s i/\o.eW=true/\i∈fx/\i∉dr.map hE):=λi o h=>by simp at h
theorem Gl:∀(as ds:Xy),(kr as ds).filter (·.g)=[]
 |[],_=>rfl
 |_::_,[]=>rfl
 |a::as,d::ds=>by simp only[kr,List.filter_cons];exact Gl as ds
theorem wO {f:aX} {args:List aX} {g:FuncId} {caps:Xy} {K:Xt->I->ah->Prop} (ds:Xy) (r:I)
  (ab:a6 (au l) f= .fn g caps) (fl:I.dz caps=true) (hL:views (au l) (h4 (au l) args++caps)=some ds)
  (bn:bb C g ds r []) (cb:r.res=true) (cc:I.cV (h4 (au l) args++caps)=[]\/r.cr=true) (hK:K [] r (au l)):lh C (au l) (.call f args) K:=by
 obtain⟨aM,aS,aV,bK,cn,bB,bt⟩:=MH _ _ hL;refine⟨g,caps,kr (h4 (au l) args++caps) ds,r,ab,fl,by rw[aM,uo],λp ao=>(aV p ao).1,bK,by rw[aS];exact bn.outs cn.symm,cb,?_,by rw[bB,bt,Gl];exact hK⟩;intro hl;refine⟨?_,λp ao=>by rw[(aV p ao).2.2.1];rfl⟩;rcases cc with cc|cc
 .exfalso;simp only[ie,List.any_eq_true]at hl;obtain⟨p,ao,fO⟩:=hl;have hm:=(aV p ao).2.2.2;have:p.a.aa=[]:=by
   have key:∀(as:Xy) (a:I),a∈as->I.cV as=[]->a.aa=[]:=by
    intro as;induction as with
    |nil=>intro a h;cases h
    |cons b as ih=>
     intro a h he;simp only[I.cV,List.append_eq_nil_iff]at he;rcases List.mem_cons.1 h with rfl|h
     .exact he.1
     .exact ih a h he.2
   exact key _ _ hm cc
  rw[this]at fO;simp at fO
 .exact cc
theorem du {f:aX} {args:List aX} {g:FuncId} {caps:Xy} {ds:Xy} {r:I} (bn:bb C g ds r [])
  (ab:a6 (au l) f= .fn g caps:=by rfl) (fl:I.dz caps=true:=by rfl) (hL:views (au l) (h4 (au l) args++caps)=some ds:=by rfl)
  (cb:r.res=true:=by rfl) (cc:I.cV (h4 (au l) args++caps)=[]\/r.cr=true:=by exact .inl (by rfl))
  (hK:cw C (fin (au l) dst r) os none K):cw C (au l) (⟨dst,.call f args,none⟩::os) none K:=by
 simp only[cw,ks,nA];exact wO ds r ab fl hL bn cb cc hK
theorem lk {a:List ee} {f:aX} {args:List aX} {g:FuncId} {caps:Xy} {ds:Xy} {r:I} (bn:bb C g ds r [])
  (ab:a6 (au l) f= .fn g caps:=by rfl) (fl:I.dz caps=true:=by rfl) (hL:views (au l) (h4 (au l) args++caps)=some ds:=by rfl)
  (cb:r.res=true:=by rfl) (cc:I.cV (h4 (au l) args++caps)=[]\/r.cr=true:=by exact .inl (by rfl))
  (hK:cw C (fin (au l) dst r) os (some (hn (au l) (use (au l) (.call f args)) dst [] r::a)) K):cw C (au l) (⟨dst,.call f args,none⟩::os) (some a) K:=by
 simp only[cw,ks,nA];exact wO ds r ab fl hL bn cb cc hK
theorem ku {t:Nat} {b:Bool} {f:aX} {args:List aX} {g:FuncId} {caps:Xy} {ds:Xy} {r:I} (bn:bb C g ds r [])
  (ab:a6 (au l) f= .fn g caps:=by rfl) (fl:I.dz caps=true:=by rfl) (hL:views (au l) (h4 (au l) args++caps)=some ds:=by rfl)
  (cb:r.res=true:=by rfl) (cc:I.cV (h4 (au l) args++caps)=[]\/r.cr=true:=by exact .inl (by rfl))
  (hK:cw C (fin (au l) dst r) os none K):iU C l dst (.call f args) t b os none K (.bool b):=by
 simp only[iU,if_true];exact wO ds r ab fl hL bn cb cc hK
theorem Ax {a:List ee} {t:Nat} {b:Bool} {f:aX} {args:List aX} {g:FuncId} {caps:Xy} {ds:Xy} {r:I} (bn:bb C g ds r [])
  (ab:a6 (au l) f= .fn g caps:=by rfl) (fl:I.dz caps=true:=by rfl) (hL:views (au l) (h4 (au l) args++caps)=some ds:=by rfl)
  (cb:r.res=true:=by rfl) (cc:I.cV (h4 (au l) args++caps)=[]\/r.cr=true:=by exact .inl (by rfl))
  (hK:cw C (fin (au l) dst r) os (some (hn (au l) (t::use (au l) (.call f args)) dst [] r::a)) K):iU C l dst (.call f args) t b os (some a) K (.bool b):=by
 simp only[iU,if_true];exact wO ds r ab fl hL bn cb cc hK
theorem iW (s:ah):views s []=some []/\(∀d ds,views s (d::ds)=(match view s d,views s ds with|some a,some b=>some (a::b)|_,_=>none))/\
  (∀k n,view s (.int k n)=some (.int k n))/\(∀b,view s (.bool b)=some (.bool b))/\(∀x,view s (.str x)=some (.str x))/\(∀x,view s (.slice x)=some (.slice x))/\(∀x,view s (.ref x)=some (.ref x))/\
  view s .a5=some .a5/\view s .cJ=some .cJ/\(∀ar,view s (.agg ar)=some (.agg ar))/\(∀f cap,view s (.fn f cap)=(views s cap).map (.fn f)):=by
 refine⟨rfl,λd ds=>?_,λ_ _=>rfl,λ_=>rfl,λ_=>rfl,λ_=>rfl,λ_=>rfl,rfl,rfl,λ_=>rfl,λ_ _=>by simp only[view]⟩;simp only[views];rfl
theorem cT {α:Type} {u e:α->I} (h:∀x,(u x).share=e x) (xs:List α):I.shares (xs.map u)=xs.map e:=by
 rw[I.o5];simp[h]
theorem iX {α:Type} {u:α->I} (h:∀x,(u x).cr=true) (xs:List α):I.gD (xs.map u)=true:=by
 induction xs with
 |nil=>rfl
 |cons x xs ih=>simp only[List.map_cons,I.gD,h,ih,Bool.and_self]
def pA (s:ah) (H:Xt):Xx->Prop
 |[]=>True
 |p::l=>(p.2=s p.1\/((s p.1).tree=true/\dI (s p.1) p.2/\p.1∉H))/\pA s H l
theorem l8 {bU:Xx} (H:Xt) (j2:I.cV (bU.map (·.2))=H) (h:pA s H bU):rW s bU:=by
 have key:∀(e6:Xx),pA s H e6->∀p∈e6,p.2=s p.1\/((s p.1).tree=true/\dI (s p.1) p.2/\p.1∉H):=by
  intro e6;induction e6 with
  |nil=>intro _ p ao;cases ao
  |cons a e6 ih=>
   intro h p ao;rcases List.mem_cons.1 ao with rfl|ao
   .exact h.1
   .exact ih h.2 p ao
 have aa:∀(e6:Xx),∀b0∈e6,∀u∈b0.2.aa,u∈I.cV (e6.map (·.2)):=by
  intro e6;induction e6 with
  |nil=>intro p ao;cases ao
  |cons a e6 ih=>
   intro p ao u hu;simp only[List.map_cons,I.cV,List.mem_append];rcases List.mem_cons.1 ao with rfl|ao
   .exact .inl hu
   .exact .inr (ih p ao u hu)
 intro p ao;rcases key _ h p ao with ab|⟨ab,ad,aB⟩
 .exact .inl ab
 .refine .inr ⟨ab,ad,λb0 c_=>.inl λhm=>aB ?_⟩;rw[<-j2];exact aa bU b0 c_ _ hm
theorem l9 {H:Xt}:pA s H []:=trivial
theorem iY {H:Xt} {t:Nat} {d:I} {bU:Xx} (h:d=s t) (hl:pA s H bU):pA s H ((t,d)::bU):=⟨.inl h,hl⟩
theorem l_ {H:Xt} {t:Nat} {d a7:I} {bU:Xx} (e:s t=d) (aN:d.tree=true) (af:dI d a7) (j2:t∉H) (hl:pA s H bU):pA s H ((t,a7)::bU):=⟨.inr ⟨by rw[e];exact aN,by rw[e];exact af,j2⟩,hl⟩
theorem Gm {a b:I} (h:dI a b):∀n,iF (List.replicate n a) (List.replicate n b)
 |0=>.nil
 |n+1=>by simp only[List.replicate_succ];exact .cons h (Gm h n)
theorem Gn {α:Type} {sz:Nat} {u:α->I} {z:α} {a:I} (h:dI a (u z)) (n:Nat):dI (.aw sz (List.replicate n a)) (.aw sz ((List.replicate n z).map u)):=by
 rw[List.map_replicate];exact .aw (Gm h n)
end
theorem Nv {C:bA} {A B:TypeId} {cH:IntKind} (hj:(C.T A).ok=true) (fu:(C.T B).k= .int cH):∀s k n,hi C s A B (.int k n)=some (.int cH (cH.wrap n)):=λs k n=>Np C s A B k cH n hj fu
def Gp:Option I->Option I
 |some (.aw 1 xs)=>(bytesOf xs).map .str
 |_=>none
theorem Nw {C:bA} {A B e:TypeId} (hj:(C.T A).k= .slice e) (fu:(C.T B).k= .str) (he:(C.T e).k= .int .u8):
  (∀s xs,hi C s A B (.slice xs)=(bytesOf xs).map .str)/\(∀s,hi C s A B .a5=some (.str []))/\(∀s x q,hi C s A B (.h x q)=Gp (I.sub q (s x))):=by
 have tN:(C.T A).ok=true:=by simp[eU.ok,hj]
 refine⟨λs xs=>?_,λs=>?_,λs x q=>?_⟩
 .simp only[hi,tN,hj,fu,he,if_true]
 .simp only[hi,tN,hj,fu,he,if_true]
 .simp only[hi,tN,hj,fu,he,if_true];rfl
theorem Nx (xs:Xy):Gp (some (.aw 1 xs))=(bytesOf xs).map .str:=rfl
theorem Gq (c:UInt8) (r:Xy):bytesOf (jf c::r)=(bytesOf r).map (c::·):=by
 have:=c.toNat_lt;simp only[jf,bytesOf];rw[if_pos (by omega)];simp
theorem Ny:bytesOf []=some []/\
  (∀l:Xq,bytesOf (l.map jf)=some l)/\
  (∀c r,bytesOf (.int .u8 (c.toNat:Int)::r)=(bytesOf r).map (c::·))/\
  (∀m r,bytesOf (.int .u8 (u8.wrap m)::r)=(bytesOf r).map (n3 m::·)):=
 ⟨rfl,Km,λc r=>Gq c r,λm r=>by rw[<-Gb];exact Gq _ r⟩
theorem Nz {k:IntKind} {b:Int} (h:b≠0):∀a,hh .quo k a k b=some (.int k (k.wrap (a.tdiv b))):=λ_=>Nl h
theorem qK {k:IntKind} {b:Int} (h:b≠0):∀a,hh .rem k a k b=some (.int k (a.tmod b)):=λ_=>Nm h
theorem iZ {α:Type} {e:α->I} {n:Nat} (h:∀x,(e x).wd=n):∀xs:List α,(∀d∈xs.map e,d.wd=n)=True:=Nn h
theorem j4 {P:I->Prop} (d:I) (ds:Xy):(∀x∈d::ds,P x)=(P d/\∀x∈ds,P x):=by simp
theorem all_nil {P:I->Prop}:(∀x∈([]:Xy),P x)=True:=by simp
def Gr (a b:Xq):Option Unit->Option I
 |some _=>some (.str (a++b))
 |none=>none
theorem Gs (a b:Xq):lb .add a b=Gr a b (m7 (a.length+b.length)):=by
 simp only[lb,m7];split<;>rfl
theorem Gt (a b:Xq) (u:Unit):Gr a b (some u)=some (.str (a++b)):=rfl
theorem Gu:(∀l:Xt,[]++l=l)/\(∀a (l m:Xt),(a::l)++m=a::(l++m)):=⟨λ_=>rfl,λ_ _ _=>rfl⟩
def Gv (C:bA) (e bC:TypeId):Bool:=(C.T e).ok&&((C.T e).zero.wd==(C.T e).sz)&&(flat (C.T e).zero).isSome&&vW C e bC
def wP (C:bA) (e:TypeId) (xs:Xy):Option (Xy×ah)->Option (I×ah)
 |some (bT,s2)=>if(∀d∈bT,d.wd=(C.T e).sz)/\(room (C.T e).bytes (xs.length+bT.length)).isSome=true then some (.aw (C.T e).sz (xs++bT),s2)else none
 |none=>none
def Ay (C:bA) (e:TypeId) (y:I) (o:Option Nat):Option (I×ah)->Option (I×ah)
 |some (.aw sz xs,s1)=>if sz=(C.T e).sz then wP C e xs (jz s1 (iP o y))else none
 |_=>none
theorem NA (b n:Nat):(room b n).isSome=true↔n*b<=140737488355328/\n<=9223372036854775807:=by unfold room;split<;>simp_all
theorem j5 {C:bA} {T bC e:TypeId} (gx:(C.T T).k= .slice e) (ey:Gv C e bC=true):∀s x y,oh C s T bC x y=Ay C e y x.owner (nu C e s x):=by
 intro s x y;simp only[Gv,Bool.and_eq_true,beq_iff_eq]at ey;rw[zH,gx];simp only;rw[if_pos ⟨ey.1.1.1,ey.1.1.2,ey.1.2,ey.2⟩];generalize x.owner=o;cases nu C e s x with
 |none=>rfl
 |some p=>
  obtain⟨d,s1⟩:=p;cases d<;>first
   |rfl
   |(simp only[Ay]
     split
     .rename_i h;subst h;generalize jz s1 (iP o y)=z;cases z with
      |none=>rfl
      |some p=>simp only[wP,NA]
     .rfl)
def Gw:Option (I×ah)->Option (Xy×ah)
 |some (.aw _ bT,s2)=>some (bT,s2)
 |_=>none
theorem j6 (s:ah):jz s .a5=some ([],s)/\(∀bT,jz s (.slice bT)=some (bT,s))/\(∀l,jz s (.str l)=some (l.map jf,s))/\
  (∀a q,jz s (.h a q)=Gw (b9 s (.h a q)))/\(∀n bT,Gw (some (.aw n bT,s))=some (bT,s)):=
 ⟨rfl,λ_=>rfl,λ_=>rfl,λ_ _=>by simp only[jz];rfl,λ_ _=>rfl⟩
theorem j7 (C:bA) (e:TypeId):(∀s,nu C e s .a5=some (.aw (C.T e).sz [],s))/\(∀s a q,nu C e s (.h a q)=b9 s (.h a q))/\
  (∀y o sz xs s1,Ay C e y o (some (.aw sz xs,s1))=if sz=(C.T e).sz then wP C e xs (jz s1 (iP o y))else none)/\
  (∀xs bT s2,wP C e xs (some (bT,s2))=if(∀d∈bT,d.wd=(C.T e).sz)/\(room (C.T e).bytes (xs.length+bT.length)).isSome=true then some (.aw (C.T e).sz (xs++bT),s2)else none):=
 ⟨λ_=>rfl,λ_ _ _=>rfl,λ_ _ _ _ _=>rfl,λ_ _ _=>rfl⟩
theorem j8:(∀d,iP none d=d)/\(∀x d,iP (some x) d=bH x d)/\(∀x q,I.owner (.h x q)=some x)/\I.owner .a5=none:=
 ⟨λ_=>rfl,λ_ _=>rfl,λ_ _=>rfl,rfl⟩
def Gx (s:ah) (x:Nat) (q:Xt):Option I->Option (I×ah)
 |some d=>if d.plain=true then none else some (d,cl (ft x s) x (I.put q d.cj (s x)))
 |none=>none
theorem Gy (s:ah) (x:Nat) (q:Xt):b9 s (.h x q)=Gx s x q (I.sub q (s x)):=by
 simp only[b9];cases I.sub q (s x)<;>rfl
theorem Gz (s:ah):(∀x q d,Gx s x q (some d)=if d.plain=true then none else some (d,cl (ft x s) x (I.put q d.cj (s x))))/\(∀k n,b9 s (.int k n)=some (.int k n,s))/\(∀b,b9 s (.bool b)=some (.bool b,s))/\(∀x,b9 s (.str x)=some (.str x,s))/\
  (∀x,b9 s (.slice x)=some (.slice x,s))/\(∀x,b9 s (.ref x)=some (.ref x,s))/\(∀x,b9 s (.agg x)=some (.agg x,s))/\b9 s .a5=some (.a5,s)/\b9 s .cJ=some (.cJ,s):=
 ⟨λ_ _ _=>rfl,λ_ _=>rfl,λ_=>rfl,λ_=>rfl,λ_=>rfl,λ_=>rfl,λ_=>rfl,rfl,rfl⟩
theorem GA (l:Xx) (t:Nat) (d:I):cl (au l) t d=au ((t,d)::l):=uf l t d
theorem GB:(∀n x,I.cj (.aw n x)= .hole)/\(∀x,I.cj (.bh x)= .hole)/\(∀ar,I.cj (.agg ar)= .agg (I.jt ar))/\(∀ar,I.cj (.tuple ar)= .tuple (I.jt ar))/\I.jt []=[]/\(∀d ds,I.jt (d::ds)=d.cj::I.jt ds)/\
  (∀k n,I.cj (.int k n)= .int k n)/\(∀b,I.cj (.bool b)= .bool b)/\(∀x,I.cj (.str x)= .str x)/\(∀x,I.cj (.slice x)= .slice x)/\(∀x,I.cj (.ref x)= .ref x)/\I.cj .a5= .a5/\I.cj .cJ= .cJ/\I.cj .hole= .hole:=by
 simp[I.cj,I.jt]
def qL:Option I->Option I
 |some d=>(match d with| .tuple _=>none| .cS _=>none| .er _ _=>none|d=>if d.plain=true then none else some d.share)
 |none=>none
def qM:Option I->Option I
 |some d=>(match d with| .tuple _=>none|d=>some (.ref d.share))
 |none=>none
theorem i0 (s:ah) (x:Nat) (q:Xt):view s (.h x q)=qL (I.sub q (s x))/\view s (.ao x q)=(if I.ei q (s x)=true then qM (I.sub q (s x))else none):=by
 constructor
 .simp only[view];rfl
 .simp only[view];rfl
theorem i1:(∀n xs,qL (some (.aw n xs))=some (.slice (I.shares xs)))/\(∀d,qL (some (.bh d))=some (.ref d.share))/\(∀ar,qL (some (.agg ar))=if I.dz ar=true then none else some (.agg (I.shares ar)))/\
  (∀ar,qM (some (.agg ar))=some (.ref (.agg (I.shares ar))))/\(∀k n,qM (some (.int k n))=some (.ref (.int k n)))/\(∀x,qM (some (.str x))=some (.ref (.str x))):=
 ⟨λ_ _=>by simp[qL,I.plain,I.share],λ_=>by simp[qL,I.plain,I.share],λar=>by cases h:I.dz ar<;>simp[qL,I.plain,I.share,h],λ_=>by simp[qM,I.share],λ_ _=>by simp[qM,I.share],λ_=>by simp[qM,I.share]⟩
theorem dM:(∀n xs,I.share (.aw n xs)= .slice (I.shares xs))/\(∀d,I.share (.bh d)= .ref d.share)/\(∀xs,I.share (.slice xs)= .slice (I.shares xs))/\(∀d,I.share (.ref d)= .ref d.share)/\(∀ar,I.share (.agg ar)= .agg (I.shares ar))/\(∀ar,I.share (.tuple ar)= .tuple (I.shares ar))/\
  (∀k n,I.share (.int k n)= .int k n)/\(∀b,I.share (.bool b)= .bool b)/\(∀x,I.share (.str x)= .str x)/\I.share .a5= .a5/\I.share .cJ= .cJ/\I.shares []=[]/\(∀d ds,I.shares (d::ds)=d.share::I.shares ds):=by
 simp[I.share,I.shares]
def Az (sz:Nat):Option (Xy×ah)->Option (I×ah)
 |some (ds,s1)=>some (.aw sz ds,s1)
 |none=>none
def eO:Option (Xy×ah)->Option (I×ah)
 |some (ds,s1)=>some (.agg ds,s1)
 |none=>none
theorem NB {C:bA} {T e n sz:Nat} {dG:Xy} (gx:(C.T T).k= .slice e) (cK:(C.T e).sz=sz) (bz:List.replicate n (C.T e).zero=dG)
  (ey:((C.T e).ok&&((C.T e).zero.wd==sz)&&(flat (C.T e).zero).isSome&&(sz !=0)&&decide (n*sz<=16777216))=true):∀s ps,ek C s T n ps=Az sz (jj (λk=>some (k*sz,sz)) s dG [] ps):=by
 intro s ps;subst cK;simp only[Bool.and_eq_true,beq_iff_eq,bne_iff_ne,decide_eq_true_eq]at ey;obtain⟨⟨⟨⟨ab,ad⟩,aB⟩,aY⟩,bn⟩:=ey;unfold ek;rw[gx];simp only;rw[if_pos ⟨ab,ad,aB,aY,bn⟩,bz];cases jj (λk=>some (k*(C.T e).sz,(C.T e).sz)) s dG [] ps<;>rfl
def eA (place:Nat->Option (Nat×Nat)) (k:Nat) (dG:Xy) (os:List (Option Nat)) (r:Xx) (o:Option Nat):Option (Nat×Nat)->Option I->Option (I×ah)->Option (Xy×ah)
 |some (off,n),some z,some (d,s1)=>(match d with
  | .tuple _=>none
  |d=>if d.wd=n/\z.wd=n/\I.c3 (dG.take k)=off then jj place s1 (dG.set k d) (os++[o]) r else none)
 |_,_,_=>none
theorem NC (place:Nat->Option (Nat×Nat)) (s:ah) (dG:Xy) (os:List (Option Nat)):jj place s dG os []=some (dG,s)/\
  (∀k a r,jj place s dG os ((k,a)::r)=eA place k dG os r (ji os a).owner (place k) dG[k]? (b9 s (ji os a))):=by
 refine⟨rfl,λk a r=>?_⟩;simp only[jj];cases b9 s (ji os a)with
 |none=>cases place k<;>cases dG[k]? <;>rfl
 |some p=>
  obtain⟨d,s1⟩:=p;cases place k with
  |none=>cases dG[k]? <;>rfl
  |some q=>cases dG[k]? <;>(cases d<;>rfl)
theorem ND:(∀a,ji [] a=a)/\(∀o os a,ji (o::os) a=ji os (iP o a)):=⟨λ_=>rfl,λ_ _ _=>rfl⟩
theorem gH:(∀k n,I.owner (.int k n)=none)/\(∀b,I.owner (.bool b)=none)/\(∀x,I.owner (.str x)=none)/\(∀x,I.owner (.slice x)=none)/\(∀x,I.owner (.ref x)=none)/\(∀x,I.owner (.agg x)=none)/\I.owner .cJ=none/\I.owner .a5=none/\(∀x q,I.owner (.h x q)=some x):=
 ⟨λ_ _=>rfl,λ_=>rfl,λ_=>rfl,λ_=>rfl,λ_=>rfl,λ_=>rfl,rfl,rfl,λ_ _=>rfl⟩
end Go.cM
