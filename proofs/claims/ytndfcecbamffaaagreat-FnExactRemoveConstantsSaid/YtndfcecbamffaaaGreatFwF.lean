/- Part of a proof that a law returns true for every input. No condition. -/
import Derived.Test.YtndfcecbamffaaaGreatFwE
import Derived.Orders
import Derived.KernelRfl
import Derived.Test.YtndfcecbamffaaaGreatFwA
namespace Go.c3
open Go.IntKind Nat Or
section
variable {C:bH} {w0 w:World} {F0 X:Nat->Prop} {n:Fr} {ρ:Nat->Value} {s s1:ak} {a:Act} {av:I} {Q:Exit->Act->World->Prop}
def bJ.un (o:bJ):bJ:=⟨o.dst,o.bq.base,o.guard⟩
theorem xf {ops:Array Oper}:∀{os:List Oper} {rs:List bJ},oT n ops os=some rs->os.length=rs.length/\∀(i:Nat) (o:Oper),os[i]? =some o->∃r,rs[i]? =some r/\lq n ops o=some r:=by
 intro os;induction os with
 |nil=>intro rs h;simp only[oT,Option.some.injEq]at h;subst h;exact⟨rfl,λi o h=>by simp at h⟩
 |cons o os ih=>
  intro rs h;simp only[oT]at h;split at h
  .rename_i r adT ae af;simp only[Option.some.injEq]at h;subst h;obtain⟨bU,ch⟩:=ih af;refine⟨by simp[bU],λi m5 bO=>?_⟩;cases i with
   |zero=>simp at bO;subst bO;exact⟨r,rfl,ae⟩
   |succ i=>simpa using ch i m5 (by simpa using bO)
  .cases h
theorem xg {o:Oper} {y:Nat->afd} (h:o.guard=none):Region.wanted o y=true:=by simp[Region.wanted,h]
theorem RC (h:Rel w0 F0 X n ρ s a w) {ops:Array Oper} {j t:Nat} (bZ:(ops[j]?).bind (·.dst)=some t):
  (∀b,s t= .bool b->yielded ops a.tmps j=some b)/\(s t= .tuple []->yielded ops a.tmps j=none):=by
 obtain⟨ai,aa,a8,F,S,aR⟩:=h;have ij:=aR.cV t;refine⟨λb U=>?_,λU=>?_⟩
 .rw[U]at ij;have aH:=rD ij;simp only[yielded,bZ,Option.bind_some];rw[Array.getD_eq_getD_getElem?]at aH;cases bl:a.tmps[t]? with
  |none=>rw[bl]at aH;simp[undef]at aH
  |some v=>rw[bl]at aH;simp at aH;subst aH;rfl
 .rw[U]at ij;obtain⟨⟨arr,ae,af⟩,_⟩:=(aG.cd (d:=.tuple []) rfl).1 ij;simp only[yielded,bZ,Option.bind_some];rw[Array.getD_eq_getD_getElem?]at ae;cases bl:a.tmps[t]? with
  |none=>rfl
  |some v=>rw[bl]at ae;simp at ae;subst ae;rfl
theorem uK (a9:C.dL) {ops:Array Oper} {ros:List bJ} {l2:afc} {K:ak->Prop} (a4:∀az ca aB,K az->Rel w0 F0 X n ρ az ca aB->wpOps C.P ops Q l2 ca aB):
  ∀(l:afc),(∀i∈l,(ops[i]? =none->ros[i]? =none)/\∀o,ops[i]? =some o->∃r,ros[i]? =some r/\lq n ops o=some r.un)->
  ∀(s:ak) (a:Act) (w:World),jF C ros s l K->Rel w0 F0 X n ρ s a w->wpOps C.P ops Q (l++l2) a w:=by
 intro l;induction l with
 |nil=>intro _ s a w h aR;exact a4 s a w h aR
 |cons i l ih=>
  intro lR s a w h aR;replace ih:=ih λi aC=>lR i (List.mem_cons_of_mem _ aC);rw[List.cons_append];simp only[wpOps];cases bO:ops[i]? with
  |none=>
   simp only[jF,(lR i (by simp)).1 bO]at h;exact ih s a w h aR
  |some o=>
   obtain⟨r,ae,af⟩:=(lR i (by simp)).2 o bO;simp only[jF,ae]at h;show(if Region.wanted o (yielded ops a.tmps)=true then o.wp C.P a w (wpOps C.P ops Q (l++l2)) Q\/(o.asks C.P a w/\LetsOut Q)else wpOps C.P ops Q (l++l2) (a.put o.dst undef) w);simp only[lq]at af;split at af
   .rename_i z4;split at af
    .rename_i g bl;obtain⟨rd,bq,rg⟩:=r;simp only[bJ.un,Option.some.injEq,bJ.mk.injEq]at af;obtain⟨rfl,cb,rfl⟩:=af;simp only[lu]at h;have run:∀(cZ:ak->Prop),(∀az,cZ az->jF C ros az l K)->n7 C s bq (λav s1=>cZ (fin s1 o.dst av))->o.wp C.P a w (wpOps C.P ops Q (l++l2)) Q:=
      λcZ hK hw=>RA a9 aR cb z4 hw (λaz ca aB aj dS=>ih az ca aB (hK az aj) dS)
     cases oW:o.guard with
     |none=>
      rw[oW]at bl;simp only[uH,Option.some.injEq]at bl;subst bl;simp only at h;rw[if_pos (xg oW)];exact .inl (run _ (λ_ h=>h) h)
     |some z5=>
      obtain⟨j,b⟩:=z5;rw[oW]at bl;simp only[uH]at bl;split at bl
      .rename_i t aP;simp only[Option.some.injEq]at bl;subst bl;simp only at h;obtain⟨e_,iD⟩:=RC aR aP;have JT:∀(cZ:jF C ros (fin s o.dst (.tuple [])) l K),wpOps C.P ops Q (l++l2) (a.put o.dst undef) w:=λcZ=>ih _ _ _ cZ (Rel.skip aR z4);split at h
       .rename_i eN aa;have a5:=e_ eN aa;split at h
        .rename_i U;subst U;rw[if_pos (by simp[Region.wanted,oW,a5])];exact .inl (run _ (λ_ h=>h) h)
        .rename_i U;rw[if_neg (by simp[Region.wanted,oW,a5,U])];exact JT h
       .rename_i aa;have a5:=iD aa;rw[if_neg (by simp[Region.wanted,oW,a5])];exact JT h
       .exact h.elim
      .cases bl
    .cases af
   .cases af
theorem JU (a9:C.dL) {ops:Array Oper} {ros:List bJ} (mx:oT n ops ops.toList=some (ros.map bJ.un)) {K:ak->Prop} (a4:∀az ca aB,K az->Rel w0 F0 X n ρ az ca aB->Q .normal ca aB):
  ∀(l:afc) (s:ak) (a:Act) (w:World),jF C ros s l K->Rel w0 F0 X n ρ s a w->wpOps C.P ops Q l a w:=by
 obtain⟨hl,lR⟩:=xf mx;intro l s a w h aR;have:=uK (Q:=Q) a9 (ros:=ros) (ops:=ops) (l2:=[]) (K:=K) (n:=n) (ρ:=ρ) (w0:=w0) (F0:=F0) (X:=X) (λaz ca aB aj dS=>a4 az ca aB aj dS) l (λi _=>⟨λbO=>by
   rw[List.getElem?_eq_none_iff,<-List.length_map (f:=bJ.un),<-hl];have:=Array.getElem?_eq_none_iff.1 bO;simpa using this,λo bO=>by
   obtain⟨aE,gp,af⟩:=lR i o (by simpa using bO);obtain⟨r,ae,rfl⟩:∃r,ros[i]? =some r/\r.un=aE:=by simpa using gp
   exact⟨r,ae,af⟩⟩) s a w h aR
 rwa [List.append_nil]at this
theorem Rel.drawn (h:Rel w0 F0 X n ρ s a w) (k:Nat) (aj:w.drawn<=k):Rel w0 F0 X n ρ s a {w with drawn:=k}:=by
 obtain⟨ae,af,a8,F,S,aF⟩:=h;exact⟨ae,af,a8,F,S,aF.grow (λ_ _=>rfl) (Nat.le_refl _) rfl rfl ⟨rfl,λ_=>aj⟩⟩
theorem RD (a9:C.dL) {id:Nat} {ops:Array Oper} {ros:List bJ} (mx:oT n ops ops.toList=some (ros.map bJ.un)) {K:ak->Prop} (a4:∀az ca aB,K az->Rel w0 F0 X n ρ az ca aB->Q .normal ca aB)
  (h:ja C s ros K) (aR:Rel w0 F0 X n ρ s a w):(Code.region id ops false).wp C.P Q a w:=by
 refine wp_region (JU a9 mx a4 _ s a w ?_ aR);have:=Rl C K ros [] s h;have hl:=(xf mx).1;simp only[List.nil_append,List.length_nil,Nat.add_zero,List.map_id']at this;rw[List.length_map]at hl;rw[<-hl]at this;simpa using this
end
def DQ (oX:afa) (l:afc):Prop:=
 l.Nodup/\(∀i,i∈l↔i<oX.length)/\∀u i v,l=u++i::v->∀e∈(oX[i]?).getD [],e∈u
def n9 (ops:Array Oper):afa:=ops.toList.map λo=>(o.after.toList.filter λe=>Region.binds .any e).map (·.on)
def xh (oX:afa):Bool:=oX.zipIdx.all λp=>p.1.all λe=>decide (e<p.2)
theorem RE {oX:afa} (h:xh oX=true) {i:Nat} {l:afc} (aC:oX[i]? =some l):∀e∈l,e<i:=by
 intro e he;simp only[xh,List.all_eq_true]at h;have:=h (l,i) (by rw[List.mem_zipIdx_iff_getElem?];exact aC) e he;simpa using this
theorem RF {ops:Array Oper} (U:xh (n9 ops)=true):∀(fuel t:Nat) (fZ:Array Bool),fZ.size=ops.size->((List.range ops.size).filter λi=> !fZ.getD i true).length<=fuel->
  (Region.linearise.go .any ops fuel t fZ []).Nodup/\(∀i,i∈Region.linearise.go .any ops fuel t fZ []↔(i<ops.size/\fZ.getD i true=false))/\
   ∀u i v,Region.linearise.go .any ops fuel t fZ []=u++i::v->∀e∈((n9 ops)[i]?).getD [],fZ.getD e false=true\/e∈u:=by
 intro fuel;induction fuel with
 |zero=>
  intro t fZ aa hl;have wX:((List.range ops.size).filter λi=> !fZ.getD i true)=[]:=List.length_eq_zero_iff.1 (le_zero.1 hl);refine⟨by simp[Region.linearise.go],λi=>?_,λu i v h=>by simp[Region.linearise.go]at h⟩;simp only[Region.linearise.go,List.reverse_nil,List.not_mem_nil,false_iff,not_and];intro aC a8;have:i∈((List.range ops.size).filter λi=> !fZ.getD i true):=List.mem_filter.2 ⟨List.mem_range.2 aC,by rw[a8];rfl⟩;rw[wX]at this;cases this
 |succ fuel ih=>
  intro t fZ aa hl;have JV:∀i,i∈Region.ready .any ops fZ↔(i<ops.size/\fZ.getD i true=false/\∀e∈((n9 ops)[i]?).getD [],fZ.getD e false=true):=by
   intro i;simp only[Region.ready,List.mem_filter,List.mem_range,Bool.and_eq_true,Bool.not_eq_true'];constructor
   .rintro⟨ae,af,aF⟩;refine⟨ae,af,?_⟩;rw[Array.getElem?_eq_getElem ae]at aF;simp only[Option.map_some,Option.getD_some,Array.all_eq_true_iff_forall_mem]at aF;simp only[n9,List.getElem?_map,Array.getElem?_toList,Array.getElem?_eq_getElem ae,Option.map_some,Option.getD_some,List.mem_map,List.mem_filter];rintro e ⟨x,⟨al,sM⟩,rfl⟩;have:=aF x (by simpa using al);simpa [sM]using this
   .rintro⟨ae,af,aF⟩;refine⟨ae,af,?_⟩;rw[Array.getElem?_eq_getElem ae];simp only[Option.map_some,Option.getD_some,Array.all_eq_true_iff_forall_mem];simp only[n9,List.getElem?_map,Array.getElem?_toList,Array.getElem?_eq_getElem ae,Option.map_some,Option.getD_some,List.mem_map,List.mem_filter]at aF;intro x al;cases sM:Region.binds .any x with
    |false=>simp
    |true=>simpa using aF x.on ⟨x,⟨by simpa using al,sM⟩,rfl⟩
  have hex:(∃i,i<ops.size/\fZ.getD i true=false)->Region.ready .any ops fZ≠[]:=by
   rintro⟨i,ae,af⟩;have:∃i,(i<ops.size/\fZ.getD i true=false)/\∀j,j<i->¬(j<ops.size/\fZ.getD j true=false):=by
    induction i using Nat.strongRecOn with
    |_ i RG=>
     by_cases bZ:∃j,j<i/\(j<ops.size/\fZ.getD j true=false)
     .obtain⟨j,JW,DR,RH⟩:=bZ;exact RG j JW DR RH
     .exact⟨i,⟨ae,af⟩,λj RI an=>bZ ⟨j,RI,an⟩⟩
   obtain⟨k,⟨bU,ch⟩,dd⟩:=this;have:k∈Region.ready .any ops fZ:=(JV k).2 ⟨bU,ch,λe he=>by
    cases b8:(n9 ops)[k]? with
    |none=>rw[b8]at he;simp at he
    |some l=>
     rw[b8]at he;have c5:=RE U b8 e he;have:=dd e c5;rw[not_and]at this;have:=this (by omega);have DS:e<fZ.size:=by omega
     simp only[Array.getD_eq_getD_getElem?,Array.getElem?_eq_getElem DS,Option.getD_some]at this⊢;simpa using this⟩
   intro e;rw[e]at this;cases this
  have JX:Region.linearise.go .any ops (fuel+1) t fZ []=(match(Region.ready .any ops fZ)[t%(Region.ready .any ops fZ).length]? with
   |some i=>Region.linearise.go .any ops fuel (t/(Region.ready .any ops fZ).length) (fZ.setIfInBounds i true) [i]
   |none=>[]):=rfl
  cases xi:(Region.ready .any ops fZ)[t%(Region.ready .any ops fZ).length]? with
  |none=>
   have wX:Region.ready .any ops fZ=[]:=by
    cases aR:Region.ready .any ops fZ with
    |nil=>rfl
    |cons a l=>
     rw[aR]at xi;have:=List.getElem?_eq_none_iff.1 xi;have af:=mod_lt t (show 0<(a::l).length by simp);omega
   rw[JX,xi];refine⟨by simp,λi=>?_,λu i v h=>by simp at h⟩;simp only[List.not_mem_nil,false_iff];intro aC;exact hex ⟨i,aC⟩ wX
  |some i=>
   have aC:=(JV i).1 (List.mem_of_getElem? xi);obtain⟨DT,JY,RJ⟩:=aC;rw[JX,xi];simp only;rw[linearise_go_acc];simp only[List.reverse_singleton,List.singleton_append];have rC:∀j d,(fZ.setIfInBounds i true).getD j d=if j=i then true else fZ.getD j d:=by
    intro j d;split
    .rename_i e;subst e;simp[Array.getD_eq_getD_getElem?,Array.getElem?_setIfInBounds_self_of_lt (show j<fZ.size by omega)]
    .rename_i e;simp[Array.getD_eq_getD_getElem?,Array.getElem?_setIfInBounds_ne (λh=>e h.symm)]
   obtain⟨aV,ba,bT⟩:=ih (t/(Region.ready .any ops fZ).length) (fZ.setIfInBounds i true) (by simpa using aa) (by
    have eG:((List.range ops.size).filter λj=> !(fZ.setIfInBounds i true).getD j true)=((List.range ops.size).filter λi=> !fZ.getD i true).filter λj=>decide (j≠i):=by
     rw[List.filter_filter];apply List.filter_congr;intro j _;rw[rC];by_cases e:j=i<;>simp[e]
    rw[eG];have c5:(((List.range ops.size).filter λi=> !fZ.getD i true).filter λj=>decide (j≠i)).length<((List.range ops.size).filter λi=> !fZ.getD i true).length:=by
     rw[List.length_filter_lt_length_iff_exists];exact⟨i,List.mem_filter.2 ⟨List.mem_range.2 DT,by rw[JY];rfl⟩,by simp⟩
    omega)
   refine⟨?_,λj=>?_,?_⟩
   .rw[List.nodup_cons];refine⟨λhm=>?_,aV⟩;have:=((ba i).1 hm).2;rw[rC,if_pos rfl]at this;cases this
   .rw[List.mem_cons,ba,rC];by_cases e:j=i
    .subst e;simp[DT,JY]
    .simp[e]
   .intro u j v h e he;cases u with
    |nil=>
     simp only[List.nil_append,List.cons.injEq]at h;obtain⟨rfl,rfl⟩:=h;exact .inl (RJ e he)
    |cons xj u=>
     simp only[List.cons_append,List.cons.injEq]at h;obtain⟨rfl,h⟩:=h;rcases bT u j v h e he with bB|bB
     .rw[rC]at bB;split at bB
      .rename_i gd;subst gd;exact .inr (by simp)
      .exact .inl bB
     .exact .inr (by simp[bB])
theorem RK {ops:Array Oper} (U:xh (n9 ops)=true) (t:Nat):DQ (n9 ops) (Region.linearise .any ops t):=by
 have JZ:∀i d,i<ops.size->(Array.replicate ops.size false).getD i d=false:=by
  intro i d aC;simp[Array.getD_eq_getD_getElem?,aC]
 obtain⟨aV,ba,bT⟩:=RF U ops.size t (Array.replicate ops.size false) (by simp) (by
  have:=List.length_filter_le (λi=> !(Array.replicate ops.size false).getD i true) (List.range ops.size);simpa using this)
 have hlen:(n9 ops).length=ops.size:=by simp[n9]
 refine⟨aV,λi=>?_,λu i v h e he=>?_⟩
 .rw[hlen];rw[show Region.linearise .any ops t=Region.linearise.go .any ops ops.size t (Array.replicate ops.size false) []from rfl,ba];exact⟨λh=>h.1,λh=>⟨h,JZ i true h⟩⟩
 .rcases bT u i v h e he with bB|bB
  .exfalso;by_cases J0:e<ops.size
   .rw[JZ e false J0]at bB;cases bB
   .simp[Array.getD_eq_getD_getElem?,J0]at bB
  .exact bB
def ar:afg->ak
 |[],_=>.hole
 |(u,d)::l,t=>if t=u then d else ar l t
mutual
inductive ev:I->I->Prop
 |refl (d:I):ev d d
 |gM (sz:Nat):ev .aN (.ag sz [])
 |s5:ev .aN (.slice [])
 |any (b:Bool):ev (.bool b) .eM
 |share (d:I):d.tree=true->(∀vs,d≠.tuple vs)->(∀o,d≠.dm o)->(∀f c,d≠.eY f c)->(∀c,d≠.gb c)->ev d d.share
 |agg {ds es:afh}:jX ds es->ev (.agg ds) (.agg es)
 |aK {d e:I}:ev d e->ev (.aK d) (.aK e)
 |ag {sz:Nat} {ds es:afh}:jX ds es->ev (.ag sz ds) (.ag sz es)
 |tuple {ds es:afh}:jX ds es->ev (.tuple ds) (.tuple es)
 |ref {d e:I}:ev d e->ev (.ref d) (.ref e)
 |trans {d e f:I}:ev d e->ev e f->ev d f
inductive jX:afh->afh->Prop
 |nil:jX [] []
 |cons {d e:I} {ds es:afh}:ev d e->jX ds es->jX (d::ds) (e::es)
end
mutual
theorem ev.wd:∀{d e:I},ev d e->e.wd=d.wd
 |_,_,.refl _=>rfl
 |_,_,.gM _=>rfl
 |_,_,.s5=>rfl
 |_,_,.any _=>rfl
 |_,_,.share d _ _ _ _ _=>I.zk d
 |_,_,.agg h=>by simp only[I.wd];exact jX.wd h
 |_,_,.aK _=>rfl
 |_,_,.ag _=>rfl
 |_,_,.tuple h=>by simp only[I.wd];exact jX.wd h
 |_,_,.ref _=>rfl
 |_,_,.trans h k=>(ev.wd k).trans (ev.wd h)
theorem jX.wd:∀{ds es:afh},jX ds es->I.dh es=I.dh ds
 |_,_,.nil=>rfl
 |_,_,.cons h aa=>by simp only[I.dh];rw[ev.wd h,jX.wd aa]
end
theorem jX.len {ds es:afh} (h:jX ds es):es.length=ds.length:=by
 induction ds generalizing es with
 |nil=>cases h;rfl
 |cons d ds ih=>cases h with|cons h aa=>simp[ih aa]
theorem jX.all {sz:Nat} {ds es:afh} (h:jX ds es) (ai:∀d∈ds,d.wd=sz):∀d∈es,d.wd=sz:=by
 induction ds generalizing es with
 |nil=>cases h;intro d ai;cases ai
 |cons d ds ih=>
  cases h with
  |cons h aa=>
   intro x al;rcases List.mem_cons.1 al with rfl|al
   .rw[h.wd];exact ai d (by simp)
   .exact ih aa (λd hm=>ai d (by simp[hm])) x al
section
variable {w0 w:World} {F0 X F:Nat->Prop} {S:Nat->Nat->Prop} {s az:ak} {aw:Nat->Value}
def RL (w:World) (F:Nat->Prop) (_d e:I) (cs:aff) (S:Nat->Prop):Prop:=
 ∃hA hB:Nat->Prop,(∀b,hA b->S b)/\(∀b,hB b->S b)/\(∀b,hB b->¬hA b)/\∀bC,(∀b,F b\/hA b->bC b)->ao w bC e cs hB
mutual
theorem ao.oY:∀{d e:I},ev d e->∀{F:Nat->Prop} {cs:aff} {S:Nat->Prop},ao w F d cs S->RL w F d e cs S
 |_,_,.refl _,F,cs,S,h=>⟨λ_=>False,S,λ_ h=>h.elim,λ_ h=>h,λ_ _ h=>h,λbC bb=>ao.mono (λb U=>bb b (.inl U)) _ _ _ _ (λ_ h=>h) h⟩
 | .aN,_,.gM sz,F,cs,S,h=>⟨λ_=>False,S,λ_ h=>h.elim,λ_ h=>h,λ_ _ h=>h,λbC bb=>by simp only[ao]at h⊢;exact .inl ⟨trivial,_,h⟩⟩
 | .aN,_,.s5,F,cs,S,h=>⟨λ_=>False,S,λ_ h=>h.elim,λ_ h=>h,λ_ _ h=>h,λbC bb=>by simp only[ao]at h⊢;exact .inl ⟨trivial,none,0,h,zero_le _,λ_=>rfl⟩⟩
 | .bool _,_,.any b,F,cs,S,h=>⟨λ_=>False,S,λ_ h=>h.elim,λ_ h=>h,λ_ _ h=>h,λbC bb=>by simp only[ao]at h⊢;exact⟨b,h⟩⟩
 |_,_,.share d _ _ _ _ _,F,cs,S,h=>⟨S,λ_=>False,λ_ h=>h,λ_ h=>h.elim,λ_ h=>h.elim,λbC bb=>ao.shared (λb U=>bb b (.inl U)) d cs S (λb U=>bb b (.inr U)) h⟩
 |_,_,.agg i_,F,cs,S,h=>by
  rw[ao]at h;obtain⟨hA,hB,ae,af,aF,a1⟩:=aX.oY i_ h;exact⟨hA,hB,ae,af,aF,λbC bb=>by rw[ao];exact a1 bC bb⟩
 |_,_,.aK ai,F,cs,S,h=>by
  rw[ao]at h;obtain⟨b,cur,ty,fr,aO,bU,ch,dd,cW,ed,dn,h4⟩:=h;obtain⟨hA,hB,ae,af,aF,a1⟩:=ao.oY ai ed;refine⟨hA,λc=>c=b\/hB c,λc an=>dn c (ae c an),?_,?_,λbC bb=>?_⟩
  .rintro c (rfl|an)
   .exact ch
   .exact dn c (af c an)
  .rintro c (rfl|an) a8
   .exact h4 (ae _ a8)
   .exact aF c an a8
  .rw[ao];exact⟨b,cur,ty,fr,hB,bU,.inl rfl,dd,cW,a1 bC bb,λc an=>.inr an,λan=>h4 (af _ an)⟩
 | .ag sz ds,.ag _ es,.ag i_,F,cs,S,h=>by
   rw[ao]at h;have hl:=i_.len;rcases h with⟨ae,af⟩|⟨b,cap,cur,ty,fr,aO,bU,ch,dd,cW,ed,dn,h4,cL,lk,m3,J1⟩
   .refine⟨λ_=>False,S,λ_ h=>h.elim,λ_ h=>h,λ_ _ h=>h,λbC _=>?_⟩;rw[ao];subst ae;exact .inl ⟨List.length_eq_zero_iff.1 (by simpa using hl),af⟩
   .obtain⟨hA,hB,ae,af,aF,a1⟩:=aX.oY i_ lk;refine⟨hA,λc=>c=b\/hB c,λc an=>m3 c (ae c an),?_,?_,λbC bb=>?_⟩
    .rintro c (rfl|an)
     .exact ch
     .exact m3 c (af c an)
    .rintro c (rfl|an) a8
     .exact J1 (ae _ a8)
     .exact aF c an a8
    .rw[ao];refine .inr ⟨b,cap,cur,ty,fr,hB,by rw[hl];exact bU,.inl rfl,dd,cW,by rw[hl];exact ed,dn,h4,i_.all cL,by rw[hl];exact a1 bC bb,λc an=>.inr an,λan=>J1 (af _ an)⟩
 |_,_,.tuple i_,F,cs,S,h=>by
  rw[ao]at h;obtain⟨hA,hB,ae,af,aF,a1⟩:=aX.oY i_ h;exact⟨hA,hB,ae,af,aF,λbC bb=>by rw[ao];exact a1 bC bb⟩
 |_,_,.ref ai,F,cs,S,h=>by
  rw[ao]at h;obtain⟨b,o,c4,ae,af,aF,a1⟩:=h;obtain⟨hA,hB,bU,ch,dd,cW⟩:=ao.oY ai a1;refine⟨λ_=>False,S,λ_ h=>h.elim,λ_ h=>h,λ_ _ h=>h,λbC bb=>?_⟩;rw[ao];exact⟨b,o,c4,ae,bb _ (.inl af),aF,ao.mono (λ_ h=>h) _ _ _ _ (λb U=>ch b U) (cW bC λb U=>bb b (U.imp id λh=>(bU b h).elim))⟩
 |_,_,.trans ai he,F,cs,S,h=>by
  obtain⟨hA,hB,ae,af,aF,a1⟩:=ao.oY ai h;obtain⟨DU,z6,bU,ch,dd,cW⟩:=ao.oY he (F:=λb=>F b\/hA b) (a1 _ λ_ h=>h);refine⟨λb=>hA b\/DU b,z6,?_,λb U=>af b (ch b U),?_,λbC bb=>cW bC λb U=>?_⟩
  .rintro b (h|h)
   .exact ae b h
   .exact af b (bU b h)
  .rintro b U (h|h)
   .exact aF b (ch b U) h
   .exact dd b U h
  .rcases U with(U|U)|U
   .exact bb b (.inl U)
   .exact bb b (.inr (.inl U))
   .exact bb b (.inr (.inr U))
theorem aX.oY:∀{ds es:afh},jX ds es->∀{F:Nat->Prop} {cs:aff} {S:Nat->Prop},aX w F ds cs S->
  ∃hA hB:Nat->Prop,(∀b,hA b->S b)/\(∀b,hB b->S b)/\(∀b,hB b->¬hA b)/\∀bC,(∀b,F b\/hA b->bC b)->aX w bC es cs hB
 |_,_,.nil,F,cs,S,h=>⟨λ_=>False,λ_=>False,λ_ h=>h.elim,λ_ h=>h.elim,λ_ h=>h.elim,λbC bb=>by rw[aX]at h⊢;exact h⟩
 |_,_,.cons ai i_,F,cs,S,h=>by
  rw[aX]at h;obtain⟨bA,bK,S1,S2,rfl,ba,bT,c6,ea,gy⟩:=h;obtain⟨RM,J2,ab,aW,fm,rE⟩:=ao.oY ai ba;obtain⟨DU,z6,ie,hp,jU,cG⟩:=aX.oY i_ bT;refine⟨λb=>RM b\/DU b,λb=>J2 b\/z6 b,?_,?_,?_,λbC bb=>?_⟩
  .rintro b (h|h)
   .exact c6 b (ab b h)
   .exact ea b (ie b h)
  .rintro b (h|h)
   .exact c6 b (aW b h)
   .exact ea b (hp b h)
  .rintro b (h|h) (bB|bB)
   .exact fm b h bB
   .exact gy b (aW b h) (ie b bB)
   .exact gy b (ab b bB) (hp b h)
   .exact jU b h bB
  .rw[aX];refine⟨bA,bK,J2,z6,rfl,rE bC (λb U=>bb b (U.imp id .inl)),cG bC (λb U=>bb b (U.imp id .inr)),λb U=>.inl U,λb U=>.inr U,λb ae af=>gy b (aW b ae) (hp b af)⟩
end
theorem ev.z7:∀{d e:I},ev d e->(∀vs,d≠.tuple vs)->∀vs,e≠.tuple vs
 |_,_,.refl _,h=>h
 |_,_,.gM _,_=>λ_ h=>by cases h
 |_,_,.s5,_=>λ_ h=>by cases h
 |_,_,.any _,_=>λ_ h=>by cases h
 |_,_,.share d _ _ _ _ _,h=>λvs he=>by cases d<;>first|(cases he;done)|exact h _ rfl
 |_,_,.agg _,_=>λ_ h=>by cases h
 |_,_,.aK _,_=>λ_ h=>by cases h
 |_,_,.ag _,_=>λ_ h=>by cases h
 |_,_,.tuple _,h=>λ_ _=>h _ rfl
 |_,_,.ref _,_=>λ_ h=>by cases h
 |_,_,.trans h k,a4=>ev.z7 k (ev.z7 h a4)
theorem ev.hL:∀{d e:I} {v:Value},ev d e->(∀vs,d≠.tuple vs)->c3.hL d v->c3.hL e v
 |_,_,_,.refl _,_,h=>h
 |_,_,_,.gM _,_,h=>h
 |_,_,_,.s5,_,h=>h
 |_,_,_,.any _,_,h=>h
 |_,_,_,.share d _ a4 _ _ _,_,h=>by cases d<;>first|exact h|exact(a4 _ rfl).elim
 |_,_,_,.agg _,_,h=>h
 |_,_,_,.aK _,_,h=>h
 |_,_,_,.ag _,_,h=>h
 |_,_,_,.tuple _,a4,_=>(a4 _ rfl).elim
 |_,_,_,.ref _,_,h=>h
 |_,_,_,.trans h k,a4,aa=>ev.hL k (ev.z7 h a4) (ev.hL h a4 aa)
theorem jX.get:∀{ds es:afh},jX ds es->∀(k:Nat) (e:I),es[k]? =some e->∃d,ds[k]? =some d/\ev d e
 |_,_,.nil,k,e,h=>by simp at h
 |_,_,.cons ai aa,0,e,h=>by simp at h;subst h;exact⟨_,rfl,ai⟩
 |_,_,.cons ai aa,k+1,e,h=>jX.get aa k e (by simpa using h)
theorem ev.dc:∀{d e:I} {v:Value},ev d e->c3.dc d v->c3.dc e v
 |_,_,_,.refl _,aa=>aa
 |_,_,_,.gM _,aa=>aa
 |_,_,_,.s5,aa=>aa
 |_,_,_,.any _,aa=>aa
 |_,_,_,.share _ _ mr _ _ _,aa=>Dz mr aa
 |_,_,_,.agg _,aa=>aa
 |_,_,_,.aK _,aa=>aa
 |_,_,_,.ag _,aa=>aa
 |_,_,_,.ref _,aa=>aa
 |_,_,_,.tuple ai,aa=>by
  obtain⟨arr,ae,af,aF⟩:=aa;refine⟨arr,ae,af.trans ai.len.symm,λk e x he al=>?_⟩;obtain⟨d,aj,hw⟩:=ai.get k e he;obtain⟨ab,aW,fm⟩:=aF k d x aj al;exact⟨hw.hL aW ab,hw.z7 aW,fm.trans hw.wd.symm⟩
 |_,_,_,.trans h k,aa=>ev.dc k (ev.dc h aa)
theorem ev.tree:∀{d e:I},ev d e->d.tree=true->e.tree=true
 |_,_,.refl _,ai=>ai
 |_,_,.gM _,_=>rfl
 |_,_,.s5,_=>rfl
 |_,_,.any _,_=>rfl
 |_,_,.share d _ _ jn DB DC,ai=>by cases d<;>first|exact ai|rfl|exact(jn _ rfl).elim|exact(DB _ _ rfl).elim|exact(DC _ rfl).elim
 |_,_,.agg _,_=>rfl
 |_,_,.aK _,_=>rfl
 |_,_,.ag _,_=>rfl
 |_,_,.tuple _,_=>rfl
 |_,_,.ref _,_=>rfl
 |_,_,.trans h k,ai=>ev.tree k (ev.tree h ai)
mutual
def I.s6:I->afc
 | .h x q=>if q.isEmpty then []else [x]
 | .au x _=>[x]
 | .U x _=>[x]
 | .fn _ cap=>I.xk cap
 |_=>[]
def I.xk:afh->afc
 |[]=>[]
 |d::ds=>d.s6++I.xk ds
end
def xl (s az:ak) (x:Nat) (D:afc):Prop:=az x=s x\/az x= .hole\/((s x).own=true/\(az x).own=true/\x∉D)
theorem xl.less {s az:ak} {x:Nat} {D E:afc} (h:xl s az x D) (DV:∀u∈E,u∈D):xl s az x E:=by
 rcases h with h|h|⟨ae,af,aF⟩
 .exact .inl h
 .exact .inr (.inl h)
 .exact .inr (.inr ⟨ae,af,λal=>aF (DV x al)⟩)
theorem aG.c9 {bC:Nat->Prop} (bb:∀b,F b->bC b):∀n,(∀(d:I) (v:Value) (c7:Nat->Prop),SizeOf.sizeOf d<=n->(∀x∈d.aa,xl s az x d.s6)->aG w F s aw d v c7->aG w bC az aw d v c7)/\
  (∀(ds:afh) (vs:aff),SizeOf.sizeOf ds<=n->(∀x∈I.du ds,xl s az x (I.xk ds))->dC w F s aw ds vs->dC w bC az aw ds vs):=by
 intro n;induction n with
 |zero=>
  refine⟨λd v c7 bF=>?_,λds vs bF=>?_⟩
  .cases d<;>simp at bF<;>omega
  .cases ds<;>simp at bF<;>omega
 |succ n ih=>
  refine⟨λd v c7 bF aj h=>?_,λds vs bF aj h=>?_⟩
  .cases d with
   |hole=>rw[aG];trivial
   |h x q=>
    rw[aG]at h⊢;intro e eG au;rcases aj x (by simp[I.aa])with he|he|⟨kW,DW,xm⟩
    .rw[he]at eG⊢;exact h e eG au
    .rw[he]at eG;cases q with
     |nil=>simp only[I.sub,Option.some.injEq]at eG;subst eG;simp[I.plain]at au
     |cons k q=>simp[I.sub]at eG
    .cases q with
     |nil=>
      simp only[I.sub,Option.some.injEq]at eG;subst eG;obtain⟨b7,J,dD,ej,fV⟩:=h (s x) (by simp only[I.sub]) (sW kW).1;simp only[cj,Option.some.injEq,Prod.mk.injEq,true_and]at dD;exact⟨bX (aw x),none,by simp only[cj],by rw[ej,<-dD.1],((sW DW).2.2.2.2.2 _).2 (((sW kW).2.2.2.2.2 _).1 fV)⟩
     |cons k q=>exact(xm (by simp[I.s6])).elim
   |au x q=>
    rw[aG]at h⊢;intro e eG an;rcases aj x (by simp[I.aa])with he|he|⟨_,_,xm⟩
    .rw[he]at eG an⊢;exact h e eG an
    .rw[he]at an;cases q<;>simp[I.dZ]at an
    .exact(xm (by simp[I.s6])).elim
   |U x k=>
    rw[aG]at h⊢;intro au;rcases aj x (by simp[I.aa])with he|he|⟨_,_,xm⟩
    rotate_left 2
    .exact(xm (by simp[I.s6])).elim
    .rw[he]at au;obtain⟨b,cur,e,fr,ae,af,aF,a1⟩:=h au;exact⟨b,cur,e,fr,ae,bb b af,aF,a1⟩
    .rw[he]at au;simp[I.plain]at au
   |fn f cap=>
    rw[aG]at h⊢;obtain⟨arr,rfl,an⟩:=h;exact⟨arr,rfl,ih.2 _ _ (by simp at bF;omega) (by simpa [I.aa,I.s6]using aj) an⟩
   |_=>
    have bB:=(aG.cd rfl).1 h;exact(aG.cd rfl).2 ⟨bB.1,ao.mono bb _ _ _ _ (λ_ h=>h) bB.2⟩
  .cases ds with
   |nil=>rw[dC]at h⊢;exact h
   |cons d ds=>
    rw[dC]at h⊢;obtain⟨v,jm,rfl,ae,af⟩:=h;simp at bF;simp only[I.du,List.mem_append]at aj;exact⟨v,jm,rfl,ih.1 _ _ _ (by omega) (λx al=>(aj x (.inl al)).less λu hu=>by simp[I.xk,hu]) ae,ih.2 _ _ (by omega) (λx al=>(aj x (.inr al)).less λu hu=>by simp[I.xk,hu]) af⟩
def uL (s:ak) (l:afg):Prop:=
 ∀p∈l,p.2=s p.1\/((s p.1).tree=true/\ev (s p.1) p.2/\∀ck∈l,p.1∉ck.2.aa\/((s p.1).own=true/\p.2.own=true/\p.1∉ck.2.s6))
theorem J3:∀(l:afg) (t:Nat),ar l t= .hole\/∃p∈l,p.1=t/\ar l t=p.2:=by
 intro l;induction l with
 |nil=>intro t;exact .inl rfl
 |cons p l ih=>
  intro t;obtain⟨u,d⟩:=p;simp only[ar];split
  .rename_i e;exact .inr ⟨(u,d),by simp,e.symm,rfl⟩
  .rcases ih t with h|⟨p,au,h⟩
   .exact .inl h
   .exact .inr ⟨p,by simp[au],h⟩
theorem bw.J4 (h:bw w0 F0 X F S s aw w) {l:afg} (hw:uL s l):∃bC aO,bw w0 F0 X bC aO (ar l) aw w:=by
 have each:∀t,∃hA hB:Nat->Prop,(∀b,hA b->S t b)/\(∀b,hB b->S t b)/\(∀b,hB b->¬hA b)/\∀bC,(∀b,F b\/hA b->bC b)->aG w bC (ar l) aw (ar l t) (aw t) hB:=by
  intro t;rcases J3 l t with e|⟨p,au,rfl,e⟩
  .exact⟨λ_=>False,λ_=>False,λ_ h=>h.elim,λ_ h=>h.elim,λ_ h=>h.elim,λbC _=>by rw[e,aG];trivial⟩
  .rw[e];rcases hw p au with aj|⟨aP,j6,_⟩
   .refine⟨λ_=>False,S p.1,λ_ h=>h.elim,λ_ h=>h,λ_ _ h=>h,λbC bb=>?_⟩;rw[aj];refine(aG.c9 (λb U=>bb b (.inl U)) (SizeOf.sizeOf (s p.1))).1 _ _ _ (Nat.le_refl _) ?_ (h.cV p.1);intro x al;rcases J3 l x with gd|⟨ck,dJ,rfl,gd⟩
    .exact .inr (.inl gd)
    .rcases hw ck dJ with js|⟨_,_,jn⟩
     .exact .inl (gd.trans js)
     .rcases jn p au with jn|⟨j_,iF,lp⟩
      .exact(jn (by rw[aj];exact al)).elim
      .exact .inr (.inr ⟨j_,by rw[gd];exact iF,by rw[aj]at lp;exact lp⟩)
   .obtain⟨aV,ba⟩:=(aG.cd aP).1 (h.cV p.1);obtain⟨hA,hB,bU,ch,dd,cW⟩:=ao.oY j6 ba;exact⟨hA,hB,bU,ch,dd,λbC bb=>(aG.cd (j6.tree aP)).2 ⟨j6.dc aV,cW bC bb⟩⟩
 have bA:=λt=>(each t).choose_spec;let hA:=λt=>(each t).choose
 have bK:=λt=>(bA t).choose_spec;let hB:=λt=>(bA t).choose
 have gj:∀t b,hA t b->S t b:=λt=>(bK t).1;have fQ:∀t b,hB t b->S t b:=λt=>(bK t).2.1;have gJ:∀t b,hB t b->¬hA t b:=λt=>(bK t).2.2.1;have gK:=λt=>(bK t).2.2.2;refine⟨λb=>F b\/∃t,hA t b,hB,λb U=>.inl (h.g2 b U),?_,?_,λt b U=>h.ek t b (fQ t b U),?_,λt u b c_ U hu=>h.e9 t u b c_ (fQ t b U) (fQ u b hu),λt b U=>h.c7 t b (fQ t b U),?_,h.old,h.size,h.os,h.tape,h.output,h.hn⟩
 .rintro b (U|⟨t,U⟩)
  .exact h.hk b U
  .exact .inr (h.c7 t b (gj t b U))
 .rintro b (U|⟨t,U⟩)
  .exact h.fu b U
  .exact h.ek t b (gj t b U)
 .rintro t b U (a8|⟨u,hu⟩)
  .exact h.fC t b (fQ t b U) a8
  .by_cases e:t=u
   .subst e;exact gJ t b U hu
   .exact h.e9 t u b e (fQ t b U) (gj u b hu)
 .intro t;exact gK t _ (λb U=>U.imp id λh=>⟨t,h⟩)
end
inductive aM where
 |skip
 |eI (ros:List bJ) (c9:Option afc)
 |jb (ros:List bJ) (oX:afa) (c9:Option afc)
 |seq (a b:aM)
 |cond (c:a6) (a b:aM)
 |block (id:Nat) (b:aM)
 |loop (b:aM)
 |exit (id:Nat)
 |ret
 |hb (T:(Exit->ak->Prop)->ak->Prop) (b:aM)
 |raw (c:Code)
def fp (n:Fr):Code->Option aM
 | .skip=>some .skip
 | .region id ops false=>match oT n ops ops.toList with
   |some r=>some (.eI r none)
   |none=>some (.raw (.region id ops false))
 | .region _ ops true=>if xh (n9 ops)=true then(oT n ops ops.toList).map λr=>.jb r (n9 ops) none else none
 | .seq a b=>match fp n a,fp n b with
   |some a,some b=>some (.seq a b)
   |_,_=>none
 | .cond c a b=>match cY c,fp n a,fp n b with
   |some c,some a,some b=>some (.cond c a b)
   |_,_,_=>none
 | .block id b=>(fp n b).map (.block id)
 | .loop b=>(fp n b).map .loop
 | .exit id=>some (.exit id)
 | .ret=>some .ret
 |_=>none
def aM.kY:aM->aM
 | .eI ros _=>.eI ros none
 | .jb ros eJ _=>.jb ros eJ none
 | .seq a b=>.seq a.kY b.kY
 | .cond c a b=>.cond c a.kY b.kY
 | .block id b=>.block id b.kY
 | .loop b=>.loop b.kY
 | .hb T b=>.hb T b.kY
 |c=>c
def aM.strip:aM->aM
 | .eI ros _=>.eI (ros.map bJ.un) none
 | .jb ros eJ _=>.jb (ros.map bJ.un) eJ none
 | .seq a b=>.seq a.strip b.strip
 | .cond c a b=>.cond c a.strip b.strip
 | .block id b=>.block id b.strip
 | .loop b=>.loop b.strip
 | .hb _ b=>b.strip
 |c=>c
theorem aM.z8:∀c:aM,c.kY.strip=c.strip:=by
 intro c;induction c with
 |seq a b jG jH=>simp only[aM.kY,aM.strip,jG,jH]
 |cond c a b jG jH=>simp only[aM.kY,aM.strip,jG,jH]
 |block id b ih=>simp only[aM.kY,aM.strip,ih]
 |loop b ih=>simp only[aM.kY,aM.strip,ih]
 |hb T b ih=>simp only[aM.kY,aM.strip,ih]
 |_=>rfl
def aM.bare (H:((Exit->ak->Prop)->ak->Prop)->aM->Prop):aM->Prop
 | .eI _ k=>k=none
 | .jb _ _ k=>k=none
 | .seq a b=>a.bare H/\b.bare H
 | .cond _ a b=>a.bare H/\b.bare H
 | .block _ b=>b.bare H
 | .loop b=>b.bare H
 | .hb T b=>H T b
 |_=>True
def aM.lS (H:((Exit->ak->Prop)->ak->Prop)->aM->Prop):aM->Prop
 | .seq a b=>a.lS H/\b.lS H
 | .cond _ a b=>a.lS H/\b.lS H
 | .block _ b=>b.lS H
 | .loop b=>b.lS H
 | .hb T b=>H T b.kY
 |_=>True
theorem aM.z9 {H:((Exit->ak->Prop)->ak->Prop)->aM->Prop}:∀c:aM,c.lS H->c.kY.bare H:=by
 intro c;induction c with
 |seq a b jG jH=>intro h;exact⟨jG h.1,jH h.2⟩
 |cond c a b jG jH=>intro h;exact⟨jG h.1,jH h.2⟩
 |block id b ih=>intro h;exact ih h
 |loop b ih=>intro h;exact ih h
 |eI=>intro _;rfl
 |jb=>intro _;rfl
 |hb T b _=>intro h;exact h
 |_=>intro _;trivial
def aM.plain:aM->Bool
 | .seq a b=>a.plain&&b.plain
 | .cond _ a b=>a.plain&&b.plain
 | .block _ b=>b.plain
 | .loop b=>b.plain
 | .hb _ _=>false
 |_=>true
theorem aM.RN {H:((Exit->ak->Prop)->ak->Prop)->aM->Prop}:∀c:aM,c.plain=true->c.lS H:=by
 intro c;induction c with
 |seq a b jG jH=>intro h;simp only[aM.plain,Bool.and_eq_true]at h;exact⟨jG h.1,jH h.2⟩
 |cond c a b jG jH=>intro h;simp only[aM.plain,Bool.and_eq_true]at h;exact⟨jG h.1,jH h.2⟩
 |block id b ih=>intro h;exact ih h
 |loop b ih=>intro h;exact ih h
 |hb T b _=>intro h;cases h
 |_=>intro _;trivial
def andThen (K:ak->Prop) (Q:Exit->ak->Prop):Exit->ak->Prop
 | .normal,s=>K s
 |e,s=>Q e s
def uM (id:Nat) (Q:Exit->ak->Prop):Exit->ak->Prop
 | .exit i,s=>if i=id then Q .normal s else Q (.exit i) s
 |e,s=>Q e s
def dG (K:ak->Prop) (s:ak):Prop:=K s\/∃l,uL s l/\K (ar l)
def xn:Option afc->(ak->Prop)->ak->Prop
 |none,K,s=>dG K s
 |some k,K,s=>K (ar (k.map λt=>(t,s t)))
def bj (C:bH):aM->(Exit->ak->Prop)->ak->Prop
 | .skip,Q,s=>Q .normal s
 | .eI ros c9,Q,s=>ja C s ros (xn c9 (Q .normal))
 | .jb ros oX c9,Q,s=>∀l,DQ oX l->jF C ros s l (xn c9 (Q .normal))
 | .seq a b,Q,s=>bj C a (andThen (dG (bj C b Q)) Q) s
 | .cond c a b,Q,s=>match a7 s c with
   | .bool eN=>if eN=true then bj C a Q s else bj C b Q s
   | .eM=>bj C a Q s/\bj C b Q s
   |_=>False
 | .block id b,Q,s=>bj C b (uM id Q) s
 | .loop b,Q,s=>dG (λs=>∀Z:ak->Prop,(∀az,bj C b (andThen (dG Z) Q) az->Z az)->Z s) s
 | .exit id,Q,s=>Q (.exit id) s
 | .ret,Q,s=>Q .ret s
 | .hb T _,Q,s=>∀dN:Exit->ak->Prop,(∀e s,Q e s->dN e s)->T dN s
 | .raw _,_,_=>False
section
variable {C:bH}
theorem DX {s:ak} {o:bJ} {K cZ:ak->Prop} (h:lu C s o K) (aj:∀s,K s->cZ s):lu C s o cZ:=by
 unfold lu at h⊢;split
 .rename_i bl;rw[bl]at h;exact z0 h λav s1=>aj _
 .rename_i t b bl;rw[bl]at h;simp only at h;split
  .rename_i eN aa;rw[aa]at h;simp only at h;split
   .rename_i U;rw[if_pos U]at h;exact z0 h λav s1=>aj _
   .rename_i U;rw[if_neg U]at h;exact aj _ h
  .rename_i aa;rw[aa]at h;exact aj _ h
  .rename_i ae af;split at h
   .exact ae _ (by assumption)
   .exact af (by assumption)
   .exact h
theorem J5 {K cZ:ak->Prop} (aj:∀s,K s->cZ s):∀{ros:List bJ} {s:ak},ja C s ros K->ja C s ros cZ:=by
 intro ros;induction ros with
 |nil=>intro s h;exact aj s h
 |cons o ros ih=>intro s h;exact DX h λs h=>ih h
theorem J6 {ros:List bJ} {K cZ:ak->Prop} (aj:∀s,K s->cZ s):∀{l:afc} {s:ak},jF C ros s l K->jF C ros s l cZ:=by
 intro l;induction l with
 |nil=>intro s h;exact aj s h
 |cons i l ih=>
  intro s h;simp only[jF]at h⊢;split
  .rename_i bO;rw[bO]at h;exact ih h
  .rename_i o bO;rw[bO]at h;exact DX h λs h=>ih h
theorem rP {K cZ:ak->Prop} (aj:∀s,K s->cZ s) (s:ak) (h:dG K s):dG cZ s:=
 h.imp (aj s) λ⟨l,ae,af⟩=>⟨l,ae,aj _ af⟩
theorem J7 {c9:Option afc} {K cZ:ak->Prop} (aj:∀s,K s->cZ s) (s:ak) (h:xn c9 K s):xn c9 cZ s:=by
 cases c9 with
 |none=>exact rP aj s h
 |some k=>exact aj _ h
theorem J8 {c9:Option afc} {K:ak->Prop} {s:ak} (h:xn c9 K s):dG K s:=by
 cases c9 with
 |none=>exact h
 |some k=>
  refine .inr ⟨_,?_,h⟩;intro p au;obtain⟨t,_,rfl⟩:=List.mem_map.1 au;exact .inl rfl
theorem DY {K cZ:ak->Prop} {Q dN:Exit->ak->Prop} (aj:∀s,K s->cZ s) (cF:∀e s,Q e s->dN e s):∀e s,andThen K Q e s->andThen cZ dN e s:=by
 intro e s h;cases e with
 |normal=>exact aj s h
 |_=>exact cF _ s h
theorem J9:∀(c:aM) {Q dN:Exit->ak->Prop} {s:ak},(∀e s,Q e s->dN e s)->bj C c Q s->bj C c dN s:=by
 intro c;induction c with
 |skip=>intro Q dN s cF h;exact cF _ _ h
 |eI ros c9=>intro Q dN s cF h;exact J5 (J7 (cF _)) h
 |jb ros oX c9=>intro Q dN s cF h l hl;exact J6 (J7 (cF _)) (h l hl)
 |seq a b jG jH=>
  intro Q dN s cF h;exact jG (DY (λs h=>rP (λ_ h=>jH cF h) s h) cF) h
 |cond c a b jG jH=>
  intro Q dN s cF h;simp only[bj]at h⊢;split
  .rename_i eN U;rw[U]at h;simp only at h;split
   .rename_i e;rw[if_pos e]at h;exact jG cF h
   .rename_i e;rw[if_neg e]at h;exact jH cF h
  .rename_i U;rw[U]at h;exact⟨jG cF h.1,jH cF h.2⟩
  .rename_i ae af;split at h
   .exact ae _ (by assumption)
   .exact af (by assumption)
   .exact h
 |block id b ih=>
  intro Q dN s cF h;refine ih ?_ h;intro e s h;cases e with
  |exit i=>
   simp only[uM]at h⊢;split
   .rename_i e;rw[if_pos e]at h;exact cF _ _ h
   .rename_i e;rw[if_neg e]at h;exact cF _ _ h
  |_=>exact cF _ _ h
 |loop b ih=>
  intro Q dN s cF h;refine rP (λs h Z uN=>?_) s h;exact h Z λaz gu=>uN az (ih (DY (λ_ h=>h) cF) gu)
 |exit id=>intro Q dN s cF h;exact cF _ _ h
 |ret=>intro Q dN s cF h;exact cF _ _ h
 |hb T b _=>intro Q dN s cF h RO af;exact h RO λe s he=>af e s (cF e s he)
 |raw c=>intro Q dN s cF h;exact h
theorem z_:∀(c:aM) {Q:Exit->ak->Prop} {s:ak},bj C c Q s->bj C c.kY Q s:=by
 intro c;induction c with
 |eI ros c9=>intro Q s h;exact J5 (λs h=>J8 h) h
 |jb ros eJ c9=>intro Q s h l hl;exact J6 (λs h=>J8 h) (h l hl)
 |seq a b jG jH=>intro Q s h;exact jG (J9 a (DY (λs h=>rP (λ_ h=>jH h) s h) (λ_ _ h=>h)) h)
 |cond c a b jG jH=>
  intro Q s h;simp only[aM.kY,bj]at h⊢;split
  .rename_i eN U;rw[U]at h;simp only at h;split
   .rename_i e;rw[if_pos e]at h;exact jG h
   .rename_i e;rw[if_neg e]at h;exact jH h
  .rename_i U;rw[U]at h;exact⟨jG h.1,jH h.2⟩
  .rename_i ae af;split at h
   .exact ae _ (by assumption)
   .exact af (by assumption)
   .exact h
 |block id b ih=>intro Q s h;exact ih h
 |loop b ih=>
  intro Q s h;refine rP (λs h Z uN=>?_) s h;exact h Z λaz gu=>uN az (ih gu)
 |hb T b _=>intro Q s h;exact h
 |_=>intro Q s h;exact h
variable {w0 w:World} {F0 X:Nat->Prop} {n:Fr} {ρ:Nat->Value} {s:ak} {a:Act}
def my (w0:World) (F0 X:Nat->Prop) (n:Fr) (ρ:Nat->Value) (Q:Exit->ak->Prop):Exit->Act->World->Prop:=λe a w=>∃s,Q e s/\Rel w0 F0 X n ρ s a w
theorem Rel.dG {K:ak->Prop} {s:ak} {a:Act} {w:World} (aR:Rel w0 F0 X n ρ s a w) (h:dG K s):∃az,K az/\Rel w0 F0 X n ρ az a w:=by
 rcases h with h|⟨l,ae,af⟩
 .exact⟨s,h,aR⟩
 .obtain⟨aV,ba,bT,F,S,c6⟩:=aR;obtain⟨bC,aO,ea⟩:=c6.J4 ae;exact⟨ar l,af,aV,ba,bT,bC,aO,ea⟩
theorem aM.RP {c:aM} (h:c.strip= .skip):c= .skip\/∃T b,c= .hb T b:=by cases c<;>first|exact .inl rfl|exact .inr ⟨_,_,rfl⟩|cases h
theorem aM.RQ {c:aM} (h:c.strip= .ret):c= .ret\/∃T b,c= .hb T b:=by cases c<;>first|exact .inl rfl|exact .inr ⟨_,_,rfl⟩|cases h
theorem aM.RR {c:aM} {i:Nat} (h:c.strip= .exit i):c= .exit i\/∃T b,c= .hb T b:=by cases c<;>first|exact .inl h|exact .inr ⟨_,_,rfl⟩|cases h
theorem aM.RS {c:aM} {x:Code} (h:c.strip= .raw x):c= .raw x\/∃T b,c= .hb T b:=by cases c<;>first|exact .inl h|exact .inr ⟨_,_,rfl⟩|cases h
theorem aM.RT {c:aM} {r:List bJ} {k:Option afc} (h:c.strip= .eI r k):(∃ros c8,c= .eI ros c8/\ros.map bJ.un=r)\/∃T b,c= .hb T b:=by
 cases c<;>first|(cases h;exact .inl ⟨_,_,rfl,rfl⟩)|exact .inr ⟨_,_,rfl⟩|cases h
theorem aM.RU {c:aM} {r:List bJ} {eJ:afa} {k:Option afc} (h:c.strip= .jb r eJ k):(∃ros J_ c8,c= .jb ros J_ c8/\ros.map bJ.un=r/\J_=eJ)\/∃T b,c= .hb T b:=by
 cases c<;>first|(cases h;exact .inl ⟨_,_,_,rfl,rfl,rfl⟩)|exact .inr ⟨_,_,rfl⟩|cases h
theorem aM.RV {c x y:aM} (h:c.strip= .seq x y):(∃a b,c= .seq a b/\a.strip=x/\b.strip=y)\/∃T b,c= .hb T b:=by
 cases c<;>first|(cases h;exact .inl ⟨_,_,rfl,rfl,rfl⟩)|exact .inr ⟨_,_,rfl⟩|cases h
theorem aM.RW {c x y:aM} {o:a6} (h:c.strip= .cond o x y):(∃m5 a b,c= .cond m5 a b/\m5=o/\a.strip=x/\b.strip=y)\/∃T b,c= .hb T b:=by
 cases c<;>first|(cases h;exact .inl ⟨_,_,_,rfl,rfl,rfl,rfl⟩)|exact .inr ⟨_,_,rfl⟩|cases h
theorem aM.RX {c x:aM} {i:Nat} (h:c.strip= .block i x):(∃a,c= .block i a/\a.strip=x)\/∃T b,c= .hb T b:=by
 cases c<;>first|(cases h;exact .inl ⟨_,rfl,rfl⟩)|exact .inr ⟨_,_,rfl⟩|cases h
theorem aM.RY {c x:aM} (h:c.strip= .loop x):(∃a,c= .loop a/\a.strip=x)\/∃T b,c= .hb T b:=by
 cases c<;>first|(cases h;exact .inl ⟨_,rfl,rfl⟩)|exact .inr ⟨_,_,rfl⟩|cases h
def lT:Code->List (Array Oper)
 | .region _ ops _=>[ops]
 | .seq a b=>lT a++lT b
 | .cond _ a b=>lT a++lT b
 | .block _ b=>lT b
 | .loop b=>lT b
 |_=>[]
theorem Ka (a9:C.dL) {H:((Exit->ak->Prop)->ak->Prop)->aM->Prop} {R:List (Array Oper)}
  (lv:∀(c:Code) (T:(Exit->ak->Prop)->ak->Prop) (b:aM) (Q:Exit->ak->Prop) (s:ak) (a:Act) (w:World),(∀r∈lT c,r∈R)->H T b->fp n c=some b.strip->T Q s->Rel w0 F0 X n ρ s a w->c.wp C.P (my w0 F0 X n ρ Q) a w):
  ∀(c:Code) {dO:aM} {Q:Exit->ak->Prop} {s:ak} {a:Act} {w:World},(∀r∈lT c,r∈R)->fp n c=some dO.strip->dO.bare H->bj C dO Q s->Rel w0 F0 X n ρ s a w->c.wp C.P (my w0 F0 X n ρ Q) a w:=by
 intro c;induction c with
 |skip=>
  intro dO Q s a w eH aa ha h aR;have ke:=aa;simp only[fp,Option.some.injEq]at aa;rcases aM.RP aa.symm with rfl|⟨T,b,rfl⟩
  .exact wp_skip ⟨s,h,aR⟩
  .exact lv _ T b Q s a w eH ha (by simpa only[aM.strip]using ke) (h Q λ_ _ h=>h) aR
 |region id ops draw=>
  intro dO Q s a w eH aa ha h aR;have ke:=aa;cases draw with
  |false=>
   simp only[fp]at aa;split at aa
   rotate_left
   .have gu:=(Option.some.injEq _ _▸aa).symm;rcases aM.RS gu with rfl|⟨T,b,rfl⟩
    .exact h.elim
    .exact lv _ T b Q s a w eH ha (by simpa only[aM.strip]using ke) (h Q λ_ _ h=>h) aR
   rename_i RZ s7;simp only[Option.some.injEq]at aa;rcases aM.RT aa.symm with⟨ros,k,rfl,rfl⟩|⟨T,b,rfl⟩
   rotate_left
   .exact lv _ T b Q s a w eH ha (by simpa only[aM.strip]using ke) (h Q λ_ _ h=>h) aR
   cases ha;exact RD a9 s7 (λaz ca aB aj dS=>dS.dG aj) h aR
  |true=>
   simp only[fp]at aa;split at aa
   .rename_i U;simp only[Option.map_eq_some_iff]at aa;obtain⟨RZ,s7,aa⟩:=aa;rcases aM.RU aa.symm with⟨ros,eJ,k,rfl,rfl,rfl⟩|⟨T,b,rfl⟩
    rotate_left
    .exact lv _ T b Q s a w eH ha (by simpa only[aM.strip]using ke) (h Q λ_ _ h=>h) aR
    cases ha;refine wp_region_draw λt=>?_;rw[show Region.schedule (C.P.follows .mixedOrders) ops t=Region.linearise .any ops t by simp[Region.schedule,a9.mixed]];exact JU a9 s7 (λaz ca aB aj dS=>dS.dG aj) _ s a _ (h _ (RK U t)) (aR.drawn _ (by first|exact le_succ _|exact le_add_right _ _|omega))
   .cases aa
 |seq x y R0 Aa=>
  intro dO Q s a w eH aa ha h aR;have ke:=aa;simp only[fp]at aa;split at aa
  .rename_i w3 R1 al a5;simp only[Option.some.injEq]at aa;rcases aM.RV aa.symm with⟨cw,jo,rfl,rfl,rfl⟩|⟨T,b,rfl⟩
   rotate_left
   .exact lv _ T b Q s a w eH ha (by simpa only[aM.strip]using ke) (h Q λ_ _ h=>h) aR
   refine wp_seq (wp_mono (R0 (λr aR=>eH r (List.mem_append.2 (.inl aR))) al ha.1 h aR) ?_);rintro e ca aB ⟨az,bB,dS⟩;cases e with
   |normal=>
    obtain⟨az,bB,dS⟩:=dS.dG bB;exact Aa (λr aR=>eH r (List.mem_append.2 (.inr aR))) a5 ha.2 bB dS
   |_=>exact⟨az,bB,dS⟩
  .cases aa
 |cond x y z Aa Kb=>
  intro dO Q s a w eH aa ha h aR;have ke:=aa;simp only[fp]at aa;split at aa
  .rename_i w3 R1 sz al a5 bF;simp only[Option.some.injEq]at aa;rcases aM.RW aa.symm with⟨cw,jo,mX,rfl,rfl,rfl,rfl⟩|⟨T,b,rfl⟩
   rotate_left
   .exact lv _ T b Q s a w eH ha (by simpa only[aM.strip]using ke) (h Q λ_ _ h=>h) aR
   have dS:=aR;obtain⟨ai,cO,a8,F,S,hrel⟩:=dS;have aH:=(eg (a:=a) hrel (λ_=>rfl) al).2;simp only[bj]at h;split at h
   .rename_i eN U;rw[U]at aH;have:=rD aH;refine wp_cond this ?_;split
    .rename_i e;rw[if_pos e]at h;exact Aa (λr aR=>eH r (List.mem_append.2 (.inl aR))) a5 ha.1 h aR
    .rename_i e;rw[if_neg e]at h;exact Kb (λr aR=>eH r (List.mem_append.2 (.inr aR))) bF ha.2 h aR
   .rename_i U;rw[U]at aH;obtain⟨eN,lG⟩:=Is aH;refine wp_cond lG ?_;split
    .exact Aa (λr aR=>eH r (List.mem_append.2 (.inl aR))) a5 ha.1 h.1 aR
    .exact Kb (λr aR=>eH r (List.mem_append.2 (.inr aR))) bF ha.2 h.2 aR
   .exact h.elim
  .cases aa
 |block id b ih=>
  intro dO Q s a w eH aa ha h aR;have ke:=aa;simp only[fp,Option.map_eq_some_iff]at aa;obtain⟨zF,U,aa⟩:=aa;rcases aM.RX aa.symm with⟨eN,rfl,rfl⟩|⟨T,b,rfl⟩
  rotate_left
  .exact lv _ T b Q s a w eH ha (by simpa only[aM.strip]using ke) (h Q λ_ _ h=>h) aR
  refine wp_block (wp_mono (ih eH U ha h aR) ?_);rintro e ca aB ⟨az,bB,dS⟩;cases e with
  |exit i=>
   simp only[uM]at bB;simp only[Exit.inBlock];split
   .rename_i e;rw[if_pos e]at bB;exact⟨az,bB,dS⟩
   .rename_i e;rw[if_neg e]at bB;exact⟨az,bB,dS⟩
  |_=>exact⟨az,bB,dS⟩
 |loop b ih=>
  intro dO Q s a w eH aa ha h aR;have ke:=aa;simp only[fp,Option.map_eq_some_iff]at aa;obtain⟨zF,U,aa⟩:=aa;rcases aM.RY aa.symm with⟨eN,rfl,rfl⟩|⟨T,b,rfl⟩
  rotate_left
  .exact lv _ T b Q s a w eH ha (by simpa only[aM.strip]using ke) (h Q λ_ _ h=>h) aR
  obtain⟨s,h,aR⟩:=aR.dG h;have key:=h (λs=>∀a w,Rel w0 F0 X n ρ s a w->∀(f:Frame) (k:List Item) (cs:List Frame),∃e ca aB,my w0 F0 X n ρ Q e ca aB/\Arrives C.P (lone (f.at a (.code b:: .inLoop b::k)) cs w) f k cs e ca aB) ?_
  .intro f k cs;obtain⟨e,ca,aB,cF,rQ⟩:=key a w aR f k cs;exact⟨e,ca,aB,cF,.of_steps (.one step_loop) rQ⟩
  .intro az gu a w aR f k cs;obtain⟨e,a₁,w₁,⟨s1,cF,mz⟩,rQ⟩:=ih eH U ha gu aR f (.inLoop b::k) cs;cases e with
   |normal=>
    simp only[andThen]at cF;obtain⟨s1,cF,mz⟩:=mz.dG cF;obtain⟨e₂,a₂,w₂,hq₂,harr₂⟩:=cF a₁ w₁ mz f k cs;exact⟨e₂,a₂,w₂,hq₂,.of_steps (Steps.trans rQ (.one step_inLoop)) harr₂⟩
   |exit id=>exact⟨_,a₁,w₁,⟨s1,cF,mz⟩,.pass (x:=.inLoop b) rfl (λ_ _=>.inl (by simp)) rQ⟩
   |goto l=>exact⟨_,a₁,w₁,⟨s1,cF,mz⟩,.pass (x:=.inLoop b) rfl (λ_ _=>.inl (by simp)) rQ⟩
   |ret=>exact⟨_,a₁,w₁,⟨s1,cF,mz⟩,.pass (x:=.inLoop b) rfl (λ_ _=>.inl (by simp)) rQ⟩
   |panic adU=>exact⟨_,a₁,w₁,⟨s1,cF,mz⟩,.pass (x:=.inLoop b) rfl (λ_ _=>.inl (by simp)) rQ⟩
   |outgrown=>exact⟨_,a₁,w₁,⟨s1,cF,mz⟩,.pass (x:=.inLoop b) rfl (λ_ _=>.inl (by simp)) rQ⟩
 |exit id=>
  intro dO Q s a w eH aa ha h aR;have ke:=aa;simp only[fp,Option.some.injEq]at aa;rcases aM.RR aa.symm with rfl|⟨T,b,rfl⟩
  .exact wp_exit ⟨s,h,aR⟩
  .exact lv _ T b Q s a w eH ha (by simpa only[aM.strip]using ke) (h Q λ_ _ h=>h) aR
 |ret=>
  intro dO Q s a w eH aa ha h aR;have ke:=aa;simp only[fp,Option.some.injEq]at aa;rcases aM.RQ aa.symm with rfl|⟨T,b,rfl⟩
  .exact wp_ret ⟨s,h,aR⟩
  .exact lv _ T b Q s a w eH ha (by simpa only[aM.strip]using ke) (h Q λ_ _ h=>h) aR
 |_=>intro dO Q s a w eH aa;simp[fp]at aa
theorem DZ (a9:C.dL) {H:((Exit->ak->Prop)->ak->Prop)->aM->Prop}
  (lv:∀(c:Code) (T:(Exit->ak->Prop)->ak->Prop) (b:aM) (Q:Exit->ak->Prop) (s:ak) (a:Act) (w:World),H T b->fp n c=some b.strip->T Q s->Rel w0 F0 X n ρ s a w->c.wp C.P (my w0 F0 X n ρ Q) a w):
  ∀(c:Code) {dO:aM} {Q:Exit->ak->Prop} {s:ak} {a:Act} {w:World},fp n c=some dO.strip->dO.bare H->bj C dO Q s->Rel w0 F0 X n ρ s a w->c.wp C.P (my w0 F0 X n ρ Q) a w:=
 λc _ _ _ _ _ aa U h aR=>Ka a9 (λc T b Q s a w _ gS aa h aR=>lv c T b Q s a w gS aa h aR) c (λ_ aR=>aR) aa U h aR
theorem R2 (a9:C.dL) (c:Code) {dO:aM} {Q:Exit->ak->Prop} {s:ak} {a:Act} {w:World} (aa:fp n c=some dO.strip) (U:dO.bare (λ_ _=>False)) (h:bj C dO Q s) (aR:Rel w0 F0 X n ρ s a w):c.wp C.P (my w0 F0 X n ρ Q) a w:=
 DZ a9 (λ_ _ _ _ _ _ _ a8=>a8.elim) c aa U h aR
end
def iV:ResultVar->Nat
 | .tmp t=>t
 | .cell a _=>a
def oZ (C:bH) (s:ak):ResultVar->Option I
 | .tmp t=>if(s t).tree=true then(match s t with| .tuple _=>none|d=>some d)else none
 | .cell a T=>match s a with
   | .aK d=>if fits C T d=true/\d.tree=true then some d else none
   |_=>none
def D0 (C:bH) (fx:afc) (dU:List ResultVar) (r:I) (outs:afh) (s:ak):Prop:=
 ∃ds,dU.map (oZ C s)=ds.map some/\r=(match ds with|[d]=>d|ds=>.tuple ds)/\(dU.map iV).Nodup/\
  ∀(i:Nat) (o:I),outs[i]? =some o->o= .hole\/(o=s i/\o.fY=true/\i∈fx/\i∉dU.map iV)
def Ends (C:bH) (fx:afc) (dU:List ResultVar) (r:I) (outs:afh) (s:ak):Prop:=
 D0 C fx dU r outs s\/∃t y q d s1,s t= .h y q/\cr s (.h y q)=some (d,s1)/\D0 C fx dU r outs (fin s1 (some t) d)
theorem bw.takes {w0 w:World} {F0 X F:Nat->Prop} {S:Nat->Nat->Prop} {s s1:ak} {aw:Nat->Value} {t y:Nat} {q:afc} {d:I} (aR:bw w0 F0 X F S s aw w) (ae:s t= .h y q) (af:cr s (.h y q)=some (d,s1)):
  ∃aO,bw w0 F0 X F aO (c3.fin s1 (some t) d) aw w:=by
 have aa:=aR.cV t;rw[ae,aG]at aa;obtain⟨S1,k0,bU,ch,Sn,dd,cW,ed,dn,h4,_⟩:=mW aR (av:=.h y q) (v:=aw t) rfl (by rw[aG];exact aa) af;obtain⟨aO,bB⟩:=k0.fin (.inr ⟨bU,ch,Sn,dd,cW,ed,dn,h4⟩) (some t);refine⟨aO,?_⟩;have e:kr aw (some t) (aw t)=aw:=by
  funext u;simp only[kr,cg];split
  .rename_i h;rw[h]
  .rfl
 rwa [e]at bB
section
variable {C:bH} {w0 w:World} {F0 X F:Nat->Prop} {S:Nat->Nat->Prop} {s:ak} {tmps:Array Value}
theorem Kc {d:I} {x:Value} (ai:∀vs,d≠.tuple vs) (h:dc d x):bX x=hj x/\hL d x:=by
 have:hL d x:=by cases d<;>first|exact h|exact(ai _ rfl).elim
 refine⟨?_,this⟩;cases d<;>first
  |(obtain⟨a,rfl⟩:=this;rfl)
  |(simp only[hL]at this
    rw[fX this];cases x<;>first|rfl|(simp[Value.fU]at this))
def xo (tmps:Array Value):ResultVar->Sem Value
 | .tmp t=>pure (tmps.getD t undef)
 | .cell a t=>do loadVar t (<-asAddr (tmps.getD a undef))
theorem R3 (a9:C.dL) (h:bw w0 F0 X F S s (λt=>tmps.getD t undef) w) {v:ResultVar} {d:I} (aH:oZ C s v=some d):
  ∃x,(xo tmps v).run C.P w= .ok x w/\d.tree=true/\(∀vs,d≠.tuple vs)/\dc d x/\ao w F d (bX x) (S (iV v)):=by
 cases v with
 |tmp t=>
  simp only[oZ]at aH;split at aH
  .rename_i aP;have mr:(∀vs,s t≠.tuple vs)/\d=s t:=by
    cases aa:s t<;>rw[aa]at aH<;>simp only at aH<;>first
     |(cases aH;done)
     |(simp only[Option.some.injEq]at aH;exact⟨(λ_ h=>by cases h),aH.symm⟩)
   obtain⟨mr,rfl⟩:=mr;obtain⟨aV,ba⟩:=(aG.cd aP).1 (h.cV t);exact⟨_,by simp[xo],aP,mr,aV,ba⟩
  .cases aH
 |cell a T=>
  simp only[oZ]at aH;split at aH
  .rename_i e aa;split at aH
   .rename_i R4;obtain⟨hy,Ab⟩:=R4;simp only[Option.some.injEq]at aH;subst aH;have ij:=h.cV a;rw[aa]at ij;obtain⟨aV,ba⟩:=(aG.cd (d:=.aK e) rfl).1 ij;rw[fX aV,ao]at ba;obtain⟨b,cur,ty,fr,aO,bU,ch,dd,cW,ed,dn,h4⟩:=ba;simp only[List.cons.injEq,and_true]at bU;have hv:hi w b 0 cur.toList:=by
     have:=uf dd cur.size
     rwa [List.take_of_length_le (by simp)]at this
    obtain⟨x,dR,bx,e1⟩:=zt (C:=C) a9 hv ed hy;refine⟨x,?_,Ab,?_,e1,?_⟩
    .simp only[xo];rw[bU];simpa [asAddr]using dR
    .intro vs gd;subst gd;unfold fits at hy;split at hy<;>simp_all
    .rw[bx];exact ao.mono (λ_ h=>h) _ _ _ _ dn ed
   .cases aH
  .cases aH
theorem R5 (a9:C.dL) (h:bw w0 F0 X F S s (λt=>tmps.getD t undef) w):∀(dU:List ResultVar) (ds:afh),dU.map (oZ C s)=ds.map some->(dU.map iV).Nodup->
  ∃xs,(dU.mapM (xo tmps)).run C.P w= .ok xs w/\xs.length=ds.length/\aX w F ds (xs.flatMap hj) (λb=>∃t∈dU.map iV,S t b)/\
   ∀(k:Nat) (d:I) (x:Value),ds[k]? =some d->xs[k]? =some x->dc d x/\(∀vs,d≠.tuple vs)/\(hj x).length=d.wd/\bX x=hj x/\d.tree=true:=by
 intro dU;induction dU with
 |nil=>
  intro ds he _;have:ds=[]:=by simpa using he.symm
  subst this;exact⟨[],by simp,rfl,by simp only[List.flatMap_nil];rw[aX],λk d x ai=>by simp at ai⟩
 |cons v dU ih=>
  intro ds he rR;cases ds with
  |nil=>simp at he
  |cons d ds=>
   simp only[List.map_cons,List.cons.injEq]at he;simp only[List.map_cons,List.nodup_cons]at rR;obtain⟨x,dR,rt,bx,e1,bR⟩:=R3 a9 h he.1;obtain⟨xs,gj,fQ,gJ,gK⟩:=ih ds he.2 rR.2;obtain⟨aT,a3⟩:=Kc bx e1;refine⟨x::xs,by simp[List.mapM_cons,dR,gj],by simp[fQ],?_,?_⟩
   .simp only[List.flatMap_cons];rw[aX];rw[aT]at bR;refine⟨hj x,xs.flatMap hj,S (iV v),λb=>∃t∈dU.map iV,S t b,rfl,bR,gJ,λb U=>⟨iV v,by simp,U⟩,?_,?_⟩
    .rintro b ⟨t,aP,U⟩;exact⟨t,by simp[aP],U⟩
    .rintro b U ⟨t,aP,lG⟩;have:t≠iV v:=λe=>rR.1 (e▸aP);exact h.e9 t (iV v) b this lG U
   .intro k bh cw ai al;cases k with
    |zero=>
     simp at ai al;subst ai al;refine⟨e1,bx,?_,aT,rt⟩;rw[<-aT];exact ao.length _ _ _ bR
    |succ k=>exact gK k bh cw (by simpa using ai) (by simpa using al)
theorem Ac (a9:C.dL) {f:FuncId} {fn:Func} {c:Code} {fx:afc} {as outs:afh} {r:I} (a8:C.P.funcs[f]? =some fn) (U:fn.body=some c)
  (jt:(fn.name== "runtime.NumGoroutine")=false) (a4:as.length<=fn.ntmps)
  {w:World} {F X:Nat->Prop} {S:Nat->Nat->Prop} {vs:aff} (hl:vs.length=as.length) (aR:bw w F X F S (fw as) (gL vs) w)
  (D1:∀a,Rel w F X ⟨fn.ntmps,fx⟩ (gL vs) (fw as) a w->(∀t,a.tmps.getD t undef=gL vs t)->c.wp C.P (my w F X ⟨fn.ntmps,fx⟩ (gL vs) (λe s=>(e= .normal\/e= .ret)/\dG (Ends C fx fn.results.toList r outs) s)) a w):
  mu C.P f vs.toArray w λv aB=>∃bC aO,bw w F X bC aO (fw (r::outs)) (gL (v::vs)) aB:=by
 have mq:(vs.toArray++Array.replicate (fn.ntmps-vs.toArray.size) undef).size=fn.ntmps:=by simp;omega
 have dt:(λt=>(vs.toArray++Array.replicate (fn.ntmps-vs.toArray.size) undef).getD t undef)=gL vs:=by
  funext t;simp only[gL,Array.getD_eq_getD_getElem?,List.getD_eq_getElem?_getD];by_cases aP:t<vs.length
  .rw[Array.getElem?_append_left (by simpa using aP)];simp
  .rw[Array.getElem?_append_right (by simpa using aP)];rw[List.getElem?_eq_none (by omega)];simp only[Array.getElem?_replicate];split<;>rfl
 have hrel:Rel w F X ⟨fn.ntmps,fx⟩ (gL vs) (fw as) {tmps:=vs.toArray++Array.replicate (fn.ntmps-vs.toArray.size) undef,defers:=[]} w:=
  ⟨rfl,mq,λi _=>congrFun dt i,F,S,by rw[dt];exact aR⟩
 have D2:fn.name≠ "runtime.NumGoroutine" :=by simpa using jt
 refine .inl ⟨by simp[callFunc,a8,D2,U],calls_of_wp a8 U (wp_mono (D1 _ hrel (congrFun dt)) ?_)⟩;rintro e ca aB ⟨az,⟨he,R6⟩,R7⟩;obtain⟨az,⟨ds,i_,Kd,rR,su⟩,ai,cO,gB,bC,aO,dS⟩:∃az,D0 C fx fn.results.toList r outs az/\Rel w F X ⟨fn.ntmps,fx⟩ (gL vs) az ca aB:=by
  obtain⟨az,he,Ke⟩:=R7.dG R6;rcases he with he|⟨t,y,q,d,s1,ae,af,he⟩
  .exact⟨az,he,Ke⟩
  .obtain⟨aV,ba,bT,F,S,c6⟩:=Ke;obtain⟨aO,ea⟩:=c6.takes ae af;exact⟨_,he,aV,ba,bT,F,aO,ea⟩
 obtain⟨xs,gj,fQ,gJ,gK⟩:=R5 a9 dS _ ds i_ rR;have R8:(results fn ca.tmps)=(do let vs<-fn.results.mapM (xo ca.tmps);pure (if h:vs.size=1 then vs[0]else .tuple vs)):=by
  unfold results;congr 1
 have qv:(results fn ca.tmps).run C.P aB= .ok (if h:xs.toArray.size=1 then xs.toArray[0]else .tuple xs.toArray) aB:=by
  rw[R8,Array.mapM_eq_mapM_toList];simp[gj]
 have qK:(r.tree=true/\dc r (if h:xs.toArray.size=1 then xs.toArray[0]else .tuple xs.toArray)/\
   ao aB bC r (bX (if h:xs.toArray.size=1 then xs.toArray[0]else .tuple xs.toArray)) (λb=>∃t∈fn.results.toList.map iV,aO t b)):=by
  by_cases ae:∃d,ds=[d]
  .obtain⟨d,rfl⟩:=ae;obtain⟨x,rfl⟩:∃x,xs=[x]:=by
    cases xs with
    |nil=>simp at fQ
    |cons x xs=>cases xs with
     |nil=>exact⟨x,rfl⟩
     |cons y cf=>simp at fQ
   obtain⟨bU,ch,dd,cW,ed⟩:=gK 0 d x rfl rfl;have R9:d=r:=Kd.symm;subst R9;simp only[List.flatMap_cons,List.flatMap_nil,List.append_nil]at gJ;rw[aX]at gJ;obtain⟨bA,bK,S1,S2,aT,a3,aY,b1,cI,bQ⟩:=gJ;rw[aX]at aY;subst aY;simp only[List.append_nil]at aT;subst aT;have al:(if h:([x]:aff).toArray.size=1 then([x]:aff).toArray[0]else .tuple ([x]:aff).toArray)=x:=by simp
   rw[al,cW];exact⟨ed,bU,ao.mono (λ_ h=>h) _ _ _ _ b1 a3⟩
  .have uO:r= .tuple ds:=by
    rw[Kd];cases ds with
    |nil=>rfl
    |cons d ds=>cases ds with
     |nil=>exact(ae ⟨d,rfl⟩).elim
     |cons e ds=>rfl
   have al:(if h:xs.toArray.size=1 then xs.toArray[0]else Value.tuple xs.toArray)= .tuple xs.toArray:=by
    rw[dif_neg];intro cO;have:ds.length=1:=by rw[<-fQ];simpa using cO
    obtain⟨d,ai⟩:=List.length_eq_one_iff.1 this;exact ae ⟨d,ai⟩
   rw[al,uO];refine⟨rfl,⟨xs.toArray,rfl,by simpa using fQ,λk d x ai al=>?_⟩,?_⟩
   .obtain⟨bU,ch,dd,cW,_⟩:=gK k d x ai (by simpa using al);exact⟨(Kc ch bU).2,ch,dd⟩
   .rw[ao];simpa [bX]using gJ
 have post:∀(v:Value),(r.tree=true/\dc r v/\ao aB bC r (bX v) (λb=>∃t∈fn.results.toList.map iV,aO t b))->∃sY S1,bw w F X sY S1 (fw (r::outs)) (gL (v::vs)) aB:=by
  rintro v ⟨v1,v2,R_⟩;have D3:∀i,(outs.getD i .hole).fY=true->outs.getD i .hole=az i/\i∈fx/\i∉fn.results.toList.map iV:=by
   intro i aC;cases bO:outs[i]? with
   |none=>simp[List.getD,bO,I.fY]at aC
   |some o=>
    have e:outs.getD i .hole=o:=by simp[List.getD,bO]
    rw[e]at aC⊢;rcases su i o bO with h|h
    .subst h;simp[I.fY]at aC
    .exact⟨h.1,h.2.2⟩
  refine⟨bC,λt b=>match t with|0=>∃t∈fn.results.toList.map iV,aO t b|i+1=>(outs.getD i .hole).fY=true/\aO i b,dS.g2,dS.hk,dS.fu,?_,?_,?_,?_,?_,dS.old,dS.size,dS.os,dS.tape,dS.output,aR.hn⟩
  .intro t b U;cases t with
   |zero=>obtain⟨t,_,U⟩:=U;exact dS.ek t b U
   |succ i=>exact dS.ek i b U.2
  .intro t b U;cases t with
   |zero=>obtain⟨t,_,U⟩:=U;exact dS.fC t b U
   |succ i=>exact dS.fC i b U.2
  .intro t u b c_ U hu;cases t with
   |zero=>
    obtain⟨t,aP,U⟩:=U;cases u with
    |zero=>exact c_ rfl
    |succ j=>
     refine dS.e9 t j b (λe=>?_) U hu.2;subst e;exact(D3 t hu.1).2.2 aP
   |succ i=>
    cases u with
    |zero=>
     obtain⟨t,aP,hu⟩:=hu;refine dS.e9 t i b (λe=>?_) hu U.2;subst e;exact(D3 t U.1).2.2 aP
    |succ j=>exact dS.e9 i j b (by omega) U.2 hu.2
  .intro t b U;cases t with
   |zero=>obtain⟨t,_,U⟩:=U;exact dS.c7 t b U
   |succ i=>exact dS.c7 i b U.2
  .intro t;cases t with
   |zero=>exact(aG.cd v1).2 ⟨v2,R_⟩
   |succ i=>
    show aG aB bC (fw (r::outs)) (gL (v::vs)) (outs.getD i .hole) (vs.getD i undef) (λb=>(outs.getD i .hole).fY=true/\aO i b);cases aC:(outs.getD i .hole).fY with
    |false=>
     have:outs.getD i .hole= .hole:=by
      cases bO:outs[i]? with
      |none=>simp[List.getD,bO]
      |some o=>
       have e:outs.getD i .hole=o:=by simp[List.getD,bO]
       rw[e]at aC⊢;rcases su i o bO with h|h
       .exact h
       .rw[h.2.1]at aC;cases aC
     rw[this,aG];trivial
    |true=>
     obtain⟨j_,iF,lp⟩:=D3 i aC;have aP:=(qG aC).2.1;have ij:=dS.cV i;rw[<-j_]at ij;obtain⟨aV,ba⟩:=(aG.cd aP).1 ij;have aH:ca.tmps.getD i undef=vs.getD i undef:=gB i iF;rw[aH]at aV ba;exact(aG.cd aP).2 ⟨aV,ao.mono (λ_ h=>h) _ _ _ _ (λb U=>⟨rfl,U⟩) ba⟩
 rcases he with rfl|rfl
 .exact⟨ai,_,qv,_,rfl,post _ qK⟩
 .exact⟨ai,_,qv,_,rfl,post _ qK⟩
theorem bk.of_wp (a9:C.dL) {f:FuncId} {fn:Func} {c:Code} {dO:aM} {fx:afc} {as outs:afh} {r:I} (a8:C.P.funcs[f]? =some fn) (U:fn.body=some c)
  (jt:(fn.name== "runtime.NumGoroutine")=false) (aa:fp ⟨fn.ntmps,fx⟩ c=some dO.strip) (a4:as.length<=fn.ntmps)
  (h:bj C dO (λe s=>(e= .normal\/e= .ret)/\dG (Ends C fx fn.results.toList r outs) s) (fw as)) (au:dO.plain=true:=by kernel_rfl):bk C f as r outs:=
 λw F X S vs hl aR=>Ac a9 a8 U jt a4 hl aR λa hrel _=>R2 a9 c (by rw[aM.z8];exact aa) (aM.z9 dO (aM.RN dO au)) (z_ dO h) hrel
end
def num:Nat->afh->afg
 |_,[]=>[]
 |k,a::as=>(k,a)::num (k+1) as
theorem Sa:∀(as:afh) (k t:Nat),ar (num k as) (k+t)=as.getD t .hole:=by
 intro as;induction as with
 |nil=>intro k t;simp[num,ar]
 |cons a as ih=>
  intro k t;cases t with
  |zero=>simp[num,ar]
  |succ t=>
   have:=ih (k+1) t;simp only[num,ar];rw[if_neg (by omega)];rw[show k+(t+1)=k+1+t by omega,this];simp
theorem xp (as:afh):fw as=ar (num 0 as):=by
 funext t;have:=Sa as 0 t;rw[Nat.zero_add]at this;rw[this];rfl
theorem xq (l:afg) (t:Nat) (d:I):cg (ar l) t d=ar ((t,d)::l):=by
 funext u;simp only[cg,ar]
def qL (t:Nat):afg->afg
 |[]=>[]
 |(u,d)::l=>(u,cv t d)::qL t l
def s8 (t:Nat):afg->afg
 |[]=>[]
 |(u,d)::l=>(u,b5 t d)::s8 t l
theorem D4 (t:Nat):∀l:afg,lf t (ar l)=ar (qL t l):=by
 intro l;funext u;induction l with
 |nil=>rfl
 |cons p l ih=>
  obtain⟨v,d⟩:=p;simp only[lf,ar,qL]at ih⊢;split
  .rfl
  .exact ih
theorem Kf (t:Nat):∀l:afg,e0 t (ar l)=ar (s8 t l):=by
 intro l;funext u;induction l with
 |nil=>rfl
 |cons p l ih=>
  obtain⟨v,d⟩:=p;simp only[e0,ar,s8]at ih⊢;split
  .rfl
  .exact ih
def fR (k:afc) (s:ak):afg:=k.map λt=>(t,s t)
section
variable {C:bH} {l:afg}
def di.hC:di->Bool
 | .call _ _=>true
 | .eP _=>false
 | .lP _=>false
 | .pick _ _ _=>false
 | .lM _=>false
 | .g_ _ _=>false
 | .fl _ _=>false
 | .eu _ _ _=>false
 | .ff _ _=>false
 | .gT _ _ _=>false
 | .iT _=>false
 | .eh _ _ _ _=>false
 | .un _ _=>false
 | .iB _ _ _=>false
 | .n1 _ _=>false
 | .ei _ _ _=>false
 | .e2 _ _ _ _=>false
 | .hN _ _ _=>false
 | .jA _ _ _=>false
 | .idx _ _ _=>false
 | .ex _ _=>false
 | .lN _ _ _=>false
 | .len _ _=>false
 | .app _ _ _ _=>false
 | .shr _=>true
 | .i7 _ _ _ _=>false
 | .cap _ _=>false
 | .pJ _ _ _=>false
 | .bad=>false
 | .kR _ _ _=>true
 | .ll _ _ _ _=>true
 | .ic _ _=>false
 | .ext _ _=>false
 | .w7=>false
 | .n0 _ _ _=>false
 | .mo _ _ _ _=>false
variable {Q:Exit->ak->Prop}
def I.xr:I->Bool
 | .tuple _=>true
 |_=>false
theorem Ends.one {fx:afc} {t:Nat} {r:I} {s:ak} (ae:s t=r) (af:(r.tree&& !r.xr)=true):Ends C fx [.tmp t] r [] s:=by
 simp only[Bool.and_eq_true,Bool.not_eq_true']at af;obtain⟨af,s9⟩:=af;have aF:∀vs,r≠.tuple vs:=λvs e=>by subst e;simp[I.xr]at s9
 refine .inl ⟨[r],?_,rfl,by simp,λi o h=>by simp at h⟩;have:oZ C s (.tmp t)=some r:=by
  simp only[oZ,ae,af,if_true];try (cases r<;>first|rfl|exact(aF _ rfl).elim)
 simp only[List.map_cons,List.map_nil,this]
end
section
variable {C:bH} {l:afg} {Q:Exit->ak->Prop}
theorem bk.outs {f:FuncId} {as:afh} {r:I} {j_ iF:afh} (h:bk C f as r j_) (he:fw j_=fw iF):bk C f as r iF:=by
 intro w F X S vs hl aR;refine mu.mono (h w F X S vs hl aR) ?_;rintro v aB ⟨bC,aO,bB⟩;refine⟨bC,aO,?_⟩;have:fw (r::iF)=fw (r::j_):=by
  funext t;cases t with
  |zero=>rfl
  |succ t=>exact(congrFun he t).symm
 rw[this];exact bB
def lU:afh->afh->List cn
 |a::as,d::ds=>⟨a,false,d,.hole⟩::lU as ds
 |_,_=>[]
theorem Sb {s:ak}:∀(as ds:afh),views s as=some ds->(lU as ds).map (·.a)=as/\(lU as ds).map (·.d)=ds/\(∀p∈lU as ds,p.ok s/\p.g=false/\p.o= .hole/\p.a∈as)/\hQ (lU as ds)=true/\
  fw ((lU as ds).map (·.o))=fw []/\(∀qM,eA qM (lU as ds)=qM)/\(∀qM,g3 qM (lU as ds)=qM):=by
 intro as;induction as with
 |nil=>
  intro ds h;simp only[views,Option.some.injEq]at h;subst h;exact⟨rfl,rfl,(λp au=>by cases au),rfl,rfl,λ_=>rfl,λ_=>rfl⟩
 |cons a as ih=>
  intro ds h;simp only[views]at h;split at h
  .rename_i d Sc ae af;simp only[Option.some.injEq]at h;subst h;obtain⟨aT,a3,aY,b1,cI,bQ,bL⟩:=ih Sc af;refine⟨by simp only[lU,List.map_cons,aT],by simp only[lU,List.map_cons,a3],?_,?_,?_,?_,?_⟩
   .intro p au;simp only[lU,List.mem_cons]at au;rcases au with rfl|au
    .exact⟨by simp only[cn.ok];exact ae,rfl,rfl,by simp⟩
    .obtain⟨aV,ba,bT,c6⟩:=aY p au;exact⟨aV,ba,bT,by simp[c6]⟩
   .simp only[lU,hQ,b1,Bool.and_true,List.all_eq_true];intro p au;simp[(aY p au).2.1]
   .funext t;cases t with
    |zero=>rfl
    |succ t=>exact(congrFun cI t).trans (by simp[fw])
   .intro qM;exact bQ qM
   .intro qM;exact bL qM
  .cases h
end
structure eU where
 bP:afc
 H:afc
 T:afc
 c:Bool
mutual
def I.clean:I->Bool
 | .hole=>false
 | .fn _ cap=>I.uP cap
 |_=>true
def I.uP:afh->Bool
 |[]=>true
 |d::ds=>d.clean&&I.uP ds
end
mutual
theorem Kg {x:Nat}:∀a:I,(b5 x a).clean=true->b5 x a=a
 | .h y q,h=>by
   simp only[b5]at h⊢;split
   .rename_i e;rw[if_pos e]at h;split
    .rfl
    .rename_i gd;rw[if_neg gd]at h;simp[I.clean]at h
   .rfl
 | .au y q,h=>by
   simp only[b5]at h⊢;split
   .rename_i e;rw[if_pos e]at h;simp[I.clean]at h
   .rfl
 | .U y q,h=>rfl
 | .fn f cap,h=>by simp only[b5,I.clean]at h⊢;rw[Kh cap h]
 | .hole,_=>rfl
 | .bool _,_=>rfl
 | .eM,_=>rfl
 | .int _ _,_=>rfl
 | .str _,_=>rfl
 | .db,_=>rfl
 | .aN,_=>rfl
 | .slice _,_=>rfl
 | .ag _ _,_=>rfl
 | .ref _,_=>rfl
 | .aK _,_=>rfl
 | .agg _,_=>rfl
 | .tuple _,_=>rfl
 | .dm _,_=>rfl
 | .eY _ _,_=>rfl
 | .gb _,_=>rfl
theorem Kh {x:Nat}:∀ds:afh,I.uP (ib x ds)=true->ib x ds=ds
 |[],_=>rfl
 |d::ds,h=>by
  simp only[ib,I.uP,Bool.and_eq_true]at h⊢;rw[Kg d h.1,Kh ds h.2]
end
mutual
theorem Ki {x:Nat}:∀a:I,(cv x a).clean=true->cv x a=a
 | .h y q,h=>by
   simp only[cv]at h⊢;split
   .rename_i e;rw[if_pos e]at h;simp[I.clean]at h
   .rfl
 | .au y q,h=>by
   simp only[cv]at h⊢;split
   .rename_i e;rw[if_pos e]at h;simp[I.clean]at h
   .rfl
 | .U y q,h=>by
   simp only[cv]at h⊢;split
   .rename_i e;rw[if_pos e]at h;simp[I.clean]at h
   .rfl
 | .fn f cap,h=>by simp only[cv,I.clean]at h⊢;rw[Kj cap h]
 | .hole,_=>rfl
 | .bool _,_=>rfl
 | .eM,_=>rfl
 | .int _ _,_=>rfl
 | .str _,_=>rfl
 | .db,_=>rfl
 | .aN,_=>rfl
 | .slice _,_=>rfl
 | .ag _ _,_=>rfl
 | .ref _,_=>rfl
 | .aK _,_=>rfl
 | .agg _,_=>rfl
 | .tuple _,_=>rfl
 | .dm _,_=>rfl
 | .eY _ _,_=>rfl
 | .gb _,_=>rfl
theorem Kj {x:Nat}:∀ds:afh,I.uP (iQ x ds)=true->iQ x ds=ds
 |[],_=>rfl
 |d::ds,h=>by
  simp only[iQ,I.uP,Bool.and_eq_true]at h⊢;rw[Ki d h.1,Kj ds h.2]
end
theorem Sd {k:pL} {x:Nat} {a:I} (h:(k.app x a).clean=true):k.app x a=a:=by
 cases k with
 |no=>rfl
 |b5=>exact Kg a h
 |cv=>exact Ki a h
theorem Se:∀(ms:List gr) (u:Nat) (a:I),(∀m∈ms,m.x≠u)->(jD ms u a).clean=true->jD ms u a=a:=by
 intro ms;induction ms with
 |nil=>intros;rfl
 |cons m ms ih=>
  intro u a al an;simp only[jD]at an⊢;have e:=ih u _ (λez s_=>al ez (by simp[s_])) an;have hm:m.at u a=m.k.app m.x a:=by
   simp only[gr.at];rw[if_neg (λe=>al m (by simp) e.symm)]
  rw[e,hm];rw[e,hm]at an;exact Sd an
theorem Sf:∀(ms:List gr) (u:Nat) (a:I),(∀m∈ms,m.x≠u/\m.x∉a.aa)->jD ms u a=a:=by
 intro ms;induction ms with
 |nil=>intros;rfl
 |cons m ms ih=>
  intro u a al;simp only[jD];have hm:m.at u a=a:=by
   simp only[gr.at];rw[if_neg (λe=>(al m (by simp)).1 e.symm)];exact w_ (.inr (al m (by simp)).2)
  rw[hm];exact ih u a λez s_=>al ez (by simp[s_])
theorem Sg (m:gr):∀(ms:List gr) (u:Nat) (a:I),(∀ez∈ms,ez.x≠m.x/\ez.x∉m.d.aa/\m.x∉ez.d.aa)->jD ms u (m.at u a)=m.at u (jD ms u a):=by
 intro ms;induction ms with
 |nil=>intros;rfl
 |cons n ms ih=>
  intro u a al;simp only[jD];have a4:=al n (by simp);have an:n.at u (m.at u a)=m.at u (n.at u a):=by
   simp only[gr.at];by_cases aT:u=n.x
   .subst aT;rw[if_pos rfl,if_neg a4.1,if_pos rfl];exact(w_ (.inr a4.2.2)).symm
   .rw[if_neg aT];by_cases a3:u=m.x
    .subst a3;rw[if_pos rfl,if_pos rfl];exact w_ (.inr a4.2.1)
    .rw[if_neg a3,if_neg aT,if_neg a3];exact QG _ _ _ _ _
  rw[an];exact ih u _ λez s_=>al ez (by simp[s_])
theorem Sh:∀(ms kA:List gr) (s:ak),(∀m∈ms,∀n∈kA,n.x≠m.x/\n.x∉m.d.aa/\m.x∉n.d.aa)->c1 kA (c1 ms s)=c1 ms (c1 kA s):=by
 intro ms;induction ms with
 |nil=>intros;rfl
 |cons m ms ih=>
  intro kA s h;have e:∀s,c1 (m::ms) s=c1 ms (c1 [m] s):=λs=>ln [m] ms s;rw[e,e,ih kA _ (λez s_=>h ez (by simp[s_]))];congr 1;funext u;simp only[c1,jD];exact Sg m kA u _ (h m (by simp))
def Kk (C:bH) (s:ak) (f:a6) (args:List a6) (K:afc->I->ak->Prop):Prop:=
 ∃(g:FuncId) (caps:afh) (ps:List cn) (r:I),a7 s f= .fn g caps/\I.eb caps=true/\ps.map (·.a)=args.map (a7 s)++caps/\(∀p∈ps,p.ok s)/\hQ ps=true/\
   bk C g (ps.map (·.d)) r (ps.map (·.o))/\r.res=true/\(jE ps=true->r.cM=true/\∀p∈ps,p.o.cM=true)/\K (I.du ((ps.filter (·.g)).map (·.a))) r (g3 (eA s ps) ps)
def kZ (C:bH) (s:ak) (bq:di) (K:afc->I->ak->Prop):Prop:=
 match bq with
 | .call f args=>∃(g:FuncId) (caps:afh) (ps:List cn) (r:I),a7 s f= .fn g caps/\I.eb caps=true/\ps.map (·.a)=args.map (a7 s)++caps/\(∀p∈ps,p.ok s)/\hQ ps=true/\
   bk C g (ps.map (·.d)) r (ps.map (·.o))/\r.res=true/\(jE ps=true->r.cM=true/\∀p∈ps,p.o.cM=true)/\K (I.du ((ps.filter (·.g)).map (·.a))) r (g3 (eA s ps) ps)
 | .shr bq=>∃av s1,bE C s bq=some (av,s1)/\av.tree=true/\(∀vs,av≠.tuple vs)/\K (kS s bq) av.share s1
 | .kR f args us=>kX s (iU s us)=true/\Kk C s f args λcr av s1=>kX s1 (iU s us)=true/\K (us++cr) av (kc s1 (iU s us))
 | .ll T x y u=>lQ s (a7 s x) (s u)=true/\∃s1,gT C s T (a7 s x) (a7 s y)=some s1/\K (u::((a7 s x).aa++(a7 s y).aa)) .hole (kc s1 [(u,s u)])
 |bq=>∃av s1,bE C s bq=some (av,s1)/\K (kS s bq) av s1
def iG (s:ak) (bP:afc) (dst:Option Nat) (cr:afc) (av:I):eU:=
 ⟨bP,bP.flatMap (λu=>(s u).aa)++av.aa,dst.toList++cr,bP.all λu=>(s u).clean⟩
def kf (C:bH) (s:ak) (o:bJ) (K:eU->ak->Prop):Prop:=
 match o.guard with
 |none=>kZ C s o.bq λcr av s1=>K (iG s (use s o.bq) o.dst cr av) (fin s1 o.dst av)
 |some (t,b)=>match s t with
  | .bool eN=>if eN=b then kZ C s o.bq (λcr av s1=>K (iG s (t::use s o.bq) o.dst cr av) (fin s1 o.dst av))else K (iG s [t] o.dst [] (.tuple [])) (fin s o.dst (.tuple []))
  | .tuple []=>K (iG s [t] o.dst [] (.tuple [])) (fin s o.dst (.tuple []))
  |_=>False
def pQ:Option (List eU)->eU->Option (List eU)
 |none,_=>none
 |some l,f=>some (f::l)
def cy (C:bH) (s:ak):List bJ->Option (List eU)->(Option (List eU)->ak->Prop)->Prop
 |[],acc,K=>K acc s
 |o::os,acc,K=>kf C s o λf s1=>cy C s1 os (pQ acc f) K
section
variable {C:bH}
theorem Kl {s:ak} {bq:di} {K:afc->I->ak->Prop} {cZ:I->ak->Prop} (aj:∀cr av s,K cr av s->cZ av s) (h:kZ C s bq K):n7 C s bq cZ:=by
 cases bq with
 |call f args=>
  obtain⟨g,caps,ps,r,ae,gA,af,aF,a1,bt,b_,cq,er⟩:=h;exact⟨g,caps,ps,r,ae,gA,af,aF,a1,bt,b_,cq,aj _ _ _ er⟩
 |kR f args us=>
  obtain⟨ch,g,caps,ps,r,ae,gA,af,aF,a1,bt,b_,cq,er,h1⟩:=h;exact⟨ch,g,caps,ps,r,ae,gA,af,aF,a1,bt,b_,cq,er,aj _ _ _ h1⟩
 |ll T x y u=>obtain⟨bU,s1,ae,af⟩:=h;exact⟨bU,s1,ae,aj _ _ _ af⟩
 |shr bq=>
  obtain⟨av,s1,ae,af,aF,a1⟩:=h;exact⟨av,s1,ae,af,aF,aj _ _ _ a1⟩
 |_=>
  obtain⟨av,s1,ae,af⟩:=h;exact⟨av,s1,ae,aj _ _ _ af⟩
theorem Si {s:ak} {o:bJ} {K:eU->ak->Prop} {cZ:ak->Prop} (aj:∀f s,K f s->cZ s) (h:kf C s o K):lu C s o cZ:=by
 unfold kf at h;unfold lu;split
 .rename_i bl;rw[bl]at h;exact Kl (λ_ _ _=>aj _ _) h
 .rename_i t b bl;rw[bl]at h;simp only at h;split
  .rename_i eN aa;rw[aa]at h;simp only at h;split
   .rename_i U;rw[if_pos U]at h;exact Kl (λ_ _ _=>aj _ _) h
   .rename_i U;rw[if_neg U]at h;exact aj _ _ h
  .rename_i aa;rw[aa]at h;exact aj _ _ h
  .rename_i ae af;split at h
   .exact ae _ (by assumption)
   .exact af (by assumption)
   .exact h
theorem ta {K:ak->Prop}:∀{ros:List bJ} {s:ak} {acc:Option (List eU)} {cZ:Option (List eU)->ak->Prop},(∀a s,cZ a s->K s)->cy C s ros acc cZ->ja C s ros K:=by
 intro ros;induction ros with
 |nil=>intro s acc cZ aj h;exact aj _ _ h
 |cons o ros ih=>intro s acc cZ aj h;exact Si (λf s h=>ih aj h) h
theorem Km {q:afc} {a d:I} (h:I.sub q a=some d) (cF:q≠[]\/d.aa=[]):a.aa=[]:=by
 cases q with
 |nil=>
  simp only[I.sub,Option.some.injEq]at h;subst h;exact cF.resolve_left (λe=>e rfl)
 |cons k q=>cases a<;>first|rfl|(simp[I.sub]at h)
def Ad (s:ak) (p:cn) (e:I->Prop):Prop:=p.g=true->∃x q d,p.a= .h x q/\I.sub q (s x)=some d/\e d/\(p.o= .hole\/p.o.fY=true)
theorem Kn {d:I} (h:d.fY=true):d.aa=[]:=DG (qG h).2.1
theorem Ko {d:I} (h:d.fY=true):d.ct.aa=[]:=by cases d<;>first|rfl|(simp[I.fY]at h)
theorem Kp {p:cn} {ps:List cn} (h:hQ (p::ps)=true):hQ ps=true/\∀ck∈ps,(p.g=true\/ck.g=true)->∀u∈p.a.aa,u∉ck.a.aa:=by
 simp only[hQ,Bool.and_eq_true,List.all_eq_true,Bool.or_eq_true,Bool.not_eq_true']at h;refine⟨h.2,λck dJ bl u hu=>?_⟩;rcases h.1 ck dJ with e|e
 .rcases bl with bl|bl<;>simp[bl]at e
 .simpa using e u hu
def qN (ps:List cn):afc:=I.du ((ps.filter (·.g)).map (·.a))
theorem uQ (p:cn) (ps:List cn):(∀u∈qN ps,u∈qN (p::ps))/\(p.g=true->∀u∈p.a.aa,u∈qN (p::ps)):=by
 unfold qN;by_cases bl:p.g=true
 .simp only[List.filter_cons,bl,if_true,List.map_cons,I.du,List.mem_append];exact⟨λu h=>.inr h,λ_ u h=>.inl h⟩
 .simp only[List.filter_cons,bl];exact⟨λu h=>h,λh=>by simp at h⟩
theorem Sj {p:cn} {ps:List cn} (h:p∈ps):∀u∈p.a.aa,u∈I.du (ps.map (·.a)):=by
 induction ps with
 |nil=>cases h
 |cons ck ps ih=>
  intro u hu;simp only[List.map_cons,I.du,List.mem_append];rcases List.mem_cons.1 h with rfl|h
  .exact .inl hu
  .exact .inr (ih h u hu)
theorem Sk:∀(ps:List cn) (s:ak),(∀p∈ps,Ad s p (λd=>d=p.d/\p.d.fY=true))->hQ ps=true->
  (∃ms:List gr,(∀m∈ms,m.x∈qN ps/\m.d.aa=[])/\∀az,cX (I.du (ps.map (·.a))) az s->eA az ps=c1 ms az)/\∀p∈ps,Ad (eA s ps) p (λd=>d=p.d.ct/\p.d.fY=true):=by
 intro ps;induction ps with
 |nil=>intro s _ _;exact⟨⟨[],by simp,λaz _=>rfl⟩,λp au=>by cases au⟩
 |cons p ps ih=>
  intro s bl jW;obtain⟨oR,n4⟩:=Kp jW;by_cases lV:p.g=true
  .obtain⟨x,q,d,b8,aa,⟨rfl,ai⟩,bO⟩:=bl p (by simp) lV;have iP:(I.put q p.d.ct (s x)).aa=[]:=uE q _ _ _ aa (.inl (qG ai).1) λ_=>Ko ai;have xt:∀az:ak,az x=s x->p.take az=c1 [⟨.b5,x,I.put q p.d.ct (s x)⟩] az:=by
    intro az e;simp only[cn.take,lV,if_true,b8,e,sT]
   have c_:∀ck∈ps,∀cw i5,ck.a= .h cw i5->cw≠x:=by
    intro ck dJ cw i5 e gd;have:=n4 ck dJ (.inl lV) x (by simp[b8,I.aa]);rw[e,gd]at this;simp[I.aa]at this
   have rO:∀cw,cw≠x->(s cw).aa=[]->c1 [⟨.b5,x,I.put q p.d.ct (s x)⟩] s cw=s cw:=by
    intro cw lh bo;simp only[c1,jD,gr.at];rw[if_neg lh];exact w_ (.inr (by rw[bo];simp))
   obtain⟨⟨ms,el,fJ⟩,gU⟩:=ih (c1 [⟨.b5,x,I.put q p.d.ct (s x)⟩] s) (λck dJ D5=>by
    obtain⟨cw,i5,bh,sX,gu,gR,xu⟩:=bl ck (by simp[dJ]) D5;refine⟨cw,i5,bh,sX,?_,gR,xu⟩;rw[rO cw (c_ ck dJ cw i5 sX) (Km gu (.inr (by rw[gR.1];exact Kn gR.2)))];exact gu) oR
   refine⟨⟨[⟨.b5,x,I.put q p.d.ct (s x)⟩]++ms,?_,?_⟩,?_⟩
   .intro m hm;rcases List.mem_append.1 hm with hm|hm
    .simp only[List.mem_singleton]at hm;subst hm;exact⟨(uQ p ps).2 lV x (by simp[b8,I.aa]),iP⟩
    .exact⟨(uQ p ps).1 _ (el m hm).1,(el m hm).2⟩
   .intro az gu;simp only[List.map_cons,I.du]at gu;have e:az x=s x:=gu x (by simp[b8,I.aa]);rw[ln];show eA (p.take az) ps=_;rw[xt az e];exact fJ _ (cX.c1 gu.right _)
   .have aT:eA s (p::ps)=eA (c1 [⟨.b5,x,I.put q p.d.ct (s x)⟩] s) ps:=by
     show eA (p.take s) ps=_;rw[xt s rfl]
    rw[aT];intro ck dJ;rcases List.mem_cons.1 dJ with rfl|dJ
    .intro _;refine⟨x,q,ck.d.ct,b8,?_,⟨rfl,ai⟩,bO⟩;have aH:c1 [⟨.b5,x,I.put q ck.d.ct (s x)⟩] s x=I.put q ck.d.ct (s x):=by
      simp only[c1,jD,gr.at,if_true]
     rw[DD (by rw[aH];exact iP) (λSl Sm adV=>?_),aH]
     .exact zS q _ _ _ aa
     .exact n4 Sl Sm (.inl lV) x (by simp[b8,I.aa])
    .exact gU ck dJ
  .have xt:∀az:ak,p.take az=az:=by intro az;simp only[cn.take,lV];rfl
   obtain⟨⟨ms,el,fJ⟩,gU⟩:=ih s (λck dJ=>bl ck (by simp[dJ])) oR;refine⟨⟨ms,λm hm=>⟨(uQ p ps).1 _ (el m hm).1,(el m hm).2⟩,?_⟩,?_⟩
   .intro az gu;simp only[List.map_cons,I.du]at gu;show eA (p.take az) ps=_;rw[xt];exact fJ az gu.right
   .intro ck dJ;have aT:eA s (p::ps)=eA s ps:=by show eA (p.take s) ps=_;rw[xt]
    rw[aT];rcases List.mem_cons.1 dJ with rfl|dJ
    .intro h;exact(lV h).elim
    .exact gU ck dJ
theorem So:∀(ps:List cn) (s:ak),(∀p∈ps,Ad s p (λd=>d=p.d.ct/\p.d.fY=true))->hQ ps=true->
  (∃ms:List gr,(∀m∈ms,m.x∈qN ps/\m.d.aa=[])/\∀az,cX (I.du (ps.map (·.a))) az s->g3 az ps=c1 ms az):=by
 intro ps;induction ps with
 |nil=>intro s _ _;exact⟨[],by simp,λaz _=>rfl⟩
 |cons p ps ih=>
  intro s bl jW;obtain⟨oR,n4⟩:=Kp jW;by_cases lV:p.g=true/\p.o≠.hole
  .obtain⟨lV,Sp⟩:=lV;obtain⟨x,q,d,b8,aa,⟨rfl,ai⟩,bO⟩:=bl p (by simp) lV;have bO:p.o.fY=true:=bO.resolve_left Sp;have iP:(I.put q p.o (s x)).aa=[]:=by
    cases q with
    |nil=>simp only[I.put];exact Kn bO
    |cons k q=>exact uE _ _ _ _ aa (.inr (by simp)) (by simp)
   have D6:∀az:ak,az x=s x->p.ig az=c1 [⟨.cv,x,I.put q p.o (s x)⟩] az:=by
    intro az e;simp only[cn.ig,lV,if_true,b8];rw[e,Jh]
   have c_:∀ck∈ps,∀cw i5,ck.a= .h cw i5->cw≠x:=by
    intro ck dJ cw i5 e gd;have:=n4 ck dJ (.inl lV) x (by simp[b8,I.aa]);rw[e,gd]at this;simp[I.aa]at this
   obtain⟨ms,el,fJ⟩:=ih (c1 [⟨.cv,x,I.put q p.o (s x)⟩] s) (λck dJ D5=>by
    obtain⟨cw,i5,bh,sX,gu,gR,xu⟩:=bl ck (by simp[dJ]) D5;refine⟨cw,i5,bh,sX,?_,gR,xu⟩;have bo:=Km gu (.inr (by rw[gR.1];exact Ko gR.2));have rO:c1 [⟨.cv,x,I.put q p.o (s x)⟩] s cw=s cw:=by
     simp only[c1,jD,gr.at];rw[if_neg (c_ ck dJ cw i5 sX)];exact w_ (.inr (by rw[bo];simp))
    rw[rO];exact gu) oR
   refine⟨[⟨.cv,x,I.put q p.o (s x)⟩]++ms,?_,?_⟩
   .intro m hm;rcases List.mem_append.1 hm with hm|hm
    .simp only[List.mem_singleton]at hm;subst hm;exact⟨(uQ p ps).2 lV x (by simp[b8,I.aa]),iP⟩
    .exact⟨(uQ p ps).1 _ (el m hm).1,(el m hm).2⟩
   .intro az gu;simp only[List.map_cons,I.du]at gu;have e:az x=s x:=gu x (by simp[b8,I.aa]);rw[ln];show g3 (p.ig az) ps=_;rw[D6 az e];exact fJ _ (cX.c1 gu.right _)
  .have D6:∀az:ak,p.ig az=az:=by
    intro az;unfold cn.ig;split
    .rename_i gl;have:p.o= .hole:=by
      by_cases h:p.o= .hole
      .exact h
      .exact(lV ⟨gl,h⟩).elim
     rw[this]
    .rfl
   obtain⟨ms,el,fJ⟩:=ih s (λck dJ=>bl ck (by simp[dJ])) oR;refine⟨ms,λm hm=>⟨(uQ p ps).1 _ (el m hm).1,(el m hm).2⟩,?_⟩;intro az gu;simp only[List.map_cons,I.du]at gu;show g3 (p.ig az) ps=_;rw[D6];exact fJ az gu.right
theorem Sq {s az:ak}:∀(a:I) (d:I),cX a.aa az s->view s a=some d->view az a=some d:=by
 intro a d h;have:=DH (s:=s) (az:=az) a d;intro aH;cases a with
 |h x q=>simp only[view]at aH⊢;rw[h x (by simp[I.aa])];exact aH
 |au x q=>simp only[view]at aH⊢;rw[h x (by simp[I.aa])];exact aH
 |fn f cap=>
  refine this (λu hu _=>h u hu) aH
 |_=>exact aH
theorem Sr {p:cn} {s az:ak} (h:cX p.a.aa az s) (eB:p.ok s):p.ok az:=by
 unfold cn.ok at eB⊢;split
 .rename_i bl;rw[if_pos bl]at eB;cases b8:p.a with
  |h x q=>
   rw[b8]at eB;simp only at eB⊢;rw[h x (by simp[b8,I.aa])];exact eB
  |_=>rw[b8]at eB;exact eB.elim
 .rename_i bl;rw[if_neg bl]at eB;exact Sq _ _ h eB
def Ae (C:bH) (o:bJ) (s:ak) (kg:eU) (ms:List gr):Prop:=
 (∀az,cX kg.bP az s->∀K:ak->Prop,K (c1 ms az)->lu C az o K)/\(∀m∈ms,m.x∈kg.T/\∀u∈m.d.aa,u∈kg.H)/\(∀u∈kg.bP,∀x∈(s u).aa,x∈kg.H)/\(kg.c=true->∀u∈kg.bP,(s u).clean=true)
theorem Kq (dst:Option Nat) (av:I):∃ms:List gr,(∀m∈ms,m.x∈dst.toList/\m.d=av)/\∀s1:ak,fin s1 dst av=c1 ms s1:=by
 cases dst with
 |none=>exact⟨[],by simp,λs=>rfl⟩
 |some t=>
  simp only[fin];by_cases h:av.plain=true
  .exact⟨[⟨.no,t,av⟩],by simp,λs=>by rw[if_pos h,Ji]⟩
  .exact⟨[⟨.cv,t,av⟩],by simp,λs=>by rw[if_neg h,Jh]⟩
theorem Af {s:ak} {bP:afc} {dst:Option Nat} {cr:afc} {av:I}:(∀u∈(iG s bP dst cr av).bP,∀x∈(s u).aa,x∈(iG s bP dst cr av).H)/\((iG s bP dst cr av).c=true->∀u∈(iG s bP dst cr av).bP,(s u).clean=true):=by
 refine⟨λu hu x al=>?_,λan=>?_⟩
 .simp only[iG,List.mem_append,List.mem_flatMap];exact .inl ⟨u,hu,al⟩
 .simp only[iG,List.all_eq_true]at an;exact an
theorem Kr {s:ak} {f:a6} {args:List a6} {K:afc->I->ak->Prop} (h:Kk C s f args K):
  ∃cr av ms,K cr av (c1 ms s)/\(∀m∈ms,m.x∈cr/\m.d.aa=[])/\∀az,cX (use s (.call f args)) az s->∀cZ:I->ak->Prop,cZ av (c1 ms az)->DM C az f args cZ:=by
 obtain⟨g,caps,ps,r,ae,gA,af,aF,a1,bt,b_,cq,er⟩:=h;have Ss:∀p∈ps,Ad s p (λd=>d=p.d/\p.d.fY=true):=by
  intro p au bl;have:=aF p au;simp only[cn.ok,bl,if_true]at this;cases b8:p.a with
  |h x q=>rw[b8]at this;exact⟨x,q,p.d,rfl,this.1,⟨rfl,this.2.1⟩,this.2.2.imp id λh=>h.1⟩
  |_=>rw[b8]at this;exact this.elim
 obtain⟨⟨oQ,ab,aW⟩,fm⟩:=Sk ps s Ss a1;obtain⟨rK,ie,hp⟩:=So ps (eA s ps) fm a1;have pI:∀u∈I.du (ps.map (·.a)),u∈use s (.call f args):=by
  rw[af];intro u hu;simp only[use,List.mem_append];have key:∀(gi l2:afh),u∈I.du (gi++l2)->u∈I.du gi\/u∈I.du l2:=by
   intro gi;induction gi with
   |nil=>intro l2 h;exact .inr h
   |cons a gi ih=>
    intro l2 h;simp only[List.cons_append,I.du,List.mem_append]at h⊢;rcases h with h|h
    .exact .inl (.inl h)
    .exact(ih l2 h).imp .inr id
  rcases key _ _ hu with hu|hu
  .exact .inr (a6.zQ u hu)
  .refine .inl (a6.sU u ?_);rw[ae];exact hu
 have fE:g3 (eA s ps) ps=c1 (oQ++rK) s:=by
  rw[ln,<-aW s (λ_ _=>rfl),hp _ (λ_ _=>rfl)]
 refine⟨qN ps,r,oQ++rK,by rw[<-fE];exact er,?_,?_⟩
 .intro m hm;rcases List.mem_append.1 hm with hm|hm
  .exact ab m hm
  .exact ie m hm
 .intro az aa cZ aj;have qF:cX (I.du (ps.map (·.a))) az s:=aa.sub pI;have a8:cX (f.use s) az s:=by simp only[use]at aa;exact aa.left
  have al:cX (a6.oP s args) az s:=by simp only[use]at aa;exact aa.right
  have aT:g3 (eA az ps) ps=c1 (oQ++rK) az:=by
   rw[ln,<-aW az qF,hp];rw[aW az qF,aW s (λ_ _=>rfl)];exact cX.c1 qF _
  exact⟨g,caps,ps,r,by rw[a6.e3 a8];exact ae,gA,by rw[a6.Dr al];exact af,λp au=>Sr (qF.sub (Sj au)) (aF p au),a1,bt,b_,cq,by rw[aT];exact aj⟩
mutual
theorem Ks {s az:ak}:∀(d:I),cX d.aa az s->d.e4 az=d.e4 s
 | .h x q,h=>by simp only[I.e4];rw[h x (by simp[I.aa])]
 | .U x q,h=>by simp only[I.e4];rw[h x (by simp[I.aa])]
 | .fn f cap,h=>by simp only[I.e4];exact Kt cap (by simpa only[I.aa]using h)
 | .au _ _,_=>by simp only[I.e4]
 | .hole,_=>by simp only[I.e4]
 | .bool _,_=>by simp only[I.e4]
 | .eM,_=>by simp only[I.e4]
 | .int _ _,_=>by simp only[I.e4]
 | .str _,_=>by simp only[I.e4]
 | .db,_=>by simp only[I.e4]
 | .aN,_=>by simp only[I.e4]
 | .slice _,_=>by simp only[I.e4]
 | .ag _ _,_=>by simp only[I.e4]
 | .ref _,_=>by simp only[I.e4]
 | .aK _,_=>by simp only[I.e4]
 | .agg _,_=>by simp only[I.e4]
 | .tuple _,_=>by simp only[I.e4]
 | .dm _,_=>by simp only[I.e4]
 | .eY _ _,_=>by simp only[I.e4]
 | .gb _,_=>by simp only[I.e4]
theorem Kt {s az:ak}:∀(ds:afh),cX (I.du ds) az s->I.n6 az ds=I.n6 s ds
 |[],_=>rfl
 |d::ds,h=>by
  simp only[I.du]at h;simp only[I.n6];rw[Ks d h.left,Kt ds h.right]
end
theorem D7 {s az:ak} {us:afc} (h:cX (us.flatMap λu=>u::(s u).aa) az s):iU az us=iU s us:=by
 unfold iU;refine List.map_congr_left λu hu=>?_;rw[h u (List.mem_flatMap.2 ⟨u,hu,by simp⟩)]
theorem D8 {s az:ak}:∀(L:afg),(∀p∈L,cX p.2.aa az s)->kX az L=kX s L
 |[],_=>rfl
 |p::L,h=>by
  simp only[kX];rw[Ks p.2 (h p (by simp)),D8 L (λq cF=>h q (by simp[cF]))]
theorem D9:∀(L:afg) (s:ak),kc s L=c1 (L.map λp=>⟨.no,p.1,p.2⟩) s
 |[],s=>rfl
 |p::L,s=>by
  simp only[kc,List.map_cons];rw[D9 L,Ji];exact(ln [⟨.no,p.1,p.2⟩] _ s).symm
theorem St {s:ak} {bq:di} {K:afc->I->ak->Prop} (h:kZ C s bq K):
  ∃cr av ms,K cr av (c1 ms s)/\(∀m∈ms,m.x∈cr/\∀v∈m.d.aa,∃u∈use s bq,v∈(s u).aa)/\∀az,cX (use s bq) az s->∀cZ:I->ak->Prop,cZ av (c1 ms az)->n7 C az bq cZ:=by
 have plain:(∃av s1,bE C s bq=some (av,s1)/\K (kS s bq) av s1)->(∀az (cZ:I->ak->Prop) av s1,bE C az bq=some (av,s1)->cZ av s1->n7 C az bq cZ)->
   ∃cr av ms,K cr av (c1 ms s)/\(∀m∈ms,m.x∈cr/\∀v∈m.d.aa,∃u∈use s bq,v∈(s u).aa)/\∀az,cX (use s bq) az s->∀cZ:I->ak->Prop,cZ av (c1 ms az)->n7 C az bq cZ:=by
  rintro⟨av,s1,ae,af⟩ hw;obtain⟨ms,aT,a3,aY⟩:=Jz ae;subst aT;exact⟨_,av,ms,af,λm hm=>⟨(a3 m hm).1,λv aH=>by rw[(a3 m hm).2]at aH;cases aH⟩,λaz aa cZ aj=>hw az cZ av _ (aY az aa) aj⟩
 cases bq with
 |call f args=>
  obtain⟨cr,av,ms,ab,aW,fm⟩:=Kr h;exact⟨cr,av,ms,ab,λm hm=>⟨(aW m hm).1,λv aH=>by rw[(aW m hm).2]at aH;cases aH⟩,λaz aa cZ aj=>fm az aa cZ aj⟩
 |kR f args us=>
  obtain⟨ch,an⟩:=h;obtain⟨cr,av,ms,⟨ab,Su⟩,aW,fm⟩:=Kr an;have e:∀az:ak,kc (c1 ms az) (iU s us)=c1 (ms++(iU s us).map λp=>⟨.no,p.1,p.2⟩) az:=λaz=>by rw[ln,D9]
  have mi:∀{az:ak},cX (us.flatMap λu=>u::(s u).aa) az s->∀p∈iU s us,cX p.2.aa az s:=λ{az} aa p au v aH=>by
   obtain⟨u,hu,rfl⟩:=List.mem_map.1 au;exact aa v (List.mem_flatMap.2 ⟨u,hu,by simp[aH]⟩)
  refine⟨us++cr,av,ms++(iU s us).map λp=>⟨.no,p.1,p.2⟩,by rw[<-e];exact Su,?_,?_⟩
  .intro m hm;rcases List.mem_append.1 hm with hm|hm
   .exact⟨by simp[(aW m hm).1],λv aH=>by rw[(aW m hm).2]at aH;cases aH⟩
   .obtain⟨p,au,rfl⟩:=List.mem_map.1 hm;obtain⟨u,hu,rfl⟩:=List.mem_map.1 au;exact⟨List.mem_append_left _ hu,λv aH=>⟨u,by simp only[use,List.mem_append,List.mem_flatMap];exact .inl ⟨u,hu,by simp⟩,aH⟩⟩
  .intro az aa cZ aj;simp only[use]at aa;refine⟨by rw[D7 aa.left,D8 _ (mi aa.left)];exact ch,fm az aa.right _ ⟨?_,?_⟩⟩
   .rw[D7 aa.left,D8 _ (λp au=>(mi aa.left p au).c1 ms)];exact ab
   .rw[D7 aa.left,e];exact aj
 |ll T x y u=>
  obtain⟨bU,s1,ae,af⟩:=h;obtain⟨ms,aT,a3,aY⟩:=Jy ae;subst aT;have e:∀az:ak,kc (c1 ms az) [(u,s u)]=c1 (ms++[⟨.no,u,s u⟩]) az:=λaz=>by rw[ln,D9];rfl
  refine⟨_,.hole,ms++[⟨.no,u,s u⟩],by rw[<-e];exact af,?_,?_⟩
  .intro m hm;rcases List.mem_append.1 hm with hm|hm
   .exact⟨List.mem_cons_of_mem _ (a3 m hm).1,λv aH=>by rw[(a3 m hm).2]at aH;cases aH⟩
   .simp only[List.mem_singleton]at hm;subst hm;exact⟨by simp,λv aH=>⟨u,by simp[use],aH⟩⟩
  .intro az aa cZ aj;simp only[use]at aa;have hu:az u=s u:=aa u (by simp);have al:a7 az x=a7 s x:=a6.e3 aa.right.left;have a5:a7 az y=a7 s y:=a6.e3 aa.right.right;have oG:lQ az (a7 s x) (s u)=lQ s (a7 s x) (s u):=by
    have D_:cX (s u).aa az s:=λv aH=>aa v (by simp[aH]);revert D_;cases a7 s x<;>cases s u<;>first|(intro _;rfl)|skip
    rename_i z q e_ p;intro D_;have aY:az e_=s e_:=D_ e_ (by simp[I.aa]);simp only[lQ];by_cases bF:e_=z
    .rw[<-bF,aY]
    .simp[bF]
   have b1:=aY az (by
    intro v aH;rcases List.mem_append.1 aH with aH|aH
    .exact cX.a7 aa.right.left v aH
    .exact cX.a7 aa.right.right v aH)
   simp only[Option.map_eq_some_iff,Prod.mk.injEq,true_and]at b1;obtain⟨s2,aF,a1⟩:=b1;refine⟨by rw[al,hu,oG];exact bU,s2,by rw[al,a5];exact aF,?_⟩;rw[hu,a1,e];exact aj
 |shr bq=>
  obtain⟨av,s1,ae,af,aF,a1⟩:=h;obtain⟨ms,aT,a3,aY⟩:=Jz ae;subst aT;exact⟨_,av.share,ms,a1,λm hm=>⟨(a3 m hm).1,λv aH=>by rw[(a3 m hm).2]at aH;cases aH⟩,λaz aa cZ aj=>⟨av,_,aY az aa,af,aF,aj⟩⟩
 |_=>exact plain h (λaz cZ av s1 ae af=>⟨av,s1,ae,af⟩)
theorem Sv {s:ak} {o:bJ} {K:eU->ak->Prop} (h:kf C s o K):∃kg ms,K kg (c1 ms s)/\Ae C o s kg ms:=by
 have op:∀(bP:afc),(∀u∈use s o.bq,u∈bP)->(∀az,cX bP az s->∀cZ:ak->Prop,n7 C az o.bq (λav s1=>cZ (fin s1 o.dst av))->lu C az o cZ)->
   kZ C s o.bq (λcr av s1=>K (iG s bP o.dst cr av) (fin s1 o.dst av))->∃kg ms,K kg (c1 ms s)/\Ae C o s kg ms:=by
  intro bP pI eH hw;obtain⟨cr,av,ms,ae,af,aF⟩:=St hw;obtain⟨kA,kB,b9⟩:=Kq o.dst av;refine⟨iG s bP o.dst cr av,ms++kA,?_,?_,?_,Af.1,Af.2⟩
  .rw[ln,<-b9];exact ae
  .intro az aa cZ aj;refine eH az aa cZ (aF az (aa.sub pI) _ ?_);rw[b9,<-ln];exact aj
  .intro m hm;simp only[iG,List.mem_append];rcases List.mem_append.1 hm with hm|hm
   .refine⟨.inr (af m hm).1,λv aH=>.inl ?_⟩;obtain⟨u,hu,lI⟩:=(af m hm).2 v aH;exact List.mem_flatMap.2 ⟨u,pI u hu,lI⟩
   .exact⟨.inl (kB m hm).1,λu hu=>.inr (by rw[(kB m hm).2]at hu;exact hu)⟩
 have skip:∀t,(∀az,cX [t] az s->∀cZ:ak->Prop,cZ (fin az o.dst (.tuple []))->lu C az o cZ)->K (iG s [t] o.dst [] (.tuple [])) (fin s o.dst (.tuple []))->∃kg ms,K kg (c1 ms s)/\Ae C o s kg ms:=by
  intro t eH aj;obtain⟨kA,kB,b9⟩:=Kq o.dst (.tuple []);refine⟨_,kA,by rw[<-b9];exact aj,?_,?_,Af.1,Af.2⟩
  .intro az aa cZ js;exact eH az aa cZ (by rw[b9];exact js)
  .intro m hm;simp only[iG,List.mem_append];exact⟨.inl (kB m hm).1,λu hu=>by rw[(kB m hm).2]at hu;simp[I.aa]at hu⟩
 unfold kf at h;split at h
 .rename_i bl;exact op _ (λ_ h=>h) (λaz _ cZ hw=>by unfold lu;rw[bl];exact hw) h
 .rename_i t b bl;split at h
  .rename_i eN U;split at h
   .rename_i e;refine op (t::use s o.bq) (λu hu=>by simp[hu]) (λaz aa cZ hw=>?_) h;have:az t=s t:=aa t (by simp);unfold lu;rw[bl];simp only[this,U,if_pos e];exact hw
   .rename_i e;refine skip t (λaz aa cZ aj=>?_) h;have:az t=s t:=aa t (by simp);unfold lu;rw[bl];simp only[this,U,if_neg e];exact aj
  .rename_i U;refine skip t (λaz aa cZ aj=>?_) h;have:az t=s t:=aa t (by simp);unfold lu;rw[bl];simp only[this,U];exact aj
  .exact h.elim
def rS (C:bH) (ros:List bJ):ak->List (Nat×eU×List gr)->Prop
 |_,[]=>True
 |s,e::r=>(∃o,ros[e.1]? =some o/\Ae C o s e.2.1 e.2.2)/\rS C ros (c1 e.2.2 s) r
def o0 (s:ak) (r:List (Nat×eU×List gr)):ak:=r.foldl (λs e=>c1 e.2.2 s) s
def nZ (a b:afc):Bool:=a.all λx=> !b.contains x
theorem uR {a b:afc} (h:nZ a b=true):∀x∈a,x∉b:=by
 intro x al;simp only[nZ,List.all_eq_true]at h;simpa using h x al
def tb (a b:eU):Bool:=nZ b.T a.bP&&nZ b.T a.H&&nZ b.T a.T&&nZ a.T b.bP&&nZ a.T b.H&&b.c
theorem Sw {ros:List bJ} {s:ak} {a b:Nat×eU×List gr} {r:List (Nat×eU×List gr)} (h:rS C ros s (a::b::r)) (aC:tb a.2.1 b.2.1=true):
  rS C ros s (b::a::r)/\o0 s (b::a::r)=o0 s (a::b::r):=by
 obtain⟨⟨Sy,b8,ab,aW,fm,rE⟩,⟨dm,U,ie,hp,jU,cG⟩,aR⟩:=h;simp only[tb,Bool.and_eq_true]at aC;obtain⟨⟨⟨⟨⟨rv,oD⟩,so⟩,Cy⟩,wA⟩,CA⟩:=aC;have Ea:∀u∈b.2.1.bP,c1 a.2.2 s u=s u:=by
  intro u hu;refine Se _ _ _ (λm hm e=>?_) (cG CA u hu);exact uR Cy m.x (aW m hm).1 (e▸hu)
 have Eb:∀u∈a.2.1.bP,c1 b.2.2 s u=s u:=by
  intro u hu;refine Sf _ _ _ λm hm=>⟨λe=>?_,λal=>?_⟩
  .exact uR rv m.x (hp m hm).1 (e▸hu)
  .exact uR oD m.x (hp m hm).1 (fm u hu _ al)
 have Ku:c1 b.2.2 (c1 a.2.2 s)=c1 a.2.2 (c1 b.2.2 s):=by
  refine Sh _ _ _ λm hm n a4=>⟨λe=>?_,λh=>?_,λh=>?_⟩
  .exact uR so n.x (hp n a4).1 (e▸(aW m hm).1)
  .exact uR oD n.x (hp n a4).1 ((aW m hm).2 _ h)
  .exact uR wA m.x (aW m hm).1 ((hp n a4).2 _ h)
 refine⟨⟨⟨dm,U,?_,hp,?_,?_⟩,⟨Sy,b8,?_,aW,?_,?_⟩,?_⟩,?_⟩
 .intro az aa K aj;exact ie az (λu hu=>(aa u hu).trans (Ea u hu).symm) K aj
 .intro u hu x al;exact jU u hu x (by rw[Ea u hu];exact al)
 .intro an u hu;have:=cG an u hu
  rwa [Ea u hu]at this
 .intro az aa K aj;exact ab az (λu hu=>(aa u hu).trans (Eb u hu)) K aj
 .intro u hu x al;rw[Eb u hu]at al;exact fm u hu x al
 .intro an u hu;rw[Eb u hu];exact rE an u hu
 .rw[<-Ku];exact aR
 .simp only[o0,List.foldl_cons];rw[Ku]
theorem Sz {ros:List bJ} {e:Nat×eU×List gr} {post:List (Nat×eU×List gr)}:∀(pre:List (Nat×eU×List gr)) (s:ak),rS C ros s (pre++e::post)->(∀a∈pre,tb a.2.1 e.2.1=true)->
  rS C ros s (e::(pre++post))/\o0 s (e::(pre++post))=o0 s (pre++e::post):=by
 intro pre;induction pre with
 |nil=>intro s h _;exact⟨h,rfl⟩
 |cons a pre ih=>
  intro s h aC;obtain⟨ae,af⟩:=h;obtain⟨aV,ba⟩:=ih _ af λb U=>aC b (by simp[U]);have an:rS C ros s (a::e::(pre++post)):=⟨ae,aV⟩
  obtain⟨bU,ch⟩:=Sw an (aC a (by simp));refine⟨bU,ch.trans ?_⟩;simp only[o0,List.foldl_cons,List.cons_append]at ba⊢;exact ba
end
def xv:afa->afa->afa
 |done,[]=>done
 |done,a::r=>xv (done++[a++a.flatMap λe=>(done[e]?).getD []]) r
def pR (eJ:afa):afa:=xv [] eJ
theorem SA {eJ:afa} {l:afc} (hl:∀u i v,l=u++i::v->∀e∈(eJ[i]?).getD [],e∈u):∀(rest pre done:afa),eJ=pre++rest->done.length=pre.length->
  (∀u i v,l=u++i::v->∀e∈(done[i]?).getD [],e∈u)->∀u i v,l=u++i::v->∀e∈((xv done rest)[i]?).getD [],e∈u:=by
 intro rest;induction rest with
 |nil=>intro pre done _ _ h;exact h
 |cons a rest ih=>
  intro pre done Kv hlen h;simp only[xv];refine ih (pre++[a]) _ (by simp[Kv]) (by simp[hlen]) ?_;intro u i v hu e he;by_cases aC:i<done.length
  .rw[List.getElem?_append_left aC]at he;exact h u i v hu e he
  .rw[List.getElem?_append_right (by omega)]at he;by_cases n3:i-done.length=0
   .rw[n3]at he;simp only[List.getElem?_cons_zero,Option.getD_some,List.mem_append,List.mem_flatMap]at he;have Kw:(eJ[i]?).getD []=a:=by
     have:i=pre.length:=by omega
     rw[Kv,this,List.getElem?_append_right (Nat.le_refl _)];simp
    rcases he with he|⟨gd,DS,he⟩
    .exact hl u i v hu e (by rw[Kw];exact he)
    .have qI:=hl u i v hu gd (by rw[Kw];exact DS);obtain⟨Df,Dg,rfl⟩:=List.append_of_mem qI;have:=h Df gd (Dg++i::v) (by rw[hu];simp) e he;simp[this]
   .rw[List.getElem?_eq_none (by simp;omega)]at he;simp at he
theorem SB {eJ:afa} {l:afc} (hl:∀u i v,l=u++i::v->∀e∈(eJ[i]?).getD [],e∈u):∀u i v,l=u++i::v->∀e∈((pR eJ)[i]?).getD [],e∈u:=
 SA hl eJ [] [] rfl rfl λu i v _ e he=>by simp at he
def kC (mA:afa):Nat->List (Nat×eU)->List eU->Bool
 |_,_,[]=>true
 |j,es,f::ay=>(es.all λe=>((mA[j]?).getD []).contains e.1||tb e.2 f)&&kC mA (j+1) ((j,f)::es) ay
def Ec (mA:afa) (a b:Nat×eU×List gr):Prop:=a.1∈(mA[b.1]?).getD []\/tb a.2.1 b.2.1=true
theorem SC {mA:afa}:∀(gW:List (Nat×eU×List gr)) (j:Nat) (es:List (Nat×eU)),gW.map (·.1)=(List.range gW.length).map (·+j)->kC mA j es (gW.map (·.2.1))=true->
  gW.Pairwise (Ec mA)/\∀e∈es,∀b∈gW,e.1∈(mA[b.1]?).getD []\/tb e.2 b.2.1=true:=by
 intro gW;induction gW with
 |nil=>intro j es _ _;exact⟨.nil,λe _ b U=>by cases U⟩
 |cons a gW ih=>
  intro j es tc eB;rw[List.length_cons,List.range_succ_eq_map,List.map_cons,List.map_cons,List.map_map]at tc;simp only[List.cons.injEq,Nat.zero_add]at tc;obtain⟨bZ,tc⟩:=tc;simp only[List.map_cons,kC,Bool.and_eq_true,List.all_eq_true,Bool.or_eq_true]at eB;obtain⟨ae,af⟩:=eB;obtain⟨aV,ba⟩:=ih (j+1) _ (by rw[tc];congr 1;funext x;simp;omega) af;refine⟨.cons (λb U=>?_) aV,λe he b U=>?_⟩
  .have:=ba (j,a.2.1) (by simp) b U;simp only[Ec,bZ];exact this
  .rcases List.mem_cons.1 U with rfl|U
   .rw[bZ];exact(ae e he).imp (λh=>by simpa using h) id
   .exact ba e (by simp[he]) b U
section
variable {C:bH}
theorem SD {K:Option (List eU)->ak->Prop}:∀(os pre:List bJ) (s:ak) (acc:List eU),cy C s os (some acc) K->
  ∃gW,rS C (pre++os) s gW/\gW.map (·.1)=(List.range os.length).map (·+pre.length)/\K (some ((gW.map (·.2.1)).reverse++acc)) (o0 s gW):=by
 intro os;induction os with
 |nil=>intro pre s acc h;exact⟨[],trivial,rfl,h⟩
 |cons o os ih=>
  intro pre s acc h;obtain⟨kg,ms,ae,af⟩:=Sv h;obtain⟨gW,aV,ba,bT⟩:=ih (pre++[o]) _ (kg::acc) ae;refine⟨(pre.length,kg,ms)::gW,⟨⟨o,?_,af⟩,?_⟩,?_,?_⟩
  .rw[List.getElem?_append_right (Nat.le_refl _)];simp
  .simpa using aV
  .rw[List.length_cons,List.range_succ_eq_map,List.map_cons,List.map_cons,List.map_map,ba];simp only[List.cons.injEq,Nat.zero_add,true_and];congr 1;funext x;simp;omega
  .simpa [o0]using bT
theorem SE {ros:List bJ} {mA:afa} {K:ak->Prop}:∀(l:afc) (gW:List (Nat×eU×List gr)) (s:ak),rS C ros s gW->gW.Pairwise (Ec mA)->l.Nodup->(gW.map (·.1)).Nodup->
  (∀i,i∈l↔i∈gW.map (·.1))->(∀u i v,l=u++i::v->∀e∈(mA[i]?).getD [],e∈gW.map (·.1)->e∈u)->K (o0 s gW)->jF C ros s l K:=by
 intro l;induction l with
 |nil=>
  intro gW s _ _ _ _ hm _ aj;cases gW with
  |nil=>exact aj
  |cons e gW=>have:=(hm e.1).2 (by simp);cases this
 |cons i l ih=>
  intro gW s an au a4 w6 hm bO aj;obtain⟨e,he,aC⟩:=List.mem_map.1 ((hm i).1 (by simp));obtain⟨pre,post,rfl⟩:=List.append_of_mem he;have SF:∀a∈pre,tb a.2.1 e.2.1=true:=by
   intro a b8;have aR:=(List.pairwise_append.1 au).2.2 a b8 e (by simp);rcases aR with aR|aR
   .rw[aC]at aR;have:=bO [] i l rfl a.1 aR (by simp only[List.map_append,List.mem_append,List.mem_map];exact .inl ⟨a,b8,rfl⟩);cases this
   .exact aR
  obtain⟨aV,ba⟩:=Sz pre s an SF;obtain⟨⟨o,SG,z3⟩,bT⟩:=aV;have Kx:i∉(pre++post).map (·.1):=by
   have:(pre.map (·.1)++e.1::post.map (·.1)).Nodup:=by simpa using w6
   have bB:=(List.perm_middle.nodup_iff.1 this)
   rw[List.nodup_cons]at bB;rw[<-aC];simpa using bB.1
  simp only[jF];rw[<-aC,SG];refine z3.1 s (λ_ _=>rfl) _ ?_;rw[List.nodup_cons]at a4;refine ih (pre++post) _ bT ?_ a4.2 ?_ ?_ ?_ ?_
  .exact au.sublist ((List.Sublist.refl pre).append (List.sublist_cons_self e post))
  .have:(pre.map (·.1)++e.1::post.map (·.1)).Nodup:=by simpa using w6
   have bB:=(List.perm_middle.nodup_iff.1 this)
   rw[List.nodup_cons]at bB;simpa using bB.2
  .intro j;constructor
   .intro bZ;have ae:=(hm j).1 (by simp[bZ]);simp only[List.map_append,List.map_cons,List.mem_append,List.mem_cons]at ae⊢;rcases ae with ae|rfl|ae
    .exact .inl ae
    .exact(a4.1 (aC▸bZ)).elim
    .exact .inr ae
   .intro bZ;have ae:=(hm j).2 (by
     simp only[List.map_append,List.map_cons,List.mem_append,List.mem_cons]at bZ⊢;exact bZ.imp id .inr)
    rcases List.mem_cons.1 ae with rfl|ae
    .exact(Kx bZ).elim
    .exact ae
  .intro u j v hu x al Ed;have ae:=bO (i::u) j v (by rw[hu];rfl) x al (by
    simp only[List.map_append,List.map_cons,List.mem_append,List.mem_cons]at Ed⊢;exact Ed.imp id .inr)
   rcases List.mem_cons.1 ae with rfl|ae
   .exact(Kx Ed).elim
   .exact ae
  .have:o0 s (e::(pre++post))=o0 (c1 e.2.2 s) (pre++post):=rfl;rw[<-this,ba];exact aj
theorem Ky {ros:List bJ} {eJ:afa} {s:ak} {K:ak->Prop} (hlen:eJ.length=ros.length)
  (h:cy C s ros (some []) (λacc s=>kC (pR eJ) 0 [] (acc.getD []).reverse=true/\K s)):∀l,DQ eJ l->jF C ros s l K:=by
 intro l ⟨gi,l2,DL⟩;obtain⟨gW,aV,ba,bT,c6⟩:=SD ros [] s [] h;simp only[List.nil_append,List.append_nil,List.length_nil,Option.getD_some,List.reverse_reverse]at aV ba bT;have hl:gW.length=ros.length:=by have:=congrArg List.length ba;simpa using this
 have tc:gW.map (·.1)=(List.range gW.length).map (·+0):=by rw[ba,hl]
 have aR:gW.map (·.1)=List.range ros.length:=by rw[ba];simp
 obtain⟨dD,_⟩:=SC gW 0 [] tc bT;refine SE l gW s aV dD gi (by rw[aR];exact List.nodup_range) (λi=>?_) (λu i v hu e he _=>SB DL u i v hu e he) c6;rw[aR,l2,hlen,List.mem_range]
end
def n_ (C:bH) (dst:Option Nat) (os:List bJ) (K:Option (List eU)->ak->Prop):Option (I×ak)->Prop
 |some (av,s1)=>cy C (fin s1 dst av) os none K
 |none=>False
def rT (C:bH) (l:afg) (bP cr:afc) (dst:Option Nat) (os:List bJ) (a:List eU) (K:Option (List eU)->ak->Prop):Option (I×ak)->Prop
 |some (av,s1)=>cy C (fin s1 dst av) os (some (iG (ar l) bP dst cr av::a)) K
 |none=>False
def kh (C:bH) (l:afg) (dst:Option Nat) (bq:di) (t:Nat) (b:Bool) (os:List bJ) (acc:Option (List eU)) (K:Option (List eU)->ak->Prop):I->Prop
 | .bool eN=>if eN=b then kZ C (ar l) bq (λcr av s1=>cy C (fin s1 dst av) os (pQ acc (iG (ar l) (t::use (ar l) bq) dst cr av)) K)else cy C (fin (ar l) dst (.tuple [])) os (pQ acc (iG (ar l) [t] dst [] (.tuple []))) K
 | .tuple []=>cy C (fin (ar l) dst (.tuple [])) os (pQ acc (iG (ar l) [t] dst [] (.tuple []))) K
 |_=>False
section
variable {C:bH} {l:afg} {os:List bJ} {K:Option (List eU)->ak->Prop} {dst:Option Nat} {a:List eU} {acc:Option (List eU)}
theorem Ag {s:ak} {bq:di} {K:afc->I->ak->Prop} (a4:bq.hC=false):kZ C s bq K=(match bE C s bq with
  |some (av,s1)=>K (kS s bq) av s1
  |none=>False):=by
 apply propext;constructor
 .intro h;cases bq<;>first
   |(simp[di.hC]at a4;done)
   |(obtain⟨av,s1,ae,af⟩:=h;rw[ae];exact af)
 .intro h;split at h
  .rename_i av s1 he;cases bq<;>first
    |(simp[di.hC]at a4;done)
    |exact⟨av,s1,he,h⟩
  .exact h.elim
theorem Kz:cy C (ar l) [] acc K=K acc (ar l):=rfl
theorem xw {bq:di} (a4:bq.hC=false):cy C (ar l) (⟨dst,bq,none⟩::os) none K=n_ C dst os K (bE C (ar l) bq):=by
 simp only[cy,kf,pQ];rw[Ag a4];cases bE C (ar l) bq with
 |none=>rfl
 |some p=>rfl
theorem Ah {bq:di} (a4:bq.hC=false):cy C (ar l) (⟨dst,bq,none⟩::os) (some a) K=rT C l (use (ar l) bq) (kS (ar l) bq) dst os a K (bE C (ar l) bq):=by
 simp only[cy,kf,pQ];rw[Ag a4];cases bE C (ar l) bq with
 |none=>rfl
 |some p=>rfl
theorem KA {bq:di} {t:Nat} {b:Bool}:cy C (ar l) (⟨dst,bq,some (t,b)⟩::os) acc K=kh C l dst bq t b os acc K (ar l t):=by
 simp only[cy,kf];generalize ar l t=v;cases v<;>first|rfl|(rename_i vs;cases vs<;>rfl)
theorem SH {bq:di} {t:Nat} {b:Bool} (a4:bq.hC=false):kh C l dst bq t b os none K (.bool b)=n_ C dst os K (bE C (ar l) bq):=by
 simp only[kh,if_true];rw[Ag a4];cases bE C (ar l) bq with
 |none=>rfl
 |some p=>rfl
theorem SI {bq:di} {t:Nat} {b:Bool} (a4:bq.hC=false):kh C l dst bq t b os (some a) K (.bool b)=rT C l (t::use (ar l) bq) (kS (ar l) bq) dst os a K (bE C (ar l) bq):=by
 simp only[kh,if_true];rw[Ag a4];cases bE C (ar l) bq with
 |none=>rfl
 |some p=>rfl
theorem SJ {bq:di} {t:Nat}:kh C l dst bq t true os none K (.bool false)=cy C (fin (ar l) dst (.tuple [])) os none K/\kh C l dst bq t false os none K (.bool true)=cy C (fin (ar l) dst (.tuple [])) os none K/\
  (∀b,kh C l dst bq t b os none K (.tuple [])=cy C (fin (ar l) dst (.tuple [])) os none K):=⟨rfl,rfl,λ_=>rfl⟩
theorem SK {bq:di} {t:Nat}:kh C l dst bq t true os (some a) K (.bool false)=cy C (fin (ar l) dst (.tuple [])) os (some (iG (ar l) [t] dst [] (.tuple [])::a)) K/\
  kh C l dst bq t false os (some a) K (.bool true)=cy C (fin (ar l) dst (.tuple [])) os (some (iG (ar l) [t] dst [] (.tuple [])::a)) K/\
  (∀b,kh C l dst bq t b os (some a) K (.tuple [])=cy C (fin (ar l) dst (.tuple [])) os (some (iG (ar l) [t] dst [] (.tuple [])::a)) K):=⟨rfl,rfl,λ_=>rfl⟩
theorem SL (av:I) (s1:ak):n_ C dst os K (some (av,s1))=cy C (fin s1 dst av) os none K:=rfl
theorem SM (bP cr:afc) (av:I) (s1:ak):rT C l bP cr dst os a K (some (av,s1))=cy C (fin s1 dst av) os (some (iG (ar l) bP dst cr av::a)) K:=rfl
def uS (s:ak):I->Option (I×ak)
 | .h y q=>cr s (.h y q)
 |d=>some (d,s)
def KB (s:ak):I->I->I->Option (I×ak)
 | .bool eN,x,y=>some (if eN then x else y,s)
 |_,_,_=>none
def kD (s:ak):Option I->Option (I×ak)
 |some d=>some (d,s)
 |none=>none
def dj:Option ak->Option (I×ak)
 |some s1=>some (.hole,s1)
 |none=>none
def ju (s:ak):List a6->afh
 |[]=>[]
 |x::xs=>a7 s x::ju s xs
def rU (s:ak):List (Nat×a6)->afg
 |[]=>[]
 |(k,x)::xs=>(k,a7 s x)::rU s xs
def xx (s:ak):Option a6->Option I
 |none=>none
 |some x=>some (a7 s x)
theorem KC (s:ak) (x:Option I):(x.map λd=>(d,s))=kD s x:=by cases x<;>rfl
theorem SN (x:Option ak):(x.map λs1=>(I.hole,s1))=dj x:=by cases x<;>rfl
theorem xy (s:ak):∀xs:List a6,xs.map (a7 s)=ju s xs
 |[]=>rfl
 |x::xs=>by simp only[List.map_cons,ju,xy s xs]
theorem KD (s:ak):∀xs:List (Nat×a6),(xs.map λp=>(p.1,a7 s p.2))=rU s xs
 |[]=>rfl
 |(k,x)::xs=>by simp only[List.map_cons,rU,KD s xs]
theorem SO (s:ak) (x:Option a6):x.map (a7 s)=xx s x:=by cases x<;>rfl
theorem KE:(∀x,di.hC (.eP x)=false)/\
  (∀x,di.hC (.lP x)=false)/\
  (∀c x y,di.hC (.pick c x y)=false)/\
  (∀T,di.hC (.lM T)=false)/\
  (∀T x,di.hC (.g_ T x)=false)/\
  (∀T ps,di.hC (.fl T ps)=false)/\
  (∀T n ps,di.hC (.eu T n ps)=false)/\
  (∀T x,di.hC (.ff T x)=false)/\
  (∀T x y,di.hC (.gT T x y)=false)/\
  (∀x,di.hC (.iT x)=false)/\
  (∀op T x y,di.hC (.eh op T x y)=false)/\
  (∀op x,di.hC (.un op x)=false)/\
  (∀A B x,di.hC (.iB A B x)=false)/\
  (∀f cs,di.hC (.n1 f cs)=false)/\
  (∀T x y,di.hC (.ei T x y)=false)/\
  (∀T x dI aC,di.hC (.e2 T x dI aC)=false)/\
  (∀T x k,di.hC (.hN T x k)=false)/\
  (∀T x y,di.hC (.jA T x y)=false)/\
  (∀T x y,di.hC (.idx T x y)=false)/\
  (∀x k,di.hC (.ex x k)=false)/\
  (∀T x,di.hC (.len T x)=false)/\
  (∀T bP x y,di.hC (.app T bP x y)=false):=by
 and_intros<;>intros<;>rfl
theorem KF:(∀x,bE C (ar l) (.eP x)=some (a7 (ar l) x,ar l))/\
  (∀x,bE C (ar l) (.lP x)=uS (ar l) (a7 (ar l) x))/\
  (∀c x y,bE C (ar l) (.pick c x y)=KB (ar l) (a7 (ar l) c) (a7 (ar l) x) (a7 (ar l) y))/\
  (∀T,bE C (ar l) (.lM T)=kD (ar l) (lM C T))/\
  (∀T x,bE C (ar l) (.g_ T x)=g_ (ar l) (a7 (ar l) x))/\
  (∀T ps,bE C (ar l) (.fl T ps)=fl C (ar l) T (rU (ar l) ps))/\
  (∀T n ps,bE C (ar l) (.eu T n ps)=eu C (ar l) T n (rU (ar l) ps))/\
  (∀T x,bE C (ar l) (.ff T x)=kD (ar l) (ff C (ar l) T (a7 (ar l) x)))/\
  (∀T x y,bE C (ar l) (.gT T x y)=dj (gT C (ar l) T (a7 (ar l) x) (a7 (ar l) y)))/\
  (∀x,bE C (ar l) (.iT x)=kD (ar l) (iT (ar l) (a7 (ar l) x)))/\
  (∀op T x y,bE C (ar l) (.eh op T x y)=kD (ar l) (eh C (ar l) op T (a7 (ar l) x) (a7 (ar l) y)))/\
  (∀op x,bE C (ar l) (.un op x)=kD (ar l) (un op (a7 (ar l) x)))/\
  (∀A B x,bE C (ar l) (.iB A B x)=kD (ar l) (iB C (ar l) A B (a7 (ar l) x)))/\
  (∀f cs,bE C (ar l) (.n1 f cs)=some (.fn f (ju (ar l) cs),ar l))/\
  (∀T x y,bE C (ar l) (.ei T x y)=kD (ar l) (ei C T (a7 (ar l) x) (a7 (ar l) y)))/\
  (∀T x dI aC,bE C (ar l) (.e2 T x dI aC)=e2 C (ar l) T (a7 (ar l) x) (xx (ar l) dI) (xx (ar l) aC))/\
  (∀T x k,bE C (ar l) (.hN T x k)=kD (ar l) (hN C (ar l) T (a7 (ar l) x) k))/\
  (∀T x y,bE C (ar l) (.jA T x y)=kD (ar l) (jA C (ar l) T (a7 (ar l) x) (a7 (ar l) y)))/\
  (∀T x y,bE C (ar l) (.idx T x y)=kD (ar l) (idx C T (a7 (ar l) x) (a7 (ar l) y)))/\
  (∀x k,bE C (ar l) (.ex x k)=kD (ar l) (ex (ar l) (a7 (ar l) x) k))/\
  (∀T x,bE C (ar l) (.len T x)=kD (ar l) (qy C (ar l) T (a7 (ar l) x)))/\
  (∀T bP x y,bE C (ar l) (.app T bP x y)=qB C (ar l) T bP (a7 (ar l) x) (a7 (ar l) y)):=by
 and_intros<;>intros<;>first|rfl|(simp only[bE,KC,SN,KD,xy,SO];done)|(simp only[bE];cases a7 (ar l) _<;>first|rfl|(rename_i b;cases b<;>rfl))
end
theorem KG:∀t d,nR t d=if I.plain d=true then d else .h t []:=λ_ _=>rfl
theorem KH:(∀l av,fin (ar l) none av=ar l)/\(∀l t av,fin (ar l) (some t) av=ar ((t,av)::if I.plain av=true then l else qL t l)):=
 ⟨λ_ _=>rfl,λl t av=>by
  simp only[fin];split
  .rw[xq]
  .rw[D4,xq]⟩
theorem Ee:
  (∀k n,I.plain (.int k n)=true)/\
  (∀b,I.plain (.bool b)=true)/\
  (∀x,I.plain (.str x)=true)/\
  (∀xs,I.plain (.slice xs)=true)/\
  (∀d,I.plain (.ref d)=true)/\
  (∀f cap,I.plain (.fn f cap)=true)/\
  (∀x q,I.plain (.h x q)=true)/\
  (∀x q,I.plain (.au x q)=true)/\
  (I.plain .db=true)/\
  (I.plain .aN=true)/\
  (I.plain .eM=true)/\
  (I.plain .hole=true)/\
  (∀sz xs,I.plain (.ag sz xs)=false)/\
  (∀d,I.plain (.aK d)=false)/\
  (∀ay,I.plain (.agg ay)=I.eb ay)/\
  (∀ay,I.plain (.tuple ay)=I.eb ay)/\
  (I.eb []=true)/\
  (∀d ds,I.eb (d::ds)=(d.plain&&I.eb ds)):=
 ⟨λ_ _=>rfl,λ_=>rfl,λ_=>rfl,λ_=>rfl,λ_=>rfl,λ_ _=>rfl,λ_ _=>rfl,λ_ _=>rfl,rfl,rfl,rfl,rfl,λ_ _=>rfl,λ_=>rfl,λ_=>rfl,λ_=>rfl,rfl,λ_ _=>rfl⟩
theorem KI:∀s d,uS s d=match d with| .h y q=>cr s (.h y q)|d=>some (d,s):=λ_ _=>by unfold uS;rfl
theorem KJ:
  (∀t k n,cv t (.int k n)=(.int k n))/\
  (∀t b,cv t (.bool b)=(.bool b))/\
  (∀t x,cv t (.str x)=(.str x))/\
  (∀t xs,cv t (.slice xs)=(.slice xs))/\
  (∀t d,cv t (.ref d)=(.ref d))/\
  (∀t,cv t .db= .db)/\
  (∀t,cv t .aN= .aN)/\
  (∀t,cv t .eM= .eM)/\
  (∀t,cv t .hole= .hole)/\
  (∀t sz xs,cv t (.ag sz xs)=(.ag sz xs))/\
  (∀t d,cv t (.aK d)=(.aK d))/\
  (∀t ay,cv t (.agg ay)=(.agg ay))/\
  (∀t ay,cv t (.tuple ay)=(.tuple ay))/\
  (∀t y q,cv t (.h y q)=if y=t then .hole else .h y q)/\
  (∀t y q,cv t (.au y q)=if y=t then .hole else .au y q)/\
  (∀t f c,cv t (.fn f c)= .fn f (iQ t c))/\
  (∀t,iQ t []=[])/\
  (∀t d ds,iQ t (d::ds)=cv t d::iQ t ds)/\
  (∀t,qL t []=[])/\
  (∀t u d l,qL t ((u,d)::l)=(u,cv t d)::qL t l)/\
  (∀t l,lf t (ar l)=ar (qL t l)):=
 ⟨λ_ _ _=>by unfold cv;rfl,λ_ _=>by unfold cv;rfl,λ_ _=>by unfold cv;rfl,λ_ _=>by unfold cv;rfl,λ_ _=>by unfold cv;rfl,λ_=>by unfold cv;rfl,λ_=>by unfold cv;rfl,λ_=>by unfold cv;rfl,λ_=>by unfold cv;rfl,λ_ _ _=>by unfold cv;rfl,λ_ _=>by unfold cv;rfl,λ_ _=>by unfold cv;rfl,λ_ _=>by unfold cv;rfl,λ_ _ _=>by unfold cv;rfl,λ_ _ _=>by unfold cv;rfl,λ_ _ _=>by simp only[cv],λ_=>by simp only[iQ],λ_ _ _=>by simp only[iQ],λ_=>rfl,λ_ _ _ _=>rfl,λt l=>D4 t l⟩
theorem KK:
  (∀t k n,b5 t (.int k n)=(.int k n))/\
  (∀t b,b5 t (.bool b)=(.bool b))/\
  (∀t x,b5 t (.str x)=(.str x))/\
  (∀t xs,b5 t (.slice xs)=(.slice xs))/\
  (∀t d,b5 t (.ref d)=(.ref d))/\
  (∀t,b5 t .db= .db)/\
  (∀t,b5 t .aN= .aN)/\
  (∀t,b5 t .eM= .eM)/\
  (∀t,b5 t .hole= .hole)/\
  (∀t sz xs,b5 t (.ag sz xs)=(.ag sz xs))/\
  (∀t d,b5 t (.aK d)=(.aK d))/\
  (∀t ay,b5 t (.agg ay)=(.agg ay))/\
  (∀t ay,b5 t (.tuple ay)=(.tuple ay))/\
  (∀t y,b5 t (.h y [])= .h y [])/\
  (∀t y k q,b5 t (.h y (k::q))=if y=t then .hole else .h y (k::q))/\
  (∀t y q,b5 t (.au y q)=if y=t then .hole else .au y q)/\
  (∀t f c,b5 t (.fn f c)= .fn f (ib t c))/\
  (∀t,ib t []=[])/\
  (∀t d ds,ib t (d::ds)=b5 t d::ib t ds)/\
  (∀t,s8 t []=[])/\
  (∀t u d l,s8 t ((u,d)::l)=(u,b5 t d)::s8 t l)/\
  (∀t l,e0 t (ar l)=ar (s8 t l)):=
 ⟨λ_ _ _=>by unfold b5;rfl,λ_ _=>by unfold b5;rfl,λ_ _=>by unfold b5;rfl,λ_ _=>by unfold b5;rfl,λ_ _=>by unfold b5;rfl,λ_=>by unfold b5;rfl,λ_=>by unfold b5;rfl,λ_=>by unfold b5;rfl,λ_=>by unfold b5;rfl,λ_ _ _=>by unfold b5;rfl,λ_ _=>by unfold b5;rfl,λ_ _=>by unfold b5;rfl,λ_ _=>by unfold b5;rfl,λ_ _=>by simp[b5],λ_ _ _ _=>by simp[b5],λ_ _ _=>by unfold b5;rfl,λ_ _ _=>by simp only[b5],λ_=>by simp only[ib],λ_ _ _=>by simp only[ib],λ_=>rfl,λ_ _ _ _=>rfl,λt l=>Kf t l⟩
def Ef:mj->Bool->Option I
 | .bool,b=>some (.bool b)
 |_,_=>none
def rV (neg:Bool):mj->Option afd->Option I
 | .slice _,some r=>some (oK neg r)
 |_,_=>none
def td (neg:Bool):mj->afd->Option I
 | .ptr _,some b=>some (.bool (b !=neg))
 |_,_=>none
theorem KL (C:bH) (s:ak) (T:TypeId):
  (∀op k a c8 b,eh C s op T (.int k a) (.int c8 b)=iA op k a c8 b)/\
  (∀op a b,eh C s op T (.str a) (.str b)=m1 op a b)/\
  (∀a b,eh C s .eql T (.bool a) (.bool b)=Ef (C.T T).k (a==b))/\
  (∀a b,eh C s .neq T (.bool a) (.bool b)=Ef (C.T T).k (!(a==b)))/\
  (∀xs,eh C s .eql T (.slice xs) .aN=rV false (C.T T).k (jr s (.slice xs)))/\
  (∀xs,eh C s .neq T (.slice xs) .aN=rV true (C.T T).k (jr s (.slice xs)))/\
  (eh C s .eql T .aN .aN=rV false (C.T T).k (jr s .aN))/\
  (eh C s .neq T .aN .aN=rV true (C.T T).k (jr s .aN))/\
  (∀x q,eh C s .eql T (.h x q) .aN=rV false (C.T T).k (jr s (.h x q)))/\
  (∀x q,eh C s .neq T (.h x q) .aN=rV true (C.T T).k (jr s (.h x q)))/\
  (∀x q,eh C s .eql T (.h x q) .db=td false (C.T T).k (kP s (.h x q)))/\
  (∀x q,eh C s .neq T (.h x q) .db=td true (C.T T).k (kP s (.h x q)))/\
  (∀d,eh C s .eql T (.ref d) .db=td false (C.T T).k (kP s (.ref d)))/\
  (∀d,eh C s .neq T (.ref d) .db=td true (C.T T).k (kP s (.ref d)))/\
  (eh C s .eql T .db .db=td false (C.T T).k (kP s .db))/\
  (eh C s .neq T .db .db=td true (C.T T).k (kP s .db)):=by
 refine⟨?_,?_,?_,?_,?_,?_,?_,?_,?_,?_,?_,?_,?_,?_,?_,?_⟩<;>intros<;>first
  |rfl
  |(simp only[eh]
    generalize (C.T T).k=jB;cases jB<;>first|rfl|(simp only[rV];generalize jr s _=v;cases v<;>rfl)|(simp only[td];generalize kP s _=v;cases v<;>(try (rename_i b;cases b))<;>rfl))
theorem KM (k:IntKind) (a b:Int):
  iA .add k a k b=some (.int k (k.wrap (a+b)))/\iA .sub k a k b=some (.int k (k.wrap (a-b)))/\iA .mul k a k b=some (.int k (k.wrap (a*b)))/\
  iA .eql k a k b=some (.bool (a==b))/\iA .neq k a k b=some (.bool (a !=b))/\iA .lss k a k b=some (.bool (decide (a<b)))/\iA .leq k a k b=some (.bool (decide (a<=b)))/\
  iA .gtr k a k b=some (.bool (decide (b<a)))/\iA .geq k a k b=some (.bool (decide (b<=a)))/\
  iA .and k a k b=some (.int k (bitsOf .and k a b))/\iA .or k a k b=some (.int k (bitsOf .or k a b))/\iA .xor k a k b=some (.int k (bitsOf .xor k a b))/\iA .andNot k a k b=some (.int k (bitsOf .andNot k a b)):=by
 simp[iA]
theorem SP {k:IntKind} {a b:Int} (h:b≠0):iA .quo k a k b=some (.int k (k.wrap (a.tdiv b))):=by simp[iA,h]
theorem SQ {k:IntKind} {a b:Int} (h:b≠0):iA .rem k a k b=some (.int k (a.tmod b)):=by simp[iA,h]
theorem KN (a b:nq):
  m1 .eql a b=some (.bool (a==b))/\m1 .neq a b=some (.bool !(a==b))/\m1 .lss a b=some (.bool (Op.bytesLess a b))/\
  m1 .leq a b=some (.bool (Op.bytesLess a b||a==b))/\m1 .gtr a b=some (.bool !(Op.bytesLess a b||a==b))/\m1 .geq a b=some (.bool !(Op.bytesLess a b)):=by
 refine⟨rfl,rfl,rfl,rfl,rfl,rfl⟩
theorem KO:(∀b,un .not (.bool b)=some (.bool !b))/\(un .not .eM=some .eM)/\(∀k n,un .neg (.int k n)=some (.int k (k.wrap (0-n)))):=⟨λ_=>rfl,rfl,λ_ _=>rfl⟩
def Eg:mj->Option UInt8->Option I
 | .str,some c=>some (.int .u8 c.toNat)
 |_,_=>none
theorem KP (C:bH) (T:TypeId) (l:nq) (k:IntKind) (n:Int):idx C T (.str l) (.int k n)=Eg (C.T T).k (bG l n):=by
 simp only[idx,bG];generalize (C.T T).k=jB;cases jB<;>first|rfl|(simp only[Eg];split<;>first|rfl|(cases l[n.toNat]? <;>rfl))
def Eh (C:bH):mj->Option I->Option I
 | .slice e,some d=>if(C.T e).ok=true/\d.wd=(C.T e).sz then some (.ref d)else none
 |_,_=>none
theorem KQ (C:bH) (s:ak) (T:TypeId) (xs:afh) (k:IntKind) (n:Int):jA C s T (.slice xs) (.int k n)=Eh C (C.T T).k (bG xs n):=by
 simp only[jA,bG];generalize (C.T T).k=jB;cases jB<;>first|rfl|skip
 simp only[Eh];by_cases bo:0<=n
 .simp only[bo,true_and,if_true];split
  .cases xs[n.toNat]? <;>simp[*]
  .cases xs[n.toNat]? <;>simp[*]
 .simp only[bo,false_and,if_false]
def xz (C:bH) (y:Nat) (q:afc) (n:Int):mj->Option I->Option I
 | .slice e,some (.ag sz xs)=>if(bG xs n).isSome=true/\(C.T e).ok=true/\sz=(C.T e).sz then some (.au y (q++[n.toNat]))else none
 |_,_=>none
theorem KR (C:bH) (s:ak) (T:TypeId) (y:Nat) (q:afc) (k:IntKind) (n:Int):jA C s T (.h y q) (.int k n)=xz C y q n (C.T T).k (I.sub q (s y)):=by
 simp only[jA];generalize (C.T T).k=jB;cases jB<;>first|rfl|skip
 rename_i e;cases aa:I.sub q (s y)with
 |none=>simp[xz]
 |some d=>
  cases d<;>first
   |(simp[xz];done)
   |skip
  rename_i sz xs;have bl:(bG xs n).isSome=true↔0<=n/\n.toNat<xs.length:=by
   unfold bG;split<;>simp_all<;>omega
  simp only[xz,bl];by_cases bo:0<=n<;>by_cases ae:(C.T e).ok=true<;>simp[bo,ae]
def uT:mj->ak->Option nq->Option (I×ak)
 | .str,s,some t=>some (.str t,s)
 |_,_,_=>none
def uU (C:bH):mj->ak->afh->Option afh->Option (I×ak)
 | .slice e,s,xs,some t=>if(C.T e).ok=true/\∀d∈xs,d.wd=(C.T e).sz then some (.slice t,s)else none
 |_,_,_,_=>none
theorem KS (C:bH) (s:ak) (T:TypeId) (l:nq):
  (∀k a c8 b,e2 C s T (.str l) (some (.int k a)) (some (.int c8 b))=uT (C.T T).k s (gw l a b))/\
  (∀c8 b,e2 C s T (.str l) none (some (.int c8 b))=uT (C.T T).k s (gw l 0 b))/\
  (∀k a,e2 C s T (.str l) (some (.int k a)) none=uT (C.T T).k s (gw l a l.length)):=by
 have e:∀(dI aC:Option I) (a b:Int),(ht 0 dI=if 0<=a then some a.toNat else none)->(ht l.length aC=if 0<=b then some b.toNat else none)->e2 C s T (.str l) dI aC=uT (C.T T).k s (gw l a b):=by
  intro dI aC a b ae af;simp only[e2];generalize (C.T T).k=jB;cases jB<;>first|rfl|skip
  simp only[ae,af,gw];by_cases b8:0<=a<;>by_cases U:0<=b<;>simp only[b8,U,if_true,if_false,uT,true_and,false_and]
  .by_cases an:a<=b/\b<=l.length
   .rw[if_pos ⟨by omega,by omega⟩,if_pos an]
   .rw[if_neg (λh=>an ⟨by omega,by omega⟩),if_neg an]
  .rw[if_neg (by omega)]
 exact⟨λk a c8 b=>e _ _ a b rfl rfl,λc8 b=>e _ _ 0 b rfl rfl,λk a=>e _ _ a l.length rfl (by simp[ht])⟩
theorem KT (C:bH) (s:ak) (T:TypeId) (xs:afh):
  (∀k a c8 b,e2 C s T (.slice xs) (some (.int k a)) (some (.int c8 b))=uU C (C.T T).k s xs (gw xs a b))/\
  (∀c8 b,e2 C s T (.slice xs) none (some (.int c8 b))=uU C (C.T T).k s xs (gw xs 0 b))/\
  (∀k a,e2 C s T (.slice xs) (some (.int k a)) none=uU C (C.T T).k s xs (gw xs a xs.length)):=by
 have e:∀(dI aC:Option I) (a b:Int),(ht 0 dI=if 0<=a then some a.toNat else none)->(ht xs.length aC=if 0<=b then some b.toNat else none)->e2 C s T (.slice xs) dI aC=uU C (C.T T).k s xs (gw xs a b):=by
  intro dI aC a b ae af;simp only[e2];generalize (C.T T).k=jB;cases jB<;>first|rfl|skip
  simp only[ae,af,gw];by_cases b8:0<=a<;>by_cases U:0<=b<;>simp only[b8,U,if_true,if_false,uU,true_and,false_and]
  .by_cases an:a<=b/\b<=xs.length
   .rw[if_pos an];have ae:a.toNat<=b.toNat:=by omega
    have af:b.toNat<=xs.length:=by omega
    simp only[ae,af,true_and]
   .rw[if_neg (λh=>an ⟨by omega,by omega⟩),if_neg an]
  .rw[if_neg (by omega)]
 exact⟨λk a c8 b=>e _ _ a b rfl rfl,λc8 b=>e _ _ 0 b rfl rfl,λk a=>e _ _ a xs.length rfl (by simp[ht])⟩
def xA (q:afc):Option I->Option I
 |some d=>I.sub q d
 |none=>none
theorem KU:(∀d,I.sub [] d=some d)/\(∀k q ay,I.sub (k::q) (.agg ay)=xA q ay[k]?)/\(∀k q ay,I.sub (k::q) (.tuple ay)=xA q ay[k]?)/\(∀k q sz xs,I.sub (k::q) (.ag sz xs)=xA q xs[k]?)/\
  (∀q d,I.sub (0::q) (.aK d)=I.sub q d)/\(∀q d,xA q (some d)=I.sub q d)/\
  (∀k q a b,I.sub (k::q) (.int a b)=none):=by
 refine⟨λd=>by simp[I.sub],?_,?_,?_,λq d=>by simp[I.sub],λ_ _=>rfl,λ_ _ _ _=>by simp[I.sub]⟩
 .intro k q ay;simp only[I.sub];cases ay[k]? <;>rfl
 .intro k q ay;simp only[I.sub];cases ay[k]? <;>rfl
 .intro k q sz ay;simp only[I.sub];cases ay[k]? <;>rfl
def KV (k:Nat) (q:afc) (n:I) (ay:afh):Option I->I
 |some d=>.agg (ay.set k (I.put q n d))
 |none=>.agg ay
def KW (k:Nat) (q:afc) (n:I) (ay:afh):Option I->I
 |some d=>.tuple (ay.set k (I.put q n d))
 |none=>.tuple ay
def KX (k:Nat) (q:afc) (n:I) (sz:Nat) (xs:afh):Option I->I
 |some d=>.ag sz (xs.set k (I.put q n d))
 |none=>.ag sz xs
theorem KY:(∀n d,I.put [] n d=n)/\(∀k q n ay,I.put (k::q) n (.agg ay)=KV k q n ay ay[k]?)/\(∀k q n ay,I.put (k::q) n (.tuple ay)=KW k q n ay ay[k]?)/\
  (∀k q n sz xs,I.put (k::q) n (.ag sz xs)=KX k q n sz xs xs[k]?)/\(∀q n d,I.put (0::q) n (.aK d)= .aK (I.put q n d))/\
  (∀k q n ay d,KV k q n ay (some d)= .agg (ay.set k (I.put q n d)))/\(∀k q n ay d,KW k q n ay (some d)= .tuple (ay.set k (I.put q n d)))/\
  (∀k q n sz xs d,KX k q n sz xs (some d)= .ag sz (xs.set k (I.put q n d))):=by
 refine⟨λn d=>by simp[I.put],?_,?_,?_,λq n d=>by simp[I.put],λ_ _ _ _ _=>rfl,λ_ _ _ _ _=>rfl,λ_ _ _ _ _ _=>rfl⟩
 .intro k q n ay;simp only[I.put];cases ay[k]? <;>rfl
 .intro k q n ay;simp only[I.put];cases ay[k]? <;>rfl
 .intro k q n sz ay;simp only[I.put];cases ay[k]? <;>rfl
theorem Ei:(∀k n,I.wd (.int k n)=1)/\(∀b,I.wd (.bool b)=1)/\(∀x,I.wd (.str x)=1)/\(∀x,I.wd (.slice x)=1)/\(∀n x,I.wd (.ag n x)=1)/\(∀x,I.wd (.ref x)=1)/\(∀x,I.wd (.aK x)=1)/\
  I.wd .aN=1/\I.wd .db=1/\I.wd .hole=1/\I.wd .eM=1/\(∀x y,I.wd (.h x y)=1)/\(∀x y,I.wd (.au x y)=1)/\(∀x y,I.wd (.fn x y)=1)/\(∀ay,I.wd (.agg ay)=I.dh ay)/\(∀ay,I.wd (.tuple ay)=I.dh ay)/\I.dh []=0/\(∀d ds,I.dh (d::ds)=d.wd+I.dh ds):=by
 simp[I.wd,I.dh]
theorem SR {α:Type} {e:α->I} {n:Nat} (h:∀x,(e x).wd=n) (xs:List α):(∀d∈xs.map e,d.wd=n)=True:=by
 simp only[List.mem_map,eq_iff_iff,iff_true];rintro d ⟨x,_,rfl⟩;exact h x
theorem SS (C:bH) (s:ak) (A B:TypeId) (k c8:IntKind) (n:Int) (iC:(C.T A).ok=true) (gG:(C.T B).k= .int c8):iB C s A B (.int k n)=some (.int c8 (c8.wrap n)):=by
 simp only[iB,iC,gG,if_true]
theorem KZ (m:Int):kv (qq m)= .int .u8 (u8.wrap m):=by
 have h:0<=u8.wrap m/\u8.wrap m<256:=by rw[wrap_u8];omega
 simp only[kv,qq,UInt8.toNat_ofNat'];congr 1;omega
theorem Ej (m:Int):((qq m).toNat:Int)=u8.wrap m:=by
 have h:=KZ m;simpa [kv]using h
section
variable {C:bH} {l:afg} {Q:Exit->ak->Prop} {s:ak}
theorem iW {ros:List bJ} {k:afc} (h:cy C (ar l) ros none (λ_ s=>Q .normal (ar (fR k s)))):bj C (.eI ros (some k)) Q (ar l):=ta (λ_ _ h=>h) h
theorem xB {ros:List bJ} {eJ:afa} {k:afc} (hlen:eJ.length=ros.length) (h:cy C (ar l) ros (some []) (λacc s=>kC (pR eJ) 0 [] (acc.getD []).reverse=true/\Q .normal (ar (fR k s)))):
  bj C (.jb ros eJ (some k)) Q (ar l):=Ky hlen h
theorem SU {a b:aM} (h:∀dN:Exit->ak->Prop,(∀s,dG (bj C b Q) s->dN .normal s)->(∀s,Q .ret s->dN .ret s)->(∀i s,Q (.exit i) s->dN (.exit i) s)->bj C a dN s):bj C (.seq a b) Q s:=
 h _ (λ_ h=>h) (λ_ h=>h) (λ_ _ h=>h)
theorem c0 {ros:List bJ} {k:afc} {b:aM} (h:cy C (ar l) ros none (λ_ s=>bj C b Q (ar (fR k s)))):bj C (.seq (.eI ros (some k)) b) Q (ar l):=ta (λ_ _ h=>.inl h) h
theorem rW {ros:List bJ} {eJ:afa} {k:afc} {b:aM} (hlen:eJ.length=ros.length) (h:cy C (ar l) ros (some []) (λacc s=>kC (pR eJ) 0 [] (acc.getD []).reverse=true/\bj C b Q (ar (fR k s)))):
  bj C (.seq (.jb ros eJ (some k)) b) Q (ar l):=Ky (K:=λs=>dG (bj C b Q) (ar (fR k s))) hlen (by
   have key:∀(os:List bJ) (s:ak) (acc:Option (List eU)),cy C s os acc (λacc s=>kC (pR eJ) 0 [] (acc.getD []).reverse=true/\bj C b Q (ar (fR k s)))->
     cy C s os acc (λacc s=>kC (pR eJ) 0 [] (acc.getD []).reverse=true/\dG (bj C b Q) (ar (fR k s))):=by
    intro os;induction os with
    |nil=>intro s acc h;exact⟨h.1,.inl h.2⟩
    |cons o os ih=>
     intro s acc h;have mono:∀{s:ak} {bq:di} {K cZ:afc->I->ak->Prop},(∀a b c,K a b c->cZ a b c)->kZ C s bq K->kZ C s bq cZ:=by
      intro s bq K cZ aj h;cases bq with
      |call f args=>
       obtain⟨g,caps,ps,r,ae,gA,af,aF,a1,bt,b_,cq,er⟩:=h;exact⟨g,caps,ps,r,ae,gA,af,aF,a1,bt,b_,cq,aj _ _ _ er⟩
      |shr bq=>obtain⟨av,s1,ae,af,aF,a1⟩:=h;exact⟨av,s1,ae,af,aF,aj _ _ _ a1⟩
      |kR f args us=>
       obtain⟨ch,g,caps,ps,r,ae,gA,af,aF,a1,bt,b_,cq,er,h1⟩:=h;exact⟨ch,g,caps,ps,r,ae,gA,af,aF,a1,bt,b_,cq,er,aj _ _ _ h1⟩
      |ll T x y u=>obtain⟨bU,s1,ae,af⟩:=h;exact⟨bU,s1,ae,aj _ _ _ af⟩
      |_=>obtain⟨av,s1,ae,af⟩:=h;exact⟨av,s1,ae,aj _ _ _ af⟩
     simp only[cy,kf]at h⊢;split
     .rename_i bl;rw[bl]at h;exact mono (λ_ _ _=>ih _ _) h
     .rename_i t eN bl;rw[bl]at h;simp only at h;split
      .rename_i adW aa;rw[aa]at h;simp only at h;split
       .rename_i U;rw[if_pos U]at h;exact mono (λ_ _ _=>ih _ _) h
       .rename_i U;rw[if_neg U]at h;exact ih _ _ h
      .rename_i aa;rw[aa]at h;exact ih _ _ h
      .rename_i ae af;split at h
       .exact ae _ (by assumption)
       .exact af (by assumption)
       .exact h
   exact key _ _ _ h)
theorem iX {c:a6} {a b:aM} (an:a7 s c= .bool true) (h:bj C a Q s):bj C (.cond c a b) Q s:=by simp only[bj,an,if_true];exact h
theorem oa {c:a6} {a b:aM} (an:a7 s c= .bool false) (h:bj C b Q s):bj C (.cond c a b) Q s:=by simp only[bj,an];exact h
theorem Ek {c:a6} {a b:aM} (an:a7 s c= .eM) (ae:bj C a Q s) (af:bj C b Q s):bj C (.cond c a b) Q s:=by simp only[bj,an];exact⟨ae,af⟩
theorem SV {id:Nat} {b:aM} (h:∀dN:Exit->ak->Prop,(∀s,Q .normal s->dN .normal s)->(∀s,Q .ret s->dN .ret s)->(∀s,Q .normal s->dN (.exit id) s)->(∀i s,i≠id->Q (.exit i) s->dN (.exit i) s)->bj C b dN s):bj C (.block id b) Q s:=
 h (uM id Q) (λ_ h=>h) (λ_ h=>h) (λs h=>by simp only[uM,if_true];exact h) (λi s aC h=>by simp only[uM,if_neg aC];exact h)
theorem dx {id:Nat} (h:Q (.exit id) s):bj C (.exit id) Q s:=h
theorem lW (h:Q .ret s):bj C .ret Q s:=h
theorem bf (h:Q .normal s):bj C .skip Q s:=h
def da (C:bH) (b:aM) (Q:Exit->ak->Prop) (s:ak):Prop:=∀Z:ak->Prop,(∀az,bj C b (andThen (dG Z) Q) az->Z az)->Z s
theorem kE {b:aM} (h:dG (da C b Q) s):bj C (.loop b) Q s:=h
theorem SW {b:aM} (h:∀dN:Exit->ak->Prop,(∀s,dG (da C b Q) s->dN .normal s)->(∀s,Q .ret s->dN .ret s)->(∀i s,Q (.exit i) s->dN (.exit i) s)->bj C b dN s):da C b Q s:=by
 intro Z uN;refine uN s (J9 b ?_ (h (andThen (dG (da C b Q)) Q) (λ_ h=>h) (λ_ h=>h) (λ_ _ h=>h)));intro e az bB;cases e with
 |normal=>exact rP (λs h=>h Z uN) az bB
 |_=>exact bB
theorem cp {b2:afg} (h:b2.map (·.2)=b2.map λp=>s p.1):uL s b2:=by
 intro p au;left;induction b2 with
 |nil=>cases au
 |cons a b2 ih=>
  simp only[List.map_cons,List.cons.injEq]at h;rcases List.mem_cons.1 au with rfl|au
  .exact h.1
  .exact ih h.2 au
end
section
variable {C:bH} {l:afg} {Q:Exit->ak->Prop} {s:ak} {os ros:List bJ} {K:Option (List eU)->ak->Prop} {dst:Option Nat}
theorem K0 (l:afg):(∀n,a7 (ar l) (.t n)=nR n (ar l n))/\(∀av,a7 (ar l) (.c av)=av)/\(∀g,a7 (ar l) (.f g)= .fn g []):=⟨λ_=>rfl,λ_=>rfl,λ_=>rfl⟩
theorem K1:(∀t,ar [] t= .hole)/\(∀u d (l:afg) t,ar ((u,d)::l) t=if t=u then d else ar l t):=⟨λ_=>rfl,λ_ _ _ _=>rfl⟩
theorem K2 (s:ak):fR [] s=[]/\(∀t k,fR (t::k) s=(t,s t)::fR k s):=⟨rfl,λ_ _=>rfl⟩
theorem K3 (s:ak):(∀d,kD s (some d)=some (d,s))/\(∀s1,dj (some s1)=some (.hole,s1))/\ju s []=[]/\(∀x xs,ju s (x::xs)=a7 s x::ju s xs)/\rU s []=[]/\(∀k x xs,rU s ((k,x)::xs)=(k,a7 s x)::rU s xs)/\
  xx s none=none/\(∀x,xx s (some x)=some (a7 s x))/\(∀b x y,KB s (.bool b) x y=some (if b=true then x else y,s)):=
 ⟨λ_=>rfl,λ_=>rfl,rfl,λ_ _=>rfl,rfl,λ_ _ _=>rfl,rfl,λ_=>rfl,λb _ _=>by cases b<;>rfl⟩
theorem K4 (C:bH):(∀e d,Eh C (.slice e) (some d)=if(C.T e).ok=true/\d.wd=(C.T e).sz then some (.ref d)else none)/\
  (∀y q n e sz xs,xz C y q n (.slice e) (some (.ag sz xs))=if(bG xs n).isSome=true/\(C.T e).ok=true/\sz=(C.T e).sz then some (.au y (q++[n.toNat]))else none)/\
  (∀e s xs t,uU C (.slice e) s xs (some t)=if(C.T e).ok=true/\∀d∈xs,d.wd=(C.T e).sz then some (.slice t,s)else none):=
 ⟨λ_ _=>rfl,λ_ _ _ _ _ _=>rfl,λ_ _ _ _=>rfl⟩
theorem K5:(∀b,Ef .bool b=some (.bool b))/\(∀c,Eg .str (some c)=some (.int .u8 c.toNat))/\(∀s t,uT .str s (some t)=some (.str t,s))/\(∀q d,xA q (some d)=I.sub q d):=
 ⟨λ_=>rfl,λ_=>rfl,λ_ _=>rfl,λ_ _=>rfl⟩
theorem K6 (sz bytes:Nat) (z:I):(∀k,fW.ok ⟨.int k,sz,bytes,z⟩=true)/\fW.ok ⟨.bool,sz,bytes,z⟩=true/\fW.ok ⟨.str,sz,bytes,z⟩=true/\(∀e,fW.ok ⟨.ptr e,sz,bytes,z⟩=true)/\(∀e,fW.ok ⟨.slice e,sz,bytes,z⟩=true)/\(∀e,fW.ok ⟨.struct e,sz,bytes,z⟩=true)/\fW.ok ⟨.fn,sz,bytes,z⟩=true:=by
 simp[fW.ok]
theorem K7 (sz bytes:Nat) (z:I):(∀k,fW.flat ⟨.int k,sz,bytes,z⟩=true)/\fW.flat ⟨.bool,sz,bytes,z⟩=true/\fW.flat ⟨.str,sz,bytes,z⟩=true/\(∀e,fW.flat ⟨.ptr e,sz,bytes,z⟩=true)/\(∀e,fW.flat ⟨.slice e,sz,bytes,z⟩=true)/\(∀e,fW.flat ⟨.struct e,sz,bytes,z⟩=false)/\fW.flat ⟨.fn,sz,bytes,z⟩=true:=by
 simp[fW.flat]
theorem xC (c:UInt8) (k:IntKind) (aj:k≠.i8):k.wrap (c.toNat:Int)=(c.toNat:Int):=by
 have:=c.toNat_lt;cases k<;>first|(exact(aj rfl).elim)|(simp[wrap,IntKind.bits,signed];try omega)
theorem El (c:UInt8):i64.wrap (c.toNat:Int)=(c.toNat:Int)/\u64.wrap (c.toNat:Int)=(c.toNat:Int)/\u8.wrap (c.toNat:Int)=(c.toNat:Int)/\i32.wrap (c.toNat:Int)=(c.toNat:Int)/\u32.wrap (c.toNat:Int)=(c.toNat:Int):=
 ⟨xC c _ (by simp),xC c _ (by simp),xC c _ (by simp),xC c _ (by simp),xC c _ (by simp)⟩
theorem cx {k:afc} {K:ak->Prop} (b2:afg) (h:∀P:afg->Prop,P b2->cy C (ar l) ros none (λ_ s=>P (fR k s))) (aj:K (ar b2)):cy C (ar l) ros none (λ_ s=>K (ar (fR k s))):=
 h (λl=>K (ar l)) aj
theorem m7 {k:afc} {mA:afa} {K:ak->Prop} (b2:afg) (h:∀P:afg->Prop,P b2->cy C (ar l) ros (some []) (λacc s=>kC mA 0 [] (acc.getD []).reverse=true/\P (fR k s))) (aj:K (ar b2)):
  cy C (ar l) ros (some []) (λacc s=>kC mA 0 [] (acc.getD []).reverse=true/\K (ar (fR k s))):=
 h (λl=>K (ar l)) aj
theorem bk.SX (a9:C.dL) {f:FuncId} {fn:Func} {c:Code} {dO:aM} {fx:afc} {as outs:afh} {r:I} (a8:C.P.funcs[f]? =some fn) (U:fn.body=some c)
  (jt:(fn.name== "runtime.NumGoroutine")=false) (aa:fp ⟨fn.ntmps,fx⟩ c=some dO.strip) (a4:as.length<=fn.ntmps)
  (h:∀Q:Exit->ak->Prop,(∀s,dG (Ends C fx fn.results.toList r outs) s->Q .ret s)->(∀s,dG (Ends C fx fn.results.toList r outs) s->Q .normal s)->bj C dO Q (ar (num 0 as))) (au:dO.plain=true:=by kernel_rfl):bk C f as r outs:=by
 refine bk.of_wp a9 a8 U jt aa a4 ?_ au;rw[xp];exact h _ (λs h=>⟨.inr rfl,h⟩) (λs h=>⟨.inl rfl,h⟩)
def Ai:afh->I
 |[d]=>d
 |ds=>.tuple ds
theorem pS {fx:afc} {dU:List ResultVar} {r:I} {outs:afh} (ds:afh) (ae:dU.map (oZ C s)=ds.map some) (af:r=Ai ds) (aF:(dU.map iV).Nodup)
  (a1:∀(i:Nat) (o:I),outs[i]? =some o->o= .hole\/(o=s i/\o.fY=true/\i∈fx/\i∉dU.map iV)):Ends C fx dU r outs s:=.inl ⟨ds,ae,by subst af;cases ds with|nil=>rfl|cons a t=>cases t<;>rfl,aF,a1⟩
theorem SY {fx:afc} {dU:List ResultVar}:∀(i:Nat) (o:I),([]:afh)[i]? =some o->o= .hole\/(o=s i/\o.fY=true/\i∈fx/\i∉dU.map iV):=λi o h=>by simp at h
theorem K8:∀(as ds:afh),(lU as ds).filter (·.g)=[]
 |[],_=>rfl
 |_::_,[]=>rfl
 |a::as,d::ds=>by simp only[lU,List.filter_cons];exact K8 as ds
theorem Aj {f:a6} {args:List a6} {g:FuncId} {caps:afh} {K:afc->I->ak->Prop} (ds:afh) (r:I)
  (ae:a7 (ar l) f= .fn g caps) (gA:I.eb caps=true) (i_:views (ar l) (ju (ar l) args++caps)=some ds)
  (bt:bk C g ds r []) (b_:r.res=true) (cq:I.du (ju (ar l) args++caps)=[]\/r.cM=true) (hK:K [] r (ar l)):kZ C (ar l) (.call f args) K:=by
 obtain⟨aT,a3,aY,b1,cI,bQ,bL⟩:=Sb _ _ i_;refine⟨g,caps,lU (ju (ar l) args++caps) ds,r,ae,gA,by rw[aT,xy],λp au=>(aY p au).1,b1,by rw[a3];exact bt.outs cI.symm,b_,?_,by rw[bQ,bL,K8];exact hK⟩;intro hl;refine⟨?_,λp au=>by rw[(aY p au).2.2.1];rfl⟩;rcases cq with cq|cq
 .exfalso;simp only[jE,List.any_eq_true]at hl;obtain⟨p,au,gH⟩:=hl;have hm:=(aY p au).2.2.2;have:p.a.aa=[]:=by
   have key:∀(as:afh) (a:I),a∈as->I.du as=[]->a.aa=[]:=by
    intro as;induction as with
    |nil=>intro a h;cases h
    |cons b as ih=>
     intro a h he;simp only[I.du,List.append_eq_nil_iff]at he;rcases List.mem_cons.1 h with rfl|h
     .exact he.1
     .exact ih a h he.2
   exact key _ _ hm cq
  rw[this]at gH;simp at gH
 .exact cq
theorem dv {f:a6} {args:List a6} {g:FuncId} {caps:afh} {ds:afh} {r:I} (bt:bk C g ds r [])
  (ae:a7 (ar l) f= .fn g caps:=by rfl) (gA:I.eb caps=true:=by rfl) (i_:views (ar l) (ju (ar l) args++caps)=some ds:=by rfl)
  (b_:r.res=true:=by rfl) (cq:I.du (ju (ar l) args++caps)=[]\/r.cM=true:=by exact .inl (by rfl))
  (hK:cy C (fin (ar l) dst r) os none K):cy C (ar l) (⟨dst,.call f args,none⟩::os) none K:=by
 simp only[cy,kf,pQ];exact Aj ds r ae gA i_ bt b_ cq hK
theorem h5 {a:List eU} {f:a6} {args:List a6} {g:FuncId} {caps:afh} {ds:afh} {r:I} (bt:bk C g ds r [])
  (ae:a7 (ar l) f= .fn g caps:=by rfl) (gA:I.eb caps=true:=by rfl) (i_:views (ar l) (ju (ar l) args++caps)=some ds:=by rfl)
  (b_:r.res=true:=by rfl) (cq:I.du (ju (ar l) args++caps)=[]\/r.cM=true:=by exact .inl (by rfl))
  (hK:cy C (fin (ar l) dst r) os (some (iG (ar l) (use (ar l) (.call f args)) dst [] r::a)) K):cy C (ar l) (⟨dst,.call f args,none⟩::os) (some a) K:=by
 simp only[cy,kf,pQ];exact Aj ds r ae gA i_ bt b_ cq hK
theorem jv {t:Nat} {b:Bool} {f:a6} {args:List a6} {g:FuncId} {caps:afh} {ds:afh} {r:I} (bt:bk C g ds r [])
  (ae:a7 (ar l) f= .fn g caps:=by rfl) (gA:I.eb caps=true:=by rfl) (i_:views (ar l) (ju (ar l) args++caps)=some ds:=by rfl)
  (b_:r.res=true:=by rfl) (cq:I.du (ju (ar l) args++caps)=[]\/r.cM=true:=by exact .inl (by rfl))
  (hK:cy C (fin (ar l) dst r) os none K):kh C l dst (.call f args) t b os none K (.bool b):=by
 simp only[kh,if_true];exact Aj ds r ae gA i_ bt b_ cq hK
theorem Em {a:List eU} {t:Nat} {b:Bool} {f:a6} {args:List a6} {g:FuncId} {caps:afh} {ds:afh} {r:I} (bt:bk C g ds r [])
  (ae:a7 (ar l) f= .fn g caps:=by rfl) (gA:I.eb caps=true:=by rfl) (i_:views (ar l) (ju (ar l) args++caps)=some ds:=by rfl)
  (b_:r.res=true:=by rfl) (cq:I.du (ju (ar l) args++caps)=[]\/r.cM=true:=by exact .inl (by rfl))
  (hK:cy C (fin (ar l) dst r) os (some (iG (ar l) (t::use (ar l) (.call f args)) dst [] r::a)) K):kh C l dst (.call f args) t b os (some a) K (.bool b):=by
 simp only[kh,if_true];exact Aj ds r ae gA i_ bt b_ cq hK
theorem ik (s:ak):views s []=some []/\(∀d ds,views s (d::ds)=(match view s d,views s ds with|some a,some b=>some (a::b)|_,_=>none))/\
  (∀k n,view s (.int k n)=some (.int k n))/\(∀b,view s (.bool b)=some (.bool b))/\(∀x,view s (.str x)=some (.str x))/\(∀x,view s (.slice x)=some (.slice x))/\(∀x,view s (.ref x)=some (.ref x))/\
  view s .aN=some .aN/\view s .db=some .db/\(∀ay,view s (.agg ay)=some (.agg ay))/\(∀f cap,view s (.fn f cap)=(views s cap).map (.fn f)):=by
 refine⟨rfl,λd ds=>?_,λ_ _=>rfl,λ_=>rfl,λ_=>rfl,λ_=>rfl,λ_=>rfl,rfl,rfl,λ_=>rfl,λ_ _=>by simp only[view]⟩;simp only[views];rfl
theorem cN {α:Type} {u e:α->I} (h:∀x,(u x).share=e x) (xs:List α):I.shares (xs.map u)=xs.map e:=by
 rw[I.ry];simp[h]
theorem il {α:Type} {u:α->I} (h:∀x,(u x).cM=true) (xs:List α):I.hq (xs.map u)=true:=by
 induction xs with
 |nil=>rfl
 |cons x xs ih=>simp only[List.map_cons,I.hq,h,ih,Bool.and_self]
def rX (s:ak) (H:afc):afg->Prop
 |[]=>True
 |p::l=>(p.2=s p.1\/((s p.1).tree=true/\ev (s p.1) p.2/\p.1∉H))/\rX s H l
theorem jc {b2:afg} (H:afc) (lv:I.du (b2.map (·.2))=H) (h:rX s H b2):uL s b2:=by
 have key:∀(gi:afg),rX s H gi->∀p∈gi,p.2=s p.1\/((s p.1).tree=true/\ev (s p.1) p.2/\p.1∉H):=by
  intro gi;induction gi with
  |nil=>intro _ p au;cases au
  |cons a gi ih=>
   intro h p au;rcases List.mem_cons.1 au with rfl|au
   .exact h.1
   .exact ih h.2 p au
 have aa:∀(gi:afg),∀ck∈gi,∀u∈ck.2.aa,u∈I.du (gi.map (·.2)):=by
  intro gi;induction gi with
  |nil=>intro p au;cases au
  |cons a gi ih=>
   intro p au u hu;simp only[List.map_cons,I.du,List.mem_append];rcases List.mem_cons.1 au with rfl|au
   .exact .inl hu
   .exact .inr (ih p au u hu)
 intro p au;rcases key _ h p au with ae|⟨ae,af,aF⟩
 .exact .inl ae
 .refine .inr ⟨ae,af,λck dJ=>.inl λhm=>aF ?_⟩;rw[<-lv];exact aa b2 ck dJ _ hm
theorem jd {H:afc}:rX s H []:=trivial
theorem cP {H:afc} {t:Nat} {d:I} {b2:afg} (h:d=s t) (hl:rX s H b2):rX s H ((t,d)::b2):=⟨.inl h,hl⟩
theorem im {H:afc} {t:Nat} {d bh:I} {b2:afg} (e:s t=d) (aP:d.tree=true) (ai:ev d bh) (lv:t∉H) (hl:rX s H b2):rX s H ((t,bh)::b2):=⟨.inr ⟨by rw[e];exact aP,by rw[e];exact ai,lv⟩,hl⟩
theorem K9 {a b:I} (h:ev a b):∀n,jX (List.replicate n a) (List.replicate n b)
 |0=>.nil
 |n+1=>by simp only[List.replicate_succ];exact .cons h (K9 h n)
theorem K_ {α:Type} {sz:Nat} {u:α->I} {z:α} {a:I} (h:ev a (u z)) (n:Nat):ev (.ag sz (List.replicate n a)) (.ag sz ((List.replicate n z).map u)):=by
 rw[List.map_replicate];exact .ag (K9 h n)
end
theorem SZ {C:bH} {A B:TypeId} {c8:IntKind} (iC:(C.T A).ok=true) (gG:(C.T B).k= .int c8):∀s k n,iB C s A B (.int k n)=some (.int c8 (c8.wrap n)):=λs k n=>SS C s A B k c8 n iC gG
def La:Option I->Option I
 |some (.ag 1 xs)=>(bytesOf xs).map .str
 |_=>none
theorem S0 {C:bH} {A B e:TypeId} (iC:(C.T A).k= .slice e) (gG:(C.T B).k= .str) (he:(C.T e).k= .int .u8):
  (∀s xs,iB C s A B (.slice xs)=(bytesOf xs).map .str)/\(∀s,iB C s A B .aN=some (.str []))/\(∀s x q,iB C s A B (.h x q)=La (I.sub q (s x))):=by
 have w4:(C.T A).ok=true:=by simp[fW.ok,iC]
 refine⟨λs xs=>?_,λs=>?_,λs x q=>?_⟩
 .simp only[iB,w4,iC,gG,he,if_true]
 .simp only[iB,w4,iC,gG,he,if_true]
 .simp only[iB,w4,iC,gG,he,if_true];rfl
theorem S3 (xs:afh):La (some (.ag 1 xs))=(bytesOf xs).map .str:=rfl
theorem Lb (c:UInt8) (r:afh):bytesOf (kv c::r)=(bytesOf r).map (c::·):=by
 have:=c.toNat_lt;simp only[kv,bytesOf];rw[if_pos (by omega)];simp
theorem S4:bytesOf []=some []/\
  (∀l:nq,bytesOf (l.map kv)=some l)/\
  (∀c r,bytesOf (.int .u8 (c.toNat:Int)::r)=(bytesOf r).map (c::·))/\
  (∀m r,bytesOf (.int .u8 (u8.wrap m)::r)=(bytesOf r).map (qq m::·)):=
 ⟨rfl,PU,λc r=>Lb c r,λm r=>by rw[<-KZ];exact Lb _ r⟩
theorem S5 {k:IntKind} {b:Int} (h:b≠0):∀a,iA .quo k a k b=some (.int k (k.wrap (a.tdiv b))):=λ_=>SP h
theorem te {k:IntKind} {b:Int} (h:b≠0):∀a,iA .rem k a k b=some (.int k (a.tmod b)):=λ_=>SQ h
theorem hc {α:Type} {e:α->I} {n:Nat} (h:∀x,(e x).wd=n):∀xs:List α,(∀d∈xs.map e,d.wd=n)=True:=SR h
theorem hR {P:I->Prop} (d:I) (ds:afh):(∀x∈d::ds,P x)=(P d/\∀x∈ds,P x):=by simp
theorem all_nil {P:I->Prop}:(∀x∈([]:afh),P x)=True:=by simp
def Lc (a b:nq):Option Unit->Option I
 |some _=>some (.str (a++b))
 |none=>none
theorem Ld (a b:nq):m1 .add a b=Lc a b (pv (a.length+b.length)):=by
 simp only[m1,pv];split<;>rfl
theorem Le (a b:nq) (u:Unit):Lc a b (some u)=some (.str (a++b)):=rfl
theorem Lf:(∀l:afc,[]++l=l)/\(∀a (l m:afc),(a::l)++m=a::(l++m)):=⟨λ_=>rfl,λ_ _ _=>rfl⟩
def Lg (C:bH) (e bP:TypeId):Bool:=(C.T e).ok&&((C.T e).zero.wd==(C.T e).sz)&&(flat (C.T e).zero).isSome&&zE C e bP
def Ak (C:bH) (e:TypeId) (xs:afh):Option (afh×ak)->Option (I×ak)
 |some (cf,s2)=>if(∀d∈cf,d.wd=(C.T e).sz)/\(room (C.T e).bytes (xs.length+cf.length)).isSome=true then some (.ag (C.T e).sz (xs++cf),s2)else none
 |none=>none
def En (C:bH) (e:TypeId) (y:I) (o:Option Nat):Option (I×ak)->Option (I×ak)
 |some (.ag sz xs,s1)=>if sz=(C.T e).sz then Ak C e xs (kT s1 (j8 o y))else none
 |_=>none
theorem S6 (b n:Nat):(room b n).isSome=true↔n*b<=140737488355328/\n<=9223372036854775807:=by unfold room;split<;>simp_all
theorem hS {C:bH} {T bP e:TypeId} (gS:(C.T T).k= .slice e) (eB:Lg C e bP=true):∀s x y,qB C s T bP x y=En C e y x.owner (pM C e s x):=by
 intro s x y;simp only[Lg,Bool.and_eq_true,beq_iff_eq]at eB;rw[Dw,gS];simp only;rw[if_pos ⟨eB.1.1.1,eB.1.1.2,eB.1.2,eB.2⟩];generalize x.owner=o;cases pM C e s x with
 |none=>rfl
 |some p=>
  obtain⟨d,s1⟩:=p;cases d<;>first
   |rfl
   |(simp only[En]
     split
     .rename_i h;subst h;generalize kT s1 (j8 o y)=z;cases z with
      |none=>rfl
      |some p=>simp only[Ak,S6]
     .rfl)
def Lh:Option (I×ak)->Option (afh×ak)
 |some (.ag _ cf,s2)=>some (cf,s2)
 |_=>none
theorem hT (s:ak):kT s .aN=some ([],s)/\(∀cf,kT s (.slice cf)=some (cf,s))/\(∀l,kT s (.str l)=some (l.map kv,s))/\
  (∀a q,kT s (.h a q)=Lh (cr s (.h a q)))/\(∀n cf,Lh (some (.ag n cf,s))=some (cf,s)):=
 ⟨rfl,λ_=>rfl,λ_=>rfl,λ_ _=>by simp only[kT];rfl,λ_ _=>rfl⟩
theorem hU (C:bH) (e:TypeId):(∀s,pM C e s .aN=some (.ag (C.T e).sz [],s))/\(∀s a q,pM C e s (.h a q)=cr s (.h a q))/\
  (∀y o sz xs s1,En C e y o (some (.ag sz xs,s1))=if sz=(C.T e).sz then Ak C e xs (kT s1 (j8 o y))else none)/\
  (∀xs cf s2,Ak C e xs (some (cf,s2))=if(∀d∈cf,d.wd=(C.T e).sz)/\(room (C.T e).bytes (xs.length+cf.length)).isSome=true then some (.ag (C.T e).sz (xs++cf),s2)else none):=
 ⟨λ_=>rfl,λ_ _ _=>rfl,λ_ _ _ _ _=>rfl,λ_ _ _=>rfl⟩
theorem hd:(∀d,j8 none d=d)/\(∀x d,j8 (some x) d=b5 x d)/\(∀x q,I.owner (.h x q)=some x)/\I.owner .aN=none:=
 ⟨λ_=>rfl,λ_ _=>rfl,λ_ _=>rfl,rfl⟩
def Li (s:ak) (x:Nat) (q:afc):Option I->Option (I×ak)
 |some d=>if d.plain=true then none else some (d,cg (e0 x s) x (I.put q d.ct (s x)))
 |none=>none
theorem Lj (s:ak) (x:Nat) (q:afc):cr s (.h x q)=Li s x q (I.sub q (s x)):=by
 simp only[cr];cases I.sub q (s x)<;>rfl
theorem Lk (s:ak):(∀x q d,Li s x q (some d)=if d.plain=true then none else some (d,cg (e0 x s) x (I.put q d.ct (s x))))/\(∀k n,cr s (.int k n)=some (.int k n,s))/\(∀b,cr s (.bool b)=some (.bool b,s))/\(∀x,cr s (.str x)=some (.str x,s))/\
  (∀x,cr s (.slice x)=some (.slice x,s))/\(∀x,cr s (.ref x)=some (.ref x,s))/\(∀x,cr s (.agg x)=some (.agg x,s))/\cr s .aN=some (.aN,s)/\cr s .db=some (.db,s):=
 ⟨λ_ _ _=>rfl,λ_ _=>rfl,λ_=>rfl,λ_=>rfl,λ_=>rfl,λ_=>rfl,λ_=>rfl,rfl,rfl⟩
theorem Ll (l:afg) (t:Nat) (d:I):cg (ar l) t d=ar ((t,d)::l):=xq l t d
theorem Lm:(∀n x,I.ct (.ag n x)= .hole)/\(∀x,I.ct (.aK x)= .hole)/\(∀ay,I.ct (.agg ay)= .agg (I.hJ ay))/\(∀ay,I.ct (.tuple ay)= .tuple (I.hJ ay))/\I.hJ []=[]/\(∀d ds,I.hJ (d::ds)=d.ct::I.hJ ds)/\
  (∀k n,I.ct (.int k n)= .int k n)/\(∀b,I.ct (.bool b)= .bool b)/\(∀x,I.ct (.str x)= .str x)/\(∀x,I.ct (.slice x)= .slice x)/\(∀x,I.ct (.ref x)= .ref x)/\I.ct .aN= .aN/\I.ct .db= .db/\I.ct .hole= .hole:=by
 simp[I.ct,I.hJ]
def tf:Option I->Option I
 |some d=>(match d with| .tuple _=>none| .dm _=>none| .eY _ _=>none| .gb _=>none|d=>if d.plain=true then none else some d.share)
 |none=>none
def tg:Option I->Option I
 |some d=>(match d with| .tuple _=>none|d=>some (.ref d.share))
 |none=>none
theorem iq (s:ak) (x:Nat) (q:afc):view s (.h x q)=tf (I.sub q (s x))/\view s (.au x q)=(if I.dZ q (s x)=true then tg (I.sub q (s x))else none):=by
 constructor
 .simp only[view];rfl
 .simp only[view];rfl
theorem ir:(∀n xs,tf (some (.ag n xs))=some (.slice (I.shares xs)))/\(∀d,tf (some (.aK d))=some (.ref d.share))/\(∀ay,tf (some (.agg ay))=if I.eb ay=true then none else some (.agg (I.shares ay)))/\
  (∀ay,tg (some (.agg ay))=some (.ref (.agg (I.shares ay))))/\(∀k n,tg (some (.int k n))=some (.ref (.int k n)))/\(∀x,tg (some (.str x))=some (.ref (.str x))):=
 ⟨λ_ _=>by simp[tf,I.plain,I.share],λ_=>by simp[tf,I.plain,I.share],λay=>by cases h:I.eb ay<;>simp[tf,I.plain,I.share,h],λ_=>by simp[tg,I.share],λ_ _=>by simp[tg,I.share],λ_=>by simp[tg,I.share]⟩
theorem d_:(∀n xs,I.share (.ag n xs)= .slice (I.shares xs))/\(∀d,I.share (.aK d)= .ref d.share)/\(∀xs,I.share (.slice xs)= .slice (I.shares xs))/\(∀d,I.share (.ref d)= .ref d.share)/\(∀ay,I.share (.agg ay)= .agg (I.shares ay))/\(∀ay,I.share (.tuple ay)= .tuple (I.shares ay))/\
  (∀k n,I.share (.int k n)= .int k n)/\(∀b,I.share (.bool b)= .bool b)/\(∀x,I.share (.str x)= .str x)/\I.share .aN= .aN/\I.share .db= .db/\I.shares []=[]/\(∀d ds,I.shares (d::ds)=d.share::I.shares ds):=by
 simp[I.share,I.shares]
def f_ (sz:Nat):Option (afh×ak)->Option (I×ak)
 |some (ds,s1)=>some (.ag sz ds,s1)
 |none=>none
def dW:Option (afh×ak)->Option (I×ak)
 |some (ds,s1)=>some (.agg ds,s1)
 |none=>none
theorem th {C:bH} {T e n sz:Nat} {ee:afh} (gS:(C.T T).k= .slice e) (cO:(C.T e).sz=sz) (bF:List.replicate n (C.T e).zero=ee)
  (eB:((C.T e).ok&&((C.T e).zero.wd==sz)&&(flat (C.T e).zero).isSome&&(sz !=0)&&decide (n*sz<=16777216))=true):∀s ps,eu C s T n ps=f_ sz (jV (λk=>some (k*sz,sz)) s ee [] ps):=by
 intro s ps;subst cO;simp only[Bool.and_eq_true,beq_iff_eq,bne_iff_ne,decide_eq_true_eq]at eB;obtain⟨⟨⟨⟨ae,af⟩,aF⟩,a1⟩,bt⟩:=eB;unfold eu;rw[gS];simp only;rw[if_pos ⟨ae,af,aF,a1,bt⟩,bF];cases jV (λk=>some (k*(C.T e).sz,(C.T e).sz)) s ee [] ps<;>rfl
theorem xD {C:bH} {T:Nat} {ay:List (TypeId×Nat)} {ee:afh} (gS:(C.T T).k= .struct ay) (bF:(C.T T).zero= .agg ee)
  (eB:((flat (.agg ee)).isSome&&ay.all λf=>(C.T f.1).ok)=true):∀s ps,fl C s T ps=dW (jV (λk=>(ay[k]?).map λf=>(f.2,(C.T f.1).sz)) s ee [] ps):=by
 intro s ps;simp only[Bool.and_eq_true,List.all_eq_true]at eB;unfold fl;rw[gS,bF];simp only;rw[if_pos ⟨eB.1,eB.2⟩];cases jV (λk=>(ay[k]?).map λf=>(f.2,(C.T f.1).sz)) s ee [] ps<;>rfl
def cT (place:Nat->Option (Nat×Nat)) (k:Nat) (ee:afh) (os:List (Option Nat)) (r:afg) (o:Option Nat):Option (Nat×Nat)->Option I->Option (I×ak)->Option (afh×ak)
 |some (off,n),some z,some (d,s1)=>(match d with
  | .tuple _=>none
  |d=>if d.wd=n/\z.wd=n/\I.dh (ee.take k)=off then jV place s1 (ee.set k d) (os++[o]) r else none)
 |_,_,_=>none
theorem pT (place:Nat->Option (Nat×Nat)) (s:ak) (ee:afh) (os:List (Option Nat)):jV place s ee os []=some (ee,s)/\
  (∀k a r,jV place s ee os ((k,a)::r)=cT place k ee os r (kz os a).owner (place k) ee[k]? (cr s (kz os a))):=by
 refine⟨rfl,λk a r=>?_⟩;simp only[jV];cases cr s (kz os a)with
 |none=>cases place k<;>cases ee[k]? <;>rfl
 |some p=>
  obtain⟨d,s1⟩:=p;cases place k with
  |none=>cases ee[k]? <;>rfl
  |some q=>cases ee[k]? <;>(cases d<;>rfl)
theorem pU:(∀a,kz [] a=a)/\(∀o os a,kz (o::os) a=kz os (j8 o a)):=⟨λ_=>rfl,λ_ _ _=>rfl⟩
theorem e5:(∀k n,I.owner (.int k n)=none)/\(∀b,I.owner (.bool b)=none)/\(∀x,I.owner (.str x)=none)/\(∀x,I.owner (.slice x)=none)/\(∀x,I.owner (.ref x)=none)/\(∀x,I.owner (.agg x)=none)/\I.owner .db=none/\I.owner .aN=none/\(∀x q,I.owner (.h x q)=some x):=
 ⟨λ_ _=>rfl,λ_=>rfl,λ_=>rfl,λ_=>rfl,λ_=>rfl,λ_=>rfl,rfl,rfl,λ_ _=>rfl⟩
end Go.c3
