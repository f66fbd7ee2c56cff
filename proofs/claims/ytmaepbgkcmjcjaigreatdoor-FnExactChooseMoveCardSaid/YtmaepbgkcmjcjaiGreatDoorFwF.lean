/- Part of a proof that a law returns true for every input. No condition. -/
import Derived.Test.YtmaepbgkcmjcjaiGreatDoorFwE
import Derived.Orders
import Derived.KernelRfl
import Derived.Test.YtmaepbgkcmjcjaiGreatDoorFwA
namespace Go.eg
open Nat
section
variable {C:cl} {w0 w:World} {F0 X:Nat->Prop} {n:Fr} {ρ:Nat->Value} {s s1:al} {a:Act} {av:I} {Q:Exit->Act->World->Prop}
def cq.un (o:cq):cq:=⟨o.dst,o.bU.base,o.guard⟩
theorem EK {ops:Array Oper}:∀{os:List Oper} {rs:List cq},t_ n ops os=some rs->os.length=rs.length/\∀(i:Nat) (o:Oper),os[i]? =some o->∃r,rs[i]? =some r/\tZ n ops o=some r:=by
 intro os;induction os with
 |nil=>intro rs h;simp only[t_,Option.some.injEq]at h;subst h;exact⟨rfl,λi o h=>by simp at h⟩
 |cons o os ih=>
  intro rs h;simp only[t_]at h;split at h
  .rename_i r aw6 ad ae;simp only[Option.some.injEq]at h;subst h;obtain⟨b1,cK⟩:=ih ae;refine⟨by simp[b1],λi qk bL=>?_⟩;cases i with
   |zero=>simp at bL;subst bL;exact⟨r,rfl,ad⟩
   |succ i=>simpa using cK i qk (by simpa using bL)
  .cases h
theorem Im {o:Oper} {y:Nat->azg} (h:o.guard=none):Region.wanted o y=true:=by simp[Region.wanted,h]
theorem aeP (h:Rel w0 F0 X n ρ s a w) {ops:Array Oper} {j t:Nat} (bJ:(ops[j]?).bind (·.dst)=some t):
  (∀b,s t= .bool b->yielded ops a.tmps j=some b)/\(s t= .tuple []->yielded ops a.tmps j=none):=by
 obtain⟨ao,aa,bH,F,S,aT⟩:=h;have lh:=aT.ey t;refine⟨λb ab=>?_,λab=>?_⟩
 .rw[ab]at lh;have aF:=xp lh;simp only[yielded,bJ,Option.bind_some];rw[Array.getD_eq_getD_getElem?]at aF;cases hg:a.tmps[t]? with
  |none=>rw[hg]at aF;simp[undef]at aF
  |some v=>rw[hg]at aF;simp at aF;subst aF;rfl
 .rw[ab]at lh;obtain⟨⟨arr,ad,ae⟩,_⟩:=(aS.dr (d:=.tuple []) rfl).1 lh;simp only[yielded,bJ,Option.bind_some];rw[Array.getD_eq_getD_getElem?]at ad;cases hg:a.tmps[t]? with
  |none=>rfl
  |some v=>rw[hg]at ad;simp at ad;subst ad;rfl
theorem Np (bO:C.fH) {ops:Array Oper} {ros:List cq} {l2:azf} {K:al->Prop} (aR:∀aH dH aL,K aH->Rel w0 F0 X n ρ aH dH aL->wpOps C.P ops Q l2 dH aL):
  ∀(l:azf),(∀i∈l,(ops[i]? =none->ros[i]? =none)/\∀o,ops[i]? =some o->∃r,ros[i]? =some r/\tZ n ops o=some r.un)->
  ∀(s:al) (a:Act) (w:World),kI C ros s l K->Rel w0 F0 X n ρ s a w->wpOps C.P ops Q (l++l2) a w:=by
 intro l;induction l with
 |nil=>intro _ s a w h aT;exact aR s a w h aT
 |cons i l ih=>
  intro q7 s a w h aT;replace ih:=ih λi ai=>q7 i (List.mem_cons_of_mem _ ai);rw[List.cons_append];simp only[wpOps];cases bL:ops[i]? with
  |none=>
   simp only[kI,(q7 i (by simp)).1 bL]at h;exact ih s a w h aT
  |some o=>
   obtain⟨r,ad,ae⟩:=(q7 i (by simp)).2 o bL;simp only[kI,ad]at h;show(if Region.wanted o (yielded ops a.tmps)=true then o.wp C.P a w (wpOps C.P ops Q (l++l2)) Q\/(o.asks C.P a w/\LetsOut Q)else wpOps C.P ops Q (l++l2) (a.put o.dst undef) w);simp only[tZ]at ae;split at ae
   .rename_i Io;split at ae
    .rename_i g hg;obtain⟨rd,bU,rg⟩:=r;simp only[cq.un,Option.some.injEq,cq.mk.injEq]at ae;obtain⟨rfl,de,rfl⟩:=ae;simp only[oH]at h;have run:∀(ew:al->Prop),(∀aH,ew aH->kI C ros aH l K)->q6 C s bU (λav s1=>ew (fin s1 o.dst av))->o.wp C.P a w (wpOps C.P ops Q (l++l2)) Q:=
      λew kY hw=>aeO bO aT de Io hw (λaH dH aL ax fi=>ih aH dH aL (kY aH ax) fi)
     cases Bn:o.guard with
     |none=>
      rw[Bn]at hg;simp only[EE,Option.some.injEq]at hg;subst hg;simp only at h;rw[if_pos (Im Bn)];exact .inl (run _ (λ_ h=>h) h)
     |some Nq=>
      obtain⟨j,b⟩:=Nq;rw[Bn]at hg;simp only[EE]at hg;split at hg
      .rename_i t aY;simp only[Option.some.injEq]at hg;subst hg;simp only at h;obtain⟨fq,gn⟩:=aeP aT aY;have Vf:∀(ew:kI C ros (fin s o.dst (.tuple [])) l K),wpOps C.P ops Q (l++l2) (a.put o.dst undef) w:=λew=>ih _ _ _ ew (Rel.skip aT Io);split at h
       .rename_i gO aa;have hy:=fq gO aa;split at h
        .rename_i ab;subst ab;rw[if_pos (by simp[Region.wanted,Bn,hy])];exact .inl (run _ (λ_ h=>h) h)
        .rename_i ab;rw[if_neg (by simp[Region.wanted,Bn,hy,ab])];exact Vf h
       .rename_i aa;have hy:=gn aa;rw[if_neg (by simp[Region.wanted,Bn,hy])];exact Vf h
       .exact h.elim
      .cases hg
    .cases ae
   .cases ae
theorem Vg (bO:C.fH) {ops:Array Oper} {ros:List cq} (xD:t_ n ops ops.toList=some (ros.map cq.un)) {K:al->Prop} (aR:∀aH dH aL,K aH->Rel w0 F0 X n ρ aH dH aL->Q .normal dH aL):
  ∀(l:azf) (s:al) (a:Act) (w:World),kI C ros s l K->Rel w0 F0 X n ρ s a w->wpOps C.P ops Q l a w:=by
 obtain⟨aC,q7⟩:=EK xD;intro l s a w h aT;have:=Np (Q:=Q) bO (ros:=ros) (ops:=ops) (l2:=[]) (K:=K) (n:=n) (ρ:=ρ) (w0:=w0) (F0:=F0) (X:=X) (λaH dH aL ax fi=>aR aH dH aL ax fi) l (λi _=>⟨λbL=>by
   rw[List.getElem?_eq_none_iff,<-List.length_map (f:=cq.un),<-aC];have:=Array.getElem?_eq_none_iff.1 bL;simpa using this,λo bL=>by
   obtain⟨ag,kB,ae⟩:=q7 i o (by simpa using bL);obtain⟨r,ad,rfl⟩:∃r,ros[i]? =some r/\r.un=ag:=by simpa using kB
   exact⟨r,ad,ae⟩⟩) s a w h aT
 rwa [List.append_nil]at this
theorem Rel.drawn (h:Rel w0 F0 X n ρ s a w) (k:Nat) (ax:w.drawn<=k):Rel w0 F0 X n ρ s a {w with drawn:=k}:=by
 obtain⟨ad,ae,bH,F,S,aJ⟩:=h;exact⟨ad,ae,bH,F,S,aJ.grow (λ_ _=>rfl) (Nat.le_refl _) rfl rfl ⟨rfl,λ_=>ax⟩⟩
theorem aeQ (bO:C.fH) {id:Nat} {ops:Array Oper} {ros:List cq} (xD:t_ n ops ops.toList=some (ros.map cq.un)) {K:al->Prop} (aR:∀aH dH aL,K aH->Rel w0 F0 X n ρ aH dH aL->Q .normal dH aL)
  (h:n2 C s ros K) (aT:Rel w0 F0 X n ρ s a w):(Code.region id ops false).wp C.P Q a w:=by
 refine wp_region (Vg bO xD aR _ s a w ?_ aT);have:=aeF C K ros [] s h;have aC:=(EK xD).1;simp only[List.nil_append,List.length_nil,Nat.add_zero,List.map_id']at this;rw[List.length_map]at aC;rw[<-aC]at this;simpa using this
end
def sG (sH:azd) (l:azf):Prop:=
 l.Nodup/\(∀i,i∈l↔i<sH.length)/\∀u i v,l=u++i::v->∀e∈(sH[i]?).getD [],e∈u
def q8 (ops:Array Oper):azd:=ops.toList.map λo=>(o.after.toList.filter λe=>Region.binds .any e).map (·.on)
def EL (sH:azd):Bool:=sH.zipIdx.all λp=>p.1.all λe=>decide (e<p.2)
theorem aeR {sH:azd} (h:EL sH=true) {i:Nat} {l:azf} (ai:sH[i]? =some l):∀e∈l,e<i:=by
 intro e he;simp only[EL,List.all_eq_true]at h;have:=h (l,i) (by rw[List.mem_zipIdx_iff_getElem?];exact ai) e he;simpa using this
theorem aeS {ops:Array Oper} (ab:EL (q8 ops)=true):∀(fuel t:Nat) (listed:Array Bool),listed.size=ops.size->((List.range ops.size).filter λi=> !listed.getD i true).length<=fuel->
  (Region.linearise.go .any ops fuel t listed []).Nodup/\(∀i,i∈Region.linearise.go .any ops fuel t listed []↔(i<ops.size/\listed.getD i true=false))/\
   ∀u i v,Region.linearise.go .any ops fuel t listed []=u++i::v->∀e∈((q8 ops)[i]?).getD [],listed.getD e false=true\/e∈u:=by
 intro fuel;induction fuel with
 |zero=>
  intro t listed aa aC;have Ep:((List.range ops.size).filter λi=> !listed.getD i true)=[]:=List.length_eq_zero_iff.1 (le_zero.1 aC);refine⟨by simp[Region.linearise.go],λi=>?_,λu i v h=>by simp[Region.linearise.go]at h⟩;simp only[Region.linearise.go,List.reverse_nil,List.not_mem_nil,false_iff,not_and];intro ai bH;have:i∈((List.range ops.size).filter λi=> !listed.getD i true):=List.mem_filter.2 ⟨List.mem_range.2 ai,by rw[bH];rfl⟩;rw[Ep]at this;cases this
 |succ fuel ih=>
  intro t listed aa aC;have Vh:∀i,i∈Region.ready .any ops listed↔(i<ops.size/\listed.getD i true=false/\∀e∈((q8 ops)[i]?).getD [],listed.getD e false=true):=by
   intro i;simp only[Region.ready,List.mem_filter,List.mem_range,Bool.and_eq_true,Bool.not_eq_true'];constructor
   .rintro⟨ad,ae,aJ⟩;refine⟨ad,ae,?_⟩;rw[Array.getElem?_eq_getElem ad]at aJ;simp only[Option.map_some,Option.getD_some,Array.all_eq_true_iff_forall_mem]at aJ;simp only[q8,List.getElem?_map,Array.getElem?_toList,Array.getElem?_eq_getElem ad,Option.map_some,Option.getD_some,List.mem_map,List.mem_filter];rintro e ⟨x,⟨an,y8⟩,rfl⟩;have:=aJ x (by simpa using an);simpa [y8]using this
   .rintro⟨ad,ae,aJ⟩;refine⟨ad,ae,?_⟩;rw[Array.getElem?_eq_getElem ad];simp only[Option.map_some,Option.getD_some,Array.all_eq_true_iff_forall_mem];simp only[q8,List.getElem?_map,Array.getElem?_toList,Array.getElem?_eq_getElem ad,Option.map_some,Option.getD_some,List.mem_map,List.mem_filter]at aJ;intro x an;cases y8:Region.binds .any x with
    |false=>simp
    |true=>simpa using aJ x.on ⟨x,⟨by simpa using an,y8⟩,rfl⟩
  have hex:(∃i,i<ops.size/\listed.getD i true=false)->Region.ready .any ops listed≠[]:=by
   rintro⟨i,ad,ae⟩;have:∃i,(i<ops.size/\listed.getD i true=false)/\∀j,j<i->¬(j<ops.size/\listed.getD j true=false):=by
    induction i using Nat.strongRecOn with
    |_ i aeT=>
     by_cases bJ:∃j,j<i/\(j<ops.size/\listed.getD j true=false)
     .obtain⟨j,q9,qn,aeU⟩:=bJ;exact aeT j q9 qn aeU
     .exact⟨i,⟨ad,ae⟩,λj aeV ar=>bJ ⟨j,aeV,ar⟩⟩
   obtain⟨k,⟨b1,cK⟩,dM⟩:=this;have:k∈Region.ready .any ops listed:=(Vh k).2 ⟨b1,cK,λe he=>by
    cases bl:(q8 ops)[k]? with
    |none=>rw[bl]at he;simp at he
    |some l=>
     rw[bl]at he;have er:=aeR ab bl e he;have:=dM e er;rw[not_and]at this;have:=this (by omega);have qo:e<listed.size:=by omega
     simp only[Array.getD_eq_getD_getElem?,Array.getElem?_eq_getElem qo,Option.getD_some]at this⊢;simpa using this⟩
   intro e;rw[e]at this;cases this
  have h6:Region.linearise.go .any ops (fuel+1) t listed []=(match(Region.ready .any ops listed)[t%(Region.ready .any ops listed).length]? with
   |some i=>Region.linearise.go .any ops fuel (t/(Region.ready .any ops listed).length) (listed.setIfInBounds i true) [i]
   |none=>[]):=rfl
  cases EM:(Region.ready .any ops listed)[t%(Region.ready .any ops listed).length]? with
  |none=>
   have Ep:Region.ready .any ops listed=[]:=by
    cases aT:Region.ready .any ops listed with
    |nil=>rfl
    |cons a l=>
     rw[aT]at EM;have:=List.getElem?_eq_none_iff.1 EM;have ae:=mod_lt t (show 0<(a::l).length by simp);omega
   rw[h6,EM];refine⟨by simp,λi=>?_,λu i v h=>by simp at h⟩;simp only[List.not_mem_nil,false_iff];intro ai;exact hex ⟨i,ai⟩ Ep
  |some i=>
   have ai:=(Vh i).1 (List.mem_of_getElem? EM);obtain⟨EN,mO,aeW⟩:=ai;rw[h6,EM];simp only;rw[linearise_go_acc];simp only[List.reverse_singleton,List.singleton_append];have xo:∀j d,(listed.setIfInBounds i true).getD j d=if j=i then true else listed.getD j d:=by
    intro j d;split
    .rename_i e;subst e;simp[Array.getD_eq_getD_getElem?,Array.getElem?_setIfInBounds_self_of_lt (show j<listed.size by omega)]
    .rename_i e;simp[Array.getD_eq_getD_getElem?,Array.getElem?_setIfInBounds_ne (λh=>e h.symm)]
   obtain⟨g1,g2,g3⟩:=ih (t/(Region.ready .any ops listed).length) (listed.setIfInBounds i true) (by simpa using aa) (by
    have fX:((List.range ops.size).filter λj=> !(listed.setIfInBounds i true).getD j true)=((List.range ops.size).filter λi=> !listed.getD i true).filter λj=>decide (j≠i):=by
     rw[List.filter_filter];apply List.filter_congr;intro j _;rw[xo];by_cases e:j=i<;>simp[e]
    rw[fX];have er:(((List.range ops.size).filter λi=> !listed.getD i true).filter λj=>decide (j≠i)).length<((List.range ops.size).filter λi=> !listed.getD i true).length:=by
     rw[List.length_filter_lt_length_iff_exists];exact⟨i,List.mem_filter.2 ⟨List.mem_range.2 EN,by rw[mO];rfl⟩,by simp⟩
    omega)
   refine⟨?_,λj=>?_,?_⟩
   .rw[List.nodup_cons];refine⟨λhm=>?_,g1⟩;have:=((g2 i).1 hm).2;rw[xo,if_pos rfl]at this;cases this
   .rw[List.mem_cons,g2,xo];by_cases e:j=i
    .subst e;simp[EN,mO]
    .simp[e]
   .intro u j v h e he;cases u with
    |nil=>
     simp only[List.nil_append,List.cons.injEq]at h;obtain⟨rfl,rfl⟩:=h;exact .inl (aeW e he)
    |cons Bo u=>
     simp only[List.cons_append,List.cons.injEq]at h;obtain⟨rfl,h⟩:=h;rcases g3 u j v h e he with bD|bD
     .rw[xo]at bD;split at bD
      .rename_i hi;subst hi;exact .inr (by simp)
      .exact .inl bD
     .exact .inr (by simp[bD])
theorem aeX {ops:Array Oper} (ab:EL (q8 ops)=true) (t:Nat):sG (q8 ops) (Region.linearise .any ops t):=by
 have Vi:∀i d,i<ops.size->(Array.replicate ops.size false).getD i d=false:=by
  intro i d ai;simp[Array.getD_eq_getD_getElem?,ai]
 obtain⟨g1,g2,g3⟩:=aeS ab ops.size t (Array.replicate ops.size false) (by simp) (by
  have:=List.length_filter_le (λi=> !(Array.replicate ops.size false).getD i true) (List.range ops.size);simpa using this)
 have hlen:(q8 ops).length=ops.size:=by simp[q8]
 refine⟨g1,λi=>?_,λu i v h e he=>?_⟩
 .rw[hlen];rw[show Region.linearise .any ops t=Region.linearise.go .any ops ops.size t (Array.replicate ops.size false) []from rfl,g2];exact⟨λh=>h.1,λh=>⟨h,Vi i true h⟩⟩
 .rcases g3 u i v h e he with bD|bD
  .exfalso;by_cases Vj:e<ops.size
   .rw[Vi e false Vj]at bD;cases bD
   .simp[Array.getD_eq_getD_getElem?,Vj]at bD
  .exact bD
def aq:azj->al
 |[],_=>.hole
 |(u,d)::l,t=>if t=u then d else aq l t
mutual
inductive fN:I->I->Prop
 |refl (d:I):fN d d
 |jf (sz:Nat):fN .a8 (.ak sz [])
 |xE:fN .a8 (.slice [])
 |any (b:Bool):fN (.bool b) .gA
 |share (d:I):d.tree=true->(∀vs,d≠.tuple vs)->(∀o,d≠.b9 o)->fN d d.share
 |agg {ds es:azk}:mn ds es->fN (.agg ds) (.agg es)
 |aQ {d e:I}:fN d e->fN (.aQ d) (.aQ e)
 |ak {sz:Nat} {ds es:azk}:mn ds es->fN (.ak sz ds) (.ak sz es)
 |tuple {ds es:azk}:mn ds es->fN (.tuple ds) (.tuple es)
 |ref {d e:I}:fN d e->fN (.ref d) (.ref e)
 |trans {d e f:I}:fN d e->fN e f->fN d f
inductive mn:azk->azk->Prop
 |nil:mn [] []
 |cons {d e:I} {ds es:azk}:fN d e->mn ds es->mn (d::ds) (e::es)
end
mutual
theorem fN.wd:∀{d e:I},fN d e->e.wd=d.wd
 |_,_,.refl _=>rfl
 |_,_,.jf _=>rfl
 |_,_,.xE=>rfl
 |_,_,.any _=>rfl
 |_,_,.share d _ _ _=>I.HP d
 |_,_,.agg h=>by simp only[I.wd];exact mn.wd h
 |_,_,.aQ _=>rfl
 |_,_,.ak _=>rfl
 |_,_,.tuple h=>by simp only[I.wd];exact mn.wd h
 |_,_,.ref _=>rfl
 |_,_,.trans h k=>(fN.wd k).trans (fN.wd h)
theorem mn.wd:∀{ds es:azk},mn ds es->I.eZ es=I.eZ ds
 |_,_,.nil=>rfl
 |_,_,.cons h aa=>by simp only[I.eZ];rw[fN.wd h,mn.wd aa]
end
theorem mn.len {ds es:azk} (h:mn ds es):es.length=ds.length:=by
 induction ds generalizing es with
 |nil=>cases h;rfl
 |cons d ds ih=>cases h with|cons h aa=>simp[ih aa]
theorem mn.all {sz:Nat} {ds es:azk} (h:mn ds es) (ao:∀d∈ds,d.wd=sz):∀d∈es,d.wd=sz:=by
 induction ds generalizing es with
 |nil=>cases h;intro d ao;cases ao
 |cons d ds ih=>
  cases h with
  |cons h aa=>
   intro x an;rcases List.mem_cons.1 an with rfl|an
   .rw[h.wd];exact ao d (by simp)
   .exact ih aa (λd hm=>ao d (by simp[hm])) x an
section
variable {w0 w:World} {F0 X F:Nat->Prop} {S:Nat->Nat->Prop} {s aH:al} {aG:Nat->Value}
def aeY (w:World) (F:Nat->Prop) (_d e:I) (cs:azi) (S:Nat->Prop):Prop:=
 ∃jJ jK:Nat->Prop,(∀b,jJ b->S b)/\(∀b,jK b->S b)/\(∀b,jK b->¬jJ b)/\∀ct,(∀b,F b\/jJ b->ct b)->aA w ct e cs jK
mutual
theorem aA.wider:∀{d e:I},fN d e->∀{F:Nat->Prop} {cs:azi} {S:Nat->Prop},aA w F d cs S->aeY w F d e cs S
 |_,_,.refl _,F,cs,S,h=>⟨λ_=>False,S,λ_ h=>h.elim,λ_ h=>h,λ_ _ h=>h,λct bK=>aA.mono (λb ab=>bK b (.inl ab)) _ _ _ _ (λ_ h=>h) h⟩
 | .a8,_,.jf sz,F,cs,S,h=>⟨λ_=>False,S,λ_ h=>h.elim,λ_ h=>h,λ_ _ h=>h,λct bK=>by simp only[aA]at h⊢;exact .inl ⟨trivial,_,h⟩⟩
 | .a8,_,.xE,F,cs,S,h=>⟨λ_=>False,S,λ_ h=>h.elim,λ_ h=>h,λ_ _ h=>h,λct bK=>by simp only[aA]at h⊢;exact .inl ⟨trivial,none,0,h,zero_le _,λ_=>rfl⟩⟩
 | .bool _,_,.any b,F,cs,S,h=>⟨λ_=>False,S,λ_ h=>h.elim,λ_ h=>h,λ_ _ h=>h,λct bK=>by simp only[aA]at h⊢;exact⟨b,h⟩⟩
 |_,_,.share d _ _ _,F,cs,S,h=>⟨S,λ_=>False,λ_ h=>h,λ_ h=>h.elim,λ_ h=>h.elim,λct bK=>aA.shared (λb ab=>bK b (.inl ab)) d cs S (λb ab=>bK b (.inr ab)) h⟩
 |_,_,.agg lG,F,cs,S,h=>by
  rw[aA]at h;obtain⟨jJ,jK,ad,ae,aJ,bh⟩:=bA.wider lG h;exact⟨jJ,jK,ad,ae,aJ,λct bK=>by rw[aA];exact bh ct bK⟩
 |_,_,.aQ ao,F,cs,S,h=>by
  rw[aA]at h;obtain⟨b,cur,ty,fr,aZ,b1,cK,dM,dX,eF,dz,kG⟩:=h;obtain⟨jJ,jK,ad,ae,aJ,bh⟩:=aA.wider ao eF;refine⟨jJ,λc=>c=b\/jK c,λc ar=>dz c (ad c ar),?_,?_,λct bK=>?_⟩
  .rintro c (rfl|ar)
   .exact cK
   .exact dz c (ae c ar)
  .rintro c (rfl|ar) bH
   .exact kG (ad _ bH)
   .exact aJ c ar bH
  .rw[aA];exact⟨b,cur,ty,fr,jK,b1,.inl rfl,dM,dX,bh ct bK,λc ar=>.inr ar,λar=>kG (ae _ ar)⟩
 | .ak sz ds,.ak _ es,.ak lG,F,cs,S,h=>by
   rw[aA]at h;have aC:=lG.len;rcases h with⟨ad,ae⟩|⟨b,cap,cur,ty,fr,aZ,b1,cK,dM,dX,eF,dz,kG,fA,o8,kh,Vk⟩
   .refine⟨λ_=>False,S,λ_ h=>h.elim,λ_ h=>h,λ_ _ h=>h,λct _=>?_⟩;rw[aA];subst ad;exact .inl ⟨List.length_eq_zero_iff.1 (by simpa using aC),ae⟩
   .obtain⟨jJ,jK,ad,ae,aJ,bh⟩:=bA.wider lG o8;refine⟨jJ,λc=>c=b\/jK c,λc ar=>kh c (ad c ar),?_,?_,λct bK=>?_⟩
    .rintro c (rfl|ar)
     .exact cK
     .exact kh c (ae c ar)
    .rintro c (rfl|ar) bH
     .exact Vk (ad _ bH)
     .exact aJ c ar bH
    .rw[aA];refine .inr ⟨b,cap,cur,ty,fr,jK,by rw[aC];exact b1,.inl rfl,dM,dX,by rw[aC];exact eF,dz,kG,lG.all fA,by rw[aC];exact bh ct bK,λc ar=>.inr ar,λar=>Vk (ae _ ar)⟩
 |_,_,.tuple lG,F,cs,S,h=>by
  rw[aA]at h;obtain⟨jJ,jK,ad,ae,aJ,bh⟩:=bA.wider lG h;exact⟨jJ,jK,ad,ae,aJ,λct bK=>by rw[aA];exact bh ct bK⟩
 |_,_,.ref ao,F,cs,S,h=>by
  rw[aA]at h;obtain⟨b,o,e9,ad,ae,aJ,bh⟩:=h;obtain⟨jJ,jK,b1,cK,dM,dX⟩:=aA.wider ao bh;refine⟨λ_=>False,S,λ_ h=>h.elim,λ_ h=>h,λ_ _ h=>h,λct bK=>?_⟩;rw[aA];exact⟨b,o,e9,ad,bK _ (.inl ae),aJ,aA.mono (λ_ h=>h) _ _ _ _ (λb ab=>cK b ab) (dX ct λb ab=>bK b (ab.imp id λh=>(b1 b h).elim))⟩
 |_,_,.trans ao he,F,cs,S,h=>by
  obtain⟨jJ,jK,ad,ae,aJ,bh⟩:=aA.wider ao h;obtain⟨Nr,Ip,b1,cK,dM,dX⟩:=aA.wider he (F:=λb=>F b\/jJ b) (bh _ λ_ h=>h);refine⟨λb=>jJ b\/Nr b,Ip,?_,λb ab=>ae b (cK b ab),?_,λct bK=>dX ct λb ab=>?_⟩
  .rintro b (h|h)
   .exact ad b h
   .exact ae b (b1 b h)
  .rintro b ab (h|h)
   .exact aJ b (cK b ab) h
   .exact dM b ab h
  .rcases ab with(ab|ab)|ab
   .exact bK b (.inl ab)
   .exact bK b (.inr (.inl ab))
   .exact bK b (.inr (.inr ab))
theorem bA.wider:∀{ds es:azk},mn ds es->∀{F:Nat->Prop} {cs:azi} {S:Nat->Prop},bA w F ds cs S->
  ∃jJ jK:Nat->Prop,(∀b,jJ b->S b)/\(∀b,jK b->S b)/\(∀b,jK b->¬jJ b)/\∀ct,(∀b,F b\/jJ b->ct b)->bA w ct es cs jK
 |_,_,.nil,F,cs,S,h=>⟨λ_=>False,λ_=>False,λ_ h=>h.elim,λ_ h=>h.elim,λ_ h=>h.elim,λct bK=>by rw[bA]at h⊢;exact h⟩
 |_,_,.cons ao lG,F,cs,S,h=>by
  rw[bA]at h;obtain⟨cA,c2,cD,eH,rfl,g2,g3,g4,g5,g6⟩:=h;obtain⟨aeZ,Vl,J,a2,a3,a4⟩:=aA.wider ao g2;obtain⟨Nr,Ip,hC,gd,fY,bw⟩:=bA.wider lG g3;refine⟨λb=>aeZ b\/Nr b,λb=>Vl b\/Ip b,?_,?_,?_,λct bK=>?_⟩
  .rintro b (h|h)
   .exact g4 b (J b h)
   .exact g5 b (hC b h)
  .rintro b (h|h)
   .exact g4 b (a2 b h)
   .exact g5 b (gd b h)
  .rintro b (h|h) (bD|bD)
   .exact a3 b h bD
   .exact g6 b (a2 b h) (hC b bD)
   .exact g6 b (J b bD) (gd b h)
   .exact fY b h bD
  .rw[bA];refine⟨cA,c2,Vl,Ip,rfl,a4 ct (λb ab=>bK b (ab.imp id .inl)),bw ct (λb ab=>bK b (ab.imp id .inr)),λb ab=>.inl ab,λb ab=>.inr ab,λb ad ae=>g6 b (a2 b ad) (gd b ae)⟩
end
theorem fN.Iq:∀{d e:I},fN d e->(∀vs,d≠.tuple vs)->∀vs,e≠.tuple vs
 |_,_,.refl _,h=>h
 |_,_,.jf _,_=>λ_ h=>by cases h
 |_,_,.xE,_=>λ_ h=>by cases h
 |_,_,.any _,_=>λ_ h=>by cases h
 |_,_,.share d _ _ _,h=>λvs he=>by cases d<;>first|(cases he;done)|exact h _ rfl
 |_,_,.agg _,_=>λ_ h=>by cases h
 |_,_,.aQ _,_=>λ_ h=>by cases h
 |_,_,.ak _,_=>λ_ h=>by cases h
 |_,_,.tuple _,h=>λ_ _=>h _ rfl
 |_,_,.ref _,_=>λ_ h=>by cases h
 |_,_,.trans h k,aR=>fN.Iq k (fN.Iq h aR)
theorem fN.j2:∀{d e:I} {v:Value},fN d e->(∀vs,d≠.tuple vs)->eg.j2 d v->eg.j2 e v
 |_,_,_,.refl _,_,h=>h
 |_,_,_,.jf _,_,h=>h
 |_,_,_,.xE,_,h=>h
 |_,_,_,.any _,_,h=>h
 |_,_,_,.share d _ aR _,_,h=>by cases d<;>first|exact h|exact(aR _ rfl).elim
 |_,_,_,.agg _,_,h=>h
 |_,_,_,.aQ _,_,h=>h
 |_,_,_,.ak _,_,h=>h
 |_,_,_,.tuple _,aR,_=>(aR _ rfl).elim
 |_,_,_,.ref _,_,h=>h
 |_,_,_,.trans h k,aR,aa=>fN.j2 k (fN.Iq h aR) (fN.j2 h aR aa)
theorem mn.get:∀{ds es:azk},mn ds es->∀(k:Nat) (e:I),es[k]? =some e->∃d,ds[k]? =some d/\fN d e
 |_,_,.nil,k,e,h=>by simp at h
 |_,_,.cons ao aa,0,e,h=>by simp at h;subst h;exact⟨_,rfl,ao⟩
 |_,_,.cons ao aa,k+1,e,h=>mn.get aa k e (by simpa using h)
theorem fN.eK:∀{d e:I} {v:Value},fN d e->eg.eK d v->eg.eK e v
 |_,_,_,.refl _,aa=>aa
 |_,_,_,.jf _,aa=>aa
 |_,_,_,.xE,aa=>aa
 |_,_,_,.any _,aa=>aa
 |_,_,_,.share _ _ nC _,aa=>Nc nC aa
 |_,_,_,.agg _,aa=>aa
 |_,_,_,.aQ _,aa=>aa
 |_,_,_,.ak _,aa=>aa
 |_,_,_,.ref _,aa=>aa
 |_,_,_,.tuple ao,aa=>by
  obtain⟨arr,ad,ae,aJ⟩:=aa;refine⟨arr,ad,ae.trans ao.len.symm,λk e x he an=>?_⟩;obtain⟨d,ax,hw⟩:=ao.get k e he;obtain⟨J,a2,a3⟩:=aJ k d x ax an;exact⟨hw.j2 a2 J,hw.Iq a2,a3.trans hw.wd.symm⟩
 |_,_,_,.trans h k,aa=>fN.eK k (fN.eK h aa)
theorem fN.tree:∀{d e:I},fN d e->d.tree=true->e.tree=true
 |_,_,.refl _,ao=>ao
 |_,_,.jf _,_=>rfl
 |_,_,.xE,_=>rfl
 |_,_,.any _,_=>rfl
 |_,_,.share d _ _ nx,ao=>by cases d<;>first|exact ao|rfl|exact(nx _ rfl).elim
 |_,_,.agg _,_=>rfl
 |_,_,.aQ _,_=>rfl
 |_,_,.ak _,_=>rfl
 |_,_,.tuple _,_=>rfl
 |_,_,.ref _,_=>rfl
 |_,_,.trans h k,ao=>fN.tree k (fN.tree h ao)
mutual
def I.zc:I->azf
 | .h x q=>if q.isEmpty then []else [x]
 | .ay x _=>[x]
 | .ab x _=>[x]
 | .fn _ cap=>I.EO cap
 |_=>[]
def I.EO:azk->azf
 |[]=>[]
 |d::ds=>d.zc++I.EO ds
end
def EP (s aH:al) (x:Nat) (D:azf):Prop:=aH x=s x\/aH x= .hole\/((s x).own=true/\(aH x).own=true/\x∉D)
theorem EP.less {s aH:al} {x:Nat} {D E:azf} (h:EP s aH x D) (ER:∀u∈E,u∈D):EP s aH x E:=by
 rcases h with h|h|⟨ad,ae,aJ⟩
 .exact .inl h
 .exact .inr (.inl h)
 .exact .inr (.inr ⟨ad,ae,λan=>aJ (ER x an)⟩)
theorem aS.keep {ct:Nat->Prop} (bK:∀b,F b->ct b):∀n,(∀(d:I) (v:Value) (eR:Nat->Prop),SizeOf.sizeOf d<=n->(∀x∈d.aa,EP s aH x d.zc)->aS w F s aG d v eR->aS w ct aH aG d v eR)/\
  (∀(ds:azk) (vs:azi),SizeOf.sizeOf ds<=n->(∀x∈I.fs ds,EP s aH x (I.EO ds))->fo w F s aG ds vs->fo w ct aH aG ds vs):=by
 intro n;induction n with
 |zero=>
  refine⟨λd v eR cf=>?_,λds vs cf=>?_⟩
  .cases d<;>simp at cf<;>omega
  .cases ds<;>simp at cf<;>omega
 |succ n ih=>
  refine⟨λd v eR cf ax h=>?_,λds vs cf ax h=>?_⟩
  .cases d with
   |hole=>rw[aS];trivial
   |h x q=>
    rw[aS]at h⊢;intro e fX ay;rcases ax x (by simp[I.aa])with he|he|⟨ES,Vm,Bp⟩
    .rw[he]at fX⊢;exact h e fX ay
    .rw[he]at fX;cases q with
     |nil=>simp only[I.sub,Option.some.injEq]at fX;subst fX;simp[I.plain]at ay
     |cons k q=>simp[I.sub]at fX
    .cases q with
     |nil=>
      simp only[I.sub,Option.some.injEq]at fX;subst fX;obtain⟨dv,a0,hs,iE,j1⟩:=h (s x) (by simp only[I.sub]) (Ij ES).1;simp only[ep,Option.some.injEq,Prod.mk.injEq,true_and]at hs;exact⟨dd (aG x),none,by simp only[ep],by rw[iE,<-hs.1],((Ij Vm).2.2.2.2.2 _).2 (((Ij ES).2.2.2.2.2 _).1 j1)⟩
     |cons k q=>exact(Bp (by simp[I.zc])).elim
   |ay x q=>
    rw[aS]at h⊢;intro e fX ar;rcases ax x (by simp[I.aa])with he|he|⟨_,_,Bp⟩
    .rw[he]at fX ar⊢;exact h e fX ar
    .rw[he]at ar;cases q<;>simp[I.gC]at ar
    .exact(Bp (by simp[I.zc])).elim
   |ab x k=>
    rw[aS]at h⊢;intro ay;rcases ax x (by simp[I.aa])with he|he|⟨_,_,Bp⟩
    rotate_left 2
    .exact(Bp (by simp[I.zc])).elim
    .rw[he]at ay;obtain⟨b,cur,e,fr,ad,ae,aJ,bh⟩:=h ay;exact⟨b,cur,e,fr,ad,bK b ae,aJ,bh⟩
    .rw[he]at ay;simp[I.plain]at ay
   |fn f cap=>
    rw[aS]at h⊢;obtain⟨arr,rfl,ar⟩:=h;exact⟨arr,rfl,ih.2 _ _ (by simp at cf;omega) (by simpa [I.aa,I.zc]using ax) ar⟩
   |_=>
    have bD:=(aS.dr rfl).1 h;exact(aS.dr rfl).2 ⟨bD.1,aA.mono bK _ _ _ _ (λ_ h=>h) bD.2⟩
  .cases ds with
   |nil=>rw[fo]at h⊢;exact h
   |cons d ds=>
    rw[fo]at h⊢;obtain⟨v,nT,rfl,ad,ae⟩:=h;simp at cf;simp only[I.fs,List.mem_append]at ax;exact⟨v,nT,rfl,ih.1 _ _ _ (by omega) (λx an=>(ax x (.inl an)).less λu hu=>by simp[I.EO,hu]) ad,ih.2 _ _ (by omega) (λx an=>(ax x (.inr an)).less λu hu=>by simp[I.EO,hu]) ae⟩
def zd (s:al) (l:azj):Prop:=
 ∀p∈l,p.2=s p.1\/((s p.1).tree=true/\fN (s p.1) p.2/\∀di∈l,p.1∉di.2.aa\/((s p.1).own=true/\p.2.own=true/\p.1∉di.2.zc))
theorem Vn:∀(l:azj) (t:Nat),aq l t= .hole\/∃p∈l,p.1=t/\aq l t=p.2:=by
 intro l;induction l with
 |nil=>intro t;exact .inl rfl
 |cons p l ih=>
  intro t;obtain⟨u,d⟩:=p;simp only[aq];split
  .rename_i e;exact .inr ⟨(u,d),by simp,e.symm,rfl⟩
  .rcases ih t with h|⟨p,ay,h⟩
   .exact .inl h
   .exact .inr ⟨p,by simp[ay],h⟩
theorem cd.Vo (h:cd w0 F0 X F S s aG w) {l:azj} (hw:zd s l):∃ct aZ,cd w0 F0 X ct aZ (aq l) aG w:=by
 have each:∀t,∃jJ jK:Nat->Prop,(∀b,jJ b->S t b)/\(∀b,jK b->S t b)/\(∀b,jK b->¬jJ b)/\∀ct,(∀b,F b\/jJ b->ct b)->aS w ct (aq l) aG (aq l t) (aG t) jK:=by
  intro t;rcases Vn l t with e|⟨p,ay,rfl,e⟩
  .exact⟨λ_=>False,λ_=>False,λ_ h=>h.elim,λ_ h=>h.elim,λ_ h=>h.elim,λct _=>by rw[e,aS];trivial⟩
  .rw[e];rcases hw p ay with ax|⟨aY,nb,_⟩
   .refine⟨λ_=>False,S p.1,λ_ h=>h.elim,λ_ h=>h,λ_ _ h=>h,λct bK=>?_⟩;rw[ax];refine(aS.keep (λb ab=>bK b (.inl ab)) (SizeOf.sizeOf (s p.1))).1 _ _ _ (Nat.le_refl _) ?_ (h.ey p.1);intro x an;rcases Vn l x with hi|⟨di,fj,rfl,hi⟩
    .exact .inr (.inl hi)
    .rcases hw di fj with nh|⟨_,_,nx⟩
     .exact .inl (hi.trans nh)
     .rcases nx p ay with nx|⟨qm,nD,sB⟩
      .exact(nx (by rw[ax];exact an)).elim
      .exact .inr (.inr ⟨qm,by rw[hi];exact nD,by rw[ax]at sB;exact sB⟩)
   .obtain⟨g1,g2⟩:=(aS.dr aY).1 (h.ey p.1);obtain⟨jJ,jK,b1,cK,dM,dX⟩:=aA.wider nb g2;exact⟨jJ,jK,b1,cK,dM,λct bK=>(aS.dr (nb.tree aY)).2 ⟨nb.eK g1,dX ct bK⟩⟩
 have cA:=λt=>(each t).choose_spec;let jJ:=λt=>(each t).choose
 have c2:=λt=>(cA t).choose_spec;let jK:=λt=>(cA t).choose
 have hn:∀t b,jJ t b->S t b:=λt=>(c2 t).1;have gE:∀t b,jK t b->S t b:=λt=>(c2 t).2.1;have iI:∀t b,jK t b->¬jJ t b:=λt=>(c2 t).2.2.1;have jH:=λt=>(c2 t).2.2.2;refine⟨λb=>F b\/∃t,jJ t b,jK,λb ab=>.inl (h.iQ b ab),?_,?_,λt b ab=>h.fS t b (gE t b ab),?_,λt u b dV ab hu=>h.gD t u b dV (gE t b ab) (gE u b hu),λt b ab=>h.eR t b (gE t b ab),?_,h.old,h.size,h.os,h.tape,h.output,h.gU⟩
 .rintro b (ab|⟨t,ab⟩)
  .exact h.jv b ab
  .exact .inr (h.eR t b (hn t b ab))
 .rintro b (ab|⟨t,ab⟩)
  .exact h.gP b ab
  .exact h.fS t b (hn t b ab)
 .rintro t b ab (bH|⟨u,hu⟩)
  .exact h.hj t b (gE t b ab) bH
  .by_cases e:t=u
   .subst e;exact iI t b ab hu
   .exact h.gD t u b e (gE t b ab) (hn u b hu)
 .intro t;exact jH t _ (λb ab=>ab.imp id λh=>⟨t,h⟩)
end
inductive aB where
 |skip
 |en (ros:List cq) (keep:Option azf)
 |jL (ros:List cq) (sH:azd) (keep:Option azf)
 |seq (a b:aB)
 |cond (c:bE) (a b:aB)
 |block (id:Nat) (b:aB)
 |loop (b:aB)
 |exit (id:Nat)
 |ret
 |kJ (T:(Exit->al->Prop)->al->Prop) (b:aB)
 |raw (c:Code)
def fZ (n:Fr):Code->Option aB
 | .skip=>some .skip
 | .region id ops false=>match t_ n ops ops.toList with
   |some r=>some (.en r none)
   |none=>some (.raw (.region id ops false))
 | .region _ ops true=>if EL (q8 ops)=true then(t_ n ops ops.toList).map λr=>.jL r (q8 ops) none else none
 | .seq a b=>match fZ n a,fZ n b with
   |some a,some b=>some (.seq a b)
   |_,_=>none
 | .cond c a b=>match eC c,fZ n a,fZ n b with
   |some c,some a,some b=>some (.cond c a b)
   |_,_,_=>none
 | .block id b=>(fZ n b).map (.block id)
 | .loop b=>(fZ n b).map .loop
 | .exit id=>some (.exit id)
 | .ret=>some .ret
 |_=>none
def aB.nj:aB->aB
 | .en ros _=>.en ros none
 | .jL ros c7 _=>.jL ros c7 none
 | .seq a b=>.seq a.nj b.nj
 | .cond c a b=>.cond c a.nj b.nj
 | .block id b=>.block id b.nj
 | .loop b=>.loop b.nj
 | .kJ T b=>.kJ T b.nj
 |c=>c
def aB.strip:aB->aB
 | .en ros _=>.en (ros.map cq.un) none
 | .jL ros c7 _=>.jL (ros.map cq.un) c7 none
 | .seq a b=>.seq a.strip b.strip
 | .cond c a b=>.cond c a.strip b.strip
 | .block id b=>.block id b.strip
 | .loop b=>.loop b.strip
 | .kJ _ b=>b.strip
 |c=>c
theorem aB.Ns:∀c:aB,c.nj.strip=c.strip:=by
 intro c;induction c with
 |seq a b mo mq=>simp only[aB.nj,aB.strip,mo,mq]
 |cond c a b mo mq=>simp only[aB.nj,aB.strip,mo,mq]
 |block id b ih=>simp only[aB.nj,aB.strip,ih]
 |loop b ih=>simp only[aB.nj,aB.strip,ih]
 |kJ T b ih=>simp only[aB.nj,aB.strip,ih]
 |_=>rfl
def aB.bare (H:((Exit->al->Prop)->al->Prop)->aB->Prop):aB->Prop
 | .en _ k=>k=none
 | .jL _ _ k=>k=none
 | .seq a b=>a.bare H/\b.bare H
 | .cond _ a b=>a.bare H/\b.bare H
 | .block _ b=>b.bare H
 | .loop b=>b.bare H
 | .kJ T b=>H T b
 |_=>True
def aB.pN (H:((Exit->al->Prop)->al->Prop)->aB->Prop):aB->Prop
 | .seq a b=>a.pN H/\b.pN H
 | .cond _ a b=>a.pN H/\b.pN H
 | .block _ b=>b.pN H
 | .loop b=>b.pN H
 | .kJ T b=>H T b.nj
 |_=>True
theorem aB.Ir {H:((Exit->al->Prop)->al->Prop)->aB->Prop}:∀c:aB,c.pN H->c.nj.bare H:=by
 intro c;induction c with
 |seq a b mo mq=>intro h;exact⟨mo h.1,mq h.2⟩
 |cond c a b mo mq=>intro h;exact⟨mo h.1,mq h.2⟩
 |block id b ih=>intro h;exact ih h
 |loop b ih=>intro h;exact ih h
 |en=>intro _;rfl
 |jL=>intro _;rfl
 |kJ T b _=>intro h;exact h
 |_=>intro _;trivial
def aB.plain:aB->Bool
 | .seq a b=>a.plain&&b.plain
 | .cond _ a b=>a.plain&&b.plain
 | .block _ b=>b.plain
 | .loop b=>b.plain
 | .kJ _ _=>false
 |_=>true
theorem aB.Vp {H:((Exit->al->Prop)->al->Prop)->aB->Prop}:∀c:aB,c.plain=true->c.pN H:=by
 intro c;induction c with
 |seq a b mo mq=>intro h;simp only[aB.plain,Bool.and_eq_true]at h;exact⟨mo h.1,mq h.2⟩
 |cond c a b mo mq=>intro h;simp only[aB.plain,Bool.and_eq_true]at h;exact⟨mo h.1,mq h.2⟩
 |block id b ih=>intro h;exact ih h
 |loop b ih=>intro h;exact ih h
 |kJ T b _=>intro h;cases h
 |_=>intro _;trivial
def andThen (K:al->Prop) (Q:Exit->al->Prop):Exit->al->Prop
 | .normal,s=>K s
 |e,s=>Q e s
def Bq (id:Nat) (Q:Exit->al->Prop):Exit->al->Prop
 | .exit i,s=>if i=id then Q .normal s else Q (.exit i) s
 |e,s=>Q e s
def eI (K:al->Prop) (s:al):Prop:=K s\/∃l,zd s l/\K (aq l)
def ET:Option azf->(al->Prop)->al->Prop
 |none,K,s=>eI K s
 |some k,K,s=>K (aq (k.map λt=>(t,s t)))
def bj (C:cl):aB->(Exit->al->Prop)->al->Prop
 | .skip,Q,s=>Q .normal s
 | .en ros keep,Q,s=>n2 C s ros (ET keep (Q .normal))
 | .jL ros sH keep,Q,s=>∀l,sG sH l->kI C ros s l (ET keep (Q .normal))
 | .seq a b,Q,s=>bj C a (andThen (eI (bj C b Q)) Q) s
 | .cond c a b,Q,s=>match bt s c with
   | .bool gO=>if gO=true then bj C a Q s else bj C b Q s
   | .gA=>bj C a Q s/\bj C b Q s
   |_=>False
 | .block id b,Q,s=>bj C b (Bq id Q) s
 | .loop b,Q,s=>eI (λs=>∀Z:al->Prop,(∀aH,bj C b (andThen (eI Z) Q) aH->Z aH)->Z s) s
 | .exit id,Q,s=>Q (.exit id) s
 | .ret,Q,s=>Q .ret s
 | .kJ T _,Q,s=>∀e4:Exit->al->Prop,(∀e s,Q e s->e4 e s)->T e4 s
 | .raw _,_,_=>False
section
variable {C:cl}
theorem Is {s:al} {o:cq} {K ew:al->Prop} (h:oH C s o K) (ax:∀s,K s->ew s):oH C s o ew:=by
 unfold oH at h⊢;split
 .rename_i hg;rw[hg]at h;exact Il h λav s1=>ax _
 .rename_i t b hg;rw[hg]at h;simp only at h;split
  .rename_i gO aa;rw[aa]at h;simp only at h;split
   .rename_i ab;rw[if_pos ab]at h;exact Il h λav s1=>ax _
   .rename_i ab;rw[if_neg ab]at h;exact ax _ h
  .rename_i aa;rw[aa]at h;exact ax _ h
  .rename_i ad ae;split at h
   .exact ad _ (by assumption)
   .exact ae (by assumption)
   .exact h
theorem Vq {K ew:al->Prop} (ax:∀s,K s->ew s):∀{ros:List cq} {s:al},n2 C s ros K->n2 C s ros ew:=by
 intro ros;induction ros with
 |nil=>intro s h;exact ax s h
 |cons o ros ih=>intro s h;exact Is h λs h=>ih h
theorem Vr {ros:List cq} {K ew:al->Prop} (ax:∀s,K s->ew s):∀{l:azf} {s:al},kI C ros s l K->kI C ros s l ew:=by
 intro l;induction l with
 |nil=>intro s h;exact ax s h
 |cons i l ih=>
  intro s h;simp only[kI]at h⊢;split
  .rename_i bL;rw[bL]at h;exact ih h
  .rename_i o bL;rw[bL]at h;exact Is h λs h=>ih h
theorem Br {K ew:al->Prop} (ax:∀s,K s->ew s) (s:al) (h:eI K s):eI ew s:=
 h.imp (ax s) λ⟨l,ad,ae⟩=>⟨l,ad,ax _ ae⟩
theorem Vs {keep:Option azf} {K ew:al->Prop} (ax:∀s,K s->ew s) (s:al) (h:ET keep K s):ET keep ew s:=by
 cases keep with
 |none=>exact Br ax s h
 |some k=>exact ax _ h
theorem Vt {keep:Option azf} {K:al->Prop} {s:al} (h:ET keep K s):eI K s:=by
 cases keep with
 |none=>exact h
 |some k=>
  refine .inr ⟨_,?_,h⟩;intro p ay;obtain⟨t,_,rfl⟩:=List.mem_map.1 ay;exact .inl rfl
theorem Nt {K ew:al->Prop} {Q e4:Exit->al->Prop} (ax:∀s,K s->ew s) (cz:∀e s,Q e s->e4 e s):∀e s,andThen K Q e s->andThen ew e4 e s:=by
 intro e s h;cases e with
 |normal=>exact ax s h
 |_=>exact cz _ s h
theorem Nu:∀(c:aB) {Q e4:Exit->al->Prop} {s:al},(∀e s,Q e s->e4 e s)->bj C c Q s->bj C c e4 s:=by
 intro c;induction c with
 |skip=>intro Q e4 s cz h;exact cz _ _ h
 |en ros keep=>intro Q e4 s cz h;exact Vq (Vs (cz _)) h
 |jL ros sH keep=>intro Q e4 s cz h l aC;exact Vr (Vs (cz _)) (h l aC)
 |seq a b mo mq=>
  intro Q e4 s cz h;exact mo (Nt (λs h=>Br (λ_ h=>mq cz h) s h) cz) h
 |cond c a b mo mq=>
  intro Q e4 s cz h;simp only[bj]at h⊢;split
  .rename_i gO ab;rw[ab]at h;simp only at h;split
   .rename_i e;rw[if_pos e]at h;exact mo cz h
   .rename_i e;rw[if_neg e]at h;exact mq cz h
  .rename_i ab;rw[ab]at h;exact⟨mo cz h.1,mq cz h.2⟩
  .rename_i ad ae;split at h
   .exact ad _ (by assumption)
   .exact ae (by assumption)
   .exact h
 |block id b ih=>
  intro Q e4 s cz h;refine ih ?_ h;intro e s h;cases e with
  |exit i=>
   simp only[Bq]at h⊢;split
   .rename_i e;rw[if_pos e]at h;exact cz _ _ h
   .rename_i e;rw[if_neg e]at h;exact cz _ _ h
  |_=>exact cz _ _ h
 |loop b ih=>
  intro Q e4 s cz h;refine Br (λs h Z Bs=>?_) s h;exact h Z λaH f_=>Bs aH (ih (Nt (λ_ h=>h) cz) f_)
 |exit id=>intro Q e4 s cz h;exact cz _ _ h
 |ret=>intro Q e4 s cz h;exact cz _ _ h
 |kJ T b _=>intro Q e4 s cz h Nv ae;exact h Nv λe s he=>ae e s (cz e s he)
 |raw c=>intro Q e4 s cz h;exact h
theorem It:∀(c:aB) {Q:Exit->al->Prop} {s:al},bj C c Q s->bj C c.nj Q s:=by
 intro c;induction c with
 |en ros keep=>intro Q s h;exact Vq (λs h=>Vt h) h
 |jL ros c7 keep=>intro Q s h l aC;exact Vr (λs h=>Vt h) (h l aC)
 |seq a b mo mq=>intro Q s h;exact mo (Nu a (Nt (λs h=>Br (λ_ h=>mq h) s h) (λ_ _ h=>h)) h)
 |cond c a b mo mq=>
  intro Q s h;simp only[aB.nj,bj]at h⊢;split
  .rename_i gO ab;rw[ab]at h;simp only at h;split
   .rename_i e;rw[if_pos e]at h;exact mo h
   .rename_i e;rw[if_neg e]at h;exact mq h
  .rename_i ab;rw[ab]at h;exact⟨mo h.1,mq h.2⟩
  .rename_i ad ae;split at h
   .exact ad _ (by assumption)
   .exact ae (by assumption)
   .exact h
 |block id b ih=>intro Q s h;exact ih h
 |loop b ih=>
  intro Q s h;refine Br (λs h Z Bs=>?_) s h;exact h Z λaH f_=>Bs aH (ih f_)
 |kJ T b _=>intro Q s h;exact h
 |_=>intro Q s h;exact h
variable {w0 w:World} {F0 X:Nat->Prop} {n:Fr} {ρ:Nat->Value} {s:al} {a:Act}
def ze (w0:World) (F0 X:Nat->Prop) (n:Fr) (ρ:Nat->Value) (Q:Exit->al->Prop):Exit->Act->World->Prop:=λe a w=>∃s,Q e s/\Rel w0 F0 X n ρ s a w
theorem Rel.eI {K:al->Prop} {s:al} {a:Act} {w:World} (aT:Rel w0 F0 X n ρ s a w) (h:eI K s):∃aH,K aH/\Rel w0 F0 X n ρ aH a w:=by
 rcases h with h|⟨l,ad,ae⟩
 .exact⟨s,h,aT⟩
 .obtain⟨g1,g2,g3,F,S,g4⟩:=aT;obtain⟨ct,aZ,g5⟩:=g4.Vo ad;exact⟨aq l,ae,g1,g2,g3,ct,aZ,g5⟩
theorem aB.ae0 {c:aB} (h:c.strip= .skip):c= .skip\/∃T b,c= .kJ T b:=by cases c<;>first|exact .inl rfl|exact .inr ⟨_,_,rfl⟩|cases h
theorem aB.ae1 {c:aB} (h:c.strip= .ret):c= .ret\/∃T b,c= .kJ T b:=by cases c<;>first|exact .inl rfl|exact .inr ⟨_,_,rfl⟩|cases h
theorem aB.ae2 {c:aB} {i:Nat} (h:c.strip= .exit i):c= .exit i\/∃T b,c= .kJ T b:=by cases c<;>first|exact .inl h|exact .inr ⟨_,_,rfl⟩|cases h
theorem aB.ae3 {c:aB} {x:Code} (h:c.strip= .raw x):c= .raw x\/∃T b,c= .kJ T b:=by cases c<;>first|exact .inl h|exact .inr ⟨_,_,rfl⟩|cases h
theorem aB.ae4 {c:aB} {r:List cq} {k:Option azf} (h:c.strip= .en r k):(∃ros da,c= .en ros da/\ros.map cq.un=r)\/∃T b,c= .kJ T b:=by
 cases c<;>first|(cases h;exact .inl ⟨_,_,rfl,rfl⟩)|exact .inr ⟨_,_,rfl⟩|cases h
theorem aB.ae5 {c:aB} {r:List cq} {c7:azd} {k:Option azf} (h:c.strip= .jL r c7 k):(∃ros Vu da,c= .jL ros Vu da/\ros.map cq.un=r/\Vu=c7)\/∃T b,c= .kJ T b:=by
 cases c<;>first|(cases h;exact .inl ⟨_,_,_,rfl,rfl,rfl⟩)|exact .inr ⟨_,_,rfl⟩|cases h
theorem aB.ae6 {c x y:aB} (h:c.strip= .seq x y):(∃a b,c= .seq a b/\a.strip=x/\b.strip=y)\/∃T b,c= .kJ T b:=by
 cases c<;>first|(cases h;exact .inl ⟨_,_,rfl,rfl,rfl⟩)|exact .inr ⟨_,_,rfl⟩|cases h
theorem aB.ae7 {c x y:aB} {o:bE} (h:c.strip= .cond o x y):(∃qk a b,c= .cond qk a b/\qk=o/\a.strip=x/\b.strip=y)\/∃T b,c= .kJ T b:=by
 cases c<;>first|(cases h;exact .inl ⟨_,_,_,rfl,rfl,rfl,rfl⟩)|exact .inr ⟨_,_,rfl⟩|cases h
theorem aB.ae8 {c x:aB} {i:Nat} (h:c.strip= .block i x):(∃a,c= .block i a/\a.strip=x)\/∃T b,c= .kJ T b:=by
 cases c<;>first|(cases h;exact .inl ⟨_,rfl,rfl⟩)|exact .inr ⟨_,_,rfl⟩|cases h
theorem aB.ae9 {c x:aB} (h:c.strip= .loop x):(∃a,c= .loop a/\a.strip=x)\/∃T b,c= .kJ T b:=by
 cases c<;>first|(cases h;exact .inl ⟨_,rfl,rfl⟩)|exact .inr ⟨_,_,rfl⟩|cases h
theorem Nw (bO:C.fH) {H:((Exit->al->Prop)->al->Prop)->aB->Prop}
  (nE:∀(c:Code) (T:(Exit->al->Prop)->al->Prop) (b:aB) (Q:Exit->al->Prop) (s:al) (a:Act) (w:World),H T b->fZ n c=some b.strip->T Q s->Rel w0 F0 X n ρ s a w->c.wp C.P (ze w0 F0 X n ρ Q) a w):
  ∀(c:Code) {dY:aB} {Q:Exit->al->Prop} {s:al} {a:Act} {w:World},fZ n c=some dY.strip->dY.bare H->bj C dY Q s->Rel w0 F0 X n ρ s a w->c.wp C.P (ze w0 F0 X n ρ Q) a w:=by
 intro c;induction c with
 |skip=>
  intro dY Q s a w aa je h aT;have nk:=aa;simp only[fZ,Option.some.injEq]at aa;rcases aB.ae0 aa.symm with rfl|⟨T,b,rfl⟩
  .exact wp_skip ⟨s,h,aT⟩
  .exact nE _ T b Q s a w je (by simpa only[aB.strip]using nk) (h Q λ_ _ h=>h) aT
 |region id ops draw=>
  intro dY Q s a w aa je h aT;have nk:=aa;cases draw with
  |false=>
   simp only[fZ]at aa;split at aa
   rotate_left
   .have f_:=(Option.some.injEq _ _▸aa).symm;rcases aB.ae3 f_ with rfl|⟨T,b,rfl⟩
    .exact h.elim
    .exact nE _ T b Q s a w je (by simpa only[aB.strip]using nk) (h Q λ_ _ h=>h) aT
   rename_i ae_ EU;simp only[Option.some.injEq]at aa;rcases aB.ae4 aa.symm with⟨ros,k,rfl,rfl⟩|⟨T,b,rfl⟩
   rotate_left
   .exact nE _ T b Q s a w je (by simpa only[aB.strip]using nk) (h Q λ_ _ h=>h) aT
   cases je;exact aeQ bO EU (λaH dH aL ax fi=>fi.eI ax) h aT
  |true=>
   simp only[fZ]at aa;split at aa
   .rename_i ab;simp only[Option.map_eq_some_iff]at aa;obtain⟨ae_,EU,aa⟩:=aa;rcases aB.ae5 aa.symm with⟨ros,c7,k,rfl,rfl,rfl⟩|⟨T,b,rfl⟩
    rotate_left
    .exact nE _ T b Q s a w je (by simpa only[aB.strip]using nk) (h Q λ_ _ h=>h) aT
    cases je;refine wp_region_draw λt=>?_;rw[show Region.schedule (C.P.follows .mixedOrders) ops t=Region.linearise .any ops t by simp[Region.schedule,bO.mixed]];exact Vg bO EU (λaH dH aL ax fi=>fi.eI ax) _ s a _ (h _ (aeX ab t)) (aT.drawn _ (by first|exact le_succ _|exact le_add_right _ _|omega))
   .cases aa
 |seq x y afa Iu=>
  intro dY Q s a w aa je h aT;have nk:=aa;simp only[fZ]at aa;split at aa
  .rename_i Bf Vv an hy;simp only[Option.some.injEq]at aa;rcases aB.ae6 aa.symm with⟨e2,oB,rfl,rfl,rfl⟩|⟨T,b,rfl⟩
   rotate_left
   .exact nE _ T b Q s a w je (by simpa only[aB.strip]using nk) (h Q λ_ _ h=>h) aT
   refine wp_seq (wp_mono (afa an je.1 h aT) ?_);rintro e dH aL ⟨aH,bD,fi⟩;cases e with
   |normal=>
    obtain⟨aH,bD,fi⟩:=fi.eI bD;exact Iu hy je.2 bD fi
   |_=>exact⟨aH,bD,fi⟩
  .cases aa
 |cond x y z Iu Vw=>
  intro dY Q s a w aa je h aT;have nk:=aa;simp only[fZ]at aa;split at aa
  .rename_i Bf Vv sz an hy cf;simp only[Option.some.injEq]at aa;rcases aB.ae7 aa.symm with⟨e2,oB,vx,rfl,rfl,rfl,rfl⟩|⟨T,b,rfl⟩
   rotate_left
   .exact nE _ T b Q s a w je (by simpa only[aB.strip]using nk) (h Q λ_ _ h=>h) aT
   have fi:=aT;obtain⟨ao,fg,bH,F,S,sF⟩:=fi;have aF:=(gF (a:=a) sF (λ_=>rfl) an).2;simp only[bj]at h;split at h
   .rename_i gO ab;rw[ab]at aF;have:=xp aF;refine wp_cond this ?_;split
    .rename_i e;rw[if_pos e]at h;exact Iu hy je.1 h aT
    .rename_i e;rw[if_neg e]at h;exact Vw cf je.2 h aT
   .rename_i ab;rw[ab]at aF;obtain⟨gO,o2⟩:=T3 aF;refine wp_cond o2 ?_;split
    .exact Iu hy je.1 h.1 aT
    .exact Vw cf je.2 h.2 aT
   .exact h.elim
  .cases aa
 |block id b ih=>
  intro dY Q s a w aa je h aT;have nk:=aa;simp only[fZ,Option.map_eq_some_iff]at aa;obtain⟨Er,ab,aa⟩:=aa;rcases aB.ae8 aa.symm with⟨gO,rfl,rfl⟩|⟨T,b,rfl⟩
  rotate_left
  .exact nE _ T b Q s a w je (by simpa only[aB.strip]using nk) (h Q λ_ _ h=>h) aT
  refine wp_block (wp_mono (ih ab je h aT) ?_);rintro e dH aL ⟨aH,bD,fi⟩;cases e with
  |exit i=>
   simp only[Bq]at bD;simp only[Exit.inBlock];split
   .rename_i e;rw[if_pos e]at bD;exact⟨aH,bD,fi⟩
   .rename_i e;rw[if_neg e]at bD;exact⟨aH,bD,fi⟩
  |_=>exact⟨aH,bD,fi⟩
 |loop b ih=>
  intro dY Q s a w aa je h aT;have nk:=aa;simp only[fZ,Option.map_eq_some_iff]at aa;obtain⟨Er,ab,aa⟩:=aa;rcases aB.ae9 aa.symm with⟨gO,rfl,rfl⟩|⟨T,b,rfl⟩
  rotate_left
  .exact nE _ T b Q s a w je (by simpa only[aB.strip]using nk) (h Q λ_ _ h=>h) aT
  obtain⟨s,h,aT⟩:=aT.eI h;have key:=h (λs=>∀a w,Rel w0 F0 X n ρ s a w->∀(f:Frame) (k:List Item) (cs:List Frame),∃e dH aL,ze w0 F0 X n ρ Q e dH aL/\Arrives C.P (lone (f.at a (.code b:: .inLoop b::k)) cs w) f k cs e dH aL) ?_
  .intro f k cs;obtain⟨e,dH,aL,cz,xF⟩:=key a w aT f k cs;exact⟨e,dH,aL,cz,.of_steps (.one step_loop) xF⟩
  .intro aH f_ a w aT f k cs;obtain⟨e,a₁,w₁,⟨s1,cz,xG⟩,xF⟩:=ih ab je f_ aT f (.inLoop b::k) cs;cases e with
   |normal=>
    simp only[andThen]at cz;obtain⟨s1,cz,xG⟩:=xG.eI cz;obtain⟨e₂,a₂,w₂,hq₂,harr₂⟩:=cz a₁ w₁ xG f k cs;exact⟨e₂,a₂,w₂,hq₂,.of_steps (Steps.trans xF (.one step_inLoop)) harr₂⟩
   |exit id=>exact⟨_,a₁,w₁,⟨s1,cz,xG⟩,.pass (x:=.inLoop b) rfl (λ_ _=>.inl (by simp)) xF⟩
   |goto l=>exact⟨_,a₁,w₁,⟨s1,cz,xG⟩,.pass (x:=.inLoop b) rfl (λ_ _=>.inl (by simp)) xF⟩
   |ret=>exact⟨_,a₁,w₁,⟨s1,cz,xG⟩,.pass (x:=.inLoop b) rfl (λ_ _=>.inl (by simp)) xF⟩
   |panic aw7=>exact⟨_,a₁,w₁,⟨s1,cz,xG⟩,.pass (x:=.inLoop b) rfl (λ_ _=>.inl (by simp)) xF⟩
   |outgrown=>exact⟨_,a₁,w₁,⟨s1,cz,xG⟩,.pass (x:=.inLoop b) rfl (λ_ _=>.inl (by simp)) xF⟩
 |exit id=>
  intro dY Q s a w aa je h aT;have nk:=aa;simp only[fZ,Option.some.injEq]at aa;rcases aB.ae2 aa.symm with rfl|⟨T,b,rfl⟩
  .exact wp_exit ⟨s,h,aT⟩
  .exact nE _ T b Q s a w je (by simpa only[aB.strip]using nk) (h Q λ_ _ h=>h) aT
 |ret=>
  intro dY Q s a w aa je h aT;have nk:=aa;simp only[fZ,Option.some.injEq]at aa;rcases aB.ae1 aa.symm with rfl|⟨T,b,rfl⟩
  .exact wp_ret ⟨s,h,aT⟩
  .exact nE _ T b Q s a w je (by simpa only[aB.strip]using nk) (h Q λ_ _ h=>h) aT
 |_=>intro dY Q s a w aa;simp[fZ]at aa
theorem Vx (bO:C.fH) (c:Code) {dY:aB} {Q:Exit->al->Prop} {s:al} {a:Act} {w:World} (aa:fZ n c=some dY.strip) (ab:dY.bare (λ_ _=>False)) (h:bj C dY Q s) (aT:Rel w0 F0 X n ρ s a w):c.wp C.P (ze w0 F0 X n ρ Q) a w:=
 Nw bO (λ_ _ _ _ _ _ _ bH=>bH.elim) c aa ab h aT
end
def lH:ResultVar->Nat
 | .tmp t=>t
 | .cell a _=>a
def ua (C:cl) (s:al):ResultVar->Option I
 | .tmp t=>if(s t).tree=true then(match s t with| .tuple _=>none|d=>some d)else none
 | .cell a T=>match s a with
   | .aQ d=>if fits C T d=true/\d.tree=true then some d else none
   |_=>none
def Nx (C:cl) (fx:azf) (fO:List ResultVar) (r:I) (outs:azk) (s:al):Prop:=
 ∃ds,fO.map (ua C s)=ds.map some/\r=(match ds with|[d]=>d|ds=>.tuple ds)/\(fO.map lH).Nodup/\
  ∀(i:Nat) (o:I),outs[i]? =some o->o= .hole\/(o=s i/\o.hD=true/\i∈fx/\i∉fO.map lH)
def Ends (C:cl) (fx:azf) (fO:List ResultVar) (r:I) (outs:azk) (s:al):Prop:=
 Nx C fx fO r outs s\/∃t y q d s1,s t= .h y q/\dD s (.h y q)=some (d,s1)/\Nx C fx fO r outs (fin s1 (some t) d)
theorem cd.takes {w0 w:World} {F0 X F:Nat->Prop} {S:Nat->Nat->Prop} {s s1:al} {aG:Nat->Value} {t y:Nat} {q:azf} {d:I} (aT:cd w0 F0 X F S s aG w) (ad:s t= .h y q) (ae:dD s (.h y q)=some (d,s1)):
  ∃aZ,cd w0 F0 X F aZ (eg.fin s1 (some t) d) aG w:=by
 have aa:=aT.ey t;rw[ad,aS]at aa;obtain⟨cD,k0,b1,cK,Sn,dM,dX,eF,dz,kG,_⟩:=sk aT (av:=.h y q) (v:=aG t) rfl (by rw[aS];exact aa) ae;obtain⟨aZ,bD⟩:=k0.fin (.inr ⟨b1,cK,Sn,dM,dX,eF,dz,kG⟩) (some t);refine⟨aZ,?_⟩;have e:qf aG (some t) (aG t)=aG:=by
  funext u;simp only[qf,et];split
  .rename_i h;rw[h]
  .rfl
 rwa [e]at bD
section
variable {C:cl} {w0 w:World} {F0 X F:Nat->Prop} {S:Nat->Nat->Prop} {s:al} {tmps:Array Value}
theorem Vy {d:I} {x:Value} (ao:∀vs,d≠.tuple vs) (h:eK d x):dd x=jb x/\j2 d x:=by
 have:j2 d x:=by cases d<;>first|exact h|exact(ao _ rfl).elim
 refine⟨?_,this⟩;cases d<;>first
  |(obtain⟨a,rfl⟩:=this;rfl)
  |(simp only[j2]at this
    rw[ix this];cases x<;>first|rfl|(simp[Value.hH]at this))
def EV (tmps:Array Value):ResultVar->Sem Value
 | .tmp t=>pure (tmps.getD t undef)
 | .cell a t=>do loadVar t (<-asAddr (tmps.getD a undef))
theorem afb (bO:C.fH) (h:cd w0 F0 X F S s (λt=>tmps.getD t undef) w) {v:ResultVar} {d:I} (aF:ua C s v=some d):
  ∃x,(EV tmps v).run C.P w= .ok x w/\d.tree=true/\(∀vs,d≠.tuple vs)/\eK d x/\aA w F d (dd x) (S (lH v)):=by
 cases v with
 |tmp t=>
  simp only[ua]at aF;split at aF
  .rename_i aY;have nC:(∀vs,s t≠.tuple vs)/\d=s t:=by
    cases aa:s t<;>rw[aa]at aF<;>simp only at aF<;>first
     |(cases aF;done)
     |(simp only[Option.some.injEq]at aF;exact⟨(λ_ h=>by cases h),aF.symm⟩)
   obtain⟨nC,rfl⟩:=nC;obtain⟨g1,g2⟩:=(aS.dr aY).1 (h.ey t);exact⟨_,by simp[EV],aY,nC,g1,g2⟩
  .cases aF
 |cell a T=>
  simp only[ua]at aF;split at aF
  .rename_i e aa;split at aF
   .rename_i afc;obtain⟨kd,afd⟩:=afc;simp only[Option.some.injEq]at aF;subst aF;have lh:=h.ey a;rw[aa]at lh;obtain⟨g1,g2⟩:=(aS.dr (d:=.aQ e) rfl).1 lh;rw[ix g1,aA]at g2;obtain⟨b,cur,ty,fr,aZ,b1,cK,dM,dX,eF,dz,kG⟩:=g2;simp only[List.cons.injEq,and_true]at b1;have mh:js w b 0 cur.toList:=by
     have:=A3 dM cur.size
     rwa [List.take_of_length_le (by simp)]at this
    obtain⟨x,dU,a_,cN⟩:=HY (C:=C) bO mh eF kd;refine⟨x,?_,afd,?_,cN,?_⟩
    .simp only[EV];rw[b1];simpa [asAddr]using dU
    .intro vs hi;subst hi;unfold fits at kd;split at kd<;>simp_all
    .rw[a_];exact aA.mono (λ_ h=>h) _ _ _ _ dz eF
   .cases aF
  .cases aF
theorem afe (bO:C.fH) (h:cd w0 F0 X F S s (λt=>tmps.getD t undef) w):∀(fO:List ResultVar) (ds:azk),fO.map (ua C s)=ds.map some->(fO.map lH).Nodup->
  ∃xs,(fO.mapM (EV tmps)).run C.P w= .ok xs w/\xs.length=ds.length/\bA w F ds (xs.flatMap jb) (λb=>∃t∈fO.map lH,S t b)/\
   ∀(k:Nat) (d:I) (x:Value),ds[k]? =some d->xs[k]? =some x->eK d x/\(∀vs,d≠.tuple vs)/\(jb x).length=d.wd/\dd x=jb x/\d.tree=true:=by
 intro fO;induction fO with
 |nil=>
  intro ds he _;have:ds=[]:=by simpa using he.symm
  subst this;exact⟨[],by simp,rfl,by simp only[List.flatMap_nil];rw[bA],λk d x ao=>by simp at ao⟩
 |cons v fO ih=>
  intro ds he Bt;cases ds with
  |nil=>simp at he
  |cons d ds=>
   simp only[List.map_cons,List.cons.injEq]at he;simp only[List.map_cons,List.nodup_cons]at Bt;obtain⟨x,dU,rt,a_,cN,bN⟩:=afb bO h he.1;obtain⟨xs,hn,gE,iI,jH⟩:=ih ds he.2 Bt.2;obtain⟨aO,aU⟩:=Vy a_ cN;refine⟨x::xs,by simp[List.mapM_cons,dU,hn],by simp[gE],?_,?_⟩
   .simp only[List.flatMap_cons];rw[bA];rw[aO]at bN;refine⟨jb x,xs.flatMap jb,S (lH v),λb=>∃t∈fO.map lH,S t b,rfl,bN,iI,λb ab=>⟨lH v,by simp,ab⟩,?_,?_⟩
    .rintro b ⟨t,aY,ab⟩;exact⟨t,by simp[aY],ab⟩
    .rintro b ab ⟨t,aY,o2⟩;have:t≠lH v:=λe=>Bt.1 (e▸aY);exact h.gD t (lH v) b this o2 ab
   .intro k bM e2 ao an;cases k with
    |zero=>
     simp at ao an;subst ao an;refine⟨cN,a_,?_,aO,rt⟩;rw[<-aO];exact aA.length _ _ _ bN
    |succ k=>exact jH k bM e2 (by simpa using ao) (by simpa using an)
theorem Ny (bO:C.fH) {f:FuncId} {fn:Func} {c:Code} {fx:azf} {as outs:azk} {r:I} (bH:C.P.funcs[f]? =some fn) (ab:fn.body=some c)
  (mr:(fn.name== "runtime.NumGoroutine")=false) (aR:as.length<=fn.ntmps)
  {w:World} {F X:Nat->Prop} {S:Nat->Nat->Prop} {vs:azi} (aC:vs.length=as.length) (aT:cd w F X F S (gq as) (h5 vs) w)
  (Nz:∀a,Rel w F X ⟨fn.ntmps,fx⟩ (h5 vs) (gq as) a w->(∀t,a.tmps.getD t undef=h5 vs t)->c.wp C.P (ze w F X ⟨fn.ntmps,fx⟩ (h5 vs) (λe s=>(e= .normal\/e= .ret)/\eI (Ends C fx fn.results.toList r outs) s)) a w):
  sC C.P f vs.toArray w λv aL=>∃ct aZ,cd w F X ct aZ (gq (r::outs)) (h5 (v::vs)) aL:=by
 have q3:(vs.toArray++Array.replicate (fn.ntmps-vs.toArray.size) undef).size=fn.ntmps:=by simp;omega
 have e_:(λt=>(vs.toArray++Array.replicate (fn.ntmps-vs.toArray.size) undef).getD t undef)=h5 vs:=by
  funext t;simp only[h5,Array.getD_eq_getD_getElem?,List.getD_eq_getElem?_getD];by_cases aY:t<vs.length
  .rw[Array.getElem?_append_left (by simpa using aY)];simp
  .rw[Array.getElem?_append_right (by simpa using aY)];rw[List.getElem?_eq_none (by omega)];simp only[Array.getElem?_replicate];split<;>rfl
 have sF:Rel w F X ⟨fn.ntmps,fx⟩ (h5 vs) (gq as) {tmps:=vs.toArray++Array.replicate (fn.ntmps-vs.toArray.size) undef,defers:=[]} w:=
  ⟨rfl,q3,λi _=>congrFun e_ i,F,S,by rw[e_];exact aT⟩
 have NA:fn.name≠ "runtime.NumGoroutine" :=by simpa using mr
 refine .inl ⟨by simp[callFunc,bH,NA,ab],calls_of_wp bH ab (wp_mono (Nz _ sF (congrFun e_)) ?_)⟩;rintro e dH aL ⟨aH,⟨he,aff⟩,afg⟩;obtain⟨aH,⟨ds,lG,Vz,Bt,yO⟩,ao,fg,j6,ct,aZ,fi⟩:∃aH,Nx C fx fn.results.toList r outs aH/\Rel w F X ⟨fn.ntmps,fx⟩ (h5 vs) aH dH aL:=by
  obtain⟨aH,he,xH⟩:=afg.eI aff;rcases he with he|⟨t,y,q,d,s1,ad,ae,he⟩
  .exact⟨aH,he,xH⟩
  .obtain⟨g1,g2,g3,F,S,g4⟩:=xH;obtain⟨aZ,g5⟩:=g4.takes ad ae;exact⟨_,he,g1,g2,g3,F,aZ,g5⟩
 obtain⟨xs,hn,gE,iI,jH⟩:=afe bO fi _ ds lG Bt;have afh:(results fn dH.tmps)=(do let vs<-fn.results.mapM (EV dH.tmps);pure (if h:vs.size=1 then vs[0]else .tuple vs)):=by
  unfold results;congr 1
 have yT:(results fn dH.tmps).run C.P aL= .ok (if h:xs.toArray.size=1 then xs.toArray[0]else .tuple xs.toArray) aL:=by
  rw[afh,Array.mapM_eq_mapM_toList];simp[hn]
 have pc:(r.tree=true/\eK r (if h:xs.toArray.size=1 then xs.toArray[0]else .tuple xs.toArray)/\
   aA aL ct r (dd (if h:xs.toArray.size=1 then xs.toArray[0]else .tuple xs.toArray)) (λb=>∃t∈fn.results.toList.map lH,aZ t b)):=by
  by_cases ad:∃d,ds=[d]
  .obtain⟨d,rfl⟩:=ad;obtain⟨x,rfl⟩:∃x,xs=[x]:=by
    cases xs with
    |nil=>simp at gE
    |cons x xs=>cases xs with
     |nil=>exact⟨x,rfl⟩
     |cons y cH=>simp at gE
   obtain⟨b1,cK,dM,dX,eF⟩:=jH 0 d x rfl rfl;have afi:d=r:=Vz.symm;subst afi;simp only[List.flatMap_cons,List.flatMap_nil,List.append_nil]at iI;rw[bA]at iI;obtain⟨cA,c2,cD,eH,aO,aU,aM,bT,cv,ck⟩:=iI;rw[bA]at aM;subst aM;simp only[List.append_nil]at aO;subst aO;have an:(if h:([x]:azi).toArray.size=1 then([x]:azi).toArray[0]else .tuple ([x]:azi).toArray)=x:=by simp
   rw[an,dX];exact⟨eF,b1,aA.mono (λ_ h=>h) _ _ _ _ bT aU⟩
  .have Iv:r= .tuple ds:=by
    rw[Vz];cases ds with
    |nil=>rfl
    |cons d ds=>cases ds with
     |nil=>exact(ad ⟨d,rfl⟩).elim
     |cons e ds=>rfl
   have an:(if h:xs.toArray.size=1 then xs.toArray[0]else Value.tuple xs.toArray)= .tuple xs.toArray:=by
    rw[dif_neg];intro fg;have:ds.length=1:=by rw[<-gE];simpa using fg
    obtain⟨d,ao⟩:=List.length_eq_one_iff.1 this;exact ad ⟨d,ao⟩
   rw[an,Iv];refine⟨rfl,⟨xs.toArray,rfl,by simpa using gE,λk d x ao an=>?_⟩,?_⟩
   .obtain⟨b1,cK,dM,dX,_⟩:=jH k d x ao (by simpa using an);exact⟨(Vy cK b1).2,cK,dM⟩
   .rw[aA];simpa [dd]using iI
 have post:∀(v:Value),(r.tree=true/\eK r v/\aA aL ct r (dd v) (λb=>∃t∈fn.results.toList.map lH,aZ t b))->∃Bl cD,cd w F X Bl cD (gq (r::outs)) (h5 (v::vs)) aL:=by
  rintro v ⟨v1,v2,v3⟩;have NB:∀i,(outs.getD i .hole).hD=true->outs.getD i .hole=aH i/\i∈fx/\i∉fn.results.toList.map lH:=by
   intro i ai;cases bL:outs[i]? with
   |none=>simp[List.getD,bL,I.hD]at ai
   |some o=>
    have e:outs.getD i .hole=o:=by simp[List.getD,bL]
    rw[e]at ai⊢;rcases yO i o bL with h|h
    .subst h;simp[I.hD]at ai
    .exact⟨h.1,h.2.2⟩
  refine⟨ct,λt b=>match t with|0=>∃t∈fn.results.toList.map lH,aZ t b|i+1=>(outs.getD i .hole).hD=true/\aZ i b,fi.iQ,fi.jv,fi.gP,?_,?_,?_,?_,?_,fi.old,fi.size,fi.os,fi.tape,fi.output,aT.gU⟩
  .intro t b ab;cases t with
   |zero=>obtain⟨t,_,ab⟩:=ab;exact fi.fS t b ab
   |succ i=>exact fi.fS i b ab.2
  .intro t b ab;cases t with
   |zero=>obtain⟨t,_,ab⟩:=ab;exact fi.hj t b ab
   |succ i=>exact fi.hj i b ab.2
  .intro t u b dV ab hu;cases t with
   |zero=>
    obtain⟨t,aY,ab⟩:=ab;cases u with
    |zero=>exact dV rfl
    |succ j=>
     refine fi.gD t j b (λe=>?_) ab hu.2;subst e;exact(NB t hu.1).2.2 aY
   |succ i=>
    cases u with
    |zero=>
     obtain⟨t,aY,hu⟩:=hu;refine fi.gD t i b (λe=>?_) hu ab.2;subst e;exact(NB t ab.1).2.2 aY
    |succ j=>exact fi.gD i j b (by omega) ab.2 hu.2
  .intro t b ab;cases t with
   |zero=>obtain⟨t,_,ab⟩:=ab;exact fi.eR t b ab
   |succ i=>exact fi.eR i b ab.2
  .intro t;cases t with
   |zero=>exact(aS.dr v1).2 ⟨v2,v3⟩
   |succ i=>
    show aS aL ct (gq (r::outs)) (h5 (v::vs)) (outs.getD i .hole) (vs.getD i undef) (λb=>(outs.getD i .hole).hD=true/\aZ i b);cases ai:(outs.getD i .hole).hD with
    |false=>
     have:outs.getD i .hole= .hole:=by
      cases bL:outs[i]? with
      |none=>simp[List.getD,bL]
      |some o=>
       have e:outs.getD i .hole=o:=by simp[List.getD,bL]
       rw[e]at ai⊢;rcases yO i o bL with h|h
       .exact h
       .rw[h.2.1]at ai;cases ai
     rw[this,aS];trivial
    |true=>
     obtain⟨qm,nD,sB⟩:=NB i ai;have aY:=(xA ai).2.1;have lh:=fi.ey i;rw[<-qm]at lh;obtain⟨g1,g2⟩:=(aS.dr aY).1 lh;have aF:dH.tmps.getD i undef=vs.getD i undef:=j6 i nD;rw[aF]at g1 g2;exact(aS.dr aY).2 ⟨g1,aA.mono (λ_ h=>h) _ _ _ _ (λb ab=>⟨rfl,ab⟩) g2⟩
 rcases he with rfl|rfl
 .exact⟨ao,_,yT,_,rfl,post _ pc⟩
 .exact⟨ao,_,yT,_,rfl,post _ pc⟩
theorem aV.of_wp (bO:C.fH) {f:FuncId} {fn:Func} {c:Code} {dY:aB} {fx:azf} {as outs:azk} {r:I} (bH:C.P.funcs[f]? =some fn) (ab:fn.body=some c)
  (mr:(fn.name== "runtime.NumGoroutine")=false) (aa:fZ ⟨fn.ntmps,fx⟩ c=some dY.strip) (aR:as.length<=fn.ntmps)
  (h:bj C dY (λe s=>(e= .normal\/e= .ret)/\eI (Ends C fx fn.results.toList r outs) s) (gq as)) (ay:dY.plain=true:=by kernel_rfl):aV C f as r outs:=
 λw F X S vs aC aT=>Ny bO bH ab mr aR aC aT λa sF _=>Vx bO c (by rw[aB.Ns];exact aa) (aB.Ir dY (aB.Vp dY ay)) (It dY h) sF
end
def num:Nat->azk->azj
 |_,[]=>[]
 |k,a::as=>(k,a)::num (k+1) as
theorem afj:∀(as:azk) (k t:Nat),aq (num k as) (k+t)=as.getD t .hole:=by
 intro as;induction as with
 |nil=>intro k t;simp[num,aq]
 |cons a as ih=>
  intro k t;cases t with
  |zero=>simp[num,aq]
  |succ t=>
   have:=ih (k+1) t;simp only[num,aq];rw[if_neg (by omega)];rw[show k+(t+1)=k+1+t by omega,this];simp
theorem Iw (as:azk):gq as=aq (num 0 as):=by
 funext t;have:=afj as 0 t;rw[Nat.zero_add]at this;rw[this];rfl
theorem Ix (l:azj) (t:Nat) (d:I):et (aq l) t d=aq ((t,d)::l):=by
 funext u;simp only[et,aq]
def vK (t:Nat):azj->azj
 |[]=>[]
 |(u,d)::l=>(u,dw t d)::vK t l
def zf (t:Nat):azj->azj
 |[]=>[]
 |(u,d)::l=>(u,cG t d)::zf t l
theorem NC (t:Nat):∀l:azj,oA t (aq l)=aq (vK t l):=by
 intro l;funext u;induction l with
 |nil=>rfl
 |cons p l ih=>
  obtain⟨v,d⟩:=p;simp only[oA,aq,vK]at ih⊢;split
  .rfl
  .exact ih
theorem afk (t:Nat):∀l:azj,jc t (aq l)=aq (zf t l):=by
 intro l;funext u;induction l with
 |nil=>rfl
 |cons p l ih=>
  obtain⟨v,d⟩:=p;simp only[jc,aq,zf]at ih⊢;split
  .rfl
  .exact ih
def ho (k:azf) (s:al):azj:=k.map λt=>(t,s t)
section
variable {C:cl} {l:azj}
def eS.jM:eS->Bool
 | .call _ _=>true
 | .hV _=>false
 | .h4 _=>false
 | .pick _ _ _=>false
 | .mL _=>false
 | .iG _ _=>false
 | .gm _ _=>false
 | .dS _ _ _=>false
 | .fL _ _=>false
 | .kV _ _ _=>false
 | .ml _=>false
 | .eG _ _ _ _=>false
 | .un _ _=>false
 | .kW _ _ _=>false
 | .o9 _ _=>false
 | .fB _ _ _=>false
 | .iJ _ _ _ _=>false
 | .hP _ _ _=>false
 | .kF _ _ _=>false
 | .idx _ _ _=>false
 | .ex _ _=>false
 | .jd _ _ _=>false
 | .len _ _=>false
 | .app _ _ _ _=>false
 | .shr _=>true
 | .cap _ _=>false
 | .ki _ _ _=>false
 | .bad=>false
 | .pL _=>false
 | .pa _=>false
 | .sv=>false
 | .jI _ _ _=>false
 | .kX _ _ _ _=>false
variable {Q:Exit->al->Prop}
def I.EW:I->Bool
 | .tuple _=>true
 |_=>false
theorem Ends.one {fx:azf} {t:Nat} {r:I} {s:al} (ad:s t=r) (ae:(r.tree&& !r.EW)=true):Ends C fx [.tmp t] r [] s:=by
 simp only[Bool.and_eq_true,Bool.not_eq_true']at ae;obtain⟨ae,Iy⟩:=ae;have aJ:∀vs,r≠.tuple vs:=λvs e=>by subst e;simp[I.EW]at Iy
 refine .inl ⟨[r],?_,rfl,by simp,λi o h=>by simp at h⟩;have:ua C s (.tmp t)=some r:=by
  simp only[ua,ad,ae,if_true];try (cases r<;>first|rfl|exact(aJ _ rfl).elim)
 simp only[List.map_cons,List.map_nil,this]
end
section
variable {C:cl} {l:azj} {Q:Exit->al->Prop}
theorem aV.outs {f:FuncId} {as:azk} {r:I} {qm nD:azk} (h:aV C f as r qm) (he:gq qm=gq nD):aV C f as r nD:=by
 intro w F X S vs aC aT;refine sC.mono (h w F X S vs aC aT) ?_;rintro v aL ⟨ct,aZ,bD⟩;refine⟨ct,aZ,?_⟩;have:gq (r::nD)=gq (r::qm):=by
  funext t;cases t with
  |zero=>rfl
  |succ t=>exact(congrFun he t).symm
 rw[this];exact bD
def pd:azk->azk->List dt
 |a::as,d::ds=>⟨a,false,d,.hole⟩::pd as ds
 |_,_=>[]
theorem afl {s:al}:∀(as ds:azk),views s as=some ds->(pd as ds).map (·.a)=as/\(pd as ds).map (·.d)=ds/\(∀p∈pd as ds,p.ok s/\p.g=false/\p.o= .hole/\p.a∈as)/\kj (pd as ds)=true/\
  gq ((pd as ds).map (·.o))=gq []/\(∀vL,gp vL (pd as ds)=vL)/\(∀vL,j4 vL (pd as ds)=vL):=by
 intro as;induction as with
 |nil=>
  intro ds h;simp only[views,Option.some.injEq]at h;subst h;exact⟨rfl,rfl,(λp ay=>by cases ay),rfl,rfl,λ_=>rfl,λ_=>rfl⟩
 |cons a as ih=>
  intro ds h;simp only[views]at h;split at h
  .rename_i d afm ad ae;simp only[Option.some.injEq]at h;subst h;obtain⟨aO,aU,aM,bT,cv,ck,bY⟩:=ih afm ae;refine⟨by simp only[pd,List.map_cons,aO],by simp only[pd,List.map_cons,aU],?_,?_,?_,?_,?_⟩
   .intro p ay;simp only[pd,List.mem_cons]at ay;rcases ay with rfl|ay
    .exact⟨by simp only[dt.ok];exact ad,rfl,rfl,by simp⟩
    .obtain⟨g1,g2,g3,g4⟩:=aM p ay;exact⟨g1,g2,g3,by simp[g4]⟩
   .simp only[pd,kj,bT,Bool.and_true,List.all_eq_true];intro p ay;simp[(aM p ay).2.1]
   .funext t;cases t with
    |zero=>rfl
    |succ t=>exact(congrFun cv t).trans (by simp[gq])
   .intro vL;exact ck vL
   .intro vL;exact bY vL
  .cases h
end
structure fJ where
 dN:azf
 H:azf
 T:azf
 c:Bool
mutual
def I.clean:I->Bool
 | .hole=>false
 | .fn _ cap=>I.Bu cap
 |_=>true
def I.Bu:azk->Bool
 |[]=>true
 |d::ds=>d.clean&&I.Bu ds
end
mutual
theorem VA {x:Nat}:∀a:I,(cG x a).clean=true->cG x a=a
 | .h y q,h=>by
   simp only[cG]at h⊢;split
   .rename_i e;rw[if_pos e]at h;split
    .rfl
    .rename_i hi;rw[if_neg hi]at h;simp[I.clean]at h
   .rfl
 | .ay y q,h=>by
   simp only[cG]at h⊢;split
   .rename_i e;rw[if_pos e]at h;simp[I.clean]at h
   .rfl
 | .ab y q,h=>rfl
 | .fn f cap,h=>by simp only[cG,I.clean]at h⊢;rw[VB cap h]
 | .hole,_=>rfl
 | .bool _,_=>rfl
 | .gA,_=>rfl
 | .int _ _,_=>rfl
 | .str _,_=>rfl
 | .eh,_=>rfl
 | .a8,_=>rfl
 | .slice _,_=>rfl
 | .ak _ _,_=>rfl
 | .ref _,_=>rfl
 | .aQ _,_=>rfl
 | .agg _,_=>rfl
 | .tuple _,_=>rfl
 | .b9 _,_=>rfl
theorem VB {x:Nat}:∀ds:azk,I.Bu (kD x ds)=true->kD x ds=ds
 |[],_=>rfl
 |d::ds,h=>by
  simp only[kD,I.Bu,Bool.and_eq_true]at h⊢;rw[VA d h.1,VB ds h.2]
end
mutual
theorem VC {x:Nat}:∀a:I,(dw x a).clean=true->dw x a=a
 | .h y q,h=>by
   simp only[dw]at h⊢;split
   .rename_i e;rw[if_pos e]at h;simp[I.clean]at h
   .rfl
 | .ay y q,h=>by
   simp only[dw]at h⊢;split
   .rename_i e;rw[if_pos e]at h;simp[I.clean]at h
   .rfl
 | .ab y q,h=>by
   simp only[dw]at h⊢;split
   .rename_i e;rw[if_pos e]at h;simp[I.clean]at h
   .rfl
 | .fn f cap,h=>by simp only[dw,I.clean]at h⊢;rw[VD cap h]
 | .hole,_=>rfl
 | .bool _,_=>rfl
 | .gA,_=>rfl
 | .int _ _,_=>rfl
 | .str _,_=>rfl
 | .eh,_=>rfl
 | .a8,_=>rfl
 | .slice _,_=>rfl
 | .ak _ _,_=>rfl
 | .ref _,_=>rfl
 | .aQ _,_=>rfl
 | .agg _,_=>rfl
 | .tuple _,_=>rfl
 | .b9 _,_=>rfl
theorem VD {x:Nat}:∀ds:azk,I.Bu (la x ds)=true->la x ds=ds
 |[],_=>rfl
 |d::ds,h=>by
  simp only[la,I.Bu,Bool.and_eq_true]at h⊢;rw[VC d h.1,VD ds h.2]
end
theorem afn {k:tV} {x:Nat} {a:I} (h:(k.app x a).clean=true):k.app x a=a:=by
 cases k with
 |no=>rfl
 |cG=>exact VA a h
 |dw=>exact VC a h
theorem afo:∀(ms:List hW) (u:Nat) (a:I),(∀m∈ms,m.x≠u)->(mm ms u a).clean=true->mm ms u a=a:=by
 intro ms;induction ms with
 |nil=>intros;rfl
 |cons m ms ih=>
  intro u a an ar;simp only[mm]at ar⊢;have e:=ih u _ (λjG zg=>an jG (by simp[zg])) ar;have hm:m.at u a=m.k.app m.x a:=by
   simp only[hW.at];rw[if_neg (λe=>an m (by simp) e.symm)]
  rw[e,hm];rw[e,hm]at ar;exact afn ar
theorem afp:∀(ms:List hW) (u:Nat) (a:I),(∀m∈ms,m.x≠u/\m.x∉a.aa)->mm ms u a=a:=by
 intro ms;induction ms with
 |nil=>intros;rfl
 |cons m ms ih=>
  intro u a an;simp only[mm];have hm:m.at u a=a:=by
   simp only[hW.at];rw[if_neg (λe=>(an m (by simp)).1 e.symm)];exact EA (.inr (an m (by simp)).2)
  rw[hm];exact ih u a λjG zg=>an jG (by simp[zg])
theorem afq (m:hW):∀(ms:List hW) (u:Nat) (a:I),(∀jG∈ms,jG.x≠m.x/\jG.x∉m.d.aa/\m.x∉jG.d.aa)->mm ms u (m.at u a)=m.at u (mm ms u a):=by
 intro ms;induction ms with
 |nil=>intros;rfl
 |cons n ms ih=>
  intro u a an;simp only[mm];have aR:=an n (by simp);have ar:n.at u (m.at u a)=m.at u (n.at u a):=by
   simp only[hW.at];by_cases aO:u=n.x
   .subst aO;rw[if_pos rfl,if_neg aR.1,if_pos rfl];exact(EA (.inr aR.2.2)).symm
   .rw[if_neg aO];by_cases aU:u=m.x
    .subst aU;rw[if_pos rfl,if_pos rfl];exact EA (.inr aR.2.1)
    .rw[if_neg aU,if_neg aO,if_neg aU];exact ad7 _ _ _ _ _
  rw[ar];exact ih u _ λjG zg=>an jG (by simp[zg])
theorem afr:∀(ms l6:List hW) (s:al),(∀m∈ms,∀n∈l6,n.x≠m.x/\n.x∉m.d.aa/\m.x∉n.d.aa)->eL l6 (eL ms s)=eL ms (eL l6 s):=by
 intro ms;induction ms with
 |nil=>intros;rfl
 |cons m ms ih=>
  intro l6 s h;have e:∀s,eL (m::ms) s=eL ms (eL [m] s):=λs=>ql [m] ms s;rw[e,e,ih l6 _ (λjG zg=>h jG (by simp[zg]))];congr 1;funext u;simp only[eL,mm];exact afq m l6 u _ (h m (by simp))
def afs (C:cl) (s:al) (f:bE) (args:List bE) (K:azf->I->al->Prop):Prop:=
 ∃(g:FuncId) (caps:azk) (ps:List dt) (r:I),bt s f= .fn g caps/\I.hA caps=true/\ps.map (·.a)=args.map (bt s)++caps/\(∀p∈ps,p.ok s)/\kj ps=true/\
   aV C g (ps.map (·.d)) r (ps.map (·.o))/\r.res=true/\(mN ps=true->r.c1=true/\∀p∈ps,p.o.c1=true)/\K (I.fs ((ps.filter (·.g)).map (·.a))) r (j4 (gp s ps) ps)
def q_ (C:cl) (s:al) (bU:eS) (K:azf->I->al->Prop):Prop:=
 match bU with
 | .call f args=>∃(g:FuncId) (caps:azk) (ps:List dt) (r:I),bt s f= .fn g caps/\I.hA caps=true/\ps.map (·.a)=args.map (bt s)++caps/\(∀p∈ps,p.ok s)/\kj ps=true/\
   aV C g (ps.map (·.d)) r (ps.map (·.o))/\r.res=true/\(mN ps=true->r.c1=true/\∀p∈ps,p.o.c1=true)/\K (I.fs ((ps.filter (·.g)).map (·.a))) r (j4 (gp s ps) ps)
 | .shr bU=>∃av s1,b_ C s bU=some (av,s1)/\av.tree=true/\(∀vs,av≠.tuple vs)/\K (lg s bU) av.share s1
 |bU=>∃av s1,b_ C s bU=some (av,s1)/\K (lg s bU) av s1
def kK (s:al) (dN:azf) (dst:Option Nat) (dD:azf) (av:I):fJ:=
 ⟨dN,dN.flatMap (λu=>(s u).aa)++av.aa,dst.toList++dD,dN.all λu=>(s u).clean⟩
def pe (C:cl) (s:al) (o:cq) (K:fJ->al->Prop):Prop:=
 match o.guard with
 |none=>q_ C s o.bU λdD av s1=>K (kK s (use s o.bU) o.dst dD av) (fin s1 o.dst av)
 |some (t,b)=>match s t with
  | .bool gO=>if gO=b then q_ C s o.bU (λdD av s1=>K (kK s (t::use s o.bU) o.dst dD av) (fin s1 o.dst av))else K (kK s [t] o.dst [] (.tuple [])) (fin s o.dst (.tuple []))
  | .tuple []=>K (kK s [t] o.dst [] (.tuple [])) (fin s o.dst (.tuple []))
  |_=>False
def ub:Option (List fJ)->fJ->Option (List fJ)
 |none,_=>none
 |some l,f=>some (f::l)
def dE (C:cl) (s:al):List cq->Option (List fJ)->(Option (List fJ)->al->Prop)->Prop
 |[],acc,K=>K acc s
 |o::os,acc,K=>pe C s o λf s1=>dE C s1 os (ub acc f) K
section
variable {C:cl}
theorem VE {s:al} {bU:eS} {K:azf->I->al->Prop} {ew:I->al->Prop} (ax:∀dD av s,K dD av s->ew av s) (h:q_ C s bU K):q6 C s bU ew:=by
 cases bU with
 |call f args=>
  obtain⟨g,caps,ps,r,ad,kk,ae,aJ,bh,b2,dA,dC,hI⟩:=h;exact⟨g,caps,ps,r,ad,kk,ae,aJ,bh,b2,dA,dC,ax _ _ _ hI⟩
 |shr bU=>
  obtain⟨av,s1,ad,ae,aJ,bh⟩:=h;exact⟨av,s1,ad,ae,aJ,ax _ _ _ bh⟩
 |_=>
  obtain⟨av,s1,ad,ae⟩:=h;exact⟨av,s1,ad,ax _ _ _ ae⟩
theorem aft {s:al} {o:cq} {K:fJ->al->Prop} {ew:al->Prop} (ax:∀f s,K f s->ew s) (h:pe C s o K):oH C s o ew:=by
 unfold pe at h;unfold oH;split
 .rename_i hg;rw[hg]at h;exact VE (λ_ _ _=>ax _ _) h
 .rename_i t b hg;rw[hg]at h;simp only at h;split
  .rename_i gO aa;rw[aa]at h;simp only at h;split
   .rename_i ab;rw[if_pos ab]at h;exact VE (λ_ _ _=>ax _ _) h
   .rename_i ab;rw[if_neg ab]at h;exact ax _ _ h
  .rename_i aa;rw[aa]at h;exact ax _ _ h
  .rename_i ad ae;split at h
   .exact ad _ (by assumption)
   .exact ae (by assumption)
   .exact h
theorem zh {K:al->Prop}:∀{ros:List cq} {s:al} {acc:Option (List fJ)} {ew:Option (List fJ)->al->Prop},(∀a s,ew a s->K s)->dE C s ros acc ew->n2 C s ros K:=by
 intro ros;induction ros with
 |nil=>intro s acc ew ax h;exact ax _ _ h
 |cons o ros ih=>intro s acc ew ax h;exact aft (λf s h=>ih ax h) h
theorem VF {q:azf} {a d:I} (h:I.sub q a=some d) (cz:q≠[]\/d.aa=[]):a.aa=[]:=by
 cases q with
 |nil=>
  simp only[I.sub,Option.some.injEq]at h;subst h;exact cz.resolve_left (λe=>e rfl)
 |cons k q=>cases a<;>first|rfl|(simp[I.sub]at h)
def Iz (s:al) (p:dt) (e:I->Prop):Prop:=p.g=true->∃x q d,p.a= .h x q/\I.sub q (s x)=some d/\e d/\(p.o= .hole\/p.o.hD=true)
theorem VG {d:I} (h:d.hD=true):d.aa=[]:=U6 (xA h).2.1
theorem VH {d:I} (h:d.hD=true):d.dR.aa=[]:=by cases d<;>first|rfl|(simp[I.hD]at h)
theorem VI {p:dt} {ps:List dt} (h:kj (p::ps)=true):kj ps=true/\∀di∈ps,(p.g=true\/di.g=true)->∀u∈p.a.aa,u∉di.a.aa:=by
 simp only[kj,Bool.and_eq_true,List.all_eq_true,Bool.or_eq_true,Bool.not_eq_true']at h;refine⟨h.2,λdi fj hg u hu=>?_⟩;rcases h.1 di fj with e|e
 .rcases hg with hg|hg<;>simp[hg]at e
 .simpa using e u hu
def vM (ps:List dt):azf:=I.fs ((ps.filter (·.g)).map (·.a))
theorem Bv (p:dt) (ps:List dt):(∀u∈vM ps,u∈vM (p::ps))/\(p.g=true->∀u∈p.a.aa,u∈vM (p::ps)):=by
 unfold vM;by_cases hg:p.g=true
 .simp only[List.filter_cons,hg,if_true,List.map_cons,I.fs,List.mem_append];exact⟨λu h=>.inr h,λ_ u h=>.inl h⟩
 .simp only[List.filter_cons,hg];exact⟨λu h=>h,λh=>by simp at h⟩
theorem afu {p:dt} {ps:List dt} (h:p∈ps):∀u∈p.a.aa,u∈I.fs (ps.map (·.a)):=by
 induction ps with
 |nil=>cases h
 |cons di ps ih=>
  intro u hu;simp only[List.map_cons,I.fs,List.mem_append];rcases List.mem_cons.1 h with rfl|h
  .exact .inl hu
  .exact .inr (ih h u hu)
theorem afv:∀(ps:List dt) (s:al),(∀p∈ps,Iz s p (λd=>d=p.d/\p.d.hD=true))->kj ps=true->
  (∃ms:List hW,(∀m∈ms,m.x∈vM ps/\m.d.aa=[])/\∀aH,eN (I.fs (ps.map (·.a))) aH s->gp aH ps=eL ms aH)/\∀p∈ps,Iz (gp s ps) p (λd=>d=p.d.dR/\p.d.hD=true):=by
 intro ps;induction ps with
 |nil=>intro s _ _;exact⟨⟨[],by simp,λaH _=>rfl⟩,λp ay=>by cases ay⟩
 |cons p ps ih=>
  intro s hg nB;obtain⟨sA,q4⟩:=VI nB;by_cases pf:p.g=true
  .obtain⟨x,q,d,bl,aa,⟨rfl,ao⟩,bL⟩:=hg p (by simp) pf;have l3:(I.put q p.d.dR (s x)).aa=[]:=Bi q _ _ _ aa (.inl (xA ao).1) λ_=>VH ao;have EX:∀aH:al,aH x=s x->p.take aH=eL [⟨.cG,x,I.put q p.d.dR (s x)⟩] aH:=by
    intro aH e;simp only[dt.take,pf,if_true,bl,e,y_]
   have dV:∀di∈ps,∀e2 kE,di.a= .h e2 kE->e2≠x:=by
    intro di fj e2 kE e hi;have:=q4 di fj (.inl pf) x (by simp[bl,I.aa]);rw[e,hi]at this;simp[I.aa]at this
   have xB:∀e2,e2≠x->(s e2).aa=[]->eL [⟨.cG,x,I.put q p.d.dR (s x)⟩] s e2=s e2:=by
    intro e2 A_ a7;simp only[eL,mm,hW.at];rw[if_neg A_];exact EA (.inr (by rw[a7];simp))
   obtain⟨⟨ms,m1,m2⟩,m3⟩:=ih (eL [⟨.cG,x,I.put q p.d.dR (s x)⟩] s) (λdi fj ND=>by
    obtain⟨e2,kE,bM,vI,f_,i7,EY⟩:=hg di (by simp[fj]) ND;refine⟨e2,kE,bM,vI,?_,i7,EY⟩;rw[xB e2 (dV di fj e2 kE vI) (VF f_ (.inr (by rw[i7.1];exact VG i7.2)))];exact f_) sA
   refine⟨⟨[⟨.cG,x,I.put q p.d.dR (s x)⟩]++ms,?_,?_⟩,?_⟩
   .intro m hm;rcases List.mem_append.1 hm with hm|hm
    .simp only[List.mem_singleton]at hm;subst hm;exact⟨(Bv p ps).2 pf x (by simp[bl,I.aa]),l3⟩
    .exact⟨(Bv p ps).1 _ (m1 m hm).1,(m1 m hm).2⟩
   .intro aH f_;simp only[List.map_cons,I.fs]at f_;have e:aH x=s x:=f_ x (by simp[bl,I.aa]);rw[ql];show gp (p.take aH) ps=_;rw[EX aH e];exact m2 _ (eN.eL f_.right _)
   .have aO:gp s (p::ps)=gp (eL [⟨.cG,x,I.put q p.d.dR (s x)⟩] s) ps:=by
     show gp (p.take s) ps=_;rw[EX s rfl]
    rw[aO];intro di fj;rcases List.mem_cons.1 fj with rfl|fj
    .intro _;refine⟨x,q,di.d.dR,bl,?_,⟨rfl,ao⟩,bL⟩;have aF:eL [⟨.cG,x,I.put q di.d.dR (s x)⟩] s x=I.put q di.d.dR (s x):=by
      simp only[eL,mm,hW.at,if_true]
     rw[Nd (by rw[aF];exact l3) (λafw afx aw8=>?_),aF]
     .exact U3 q _ _ _ aa
     .exact q4 afw afx (.inl pf) x (by simp[bl,I.aa])
    .exact m3 di fj
  .have EX:∀aH:al,p.take aH=aH:=by intro aH;simp only[dt.take,pf];rfl
   obtain⟨⟨ms,m1,m2⟩,m3⟩:=ih s (λdi fj=>hg di (by simp[fj])) sA;refine⟨⟨ms,λm hm=>⟨(Bv p ps).1 _ (m1 m hm).1,(m1 m hm).2⟩,?_⟩,?_⟩
   .intro aH f_;simp only[List.map_cons,I.fs]at f_;show gp (p.take aH) ps=_;rw[EX];exact m2 aH f_.right
   .intro di fj;have aO:gp s (p::ps)=gp s ps:=by show gp (p.take s) ps=_;rw[EX]
    rw[aO];rcases List.mem_cons.1 fj with rfl|fj
    .intro h;exact(pf h).elim
    .exact m3 di fj
theorem afy:∀(ps:List dt) (s:al),(∀p∈ps,Iz s p (λd=>d=p.d.dR/\p.d.hD=true))->kj ps=true->
  (∃ms:List hW,(∀m∈ms,m.x∈vM ps/\m.d.aa=[])/\∀aH,eN (I.fs (ps.map (·.a))) aH s->j4 aH ps=eL ms aH):=by
 intro ps;induction ps with
 |nil=>intro s _ _;exact⟨[],by simp,λaH _=>rfl⟩
 |cons p ps ih=>
  intro s hg nB;obtain⟨sA,q4⟩:=VI nB;by_cases pf:p.g=true/\p.o≠.hole
  .obtain⟨pf,afz⟩:=pf;obtain⟨x,q,d,bl,aa,⟨rfl,ao⟩,bL⟩:=hg p (by simp) pf;have bL:p.o.hD=true:=bL.resolve_left afz;have l3:(I.put q p.o (s x)).aa=[]:=by
    cases q with
    |nil=>simp only[I.put];exact VG bL
    |cons k q=>exact Bi _ _ _ _ aa (.inr (by simp)) (by simp)
   have NF:∀aH:al,aH x=s x->p.kH aH=eL [⟨.dw,x,I.put q p.o (s x)⟩] aH:=by
    intro aH e;simp only[dt.kH,pf,if_true,bl];rw[e,UK]
   have dV:∀di∈ps,∀e2 kE,di.a= .h e2 kE->e2≠x:=by
    intro di fj e2 kE e hi;have:=q4 di fj (.inl pf) x (by simp[bl,I.aa]);rw[e,hi]at this;simp[I.aa]at this
   obtain⟨ms,m1,m2⟩:=ih (eL [⟨.dw,x,I.put q p.o (s x)⟩] s) (λdi fj ND=>by
    obtain⟨e2,kE,bM,vI,f_,i7,EY⟩:=hg di (by simp[fj]) ND;refine⟨e2,kE,bM,vI,?_,i7,EY⟩;have a7:=VF f_ (.inr (by rw[i7.1];exact VH i7.2));have xB:eL [⟨.dw,x,I.put q p.o (s x)⟩] s e2=s e2:=by
     simp only[eL,mm,hW.at];rw[if_neg (dV di fj e2 kE vI)];exact EA (.inr (by rw[a7];simp))
    rw[xB];exact f_) sA
   refine⟨[⟨.dw,x,I.put q p.o (s x)⟩]++ms,?_,?_⟩
   .intro m hm;rcases List.mem_append.1 hm with hm|hm
    .simp only[List.mem_singleton]at hm;subst hm;exact⟨(Bv p ps).2 pf x (by simp[bl,I.aa]),l3⟩
    .exact⟨(Bv p ps).1 _ (m1 m hm).1,(m1 m hm).2⟩
   .intro aH f_;simp only[List.map_cons,I.fs]at f_;have e:aH x=s x:=f_ x (by simp[bl,I.aa]);rw[ql];show j4 (p.kH aH) ps=_;rw[NF aH e];exact m2 _ (eN.eL f_.right _)
  .have NF:∀aH:al,p.kH aH=aH:=by
    intro aH;unfold dt.kH;split
    .rename_i iK;have:p.o= .hole:=by
      by_cases h:p.o= .hole
      .exact h
      .exact(pf ⟨iK,h⟩).elim
     rw[this]
    .rfl
   obtain⟨ms,m1,m2⟩:=ih s (λdi fj=>hg di (by simp[fj])) sA;refine⟨ms,λm hm=>⟨(Bv p ps).1 _ (m1 m hm).1,(m1 m hm).2⟩,?_⟩;intro aH f_;simp only[List.map_cons,I.fs]at f_;show j4 (p.kH aH) ps=_;rw[NF];exact m2 aH f_.right
theorem afA {s aH:al}:∀(a:I) (d:I),eN a.aa aH s->view s a=some d->view aH a=some d:=by
 intro a d h;have:=Nh (s:=s) (aH:=aH) a d;intro aF;cases a with
 |h x q=>simp only[view]at aF⊢;rw[h x (by simp[I.aa])];exact aF
 |ay x q=>simp only[view]at aF⊢;rw[h x (by simp[I.aa])];exact aF
 |fn f cap=>
  refine this (λu hu _=>h u hu) aF
 |_=>exact aF
theorem afB {p:dt} {s aH:al} (h:eN p.a.aa aH s) (gH:p.ok s):p.ok aH:=by
 unfold dt.ok at gH⊢;split
 .rename_i hg;rw[if_pos hg]at gH;cases bl:p.a with
  |h x q=>
   rw[bl]at gH;simp only at gH⊢;rw[h x (by simp[bl,I.aa])];exact gH
  |_=>rw[bl]at gH;exact gH.elim
 .rename_i hg;rw[if_neg hg]at gH;exact afA _ _ h gH
def IA (C:cl) (o:cq) (s:al) (nm:fJ) (ms:List hW):Prop:=
 (∀aH,eN nm.dN aH s->∀K:al->Prop,K (eL ms aH)->oH C aH o K)/\(∀m∈ms,m.x∈nm.T/\∀u∈m.d.aa,u∈nm.H)/\(∀u∈nm.dN,∀x∈(s u).aa,x∈nm.H)/\(nm.c=true->∀u∈nm.dN,(s u).clean=true)
theorem VJ (dst:Option Nat) (av:I):∃ms:List hW,(∀m∈ms,m.x∈dst.toList/\m.d=av)/\∀s1:al,fin s1 dst av=eL ms s1:=by
 cases dst with
 |none=>exact⟨[],by simp,λs=>rfl⟩
 |some t=>
  simp only[fin];by_cases h:av.plain=true
  .exact⟨[⟨.no,t,av⟩],by simp,λs=>by rw[if_pos h,ad6]⟩
  .exact⟨[⟨.dw,t,av⟩],by simp,λs=>by rw[if_neg h,UK]⟩
theorem IB {s:al} {dN:azf} {dst:Option Nat} {dD:azf} {av:I}:(∀u∈(kK s dN dst dD av).dN,∀x∈(s u).aa,x∈(kK s dN dst dD av).H)/\((kK s dN dst dD av).c=true->∀u∈(kK s dN dst dD av).dN,(s u).clean=true):=by
 refine⟨λu hu x an=>?_,λar=>?_⟩
 .simp only[kK,List.mem_append,List.mem_flatMap];exact .inl ⟨u,hu,an⟩
 .simp only[kK,List.all_eq_true]at ar;exact ar
theorem afC {s:al} {f:bE} {args:List bE} {K:azf->I->al->Prop} (h:afs C s f args K):
  ∃dD av ms,K dD av (eL ms s)/\(∀m∈ms,m.x∈dD/\m.d.aa=[])/\∀aH,eN (use s (.call f args)) aH s->∀ew:I->al->Prop,ew av (eL ms aH)->Vc C aH f args ew:=by
 obtain⟨g,caps,ps,r,ad,kk,ae,aJ,bh,b2,dA,dC,hI⟩:=h;have afD:∀p∈ps,Iz s p (λd=>d=p.d/\p.d.hD=true):=by
  intro p ay hg;have:=aJ p ay;simp only[dt.ok,hg,if_true]at this;cases bl:p.a with
  |h x q=>rw[bl]at this;exact⟨x,q,p.d,rfl,this.1,⟨rfl,this.2.1⟩,this.2.2.imp id λh=>h.1⟩
  |_=>rw[bl]at this;exact this.elim
 obtain⟨⟨sx,J,a2⟩,a3⟩:=afv ps s afD bh;obtain⟨xy,hC,gd⟩:=afy ps (gp s ps) a3 bh;have tS:∀u∈I.fs (ps.map (·.a)),u∈use s (.call f args):=by
  rw[ae];intro u hu;simp only[use,List.mem_append];have key:∀(hJ l2:azk),u∈I.fs (hJ++l2)->u∈I.fs hJ\/u∈I.fs l2:=by
   intro hJ;induction hJ with
   |nil=>intro l2 h;exact .inr h
   |cons a hJ ih=>
    intro l2 h;simp only[List.cons_append,I.fs,List.mem_append]at h⊢;rcases h with h|h
    .exact .inl (.inl h)
    .exact(ih l2 h).imp .inr id
  rcases key _ _ hu with hu|hu
  .exact .inr (bE.Ii u hu)
  .refine .inl (bE.za u ?_);rw[ad];exact hu
 have fT:j4 (gp s ps) ps=eL (sx++xy) s:=by
  rw[ql,<-a2 s (λ_ _=>rfl),gd _ (λ_ _=>rfl)]
 refine⟨vM ps,r,sx++xy,by rw[<-fT];exact hI,?_,?_⟩
 .intro m hm;rcases List.mem_append.1 hm with hm|hm
  .exact J m hm
  .exact hC m hm
 .intro aH aa ew ax;have vG:eN (I.fs (ps.map (·.a))) aH s:=aa.sub tS;have bH:eN (f.use s) aH s:=by simp only[use]at aa;exact aa.left
  have an:eN (bE.tW s args) aH s:=by simp only[use]at aa;exact aa.right
  have aO:j4 (gp aH ps) ps=eL (sx++xy) aH:=by
   rw[ql,<-a2 aH vG,gd];rw[a2 aH vG,a2 s (λ_ _=>rfl)];exact eN.eL vG _
  exact⟨g,caps,ps,r,by rw[bE.gQ bH];exact ad,kk,by rw[bE.M5 an];exact ae,λp ay=>afB (vG.sub (afu ay)) (aJ p ay),bh,b2,dA,dC,by rw[aO];exact ax⟩
theorem afE {s:al} {bU:eS} {K:azf->I->al->Prop} (h:q_ C s bU K):
  ∃dD av ms,K dD av (eL ms s)/\(∀m∈ms,m.x∈dD/\∀v∈m.d.aa,∃u∈use s bU,v∈(s u).aa)/\∀aH,eN (use s bU) aH s->∀ew:I->al->Prop,ew av (eL ms aH)->q6 C aH bU ew:=by
 have plain:(∃av s1,b_ C s bU=some (av,s1)/\K (lg s bU) av s1)->(∀aH (ew:I->al->Prop) av s1,b_ C aH bU=some (av,s1)->ew av s1->q6 C aH bU ew)->
   ∃dD av ms,K dD av (eL ms s)/\(∀m∈ms,m.x∈dD/\∀v∈m.d.aa,∃u∈use s bU,v∈(s u).aa)/\∀aH,eN (use s bU) aH s->∀ew:I->al->Prop,ew av (eL ms aH)->q6 C aH bU ew:=by
  rintro⟨av,s1,ad,ae⟩ hw;obtain⟨ms,aO,aU,aM⟩:=U1 ad;subst aO;exact⟨_,av,ms,ae,λm hm=>⟨(aU m hm).1,λv aF=>by rw[(aU m hm).2]at aF;cases aF⟩,λaH aa ew ax=>hw aH ew av _ (aM aH aa) ax⟩
 cases bU with
 |call f args=>
  obtain⟨dD,av,ms,J,a2,a3⟩:=afC h;exact⟨dD,av,ms,J,λm hm=>⟨(a2 m hm).1,λv aF=>by rw[(a2 m hm).2]at aF;cases aF⟩,λaH aa ew ax=>a3 aH aa ew ax⟩
 |shr bU=>
  obtain⟨av,s1,ad,ae,aJ,bh⟩:=h;obtain⟨ms,aO,aU,aM⟩:=U1 ad;subst aO;exact⟨_,av.share,ms,bh,λm hm=>⟨(aU m hm).1,λv aF=>by rw[(aU m hm).2]at aF;cases aF⟩,λaH aa ew ax=>⟨av,_,aM aH aa,ae,aJ,ax⟩⟩
 |_=>exact plain h (λaH ew av s1 ad ae=>⟨av,s1,ad,ae⟩)
theorem afF {s:al} {o:cq} {K:fJ->al->Prop} (h:pe C s o K):∃nm ms,K nm (eL ms s)/\IA C o s nm ms:=by
 have op:∀(dN:azf),(∀u∈use s o.bU,u∈dN)->(∀aH,eN dN aH s->∀ew:al->Prop,q6 C aH o.bU (λav s1=>ew (fin s1 o.dst av))->oH C aH o ew)->
   q_ C s o.bU (λdD av s1=>K (kK s dN o.dst dD av) (fin s1 o.dst av))->∃nm ms,K nm (eL ms s)/\IA C o s nm ms:=by
  intro dN tS mI hw;obtain⟨dD,av,ms,ad,ae,aJ⟩:=afE hw;obtain⟨l6,mu,bI⟩:=VJ o.dst av;refine⟨kK s dN o.dst dD av,ms++l6,?_,?_,?_,IB.1,IB.2⟩
  .rw[ql,<-bI];exact ad
  .intro aH aa ew ax;refine mI aH aa ew (aJ aH (aa.sub tS) _ ?_);rw[bI,<-ql];exact ax
  .intro m hm;simp only[kK,List.mem_append];rcases List.mem_append.1 hm with hm|hm
   .refine⟨.inr (ae m hm).1,λv aF=>.inl ?_⟩;obtain⟨u,hu,nW⟩:=(ae m hm).2 v aF;exact List.mem_flatMap.2 ⟨u,tS u hu,nW⟩
   .exact⟨.inl (mu m hm).1,λu hu=>.inr (by rw[(mu m hm).2]at hu;exact hu)⟩
 have skip:∀t,(∀aH,eN [t] aH s->∀ew:al->Prop,ew (fin aH o.dst (.tuple []))->oH C aH o ew)->K (kK s [t] o.dst [] (.tuple [])) (fin s o.dst (.tuple []))->∃nm ms,K nm (eL ms s)/\IA C o s nm ms:=by
  intro t mI ax;obtain⟨l6,mu,bI⟩:=VJ o.dst (.tuple []);refine⟨_,l6,by rw[<-bI];exact ax,?_,?_,IB.1,IB.2⟩
  .intro aH aa ew nh;exact mI aH aa ew (by rw[bI];exact nh)
  .intro m hm;simp only[kK,List.mem_append];exact⟨.inl (mu m hm).1,λu hu=>by rw[(mu m hm).2]at hu;simp[I.aa]at hu⟩
 unfold pe at h;split at h
 .rename_i hg;exact op _ (λ_ h=>h) (λaH _ ew hw=>by unfold oH;rw[hg];exact hw) h
 .rename_i t b hg;split at h
  .rename_i gO ab;split at h
   .rename_i e;refine op (t::use s o.bU) (λu hu=>by simp[hu]) (λaH aa ew hw=>?_) h;have:aH t=s t:=aa t (by simp);unfold oH;rw[hg];simp only[this,ab,if_pos e];exact hw
   .rename_i e;refine skip t (λaH aa ew ax=>?_) h;have:aH t=s t:=aa t (by simp);unfold oH;rw[hg];simp only[this,ab,if_neg e];exact ax
  .rename_i ab;refine skip t (λaH aa ew ax=>?_) h;have:aH t=s t:=aa t (by simp);unfold oH;rw[hg];simp only[this,ab];exact ax
  .exact h.elim
def xI (C:cl) (ros:List cq):al->List (Nat×fJ×List hW)->Prop
 |_,[]=>True
 |s,e::r=>(∃o,ros[e.1]? =some o/\IA C o s e.2.1 e.2.2)/\xI C ros (eL e.2.2 s) r
def sI (s:al) (r:List (Nat×fJ×List hW)):al:=r.foldl (λs e=>eL e.2.2 s) s
def qZ (a b:azf):Bool:=a.all λx=> !b.contains x
theorem Bw {a b:azf} (h:qZ a b=true):∀x∈a,x∉b:=by
 intro x an;simp only[qZ,List.all_eq_true]at h;simpa using h x an
def zi (a b:fJ):Bool:=qZ b.T a.dN&&qZ b.T a.H&&qZ b.T a.T&&qZ a.T b.dN&&qZ a.T b.H&&b.c
theorem afG {ros:List cq} {s:al} {a b:Nat×fJ×List hW} {r:List (Nat×fJ×List hW)} (h:xI C ros s (a::b::r)) (ai:zi a.2.1 b.2.1=true):
  xI C ros s (b::a::r)/\sI s (b::a::r)=sI s (a::b::r):=by
 obtain⟨⟨afH,bl,J,a2,a3,a4⟩,⟨b9,ab,hC,gd,fY,bw⟩,aT⟩:=h;simp only[zi,Bool.and_eq_true]at ai;obtain⟨⟨⟨⟨⟨xj,i2⟩,i3⟩,i4⟩,i5⟩,Ma⟩:=ai;have NG:∀u∈b.2.1.dN,eL a.2.2 s u=s u:=by
  intro u hu;refine afo _ _ _ (λm hm e=>?_) (bw Ma u hu);exact Bw i4 m.x (a2 m hm).1 (e▸hu)
 have NH:∀u∈a.2.1.dN,eL b.2.2 s u=s u:=by
  intro u hu;refine afp _ _ _ λm hm=>⟨λe=>?_,λan=>?_⟩
  .exact Bw xj m.x (gd m hm).1 (e▸hu)
  .exact Bw i2 m.x (gd m hm).1 (a3 u hu _ an)
 have VK:eL b.2.2 (eL a.2.2 s)=eL a.2.2 (eL b.2.2 s):=by
  refine afr _ _ _ λm hm n aR=>⟨λe=>?_,λh=>?_,λh=>?_⟩
  .exact Bw i3 n.x (gd n aR).1 (e▸(a2 m hm).1)
  .exact Bw i2 n.x (gd n aR).1 ((a2 m hm).2 _ h)
  .exact Bw i5 m.x (a2 m hm).1 ((gd n aR).2 _ h)
 refine⟨⟨⟨b9,ab,?_,gd,?_,?_⟩,⟨afH,bl,?_,a2,?_,?_⟩,?_⟩,?_⟩
 .intro aH aa K ax;exact hC aH (λu hu=>(aa u hu).trans (NG u hu).symm) K ax
 .intro u hu x an;exact fY u hu x (by rw[NG u hu];exact an)
 .intro ar u hu;have:=bw ar u hu
  rwa [NG u hu]at this
 .intro aH aa K ax;exact J aH (λu hu=>(aa u hu).trans (NH u hu)) K ax
 .intro u hu x an;rw[NH u hu]at an;exact a3 u hu x an
 .intro ar u hu;rw[NH u hu];exact a4 ar u hu
 .rw[<-VK];exact aT
 .simp only[sI,List.foldl_cons];rw[VK]
theorem afI {ros:List cq} {e:Nat×fJ×List hW} {post:List (Nat×fJ×List hW)}:∀(pre:List (Nat×fJ×List hW)) (s:al),xI C ros s (pre++e::post)->(∀a∈pre,zi a.2.1 e.2.1=true)->
  xI C ros s (e::(pre++post))/\sI s (e::(pre++post))=sI s (pre++e::post):=by
 intro pre;induction pre with
 |nil=>intro s h _;exact⟨h,rfl⟩
 |cons a pre ih=>
  intro s h ai;obtain⟨ad,ae⟩:=h;obtain⟨g1,g2⟩:=ih _ ae λb ab=>ai b (by simp[ab]);have ar:xI C ros s (a::e::(pre++post)):=⟨ad,g1⟩
  obtain⟨b1,cK⟩:=afG ar (ai a (by simp));refine⟨b1,cK.trans ?_⟩;simp only[sI,List.foldl_cons,List.cons_append]at g2⊢;exact g2
end
def EZ:azd->azd->azd
 |done,[]=>done
 |done,a::r=>EZ (done++[a++a.flatMap λe=>(done[e]?).getD []]) r
def nn (c7:azd):azd:=EZ [] c7
theorem afJ {c7:azd} {l:azf} (aC:∀u i v,l=u++i::v->∀e∈(c7[i]?).getD [],e∈u):∀(rest pre done:azd),c7=pre++rest->done.length=pre.length->
  (∀u i v,l=u++i::v->∀e∈(done[i]?).getD [],e∈u)->∀u i v,l=u++i::v->∀e∈((EZ done rest)[i]?).getD [],e∈u:=by
 intro rest;induction rest with
 |nil=>intro pre done _ _ h;exact h
 |cons a rest ih=>
  intro pre done VL hlen h;simp only[EZ];refine ih (pre++[a]) _ (by simp[VL]) (by simp[hlen]) ?_;intro u i v hu e he;by_cases ai:i<done.length
  .rw[List.getElem?_append_left ai]at he;exact h u i v hu e he
  .rw[List.getElem?_append_right (by omega)]at he;by_cases Ex:i-done.length=0
   .rw[Ex]at he;simp only[List.getElem?_cons_zero,Option.getD_some,List.mem_append,List.mem_flatMap]at he;have IC:(c7[i]?).getD []=a:=by
     have:i=pre.length:=by omega
     rw[VL,this,List.getElem?_append_right (Nat.le_refl _)];simp
    rcases he with he|⟨hi,qo,he⟩
    .exact aC u i v hu e (by rw[IC];exact he)
    .have EB:=aC u i v hu hi (by rw[IC];exact qo);obtain⟨vN,ra,rfl⟩:=List.append_of_mem EB;have:=h vN hi (ra++i::v) (by rw[hu];simp) e he;simp[this]
   .rw[List.getElem?_eq_none (by simp;omega)]at he;simp at he
theorem afK {c7:azd} {l:azf} (aC:∀u i v,l=u++i::v->∀e∈(c7[i]?).getD [],e∈u):∀u i v,l=u++i::v->∀e∈((nn c7)[i]?).getD [],e∈u:=
 afJ aC c7 [] [] rfl rfl λu i v _ e he=>by simp at he
def kl (pO:azd):Nat->List (Nat×fJ)->List fJ->Bool
 |_,_,[]=>true
 |j,es,f::aE=>(es.all λe=>((pO[j]?).getD []).contains e.1||zi e.2 f)&&kl pO (j+1) ((j,f)::es) aE
def NI (pO:azd) (a b:Nat×fJ×List hW):Prop:=a.1∈(pO[b.1]?).getD []\/zi a.2.1 b.2.1=true
theorem afL {pO:azd}:∀(iL:List (Nat×fJ×List hW)) (j:Nat) (es:List (Nat×fJ)),iL.map (·.1)=(List.range iL.length).map (·+j)->kl pO j es (iL.map (·.2.1))=true->
  iL.Pairwise (NI pO)/\∀e∈es,∀b∈iL,e.1∈(pO[b.1]?).getD []\/zi e.2 b.2.1=true:=by
 intro iL;induction iL with
 |nil=>intro j es _ _;exact⟨.nil,λe _ b ab=>by cases ab⟩
 |cons a iL ih=>
  intro j es zj gH;rw[List.length_cons,List.range_succ_eq_map,List.map_cons,List.map_cons,List.map_map]at zj;simp only[List.cons.injEq,Nat.zero_add]at zj;obtain⟨bJ,zj⟩:=zj;simp only[List.map_cons,kl,Bool.and_eq_true,List.all_eq_true,Bool.or_eq_true]at gH;obtain⟨ad,ae⟩:=gH;obtain⟨g1,g2⟩:=ih (j+1) _ (by rw[zj];congr 1;funext x;simp;omega) ae;refine⟨.cons (λb ab=>?_) g1,λe he b ab=>?_⟩
  .have:=g2 (j,a.2.1) (by simp) b ab;simp only[NI,bJ];exact this
  .rcases List.mem_cons.1 ab with rfl|ab
   .rw[bJ];exact(ad e he).imp (λh=>by simpa using h) id
   .exact g2 e (by simp[he]) b ab
section
variable {C:cl}
theorem afM {K:Option (List fJ)->al->Prop}:∀(os pre:List cq) (s:al) (acc:List fJ),dE C s os (some acc) K->
  ∃iL,xI C (pre++os) s iL/\iL.map (·.1)=(List.range os.length).map (·+pre.length)/\K (some ((iL.map (·.2.1)).reverse++acc)) (sI s iL):=by
 intro os;induction os with
 |nil=>intro pre s acc h;exact⟨[],trivial,rfl,h⟩
 |cons o os ih=>
  intro pre s acc h;obtain⟨nm,ms,ad,ae⟩:=afF h;obtain⟨iL,g1,g2,g3⟩:=ih (pre++[o]) _ (nm::acc) ad;refine⟨(pre.length,nm,ms)::iL,⟨⟨o,?_,ae⟩,?_⟩,?_,?_⟩
  .rw[List.getElem?_append_right (Nat.le_refl _)];simp
  .simpa using g1
  .rw[List.length_cons,List.range_succ_eq_map,List.map_cons,List.map_cons,List.map_map,g2];simp only[List.cons.injEq,Nat.zero_add,true_and];congr 1;funext x;simp;omega
  .simpa [sI]using g3
theorem afN {ros:List cq} {pO:azd} {K:al->Prop}:∀(l:azf) (iL:List (Nat×fJ×List hW)) (s:al),xI C ros s iL->iL.Pairwise (NI pO)->l.Nodup->(iL.map (·.1)).Nodup->
  (∀i,i∈l↔i∈iL.map (·.1))->(∀u i v,l=u++i::v->∀e∈(pO[i]?).getD [],e∈iL.map (·.1)->e∈u)->K (sI s iL)->kI C ros s l K:=by
 intro l;induction l with
 |nil=>
  intro iL s _ _ _ _ hm _ ax;cases iL with
  |nil=>exact ax
  |cons e iL=>have:=(hm e.1).2 (by simp);cases this
 |cons i l ih=>
  intro iL s ar ay aR oG hm bL ax;obtain⟨e,he,ai⟩:=List.mem_map.1 ((hm i).1 (by simp));obtain⟨pre,post,rfl⟩:=List.append_of_mem he;have afO:∀a∈pre,zi a.2.1 e.2.1=true:=by
   intro a bl;have aT:=(List.pairwise_append.1 ay).2.2 a bl e (by simp);rcases aT with aT|aT
   .rw[ai]at aT;have:=bL [] i l rfl a.1 aT (by simp only[List.map_append,List.mem_append,List.mem_map];exact .inl ⟨a,bl,rfl⟩);cases this
   .exact aT
  obtain⟨g1,g2⟩:=afI pre s ar afO;obtain⟨⟨o,afP,ID⟩,g3⟩:=g1;have VM:i∉(pre++post).map (·.1):=by
   have:(pre.map (·.1)++e.1::post.map (·.1)).Nodup:=by simpa using oG
   have bD:=(List.perm_middle.nodup_iff.1 this)
   rw[List.nodup_cons]at bD;rw[<-ai];simpa using bD.1
  simp only[kI];rw[<-ai,afP];refine ID.1 s (λ_ _=>rfl) _ ?_;rw[List.nodup_cons]at aR;refine ih (pre++post) _ g3 ?_ aR.2 ?_ ?_ ?_ ?_
  .exact ay.sublist ((List.Sublist.refl pre).append (List.sublist_cons_self e post))
  .have:(pre.map (·.1)++e.1::post.map (·.1)).Nodup:=by simpa using oG
   have bD:=(List.perm_middle.nodup_iff.1 this)
   rw[List.nodup_cons]at bD;simpa using bD.2
  .intro j;constructor
   .intro bJ;have ad:=(hm j).1 (by simp[bJ]);simp only[List.map_append,List.map_cons,List.mem_append,List.mem_cons]at ad⊢;rcases ad with ad|rfl|ad
    .exact .inl ad
    .exact(aR.1 (ai▸bJ)).elim
    .exact .inr ad
   .intro bJ;have ad:=(hm j).2 (by
     simp only[List.map_append,List.map_cons,List.mem_append,List.mem_cons]at bJ⊢;exact bJ.imp id .inr)
    rcases List.mem_cons.1 ad with rfl|ad
    .exact(VM bJ).elim
    .exact ad
  .intro u j v hu x an NJ;have ad:=bL (i::u) j v (by rw[hu];rfl) x an (by
    simp only[List.map_append,List.map_cons,List.mem_append,List.mem_cons]at NJ⊢;exact NJ.imp id .inr)
   rcases List.mem_cons.1 ad with rfl|ad
   .exact(VM NJ).elim
   .exact ad
  .have:sI s (e::(pre++post))=sI (eL e.2.2 s) (pre++post):=rfl;rw[<-this,g2];exact ax
theorem IE {ros:List cq} {c7:azd} {s:al} {K:al->Prop} (hlen:c7.length=ros.length)
  (h:dE C s ros (some []) (λacc s=>kl (nn c7) 0 [] (acc.getD []).reverse=true/\K s)):∀l,sG c7 l->kI C ros s l K:=by
 intro l ⟨hJ,l2,ED⟩;obtain⟨iL,g1,g2,g3,g4⟩:=afM ros [] s [] h;simp only[List.nil_append,List.append_nil,List.length_nil,Option.getD_some,List.reverse_reverse]at g1 g2 g3;have aC:iL.length=ros.length:=by have:=congrArg List.length g2;simpa using this
 have zj:iL.map (·.1)=(List.range iL.length).map (·+0):=by rw[g2,aC]
 have aT:iL.map (·.1)=List.range ros.length:=by rw[g2];simp
 obtain⟨hs,_⟩:=afL iL 0 [] zj g3;refine afN l iL s g1 hs hJ (by rw[aT];exact List.nodup_range) (λi=>?_) (λu i v hu e he _=>afK ED u i v hu e he) g4;rw[aT,l2,hlen,List.mem_range]
end
def pg (C:cl) (dst:Option Nat) (os:List cq) (K:Option (List fJ)->al->Prop):Option (I×al)->Prop
 |some (av,s1)=>dE C (fin s1 dst av) os none K
 |none=>False
def ph (C:cl) (l:azj) (dN dD:azf) (dst:Option Nat) (os:List cq) (a:List fJ) (K:Option (List fJ)->al->Prop):Option (I×al)->Prop
 |some (av,s1)=>dE C (fin s1 dst av) os (some (kK (aq l) dN dst dD av::a)) K
 |none=>False
def kZ (C:cl) (l:azj) (dst:Option Nat) (bU:eS) (t:Nat) (b:Bool) (os:List cq) (acc:Option (List fJ)) (K:Option (List fJ)->al->Prop):I->Prop
 | .bool gO=>if gO=b then q_ C (aq l) bU (λdD av s1=>dE C (fin s1 dst av) os (ub acc (kK (aq l) (t::use (aq l) bU) dst dD av)) K)else dE C (fin (aq l) dst (.tuple [])) os (ub acc (kK (aq l) [t] dst [] (.tuple []))) K
 | .tuple []=>dE C (fin (aq l) dst (.tuple [])) os (ub acc (kK (aq l) [t] dst [] (.tuple []))) K
 |_=>False
section
variable {C:cl} {l:azj} {os:List cq} {K:Option (List fJ)->al->Prop} {dst:Option Nat} {a:List fJ} {acc:Option (List fJ)}
theorem IF {s:al} {bU:eS} {K:azf->I->al->Prop} (aR:bU.jM=false):q_ C s bU K=(match b_ C s bU with
  |some (av,s1)=>K (lg s bU) av s1
  |none=>False):=by
 apply propext;constructor
 .intro h;cases bU<;>first
   |(simp[eS.jM]at aR;done)
   |(obtain⟨av,s1,ad,ae⟩:=h;rw[ad];exact ae)
 .intro h;split at h
  .rename_i av s1 he;cases bU<;>first
    |(simp[eS.jM]at aR;done)
    |exact⟨av,s1,he,h⟩
  .exact h.elim
theorem VN:dE C (aq l) [] acc K=K acc (aq l):=rfl
theorem xJ {bU:eS} (aR:bU.jM=false):dE C (aq l) (⟨dst,bU,none⟩::os) none K=pg C dst os K (b_ C (aq l) bU):=by
 simp only[dE,pe,ub];rw[IF aR];cases b_ C (aq l) bU with
 |none=>rfl
 |some p=>rfl
theorem xK {bU:eS} (aR:bU.jM=false):dE C (aq l) (⟨dst,bU,none⟩::os) (some a) K=ph C l (use (aq l) bU) (lg (aq l) bU) dst os a K (b_ C (aq l) bU):=by
 simp only[dE,pe,ub];rw[IF aR];cases b_ C (aq l) bU with
 |none=>rfl
 |some p=>rfl
theorem VO {bU:eS} {t:Nat} {b:Bool}:dE C (aq l) (⟨dst,bU,some (t,b)⟩::os) acc K=kZ C l dst bU t b os acc K (aq l t):=by
 simp only[dE,pe];generalize aq l t=v;cases v<;>first|rfl|(rename_i vs;cases vs<;>rfl)
theorem IG {bU:eS} {t:Nat} {b:Bool} (aR:bU.jM=false):kZ C l dst bU t b os none K (.bool b)=pg C dst os K (b_ C (aq l) bU):=by
 simp only[kZ,if_true];rw[IF aR];cases b_ C (aq l) bU with
 |none=>rfl
 |some p=>rfl
theorem IH {bU:eS} {t:Nat} {b:Bool} (aR:bU.jM=false):kZ C l dst bU t b os (some a) K (.bool b)=ph C l (t::use (aq l) bU) (lg (aq l) bU) dst os a K (b_ C (aq l) bU):=by
 simp only[kZ,if_true];rw[IF aR];cases b_ C (aq l) bU with
 |none=>rfl
 |some p=>rfl
theorem afQ {bU:eS} {t:Nat}:kZ C l dst bU t true os none K (.bool false)=dE C (fin (aq l) dst (.tuple [])) os none K/\kZ C l dst bU t false os none K (.bool true)=dE C (fin (aq l) dst (.tuple [])) os none K/\
  (∀b,kZ C l dst bU t b os none K (.tuple [])=dE C (fin (aq l) dst (.tuple [])) os none K):=⟨rfl,rfl,λ_=>rfl⟩
theorem afR {bU:eS} {t:Nat}:kZ C l dst bU t true os (some a) K (.bool false)=dE C (fin (aq l) dst (.tuple [])) os (some (kK (aq l) [t] dst [] (.tuple [])::a)) K/\
  kZ C l dst bU t false os (some a) K (.bool true)=dE C (fin (aq l) dst (.tuple [])) os (some (kK (aq l) [t] dst [] (.tuple [])::a)) K/\
  (∀b,kZ C l dst bU t b os (some a) K (.tuple [])=dE C (fin (aq l) dst (.tuple [])) os (some (kK (aq l) [t] dst [] (.tuple [])::a)) K):=⟨rfl,rfl,λ_=>rfl⟩
theorem afS (av:I) (s1:al):pg C dst os K (some (av,s1))=dE C (fin s1 dst av) os none K:=rfl
theorem afT (dN dD:azf) (av:I) (s1:al):ph C l dN dD dst os a K (some (av,s1))=dE C (fin s1 dst av) os (some (kK (aq l) dN dst dD av::a)) K:=rfl
def xL (s:al):I->Option (I×al)
 | .h y q=>dD s (.h y q)
 |d=>some (d,s)
def VP (s:al):I->I->I->Option (I×al)
 | .bool gO,x,y=>some (if gO then x else y,s)
 |_,_,_=>none
def lj (s:al):Option I->Option (I×al)
 |some d=>some (d,s)
 |none=>none
def dW:Option al->Option (I×al)
 |some s1=>some (.hole,s1)
 |none=>none
def l8 (s:al):List bE->azk
 |[]=>[]
 |x::xs=>bt s x::l8 s xs
def xM (s:al):List (Nat×bE)->azj
 |[]=>[]
 |(k,x)::xs=>(k,bt s x)::xM s xs
def E0 (s:al):Option bE->Option I
 |none=>none
 |some x=>some (bt s x)
theorem NK (s:al) (x:Option I):(x.map λd=>(d,s))=lj s x:=by cases x<;>rfl
theorem VQ (x:Option al):(x.map λs1=>(I.hole,s1))=dW x:=by cases x<;>rfl
theorem E1 (s:al):∀xs:List bE,xs.map (bt s)=l8 s xs
 |[]=>rfl
 |x::xs=>by simp only[List.map_cons,l8,E1 s xs]
theorem VR (s:al):∀xs:List (Nat×bE),(xs.map λp=>(p.1,bt s p.2))=xM s xs
 |[]=>rfl
 |(k,x)::xs=>by simp only[List.map_cons,xM,VR s xs]
theorem afU (s:al) (x:Option bE):x.map (bt s)=E0 s x:=by cases x<;>rfl
theorem VS:(∀x,eS.jM (.hV x)=false)/\
  (∀x,eS.jM (.h4 x)=false)/\
  (∀c x y,eS.jM (.pick c x y)=false)/\
  (∀T,eS.jM (.mL T)=false)/\
  (∀T x,eS.jM (.iG T x)=false)/\
  (∀T ps,eS.jM (.gm T ps)=false)/\
  (∀T n ps,eS.jM (.dS T n ps)=false)/\
  (∀T x,eS.jM (.fL T x)=false)/\
  (∀T x y,eS.jM (.kV T x y)=false)/\
  (∀x,eS.jM (.ml x)=false)/\
  (∀op T x y,eS.jM (.eG op T x y)=false)/\
  (∀op x,eS.jM (.un op x)=false)/\
  (∀A B x,eS.jM (.kW A B x)=false)/\
  (∀f cs,eS.jM (.o9 f cs)=false)/\
  (∀T x y,eS.jM (.fB T x y)=false)/\
  (∀T x fM ai,eS.jM (.iJ T x fM ai)=false)/\
  (∀T x k,eS.jM (.hP T x k)=false)/\
  (∀T x y,eS.jM (.kF T x y)=false)/\
  (∀T x y,eS.jM (.idx T x y)=false)/\
  (∀x k,eS.jM (.ex x k)=false)/\
  (∀T x,eS.jM (.len T x)=false)/\
  (∀T dN x y,eS.jM (.app T dN x y)=false):=by
 and_intros<;>intros<;>rfl
theorem VT:(∀x,b_ C (aq l) (.hV x)=some (bt (aq l) x,aq l))/\
  (∀x,b_ C (aq l) (.h4 x)=xL (aq l) (bt (aq l) x))/\
  (∀c x y,b_ C (aq l) (.pick c x y)=VP (aq l) (bt (aq l) c) (bt (aq l) x) (bt (aq l) y))/\
  (∀T,b_ C (aq l) (.mL T)=lj (aq l) (mL C T))/\
  (∀T x,b_ C (aq l) (.iG T x)=iG (aq l) (bt (aq l) x))/\
  (∀T ps,b_ C (aq l) (.gm T ps)=gm C (aq l) T (xM (aq l) ps))/\
  (∀T n ps,b_ C (aq l) (.dS T n ps)=dS C (aq l) T n (xM (aq l) ps))/\
  (∀T x,b_ C (aq l) (.fL T x)=lj (aq l) (fL C (aq l) T (bt (aq l) x)))/\
  (∀T x y,b_ C (aq l) (.kV T x y)=dW (kV C (aq l) T (bt (aq l) x) (bt (aq l) y)))/\
  (∀x,b_ C (aq l) (.ml x)=lj (aq l) (ml (aq l) (bt (aq l) x)))/\
  (∀op T x y,b_ C (aq l) (.eG op T x y)=lj (aq l) (eG C (aq l) op T (bt (aq l) x) (bt (aq l) y)))/\
  (∀op x,b_ C (aq l) (.un op x)=lj (aq l) (un op (bt (aq l) x)))/\
  (∀A B x,b_ C (aq l) (.kW A B x)=lj (aq l) (kW C (aq l) A B (bt (aq l) x)))/\
  (∀f cs,b_ C (aq l) (.o9 f cs)=some (.fn f (l8 (aq l) cs),aq l))/\
  (∀T x y,b_ C (aq l) (.fB T x y)=lj (aq l) (fB C T (bt (aq l) x) (bt (aq l) y)))/\
  (∀T x fM ai,b_ C (aq l) (.iJ T x fM ai)=iJ C (aq l) T (bt (aq l) x) (E0 (aq l) fM) (E0 (aq l) ai))/\
  (∀T x k,b_ C (aq l) (.hP T x k)=lj (aq l) (hP C (aq l) T (bt (aq l) x) k))/\
  (∀T x y,b_ C (aq l) (.kF T x y)=lj (aq l) (kF C (aq l) T (bt (aq l) x) (bt (aq l) y)))/\
  (∀T x y,b_ C (aq l) (.idx T x y)=lj (aq l) (idx C T (bt (aq l) x) (bt (aq l) y)))/\
  (∀x k,b_ C (aq l) (.ex x k)=lj (aq l) (ex (aq l) (bt (aq l) x) k))/\
  (∀T x,b_ C (aq l) (.len T x)=lj (aq l) (vA C (aq l) T (bt (aq l) x)))/\
  (∀T dN x y,b_ C (aq l) (.app T dN x y)=vE C (aq l) T dN (bt (aq l) x) (bt (aq l) y)):=by
 and_intros<;>intros<;>first|rfl|(simp only[b_,NK,VQ,VR,E1,afU];done)|(simp only[b_];cases bt (aq l) _<;>first|rfl|(rename_i b;cases b<;>rfl))
end
theorem VU:∀t d,vw t d=if I.plain d=true then d else .h t []:=λ_ _=>rfl
theorem VV:(∀l av,fin (aq l) none av=aq l)/\(∀l t av,fin (aq l) (some t) av=aq ((t,av)::if I.plain av=true then l else vK t l)):=
 ⟨λ_ _=>rfl,λl t av=>by
  simp only[fin];split
  .rw[Ix]
  .rw[NC,Ix]⟩
theorem VW:
  (∀k n,I.plain (.int k n)=true)/\
  (∀b,I.plain (.bool b)=true)/\
  (∀x,I.plain (.str x)=true)/\
  (∀xs,I.plain (.slice xs)=true)/\
  (∀d,I.plain (.ref d)=true)/\
  (∀f cap,I.plain (.fn f cap)=true)/\
  (∀x q,I.plain (.h x q)=true)/\
  (∀x q,I.plain (.ay x q)=true)/\
  (I.plain .eh=true)/\
  (I.plain .a8=true)/\
  (I.plain .gA=true)/\
  (I.plain .hole=true)/\
  (∀sz xs,I.plain (.ak sz xs)=false)/\
  (∀d,I.plain (.aQ d)=false)/\
  (∀aE,I.plain (.agg aE)=I.hA aE)/\
  (∀aE,I.plain (.tuple aE)=I.hA aE)/\
  (I.hA []=true)/\
  (∀d ds,I.hA (d::ds)=(d.plain&&I.hA ds)):=
 ⟨λ_ _=>rfl,λ_=>rfl,λ_=>rfl,λ_=>rfl,λ_=>rfl,λ_ _=>rfl,λ_ _=>rfl,λ_ _=>rfl,rfl,rfl,rfl,rfl,λ_ _=>rfl,λ_=>rfl,λ_=>rfl,λ_=>rfl,rfl,λ_ _=>rfl⟩
theorem VX:∀s d,xL s d=match d with| .h y q=>dD s (.h y q)|d=>some (d,s):=λ_ _=>by unfold xL;rfl
theorem VY:
  (∀t k n,dw t (.int k n)=(.int k n))/\
  (∀t b,dw t (.bool b)=(.bool b))/\
  (∀t x,dw t (.str x)=(.str x))/\
  (∀t xs,dw t (.slice xs)=(.slice xs))/\
  (∀t d,dw t (.ref d)=(.ref d))/\
  (∀t,dw t .eh= .eh)/\
  (∀t,dw t .a8= .a8)/\
  (∀t,dw t .gA= .gA)/\
  (∀t,dw t .hole= .hole)/\
  (∀t sz xs,dw t (.ak sz xs)=(.ak sz xs))/\
  (∀t d,dw t (.aQ d)=(.aQ d))/\
  (∀t aE,dw t (.agg aE)=(.agg aE))/\
  (∀t aE,dw t (.tuple aE)=(.tuple aE))/\
  (∀t y q,dw t (.h y q)=if y=t then .hole else .h y q)/\
  (∀t y q,dw t (.ay y q)=if y=t then .hole else .ay y q)/\
  (∀t f c,dw t (.fn f c)= .fn f (la t c))/\
  (∀t,la t []=[])/\
  (∀t d ds,la t (d::ds)=dw t d::la t ds)/\
  (∀t,vK t []=[])/\
  (∀t u d l,vK t ((u,d)::l)=(u,dw t d)::vK t l)/\
  (∀t l,oA t (aq l)=aq (vK t l)):=
 ⟨λ_ _ _=>by unfold dw;rfl,λ_ _=>by unfold dw;rfl,λ_ _=>by unfold dw;rfl,λ_ _=>by unfold dw;rfl,λ_ _=>by unfold dw;rfl,λ_=>by unfold dw;rfl,λ_=>by unfold dw;rfl,λ_=>by unfold dw;rfl,λ_=>by unfold dw;rfl,λ_ _ _=>by unfold dw;rfl,λ_ _=>by unfold dw;rfl,λ_ _=>by unfold dw;rfl,λ_ _=>by unfold dw;rfl,λ_ _ _=>by unfold dw;rfl,λ_ _ _=>by unfold dw;rfl,λ_ _ _=>by simp only[dw],λ_=>by simp only[la],λ_ _ _=>by simp only[la],λ_=>rfl,λ_ _ _ _=>rfl,λt l=>NC t l⟩
theorem VZ:
  (∀t k n,cG t (.int k n)=(.int k n))/\
  (∀t b,cG t (.bool b)=(.bool b))/\
  (∀t x,cG t (.str x)=(.str x))/\
  (∀t xs,cG t (.slice xs)=(.slice xs))/\
  (∀t d,cG t (.ref d)=(.ref d))/\
  (∀t,cG t .eh= .eh)/\
  (∀t,cG t .a8= .a8)/\
  (∀t,cG t .gA= .gA)/\
  (∀t,cG t .hole= .hole)/\
  (∀t sz xs,cG t (.ak sz xs)=(.ak sz xs))/\
  (∀t d,cG t (.aQ d)=(.aQ d))/\
  (∀t aE,cG t (.agg aE)=(.agg aE))/\
  (∀t aE,cG t (.tuple aE)=(.tuple aE))/\
  (∀t y,cG t (.h y [])= .h y [])/\
  (∀t y k q,cG t (.h y (k::q))=if y=t then .hole else .h y (k::q))/\
  (∀t y q,cG t (.ay y q)=if y=t then .hole else .ay y q)/\
  (∀t f c,cG t (.fn f c)= .fn f (kD t c))/\
  (∀t,kD t []=[])/\
  (∀t d ds,kD t (d::ds)=cG t d::kD t ds)/\
  (∀t,zf t []=[])/\
  (∀t u d l,zf t ((u,d)::l)=(u,cG t d)::zf t l)/\
  (∀t l,jc t (aq l)=aq (zf t l)):=
 ⟨λ_ _ _=>by unfold cG;rfl,λ_ _=>by unfold cG;rfl,λ_ _=>by unfold cG;rfl,λ_ _=>by unfold cG;rfl,λ_ _=>by unfold cG;rfl,λ_=>by unfold cG;rfl,λ_=>by unfold cG;rfl,λ_=>by unfold cG;rfl,λ_=>by unfold cG;rfl,λ_ _ _=>by unfold cG;rfl,λ_ _=>by unfold cG;rfl,λ_ _=>by unfold cG;rfl,λ_ _=>by unfold cG;rfl,λ_ _=>by simp[cG],λ_ _ _ _=>by simp[cG],λ_ _ _=>by unfold cG;rfl,λ_ _ _=>by simp only[cG],λ_=>by simp only[kD],λ_ _ _=>by simp only[kD],λ_=>rfl,λ_ _ _ _=>rfl,λt l=>afk t l⟩
def NL:qe->Bool->Option I
 | .bool,b=>some (.bool b)
 |_,_=>none
def xN (neg:Bool):qe->Option azg->Option I
 | .slice _,some r=>some (sr neg r)
 |_,_=>none
def zk (neg:Bool):qe->azg->Option I
 | .ptr _,some b=>some (.bool (b !=neg))
 |_,_=>none
theorem V0 (C:cl) (s:al) (T:TypeId):
  (∀op k a da b,eG C s op T (.int k a) (.int da b)=j3 op k a da b)/\
  (∀op a b,eG C s op T (.str a) (.str b)=qh op a b)/\
  (∀a b,eG C s .eql T (.bool a) (.bool b)=NL (C.T T).k (a==b))/\
  (∀a b,eG C s .neq T (.bool a) (.bool b)=NL (C.T T).k (!(a==b)))/\
  (∀xs,eG C s .eql T (.slice xs) .a8=xN false (C.T T).k (l5 s (.slice xs)))/\
  (∀xs,eG C s .neq T (.slice xs) .a8=xN true (C.T T).k (l5 s (.slice xs)))/\
  (eG C s .eql T .a8 .a8=xN false (C.T T).k (l5 s .a8))/\
  (eG C s .neq T .a8 .a8=xN true (C.T T).k (l5 s .a8))/\
  (∀x q,eG C s .eql T (.h x q) .a8=xN false (C.T T).k (l5 s (.h x q)))/\
  (∀x q,eG C s .neq T (.h x q) .a8=xN true (C.T T).k (l5 s (.h x q)))/\
  (∀x q,eG C s .eql T (.h x q) .eh=zk false (C.T T).k (nY s (.h x q)))/\
  (∀x q,eG C s .neq T (.h x q) .eh=zk true (C.T T).k (nY s (.h x q)))/\
  (∀d,eG C s .eql T (.ref d) .eh=zk false (C.T T).k (nY s (.ref d)))/\
  (∀d,eG C s .neq T (.ref d) .eh=zk true (C.T T).k (nY s (.ref d)))/\
  (eG C s .eql T .eh .eh=zk false (C.T T).k (nY s .eh))/\
  (eG C s .neq T .eh .eh=zk true (C.T T).k (nY s .eh)):=by
 refine⟨?_,?_,?_,?_,?_,?_,?_,?_,?_,?_,?_,?_,?_,?_,?_,?_⟩<;>intros<;>first
  |rfl
  |(simp only[eG]
    generalize (C.T T).k=nX;cases nX<;>first|rfl|(simp only[xN];generalize l5 s _=v;cases v<;>rfl)|(simp only[zk];generalize nY s _=v;cases v<;>(try (rename_i b;cases b))<;>rfl))
theorem V1 (k:IntKind) (a b:Int):
  j3 .add k a k b=some (.int k (k.wrap (a+b)))/\j3 .sub k a k b=some (.int k (k.wrap (a-b)))/\j3 .mul k a k b=some (.int k (k.wrap (a*b)))/\
  j3 .eql k a k b=some (.bool (a==b))/\j3 .neq k a k b=some (.bool (a !=b))/\j3 .lss k a k b=some (.bool (decide (a<b)))/\j3 .leq k a k b=some (.bool (decide (a<=b)))/\
  j3 .gtr k a k b=some (.bool (decide (b<a)))/\j3 .geq k a k b=some (.bool (decide (b<=a)))/\
  j3 .and k a k b=some (.int k (bitsOf .and k a b))/\j3 .or k a k b=some (.int k (bitsOf .or k a b))/\j3 .xor k a k b=some (.int k (bitsOf .xor k a b))/\j3 .andNot k a k b=some (.int k (bitsOf .andNot k a b)):=by
 simp[j3]
theorem afV {k:IntKind} {a b:Int} (h:b≠0):j3 .quo k a k b=some (.int k (k.wrap (a.tdiv b))):=by simp[j3,h]
theorem afW {k:IntKind} {a b:Int} (h:b≠0):j3 .rem k a k b=some (.int k (a.tmod b)):=by simp[j3,h]
theorem afX {k da:IntKind} {a b:Int} (h:¬b<0):j3 .shl k a da b=some (.int k (k.wrap (a*2^(min b.toNat k.bits)))):=by simp[j3,h]
theorem uc {b:Int} {u:Unit} (h:A2 b=some u):b≠0:=by unfold A2 at h;split at h<;>simp_all
theorem V2 (a b:azc):
  qh .eql a b=some (.bool (a==b))/\qh .neq a b=some (.bool !(a==b))/\qh .lss a b=some (.bool (Op.bytesLess a b))/\
  qh .leq a b=some (.bool (Op.bytesLess a b||a==b))/\qh .gtr a b=some (.bool !(Op.bytesLess a b||a==b))/\qh .geq a b=some (.bool !(Op.bytesLess a b)):=by
 refine⟨rfl,rfl,rfl,rfl,rfl,rfl⟩
theorem V3:(∀b,un .not (.bool b)=some (.bool !b))/\(un .not .gA=some .gA)/\(∀k n,un .neg (.int k n)=some (.int k (k.wrap (0-n)))):=⟨λ_=>rfl,rfl,λ_ _=>rfl⟩
def NM:qe->Option UInt8->Option I
 | .str,some c=>some (.int .u8 c.toNat)
 |_,_=>none
theorem V4 (C:cl) (T:TypeId) (l:azc) (k:IntKind) (n:Int):idx C T (.str l) (.int k n)=NM (C.T T).k (bk l n):=by
 simp only[idx,bk];generalize (C.T T).k=nX;cases nX<;>first|rfl|(simp only[NM];split<;>first|rfl|(cases l[n.toNat]? <;>rfl))
def NN (C:cl):qe->Option I->Option I
 | .slice e,some d=>if(C.T e).ok=true/\d.wd=(C.T e).sz then some (.ref d)else none
 |_,_=>none
theorem V5 (C:cl) (s:al) (T:TypeId) (xs:azk) (k:IntKind) (n:Int):kF C s T (.slice xs) (.int k n)=NN C (C.T T).k (bk xs n):=by
 simp only[kF,bk];generalize (C.T T).k=nX;cases nX<;>first|rfl|skip
 simp only[NN];by_cases a7:0<=n
 .simp only[a7,true_and,if_true];split
  .cases xs[n.toNat]? <;>simp[*]
  .cases xs[n.toNat]? <;>simp[*]
 .simp only[a7,false_and,if_false]
def E2 (C:cl) (y:Nat) (q:azf) (n:Int):qe->Option I->Option I
 | .slice e,some (.ak sz xs)=>if(bk xs n).isSome=true/\(C.T e).ok=true/\sz=(C.T e).sz then some (.ay y (q++[n.toNat]))else none
 |_,_=>none
theorem V6 (C:cl) (s:al) (T:TypeId) (y:Nat) (q:azf) (k:IntKind) (n:Int):kF C s T (.h y q) (.int k n)=E2 C y q n (C.T T).k (I.sub q (s y)):=by
 simp only[kF];generalize (C.T T).k=nX;cases nX<;>first|rfl|skip
 rename_i e;cases aa:I.sub q (s y)with
 |none=>simp[E2]
 |some d=>
  cases d<;>first
   |(simp[E2];done)
   |skip
  rename_i sz xs;have hg:(bk xs n).isSome=true↔0<=n/\n.toNat<xs.length:=by
   unfold bk;split<;>simp_all<;>omega
  simp only[E2,hg];by_cases a7:0<=n<;>by_cases ad:(C.T e).ok=true<;>simp[a7,ad]
def Bx:qe->al->Option azc->Option (I×al)
 | .str,s,some t=>some (.str t,s)
 |_,_,_=>none
def Bz (C:cl):qe->al->azk->Option azk->Option (I×al)
 | .slice e,s,xs,some t=>if(C.T e).ok=true/\∀d∈xs,d.wd=(C.T e).sz then some (.slice t,s)else none
 |_,_,_,_=>none
theorem V7 (C:cl) (s:al) (T:TypeId) (l:azc):
  (∀k a da b,iJ C s T (.str l) (some (.int k a)) (some (.int da b))=Bx (C.T T).k s (gz l a b))/\
  (∀da b,iJ C s T (.str l) none (some (.int da b))=Bx (C.T T).k s (gz l 0 b))/\
  (∀k a,iJ C s T (.str l) (some (.int k a)) none=Bx (C.T T).k s (gz l a l.length)):=by
 have e:∀(fM ai:Option I) (a b:Int),(jE 0 fM=if 0<=a then some a.toNat else none)->(jE l.length ai=if 0<=b then some b.toNat else none)->iJ C s T (.str l) fM ai=Bx (C.T T).k s (gz l a b):=by
  intro fM ai a b ad ae;simp only[iJ];generalize (C.T T).k=nX;cases nX<;>first|rfl|skip
  simp only[ad,ae,gz];by_cases bl:0<=a<;>by_cases ab:0<=b<;>simp only[bl,ab,if_true,if_false,Bx,true_and,false_and]
  .by_cases ar:a<=b/\b<=l.length
   .rw[if_pos ⟨by omega,by omega⟩,if_pos ar]
   .rw[if_neg (λh=>ar ⟨by omega,by omega⟩),if_neg ar]
  .rw[if_neg (by omega)]
 exact⟨λk a da b=>e _ _ a b rfl rfl,λda b=>e _ _ 0 b rfl rfl,λk a=>e _ _ a l.length rfl (by simp[jE])⟩
theorem V8 (C:cl) (s:al) (T:TypeId) (xs:azk):
  (∀k a da b,iJ C s T (.slice xs) (some (.int k a)) (some (.int da b))=Bz C (C.T T).k s xs (gz xs a b))/\
  (∀da b,iJ C s T (.slice xs) none (some (.int da b))=Bz C (C.T T).k s xs (gz xs 0 b))/\
  (∀k a,iJ C s T (.slice xs) (some (.int k a)) none=Bz C (C.T T).k s xs (gz xs a xs.length)):=by
 have e:∀(fM ai:Option I) (a b:Int),(jE 0 fM=if 0<=a then some a.toNat else none)->(jE xs.length ai=if 0<=b then some b.toNat else none)->iJ C s T (.slice xs) fM ai=Bz C (C.T T).k s xs (gz xs a b):=by
  intro fM ai a b ad ae;simp only[iJ];generalize (C.T T).k=nX;cases nX<;>first|rfl|skip
  simp only[ad,ae,gz];by_cases bl:0<=a<;>by_cases ab:0<=b<;>simp only[bl,ab,if_true,if_false,Bz,true_and,false_and]
  .by_cases ar:a<=b/\b<=xs.length
   .rw[if_pos ar];have ad:a.toNat<=b.toNat:=by omega
    have ae:b.toNat<=xs.length:=by omega
    simp only[ad,ae,true_and]
   .rw[if_neg (λh=>ar ⟨by omega,by omega⟩),if_neg ar]
  .rw[if_neg (by omega)]
 exact⟨λk a da b=>e _ _ a b rfl rfl,λda b=>e _ _ 0 b rfl rfl,λk a=>e _ _ a xs.length rfl (by simp[jE])⟩
def E3 (q:azf):Option I->Option I
 |some d=>I.sub q d
 |none=>none
theorem V9:(∀d,I.sub [] d=some d)/\(∀k q aE,I.sub (k::q) (.agg aE)=E3 q aE[k]?)/\(∀k q aE,I.sub (k::q) (.tuple aE)=E3 q aE[k]?)/\(∀k q sz xs,I.sub (k::q) (.ak sz xs)=E3 q xs[k]?)/\
  (∀q d,I.sub (0::q) (.aQ d)=I.sub q d)/\(∀q d,E3 q (some d)=I.sub q d)/\
  (∀k q a b,I.sub (k::q) (.int a b)=none):=by
 refine⟨λd=>by simp[I.sub],?_,?_,?_,λq d=>by simp[I.sub],λ_ _=>rfl,λ_ _ _ _=>by simp[I.sub]⟩
 .intro k q aE;simp only[I.sub];cases aE[k]? <;>rfl
 .intro k q aE;simp only[I.sub];cases aE[k]? <;>rfl
 .intro k q sz aE;simp only[I.sub];cases aE[k]? <;>rfl
def V_ (k:Nat) (q:azf) (n:I) (aE:azk):Option I->I
 |some d=>.agg (aE.set k (I.put q n d))
 |none=>.agg aE
def iM (k:Nat) (q:azf) (n:I) (aE:azk):Option I->I
 |some d=>.tuple (aE.set k (I.put q n d))
 |none=>.tuple aE
def Wa (k:Nat) (q:azf) (n:I) (sz:Nat) (xs:azk):Option I->I
 |some d=>.ak sz (xs.set k (I.put q n d))
 |none=>.ak sz xs
theorem Wb:(∀n d,I.put [] n d=n)/\(∀k q n aE,I.put (k::q) n (.agg aE)=V_ k q n aE aE[k]?)/\(∀k q n aE,I.put (k::q) n (.tuple aE)=iM k q n aE aE[k]?)/\
  (∀k q n sz xs,I.put (k::q) n (.ak sz xs)=Wa k q n sz xs xs[k]?)/\(∀q n d,I.put (0::q) n (.aQ d)= .aQ (I.put q n d))/\
  (∀k q n aE d,V_ k q n aE (some d)= .agg (aE.set k (I.put q n d)))/\(∀k q n aE d,iM k q n aE (some d)= .tuple (aE.set k (I.put q n d)))/\
  (∀k q n sz xs d,Wa k q n sz xs (some d)= .ak sz (xs.set k (I.put q n d))):=by
 refine⟨λn d=>by simp[I.put],?_,?_,?_,λq n d=>by simp[I.put],λ_ _ _ _ _=>rfl,λ_ _ _ _ _=>rfl,λ_ _ _ _ _ _=>rfl⟩
 .intro k q n aE;simp only[I.put];cases aE[k]? <;>rfl
 .intro k q n aE;simp only[I.put];cases aE[k]? <;>rfl
 .intro k q n sz aE;simp only[I.put];cases aE[k]? <;>rfl
theorem NO:(∀k n,I.wd (.int k n)=1)/\(∀b,I.wd (.bool b)=1)/\(∀x,I.wd (.str x)=1)/\(∀x,I.wd (.slice x)=1)/\(∀n x,I.wd (.ak n x)=1)/\(∀x,I.wd (.ref x)=1)/\(∀x,I.wd (.aQ x)=1)/\
  I.wd .a8=1/\I.wd .eh=1/\I.wd .hole=1/\I.wd .gA=1/\(∀x y,I.wd (.h x y)=1)/\(∀x y,I.wd (.ay x y)=1)/\(∀x y,I.wd (.fn x y)=1)/\(∀aE,I.wd (.agg aE)=I.eZ aE)/\(∀aE,I.wd (.tuple aE)=I.eZ aE)/\I.eZ []=0/\(∀d ds,I.eZ (d::ds)=d.wd+I.eZ ds):=by
 simp[I.wd,I.eZ]
theorem NP (l:azc):(∀d∈l.map iR,d.wd=1)=True:=by simp[iR,I.wd]
theorem afY {α:Type} {e:α->I} {n:Nat} (h:∀x,(e x).wd=n) (xs:List α):(∀d∈xs.map e,d.wd=n)=True:=by
 simp only[List.mem_map,eq_iff_iff,iff_true];rintro d ⟨x,_,rfl⟩;exact h x
theorem afZ (C:cl) (s:al) (A B:TypeId) (k da:IntKind) (n:Int) (iS:(C.T A).ok=true) (iP:(C.T B).k= .int da):kW C s A B (.int k n)=some (.int da (da.wrap n)):=by
 simp only[kW,iS,iP,if_true]
theorem Wc (m:Int):iR (pG m)= .int .u8 (IntKind.u8.wrap m):=by
 have h:0<=IntKind.u8.wrap m/\IntKind.u8.wrap m<256:=by rw[IntKind.wrap_u8];omega
 simp only[iR,pG,UInt8.toNat_ofNat'];congr 1;omega
theorem NQ (m:Int):((pG m).toNat:Int)=IntKind.u8.wrap m:=by
 have h:=Wc m;simpa [iR]using h
section
variable {C:cl} {l:azj} {Q:Exit->al->Prop} {s:al}
theorem jg {ros:List cq} {k:azf} (h:dE C (aq l) ros none (λ_ s=>Q .normal (aq (ho k s)))):bj C (.en ros (some k)) Q (aq l):=zh (λ_ _ h=>h) h
theorem NR {ros:List cq} {c7:azd} {k:azf} (hlen:c7.length=ros.length) (h:dE C (aq l) ros (some []) (λacc s=>kl (nn c7) 0 [] (acc.getD []).reverse=true/\Q .normal (aq (ho k s)))):
  bj C (.jL ros c7 (some k)) Q (aq l):=IE hlen h
theorem af0 {a b:aB} (h:∀e4:Exit->al->Prop,(∀s,eI (bj C b Q) s->e4 .normal s)->(∀s,Q .ret s->e4 .ret s)->(∀i s,Q (.exit i) s->e4 (.exit i) s)->bj C a e4 s):bj C (.seq a b) Q s:=
 h _ (λ_ h=>h) (λ_ h=>h) (λ_ _ h=>h)
theorem eb {ros:List cq} {k:azf} {b:aB} (h:dE C (aq l) ros none (λ_ s=>bj C b Q (aq (ho k s)))):bj C (.seq (.en ros (some k)) b) Q (aq l):=zh (λ_ _ h=>.inl h) h
theorem iT {ros:List cq} {c7:azd} {k:azf} {b:aB} (hlen:c7.length=ros.length) (h:dE C (aq l) ros (some []) (λacc s=>kl (nn c7) 0 [] (acc.getD []).reverse=true/\bj C b Q (aq (ho k s)))):
  bj C (.seq (.jL ros c7 (some k)) b) Q (aq l):=IE (K:=λs=>eI (bj C b Q) (aq (ho k s))) hlen (by
   have key:∀(os:List cq) (s:al) (acc:Option (List fJ)),dE C s os acc (λacc s=>kl (nn c7) 0 [] (acc.getD []).reverse=true/\bj C b Q (aq (ho k s)))->
     dE C s os acc (λacc s=>kl (nn c7) 0 [] (acc.getD []).reverse=true/\eI (bj C b Q) (aq (ho k s))):=by
    intro os;induction os with
    |nil=>intro s acc h;exact⟨h.1,.inl h.2⟩
    |cons o os ih=>
     intro s acc h;have mono:∀{s:al} {bU:eS} {K ew:azf->I->al->Prop},(∀a b c,K a b c->ew a b c)->q_ C s bU K->q_ C s bU ew:=by
      intro s bU K ew ax h;cases bU with
      |call f args=>
       obtain⟨g,caps,ps,r,ad,kk,ae,aJ,bh,b2,dA,dC,hI⟩:=h;exact⟨g,caps,ps,r,ad,kk,ae,aJ,bh,b2,dA,dC,ax _ _ _ hI⟩
      |shr bU=>obtain⟨av,s1,ad,ae,aJ,bh⟩:=h;exact⟨av,s1,ad,ae,aJ,ax _ _ _ bh⟩
      |_=>obtain⟨av,s1,ad,ae⟩:=h;exact⟨av,s1,ad,ax _ _ _ ae⟩
     simp only[dE,pe]at h⊢;split
     .rename_i hg;rw[hg]at h;exact mono (λ_ _ _=>ih _ _) h
     .rename_i t gO hg;rw[hg]at h;simp only at h;split
      .rename_i aw9 aa;rw[aa]at h;simp only at h;split
       .rename_i ab;rw[if_pos ab]at h;exact mono (λ_ _ _=>ih _ _) h
       .rename_i ab;rw[if_neg ab]at h;exact ih _ _ h
      .rename_i aa;rw[aa]at h;exact ih _ _ h
      .rename_i ad ae;split at h
       .exact ad _ (by assumption)
       .exact ae (by assumption)
       .exact h
   exact key _ _ _ h)
theorem iU {c:bE} {a b:aB} (ar:bt s c= .bool true) (h:bj C a Q s):bj C (.cond c a b) Q s:=by simp only[bj,ar,if_true];exact h
theorem n4 {c:bE} {a b:aB} (ar:bt s c= .bool false) (h:bj C b Q s):bj C (.cond c a b) Q s:=by simp only[bj,ar];exact h
theorem af1 {c:bE} {a b:aB} (ar:bt s c= .gA) (ad:bj C a Q s) (ae:bj C b Q s):bj C (.cond c a b) Q s:=by simp only[bj,ar];exact⟨ad,ae⟩
theorem af2 {id:Nat} {b:aB} (h:∀e4:Exit->al->Prop,(∀s,Q .normal s->e4 .normal s)->(∀s,Q .ret s->e4 .ret s)->(∀s,Q .normal s->e4 (.exit id) s)->(∀i s,i≠id->Q (.exit i) s->e4 (.exit i) s)->bj C b e4 s):bj C (.block id b) Q s:=
 h (Bq id Q) (λ_ h=>h) (λ_ h=>h) (λs h=>by simp only[Bq,if_true];exact h) (λi s ai h=>by simp only[Bq,if_neg ai];exact h)
theorem cP {id:Nat} (h:Q (.exit id) s):bj C (.exit id) Q s:=h
theorem au (h:Q .ret s):bj C .ret Q s:=h
theorem aI (h:Q .normal s):bj C .skip Q s:=h
def cF (C:cl) (b:aB) (Q:Exit->al->Prop) (s:al):Prop:=∀Z:al->Prop,(∀aH,bj C b (andThen (eI Z) Q) aH->Z aH)->Z s
theorem cW {b:aB} (h:eI (cF C b Q) s):bj C (.loop b) Q s:=h
theorem af3 {b:aB} (h:∀e4:Exit->al->Prop,(∀s,eI (cF C b Q) s->e4 .normal s)->(∀s,Q .ret s->e4 .ret s)->(∀i s,Q (.exit i) s->e4 (.exit i) s)->bj C b e4 s):cF C b Q s:=by
 intro Z Bs;refine Bs s (Nu b ?_ (h (andThen (eI (cF C b Q)) Q) (λ_ h=>h) (λ_ h=>h) (λ_ _ h=>h)));intro e aH bD;cases e with
 |normal=>exact Br (λs h=>h Z Bs) aH bD
 |_=>exact bD
theorem aW {c_:azj} (h:c_.map (·.2)=c_.map λp=>s p.1):zd s c_:=by
 intro p ay;left;induction c_ with
 |nil=>cases ay
 |cons a c_ ih=>
  simp only[List.map_cons,List.cons.injEq]at h;rcases List.mem_cons.1 ay with rfl|ay
  .exact h.1
  .exact ih h.2 ay
end
section
variable {C:cl} {l:azj} {Q:Exit->al->Prop} {s:al} {os ros:List cq} {K:Option (List fJ)->al->Prop} {dst:Option Nat}
theorem Wd (l:azj):(∀n,bt (aq l) (.t n)=vw n (aq l n))/\(∀av,bt (aq l) (.c av)=av)/\(∀g,bt (aq l) (.f g)= .fn g []):=⟨λ_=>rfl,λ_=>rfl,λ_=>rfl⟩
theorem We:(∀t,aq [] t= .hole)/\(∀u d (l:azj) t,aq ((u,d)::l) t=if t=u then d else aq l t):=⟨λ_=>rfl,λ_ _ _ _=>rfl⟩
theorem Wf (s:al):ho [] s=[]/\(∀t k,ho (t::k) s=(t,s t)::ho k s):=⟨rfl,λ_ _=>rfl⟩
theorem Wg (s:al):(∀d,lj s (some d)=some (d,s))/\(∀s1,dW (some s1)=some (.hole,s1))/\l8 s []=[]/\(∀x xs,l8 s (x::xs)=bt s x::l8 s xs)/\xM s []=[]/\(∀k x xs,xM s ((k,x)::xs)=(k,bt s x)::xM s xs)/\
  E0 s none=none/\(∀x,E0 s (some x)=some (bt s x))/\(∀b x y,VP s (.bool b) x y=some (if b=true then x else y,s)):=
 ⟨λ_=>rfl,λ_=>rfl,rfl,λ_ _=>rfl,rfl,λ_ _ _=>rfl,rfl,λ_=>rfl,λb _ _=>by cases b<;>rfl⟩
theorem Wh (C:cl):(∀e d,NN C (.slice e) (some d)=if(C.T e).ok=true/\d.wd=(C.T e).sz then some (.ref d)else none)/\
  (∀y q n e sz xs,E2 C y q n (.slice e) (some (.ak sz xs))=if(bk xs n).isSome=true/\(C.T e).ok=true/\sz=(C.T e).sz then some (.ay y (q++[n.toNat]))else none)/\
  (∀e s xs t,Bz C (.slice e) s xs (some t)=if(C.T e).ok=true/\∀d∈xs,d.wd=(C.T e).sz then some (.slice t,s)else none):=
 ⟨λ_ _=>rfl,λ_ _ _ _ _ _=>rfl,λ_ _ _ _=>rfl⟩
theorem Wi:(∀b,NL .bool b=some (.bool b))/\(∀c,NM .str (some c)=some (.int .u8 c.toNat))/\(∀s t,Bx .str s (some t)=some (.str t,s))/\(∀q d,E3 q (some d)=I.sub q d):=
 ⟨λ_=>rfl,λ_=>rfl,λ_ _=>rfl,λ_ _=>rfl⟩
theorem Wj (sz bytes:Nat) (z:I):(∀k,hB.ok ⟨.int k,sz,bytes,z⟩=true)/\hB.ok ⟨.bool,sz,bytes,z⟩=true/\hB.ok ⟨.str,sz,bytes,z⟩=true/\(∀e,hB.ok ⟨.ptr e,sz,bytes,z⟩=true)/\(∀e,hB.ok ⟨.slice e,sz,bytes,z⟩=true)/\(∀e,hB.ok ⟨.struct e,sz,bytes,z⟩=true)/\hB.ok ⟨.fn,sz,bytes,z⟩=true:=by
 simp[hB.ok]
theorem Wk (sz bytes:Nat) (z:I):(∀k,hB.flat ⟨.int k,sz,bytes,z⟩=true)/\hB.flat ⟨.bool,sz,bytes,z⟩=true/\hB.flat ⟨.str,sz,bytes,z⟩=true/\(∀e,hB.flat ⟨.ptr e,sz,bytes,z⟩=true)/\(∀e,hB.flat ⟨.slice e,sz,bytes,z⟩=true)/\(∀e,hB.flat ⟨.struct e,sz,bytes,z⟩=false)/\hB.flat ⟨.fn,sz,bytes,z⟩=true:=by
 simp[hB.flat]
theorem E4 (c:UInt8) (k:IntKind) (ax:k≠.i8):k.wrap (c.toNat:Int)=(c.toNat:Int):=by
 have:=c.toNat_lt;cases k<;>first|(exact(ax rfl).elim)|(simp[IntKind.wrap,IntKind.bits,IntKind.signed];try omega)
theorem NS (c:UInt8):IntKind.i64.wrap (c.toNat:Int)=(c.toNat:Int)/\IntKind.u64.wrap (c.toNat:Int)=(c.toNat:Int)/\IntKind.u8.wrap (c.toNat:Int)=(c.toNat:Int)/\IntKind.i32.wrap (c.toNat:Int)=(c.toNat:Int)/\IntKind.u32.wrap (c.toNat:Int)=(c.toNat:Int):=
 ⟨E4 c _ (by simp),E4 c _ (by simp),E4 c _ (by simp),E4 c _ (by simp),E4 c _ (by simp)⟩
theorem cr {k:azf} {K:al->Prop} (c_:azj) (h:∀P:azj->Prop,P c_->dE C (aq l) ros none (λ_ s=>P (ho k s))) (ax:K (aq c_)):dE C (aq l) ros none (λ_ s=>K (aq (ho k s))):=
 h (λl=>K (aq l)) ax
theorem h7 {k:azf} {pO:azd} {K:al->Prop} (c_:azj) (h:∀P:azj->Prop,P c_->dE C (aq l) ros (some []) (λacc s=>kl pO 0 [] (acc.getD []).reverse=true/\P (ho k s))) (ax:K (aq c_)):
  dE C (aq l) ros (some []) (λacc s=>kl pO 0 [] (acc.getD []).reverse=true/\K (aq (ho k s))):=
 h (λl=>K (aq l)) ax
theorem aV.af4 (bO:C.fH) {f:FuncId} {fn:Func} {c:Code} {dY:aB} {fx:azf} {as outs:azk} {r:I} (bH:C.P.funcs[f]? =some fn) (ab:fn.body=some c)
  (mr:(fn.name== "runtime.NumGoroutine")=false) (aa:fZ ⟨fn.ntmps,fx⟩ c=some dY.strip) (aR:as.length<=fn.ntmps)
  (h:∀Q:Exit->al->Prop,(∀s,eI (Ends C fx fn.results.toList r outs) s->Q .ret s)->(∀s,eI (Ends C fx fn.results.toList r outs) s->Q .normal s)->bj C dY Q (aq (num 0 as))) (ay:dY.plain=true:=by kernel_rfl):aV C f as r outs:=by
 refine aV.of_wp bO bH ab mr aa aR ?_ ay;rw[Iw];exact h _ (λs h=>⟨.inr rfl,h⟩) (λs h=>⟨.inl rfl,h⟩)
def NT:azk->I
 |[d]=>d
 |ds=>.tuple ds
theorem km {fx:azf} {fO:List ResultVar} {r:I} {outs:azk} (ds:azk) (ad:fO.map (ua C s)=ds.map some) (ae:r=NT ds) (aJ:(fO.map lH).Nodup)
  (bh:∀(i:Nat) (o:I),outs[i]? =some o->o= .hole\/(o=s i/\o.hD=true/\i∈fx/\i∉fO.map lH)):Ends C fx fO r outs s:=.inl ⟨ds,ad,by subst ae;cases ds with|nil=>rfl|cons a t=>cases t<;>rfl,aJ,bh⟩
theorem Wl {fx:azf} {fO:List ResultVar} {r:I} (t:Nat) (ds:azk) {y:Nat} {q:azf} {d:I} {s1:al} (ae:r=NT ds:=by cases gk (by assumption);rfl) (a7:s t= .h y q:=by rfl) (ax:dD s (.h y q)=some (d,s1):=by rfl) (ad:fO.map (ua C (fin s1 (some t) d))=ds.map some:=by rfl) (aJ:(fO.map lH).Nodup:=by decide):Ends C fx fO r [] s:=
 .inr ⟨t,y,q,d,s1,a7,ax,ds,ad,by subst ae;cases ds with|nil=>rfl|cons a t=>cases t<;>rfl,aJ,λi o h=>by simp at h⟩
theorem af5 {fx:azf} {fO:List ResultVar}:∀(i:Nat) (o:I),([]:azk)[i]? =some o->o= .hole\/(o=s i/\o.hD=true/\i∈fx/\i∉fO.map lH):=λi o h=>by simp at h
theorem Wm:∀(as ds:azk),(pd as ds).filter (·.g)=[]
 |[],_=>rfl
 |_::_,[]=>rfl
 |a::as,d::ds=>by simp only[pd,List.filter_cons];exact Wm as ds
theorem II {f:bE} {args:List bE} {g:FuncId} {caps:azk} {K:azf->I->al->Prop} (ds:azk) (r:I)
  (ad:bt (aq l) f= .fn g caps) (kk:I.hA caps=true) (lG:views (aq l) (l8 (aq l) args++caps)=some ds)
  (b2:aV C g ds r []) (dA:r.res=true) (dC:I.fs (l8 (aq l) args++caps)=[]\/r.c1=true) (kY:K [] r (aq l)):q_ C (aq l) (.call f args) K:=by
 obtain⟨aO,aU,aM,bT,cv,ck,bY⟩:=afl _ _ lG;refine⟨g,caps,pd (l8 (aq l) args++caps) ds,r,ad,kk,by rw[aO,E1],λp ay=>(aM p ay).1,bT,by rw[aU];exact b2.outs cv.symm,dA,?_,by rw[ck,bY,Wm];exact kY⟩;intro aC;refine⟨?_,λp ay=>by rw[(aM p ay).2.2.1];rfl⟩;rcases dC with dC|dC
 .exfalso;simp only[mN,List.any_eq_true]at aC;obtain⟨p,ay,fI⟩:=aC;have hm:=(aM p ay).2.2.2;have:p.a.aa=[]:=by
   have key:∀(as:azk) (a:I),a∈as->I.fs as=[]->a.aa=[]:=by
    intro as;induction as with
    |nil=>intro a h;cases h
    |cons b as ih=>
     intro a h he;simp only[I.fs,List.append_eq_nil_iff]at he;rcases List.mem_cons.1 h with rfl|h
     .exact he.1
     .exact ih a h he.2
   exact key _ _ hm dC
  rw[this]at fI;simp at fI
 .exact dC
theorem dk {f:bE} {args:List bE} {g:FuncId} {caps:azk} {ds:azk} {r:I} (b2:aV C g ds r [])
  (ad:bt (aq l) f= .fn g caps) (kk:I.hA caps=true) (lG:views (aq l) (l8 (aq l) args++caps)=some ds)
  (dA:r.res=true) (dC:I.fs (l8 (aq l) args++caps)=[]\/r.c1=true)
  (kY:dE C (fin (aq l) dst r) os none K):dE C (aq l) (⟨dst,.call f args,none⟩::os) none K:=by
 simp only[dE,pe,ub];exact II ds r ad kk lG b2 dA dC kY
theorem hx {a:List fJ} {f:bE} {args:List bE} {g:FuncId} {caps:azk} {ds:azk} {r:I} (b2:aV C g ds r [])
  (ad:bt (aq l) f= .fn g caps) (kk:I.hA caps=true) (lG:views (aq l) (l8 (aq l) args++caps)=some ds)
  (dA:r.res=true) (dC:I.fs (l8 (aq l) args++caps)=[]\/r.c1=true)
  (kY:dE C (fin (aq l) dst r) os (some (kK (aq l) (use (aq l) (.call f args)) dst [] r::a)) K):dE C (aq l) (⟨dst,.call f args,none⟩::os) (some a) K:=by
 simp only[dE,pe,ub];exact II ds r ad kk lG b2 dA dC kY
theorem gB {t:Nat} {b:Bool} {f:bE} {args:List bE} {g:FuncId} {caps:azk} {ds:azk} {r:I} (b2:aV C g ds r [])
  (ad:bt (aq l) f= .fn g caps) (kk:I.hA caps=true) (lG:views (aq l) (l8 (aq l) args++caps)=some ds)
  (dA:r.res=true) (dC:I.fs (l8 (aq l) args++caps)=[]\/r.c1=true)
  (kY:dE C (fin (aq l) dst r) os none K):kZ C l dst (.call f args) t b os none K (.bool b):=by
 simp only[kZ,if_true];exact II ds r ad kk lG b2 dA dC kY
theorem lI {a:List fJ} {t:Nat} {b:Bool} {f:bE} {args:List bE} {g:FuncId} {caps:azk} {ds:azk} {r:I} (b2:aV C g ds r [])
  (ad:bt (aq l) f= .fn g caps) (kk:I.hA caps=true) (lG:views (aq l) (l8 (aq l) args++caps)=some ds)
  (dA:r.res=true) (dC:I.fs (l8 (aq l) args++caps)=[]\/r.c1=true)
  (kY:dE C (fin (aq l) dst r) os (some (kK (aq l) (t::use (aq l) (.call f args)) dst [] r::a)) K):kZ C l dst (.call f args) t b os (some a) K (.bool b):=by
 simp only[kZ,if_true];exact II ds r ad kk lG b2 dA dC kY
theorem h8 (s:al):views s []=some []/\(∀d ds,views s (d::ds)=(match view s d,views s ds with|some a,some b=>some (a::b)|_,_=>none))/\
  (∀k n,view s (.int k n)=some (.int k n))/\(∀b,view s (.bool b)=some (.bool b))/\(∀x,view s (.str x)=some (.str x))/\(∀x,view s (.slice x)=some (.slice x))/\(∀x,view s (.ref x)=some (.ref x))/\
  view s .a8=some .a8/\view s .eh=some .eh/\(∀aE,view s (.agg aE)=some (.agg aE))/\(∀f cap,view s (.fn f cap)=(views s cap).map (.fn f)):=by
 refine⟨rfl,λd ds=>?_,λ_ _=>rfl,λ_=>rfl,λ_=>rfl,λ_=>rfl,λ_=>rfl,rfl,rfl,λ_=>rfl,λ_ _=>by simp only[view]⟩;simp only[views];rfl
theorem bZ {α:Type} {u e:α->I} (h:∀x,(u x).share=e x) (xs:List α):I.shares (xs.map u)=xs.map e:=by
 rw[I.xk];simp[h]
theorem k1 {α:Type} {u:α->I} (h:∀x,(u x).c1=true) (xs:List α):I.gV (xs.map u)=true:=by
 induction xs with
 |nil=>rfl
 |cons x xs ih=>simp only[List.map_cons,I.gV,h,ih,Bool.and_self]
def xO (s:al) (H:azf):azj->Prop
 |[]=>True
 |p::l=>(p.2=s p.1\/((s p.1).tree=true/\fN (s p.1) p.2/\p.1∉H))/\xO s H l
theorem iV {c_:azj} (H:azf) (nE:I.fs (c_.map (·.2))=H) (h:xO s H c_):zd s c_:=by
 have key:∀(hJ:azj),xO s H hJ->∀p∈hJ,p.2=s p.1\/((s p.1).tree=true/\fN (s p.1) p.2/\p.1∉H):=by
  intro hJ;induction hJ with
  |nil=>intro _ p ay;cases ay
  |cons a hJ ih=>
   intro h p ay;rcases List.mem_cons.1 ay with rfl|ay
   .exact h.1
   .exact ih h.2 p ay
 have aa:∀(hJ:azj),∀di∈hJ,∀u∈di.2.aa,u∈I.fs (hJ.map (·.2)):=by
  intro hJ;induction hJ with
  |nil=>intro p ay;cases ay
  |cons a hJ ih=>
   intro p ay u hu;simp only[List.map_cons,I.fs,List.mem_append];rcases List.mem_cons.1 ay with rfl|ay
   .exact .inl hu
   .exact .inr (ih p ay u hu)
 intro p ay;rcases key _ h p ay with ad|⟨ad,ae,aJ⟩
 .exact .inl ad
 .refine .inr ⟨ad,ae,λdi fj=>.inl λhm=>aJ ?_⟩;rw[<-nE];exact aa c_ di fj _ hm
theorem iW {H:azf}:xO s H []:=trivial
theorem cJ {H:azf} {t:Nat} {d:I} {c_:azj} (h:d=s t) (aC:xO s H c_):xO s H ((t,d)::c_):=⟨.inl h,aC⟩
theorem iN {H:azf} {t:Nat} {d bM:I} {c_:azj} (e:s t=d) (aY:d.tree=true) (ao:fN d bM) (nE:t∉H) (aC:xO s H c_):xO s H ((t,bM)::c_):=⟨.inr ⟨by rw[e];exact aY,by rw[e];exact ao,nE⟩,aC⟩
theorem af6 {d e:I} (aY:d.tree=true) (aR:d.own=true) (h:d.share=e):fN d e:=by
 subst h;exact .share d aY (λvs e=>by subst e;simp[I.own]at aR) (λo e=>by subst e;simp[I.own]at aR)
theorem Wn {a b:I} (h:fN a b):∀n,mn (List.replicate n a) (List.replicate n b)
 |0=>.nil
 |n+1=>by simp only[List.replicate_succ];exact .cons h (Wn h n)
theorem E5 {α:Type} {sz:Nat} {u:α->I} {z:α} {a:I} (h:fN a (u z)) (n:Nat):fN (.ak sz (List.replicate n a)) (.ak sz ((List.replicate n z).map u)):=by
 rw[List.map_replicate];exact .ak (Wn h n)
end
theorem E6 {C:cl} {A B:TypeId} {da:IntKind} (iS:(C.T A).ok=true) (iP:(C.T B).k= .int da):∀s k n,kW C s A B (.int k n)=some (.int da (da.wrap n)):=λs k n=>afZ C s A B k da n iS iP
def Wo:Option I->Option I
 |some (.ak 1 xs)=>(bytesOf xs).map .str
 |_=>none
theorem af7 {C:cl} {A B e:TypeId} (iS:(C.T A).k= .slice e) (iP:(C.T B).k= .str) (he:(C.T e).k= .int .u8):
  (∀s xs,kW C s A B (.slice xs)=(bytesOf xs).map .str)/\(∀s,kW C s A B .a8=some (.str []))/\(∀s x q,kW C s A B (.h x q)=Wo (I.sub q (s x))):=by
 have Ev:(C.T A).ok=true:=by simp[hB.ok,iS]
 refine⟨λs xs=>?_,λs=>?_,λs x q=>?_⟩
 .simp only[kW,Ev,iS,iP,he,if_true]
 .simp only[kW,Ev,iS,iP,he,if_true]
 .simp only[kW,Ev,iS,iP,he,if_true];rfl
theorem af8 (xs:azk):Wo (some (.ak 1 xs))=(bytesOf xs).map .str:=rfl
theorem Wp (c:UInt8) (r:azk):bytesOf (iR c::r)=(bytesOf r).map (c::·):=by
 have:=c.toNat_lt;simp only[iR,bytesOf];rw[if_pos (by omega)];simp
theorem af9:bytesOf []=some []/\
  (∀l:azc,bytesOf (l.map iR)=some l)/\
  (∀c r,bytesOf (.int .u8 (c.toNat:Int)::r)=(bytesOf r).map (c::·))/\
  (∀m r,bytesOf (.int .u8 (IntKind.u8.wrap m)::r)=(bytesOf r).map (pG m::·)):=
 ⟨rfl,adm,λc r=>Wp c r,λm r=>by rw[<-Wc];exact Wp _ r⟩
theorem af_ {k:IntKind} {b:Int} (h:b≠0):∀a,j3 .quo k a k b=some (.int k (k.wrap (a.tdiv b))):=λ_=>afV h
theorem n5 {k:IntKind} {b:Int} (h:b≠0):∀a,j3 .rem k a k b=some (.int k (a.tmod b)):=λ_=>afW h
theorem jN {α:Type} {e:α->I} {n:Nat} (h:∀x,(e x).wd=n):∀xs:List α,(∀d∈xs.map e,d.wd=n)=True:=afY h
theorem all_cons {P:I->Prop} (d:I) (ds:azk):(∀x∈d::ds,P x)=(P d/\∀x∈ds,P x):=by simp
theorem all_nil {P:I->Prop}:(∀x∈([]:azk),P x)=True:=by simp
def Wq (a b:azc):Option Unit->Option I
 |some _=>some (.str (a++b))
 |none=>none
theorem zl (a b:azc):qh .add a b=Wq a b (iO (a.length+b.length)):=by
 simp only[qh,iO];split<;>rfl
theorem zm (a b:azc) (u:Unit):Wq a b (some u)=some (.str (a++b)):=rfl
theorem Wr:(∀l:azf,[]++l=l)/\(∀a (l m:azf),(a::l)++m=a::(l++m)):=⟨λ_=>rfl,λ_ _ _=>rfl⟩
def Ws (C:cl) (e dN:TypeId):Bool:=(C.T e).ok&&((C.T e).zero.wd==(C.T e).sz)&&(flat (C.T e).zero).isSome&&H_ C e dN
def IJ (C:cl) (e:TypeId) (xs:azk):Option (azk×al)->Option (I×al)
 |some (cH,s2)=>if(∀d∈cH,d.wd=(C.T e).sz)/\(room (C.T e).bytes (xs.length+cH.length)).isSome=true then some (.ak (C.T e).sz (xs++cH),s2)else none
 |none=>none
def NU (C:cl) (e:TypeId) (y:I) (o:Option Nat):Option (I×al)->Option (I×al)
 |some (.ak sz xs,s1)=>if sz=(C.T e).sz then IJ C e xs (n0 s1 (nd o y))else none
 |_=>none
theorem aga (b n:Nat):(room b n).isSome=true↔n*b<=140737488355328/\n<=9223372036854775807:=by unfold room;split<;>simp_all
theorem kn {C:cl} {T dN e:TypeId} (lb:(C.T T).k= .slice e) (gH:Ws C e dN=true):∀s x y,vE C s T dN x y=NU C e y x.owner (tX C e s x):=by
 intro s x y;simp only[Ws,Bool.and_eq_true,beq_iff_eq]at gH;rw[M_,lb];simp only;rw[if_pos ⟨gH.1.1.1,gH.1.1.2,gH.1.2,gH.2⟩];generalize x.owner=o;cases tX C e s x with
 |none=>rfl
 |some p=>
  obtain⟨d,s1⟩:=p;cases d<;>first
   |rfl
   |(simp only[NU]
     split
     .rename_i h;subst h;generalize n0 s1 (nd o y)=z;cases z with
      |none=>rfl
      |some p=>simp only[IJ,aga]
     .rfl)
def Wt:Option (I×al)->Option (azk×al)
 |some (.ak _ cH,s2)=>some (cH,s2)
 |_=>none
theorem ko (s:al):n0 s .a8=some ([],s)/\(∀cH,n0 s (.slice cH)=some (cH,s))/\(∀l,n0 s (.str l)=some (l.map iR,s))/\
  (∀a q,n0 s (.h a q)=Wt (dD s (.h a q)))/\(∀n cH,Wt (some (.ak n cH,s))=some (cH,s)):=
 ⟨rfl,λ_=>rfl,λ_=>rfl,λ_ _=>by simp only[n0];rfl,λ_ _=>rfl⟩
theorem kp (C:cl) (e:TypeId):(∀s,tX C e s .a8=some (.ak (C.T e).sz [],s))/\(∀s a q,tX C e s (.h a q)=dD s (.h a q))/\
  (∀y o sz xs s1,NU C e y o (some (.ak sz xs,s1))=if sz=(C.T e).sz then IJ C e xs (n0 s1 (nd o y))else none)/\
  (∀xs cH s2,IJ C e xs (some (cH,s2))=if(∀d∈cH,d.wd=(C.T e).sz)/\(room (C.T e).bytes (xs.length+cH.length)).isSome=true then some (.ak (C.T e).sz (xs++cH),s2)else none):=
 ⟨λ_=>rfl,λ_ _ _=>rfl,λ_ _ _ _ _=>rfl,λ_ _ _=>rfl⟩
theorem gI:(∀d,nd none d=d)/\(∀x d,nd (some x) d=cG x d)/\(∀x q,I.owner (.h x q)=some x)/\I.owner .a8=none:=
 ⟨λ_=>rfl,λ_ _=>rfl,λ_ _=>rfl,rfl⟩
def Wu (s:al) (x:Nat) (q:azf):Option I->Option (I×al)
 |some d=>if d.plain=true then none else some (d,et (jc x s) x (I.put q d.dR (s x)))
 |none=>none
theorem Wv (s:al) (x:Nat) (q:azf):dD s (.h x q)=Wu s x q (I.sub q (s x)):=by
 simp only[dD];cases I.sub q (s x)<;>rfl
theorem Ww (s:al):(∀x q d,Wu s x q (some d)=if d.plain=true then none else some (d,et (jc x s) x (I.put q d.dR (s x))))/\(∀k n,dD s (.int k n)=some (.int k n,s))/\(∀b,dD s (.bool b)=some (.bool b,s))/\(∀x,dD s (.str x)=some (.str x,s))/\
  (∀x,dD s (.slice x)=some (.slice x,s))/\(∀x,dD s (.ref x)=some (.ref x,s))/\(∀x,dD s (.agg x)=some (.agg x,s))/\dD s .a8=some (.a8,s)/\dD s .eh=some (.eh,s):=
 ⟨λ_ _ _=>rfl,λ_ _=>rfl,λ_=>rfl,λ_=>rfl,λ_=>rfl,λ_=>rfl,λ_=>rfl,rfl,rfl⟩
theorem Wx (l:azj) (t:Nat) (d:I):et (aq l) t d=aq ((t,d)::l):=Ix l t d
theorem Wy:(∀n x,I.dR (.ak n x)= .hole)/\(∀x,I.dR (.aQ x)= .hole)/\(∀aE,I.dR (.agg aE)= .agg (I.nS aE))/\(∀aE,I.dR (.tuple aE)= .tuple (I.nS aE))/\I.nS []=[]/\(∀d ds,I.nS (d::ds)=d.dR::I.nS ds)/\
  (∀k n,I.dR (.int k n)= .int k n)/\(∀b,I.dR (.bool b)= .bool b)/\(∀x,I.dR (.str x)= .str x)/\(∀x,I.dR (.slice x)= .slice x)/\(∀x,I.dR (.ref x)= .ref x)/\I.dR .a8= .a8/\I.dR .eh= .eh/\I.dR .hole= .hole:=by
 simp[I.dR,I.nS]
def zn:Option I->Option I
 |some d=>(match d with| .tuple _=>none| .b9 _=>none|d=>if d.plain=true then none else some d.share)
 |none=>none
def zo:Option I->Option I
 |some d=>(match d with| .tuple _=>none|d=>some (.ref d.share))
 |none=>none
theorem h9 (s:al) (x:Nat) (q:azf):view s (.h x q)=zn (I.sub q (s x))/\view s (.ay x q)=(if I.gC q (s x)=true then zo (I.sub q (s x))else none):=by
 constructor
 .simp only[view];rfl
 .simp only[view];rfl
theorem h_:(∀n xs,zn (some (.ak n xs))=some (.slice (I.shares xs)))/\(∀d,zn (some (.aQ d))=some (.ref d.share))/\(∀aE,zn (some (.agg aE))=if I.hA aE=true then none else some (.agg (I.shares aE)))/\
  (∀aE,zo (some (.agg aE))=some (.ref (.agg (I.shares aE))))/\(∀k n,zo (some (.int k n))=some (.ref (.int k n)))/\(∀x,zo (some (.str x))=some (.ref (.str x))):=
 ⟨λ_ _=>by simp[zn,I.plain,I.share],λ_=>by simp[zn,I.plain,I.share],λaE=>by cases h:I.hA aE<;>simp[zn,I.plain,I.share,h],λ_=>by simp[zo,I.share],λ_ _=>by simp[zo,I.share],λ_=>by simp[zo,I.share]⟩
theorem cS:(∀n xs,I.share (.ak n xs)= .slice (I.shares xs))/\(∀d,I.share (.aQ d)= .ref d.share)/\(∀xs,I.share (.slice xs)= .slice (I.shares xs))/\(∀d,I.share (.ref d)= .ref d.share)/\(∀aE,I.share (.agg aE)= .agg (I.shares aE))/\(∀aE,I.share (.tuple aE)= .tuple (I.shares aE))/\
  (∀k n,I.share (.int k n)= .int k n)/\(∀b,I.share (.bool b)= .bool b)/\(∀x,I.share (.str x)= .str x)/\I.share .a8= .a8/\I.share .eh= .eh/\I.shares []=[]/\(∀d ds,I.shares (d::ds)=d.share::I.shares ds):=by
 simp[I.share,I.shares]
def n6 (sz:Nat):Option (azk×al)->Option (I×al)
 |some (ds,s1)=>some (.ak sz ds,s1)
 |none=>none
def ed:Option (azk×al)->Option (I×al)
 |some (ds,s1)=>some (.agg ds,s1)
 |none=>none
theorem E7 {C:cl} {T e n sz:Nat} {fe:azk} (lb:(C.T T).k= .slice e) (fg:(C.T e).sz=sz) (cf:List.replicate n (C.T e).zero=fe)
  (gH:((C.T e).ok&&((C.T e).zero.wd==sz)&&(flat (C.T e).zero).isSome&&(sz !=0)&&decide (n*sz<=16777216))=true):∀s ps,dS C s T n ps=n6 sz (ez (λk=>some (k*sz,sz)) s fe [] ps):=by
 intro s ps;subst fg;simp only[Bool.and_eq_true,beq_iff_eq,bne_iff_ne,decide_eq_true_eq]at gH;obtain⟨⟨⟨⟨ad,ae⟩,aJ⟩,bh⟩,b2⟩:=gH;unfold dS;rw[lb];simp only;rw[if_pos ⟨ad,ae,aJ,bh,b2⟩,cf];cases ez (λk=>some (k*(C.T e).sz,(C.T e).sz)) s fe [] ps<;>rfl
theorem mP {C:cl} {T:Nat} {aE:List (TypeId×Nat)} {fe:azk} (lb:(C.T T).k= .struct aE) (cf:(C.T T).zero= .agg fe)
  (gH:((flat (.agg fe)).isSome&&aE.all λf=>(C.T f.1).ok)=true):∀s ps,gm C s T ps=ed (ez (λk=>(aE[k]?).map λf=>(f.2,(C.T f.1).sz)) s fe [] ps):=by
 intro s ps;simp only[Bool.and_eq_true,List.all_eq_true]at gH;unfold gm;rw[lb,cf];simp only;rw[if_pos ⟨gH.1,gH.2⟩];cases ez (λk=>(aE[k]?).map λf=>(f.2,(C.T f.1).sz)) s fe [] ps<;>rfl
def dK (place:Nat->Option (Nat×Nat)) (k:Nat) (fe:azk) (os:List (Option Nat)) (r:azj) (o:Option Nat):Option (Nat×Nat)->Option I->Option (I×al)->Option (azk×al)
 |some (off,n),some z,some (d,s1)=>(match d with
  | .tuple _=>none
  |d=>if d.wd=n/\z.wd=n/\I.eZ (fe.take k)=off then ez place s1 (fe.set k d) (os++[o]) r else none)
 |_,_,_=>none
theorem lJ (place:Nat->Option (Nat×Nat)) (s:al) (fe:azk) (os:List (Option Nat)):ez place s fe os []=some (fe,s)/\
  (∀k a r,ez place s fe os ((k,a)::r)=dK place k fe os r (nA os a).owner (place k) fe[k]? (dD s (nA os a))):=by
 refine⟨rfl,λk a r=>?_⟩;simp only[ez];cases dD s (nA os a)with
 |none=>cases place k<;>cases fe[k]? <;>rfl
 |some p=>
  obtain⟨d,s1⟩:=p;cases place k with
  |none=>cases fe[k]? <;>rfl
  |some q=>cases fe[k]? <;>(cases d<;>rfl)
theorem lK:(∀a,nA [] a=a)/\(∀o os a,nA (o::os) a=nA os (nd o a)):=⟨λ_=>rfl,λ_ _ _=>rfl⟩
theorem ee:(∀k n,I.owner (.int k n)=none)/\(∀b,I.owner (.bool b)=none)/\(∀x,I.owner (.str x)=none)/\(∀x,I.owner (.slice x)=none)/\(∀x,I.owner (.ref x)=none)/\(∀x,I.owner (.agg x)=none)/\I.owner .eh=none/\I.owner .a8=none/\(∀x q,I.owner (.h x q)=some x):=
 ⟨λ_ _=>rfl,λ_=>rfl,λ_=>rfl,λ_=>rfl,λ_=>rfl,λ_=>rfl,rfl,rfl,λ_ _=>rfl⟩
end Go.eg
