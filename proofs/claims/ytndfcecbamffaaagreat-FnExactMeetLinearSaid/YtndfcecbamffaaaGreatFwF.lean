/- Part of a proof that a law returns true for every input. No condition. -/
import Derived.Test.YtndfcecbamffaaaGreatFwE
import Derived.Orders
import Derived.KernelRfl
import Derived.Test.YtndfcecbamffaaaGreatFwA
namespace Go.dD
open Go.IntKind Nat Or
section
variable {C:bV} {w0 w:World} {F0 X:Nat->Prop} {n:Fr} {ρ:Nat->Value} {s s1:ao} {a:Act} {av:I} {Q:Exit->Act->World->Prop}
def bW.un (o:bW):bW:=⟨o.dst,o.bE.base,o.guard⟩
theorem Br {ops:Array Oper}:∀{os:List Oper} {rs:List bW},pS n ops os=some rs->os.length=rs.length/\∀(i:Nat) (o:Oper),os[i]? =some o->∃r,rs[i]? =some r/\lb n ops o=some r:=by
 intro os;induction os with
 |nil=>intro rs h;simp only[pS,Option.some.injEq]at h;subst h;exact⟨rfl,λi o h=>by simp at h⟩
 |cons o os ih=>
  intro rs h;simp only[pS]at h;split at h
  .rename_i r agl af ag;simp only[Option.some.injEq]at h;subst h;obtain⟨cv,cK⟩:=ih ag;refine⟨by simp[cv],λi nw b_=>?_⟩;cases i with
   |zero=>simp at b_;subst b_;exact⟨r,rfl,af⟩
   |succ i=>simpa using cK i nw (by simpa using b_)
  .cases h
theorem v5 {o:Oper} {y:Nat->ahD} (h:o.guard=none):Region.wanted o y=true:=by simp[Region.wanted,h]
theorem Lq (h:Rel w0 F0 X n ρ s a w) {ops:Array Oper} {az t:Nat} (ch:(ops[az]?).bind (·.dst)=some t):
  (∀b,s t= .bool b->yielded ops a.tmps az=some b)/\(s t= .tuple []->yielded ops a.tmps az=none):=by
 obtain⟨al,ae,bS,F,S,aV⟩:=h;have jf:=aV.dz t;refine⟨λb U=>?_,λU=>?_⟩
 .rw[U]at jf;have aP:=sE jf;simp only[yielded,ch,Option.bind_some];rw[Array.getD_eq_getD_getElem?]at aP;cases bP:a.tmps[t]? with
  |none=>rw[bP]at aP;simp[undef]at aP
  |some v=>rw[bP]at aP;simp at aP;subst aP;rfl
 .rw[U]at jf;obtain⟨⟨arr,af,ag⟩,_⟩:=(aO.cI (d:=.tuple []) rfl).1 jf;simp only[yielded,ch,Option.bind_some];rw[Array.getD_eq_getD_getElem?]at af;cases bP:a.tmps[t]? with
  |none=>rfl
  |some v=>rw[bP]at af;simp at af;subst af;rfl
theorem Fa (bx:C.eN) {ops:Array Oper} {ros:List bW} {l2:ahC} {K:ao->Prop} (ba:∀aH cj aK,K aH->Rel w0 F0 X n ρ aH cj aK->wpOps C.P ops Q l2 cj aK):
  ∀(l:ahC),(∀i∈l,(ops[i]? =none->ros[i]? =none)/\∀o,ops[i]? =some o->∃r,ros[i]? =some r/\lb n ops o=some r.un)->
  ∀(s:ao) (a:Act) (w:World),g2 C ros s l K->Rel w0 F0 X n ρ s a w->wpOps C.P ops Q (l++l2) a w:=by
 intro l;induction l with
 |nil=>intro _ s a w h aV;exact ba s a w h aV
 |cons i l ih=>
  intro lf s a w h aV;replace ih:=ih λi aq=>lf i (List.mem_cons_of_mem _ aq);rw[List.cons_append];simp only[wpOps];cases b_:ops[i]? with
  |none=>
   simp only[g2,(lf i (by simp)).1 b_]at h;exact ih s a w h aV
  |some o=>
   obtain⟨r,af,ag⟩:=(lf i (by simp)).2 o b_;simp only[g2,af]at h;show(if Region.wanted o (yielded ops a.tmps)=true then o.wp C.P a w (wpOps C.P ops Q (l++l2)) Q\/(o.asks C.P a w/\LetsOut Q)else wpOps C.P ops Q (l++l2) (a.put o.dst undef) w);simp only[lb]at ag;split at ag
   .rename_i rP;split at ag
    .rename_i g bP;obtain⟨rd,bE,rg⟩:=r;simp only[bW.un,Option.some.injEq,bW.mk.injEq]at ag;obtain⟨rfl,cz,rfl⟩:=ag;simp only[ld]at h;have run:∀(de:ao->Prop),(∀aH,de aH->g2 C ros aH l K)->nB C s bE (λav s1=>de (fin s1 o.dst av))->o.wp C.P a w (wpOps C.P ops Q (l++l2)) Q:=
      λde hK hw=>Lp bx aV cz rP hw (λaH cj aK au ek=>ih aH cj aK (hK aH au) ek)
     cases n3:o.guard with
     |none=>
      rw[n3]at bP;simp only[uy,Option.some.injEq]at bP;subst bP;simp only at h;rw[if_pos (v5 n3)];exact .inl (run _ (λ_ h=>h) h)
     |some yF=>
      obtain⟨az,b⟩:=yF;rw[n3]at bP;simp only[uy]at bP;split at bP
      .rename_i t aZ;simp only[Option.some.injEq]at bP;subst bP;simp only at h;obtain⟨fg,gd⟩:=Lq aV aZ;have yG:∀(de:g2 C ros (fin s o.dst (.tuple [])) l K),wpOps C.P ops Q (l++l2) (a.put o.dst undef) w:=λde=>ih _ _ _ de (Rel.skip aV rP);split at h
       .rename_i ee ae;have bu:=fg ee ae;split at h
        .rename_i U;subst U;rw[if_pos (by simp[Region.wanted,n3,bu])];exact .inl (run _ (λ_ h=>h) h)
        .rename_i U;rw[if_neg (by simp[Region.wanted,n3,bu,U])];exact yG h
       .rename_i ae;have bu:=gd ae;rw[if_neg (by simp[Region.wanted,n3,bu])];exact yG h
       .exact h.elim
      .cases bP
    .cases ag
   .cases ag
theorem Lr (bx:C.eN) {ops:Array Oper} {ros:List bW} (qP:pS n ops ops.toList=some (ros.map bW.un)) {K:ao->Prop} (ba:∀aH cj aK,K aH->Rel w0 F0 X n ρ aH cj aK->Q .normal cj aK):
  ∀(l:ahC) (s:ao) (a:Act) (w:World),g2 C ros s l K->Rel w0 F0 X n ρ s a w->wpOps C.P ops Q l a w:=by
 obtain⟨hl,lf⟩:=Br qP;intro l s a w h aV;have:=Fa (Q:=Q) bx (ros:=ros) (ops:=ops) (l2:=[]) (K:=K) (n:=n) (ρ:=ρ) (w0:=w0) (F0:=F0) (X:=X) (λaH cj aK au ek=>ba aH cj aK au ek) l (λi _=>⟨λb_=>by
   rw[List.getElem?_eq_none_iff,<-List.length_map (f:=bW.un),<-hl];have:=Array.getElem?_eq_none_iff.1 b_;simpa using this,λo b_=>by
   obtain⟨aD,jG,ag⟩:=lf i o (by simpa using b_);obtain⟨r,af,rfl⟩:∃r,ros[i]? =some r/\r.un=aD:=by simpa using jG
   exact⟨r,af,ag⟩⟩) s a w h aV
 rwa [List.append_nil]at this
theorem Rel.drawn (h:Rel w0 F0 X n ρ s a w) (k:Nat) (au:w.drawn<=k):Rel w0 F0 X n ρ s a {w with drawn:=k}:=by
 obtain⟨af,ag,bS,F,S,aJ⟩:=h;exact⟨af,ag,bS,F,S,aJ.grow (λ_ _=>rfl) (Nat.le_refl _) rfl rfl ⟨rfl,λ_=>au⟩⟩
theorem TU (bx:C.eN) {id:Nat} {ops:Array Oper} {ros:List bW} (qP:pS n ops ops.toList=some (ros.map bW.un)) {K:ao->Prop} (ba:∀aH cj aK,K aH->Rel w0 F0 X n ρ aH cj aK->Q .normal cj aK)
  (h:l0 C s ros K) (aV:Rel w0 F0 X n ρ s a w):(Code.region id ops false).wp C.P Q a w:=by
 refine wp_region (Lr bx qP ba _ s a w ?_ aV);have:=TD C K ros [] s h;have hl:=(Br qP).1;simp only[List.nil_append,List.length_nil,Nat.add_zero,List.map_id']at this;rw[List.length_map]at hl;rw[<-hl]at this;simpa using this
end
def oX (pU:ahA) (l:ahC):Prop:=
 l.Nodup/\(∀i,i∈l↔i<pU.length)/\∀u i v,l=u++i::v->∀e∈(pU[i]?).getD [],e∈u
def nC (ops:Array Oper):ahA:=ops.toList.map λo=>(o.after.toList.filter λe=>Region.binds .any e).map (·.on)
def v7 (pU:ahA):Bool:=pU.zipIdx.all λp=>p.1.all λe=>decide (e<p.2)
theorem TV {pU:ahA} (h:v7 pU=true) {i:Nat} {l:ahC} (aq:pU[i]? =some l):∀e∈l,e<i:=by
 intro e he;simp only[v7,List.all_eq_true]at h;have:=h (l,i) (by rw[List.mem_zipIdx_iff_getElem?];exact aq) e he;simpa using this
theorem TW {ops:Array Oper} (U:v7 (nC ops)=true):∀(fuel t:Nat) (gG:Array Bool),gG.size=ops.size->((List.range ops.size).filter λi=> !gG.getD i true).length<=fuel->
  (Region.linearise.go .any ops fuel t gG []).Nodup/\(∀i,i∈Region.linearise.go .any ops fuel t gG []↔(i<ops.size/\gG.getD i true=false))/\
   ∀u i v,Region.linearise.go .any ops fuel t gG []=u++i::v->∀e∈((nC ops)[i]?).getD [],gG.getD e false=true\/e∈u:=by
 intro fuel;induction fuel with
 |zero=>
  intro t gG ae hl;have yn:((List.range ops.size).filter λi=> !gG.getD i true)=[]:=List.length_eq_zero_iff.1 (le_zero.1 hl);refine⟨by simp[Region.linearise.go],λi=>?_,λu i v h=>by simp[Region.linearise.go]at h⟩;simp only[Region.linearise.go,List.reverse_nil,List.not_mem_nil,false_iff,not_and];intro aq bS;have:i∈((List.range ops.size).filter λi=> !gG.getD i true):=List.mem_filter.2 ⟨List.mem_range.2 aq,by rw[bS];rfl⟩;rw[yn]at this;cases this
 |succ fuel ih=>
  intro t gG ae hl;have Ls:∀i,i∈Region.ready .any ops gG↔(i<ops.size/\gG.getD i true=false/\∀e∈((nC ops)[i]?).getD [],gG.getD e false=true):=by
   intro i;simp only[Region.ready,List.mem_filter,List.mem_range,Bool.and_eq_true,Bool.not_eq_true'];constructor
   .rintro⟨af,ag,aJ⟩;refine⟨af,ag,?_⟩;rw[Array.getElem?_eq_getElem af]at aJ;simp only[Option.map_some,Option.getD_some,Array.all_eq_true_iff_forall_mem]at aJ;simp only[nC,List.getElem?_map,Array.getElem?_toList,Array.getElem?_eq_getElem af,Option.map_some,Option.getD_some,List.mem_map,List.mem_filter];rintro e ⟨x,⟨aA,pK⟩,rfl⟩;have:=aJ x (by simpa using aA);simpa [pK]using this
   .rintro⟨af,ag,aJ⟩;refine⟨af,ag,?_⟩;rw[Array.getElem?_eq_getElem af];simp only[Option.map_some,Option.getD_some,Array.all_eq_true_iff_forall_mem];simp only[nC,List.getElem?_map,Array.getElem?_toList,Array.getElem?_eq_getElem af,Option.map_some,Option.getD_some,List.mem_map,List.mem_filter]at aJ;intro x aA;cases pK:Region.binds .any x with
    |false=>simp
    |true=>simpa using aJ x.on ⟨x,⟨by simpa using aA,pK⟩,rfl⟩
  have hex:(∃i,i<ops.size/\gG.getD i true=false)->Region.ready .any ops gG≠[]:=by
   rintro⟨i,af,ag⟩;have:∃i,(i<ops.size/\gG.getD i true=false)/\∀az,az<i->¬(az<ops.size/\gG.getD az true=false):=by
    induction i using Nat.strongRecOn with
    |_ i TX=>
     by_cases ch:∃az,az<i/\(az<ops.size/\gG.getD az true=false)
     .obtain⟨az,TY,TZ,T0⟩:=ch;exact TX az TY TZ T0
     .exact⟨i,⟨af,ag⟩,λaz T1 aC=>ch ⟨az,T1,aC⟩⟩
   obtain⟨k,⟨cv,cK⟩,eJ⟩:=this;have:k∈Region.ready .any ops gG:=(Ls k).2 ⟨cv,cK,λe he=>by
    cases bY:(nC ops)[k]? with
    |none=>rw[bY]at he;simp at he
    |some l=>
     rw[bY]at he;have en:=TV U bY e he;have:=eJ e en;rw[not_and]at this;have:=this (by omega);have j7:e<gG.size:=by omega
     simp only[Array.getD_eq_getD_getElem?,Array.getElem?_eq_getElem j7,Option.getD_some]at this⊢;simpa using this⟩
   intro e;rw[e]at this;cases this
  have Lt:Region.linearise.go .any ops (fuel+1) t gG []=(match(Region.ready .any ops gG)[t%(Region.ready .any ops gG).length]? with
   |some i=>Region.linearise.go .any ops fuel (t/(Region.ready .any ops gG).length) (gG.setIfInBounds i true) [i]
   |none=>[]):=rfl
  cases yH:(Region.ready .any ops gG)[t%(Region.ready .any ops gG).length]? with
  |none=>
   have yn:Region.ready .any ops gG=[]:=by
    cases aV:Region.ready .any ops gG with
    |nil=>rfl
    |cons a l=>
     rw[aV]at yH;have:=List.getElem?_eq_none_iff.1 yH;have ag:=mod_lt t (show 0<(a::l).length by simp);omega
   rw[Lt,yH];refine⟨by simp,λi=>?_,λu i v h=>by simp at h⟩;simp only[List.not_mem_nil,false_iff];intro aq;exact hex ⟨i,aq⟩ yn
  |some i=>
   have aq:=(Ls i).1 (List.mem_of_getElem? yH);obtain⟨n4,rQ,T2⟩:=aq;rw[Lt,yH];simp only;rw[linearise_go_acc];simp only[List.reverse_singleton,List.singleton_append];have qC:∀az d,(gG.setIfInBounds i true).getD az d=if az=i then true else gG.getD az d:=by
    intro az d;split
    .rename_i e;subst e;simp[Array.getD_eq_getD_getElem?,Array.getElem?_setIfInBounds_self_of_lt (show az<gG.size by omega)]
    .rename_i e;simp[Array.getD_eq_getD_getElem?,Array.getElem?_setIfInBounds_ne (λh=>e h.symm)]
   obtain⟨aX,bk,ca⟩:=ih (t/(Region.ready .any ops gG).length) (gG.setIfInBounds i true) (by simpa using ae) (by
    have fz:((List.range ops.size).filter λaz=> !(gG.setIfInBounds i true).getD az true)=((List.range ops.size).filter λi=> !gG.getD i true).filter λaz=>decide (az≠i):=by
     rw[List.filter_filter];apply List.filter_congr;intro az _;rw[qC];by_cases e:az=i<;>simp[e]
    rw[fz];have en:(((List.range ops.size).filter λi=> !gG.getD i true).filter λaz=>decide (az≠i)).length<((List.range ops.size).filter λi=> !gG.getD i true).length:=by
     rw[List.length_filter_lt_length_iff_exists];exact⟨i,List.mem_filter.2 ⟨List.mem_range.2 n4,by rw[rQ];rfl⟩,by simp⟩
    omega)
   refine⟨?_,λaz=>?_,?_⟩
   .rw[List.nodup_cons];refine⟨λhm=>?_,aX⟩;have:=((bk i).1 hm).2;rw[qC,if_pos rfl]at this;cases this
   .rw[List.mem_cons,bk,qC];by_cases e:az=i
    .subst e;simp[n4,rQ]
    .simp[e]
   .intro u az v h e he;cases u with
    |nil=>
     simp only[List.nil_append,List.cons.injEq]at h;obtain⟨rfl,rfl⟩:=h;exact .inl (T2 e he)
    |cons uC u=>
     simp only[List.cons_append,List.cons.injEq]at h;obtain⟨rfl,h⟩:=h;rcases ca u az v h e he with bO|bO
     .rw[qC]at bO;split at bO
      .rename_i dJ;subst dJ;exact .inr (by simp)
      .exact .inl bO
     .exact .inr (by simp[bO])
theorem Lu {ops:Array Oper} (U:v7 (nC ops)=true) (t:Nat):oX (nC ops) (Region.linearise .any ops t):=by
 have Lv:∀i d,i<ops.size->(Array.replicate ops.size false).getD i d=false:=by
  intro i d aq;simp[Array.getD_eq_getD_getElem?,aq]
 obtain⟨aX,bk,ca⟩:=TW U ops.size t (Array.replicate ops.size false) (by simp) (by
  have:=List.length_filter_le (λi=> !(Array.replicate ops.size false).getD i true) (List.range ops.size);simpa using this)
 have hlen:(nC ops).length=ops.size:=by simp[nC]
 refine⟨aX,λi=>?_,λu i v h e he=>?_⟩
 .rw[hlen];rw[show Region.linearise .any ops t=Region.linearise.go .any ops ops.size t (Array.replicate ops.size false) []from rfl,bk];exact⟨λh=>h.1,λh=>⟨h,Lv i true h⟩⟩
 .rcases ca u i v h e he with bO|bO
  .exfalso;by_cases Lw:e<ops.size
   .rw[Lv e false Lw]at bO;cases bO
   .simp[Array.getD_eq_getD_getElem?,Lw]at bO
  .exact bO
def an:ahH->ao
 |[],_=>.hole
 |(u,d)::l,t=>if t=u then d else an l t
mutual
inductive eT:I->I->Prop
 |refl (d:I):eT d d
 |fJ (sz:Nat):eT .ah (.ad sz [])
 |oY:eT .ah (.slice [])
 |any (b:Bool):eT (.bool b) .fo
 |share (d:I):d.tree=true->(∀vs,d≠.tuple vs)->(∀o,d≠.dN o)->(∀f c,d≠.eQ f c)->(∀c,d≠.gC c)->eT d d.share
 |agg {ds es:ahI}:kA ds es->eT (.agg ds) (.agg es)
 |ai {d e:I}:eT d e->eT (.ai d) (.ai e)
 |ad {sz:Nat} {ds es:ahI}:kA ds es->eT (.ad sz ds) (.ad sz es)
 |tuple {ds es:ahI}:kA ds es->eT (.tuple ds) (.tuple es)
 |ref {d e:I}:eT d e->eT (.ref d) (.ref e)
 |trans {d e f:I}:eT d e->eT e f->eT d f
inductive kA:ahI->ahI->Prop
 |nil:kA [] []
 |cons {d e:I} {ds es:ahI}:eT d e->kA ds es->kA (d::ds) (e::es)
end
mutual
theorem eT.wd:∀{d e:I},eT d e->e.wd=d.wd
 |_,_,.refl _=>rfl
 |_,_,.fJ _=>rfl
 |_,_,.oY=>rfl
 |_,_,.any _=>rfl
 |_,_,.share d _ _ _ _ _=>I.AN d
 |_,_,.agg h=>by simp only[I.wd];exact kA.wd h
 |_,_,.ai _=>rfl
 |_,_,.ad _=>rfl
 |_,_,.tuple h=>by simp only[I.wd];exact kA.wd h
 |_,_,.ref _=>rfl
 |_,_,.trans h k=>(eT.wd k).trans (eT.wd h)
theorem kA.wd:∀{ds es:ahI},kA ds es->I.dO es=I.dO ds
 |_,_,.nil=>rfl
 |_,_,.cons h ae=>by simp only[I.dO];rw[eT.wd h,kA.wd ae]
end
theorem kA.len {ds es:ahI} (h:kA ds es):es.length=ds.length:=by
 induction ds generalizing es with
 |nil=>cases h;rfl
 |cons d ds ih=>cases h with|cons h ae=>simp[ih ae]
theorem kA.all {sz:Nat} {ds es:ahI} (h:kA ds es) (al:∀d∈ds,d.wd=sz):∀d∈es,d.wd=sz:=by
 induction ds generalizing es with
 |nil=>cases h;intro d al;cases al
 |cons d ds ih=>
  cases h with
  |cons h ae=>
   intro x aA;rcases List.mem_cons.1 aA with rfl|aA
   .rw[h.wd];exact al d (by simp)
   .exact ih ae (λd hm=>al d (by simp[hm])) x aA
section
variable {w0 w:World} {F0 X F:Nat->Prop} {S:Nat->Nat->Prop} {s aH:ao} {aF:Nat->Value}
def T3 (w:World) (F:Nat->Prop) (_d e:I) (cs:ahF) (S:Nat->Prop):Prop:=
 ∃iG iH:Nat->Prop,(∀b,iG b->S b)/\(∀b,iH b->S b)/\(∀b,iH b->¬iG b)/\∀bJ,(∀b,F b\/iG b->bJ b)->ay w bJ e cs iH
mutual
theorem ay.pV:∀{d e:I},eT d e->∀{F:Nat->Prop} {cs:ahF} {S:Nat->Prop},ay w F d cs S->T3 w F d e cs S
 |_,_,.refl _,F,cs,S,h=>⟨λ_=>False,S,λ_ h=>h.elim,λ_ h=>h,λ_ _ h=>h,λbJ bm=>ay.mono (λb U=>bm b (.inl U)) _ _ _ _ (λ_ h=>h) h⟩
 | .ah,_,.fJ sz,F,cs,S,h=>⟨λ_=>False,S,λ_ h=>h.elim,λ_ h=>h,λ_ _ h=>h,λbJ bm=>by simp only[ay]at h⊢;exact .inl ⟨trivial,_,h⟩⟩
 | .ah,_,.oY,F,cs,S,h=>⟨λ_=>False,S,λ_ h=>h.elim,λ_ h=>h,λ_ _ h=>h,λbJ bm=>by simp only[ay]at h⊢;exact .inl ⟨trivial,none,0,h,zero_le _,λ_=>rfl⟩⟩
 | .bool _,_,.any b,F,cs,S,h=>⟨λ_=>False,S,λ_ h=>h.elim,λ_ h=>h,λ_ _ h=>h,λbJ bm=>by simp only[ay]at h⊢;exact⟨b,h⟩⟩
 |_,_,.share d _ _ _ _ _,F,cs,S,h=>⟨S,λ_=>False,λ_ h=>h,λ_ h=>h.elim,λ_ h=>h.elim,λbJ bm=>ay.shared (λb U=>bm b (.inl U)) d cs S (λb U=>bm b (.inr U)) h⟩
 |_,_,.agg j4,F,cs,S,h=>by
  rw[ay]at h;obtain⟨iG,iH,af,ag,aJ,a_⟩:=bh.pV j4 h;exact⟨iG,iH,af,ag,aJ,λbJ bm=>by rw[ay];exact a_ bJ bm⟩
 |_,_,.ai al,F,cs,S,h=>by
  rw[ay]at h;obtain⟨b,cur,ty,fr,aS,cv,cK,eJ,cU,fq,dW,jc⟩:=h;obtain⟨iG,iH,af,ag,aJ,a_⟩:=ay.pV al fq;refine⟨iG,λc=>c=b\/iH c,λc aC=>dW c (af c aC),?_,?_,λbJ bm=>?_⟩
  .rintro c (rfl|aC)
   .exact cK
   .exact dW c (ag c aC)
  .rintro c (rfl|aC) bS
   .exact jc (af _ bS)
   .exact aJ c aC bS
  .rw[ay];exact⟨b,cur,ty,fr,iH,cv,.inl rfl,eJ,cU,a_ bJ bm,λc aC=>.inr aC,λaC=>jc (ag _ aC)⟩
 | .ad sz ds,.ad _ es,.ad j4,F,cs,S,h=>by
   rw[ay]at h;have hl:=j4.len;rcases h with⟨af,ag⟩|⟨b,cap,cur,ty,fr,aS,cv,cK,eJ,cU,fq,dW,jc,c0,mU,iD,Lx⟩
   .refine⟨λ_=>False,S,λ_ h=>h.elim,λ_ h=>h,λ_ _ h=>h,λbJ _=>?_⟩;rw[ay];subst af;exact .inl ⟨List.length_eq_zero_iff.1 (by simpa using hl),ag⟩
   .obtain⟨iG,iH,af,ag,aJ,a_⟩:=bh.pV j4 mU;refine⟨iG,λc=>c=b\/iH c,λc aC=>iD c (af c aC),?_,?_,λbJ bm=>?_⟩
    .rintro c (rfl|aC)
     .exact cK
     .exact iD c (ag c aC)
    .rintro c (rfl|aC) bS
     .exact Lx (af _ bS)
     .exact aJ c aC bS
    .rw[ay];refine .inr ⟨b,cap,cur,ty,fr,iH,by rw[hl];exact cv,.inl rfl,eJ,cU,by rw[hl];exact fq,dW,jc,j4.all c0,by rw[hl];exact a_ bJ bm,λc aC=>.inr aC,λaC=>Lx (ag _ aC)⟩
 |_,_,.tuple j4,F,cs,S,h=>by
  rw[ay]at h;obtain⟨iG,iH,af,ag,aJ,a_⟩:=bh.pV j4 h;exact⟨iG,iH,af,ag,aJ,λbJ bm=>by rw[ay];exact a_ bJ bm⟩
 |_,_,.ref al,F,cs,S,h=>by
  rw[ay]at h;obtain⟨b,o,eA,af,ag,aJ,a_⟩:=h;obtain⟨iG,iH,cv,cK,eJ,cU⟩:=ay.pV al a_;refine⟨λ_=>False,S,λ_ h=>h.elim,λ_ h=>h,λ_ _ h=>h,λbJ bm=>?_⟩;rw[ay];exact⟨b,o,eA,af,bm _ (.inl ag),aJ,ay.mono (λ_ h=>h) _ _ _ _ (λb U=>cK b U) (cU bJ λb U=>bm b (U.imp id λh=>(cv b h).elim))⟩
 |_,_,.trans al he,F,cs,S,h=>by
  obtain⟨iG,iH,af,ag,aJ,a_⟩:=ay.pV al h;obtain⟨Fb,Bs,cv,cK,eJ,cU⟩:=ay.pV he (F:=λb=>F b\/iG b) (a_ _ λ_ h=>h);refine⟨λb=>iG b\/Fb b,Bs,?_,λb U=>ag b (cK b U),?_,λbJ bm=>cU bJ λb U=>?_⟩
  .rintro b (h|h)
   .exact af b h
   .exact ag b (cv b h)
  .rintro b U (h|h)
   .exact aJ b (cK b U) h
   .exact eJ b U h
  .rcases U with(U|U)|U
   .exact bm b (.inl U)
   .exact bm b (.inr (.inl U))
   .exact bm b (.inr (.inr U))
theorem bh.pV:∀{ds es:ahI},kA ds es->∀{F:Nat->Prop} {cs:ahF} {S:Nat->Prop},bh w F ds cs S->
  ∃iG iH:Nat->Prop,(∀b,iG b->S b)/\(∀b,iH b->S b)/\(∀b,iH b->¬iG b)/\∀bJ,(∀b,F b\/iG b->bJ b)->bh w bJ es cs iH
 |_,_,.nil,F,cs,S,h=>⟨λ_=>False,λ_=>False,λ_ h=>h.elim,λ_ h=>h.elim,λ_ h=>h.elim,λbJ bm=>by rw[bh]at h⊢;exact h⟩
 |_,_,.cons al j4,F,cs,S,h=>by
  rw[bh]at h;obtain⟨b1,cd,ck,dq,rfl,bk,ca,dr,er,hd⟩:=h;obtain⟨T4,Ly,J,aB,eb,ed⟩:=ay.pV al bk;obtain⟨Fb,Bs,gr,dL,jd,cX⟩:=bh.pV j4 ca;refine⟨λb=>T4 b\/Fb b,λb=>Ly b\/Bs b,?_,?_,?_,λbJ bm=>?_⟩
  .rintro b (h|h)
   .exact dr b (J b h)
   .exact er b (gr b h)
  .rintro b (h|h)
   .exact dr b (aB b h)
   .exact er b (dL b h)
  .rintro b (h|h) (bO|bO)
   .exact eb b h bO
   .exact hd b (aB b h) (gr b bO)
   .exact hd b (J b bO) (dL b h)
   .exact jd b h bO
  .rw[bh];refine⟨b1,cd,Ly,Bs,rfl,ed bJ (λb U=>bm b (U.imp id .inl)),cX bJ (λb U=>bm b (U.imp id .inr)),λb U=>.inl U,λb U=>.inr U,λb af ag=>hd b (aB b af) (dL b ag)⟩
end
theorem eT.Bt:∀{d e:I},eT d e->(∀vs,d≠.tuple vs)->∀vs,e≠.tuple vs
 |_,_,.refl _,h=>h
 |_,_,.fJ _,_=>λ_ h=>by cases h
 |_,_,.oY,_=>λ_ h=>by cases h
 |_,_,.any _,_=>λ_ h=>by cases h
 |_,_,.share d _ _ _ _ _,h=>λvs he=>by cases d<;>first|(cases he;done)|exact h _ rfl
 |_,_,.agg _,_=>λ_ h=>by cases h
 |_,_,.ai _,_=>λ_ h=>by cases h
 |_,_,.ad _,_=>λ_ h=>by cases h
 |_,_,.tuple _,h=>λ_ _=>h _ rfl
 |_,_,.ref _,_=>λ_ h=>by cases h
 |_,_,.trans h k,ba=>eT.Bt k (eT.Bt h ba)
theorem eT.iN:∀{d e:I} {v:Value},eT d e->(∀vs,d≠.tuple vs)->dD.iN d v->dD.iN e v
 |_,_,_,.refl _,_,h=>h
 |_,_,_,.fJ _,_,h=>h
 |_,_,_,.oY,_,h=>h
 |_,_,_,.any _,_,h=>h
 |_,_,_,.share d _ ba _ _ _,_,h=>by cases d<;>first|exact h|exact(ba _ rfl).elim
 |_,_,_,.agg _,_,h=>h
 |_,_,_,.ai _,_,h=>h
 |_,_,_,.ad _,_,h=>h
 |_,_,_,.tuple _,ba,_=>(ba _ rfl).elim
 |_,_,_,.ref _,_,h=>h
 |_,_,_,.trans h k,ba,ae=>eT.iN k (eT.Bt h ba) (eT.iN h ba ae)
theorem kA.get:∀{ds es:ahI},kA ds es->∀(k:Nat) (e:I),es[k]? =some e->∃d,ds[k]? =some d/\eT d e
 |_,_,.nil,k,e,h=>by simp at h
 |_,_,.cons al ae,0,e,h=>by simp at h;subst h;exact⟨_,rfl,al⟩
 |_,_,.cons al ae,k+1,e,h=>kA.get ae k e (by simpa using h)
theorem eT.dy:∀{d e:I} {v:Value},eT d e->dD.dy d v->dD.dy e v
 |_,_,_,.refl _,ae=>ae
 |_,_,_,.fJ _,ae=>ae
 |_,_,_,.oY,ae=>ae
 |_,_,_,.any _,ae=>ae
 |_,_,_,.share _ _ ny _ _ _,ae=>EY ny ae
 |_,_,_,.agg _,ae=>ae
 |_,_,_,.ai _,ae=>ae
 |_,_,_,.ad _,ae=>ae
 |_,_,_,.ref _,ae=>ae
 |_,_,_,.tuple al,ae=>by
  obtain⟨arr,af,ag,aJ⟩:=ae;refine⟨arr,af,ag.trans al.len.symm,λk e x he aA=>?_⟩;obtain⟨d,au,hw⟩:=al.get k e he;obtain⟨J,aB,eb⟩:=aJ k d x au aA;exact⟨hw.iN aB J,hw.Bt aB,eb.trans hw.wd.symm⟩
 |_,_,_,.trans h k,ae=>eT.dy k (eT.dy h ae)
theorem eT.tree:∀{d e:I},eT d e->d.tree=true->e.tree=true
 |_,_,.refl _,al=>al
 |_,_,.fJ _,_=>rfl
 |_,_,.oY,_=>rfl
 |_,_,.any _,_=>rfl
 |_,_,.share d _ _ lx EZ E0,al=>by cases d<;>first|exact al|rfl|exact(lx _ rfl).elim|exact(EZ _ _ rfl).elim|exact(E0 _ rfl).elim
 |_,_,.agg _,_=>rfl
 |_,_,.ai _,_=>rfl
 |_,_,.ad _,_=>rfl
 |_,_,.tuple _,_=>rfl
 |_,_,.ref _,_=>rfl
 |_,_,.trans h k,al=>eT.tree k (eT.tree h al)
mutual
def I.sR:I->ahC
 | .h x q=>if q.isEmpty then []else [x]
 | .aw x _=>[x]
 | .U x _=>[x]
 | .fn _ cap=>I.sS cap
 |_=>[]
def I.sS:ahI->ahC
 |[]=>[]
 |d::ds=>d.sR++I.sS ds
end
def yI (s aH:ao) (x:Nat) (D:ahC):Prop:=aH x=s x\/aH x= .hole\/((s x).own=true/\(aH x).own=true/\x∉D)
theorem yI.less {s aH:ao} {x:Nat} {D E:ahC} (h:yI s aH x D) (Fe:∀u∈E,u∈D):yI s aH x E:=by
 rcases h with h|h|⟨af,ag,aJ⟩
 .exact .inl h
 .exact .inr (.inl h)
 .exact .inr (.inr ⟨af,ag,λaA=>aJ (Fe x aA)⟩)
theorem aO.e6 {bJ:Nat->Prop} (bm:∀b,F b->bJ b):∀n,(∀(d:I) (v:Value) (dI:Nat->Prop),SizeOf.sizeOf d<=n->(∀x∈d.ae,yI s aH x d.sR)->aO w F s aF d v dI->aO w bJ aH aF d v dI)/\
  (∀(ds:ahI) (vs:ahF),SizeOf.sizeOf ds<=n->(∀x∈I.dK ds,yI s aH x (I.sS ds))->ef w F s aF ds vs->ef w bJ aH aF ds vs):=by
 intro n;induction n with
 |zero=>
  refine⟨λd v dI b3=>?_,λds vs b3=>?_⟩
  .cases d<;>simp at b3<;>omega
  .cases ds<;>simp at b3<;>omega
 |succ n ih=>
  refine⟨λd v dI b3 au h=>?_,λds vs b3 au h=>?_⟩
  .cases d with
   |hole=>rw[aO];trivial
   |h x q=>
    rw[aO]at h⊢;intro e fz aw;rcases au x (by simp[I.ae])with he|he|⟨Lz,T5,yJ⟩
    .rw[he]at fz⊢;exact h e fz aw
    .rw[he]at fz;cases q with
     |nil=>simp only[I.sub,Option.some.injEq]at fz;subst fz;simp[I.plain]at aw
     |cons k q=>simp[I.sub]at fz
    .cases q with
     |nil=>
      simp only[I.sub,Option.some.injEq]at fz;subst fz;obtain⟨cO,j,fp,fP,ha⟩:=h (s x) (by simp only[I.sub]) (uw Lz).1;simp only[dh,Option.some.injEq,Prod.mk.injEq,true_and]at fp;exact⟨ct (aF x),none,by simp only[dh],by rw[fP,<-fp.1],((uw T5).2.2.2.2.2 _).2 (((uw Lz).2.2.2.2.2 _).1 ha)⟩
     |cons k q=>exact(yJ (by simp[I.sR])).elim
   |aw x q=>
    rw[aO]at h⊢;intro e fz aC;rcases au x (by simp[I.ae])with he|he|⟨_,_,yJ⟩
    .rw[he]at fz aC⊢;exact h e fz aC
    .rw[he]at aC;cases q<;>simp[I.fU]at aC
    .exact(yJ (by simp[I.sR])).elim
   |U x k=>
    rw[aO]at h⊢;intro aw;rcases au x (by simp[I.ae])with he|he|⟨_,_,yJ⟩
    rotate_left 2
    .exact(yJ (by simp[I.sR])).elim
    .rw[he]at aw;obtain⟨b,cur,e,fr,af,ag,aJ,a_⟩:=h aw;exact⟨b,cur,e,fr,af,bm b ag,aJ,a_⟩
    .rw[he]at aw;simp[I.plain]at aw
   |fn f cap=>
    rw[aO]at h⊢;obtain⟨arr,rfl,aC⟩:=h;exact⟨arr,rfl,ih.2 _ _ (by simp at b3;omega) (by simpa [I.ae,I.sR]using au) aC⟩
   |_=>
    have bO:=(aO.cI rfl).1 h;exact(aO.cI rfl).2 ⟨bO.1,ay.mono bm _ _ _ _ (λ_ h=>h) bO.2⟩
  .cases ds with
   |nil=>rw[ef]at h⊢;exact h
   |cons d ds=>
    rw[ef]at h⊢;obtain⟨v,gY,rfl,af,ag⟩:=h;simp at b3;simp only[I.dK,List.mem_append]at au;exact⟨v,gY,rfl,ih.1 _ _ _ (by omega) (λx aA=>(au x (.inl aA)).less λu hu=>by simp[I.sS,hu]) af,ih.2 _ _ (by omega) (λx aA=>(au x (.inr aA)).less λu hu=>by simp[I.sS,hu]) ag⟩
def rR (s:ao) (l:ahH):Prop:=
 ∀p∈l,p.2=s p.1\/((s p.1).tree=true/\eT (s p.1) p.2/\∀cE∈l,p.1∉cE.2.ae\/((s p.1).own=true/\p.2.own=true/\p.1∉cE.2.sR))
theorem Ff:∀(l:ahH) (t:Nat),an l t= .hole\/∃p∈l,p.1=t/\an l t=p.2:=by
 intro l;induction l with
 |nil=>intro t;exact .inl rfl
 |cons p l ih=>
  intro t;obtain⟨u,d⟩:=p;simp only[an];split
  .rename_i e;exact .inr ⟨(u,d),by simp,e.symm,rfl⟩
  .rcases ih t with h|⟨p,aw,h⟩
   .exact .inl h
   .exact .inr ⟨p,by simp[aw],h⟩
theorem bK.Fg (h:bK w0 F0 X F S s aF w) {l:ahH} (hw:rR s l):∃bJ aS,bK w0 F0 X bJ aS (an l) aF w:=by
 have each:∀t,∃iG iH:Nat->Prop,(∀b,iG b->S t b)/\(∀b,iH b->S t b)/\(∀b,iH b->¬iG b)/\∀bJ,(∀b,F b\/iG b->bJ b)->aO w bJ (an l) aF (an l t) (aF t) iH:=by
  intro t;rcases Ff l t with e|⟨p,aw,rfl,e⟩
  .exact⟨λ_=>False,λ_=>False,λ_ h=>h.elim,λ_ h=>h.elim,λ_ h=>h.elim,λbJ _=>by rw[e,aO];trivial⟩
  .rw[e];rcases hw p aw with au|⟨aZ,kQ,_⟩
   .refine⟨λ_=>False,S p.1,λ_ h=>h.elim,λ_ h=>h,λ_ _ h=>h,λbJ bm=>?_⟩;rw[au];refine(aO.e6 (λb U=>bm b (.inl U)) (SizeOf.sizeOf (s p.1))).1 _ _ _ (Nat.le_refl _) ?_ (h.dz p.1);intro x aA;rcases Ff l x with dJ|⟨cE,dT,rfl,dJ⟩
    .exact .inr (.inl dJ)
    .rcases hw cE dT with g8|⟨_,_,lx⟩
     .exact .inl (dJ.trans g8)
     .rcases lx p aw with lx|⟨j5,kz,vZ⟩
      .exact(lx (by rw[au];exact aA)).elim
      .exact .inr (.inr ⟨j5,by rw[dJ];exact kz,by rw[au]at vZ;exact vZ⟩)
   .obtain⟨aX,bk⟩:=(aO.cI aZ).1 (h.dz p.1);obtain⟨iG,iH,cv,cK,eJ,cU⟩:=ay.pV kQ bk;exact⟨iG,iH,cv,cK,eJ,λbJ bm=>(aO.cI (kQ.tree aZ)).2 ⟨kQ.dy aX,cU bJ bm⟩⟩
 have b1:=λt=>(each t).choose_spec;let iG:=λt=>(each t).choose
 have cd:=λt=>(b1 t).choose_spec;let iH:=λt=>(b1 t).choose
 have gu:∀t b,iG t b->S t b:=λt=>(cd t).1;have fF:∀t b,iH t b->S t b:=λt=>(cd t).2.1;have jb:∀t b,iH t b->¬iG t b:=λt=>(cd t).2.2.1;have iC:=λt=>(cd t).2.2.2;refine⟨λb=>F b\/∃t,iG t b,iH,λb U=>.inl (h.g5 b U),?_,?_,λt b U=>h.et t b (fF t b U),?_,λt u b dG U hu=>h.fe t u b dG (fF t b U) (fF u b hu),λt b U=>h.dI t b (fF t b U),?_,h.old,h.size,h.os,h.tape,h.output,h.hG⟩
 .rintro b (U|⟨t,U⟩)
  .exact h.ho b U
  .exact .inr (h.dI t b (gu t b U))
 .rintro b (U|⟨t,U⟩)
  .exact h.fR b U
  .exact h.et t b (gu t b U)
 .rintro t b U (bS|⟨u,hu⟩)
  .exact h.fS t b (fF t b U) bS
  .by_cases e:t=u
   .subst e;exact jb t b U hu
   .exact h.fe t u b e (fF t b U) (gu u b hu)
 .intro t;exact iC t _ (λb U=>U.imp id λh=>⟨t,h⟩)
end
inductive aT where
 |skip
 |e0 (ros:List bW) (e6:Option ahC)
 |h9 (ros:List bW) (pU:ahA) (e6:Option ahC)
 |seq (a b:aT)
 |cond (c:bn) (a b:aT)
 |block (id:Nat) (b:aT)
 |loop (b:aT)
 |exit (id:Nat)
 |ret
 |i1 (T:(Exit->ao->Prop)->ao->Prop) (b:aT)
 |raw (c:Code)
def ft (n:Fr):Code->Option aT
 | .skip=>some .skip
 | .region id ops false=>match pS n ops ops.toList with
   |some r=>some (.e0 r none)
   |none=>some (.raw (.region id ops false))
 | .region _ ops true=>if v7 (nC ops)=true then(pS n ops ops.toList).map λr=>.h9 r (nC ops) none else none
 | .seq a b=>match ft n a,ft n b with
   |some a,some b=>some (.seq a b)
   |_,_=>none
 | .cond c a b=>match dE c,ft n a,ft n b with
   |some c,some a,some b=>some (.cond c a b)
   |_,_,_=>none
 | .block id b=>(ft n b).map (.block id)
 | .loop b=>(ft n b).map .loop
 | .exit id=>some (.exit id)
 | .ret=>some .ret
 |_=>none
def aT.l1:aT->aT
 | .e0 ros _=>.e0 ros none
 | .h9 ros bT _=>.h9 ros bT none
 | .seq a b=>.seq a.l1 b.l1
 | .cond c a b=>.cond c a.l1 b.l1
 | .block id b=>.block id b.l1
 | .loop b=>.loop b.l1
 | .i1 T b=>.i1 T b.l1
 |c=>c
def aT.strip:aT->aT
 | .e0 ros _=>.e0 (ros.map bW.un) none
 | .h9 ros bT _=>.h9 (ros.map bW.un) bT none
 | .seq a b=>.seq a.strip b.strip
 | .cond c a b=>.cond c a.strip b.strip
 | .block id b=>.block id b.strip
 | .loop b=>.loop b.strip
 | .i1 _ b=>b.strip
 |c=>c
theorem aT.Fh:∀c:aT,c.l1.strip=c.strip:=by
 intro c;induction c with
 |seq a b kB kC=>simp only[aT.l1,aT.strip,kB,kC]
 |cond c a b kB kC=>simp only[aT.l1,aT.strip,kB,kC]
 |block id b ih=>simp only[aT.l1,aT.strip,ih]
 |loop b ih=>simp only[aT.l1,aT.strip,ih]
 |i1 T b ih=>simp only[aT.l1,aT.strip,ih]
 |_=>rfl
def aT.bare (H:((Exit->ao->Prop)->ao->Prop)->aT->Prop):aT->Prop
 | .e0 _ k=>k=none
 | .h9 _ _ k=>k=none
 | .seq a b=>a.bare H/\b.bare H
 | .cond _ a b=>a.bare H/\b.bare H
 | .block _ b=>b.bare H
 | .loop b=>b.bare H
 | .i1 T b=>H T b
 |_=>True
def aT.n5 (H:((Exit->ao->Prop)->ao->Prop)->aT->Prop):aT->Prop
 | .seq a b=>a.n5 H/\b.n5 H
 | .cond _ a b=>a.n5 H/\b.n5 H
 | .block _ b=>b.n5 H
 | .loop b=>b.n5 H
 | .i1 T b=>H T b.l1
 |_=>True
theorem aT.Fi {H:((Exit->ao->Prop)->ao->Prop)->aT->Prop}:∀c:aT,c.n5 H->c.l1.bare H:=by
 intro c;induction c with
 |seq a b kB kC=>intro h;exact⟨kB h.1,kC h.2⟩
 |cond c a b kB kC=>intro h;exact⟨kB h.1,kC h.2⟩
 |block id b ih=>intro h;exact ih h
 |loop b ih=>intro h;exact ih h
 |e0=>intro _;rfl
 |h9=>intro _;rfl
 |i1 T b _=>intro h;exact h
 |_=>intro _;trivial
def aT.plain:aT->Bool
 | .seq a b=>a.plain&&b.plain
 | .cond _ a b=>a.plain&&b.plain
 | .block _ b=>b.plain
 | .loop b=>b.plain
 | .i1 _ _=>false
 |_=>true
theorem aT.T6 {H:((Exit->ao->Prop)->ao->Prop)->aT->Prop}:∀c:aT,c.plain=true->c.n5 H:=by
 intro c;induction c with
 |seq a b kB kC=>intro h;simp only[aT.plain,Bool.and_eq_true]at h;exact⟨kB h.1,kC h.2⟩
 |cond c a b kB kC=>intro h;simp only[aT.plain,Bool.and_eq_true]at h;exact⟨kB h.1,kC h.2⟩
 |block id b ih=>intro h;exact ih h
 |loop b ih=>intro h;exact ih h
 |i1 T b _=>intro h;cases h
 |_=>intro _;trivial
def andThen (K:ao->Prop) (Q:Exit->ao->Prop):Exit->ao->Prop
 | .normal,s=>K s
 |e,s=>Q e s
def v8 (id:Nat) (Q:Exit->ao->Prop):Exit->ao->Prop
 | .exit i,s=>if i=id then Q .normal s else Q (.exit i) s
 |e,s=>Q e s
def eK (K:ao->Prop) (s:ao):Prop:=K s\/∃l,rR s l/\K (an l)
def iI:Option ahC->(ao->Prop)->ao->Prop
 |none,K,s=>eK K s
 |some k,K,s=>K (an (k.map λt=>(t,s t)))
def bp (C:bV):aT->(Exit->ao->Prop)->ao->Prop
 | .skip,Q,s=>Q .normal s
 | .e0 ros e6,Q,s=>l0 C s ros (iI e6 (Q .normal))
 | .h9 ros pU e6,Q,s=>∀l,oX pU l->g2 C ros s l (iI e6 (Q .normal))
 | .seq a b,Q,s=>bp C a (andThen (eK (bp C b Q)) Q) s
 | .cond c a b,Q,s=>match br s c with
   | .bool ee=>if ee=true then bp C a Q s else bp C b Q s
   | .fo=>bp C a Q s/\bp C b Q s
   |_=>False
 | .block id b,Q,s=>bp C b (v8 id Q) s
 | .loop b,Q,s=>eK (λs=>∀Z:ao->Prop,(∀aH,bp C b (andThen (eK Z) Q) aH->Z aH)->Z s) s
 | .exit id,Q,s=>Q (.exit id) s
 | .ret,Q,s=>Q .ret s
 | .i1 T _,Q,s=>∀eC:Exit->ao->Prop,(∀e s,Q e s->eC e s)->T eC s
 | .raw _,_,_=>False
section
variable {C:bV}
theorem yK {s:ao} {o:bW} {K de:ao->Prop} (h:ld C s o K) (au:∀s,K s->de s):ld C s o de:=by
 unfold ld at h⊢;split
 .rename_i bP;rw[bP]at h;exact Bp h λav s1=>au _
 .rename_i t b bP;rw[bP]at h;simp only at h;split
  .rename_i ee ae;rw[ae]at h;simp only at h;split
   .rename_i U;rw[if_pos U]at h;exact Bp h λav s1=>au _
   .rename_i U;rw[if_neg U]at h;exact au _ h
  .rename_i ae;rw[ae]at h;exact au _ h
  .rename_i af ag;split at h
   .exact af _ (by assumption)
   .exact ag (by assumption)
   .exact h
theorem LA {K de:ao->Prop} (au:∀s,K s->de s):∀{ros:List bW} {s:ao},l0 C s ros K->l0 C s ros de:=by
 intro ros;induction ros with
 |nil=>intro s h;exact au s h
 |cons o ros ih=>intro s h;exact yK h λs h=>ih h
theorem LB {ros:List bW} {K de:ao->Prop} (au:∀s,K s->de s):∀{l:ahC} {s:ao},g2 C ros s l K->g2 C ros s l de:=by
 intro l;induction l with
 |nil=>intro s h;exact au s h
 |cons i l ih=>
  intro s h;simp only[g2]at h⊢;split
  .rename_i b_;rw[b_]at h;exact ih h
  .rename_i o b_;rw[b_]at h;exact yK h λs h=>ih h
theorem uD {K de:ao->Prop} (au:∀s,K s->de s) (s:ao) (h:eK K s):eK de s:=
 h.imp (au s) λ⟨l,af,ag⟩=>⟨l,af,au _ ag⟩
theorem LC {e6:Option ahC} {K de:ao->Prop} (au:∀s,K s->de s) (s:ao) (h:iI e6 K s):iI e6 de s:=by
 cases e6 with
 |none=>exact uD au s h
 |some k=>exact au _ h
theorem LD {e6:Option ahC} {K:ao->Prop} {s:ao} (h:iI e6 K s):eK K s:=by
 cases e6 with
 |none=>exact h
 |some k=>
  refine .inr ⟨_,?_,h⟩;intro p aw;obtain⟨t,_,rfl⟩:=List.mem_map.1 aw;exact .inl rfl
theorem Fj {K de:ao->Prop} {Q eC:Exit->ao->Prop} (au:∀s,K s->de s) (cM:∀e s,Q e s->eC e s):∀e s,andThen K Q e s->andThen de eC e s:=by
 intro e s h;cases e with
 |normal=>exact au s h
 |_=>exact cM _ s h
theorem LF:∀(c:aT) {Q eC:Exit->ao->Prop} {s:ao},(∀e s,Q e s->eC e s)->bp C c Q s->bp C c eC s:=by
 intro c;induction c with
 |skip=>intro Q eC s cM h;exact cM _ _ h
 |e0 ros e6=>intro Q eC s cM h;exact LA (LC (cM _)) h
 |h9 ros pU e6=>intro Q eC s cM h l hl;exact LB (LC (cM _)) (h l hl)
 |seq a b kB kC=>
  intro Q eC s cM h;exact kB (Fj (λs h=>uD (λ_ h=>kC cM h) s h) cM) h
 |cond c a b kB kC=>
  intro Q eC s cM h;simp only[bp]at h⊢;split
  .rename_i ee U;rw[U]at h;simp only at h;split
   .rename_i e;rw[if_pos e]at h;exact kB cM h
   .rename_i e;rw[if_neg e]at h;exact kC cM h
  .rename_i U;rw[U]at h;exact⟨kB cM h.1,kC cM h.2⟩
  .rename_i af ag;split at h
   .exact af _ (by assumption)
   .exact ag (by assumption)
   .exact h
 |block id b ih=>
  intro Q eC s cM h;refine ih ?_ h;intro e s h;cases e with
  |exit i=>
   simp only[v8]at h⊢;split
   .rename_i e;rw[if_pos e]at h;exact cM _ _ h
   .rename_i e;rw[if_neg e]at h;exact cM _ _ h
  |_=>exact cM _ _ h
 |loop b ih=>
  intro Q eC s cM h;refine uD (λs h Z v9=>?_) s h;exact h Z λaH g3=>v9 aH (ih (Fj (λ_ h=>h) cM) g3)
 |exit id=>intro Q eC s cM h;exact cM _ _ h
 |ret=>intro Q eC s cM h;exact cM _ _ h
 |i1 T b _=>intro Q eC s cM h T7 ag;exact h T7 λe s he=>ag e s (cM e s he)
 |raw c=>intro Q eC s cM h;exact h
theorem Fk:∀(c:aT) {Q:Exit->ao->Prop} {s:ao},bp C c Q s->bp C c.l1 Q s:=by
 intro c;induction c with
 |e0 ros e6=>intro Q s h;exact LA (λs h=>LD h) h
 |h9 ros bT e6=>intro Q s h l hl;exact LB (λs h=>LD h) (h l hl)
 |seq a b kB kC=>intro Q s h;exact kB (LF a (Fj (λs h=>uD (λ_ h=>kC h) s h) (λ_ _ h=>h)) h)
 |cond c a b kB kC=>
  intro Q s h;simp only[aT.l1,bp]at h⊢;split
  .rename_i ee U;rw[U]at h;simp only at h;split
   .rename_i e;rw[if_pos e]at h;exact kB h
   .rename_i e;rw[if_neg e]at h;exact kC h
  .rename_i U;rw[U]at h;exact⟨kB h.1,kC h.2⟩
  .rename_i af ag;split at h
   .exact af _ (by assumption)
   .exact ag (by assumption)
   .exact h
 |block id b ih=>intro Q s h;exact ih h
 |loop b ih=>
  intro Q s h;refine uD (λs h Z v9=>?_) s h;exact h Z λaH g3=>v9 aH (ih g3)
 |i1 T b _=>intro Q s h;exact h
 |_=>intro Q s h;exact h
variable {w0 w:World} {F0 X:Nat->Prop} {n:Fr} {ρ:Nat->Value} {s:ao} {a:Act}
def qQ (w0:World) (F0 X:Nat->Prop) (n:Fr) (ρ:Nat->Value) (Q:Exit->ao->Prop):Exit->Act->World->Prop:=λe a w=>∃s,Q e s/\Rel w0 F0 X n ρ s a w
theorem Rel.eK {K:ao->Prop} {s:ao} {a:Act} {w:World} (aV:Rel w0 F0 X n ρ s a w) (h:eK K s):∃aH,K aH/\Rel w0 F0 X n ρ aH a w:=by
 rcases h with h|⟨l,af,ag⟩
 .exact⟨s,h,aV⟩
 .obtain⟨aX,bk,ca,F,S,dr⟩:=aV;obtain⟨bJ,aS,er⟩:=dr.Fg af;exact⟨an l,ag,aX,bk,ca,bJ,aS,er⟩
theorem aT.T8 {c:aT} (h:c.strip= .skip):c= .skip\/∃T b,c= .i1 T b:=by cases c<;>first|exact .inl rfl|exact .inr ⟨_,_,rfl⟩|cases h
theorem aT.T9 {c:aT} (h:c.strip= .ret):c= .ret\/∃T b,c= .i1 T b:=by cases c<;>first|exact .inl rfl|exact .inr ⟨_,_,rfl⟩|cases h
theorem aT.T_ {c:aT} {i:Nat} (h:c.strip= .exit i):c= .exit i\/∃T b,c= .i1 T b:=by cases c<;>first|exact .inl h|exact .inr ⟨_,_,rfl⟩|cases h
theorem aT.Ua {c:aT} {x:Code} (h:c.strip= .raw x):c= .raw x\/∃T b,c= .i1 T b:=by cases c<;>first|exact .inl h|exact .inr ⟨_,_,rfl⟩|cases h
theorem aT.Ub {c:aT} {r:List bW} {k:Option ahC} (h:c.strip= .e0 r k):(∃ros c7,c= .e0 ros c7/\ros.map bW.un=r)\/∃T b,c= .i1 T b:=by
 cases c<;>first|(cases h;exact .inl ⟨_,_,rfl,rfl⟩)|exact .inr ⟨_,_,rfl⟩|cases h
theorem aT.Uc {c:aT} {r:List bW} {bT:ahA} {k:Option ahC} (h:c.strip= .h9 r bT k):(∃ros LG c7,c= .h9 ros LG c7/\ros.map bW.un=r/\LG=bT)\/∃T b,c= .i1 T b:=by
 cases c<;>first|(cases h;exact .inl ⟨_,_,_,rfl,rfl,rfl⟩)|exact .inr ⟨_,_,rfl⟩|cases h
theorem aT.Ud {c x y:aT} (h:c.strip= .seq x y):(∃a b,c= .seq a b/\a.strip=x/\b.strip=y)\/∃T b,c= .i1 T b:=by
 cases c<;>first|(cases h;exact .inl ⟨_,_,rfl,rfl,rfl⟩)|exact .inr ⟨_,_,rfl⟩|cases h
theorem aT.Ue {c x y:aT} {o:bn} (h:c.strip= .cond o x y):(∃nw a b,c= .cond nw a b/\nw=o/\a.strip=x/\b.strip=y)\/∃T b,c= .i1 T b:=by
 cases c<;>first|(cases h;exact .inl ⟨_,_,_,rfl,rfl,rfl,rfl⟩)|exact .inr ⟨_,_,rfl⟩|cases h
theorem aT.Uf {c x:aT} {i:Nat} (h:c.strip= .block i x):(∃a,c= .block i a/\a.strip=x)\/∃T b,c= .i1 T b:=by
 cases c<;>first|(cases h;exact .inl ⟨_,rfl,rfl⟩)|exact .inr ⟨_,_,rfl⟩|cases h
theorem aT.Ug {c x:aT} (h:c.strip= .loop x):(∃a,c= .loop a/\a.strip=x)\/∃T b,c= .i1 T b:=by
 cases c<;>first|(cases h;exact .inl ⟨_,rfl,rfl⟩)|exact .inr ⟨_,_,rfl⟩|cases h
def mZ:Code->List (Array Oper)
 | .region _ ops _=>[ops]
 | .seq a b=>mZ a++mZ b
 | .cond _ a b=>mZ a++mZ b
 | .block _ b=>mZ b
 | .loop b=>mZ b
 |_=>[]
theorem LH (bx:C.eN) {H:((Exit->ao->Prop)->ao->Prop)->aT->Prop} {R:List (Array Oper)}
  (lF:∀(c:Code) (T:(Exit->ao->Prop)->ao->Prop) (b:aT) (Q:Exit->ao->Prop) (s:ao) (a:Act) (w:World),(∀r∈mZ c,r∈R)->H T b->ft n c=some b.strip->T Q s->Rel w0 F0 X n ρ s a w->c.wp C.P (qQ w0 F0 X n ρ Q) a w):
  ∀(c:Code) {e1:aT} {Q:Exit->ao->Prop} {s:ao} {a:Act} {w:World},(∀r∈mZ c,r∈R)->ft n c=some e1.strip->e1.bare H->bp C e1 Q s->Rel w0 F0 X n ρ s a w->c.wp C.P (qQ w0 F0 X n ρ Q) a w:=by
 intro c;induction c with
 |skip=>
  intro e1 Q s a w fQ ae hp h aV;have lg:=ae;simp only[ft,Option.some.injEq]at ae;rcases aT.T8 ae.symm with rfl|⟨T,b,rfl⟩
  .exact wp_skip ⟨s,h,aV⟩
  .exact lF _ T b Q s a w fQ hp (by simpa only[aT.strip]using lg) (h Q λ_ _ h=>h) aV
 |region id ops draw=>
  intro e1 Q s a w fQ ae hp h aV;have lg:=ae;cases draw with
  |false=>
   simp only[ft]at ae;split at ae
   rotate_left
   .have g3:=(Option.some.injEq _ _▸ae).symm;rcases aT.Ua g3 with rfl|⟨T,b,rfl⟩
    .exact h.elim
    .exact lF _ T b Q s a w fQ hp (by simpa only[aT.strip]using lg) (h Q λ_ _ h=>h) aV
   rename_i Uh yL;simp only[Option.some.injEq]at ae;rcases aT.Ub ae.symm with⟨ros,k,rfl,rfl⟩|⟨T,b,rfl⟩
   rotate_left
   .exact lF _ T b Q s a w fQ hp (by simpa only[aT.strip]using lg) (h Q λ_ _ h=>h) aV
   cases hp;exact TU bx yL (λaH cj aK au ek=>ek.eK au) h aV
  |true=>
   simp only[ft]at ae;split at ae
   .rename_i U;simp only[Option.map_eq_some_iff]at ae;obtain⟨Uh,yL,ae⟩:=ae;rcases aT.Uc ae.symm with⟨ros,bT,k,rfl,rfl,rfl⟩|⟨T,b,rfl⟩
    rotate_left
    .exact lF _ T b Q s a w fQ hp (by simpa only[aT.strip]using lg) (h Q λ_ _ h=>h) aV
    cases hp;refine wp_region_draw λt=>?_;rw[show Region.schedule (C.P.follows .mixedOrders) ops t=Region.linearise .any ops t by simp[Region.schedule,bx.mixed]];exact Lr bx yL (λaH cj aK au ek=>ek.eK au) _ s a _ (h _ (Lu U t)) (aV.drawn _ (by first|exact le_succ _|exact le_add_right _ _|omega))
   .cases ae
 |seq x y Ui Bu=>
  intro e1 Q s a w fQ ae hp h aV;have lg:=ae;simp only[ft]at ae;split at ae
  .rename_i ys Uj aA bu;simp only[Option.some.injEq]at ae;rcases aT.Ud ae.symm with⟨cL,ly,rfl,rfl,rfl⟩|⟨T,b,rfl⟩
   rotate_left
   .exact lF _ T b Q s a w fQ hp (by simpa only[aT.strip]using lg) (h Q λ_ _ h=>h) aV
   refine wp_seq (wp_mono (Ui (λr aV=>fQ r (List.mem_append.2 (.inl aV))) aA hp.1 h aV) ?_);rintro e cj aK ⟨aH,bO,ek⟩;cases e with
   |normal=>
    obtain⟨aH,bO,ek⟩:=ek.eK bO;exact Bu (λr aV=>fQ r (List.mem_append.2 (.inr aV))) bu hp.2 bO ek
   |_=>exact⟨aH,bO,ek⟩
  .cases ae
 |cond x y z Bu LI=>
  intro e1 Q s a w fQ ae hp h aV;have lg:=ae;simp only[ft]at ae;split at ae
  .rename_i ys Uj sz aA bu b3;simp only[Option.some.injEq]at ae;rcases aT.Ue ae.symm with⟨cL,ly,rr,rfl,rfl,rfl,rfl⟩|⟨T,b,rfl⟩
   rotate_left
   .exact lF _ T b Q s a w fQ hp (by simpa only[aT.strip]using lg) (h Q λ_ _ h=>h) aV
   have ek:=aV;obtain⟨al,dR,bS,F,S,hrel⟩:=ek;have aP:=(fA (a:=a) hrel (λ_=>rfl) aA).2;simp only[bp]at h;split at h
   .rename_i ee U;rw[U]at aP;have:=sE aP;refine wp_cond this ?_;split
    .rename_i e;rw[if_pos e]at h;exact Bu (λr aV=>fQ r (List.mem_append.2 (.inl aV))) bu hp.1 h aV
    .rename_i e;rw[if_neg e]at h;exact LI (λr aV=>fQ r (List.mem_append.2 (.inr aV))) b3 hp.2 h aV
   .rename_i U;rw[U]at aP;obtain⟨ee,mN⟩:=J8 aP;refine wp_cond mN ?_;split
    .exact Bu (λr aV=>fQ r (List.mem_append.2 (.inl aV))) bu hp.1 h.1 aV
    .exact LI (λr aV=>fQ r (List.mem_append.2 (.inr aV))) b3 hp.2 h.2 aV
   .exact h.elim
  .cases ae
 |block id b ih=>
  intro e1 Q s a w fQ ae hp h aV;have lg:=ae;simp only[ft,Option.map_eq_some_iff]at ae;obtain⟨A9,U,ae⟩:=ae;rcases aT.Uf ae.symm with⟨ee,rfl,rfl⟩|⟨T,b,rfl⟩
  rotate_left
  .exact lF _ T b Q s a w fQ hp (by simpa only[aT.strip]using lg) (h Q λ_ _ h=>h) aV
  refine wp_block (wp_mono (ih fQ U hp h aV) ?_);rintro e cj aK ⟨aH,bO,ek⟩;cases e with
  |exit i=>
   simp only[v8]at bO;simp only[Exit.inBlock];split
   .rename_i e;rw[if_pos e]at bO;exact⟨aH,bO,ek⟩
   .rename_i e;rw[if_neg e]at bO;exact⟨aH,bO,ek⟩
  |_=>exact⟨aH,bO,ek⟩
 |loop b ih=>
  intro e1 Q s a w fQ ae hp h aV;have lg:=ae;simp only[ft,Option.map_eq_some_iff]at ae;obtain⟨A9,U,ae⟩:=ae;rcases aT.Ug ae.symm with⟨ee,rfl,rfl⟩|⟨T,b,rfl⟩
  rotate_left
  .exact lF _ T b Q s a w fQ hp (by simpa only[aT.strip]using lg) (h Q λ_ _ h=>h) aV
  obtain⟨s,h,aV⟩:=aV.eK h;have key:=h (λs=>∀a w,Rel w0 F0 X n ρ s a w->∀(f:Frame) (k:List Item) (cs:List Frame),∃e cj aK,qQ w0 F0 X n ρ Q e cj aK/\Arrives C.P (lone (f.at a (.code b:: .inLoop b::k)) cs w) f k cs e cj aK) ?_
  .intro f k cs;obtain⟨e,cj,aK,cM,sT⟩:=key a w aV f k cs;exact⟨e,cj,aK,cM,.of_steps (.one step_loop) sT⟩
  .intro aH g3 a w aV f k cs;obtain⟨e,a₁,w₁,⟨s1,cM,qR⟩,sT⟩:=ih fQ U hp g3 aV f (.inLoop b::k) cs;cases e with
   |normal=>
    simp only[andThen]at cM;obtain⟨s1,cM,qR⟩:=qR.eK cM;obtain⟨e₂,a₂,w₂,hq₂,harr₂⟩:=cM a₁ w₁ qR f k cs;exact⟨e₂,a₂,w₂,hq₂,.of_steps (Steps.trans sT (.one step_inLoop)) harr₂⟩
   |exit id=>exact⟨_,a₁,w₁,⟨s1,cM,qR⟩,.pass (x:=.inLoop b) rfl (λ_ _=>.inl (by simp)) sT⟩
   |goto l=>exact⟨_,a₁,w₁,⟨s1,cM,qR⟩,.pass (x:=.inLoop b) rfl (λ_ _=>.inl (by simp)) sT⟩
   |ret=>exact⟨_,a₁,w₁,⟨s1,cM,qR⟩,.pass (x:=.inLoop b) rfl (λ_ _=>.inl (by simp)) sT⟩
   |panic agm=>exact⟨_,a₁,w₁,⟨s1,cM,qR⟩,.pass (x:=.inLoop b) rfl (λ_ _=>.inl (by simp)) sT⟩
   |outgrown=>exact⟨_,a₁,w₁,⟨s1,cM,qR⟩,.pass (x:=.inLoop b) rfl (λ_ _=>.inl (by simp)) sT⟩
 |exit id=>
  intro e1 Q s a w fQ ae hp h aV;have lg:=ae;simp only[ft,Option.some.injEq]at ae;rcases aT.T_ ae.symm with rfl|⟨T,b,rfl⟩
  .exact wp_exit ⟨s,h,aV⟩
  .exact lF _ T b Q s a w fQ hp (by simpa only[aT.strip]using lg) (h Q λ_ _ h=>h) aV
 |ret=>
  intro e1 Q s a w fQ ae hp h aV;have lg:=ae;simp only[ft,Option.some.injEq]at ae;rcases aT.T9 ae.symm with rfl|⟨T,b,rfl⟩
  .exact wp_ret ⟨s,h,aV⟩
  .exact lF _ T b Q s a w fQ hp (by simpa only[aT.strip]using lg) (h Q λ_ _ h=>h) aV
 |_=>intro e1 Q s a w fQ ae;simp[ft]at ae
theorem LJ (bx:C.eN) {H:((Exit->ao->Prop)->ao->Prop)->aT->Prop}
  (lF:∀(c:Code) (T:(Exit->ao->Prop)->ao->Prop) (b:aT) (Q:Exit->ao->Prop) (s:ao) (a:Act) (w:World),H T b->ft n c=some b.strip->T Q s->Rel w0 F0 X n ρ s a w->c.wp C.P (qQ w0 F0 X n ρ Q) a w):
  ∀(c:Code) {e1:aT} {Q:Exit->ao->Prop} {s:ao} {a:Act} {w:World},ft n c=some e1.strip->e1.bare H->bp C e1 Q s->Rel w0 F0 X n ρ s a w->c.wp C.P (qQ w0 F0 X n ρ Q) a w:=
 λc _ _ _ _ _ ae U h aV=>LH bx (λc T b Q s a w _ iZ ae h aV=>lF c T b Q s a w iZ ae h aV) c (λ_ aV=>aV) ae U h aV
theorem Uk (bx:C.eN) (c:Code) {e1:aT} {Q:Exit->ao->Prop} {s:ao} {a:Act} {w:World} (ae:ft n c=some e1.strip) (U:e1.bare (λ_ _=>False)) (h:bp C e1 Q s) (aV:Rel w0 F0 X n ρ s a w):c.wp C.P (qQ w0 F0 X n ρ Q) a w:=
 LJ bx (λ_ _ _ _ _ _ _ bS=>bS.elim) c ae U h aV
end
def jQ:ResultVar->Nat
 | .tmp t=>t
 | .cell a _=>a
def pW (C:bV) (s:ao):ResultVar->Option I
 | .tmp t=>if(s t).tree=true then(match s t with| .tuple _=>none|d=>some d)else none
 | .cell a T=>match s a with
   | .ai d=>if fits C T d=true/\d.tree=true then some d else none
   |_=>none
def Fl (C:bV) (fx:ahC) (eU:List ResultVar) (r:I) (outs:ahI) (s:ao):Prop:=
 ∃ds,eU.map (pW C s)=ds.map some/\r=(match ds with|[d]=>d|ds=>.tuple ds)/\(eU.map jQ).Nodup/\
  ∀(i:Nat) (o:I),outs[i]? =some o->o= .hole\/(o=s i/\o.gE=true/\i∈fx/\i∉eU.map jQ)
def Ends (C:bV) (fx:ahC) (eU:List ResultVar) (r:I) (outs:ahI) (s:ao):Prop:=
 Fl C fx eU r outs s\/∃t y q d s1,s t= .h y q/\cV s (.h y q)=some (d,s1)/\Fl C fx eU r outs (fin s1 (some t) d)
theorem bK.takes {w0 w:World} {F0 X F:Nat->Prop} {S:Nat->Nat->Prop} {s s1:ao} {aF:Nat->Value} {t y:Nat} {q:ahC} {d:I} (aV:bK w0 F0 X F S s aF w) (af:s t= .h y q) (ag:cV s (.h y q)=some (d,s1)):
  ∃aS,bK w0 F0 X F aS (dD.fin s1 (some t) d) aF w:=by
 have ae:=aV.dz t;rw[af,aO]at ae;obtain⟨ck,k0,cv,cK,Sn,eJ,cU,fq,dW,jc,_⟩:=py aV (av:=.h y q) (v:=aF t) rfl (by rw[aO];exact ae) ag;obtain⟨aS,bO⟩:=k0.fin (.inr ⟨cv,cK,Sn,eJ,cU,fq,dW,jc⟩) (some t);refine⟨aS,?_⟩;have e:px aF (some t) (aF t)=aF:=by
  funext u;simp only[px,cY];split
  .rename_i h;rw[h]
  .rfl
 rwa [e]at bO
section
variable {C:bV} {w0 w:World} {F0 X F:Nat->Prop} {S:Nat->Nat->Prop} {s:ao} {tmps:Array Value}
theorem LK {d:I} {x:Value} (al:∀vs,d≠.tuple vs) (h:dy d x):ct x=iy x/\iN d x:=by
 have:iN d x:=by cases d<;>first|exact h|exact(al _ rfl).elim
 refine⟨?_,this⟩;cases d<;>first
  |(obtain⟨a,rfl⟩:=this;rfl)
  |(simp only[iN]at this
    rw[gj this];cases x<;>first|rfl|(simp[Value.fN]at this))
def yM (tmps:Array Value):ResultVar->Sem Value
 | .tmp t=>pure (tmps.getD t undef)
 | .cell a t=>do loadVar t (<-asAddr (tmps.getD a undef))
theorem Ul (bx:C.eN) (h:bK w0 F0 X F S s (λt=>tmps.getD t undef) w) {v:ResultVar} {d:I} (aP:pW C s v=some d):
  ∃x,(yM tmps v).run C.P w= .ok x w/\d.tree=true/\(∀vs,d≠.tuple vs)/\dy d x/\ay w F d (ct x) (S (jQ v)):=by
 cases v with
 |tmp t=>
  simp only[pW]at aP;split at aP
  .rename_i aZ;have ny:(∀vs,s t≠.tuple vs)/\d=s t:=by
    cases ae:s t<;>rw[ae]at aP<;>simp only at aP<;>first
     |(cases aP;done)
     |(simp only[Option.some.injEq]at aP;exact⟨(λ_ h=>by cases h),aP.symm⟩)
   obtain⟨ny,rfl⟩:=ny;obtain⟨aX,bk⟩:=(aO.cI aZ).1 (h.dz t);exact⟨_,by simp[yM],aZ,ny,aX,bk⟩
  .cases aP
 |cell a T=>
  simp only[pW]at aP;split at aP
  .rename_i e ae;split at aP
   .rename_i Um;obtain⟨iB,Un⟩:=Um;simp only[Option.some.injEq]at aP;subst aP;have jf:=h.dz a;rw[ae]at jf;obtain⟨aX,bk⟩:=(aO.cI (d:=.ai e) rfl).1 jf;rw[gj aX,ay]at bk;obtain⟨b,cur,ty,fr,aS,cv,cK,eJ,cU,fq,dW,jc⟩:=bk;simp only[List.cons.injEq,and_true]at cv;have j0:hk w b 0 cur.toList:=by
     have:=vF eJ cur.size
     rwa [List.take_of_length_le (by simp)]at this
    obtain⟨x,dZ,bD,dS⟩:=AZ (C:=C) bx j0 fq iB;refine⟨x,?_,Un,?_,dS,?_⟩
    .simp only[yM];rw[cv];simpa [asAddr]using dZ
    .intro vs dJ;subst dJ;unfold fits at iB;split at iB<;>simp_all
    .rw[bD];exact ay.mono (λ_ h=>h) _ _ _ _ dW fq
   .cases aP
  .cases aP
theorem Uo (bx:C.eN) (h:bK w0 F0 X F S s (λt=>tmps.getD t undef) w):∀(eU:List ResultVar) (ds:ahI),eU.map (pW C s)=ds.map some->(eU.map jQ).Nodup->
  ∃xs,(eU.mapM (yM tmps)).run C.P w= .ok xs w/\xs.length=ds.length/\bh w F ds (xs.flatMap iy) (λb=>∃t∈eU.map jQ,S t b)/\
   ∀(k:Nat) (d:I) (x:Value),ds[k]? =some d->xs[k]? =some x->dy d x/\(∀vs,d≠.tuple vs)/\(iy x).length=d.wd/\ct x=iy x/\d.tree=true:=by
 intro eU;induction eU with
 |nil=>
  intro ds he _;have:ds=[]:=by simpa using he.symm
  subst this;exact⟨[],by simp,rfl,by simp only[List.flatMap_nil];rw[bh],λk d x al=>by simp at al⟩
 |cons v eU ih=>
  intro ds he n6;cases ds with
  |nil=>simp at he
  |cons d ds=>
   simp only[List.map_cons,List.cons.injEq]at he;simp only[List.map_cons,List.nodup_cons]at n6;obtain⟨x,dZ,rt,bD,dS,cG⟩:=Ul bx h he.1;obtain⟨xs,gu,fF,jb,iC⟩:=ih ds he.2 n6.2;obtain⟨a1,bc⟩:=LK bD dS;refine⟨x::xs,by simp[List.mapM_cons,dZ,gu],by simp[fF],?_,?_⟩
   .simp only[List.flatMap_cons];rw[bh];rw[a1]at cG;refine⟨iy x,xs.flatMap iy,S (jQ v),λb=>∃t∈eU.map jQ,S t b,rfl,cG,jb,λb U=>⟨jQ v,by simp,U⟩,?_,?_⟩
    .rintro b ⟨t,aZ,U⟩;exact⟨t,by simp[aZ],U⟩
    .rintro b U ⟨t,aZ,mN⟩;have:t≠jQ v:=λe=>n6.1 (e▸aZ);exact h.fe t (jQ v) b this mN U
   .intro k bz cL al aA;cases k with
    |zero=>
     simp at al aA;subst al aA;refine⟨dS,bD,?_,a1,rt⟩;rw[<-a1];exact ay.length _ _ _ cG
    |succ k=>exact iC k bz cL (by simpa using al) (by simpa using aA)
theorem Fm (bx:C.eN) {f:FuncId} {fn:Func} {c:Code} {fx:ahC} {as outs:ahI} {r:I} (bS:C.P.funcs[f]? =some fn) (U:fn.body=some c)
  (lh:(fn.name== "runtime.NumGoroutine")=false) (ba:as.length<=fn.ntmps)
  {w:World} {F X:Nat->Prop} {S:Nat->Nat->Prop} {vs:ahF} (hl:vs.length=as.length) (aV:bK w F X F S (fk as) (g1 vs) w)
  (Fo:∀a,Rel w F X ⟨fn.ntmps,fx⟩ (g1 vs) (fk as) a w->(∀t,a.tmps.getD t undef=g1 vs t)->c.wp C.P (qQ w F X ⟨fn.ntmps,fx⟩ (g1 vs) (λe s=>(e= .normal\/e= .ret)/\eK (Ends C fx fn.results.toList r outs) s)) a w):
  nz C.P f vs.toArray w λv aK=>∃bJ aS,bK w F X bJ aS (fk (r::outs)) (g1 (v::vs)) aK:=by
 have nx:(vs.toArray++Array.replicate (fn.ntmps-vs.toArray.size) undef).size=fn.ntmps:=by simp;omega
 have ea:(λt=>(vs.toArray++Array.replicate (fn.ntmps-vs.toArray.size) undef).getD t undef)=g1 vs:=by
  funext t;simp only[g1,Array.getD_eq_getD_getElem?,List.getD_eq_getElem?_getD];by_cases aZ:t<vs.length
  .rw[Array.getElem?_append_left (by simpa using aZ)];simp
  .rw[Array.getElem?_append_right (by simpa using aZ)];rw[List.getElem?_eq_none (by omega)];simp only[Array.getElem?_replicate];split<;>rfl
 have hrel:Rel w F X ⟨fn.ntmps,fx⟩ (g1 vs) (fk as) {tmps:=vs.toArray++Array.replicate (fn.ntmps-vs.toArray.size) undef,defers:=[]} w:=
  ⟨rfl,nx,λi _=>congrFun ea i,F,S,by rw[ea];exact aV⟩
 have Fp:fn.name≠ "runtime.NumGoroutine" :=by simpa using lh
 refine .inl ⟨by simp[callFunc,bS,Fp,U],calls_of_wp bS U (wp_mono (Fo _ hrel (congrFun ea)) ?_)⟩;rintro e cj aK ⟨aH,⟨he,Up⟩,Uq⟩;obtain⟨aH,⟨ds,j4,LL,n6,tX⟩,al,dR,hr,bJ,aS,ek⟩:∃aH,Fl C fx fn.results.toList r outs aH/\Rel w F X ⟨fn.ntmps,fx⟩ (g1 vs) aH cj aK:=by
  obtain⟨aH,he,LM⟩:=Uq.eK Up;rcases he with he|⟨t,y,q,d,s1,af,ag,he⟩
  .exact⟨aH,he,LM⟩
  .obtain⟨aX,bk,ca,F,S,dr⟩:=LM;obtain⟨aS,er⟩:=dr.takes af ag;exact⟨_,he,aX,bk,ca,F,aS,er⟩
 obtain⟨xs,gu,fF,jb,iC⟩:=Uo bx ek _ ds j4 n6;have Ur:(results fn cj.tmps)=(do let vs<-fn.results.mapM (yM cj.tmps);pure (if h:vs.size=1 then vs[0]else .tuple vs)):=by
  unfold results;congr 1
 have ub:(results fn cj.tmps).run C.P aK= .ok (if h:xs.toArray.size=1 then xs.toArray[0]else .tuple xs.toArray) aK:=by
  rw[Ur,Array.mapM_eq_mapM_toList];simp[gu]
 have pX:(r.tree=true/\dy r (if h:xs.toArray.size=1 then xs.toArray[0]else .tuple xs.toArray)/\
   ay aK bJ r (ct (if h:xs.toArray.size=1 then xs.toArray[0]else .tuple xs.toArray)) (λb=>∃t∈fn.results.toList.map jQ,aS t b)):=by
  by_cases af:∃d,ds=[d]
  .obtain⟨d,rfl⟩:=af;obtain⟨x,rfl⟩:∃x,xs=[x]:=by
    cases xs with
    |nil=>simp at fF
    |cons x xs=>cases xs with
     |nil=>exact⟨x,rfl⟩
     |cons y cr=>simp at fF
   obtain⟨cv,cK,eJ,cU,fq⟩:=iC 0 d x rfl rfl;have Us:d=r:=LL.symm;subst Us;simp only[List.flatMap_cons,List.flatMap_nil,List.append_nil]at jb;rw[bh]at jb;obtain⟨b1,cd,ck,dq,a1,bc,bb,cl,cR,b0⟩:=jb;rw[bh]at bb;subst bb;simp only[List.append_nil]at a1;subst a1;have aA:(if h:([x]:ahF).toArray.size=1 then([x]:ahF).toArray[0]else .tuple ([x]:ahF).toArray)=x:=by simp
   rw[aA,cU];exact⟨fq,cv,ay.mono (λ_ h=>h) _ _ _ _ cl bc⟩
  .have uE:r= .tuple ds:=by
    rw[LL];cases ds with
    |nil=>rfl
    |cons d ds=>cases ds with
     |nil=>exact(af ⟨d,rfl⟩).elim
     |cons e ds=>rfl
   have aA:(if h:xs.toArray.size=1 then xs.toArray[0]else Value.tuple xs.toArray)= .tuple xs.toArray:=by
    rw[dif_neg];intro dR;have:ds.length=1:=by rw[<-fF];simpa using dR
    obtain⟨d,al⟩:=List.length_eq_one_iff.1 this;exact af ⟨d,al⟩
   rw[aA,uE];refine⟨rfl,⟨xs.toArray,rfl,by simpa using fF,λk d x al aA=>?_⟩,?_⟩
   .obtain⟨cv,cK,eJ,cU,_⟩:=iC k d x al (by simpa using aA);exact⟨(LK cK cv).2,cK,eJ⟩
   .rw[ay];simpa [ct]using jb
 have post:∀(v:Value),(r.tree=true/\dy r v/\ay aK bJ r (ct v) (λb=>∃t∈fn.results.toList.map jQ,aS t b))->∃ux ck,bK w F X ux ck (fk (r::outs)) (g1 (v::vs)) aK:=by
  rintro v ⟨v1,v2,Fq⟩;have Fs:∀i,(outs.getD i .hole).gE=true->outs.getD i .hole=aH i/\i∈fx/\i∉fn.results.toList.map jQ:=by
   intro i aq;cases b_:outs[i]? with
   |none=>simp[List.getD,b_,I.gE]at aq
   |some o=>
    have e:outs.getD i .hole=o:=by simp[List.getD,b_]
    rw[e]at aq⊢;rcases tX i o b_ with h|h
    .subst h;simp[I.gE]at aq
    .exact⟨h.1,h.2.2⟩
  refine⟨bJ,λt b=>match t with|0=>∃t∈fn.results.toList.map jQ,aS t b|i+1=>(outs.getD i .hole).gE=true/\aS i b,ek.g5,ek.ho,ek.fR,?_,?_,?_,?_,?_,ek.old,ek.size,ek.os,ek.tape,ek.output,aV.hG⟩
  .intro t b U;cases t with
   |zero=>obtain⟨t,_,U⟩:=U;exact ek.et t b U
   |succ i=>exact ek.et i b U.2
  .intro t b U;cases t with
   |zero=>obtain⟨t,_,U⟩:=U;exact ek.fS t b U
   |succ i=>exact ek.fS i b U.2
  .intro t u b dG U hu;cases t with
   |zero=>
    obtain⟨t,aZ,U⟩:=U;cases u with
    |zero=>exact dG rfl
    |succ az=>
     refine ek.fe t az b (λe=>?_) U hu.2;subst e;exact(Fs t hu.1).2.2 aZ
   |succ i=>
    cases u with
    |zero=>
     obtain⟨t,aZ,hu⟩:=hu;refine ek.fe t i b (λe=>?_) hu U.2;subst e;exact(Fs t U.1).2.2 aZ
    |succ az=>exact ek.fe i az b (by omega) U.2 hu.2
  .intro t b U;cases t with
   |zero=>obtain⟨t,_,U⟩:=U;exact ek.dI t b U
   |succ i=>exact ek.dI i b U.2
  .intro t;cases t with
   |zero=>exact(aO.cI v1).2 ⟨v2,Fq⟩
   |succ i=>
    show aO aK bJ (fk (r::outs)) (g1 (v::vs)) (outs.getD i .hole) (vs.getD i undef) (λb=>(outs.getD i .hole).gE=true/\aS i b);cases aq:(outs.getD i .hole).gE with
    |false=>
     have:outs.getD i .hole= .hole:=by
      cases b_:outs[i]? with
      |none=>simp[List.getD,b_]
      |some o=>
       have e:outs.getD i .hole=o:=by simp[List.getD,b_]
       rw[e]at aq⊢;rcases tX i o b_ with h|h
       .exact h
       .rw[h.2.1]at aq;cases aq
     rw[this,aO];trivial
    |true=>
     obtain⟨j5,kz,vZ⟩:=Fs i aq;have aZ:=(rN aq).2.1;have jf:=ek.dz i;rw[<-j5]at jf;obtain⟨aX,bk⟩:=(aO.cI aZ).1 jf;have aP:cj.tmps.getD i undef=vs.getD i undef:=hr i kz;rw[aP]at aX bk;exact(aO.cI aZ).2 ⟨aX,ay.mono (λ_ h=>h) _ _ _ _ (λb U=>⟨rfl,U⟩) bk⟩
 rcases he with rfl|rfl
 .exact⟨al,_,ub,_,rfl,post _ pX⟩
 .exact⟨al,_,ub,_,rfl,post _ pX⟩
theorem bt.of_wp (bx:C.eN) {f:FuncId} {fn:Func} {c:Code} {e1:aT} {fx:ahC} {as outs:ahI} {r:I} (bS:C.P.funcs[f]? =some fn) (U:fn.body=some c)
  (lh:(fn.name== "runtime.NumGoroutine")=false) (ae:ft ⟨fn.ntmps,fx⟩ c=some e1.strip) (ba:as.length<=fn.ntmps)
  (h:bp C e1 (λe s=>(e= .normal\/e= .ret)/\eK (Ends C fx fn.results.toList r outs) s) (fk as)) (aw:e1.plain=true:=by kernel_rfl):bt C f as r outs:=
 λw F X S vs hl aV=>Fm bx bS U lh ba hl aV λa hrel _=>Uk bx c (by rw[aT.Fh];exact ae) (aT.Fi e1 (aT.T6 e1 aw)) (Fk e1 h) hrel
end
def num:Nat->ahI->ahH
 |_,[]=>[]
 |k,a::as=>(k,a)::num (k+1) as
theorem Ut:∀(as:ahI) (k t:Nat),an (num k as) (k+t)=as.getD t .hole:=by
 intro as;induction as with
 |nil=>intro k t;simp[num,an]
 |cons a as ih=>
  intro k t;cases t with
  |zero=>simp[num,an]
  |succ t=>
   have:=ih (k+1) t;simp only[num,an];rw[if_neg (by omega)];rw[show k+(t+1)=k+1+t by omega,this];simp
theorem yN (as:ahI):fk as=an (num 0 as):=by
 funext t;have:=Ut as 0 t;rw[Nat.zero_add]at this;rw[this];rfl
theorem pY (l:ahH) (t:Nat) (d:I):cY (an l) t d=an ((t,d)::l):=by
 funext u;simp only[cY,an]
def pZ (t:Nat):ahH->ahH
 |[]=>[]
 |(u,d)::l=>(u,cT t d)::pZ t l
def sU (t:Nat):ahH->ahH
 |[]=>[]
 |(u,d)::l=>(u,cp t d)::sU t l
theorem yO (t:Nat):∀l:ahH,kR t (an l)=an (pZ t l):=by
 intro l;funext u;induction l with
 |nil=>rfl
 |cons p l ih=>
  obtain⟨v,d⟩:=p;simp only[kR,an,pZ]at ih⊢;split
  .rfl
  .exact ih
theorem LN (t:Nat):∀l:ahH,hV t (an l)=an (sU t l):=by
 intro l;funext u;induction l with
 |nil=>rfl
 |cons p l ih=>
  obtain⟨v,d⟩:=p;simp only[hV,an,sU]at ih⊢;split
  .rfl
  .exact ih
def eD (k:ahC) (s:ao):ahH:=k.map λt=>(t,s t)
section
variable {C:bV} {l:ahH}
def dU.iJ:dU->Bool
 | .call _ _=>true
 | .gI _=>false
 | .lW _=>false
 | .pick _ _ _=>false
 | .mT _=>false
 | .g7 _ _=>false
 | .d_ _ _=>false
 | .c5 _ _ _=>false
 | .e_ _ _=>false
 | .kT _ _ _=>false
 | .jL _=>false
 | .fa _ _ _ _=>false
 | .un _ _=>false
 | .jv _ _ _=>false
 | .mV _ _=>false
 | .eu _ _ _=>false
 | .fW _ _ _ _=>false
 | .gZ _ _ _=>false
 | .jr _ _ _=>false
 | .idx _ _ _=>false
 | .ex _ _=>false
 | .hf _ _ _=>false
 | .len _ _=>false
 | .app _ _ _ _=>false
 | .shr _=>true
 | .iE _ _ _ _=>false
 | .cap _ _=>false
 | .jw _ _ _=>false
 | .bad=>false
 | .lX _ _ _=>true
 | .h8 _ _=>false
 | .mX _=>false
 | .my _=>false
 | .yv=>false
 | .oP _ _ _=>false
 | .nv _ _ _ _=>false
theorem Uu (u:Nat) (d:I) (l:ahH) (t:Nat):an ((u,d)::l) t=if t=u then d else an l t:=rfl
variable {Q:Exit->ao->Prop}
def I.yP:I->Bool
 | .tuple _=>true
 |_=>false
theorem Ends.one {fx:ahC} {t:Nat} {r:I} {s:ao} (af:s t=r) (ag:(r.tree&& !r.yP)=true):Ends C fx [.tmp t] r [] s:=by
 simp only[Bool.and_eq_true,Bool.not_eq_true']at ag;obtain⟨ag,Bv⟩:=ag;have aJ:∀vs,r≠.tuple vs:=λvs e=>by subst e;simp[I.yP]at Bv
 refine .inl ⟨[r],?_,rfl,by simp,λi o h=>by simp at h⟩;have:pW C s (.tmp t)=some r:=by
  simp only[pW,af,ag,if_true];try (cases r<;>first|rfl|exact(aJ _ rfl).elim)
 simp only[List.map_cons,List.map_nil,this]
end
section
variable {C:bV} {l:ahH} {Q:Exit->ao->Prop}
theorem bt.outs {f:FuncId} {as:ahI} {r:I} {j5 kz:ahI} (h:bt C f as r j5) (he:fk j5=fk kz):bt C f as r kz:=by
 intro w F X S vs hl aV;refine nz.mono (h w F X S vs hl aV) ?_;rintro v aK ⟨bJ,aS,bO⟩;refine⟨bJ,aS,?_⟩;have:fk (r::kz)=fk (r::j5):=by
  funext t;cases t with
  |zero=>rfl
  |succ t=>exact(congrFun he t).symm
 rw[this];exact bO
def m0:ahI->ahI->List cJ
 |a::as,d::ds=>⟨a,false,d,.hole⟩::m0 as ds
 |_,_=>[]
theorem Uv {s:ao}:∀(as ds:ahI),views s as=some ds->(m0 as ds).map (·.a)=as/\(m0 as ds).map (·.d)=ds/\(∀p∈m0 as ds,p.ok s/\p.g=false/\p.o= .hole/\p.a∈as)/\iF (m0 as ds)=true/\
  fk ((m0 as ds).map (·.o))=fk []/\(∀oZ,fb oZ (m0 as ds)=oZ)/\(∀oZ,hq oZ (m0 as ds)=oZ):=by
 intro as;induction as with
 |nil=>
  intro ds h;simp only[views,Option.some.injEq]at h;subst h;exact⟨rfl,rfl,(λp aw=>by cases aw),rfl,rfl,λ_=>rfl,λ_=>rfl⟩
 |cons a as ih=>
  intro ds h;simp only[views]at h;split at h
  .rename_i d Uw af ag;simp only[Option.some.injEq]at h;subst h;obtain⟨a1,bc,bb,cl,cR,b0,b7⟩:=ih Uw ag;refine⟨by simp only[m0,List.map_cons,a1],by simp only[m0,List.map_cons,bc],?_,?_,?_,?_,?_⟩
   .intro p aw;simp only[m0,List.mem_cons]at aw;rcases aw with rfl|aw
    .exact⟨by simp only[cJ.ok];exact af,rfl,rfl,by simp⟩
    .obtain⟨aX,bk,ca,dr⟩:=bb p aw;exact⟨aX,bk,ca,by simp[dr]⟩
   .simp only[m0,iF,cl,Bool.and_true,List.all_eq_true];intro p aw;simp[(bb p aw).2.1]
   .funext t;cases t with
    |zero=>rfl
    |succ t=>exact(congrFun cR t).trans (by simp[fk])
   .intro oZ;exact b0 oZ
   .intro oZ;exact b7 oZ
  .cases h
end
structure fh where
 cb:ahC
 H:ahC
 T:ahC
 c:Bool
mutual
def I.clean:I->Bool
 | .hole=>false
 | .fn _ cap=>I.v_ cap
 |_=>true
def I.v_:ahI->Bool
 |[]=>true
 |d::ds=>d.clean&&I.v_ ds
end
mutual
theorem LO {x:Nat}:∀a:I,(cp x a).clean=true->cp x a=a
 | .h y q,h=>by
   simp only[cp]at h⊢;split
   .rename_i e;rw[if_pos e]at h;split
    .rfl
    .rename_i dJ;rw[if_neg dJ]at h;simp[I.clean]at h
   .rfl
 | .aw y q,h=>by
   simp only[cp]at h⊢;split
   .rename_i e;rw[if_pos e]at h;simp[I.clean]at h
   .rfl
 | .U y q,h=>rfl
 | .fn f cap,h=>by simp only[cp,I.clean]at h⊢;rw[LP cap h]
 | .hole,_=>rfl
 | .bool _,_=>rfl
 | .fo,_=>rfl
 | .int _ _,_=>rfl
 | .str _,_=>rfl
 | .dM,_=>rfl
 | .ah,_=>rfl
 | .slice _,_=>rfl
 | .ad _ _,_=>rfl
 | .ref _,_=>rfl
 | .ai _,_=>rfl
 | .agg _,_=>rfl
 | .tuple _,_=>rfl
 | .dN _,_=>rfl
 | .eQ _ _,_=>rfl
 | .gC _,_=>rfl
theorem LP {x:Nat}:∀ds:ahI,I.v_ (i7 x ds)=true->i7 x ds=ds
 |[],_=>rfl
 |d::ds,h=>by
  simp only[i7,I.v_,Bool.and_eq_true]at h⊢;rw[LO d h.1,LP ds h.2]
end
mutual
theorem LQ {x:Nat}:∀a:I,(cT x a).clean=true->cT x a=a
 | .h y q,h=>by
   simp only[cT]at h⊢;split
   .rename_i e;rw[if_pos e]at h;simp[I.clean]at h
   .rfl
 | .aw y q,h=>by
   simp only[cT]at h⊢;split
   .rename_i e;rw[if_pos e]at h;simp[I.clean]at h
   .rfl
 | .U y q,h=>by
   simp only[cT]at h⊢;split
   .rename_i e;rw[if_pos e]at h;simp[I.clean]at h
   .rfl
 | .fn f cap,h=>by simp only[cT,I.clean]at h⊢;rw[LR cap h]
 | .hole,_=>rfl
 | .bool _,_=>rfl
 | .fo,_=>rfl
 | .int _ _,_=>rfl
 | .str _,_=>rfl
 | .dM,_=>rfl
 | .ah,_=>rfl
 | .slice _,_=>rfl
 | .ad _ _,_=>rfl
 | .ref _,_=>rfl
 | .ai _,_=>rfl
 | .agg _,_=>rfl
 | .tuple _,_=>rfl
 | .dN _,_=>rfl
 | .eQ _ _,_=>rfl
 | .gC _,_=>rfl
theorem LR {x:Nat}:∀ds:ahI,I.v_ (jI x ds)=true->jI x ds=ds
 |[],_=>rfl
 |d::ds,h=>by
  simp only[jI,I.v_,Bool.and_eq_true]at h⊢;rw[LQ d h.1,LR ds h.2]
end
theorem Ux {k:qK} {x:Nat} {a:I} (h:(k.app x a).clean=true):k.app x a=a:=by
 cases k with
 |no=>rfl
 |cp=>exact LO a h
 |cT=>exact LQ a h
theorem Uy:∀(ms:List g0) (u:Nat) (a:I),(∀m∈ms,m.x≠u)->(ky ms u a).clean=true->ky ms u a=a:=by
 intro ms;induction ms with
 |nil=>intros;rfl
 |cons m ms ih=>
  intro u a aA aC;simp only[ky]at aC⊢;have e:=ih u _ (λjs uF=>aA js (by simp[uF])) aC;have hm:m.at u a=m.k.app m.x a:=by
   simp only[g0.at];rw[if_neg (λe=>aA m (by simp) e.symm)]
  rw[e,hm];rw[e,hm]at aC;exact Ux aC
theorem Uz:∀(ms:List g0) (u:Nat) (a:I),(∀m∈ms,m.x≠u/\m.x∉a.ae)->ky ms u a=a:=by
 intro ms;induction ms with
 |nil=>intros;rfl
 |cons m ms ih=>
  intro u a aA;simp only[ky];have hm:m.at u a=a:=by
   simp only[g0.at];rw[if_neg (λe=>(aA m (by simp)).1 e.symm)];exact yy (.inr (aA m (by simp)).2)
  rw[hm];exact ih u a λjs uF=>aA js (by simp[uF])
theorem UA (m:g0):∀(ms:List g0) (u:Nat) (a:I),(∀js∈ms,js.x≠m.x/\js.x∉m.d.ae/\m.x∉js.d.ae)->ky ms u (m.at u a)=m.at u (ky ms u a):=by
 intro ms;induction ms with
 |nil=>intros;rfl
 |cons n ms ih=>
  intro u a aA;simp only[ky];have ba:=aA n (by simp);have aC:n.at u (m.at u a)=m.at u (n.at u a):=by
   simp only[g0.at];by_cases a1:u=n.x
   .subst a1;rw[if_pos rfl,if_neg ba.1,if_pos rfl];exact(yy (.inr ba.2.2)).symm
   .rw[if_neg a1];by_cases bc:u=m.x
    .subst bc;rw[if_pos rfl,if_pos rfl];exact yy (.inr ba.2.1)
    .rw[if_neg bc,if_neg a1,if_neg bc];exact SX _ _ _ _ _
  rw[aC];exact ih u _ λjs uF=>aA js (by simp[uF])
theorem UB:∀(ms lD:List g0) (s:ao),(∀m∈ms,∀n∈lD,n.x≠m.x/\n.x∉m.d.ae/\m.x∉n.d.ae)->dH lD (dH ms s)=dH ms (dH lD s):=by
 intro ms;induction ms with
 |nil=>intros;rfl
 |cons m ms ih=>
  intro lD s h;have e:∀s,dH (m::ms) s=dH ms (dH [m] s):=λs=>mY [m] ms s;rw[e,e,ih lD _ (λjs uF=>h js (by simp[uF]))];congr 1;funext u;simp only[dH,ky];exact UA m lD u _ (h m (by simp))
def LS (C:bV) (s:ao) (f:bn) (args:List bn) (K:ahC->I->ao->Prop):Prop:=
 ∃(g:FuncId) (caps:ahI) (ps:List cJ) (r:I),br s f= .fn g caps/\I.eY caps=true/\ps.map (·.a)=args.map (br s)++caps/\(∀p∈ps,p.ok s)/\iF ps=true/\
   bt C g (ps.map (·.d)) r (ps.map (·.o))/\r.res=true/\(kn ps=true->r.dj=true/\∀p∈ps,p.o.dj=true)/\K (I.dK ((ps.filter (·.g)).map (·.a))) r (hq (fb s ps) ps)
def n7 (C:bV) (s:ao) (bE:dU) (K:ahC->I->ao->Prop):Prop:=
 match bE with
 | .call f args=>∃(g:FuncId) (caps:ahI) (ps:List cJ) (r:I),br s f= .fn g caps/\I.eY caps=true/\ps.map (·.a)=args.map (br s)++caps/\(∀p∈ps,p.ok s)/\iF ps=true/\
   bt C g (ps.map (·.d)) r (ps.map (·.o))/\r.res=true/\(kn ps=true->r.dj=true/\∀p∈ps,p.o.dj=true)/\K (I.dK ((ps.filter (·.g)).map (·.a))) r (hq (fb s ps) ps)
 | .shr bE=>∃av s1,bL C s bE=some (av,s1)/\av.tree=true/\(∀vs,av≠.tuple vs)/\K (km s bE) av.share s1
 | .lX f args us=>lZ s (jP s us)=true/\LS C s f args λcV av s1=>lZ s1 (jP s us)=true/\K (us++cV) av (nA s1 (jP s us))
 |bE=>∃av s1,bL C s bE=some (av,s1)/\K (km s bE) av s1
def jg (s:ao) (cb:ahC) (dst:Option Nat) (cV:ahC) (av:I):fh:=
 ⟨cb,cb.flatMap (λu=>(s u).ae)++av.ae,dst.toList++cV,cb.all λu=>(s u).clean⟩
def mz (C:bV) (s:ao) (o:bW) (K:fh->ao->Prop):Prop:=
 match o.guard with
 |none=>n7 C s o.bE λcV av s1=>K (jg s (use s o.bE) o.dst cV av) (fin s1 o.dst av)
 |some (t,b)=>match s t with
  | .bool ee=>if ee=b then n7 C s o.bE (λcV av s1=>K (jg s (t::use s o.bE) o.dst cV av) (fin s1 o.dst av))else K (jg s [t] o.dst [] (.tuple [])) (fin s o.dst (.tuple []))
  | .tuple []=>K (jg s [t] o.dst [] (.tuple [])) (fin s o.dst (.tuple []))
  |_=>False
def p0:Option (List fh)->fh->Option (List fh)
 |none,_=>none
 |some l,f=>some (f::l)
def cS (C:bV) (s:ao):List bW->Option (List fh)->(Option (List fh)->ao->Prop)->Prop
 |[],acc,K=>K acc s
 |o::os,acc,K=>mz C s o λf s1=>cS C s1 os (p0 acc f) K
section
variable {C:bV}
theorem LU {s:ao} {bE:dU} {K:ahC->I->ao->Prop} {de:I->ao->Prop} (au:∀cV av s,K cV av s->de av s) (h:n7 C s bE K):nB C s bE de:=by
 cases bE with
 |call f args=>
  obtain⟨g,caps,ps,r,af,gS,ag,aJ,a_,bC,cw,cQ,e3⟩:=h;exact⟨g,caps,ps,r,af,gS,ag,aJ,a_,bC,cw,cQ,au _ _ _ e3⟩
 |lX f args us=>
  obtain⟨cK,g,caps,ps,r,af,gS,ag,aJ,a_,bC,cw,cQ,e3,jq⟩:=h;exact⟨cK,g,caps,ps,r,af,gS,ag,aJ,a_,bC,cw,cQ,e3,au _ _ _ jq⟩
 |shr bE=>
  obtain⟨av,s1,af,ag,aJ,a_⟩:=h;exact⟨av,s1,af,ag,aJ,au _ _ _ a_⟩
 |_=>
  obtain⟨av,s1,af,ag⟩:=h;exact⟨av,s1,af,au _ _ _ ag⟩
theorem UC {s:ao} {o:bW} {K:fh->ao->Prop} {de:ao->Prop} (au:∀f s,K f s->de s) (h:mz C s o K):ld C s o de:=by
 unfold mz at h;unfold ld;split
 .rename_i bP;rw[bP]at h;exact LU (λ_ _ _=>au _ _) h
 .rename_i t b bP;rw[bP]at h;simp only at h;split
  .rename_i ee ae;rw[ae]at h;simp only at h;split
   .rename_i U;rw[if_pos U]at h;exact LU (λ_ _ _=>au _ _) h
   .rename_i U;rw[if_neg U]at h;exact au _ _ h
  .rename_i ae;rw[ae]at h;exact au _ _ h
  .rename_i af ag;split at h
   .exact af _ (by assumption)
   .exact ag (by assumption)
   .exact h
theorem yQ {K:ao->Prop}:∀{ros:List bW} {s:ao} {acc:Option (List fh)} {de:Option (List fh)->ao->Prop},(∀a s,de a s->K s)->cS C s ros acc de->l0 C s ros K:=by
 intro ros;induction ros with
 |nil=>intro s acc de au h;exact au _ _ h
 |cons o ros ih=>intro s acc de au h;exact UC (λf s h=>ih au h) h
theorem LV {q:ahC} {a d:I} (h:I.sub q a=some d) (cM:q≠[]\/d.ae=[]):a.ae=[]:=by
 cases q with
 |nil=>
  simp only[I.sub,Option.some.injEq]at h;subst h;exact cM.resolve_left (λe=>e rfl)
 |cons k q=>cases a<;>first|rfl|(simp[I.sub]at h)
def Bw (s:ao) (p:cJ) (e:I->Prop):Prop:=p.g=true->∃x q d,p.a= .h x q/\I.sub q (s x)=some d/\e d/\(p.o= .hole\/p.o.gE=true)
theorem LW {d:I} (h:d.gE=true):d.ae=[]:=E4 (rN h).2.1
theorem LX {d:I} (h:d.gE=true):d.cZ.ae=[]:=by cases d<;>first|rfl|(simp[I.gE]at h)
theorem LY {p:cJ} {ps:List cJ} (h:iF (p::ps)=true):iF ps=true/\∀cE∈ps,(p.g=true\/cE.g=true)->∀u∈p.a.ae,u∉cE.a.ae:=by
 simp only[iF,Bool.and_eq_true,List.all_eq_true,Bool.or_eq_true,Bool.not_eq_true']at h;refine⟨h.2,λcE dT bP u hu=>?_⟩;rcases h.1 cE dT with e|e
 .rcases bP with bP|bP<;>simp[bP]at e
 .simpa using e u hu
def qS (ps:List cJ):ahC:=I.dK ((ps.filter (·.g)).map (·.a))
theorem wa (p:cJ) (ps:List cJ):(∀u∈qS ps,u∈qS (p::ps))/\(p.g=true->∀u∈p.a.ae,u∈qS (p::ps)):=by
 unfold qS;by_cases bP:p.g=true
 .simp only[List.filter_cons,bP,if_true,List.map_cons,I.dK,List.mem_append];exact⟨λu h=>.inr h,λ_ u h=>.inl h⟩
 .simp only[List.filter_cons,bP];exact⟨λu h=>h,λh=>by simp at h⟩
theorem UD {p:cJ} {ps:List cJ} (h:p∈ps):∀u∈p.a.ae,u∈I.dK (ps.map (·.a)):=by
 induction ps with
 |nil=>cases h
 |cons cE ps ih=>
  intro u hu;simp only[List.map_cons,I.dK,List.mem_append];rcases List.mem_cons.1 h with rfl|h
  .exact .inl hu
  .exact .inr (ih h u hu)
theorem UE:∀(ps:List cJ) (s:ao),(∀p∈ps,Bw s p (λd=>d=p.d/\p.d.gE=true))->iF ps=true->
  (∃ms:List g0,(∀m∈ms,m.x∈qS ps/\m.d.ae=[])/\∀aH,dC (I.dK (ps.map (·.a))) aH s->fb aH ps=dH ms aH)/\∀p∈ps,Bw (fb s ps) p (λd=>d=p.d.cZ/\p.d.gE=true):=by
 intro ps;induction ps with
 |nil=>intro s _ _;exact⟨⟨[],by simp,λaH _=>rfl⟩,λp aw=>by cases aw⟩
 |cons p ps ih=>
  intro s bP jM;obtain⟨pO,oS⟩:=LY jM;by_cases m1:p.g=true
  .obtain⟨x,q,d,bY,ae,⟨rfl,al⟩,b_⟩:=bP p (by simp) m1;have kO:(I.put q p.d.cZ (s x)).ae=[]:=vW q _ _ _ ae (.inl (rN al).1) λ_=>LX al;have yR:∀aH:ao,aH x=s x->p.take aH=dH [⟨.cp,x,I.put q p.d.cZ (s x)⟩] aH:=by
    intro aH e;simp only[cJ.take,m1,if_true,bY,e,uu]
   have dG:∀cE∈ps,∀cL j2,cE.a= .h cL j2->cL≠x:=by
    intro cE dT cL j2 e dJ;have:=oS cE dT (.inl m1) x (by simp[bY,I.ae]);rw[e,dJ]at this;simp[I.ae]at this
   have pQ:∀cL,cL≠x->(s cL).ae=[]->dH [⟨.cp,x,I.put q p.d.cZ (s x)⟩] s cL=s cL:=by
    intro cL sF bA;simp only[dH,ky,g0.at];rw[if_neg sF];exact yy (.inr (by rw[bA];simp))
   obtain⟨⟨ms,fY,g6⟩,jt⟩:=ih (dH [⟨.cp,x,I.put q p.d.cZ (s x)⟩] s) (λcE dT Ft=>by
    obtain⟨cL,j2,bz,pP,g3,hn,yS⟩:=bP cE (by simp[dT]) Ft;refine⟨cL,j2,bz,pP,?_,hn,yS⟩;rw[pQ cL (dG cE dT cL j2 pP) (LV g3 (.inr (by rw[hn.1];exact LW hn.2)))];exact g3) pO
   refine⟨⟨[⟨.cp,x,I.put q p.d.cZ (s x)⟩]++ms,?_,?_⟩,?_⟩
   .intro m hm;rcases List.mem_append.1 hm with hm|hm
    .simp only[List.mem_singleton]at hm;subst hm;exact⟨(wa p ps).2 m1 x (by simp[bY,I.ae]),kO⟩
    .exact⟨(wa p ps).1 _ (fY m hm).1,(fY m hm).2⟩
   .intro aH g3;simp only[List.map_cons,I.dK]at g3;have e:aH x=s x:=g3 x (by simp[bY,I.ae]);rw[mY];show fb (p.take aH) ps=_;rw[yR aH e];exact g6 _ (dC.dH g3.right _)
   .have a1:fb s (p::ps)=fb (dH [⟨.cp,x,I.put q p.d.cZ (s x)⟩] s) ps:=by
     show fb (p.take s) ps=_;rw[yR s rfl]
    rw[a1];intro cE dT;rcases List.mem_cons.1 dT with rfl|dT
    .intro _;refine⟨x,q,cE.d.cZ,bY,?_,⟨rfl,al⟩,b_⟩;have aP:dH [⟨.cp,x,I.put q cE.d.cZ (s x)⟩] s x=I.put q cE.d.cZ (s x):=by
      simp only[dH,ky,g0.at,if_true]
     rw[E1 (by rw[aP];exact kO) (λUF UG agn=>?_),aP]
     .exact K_ q _ _ _ ae
     .exact oS UF UG (.inl m1) x (by simp[bY,I.ae])
    .exact jt cE dT
  .have yR:∀aH:ao,p.take aH=aH:=by intro aH;simp only[cJ.take,m1];rfl
   obtain⟨⟨ms,fY,g6⟩,jt⟩:=ih s (λcE dT=>bP cE (by simp[dT])) pO;refine⟨⟨ms,λm hm=>⟨(wa p ps).1 _ (fY m hm).1,(fY m hm).2⟩,?_⟩,?_⟩
   .intro aH g3;simp only[List.map_cons,I.dK]at g3;show fb (p.take aH) ps=_;rw[yR];exact g6 aH g3.right
   .intro cE dT;have a1:fb s (p::ps)=fb s ps:=by show fb (p.take s) ps=_;rw[yR]
    rw[a1];rcases List.mem_cons.1 dT with rfl|dT
    .intro h;exact(m1 h).elim
    .exact jt cE dT
theorem UH:∀(ps:List cJ) (s:ao),(∀p∈ps,Bw s p (λd=>d=p.d.cZ/\p.d.gE=true))->iF ps=true->
  (∃ms:List g0,(∀m∈ms,m.x∈qS ps/\m.d.ae=[])/\∀aH,dC (I.dK (ps.map (·.a))) aH s->hq aH ps=dH ms aH):=by
 intro ps;induction ps with
 |nil=>intro s _ _;exact⟨[],by simp,λaH _=>rfl⟩
 |cons p ps ih=>
  intro s bP jM;obtain⟨pO,oS⟩:=LY jM;by_cases m1:p.g=true/\p.o≠.hole
  .obtain⟨m1,UI⟩:=m1;obtain⟨x,q,d,bY,ae,⟨rfl,al⟩,b_⟩:=bP p (by simp) m1;have b_:p.o.gE=true:=b_.resolve_left UI;have kO:(I.put q p.o (s x)).ae=[]:=by
    cases q with
    |nil=>simp only[I.put];exact LW b_
    |cons k q=>exact vW _ _ _ _ ae (.inr (by simp)) (by simp)
   have Fu:∀aH:ao,aH x=s x->p.je aH=dH [⟨.cT,x,I.put q p.o (s x)⟩] aH:=by
    intro aH e;simp only[cJ.je,m1,if_true,bY];rw[e,KS]
   have dG:∀cE∈ps,∀cL j2,cE.a= .h cL j2->cL≠x:=by
    intro cE dT cL j2 e dJ;have:=oS cE dT (.inl m1) x (by simp[bY,I.ae]);rw[e,dJ]at this;simp[I.ae]at this
   obtain⟨ms,fY,g6⟩:=ih (dH [⟨.cT,x,I.put q p.o (s x)⟩] s) (λcE dT Ft=>by
    obtain⟨cL,j2,bz,pP,g3,hn,yS⟩:=bP cE (by simp[dT]) Ft;refine⟨cL,j2,bz,pP,?_,hn,yS⟩;have bA:=LV g3 (.inr (by rw[hn.1];exact LX hn.2));have pQ:dH [⟨.cT,x,I.put q p.o (s x)⟩] s cL=s cL:=by
     simp only[dH,ky,g0.at];rw[if_neg (dG cE dT cL j2 pP)];exact yy (.inr (by rw[bA];simp))
    rw[pQ];exact g3) pO
   refine⟨[⟨.cT,x,I.put q p.o (s x)⟩]++ms,?_,?_⟩
   .intro m hm;rcases List.mem_append.1 hm with hm|hm
    .simp only[List.mem_singleton]at hm;subst hm;exact⟨(wa p ps).2 m1 x (by simp[bY,I.ae]),kO⟩
    .exact⟨(wa p ps).1 _ (fY m hm).1,(fY m hm).2⟩
   .intro aH g3;simp only[List.map_cons,I.dK]at g3;have e:aH x=s x:=g3 x (by simp[bY,I.ae]);rw[mY];show hq (p.je aH) ps=_;rw[Fu aH e];exact g6 _ (dC.dH g3.right _)
  .have Fu:∀aH:ao,p.je aH=aH:=by
    intro aH;unfold cJ.je;split
    .rename_i hY;have:p.o= .hole:=by
      by_cases h:p.o= .hole
      .exact h
      .exact(m1 ⟨hY,h⟩).elim
     rw[this]
    .rfl
   obtain⟨ms,fY,g6⟩:=ih s (λcE dT=>bP cE (by simp[dT])) pO;refine⟨ms,λm hm=>⟨(wa p ps).1 _ (fY m hm).1,(fY m hm).2⟩,?_⟩;intro aH g3;simp only[List.map_cons,I.dK]at g3;show hq (p.je aH) ps=_;rw[Fu];exact g6 aH g3.right
theorem UJ {s aH:ao}:∀(a:I) (d:I),dC a.ae aH s->view s a=some d->view aH a=some d:=by
 intro a d h;have:=E5 (s:=s) (aH:=aH) a d;intro aP;cases a with
 |h x q=>simp only[view]at aP⊢;rw[h x (by simp[I.ae])];exact aP
 |aw x q=>simp only[view]at aP⊢;rw[h x (by simp[I.ae])];exact aP
 |fn f cap=>
  refine this (λu hu _=>h u hu) aP
 |_=>exact aP
theorem UK {p:cJ} {s aH:ao} (h:dC p.a.ae aH s) (fH:p.ok s):p.ok aH:=by
 unfold cJ.ok at fH⊢;split
 .rename_i bP;rw[if_pos bP]at fH;cases bY:p.a with
  |h x q=>
   rw[bY]at fH;simp only at fH⊢;rw[h x (by simp[bY,I.ae])];exact fH
  |_=>rw[bY]at fH;exact fH.elim
 .rename_i bP;rw[if_neg bP]at fH;exact UJ _ _ h fH
def Bx (C:bV) (o:bW) (s:ao) (lj:fh) (ms:List g0):Prop:=
 (∀aH,dC lj.cb aH s->∀K:ao->Prop,K (dH ms aH)->ld C aH o K)/\(∀m∈ms,m.x∈lj.T/\∀u∈m.d.ae,u∈lj.H)/\(∀u∈lj.cb,∀x∈(s u).ae,x∈lj.H)/\(lj.c=true->∀u∈lj.cb,(s u).clean=true)
theorem LZ (dst:Option Nat) (av:I):∃ms:List g0,(∀m∈ms,m.x∈dst.toList/\m.d=av)/\∀s1:ao,fin s1 dst av=dH ms s1:=by
 cases dst with
 |none=>exact⟨[],by simp,λs=>rfl⟩
 |some t=>
  simp only[fin];by_cases h:av.plain=true
  .exact⟨[⟨.no,t,av⟩],by simp,λs=>by rw[if_pos h,KT]⟩
  .exact⟨[⟨.cT,t,av⟩],by simp,λs=>by rw[if_neg h,KS]⟩
theorem Bz {s:ao} {cb:ahC} {dst:Option Nat} {cV:ahC} {av:I}:(∀u∈(jg s cb dst cV av).cb,∀x∈(s u).ae,x∈(jg s cb dst cV av).H)/\((jg s cb dst cV av).c=true->∀u∈(jg s cb dst cV av).cb,(s u).clean=true):=by
 refine⟨λu hu x aA=>?_,λaC=>?_⟩
 .simp only[jg,List.mem_append,List.mem_flatMap];exact .inl ⟨u,hu,aA⟩
 .simp only[jg,List.all_eq_true]at aC;exact aC
theorem L0 {s:ao} {f:bn} {args:List bn} {K:ahC->I->ao->Prop} (h:LS C s f args K):
  ∃cV av ms,K cV av (dH ms s)/\(∀m∈ms,m.x∈cV/\m.d.ae=[])/\∀aH,dC (use s (.call f args)) aH s->∀de:I->ao->Prop,de av (dH ms aH)->E8 C aH f args de:=by
 obtain⟨g,caps,ps,r,af,gS,ag,aJ,a_,bC,cw,cQ,e3⟩:=h;have UL:∀p∈ps,Bw s p (λd=>d=p.d/\p.d.gE=true):=by
  intro p aw bP;have:=aJ p aw;simp only[cJ.ok,bP,if_true]at this;cases bY:p.a with
  |h x q=>rw[bY]at this;exact⟨x,q,p.d,rfl,this.1,⟨rfl,this.2.1⟩,this.2.2.imp id λh=>h.1⟩
  |_=>rw[bY]at this;exact this.elim
 obtain⟨⟨pN,J,aB⟩,eb⟩:=UE ps s UL a_;obtain⟨sK,gr,dL⟩:=UH ps (fb s ps) eb a_;have qI:∀u∈I.dK (ps.map (·.a)),u∈use s (.call f args):=by
  rw[ag];intro u hu;simp only[use,List.mem_append];have key:∀(di l2:ahI),u∈I.dK (di++l2)->u∈I.dK di\/u∈I.dK l2:=by
   intro di;induction di with
   |nil=>intro l2 h;exact .inr h
   |cons a di ih=>
    intro l2 h;simp only[List.cons_append,I.dK,List.mem_append]at h⊢;rcases h with h|h
    .exact .inl (.inl h)
    .exact(ih l2 h).imp .inr id
  rcases key _ _ hu with hu|hu
  .exact .inr (bn.Bj u hu)
  .refine .inl (bn.uv u ?_);rw[af];exact hu
 have fV:hq (fb s ps) ps=dH (pN++sK) s:=by
  rw[mY,<-aB s (λ_ _=>rfl),dL _ (λ_ _=>rfl)]
 refine⟨qS ps,r,pN++sK,by rw[<-fV];exact e3,?_,?_⟩
 .intro m hm;rcases List.mem_append.1 hm with hm|hm
  .exact J m hm
  .exact gr m hm
 .intro aH ae de au;have rM:dC (I.dK (ps.map (·.a))) aH s:=ae.sub qI;have bS:dC (f.use s) aH s:=by simp only[use]at ae;exact ae.left
  have aA:dC (bn.pM s args) aH s:=by simp only[use]at ae;exact ae.right
  have a1:hq (fb aH ps) ps=dH (pN++sK) aH:=by
   rw[mY,<-aB aH rM,dL];rw[aB aH rM,aB s (λ_ _=>rfl)];exact dC.dH rM _
  exact⟨g,caps,ps,r,by rw[bn.fG bS];exact af,gS,by rw[bn.EP aA];exact ag,λp aw=>UK (rM.sub (UD aw)) (aJ p aw),a_,bC,cw,cQ,by rw[a1];exact au⟩
mutual
theorem L1 {s aH:ao}:∀(d:I),dC d.ae aH s->d.fI aH=d.fI s
 | .h x q,h=>by simp only[I.fI];rw[h x (by simp[I.ae])]
 | .U x q,h=>by simp only[I.fI];rw[h x (by simp[I.ae])]
 | .fn f cap,h=>by simp only[I.fI];exact L2 cap (by simpa only[I.ae]using h)
 | .aw _ _,_=>by simp only[I.fI]
 | .hole,_=>by simp only[I.fI]
 | .bool _,_=>by simp only[I.fI]
 | .fo,_=>by simp only[I.fI]
 | .int _ _,_=>by simp only[I.fI]
 | .str _,_=>by simp only[I.fI]
 | .dM,_=>by simp only[I.fI]
 | .ah,_=>by simp only[I.fI]
 | .slice _,_=>by simp only[I.fI]
 | .ad _ _,_=>by simp only[I.fI]
 | .ref _,_=>by simp only[I.fI]
 | .ai _,_=>by simp only[I.fI]
 | .agg _,_=>by simp only[I.fI]
 | .tuple _,_=>by simp only[I.fI]
 | .dN _,_=>by simp only[I.fI]
 | .eQ _ _,_=>by simp only[I.fI]
 | .gC _,_=>by simp only[I.fI]
theorem L2 {s aH:ao}:∀(ds:ahI),dC (I.dK ds) aH s->I.oV aH ds=I.oV s ds
 |[],_=>rfl
 |d::ds,h=>by
  simp only[I.dK]at h;simp only[I.oV];rw[L1 d h.left,L2 ds h.right]
end
theorem Fv {s aH:ao} {us:ahC} (h:dC (us.flatMap λu=>u::(s u).ae) aH s):jP aH us=jP s us:=by
 unfold jP;refine List.map_congr_left λu hu=>?_;rw[h u (List.mem_flatMap.2 ⟨u,hu,by simp⟩)]
theorem Fw {s aH:ao}:∀(L:ahH),(∀p∈L,dC p.2.ae aH s)->lZ aH L=lZ s L
 |[],_=>rfl
 |p::L,h=>by
  simp only[lZ];rw[L1 p.2 (h p (by simp)),Fw L (λq cM=>h q (by simp[cM]))]
theorem L3:∀(L:ahH) (s:ao),nA s L=dH (L.map λp=>⟨.no,p.1,p.2⟩) s
 |[],s=>rfl
 |p::L,s=>by
  simp only[nA,List.map_cons];rw[L3 L,KT];exact(mY [⟨.no,p.1,p.2⟩] _ s).symm
theorem UM {s:ao} {bE:dU} {K:ahC->I->ao->Prop} (h:n7 C s bE K):
  ∃cV av ms,K cV av (dH ms s)/\(∀m∈ms,m.x∈cV/\∀v∈m.d.ae,∃u∈use s bE,v∈(s u).ae)/\∀aH,dC (use s bE) aH s->∀de:I->ao->Prop,de av (dH ms aH)->nB C aH bE de:=by
 have plain:(∃av s1,bL C s bE=some (av,s1)/\K (km s bE) av s1)->(∀aH (de:I->ao->Prop) av s1,bL C aH bE=some (av,s1)->de av s1->nB C aH bE de)->
   ∃cV av ms,K cV av (dH ms s)/\(∀m∈ms,m.x∈cV/\∀v∈m.d.ae,∃u∈use s bE,v∈(s u).ae)/\∀aH,dC (use s bE) aH s->∀de:I->ao->Prop,de av (dH ms aH)->nB C aH bE de:=by
  rintro⟨av,s1,af,ag⟩ hw;obtain⟨ms,a1,bc,bb⟩:=K8 af;subst a1;exact⟨_,av,ms,ag,λm hm=>⟨(bc m hm).1,λv aP=>by rw[(bc m hm).2]at aP;cases aP⟩,λaH ae de au=>hw aH de av _ (bb aH ae) au⟩
 cases bE with
 |call f args=>
  obtain⟨cV,av,ms,J,aB,eb⟩:=L0 h;exact⟨cV,av,ms,J,λm hm=>⟨(aB m hm).1,λv aP=>by rw[(aB m hm).2]at aP;cases aP⟩,λaH ae de au=>eb aH ae de au⟩
 |lX f args us=>
  obtain⟨cK,aC⟩:=h;obtain⟨cV,av,ms,⟨J,UN⟩,aB,eb⟩:=L0 aC;have e:∀aH:ao,nA (dH ms aH) (jP s us)=dH (ms++(jP s us).map λp=>⟨.no,p.1,p.2⟩) aH:=λaH=>by rw[mY,L3]
  have i9:∀{aH:ao},dC (us.flatMap λu=>u::(s u).ae) aH s->∀p∈jP s us,dC p.2.ae aH s:=λ{aH} ae p aw v aP=>by
   obtain⟨u,hu,rfl⟩:=List.mem_map.1 aw;exact ae v (List.mem_flatMap.2 ⟨u,hu,by simp[aP]⟩)
  refine⟨us++cV,av,ms++(jP s us).map λp=>⟨.no,p.1,p.2⟩,by rw[<-e];exact UN,?_,?_⟩
  .intro m hm;rcases List.mem_append.1 hm with hm|hm
   .exact⟨by simp[(aB m hm).1],λv aP=>by rw[(aB m hm).2]at aP;cases aP⟩
   .obtain⟨p,aw,rfl⟩:=List.mem_map.1 hm;obtain⟨u,hu,rfl⟩:=List.mem_map.1 aw;exact⟨List.mem_append_left _ hu,λv aP=>⟨u,by simp only[use,List.mem_append,List.mem_flatMap];exact .inl ⟨u,hu,by simp⟩,aP⟩⟩
  .intro aH ae de au;simp only[use]at ae;refine⟨by rw[Fv ae.left,Fw _ (i9 ae.left)];exact cK,eb aH ae.right _ ⟨?_,?_⟩⟩
   .rw[Fv ae.left,Fw _ (λp aw=>(i9 ae.left p aw).dH ms)];exact J
   .rw[Fv ae.left,e];exact au
 |shr bE=>
  obtain⟨av,s1,af,ag,aJ,a_⟩:=h;obtain⟨ms,a1,bc,bb⟩:=K8 af;subst a1;exact⟨_,av.share,ms,a_,λm hm=>⟨(bc m hm).1,λv aP=>by rw[(bc m hm).2]at aP;cases aP⟩,λaH ae de au=>⟨av,_,bb aH ae,ag,aJ,au⟩⟩
 |_=>exact plain h (λaH de av s1 af ag=>⟨av,s1,af,ag⟩)
theorem UO {s:ao} {o:bW} {K:fh->ao->Prop} (h:mz C s o K):∃lj ms,K lj (dH ms s)/\Bx C o s lj ms:=by
 have op:∀(cb:ahC),(∀u∈use s o.bE,u∈cb)->(∀aH,dC cb aH s->∀de:ao->Prop,nB C aH o.bE (λav s1=>de (fin s1 o.dst av))->ld C aH o de)->
   n7 C s o.bE (λcV av s1=>K (jg s cb o.dst cV av) (fin s1 o.dst av))->∃lj ms,K lj (dH ms s)/\Bx C o s lj ms:=by
  intro cb qI fQ hw;obtain⟨cV,av,ms,af,ag,aJ⟩:=UM hw;obtain⟨lD,jx,cu⟩:=LZ o.dst av;refine⟨jg s cb o.dst cV av,ms++lD,?_,?_,?_,Bz.1,Bz.2⟩
  .rw[mY,<-cu];exact af
  .intro aH ae de au;refine fQ aH ae de (aJ aH (ae.sub qI) _ ?_);rw[cu,<-mY];exact au
  .intro m hm;simp only[jg,List.mem_append];rcases List.mem_append.1 hm with hm|hm
   .refine⟨.inr (ag m hm).1,λv aP=>.inl ?_⟩;obtain⟨u,hu,mP⟩:=(ag m hm).2 v aP;exact List.mem_flatMap.2 ⟨u,qI u hu,mP⟩
   .exact⟨.inl (jx m hm).1,λu hu=>.inr (by rw[(jx m hm).2]at hu;exact hu)⟩
 have skip:∀t,(∀aH,dC [t] aH s->∀de:ao->Prop,de (fin aH o.dst (.tuple []))->ld C aH o de)->K (jg s [t] o.dst [] (.tuple [])) (fin s o.dst (.tuple []))->∃lj ms,K lj (dH ms s)/\Bx C o s lj ms:=by
  intro t fQ au;obtain⟨lD,jx,cu⟩:=LZ o.dst (.tuple []);refine⟨_,lD,by rw[<-cu];exact au,?_,?_,Bz.1,Bz.2⟩
  .intro aH ae de g8;exact fQ aH ae de (by rw[cu];exact g8)
  .intro m hm;simp only[jg,List.mem_append];exact⟨.inl (jx m hm).1,λu hu=>by rw[(jx m hm).2]at hu;simp[I.ae]at hu⟩
 unfold mz at h;split at h
 .rename_i bP;exact op _ (λ_ h=>h) (λaH _ de hw=>by unfold ld;rw[bP];exact hw) h
 .rename_i t b bP;split at h
  .rename_i ee U;split at h
   .rename_i e;refine op (t::use s o.bE) (λu hu=>by simp[hu]) (λaH ae de hw=>?_) h;have:aH t=s t:=ae t (by simp);unfold ld;rw[bP];simp only[this,U,if_pos e];exact hw
   .rename_i e;refine skip t (λaH ae de au=>?_) h;have:aH t=s t:=ae t (by simp);unfold ld;rw[bP];simp only[this,U,if_neg e];exact au
  .rename_i U;refine skip t (λaH ae de au=>?_) h;have:aH t=s t:=ae t (by simp);unfold ld;rw[bP];simp only[this,U];exact au
  .exact h.elim
def sV (C:bV) (ros:List bW):ao->List (Nat×fh×List g0)->Prop
 |_,[]=>True
 |s,e::r=>(∃o,ros[e.1]? =some o/\Bx C o s e.2.1 e.2.2)/\sV C ros (dH e.2.2 s) r
def p1 (s:ao) (r:List (Nat×fh×List g0)):ao:=r.foldl (λs e=>dH e.2.2 s) s
def oO (a b:ahC):Bool:=a.all λx=> !b.contains x
theorem wb {a b:ahC} (h:oO a b=true):∀x∈a,x∉b:=by
 intro x aA;simp only[oO,List.all_eq_true]at h;simpa using h x aA
def uG (a b:fh):Bool:=oO b.T a.cb&&oO b.T a.H&&oO b.T a.T&&oO a.T b.cb&&oO a.T b.H&&b.c
theorem UP {ros:List bW} {s:ao} {a b:Nat×fh×List g0} {r:List (Nat×fh×List g0)} (h:sV C ros s (a::b::r)) (aq:uG a.2.1 b.2.1=true):
  sV C ros s (b::a::r)/\p1 s (b::a::r)=p1 s (a::b::r):=by
 obtain⟨⟨UQ,bY,J,aB,eb,ed⟩,⟨dN,U,gr,dL,jd,cX⟩,aV⟩:=h;simp only[uG,Bool.and_eq_true]at aq;obtain⟨⟨⟨⟨⟨sx,pt⟩,tS⟩,DT⟩,xZ⟩,DV⟩:=aq;have Fx:∀u∈b.2.1.cb,dH a.2.2 s u=s u:=by
  intro u hu;refine Uy _ _ _ (λm hm e=>?_) (cX DV u hu);exact wb DT m.x (aB m hm).1 (e▸hu)
 have Fy:∀u∈a.2.1.cb,dH b.2.2 s u=s u:=by
  intro u hu;refine Uz _ _ _ λm hm=>⟨λe=>?_,λaA=>?_⟩
  .exact wb sx m.x (dL m hm).1 (e▸hu)
  .exact wb pt m.x (dL m hm).1 (eb u hu _ aA)
 have L4:dH b.2.2 (dH a.2.2 s)=dH a.2.2 (dH b.2.2 s):=by
  refine UB _ _ _ λm hm n ba=>⟨λe=>?_,λh=>?_,λh=>?_⟩
  .exact wb tS n.x (dL n ba).1 (e▸(aB m hm).1)
  .exact wb pt n.x (dL n ba).1 ((aB m hm).2 _ h)
  .exact wb xZ m.x (aB m hm).1 ((dL n ba).2 _ h)
 refine⟨⟨⟨dN,U,?_,dL,?_,?_⟩,⟨UQ,bY,?_,aB,?_,?_⟩,?_⟩,?_⟩
 .intro aH ae K au;exact gr aH (λu hu=>(ae u hu).trans (Fx u hu).symm) K au
 .intro u hu x aA;exact jd u hu x (by rw[Fx u hu];exact aA)
 .intro aC u hu;have:=cX aC u hu
  rwa [Fx u hu]at this
 .intro aH ae K au;exact J aH (λu hu=>(ae u hu).trans (Fy u hu)) K au
 .intro u hu x aA;rw[Fy u hu]at aA;exact eb u hu x aA
 .intro aC u hu;rw[Fy u hu];exact ed aC u hu
 .rw[<-L4];exact aV
 .simp only[p1,List.foldl_cons];rw[L4]
theorem UR {ros:List bW} {e:Nat×fh×List g0} {post:List (Nat×fh×List g0)}:∀(pre:List (Nat×fh×List g0)) (s:ao),sV C ros s (pre++e::post)->(∀a∈pre,uG a.2.1 e.2.1=true)->
  sV C ros s (e::(pre++post))/\p1 s (e::(pre++post))=p1 s (pre++e::post):=by
 intro pre;induction pre with
 |nil=>intro s h _;exact⟨h,rfl⟩
 |cons a pre ih=>
  intro s h aq;obtain⟨af,ag⟩:=h;obtain⟨aX,bk⟩:=ih _ ag λb U=>aq b (by simp[U]);have aC:sV C ros s (a::e::(pre++post)):=⟨af,aX⟩
  obtain⟨cv,cK⟩:=UP aC (aq a (by simp));refine⟨cv,cK.trans ?_⟩;simp only[p1,List.foldl_cons,List.cons_append]at bk⊢;exact bk
end
def yT:ahA->ahA->ahA
 |done,[]=>done
 |done,a::r=>yT (done++[a++a.flatMap λe=>(done[e]?).getD []]) r
def kD (bT:ahA):ahA:=yT [] bT
theorem US {bT:ahA} {l:ahC} (hl:∀u i v,l=u++i::v->∀e∈(bT[i]?).getD [],e∈u):∀(rest pre done:ahA),bT=pre++rest->done.length=pre.length->
  (∀u i v,l=u++i::v->∀e∈(done[i]?).getD [],e∈u)->∀u i v,l=u++i::v->∀e∈((yT done rest)[i]?).getD [],e∈u:=by
 intro rest;induction rest with
 |nil=>intro pre done _ _ h;exact h
 |cons a rest ih=>
  intro pre done BA hlen h;simp only[yT];refine ih (pre++[a]) _ (by simp[BA]) (by simp[hlen]) ?_;intro u i v hu e he;by_cases aq:i<done.length
  .rw[List.getElem?_append_left aq]at he;exact h u i v hu e he
  .rw[List.getElem?_append_right (by omega)]at he;by_cases KQ:i-done.length=0
   .rw[KQ]at he;simp only[List.getElem?_cons_zero,Option.getD_some,List.mem_append,List.mem_flatMap]at he;have L5:(bT[i]?).getD []=a:=by
     have:i=pre.length:=by omega
     rw[BA,this,List.getElem?_append_right (Nat.le_refl _)];simp
    rcases he with he|⟨dJ,j7,he⟩
    .exact hl u i v hu e (by rw[L5];exact he)
    .have yA:=hl u i v hu dJ (by rw[L5];exact j7);obtain⟨rK,oQ,rfl⟩:=List.append_of_mem yA;have:=h rK dJ (oQ++i::v) (by rw[hu];simp) e he;simp[this]
   .rw[List.getElem?_eq_none (by simp;omega)]at he;simp at he
theorem UT {bT:ahA} {l:ahC} (hl:∀u i v,l=u++i::v->∀e∈(bT[i]?).getD [],e∈u):∀u i v,l=u++i::v->∀e∈((kD bT)[i]?).getD [],e∈u:=
 US hl bT [] [] rfl rfl λu i v _ e he=>by simp at he
def iK (nD:ahA):Nat->List (Nat×fh)->List fh->Bool
 |_,_,[]=>true
 |az,es,f::aG=>(es.all λe=>((nD[az]?).getD []).contains e.1||uG e.2 f)&&iK nD (az+1) ((az,f)::es) aG
def Fz (nD:ahA) (a b:Nat×fh×List g0):Prop:=a.1∈(nD[b.1]?).getD []\/uG a.2.1 b.2.1=true
theorem UU {nD:ahA}:∀(hs:List (Nat×fh×List g0)) (az:Nat) (es:List (Nat×fh)),hs.map (·.1)=(List.range hs.length).map (·+az)->iK nD az es (hs.map (·.2.1))=true->
  hs.Pairwise (Fz nD)/\∀e∈es,∀b∈hs,e.1∈(nD[b.1]?).getD []\/uG e.2 b.2.1=true:=by
 intro hs;induction hs with
 |nil=>intro az es _ _;exact⟨.nil,λe _ b U=>by cases U⟩
 |cons a hs ih=>
  intro az es uH fH;rw[List.length_cons,List.range_succ_eq_map,List.map_cons,List.map_cons,List.map_map]at uH;simp only[List.cons.injEq,Nat.zero_add]at uH;obtain⟨ch,uH⟩:=uH;simp only[List.map_cons,iK,Bool.and_eq_true,List.all_eq_true,Bool.or_eq_true]at fH;obtain⟨af,ag⟩:=fH;obtain⟨aX,bk⟩:=ih (az+1) _ (by rw[uH];congr 1;funext x;simp;omega) ag;refine⟨.cons (λb U=>?_) aX,λe he b U=>?_⟩
  .have:=bk (az,a.2.1) (by simp) b U;simp only[Fz,ch];exact this
  .rcases List.mem_cons.1 U with rfl|U
   .rw[ch];exact(af e he).imp (λh=>by simpa using h) id
   .exact bk e (by simp[he]) b U
section
variable {C:bV}
theorem UW {K:Option (List fh)->ao->Prop}:∀(os pre:List bW) (s:ao) (acc:List fh),cS C s os (some acc) K->
  ∃hs,sV C (pre++os) s hs/\hs.map (·.1)=(List.range os.length).map (·+pre.length)/\K (some ((hs.map (·.2.1)).reverse++acc)) (p1 s hs):=by
 intro os;induction os with
 |nil=>intro pre s acc h;exact⟨[],trivial,rfl,h⟩
 |cons o os ih=>
  intro pre s acc h;obtain⟨lj,ms,af,ag⟩:=UO h;obtain⟨hs,aX,bk,ca⟩:=ih (pre++[o]) _ (lj::acc) af;refine⟨(pre.length,lj,ms)::hs,⟨⟨o,?_,ag⟩,?_⟩,?_,?_⟩
  .rw[List.getElem?_append_right (Nat.le_refl _)];simp
  .simpa using aX
  .rw[List.length_cons,List.range_succ_eq_map,List.map_cons,List.map_cons,List.map_map,bk];simp only[List.cons.injEq,Nat.zero_add,true_and];congr 1;funext x;simp;omega
  .simpa [p1]using ca
theorem UX {ros:List bW} {nD:ahA} {K:ao->Prop}:∀(l:ahC) (hs:List (Nat×fh×List g0)) (s:ao),sV C ros s hs->hs.Pairwise (Fz nD)->l.Nodup->(hs.map (·.1)).Nodup->
  (∀i,i∈l↔i∈hs.map (·.1))->(∀u i v,l=u++i::v->∀e∈(nD[i]?).getD [],e∈hs.map (·.1)->e∈u)->K (p1 s hs)->g2 C ros s l K:=by
 intro l;induction l with
 |nil=>
  intro hs s _ _ _ _ hm _ au;cases hs with
  |nil=>exact au
  |cons e hs=>have:=(hm e.1).2 (by simp);cases this
 |cons i l ih=>
  intro hs s aC aw ba yu hm b_ au;obtain⟨e,he,aq⟩:=List.mem_map.1 ((hm i).1 (by simp));obtain⟨pre,post,rfl⟩:=List.append_of_mem he;have UY:∀a∈pre,uG a.2.1 e.2.1=true:=by
   intro a bY;have aV:=(List.pairwise_append.1 aw).2.2 a bY e (by simp);rcases aV with aV|aV
   .rw[aq]at aV;have:=b_ [] i l rfl a.1 aV (by simp only[List.map_append,List.mem_append,List.mem_map];exact .inl ⟨a,bY,rfl⟩);cases this
   .exact aV
  obtain⟨aX,bk⟩:=UR pre s aC UY;obtain⟨⟨o,UZ,Bq⟩,ca⟩:=aX;have L6:i∉(pre++post).map (·.1):=by
   have:(pre.map (·.1)++e.1::post.map (·.1)).Nodup:=by simpa using yu
   have bO:=(List.perm_middle.nodup_iff.1 this)
   rw[List.nodup_cons]at bO;rw[<-aq];simpa using bO.1
  simp only[g2];rw[<-aq,UZ];refine Bq.1 s (λ_ _=>rfl) _ ?_;rw[List.nodup_cons]at ba;refine ih (pre++post) _ ca ?_ ba.2 ?_ ?_ ?_ ?_
  .exact aw.sublist ((List.Sublist.refl pre).append (List.sublist_cons_self e post))
  .have:(pre.map (·.1)++e.1::post.map (·.1)).Nodup:=by simpa using yu
   have bO:=(List.perm_middle.nodup_iff.1 this)
   rw[List.nodup_cons]at bO;simpa using bO.2
  .intro az;constructor
   .intro ch;have af:=(hm az).1 (by simp[ch]);simp only[List.map_append,List.map_cons,List.mem_append,List.mem_cons]at af⊢;rcases af with af|rfl|af
    .exact .inl af
    .exact(ba.1 (aq▸ch)).elim
    .exact .inr af
   .intro ch;have af:=(hm az).2 (by
     simp only[List.map_append,List.map_cons,List.mem_append,List.mem_cons]at ch⊢;exact ch.imp id .inr)
    rcases List.mem_cons.1 af with rfl|af
    .exact(L6 ch).elim
    .exact af
  .intro u az v hu x aA FA;have af:=b_ (i::u) az v (by rw[hu];rfl) x aA (by
    simp only[List.map_append,List.map_cons,List.mem_append,List.mem_cons]at FA⊢;exact FA.imp id .inr)
   rcases List.mem_cons.1 af with rfl|af
   .exact(L6 FA).elim
   .exact af
  .have:p1 s (e::(pre++post))=p1 (dH e.2.2 s) (pre++post):=rfl;rw[<-this,bk];exact au
theorem yU {ros:List bW} {bT:ahA} {s:ao} {K:ao->Prop} (hlen:bT.length=ros.length)
  (h:cS C s ros (some []) (λacc s=>iK (kD bT) 0 [] (acc.getD []).reverse=true/\K s)):∀l,oX bT l->g2 C ros s l K:=by
 intro l ⟨di,l2,E7⟩;obtain⟨hs,aX,bk,ca,dr⟩:=UW ros [] s [] h;simp only[List.nil_append,List.append_nil,List.length_nil,Option.getD_some,List.reverse_reverse]at aX bk ca;have hl:hs.length=ros.length:=by have:=congrArg List.length bk;simpa using this
 have uH:hs.map (·.1)=(List.range hs.length).map (·+0):=by rw[bk,hl]
 have aV:hs.map (·.1)=List.range ros.length:=by rw[bk];simp
 obtain⟨fp,_⟩:=UU hs 0 [] uH ca;refine UX l hs s aX fp di (by rw[aV];exact List.nodup_range) (λi=>?_) (λu i v hu e he _=>UT E7 u i v hu e he) dr;rw[aV,l2,hlen,List.mem_range]
end
def nE (C:bV) (dst:Option Nat) (os:List bW) (K:Option (List fh)->ao->Prop):Option (I×ao)->Prop
 |some (av,s1)=>cS C (fin s1 dst av) os none K
 |none=>False
def n8 (C:bV) (l:ahH) (cb cV:ahC) (dst:Option Nat) (os:List bW) (a:List fh) (K:Option (List fh)->ao->Prop):Option (I×ao)->Prop
 |some (av,s1)=>cS C (fin s1 dst av) os (some (jg (an l) cb dst cV av::a)) K
 |none=>False
def j8 (C:bV) (l:ahH) (dst:Option Nat) (bE:dU) (t:Nat) (b:Bool) (os:List bW) (acc:Option (List fh)) (K:Option (List fh)->ao->Prop):I->Prop
 | .bool ee=>if ee=b then n7 C (an l) bE (λcV av s1=>cS C (fin s1 dst av) os (p0 acc (jg (an l) (t::use (an l) bE) dst cV av)) K)else cS C (fin (an l) dst (.tuple [])) os (p0 acc (jg (an l) [t] dst [] (.tuple []))) K
 | .tuple []=>cS C (fin (an l) dst (.tuple [])) os (p0 acc (jg (an l) [t] dst [] (.tuple []))) K
 |_=>False
section
variable {C:bV} {l:ahH} {os:List bW} {K:Option (List fh)->ao->Prop} {dst:Option Nat} {a:List fh} {acc:Option (List fh)}
theorem BB {s:ao} {bE:dU} {K:ahC->I->ao->Prop} (ba:bE.iJ=false):n7 C s bE K=(match bL C s bE with
  |some (av,s1)=>K (km s bE) av s1
  |none=>False):=by
 apply propext;constructor
 .intro h;cases bE<;>first
   |(simp[dU.iJ]at ba;done)
   |(obtain⟨av,s1,af,ag⟩:=h;rw[af];exact ag)
 .intro h;split at h
  .rename_i av s1 he;cases bE<;>first
    |(simp[dU.iJ]at ba;done)
    |exact⟨av,s1,he,h⟩
  .exact h.elim
theorem L7:cS C (an l) [] acc K=K acc (an l):=rfl
theorem sW {bE:dU} (ba:bE.iJ=false):cS C (an l) (⟨dst,bE,none⟩::os) none K=nE C dst os K (bL C (an l) bE):=by
 simp only[cS,mz,p0];rw[BB ba];cases bL C (an l) bE with
 |none=>rfl
 |some p=>rfl
theorem uI {bE:dU} (ba:bE.iJ=false):cS C (an l) (⟨dst,bE,none⟩::os) (some a) K=n8 C l (use (an l) bE) (km (an l) bE) dst os a K (bL C (an l) bE):=by
 simp only[cS,mz,p0];rw[BB ba];cases bL C (an l) bE with
 |none=>rfl
 |some p=>rfl
theorem L8 {bE:dU} {t:Nat} {b:Bool}:cS C (an l) (⟨dst,bE,some (t,b)⟩::os) acc K=j8 C l dst bE t b os acc K (an l t):=by
 simp only[cS,mz];generalize an l t=v;cases v<;>first|rfl|(rename_i vs;cases vs<;>rfl)
theorem FB {bE:dU} {t:Nat} {b:Bool} (ba:bE.iJ=false):j8 C l dst bE t b os none K (.bool b)=nE C dst os K (bL C (an l) bE):=by
 simp only[j8,if_true];rw[BB ba];cases bL C (an l) bE with
 |none=>rfl
 |some p=>rfl
theorem FC {bE:dU} {t:Nat} {b:Bool} (ba:bE.iJ=false):j8 C l dst bE t b os (some a) K (.bool b)=n8 C l (t::use (an l) bE) (km (an l) bE) dst os a K (bL C (an l) bE):=by
 simp only[j8,if_true];rw[BB ba];cases bL C (an l) bE with
 |none=>rfl
 |some p=>rfl
theorem U0 {bE:dU} {t:Nat}:j8 C l dst bE t true os none K (.bool false)=cS C (fin (an l) dst (.tuple [])) os none K/\j8 C l dst bE t false os none K (.bool true)=cS C (fin (an l) dst (.tuple [])) os none K/\
  (∀b,j8 C l dst bE t b os none K (.tuple [])=cS C (fin (an l) dst (.tuple [])) os none K):=⟨rfl,rfl,λ_=>rfl⟩
theorem U1 {bE:dU} {t:Nat}:j8 C l dst bE t true os (some a) K (.bool false)=cS C (fin (an l) dst (.tuple [])) os (some (jg (an l) [t] dst [] (.tuple [])::a)) K/\
  j8 C l dst bE t false os (some a) K (.bool true)=cS C (fin (an l) dst (.tuple [])) os (some (jg (an l) [t] dst [] (.tuple [])::a)) K/\
  (∀b,j8 C l dst bE t b os (some a) K (.tuple [])=cS C (fin (an l) dst (.tuple [])) os (some (jg (an l) [t] dst [] (.tuple [])::a)) K):=⟨rfl,rfl,λ_=>rfl⟩
theorem U2 (av:I) (s1:ao):nE C dst os K (some (av,s1))=cS C (fin s1 dst av) os none K:=rfl
theorem U3 (cb cV:ahC) (av:I) (s1:ao):n8 C l cb cV dst os a K (some (av,s1))=cS C (fin s1 dst av) os (some (jg (an l) cb dst cV av::a)) K:=rfl
def rS (s:ao):I->Option (I×ao)
 | .h y q=>cV s (.h y q)
 |d=>some (d,s)
def L9 (s:ao):I->I->I->Option (I×ao)
 | .bool ee,x,y=>some (if ee then x else y,s)
 |_,_,_=>none
def j9 (s:ao):Option I->Option (I×ao)
 |some d=>some (d,s)
 |none=>none
def du:Option ao->Option (I×ao)
 |some s1=>some (.hole,s1)
 |none=>none
def j_ (s:ao):List bn->ahI
 |[]=>[]
 |x::xs=>br s x::j_ s xs
def sX (s:ao):List (Nat×bn)->ahH
 |[]=>[]
 |(k,x)::xs=>(k,br s x)::sX s xs
def yV (s:ao):Option bn->Option I
 |none=>none
 |some x=>some (br s x)
theorem FD (s:ao) (x:Option I):(x.map λd=>(d,s))=j9 s x:=by cases x<;>rfl
theorem U4 (x:Option ao):(x.map λs1=>(I.hole,s1))=du x:=by cases x<;>rfl
theorem yW (s:ao):∀xs:List bn,xs.map (br s)=j_ s xs
 |[]=>rfl
 |x::xs=>by simp only[List.map_cons,j_,yW s xs]
theorem L_ (s:ao):∀xs:List (Nat×bn),(xs.map λp=>(p.1,br s p.2))=sX s xs
 |[]=>rfl
 |(k,x)::xs=>by simp only[List.map_cons,sX,L_ s xs]
theorem U5 (s:ao) (x:Option bn):x.map (br s)=yV s x:=by cases x<;>rfl
theorem Ma:(∀x,dU.iJ (.gI x)=false)/\
  (∀x,dU.iJ (.lW x)=false)/\
  (∀c x y,dU.iJ (.pick c x y)=false)/\
  (∀T,dU.iJ (.mT T)=false)/\
  (∀T x,dU.iJ (.g7 T x)=false)/\
  (∀T ps,dU.iJ (.d_ T ps)=false)/\
  (∀T n ps,dU.iJ (.c5 T n ps)=false)/\
  (∀T x,dU.iJ (.e_ T x)=false)/\
  (∀T x y,dU.iJ (.kT T x y)=false)/\
  (∀x,dU.iJ (.jL x)=false)/\
  (∀op T x y,dU.iJ (.fa op T x y)=false)/\
  (∀op x,dU.iJ (.un op x)=false)/\
  (∀A B x,dU.iJ (.jv A B x)=false)/\
  (∀f cs,dU.iJ (.mV f cs)=false)/\
  (∀T x y,dU.iJ (.eu T x y)=false)/\
  (∀T x e5 aq,dU.iJ (.fW T x e5 aq)=false)/\
  (∀T x k,dU.iJ (.gZ T x k)=false)/\
  (∀T x y,dU.iJ (.jr T x y)=false)/\
  (∀T x y,dU.iJ (.idx T x y)=false)/\
  (∀x k,dU.iJ (.ex x k)=false)/\
  (∀T x,dU.iJ (.len T x)=false)/\
  (∀T cb x y,dU.iJ (.app T cb x y)=false):=by
 and_intros<;>intros<;>rfl
theorem Mb:(∀x,bL C (an l) (.gI x)=some (br (an l) x,an l))/\
  (∀x,bL C (an l) (.lW x)=rS (an l) (br (an l) x))/\
  (∀c x y,bL C (an l) (.pick c x y)=L9 (an l) (br (an l) c) (br (an l) x) (br (an l) y))/\
  (∀T,bL C (an l) (.mT T)=j9 (an l) (mT C T))/\
  (∀T x,bL C (an l) (.g7 T x)=g7 (an l) (br (an l) x))/\
  (∀T ps,bL C (an l) (.d_ T ps)=d_ C (an l) T (sX (an l) ps))/\
  (∀T n ps,bL C (an l) (.c5 T n ps)=c5 C (an l) T n (sX (an l) ps))/\
  (∀T x,bL C (an l) (.e_ T x)=j9 (an l) (e_ C (an l) T (br (an l) x)))/\
  (∀T x y,bL C (an l) (.kT T x y)=du (kT C (an l) T (br (an l) x) (br (an l) y)))/\
  (∀x,bL C (an l) (.jL x)=j9 (an l) (jL (an l) (br (an l) x)))/\
  (∀op T x y,bL C (an l) (.fa op T x y)=j9 (an l) (fa C (an l) op T (br (an l) x) (br (an l) y)))/\
  (∀op x,bL C (an l) (.un op x)=j9 (an l) (un op (br (an l) x)))/\
  (∀A B x,bL C (an l) (.jv A B x)=j9 (an l) (jv C (an l) A B (br (an l) x)))/\
  (∀f cs,bL C (an l) (.mV f cs)=some (.fn f (j_ (an l) cs),an l))/\
  (∀T x y,bL C (an l) (.eu T x y)=j9 (an l) (eu C T (br (an l) x) (br (an l) y)))/\
  (∀T x e5 aq,bL C (an l) (.fW T x e5 aq)=fW C (an l) T (br (an l) x) (yV (an l) e5) (yV (an l) aq))/\
  (∀T x k,bL C (an l) (.gZ T x k)=j9 (an l) (gZ C (an l) T (br (an l) x) k))/\
  (∀T x y,bL C (an l) (.jr T x y)=j9 (an l) (jr C (an l) T (br (an l) x) (br (an l) y)))/\
  (∀T x y,bL C (an l) (.idx T x y)=j9 (an l) (idx C T (br (an l) x) (br (an l) y)))/\
  (∀x k,bL C (an l) (.ex x k)=j9 (an l) (ex (an l) (br (an l) x) k))/\
  (∀T x,bL C (an l) (.len T x)=j9 (an l) (rD C (an l) T (br (an l) x)))/\
  (∀T cb x y,bL C (an l) (.app T cb x y)=rG C (an l) T cb (br (an l) x) (br (an l) y)):=by
 and_intros<;>intros<;>first|rfl|(simp only[bL,FD,U4,L_,yW,U5];done)|(simp only[bL];cases br (an l) _<;>first|rfl|(rename_i b;cases b<;>rfl))
end
theorem Mc:∀t d,qz t d=if I.plain d=true then d else .h t []:=λ_ _=>rfl
theorem Md:(∀l av,fin (an l) none av=an l)/\(∀l t av,fin (an l) (some t) av=an ((t,av)::if I.plain av=true then l else pZ t l)):=
 ⟨λ_ _=>rfl,λl t av=>by
  simp only[fin];split
  .rw[pY]
  .rw[yO,pY]⟩
theorem FE:
  (∀k n,I.plain (.int k n)=true)/\
  (∀b,I.plain (.bool b)=true)/\
  (∀x,I.plain (.str x)=true)/\
  (∀xs,I.plain (.slice xs)=true)/\
  (∀d,I.plain (.ref d)=true)/\
  (∀f cap,I.plain (.fn f cap)=true)/\
  (∀x q,I.plain (.h x q)=true)/\
  (∀x q,I.plain (.aw x q)=true)/\
  (I.plain .dM=true)/\
  (I.plain .ah=true)/\
  (I.plain .fo=true)/\
  (I.plain .hole=true)/\
  (∀sz xs,I.plain (.ad sz xs)=false)/\
  (∀d,I.plain (.ai d)=false)/\
  (∀aG,I.plain (.agg aG)=I.eY aG)/\
  (∀aG,I.plain (.tuple aG)=I.eY aG)/\
  (I.eY []=true)/\
  (∀d ds,I.eY (d::ds)=(d.plain&&I.eY ds)):=
 ⟨λ_ _=>rfl,λ_=>rfl,λ_=>rfl,λ_=>rfl,λ_=>rfl,λ_ _=>rfl,λ_ _=>rfl,λ_ _=>rfl,rfl,rfl,rfl,rfl,λ_ _=>rfl,λ_=>rfl,λ_=>rfl,λ_=>rfl,rfl,λ_ _=>rfl⟩
theorem Me:∀s d,rS s d=match d with| .h y q=>cV s (.h y q)|d=>some (d,s):=λ_ _=>by unfold rS;rfl
theorem Mf:
  (∀t k n,cT t (.int k n)=(.int k n))/\
  (∀t b,cT t (.bool b)=(.bool b))/\
  (∀t x,cT t (.str x)=(.str x))/\
  (∀t xs,cT t (.slice xs)=(.slice xs))/\
  (∀t d,cT t (.ref d)=(.ref d))/\
  (∀t,cT t .dM= .dM)/\
  (∀t,cT t .ah= .ah)/\
  (∀t,cT t .fo= .fo)/\
  (∀t,cT t .hole= .hole)/\
  (∀t sz xs,cT t (.ad sz xs)=(.ad sz xs))/\
  (∀t d,cT t (.ai d)=(.ai d))/\
  (∀t aG,cT t (.agg aG)=(.agg aG))/\
  (∀t aG,cT t (.tuple aG)=(.tuple aG))/\
  (∀t y q,cT t (.h y q)=if y=t then .hole else .h y q)/\
  (∀t y q,cT t (.aw y q)=if y=t then .hole else .aw y q)/\
  (∀t f c,cT t (.fn f c)= .fn f (jI t c))/\
  (∀t,jI t []=[])/\
  (∀t d ds,jI t (d::ds)=cT t d::jI t ds)/\
  (∀t,pZ t []=[])/\
  (∀t u d l,pZ t ((u,d)::l)=(u,cT t d)::pZ t l)/\
  (∀t l,kR t (an l)=an (pZ t l)):=
 ⟨λ_ _ _=>by unfold cT;rfl,λ_ _=>by unfold cT;rfl,λ_ _=>by unfold cT;rfl,λ_ _=>by unfold cT;rfl,λ_ _=>by unfold cT;rfl,λ_=>by unfold cT;rfl,λ_=>by unfold cT;rfl,λ_=>by unfold cT;rfl,λ_=>by unfold cT;rfl,λ_ _ _=>by unfold cT;rfl,λ_ _=>by unfold cT;rfl,λ_ _=>by unfold cT;rfl,λ_ _=>by unfold cT;rfl,λ_ _ _=>by unfold cT;rfl,λ_ _ _=>by unfold cT;rfl,λ_ _ _=>by simp only[cT],λ_=>by simp only[jI],λ_ _ _=>by simp only[jI],λ_=>rfl,λ_ _ _ _=>rfl,λt l=>yO t l⟩
theorem Mg:
  (∀t k n,cp t (.int k n)=(.int k n))/\
  (∀t b,cp t (.bool b)=(.bool b))/\
  (∀t x,cp t (.str x)=(.str x))/\
  (∀t xs,cp t (.slice xs)=(.slice xs))/\
  (∀t d,cp t (.ref d)=(.ref d))/\
  (∀t,cp t .dM= .dM)/\
  (∀t,cp t .ah= .ah)/\
  (∀t,cp t .fo= .fo)/\
  (∀t,cp t .hole= .hole)/\
  (∀t sz xs,cp t (.ad sz xs)=(.ad sz xs))/\
  (∀t d,cp t (.ai d)=(.ai d))/\
  (∀t aG,cp t (.agg aG)=(.agg aG))/\
  (∀t aG,cp t (.tuple aG)=(.tuple aG))/\
  (∀t y,cp t (.h y [])= .h y [])/\
  (∀t y k q,cp t (.h y (k::q))=if y=t then .hole else .h y (k::q))/\
  (∀t y q,cp t (.aw y q)=if y=t then .hole else .aw y q)/\
  (∀t f c,cp t (.fn f c)= .fn f (i7 t c))/\
  (∀t,i7 t []=[])/\
  (∀t d ds,i7 t (d::ds)=cp t d::i7 t ds)/\
  (∀t,sU t []=[])/\
  (∀t u d l,sU t ((u,d)::l)=(u,cp t d)::sU t l)/\
  (∀t l,hV t (an l)=an (sU t l)):=
 ⟨λ_ _ _=>by unfold cp;rfl,λ_ _=>by unfold cp;rfl,λ_ _=>by unfold cp;rfl,λ_ _=>by unfold cp;rfl,λ_ _=>by unfold cp;rfl,λ_=>by unfold cp;rfl,λ_=>by unfold cp;rfl,λ_=>by unfold cp;rfl,λ_=>by unfold cp;rfl,λ_ _ _=>by unfold cp;rfl,λ_ _=>by unfold cp;rfl,λ_ _=>by unfold cp;rfl,λ_ _=>by unfold cp;rfl,λ_ _=>by simp[cp],λ_ _ _ _=>by simp[cp],λ_ _ _=>by unfold cp;rfl,λ_ _ _=>by simp only[cp],λ_=>by simp only[i7],λ_ _ _=>by simp only[i7],λ_=>rfl,λ_ _ _ _=>rfl,λt l=>LN t l⟩
def FF:mO->Bool->Option I
 | .bool,b=>some (.bool b)
 |_,_=>none
def sY (neg:Bool):mO->Option ahD->Option I
 | .slice _,some r=>some (pF neg r)
 |_,_=>none
def uJ (neg:Bool):mO->ahD->Option I
 | .ptr _,some b=>some (.bool (b !=neg))
 |_,_=>none
theorem Mh (C:bV) (s:ao) (T:TypeId):
  (∀op k a c7 b,fa C s op T (.int k a) (.int c7 b)=ju op k a c7 b)/\
  (∀op a b,fa C s op T (.str a) (.str b)=n0 op a b)/\
  (∀a b,fa C s .eql T (.bool a) (.bool b)=FF (C.T T).k (a==b))/\
  (∀a b,fa C s .neq T (.bool a) (.bool b)=FF (C.T T).k (!(a==b)))/\
  (∀xs,fa C s .eql T (.slice xs) .ah=sY false (C.T T).k (kj s (.slice xs)))/\
  (∀xs,fa C s .neq T (.slice xs) .ah=sY true (C.T T).k (kj s (.slice xs)))/\
  (fa C s .eql T .ah .ah=sY false (C.T T).k (kj s .ah))/\
  (fa C s .neq T .ah .ah=sY true (C.T T).k (kj s .ah))/\
  (∀x q,fa C s .eql T (.h x q) .ah=sY false (C.T T).k (kj s (.h x q)))/\
  (∀x q,fa C s .neq T (.h x q) .ah=sY true (C.T T).k (kj s (.h x q)))/\
  (∀x q,fa C s .eql T (.h x q) .dM=uJ false (C.T T).k (lU s (.h x q)))/\
  (∀x q,fa C s .neq T (.h x q) .dM=uJ true (C.T T).k (lU s (.h x q)))/\
  (∀d,fa C s .eql T (.ref d) .dM=uJ false (C.T T).k (lU s (.ref d)))/\
  (∀d,fa C s .neq T (.ref d) .dM=uJ true (C.T T).k (lU s (.ref d)))/\
  (fa C s .eql T .dM .dM=uJ false (C.T T).k (lU s .dM))/\
  (fa C s .neq T .dM .dM=uJ true (C.T T).k (lU s .dM)):=by
 refine⟨?_,?_,?_,?_,?_,?_,?_,?_,?_,?_,?_,?_,?_,?_,?_,?_⟩<;>intros<;>first
  |rfl
  |(simp only[fa]
    generalize (C.T T).k=i_;cases i_<;>first|rfl|(simp only[sY];generalize kj s _=v;cases v<;>rfl)|(simp only[uJ];generalize lU s _=v;cases v<;>(try (rename_i b;cases b))<;>rfl))
theorem Mi (k:IntKind) (a b:Int):
  ju .add k a k b=some (.int k (k.wrap (a+b)))/\ju .sub k a k b=some (.int k (k.wrap (a-b)))/\ju .mul k a k b=some (.int k (k.wrap (a*b)))/\
  ju .eql k a k b=some (.bool (a==b))/\ju .neq k a k b=some (.bool (a !=b))/\ju .lss k a k b=some (.bool (decide (a<b)))/\ju .leq k a k b=some (.bool (decide (a<=b)))/\
  ju .gtr k a k b=some (.bool (decide (b<a)))/\ju .geq k a k b=some (.bool (decide (b<=a)))/\
  ju .and k a k b=some (.int k (bitsOf .and k a b))/\ju .or k a k b=some (.int k (bitsOf .or k a b))/\ju .xor k a k b=some (.int k (bitsOf .xor k a b))/\ju .andNot k a k b=some (.int k (bitsOf .andNot k a b)):=by
 simp[ju]
theorem U6 {k:IntKind} {a b:Int} (h:b≠0):ju .quo k a k b=some (.int k (k.wrap (a.tdiv b))):=by simp[ju,h]
theorem U7 {k:IntKind} {a b:Int} (h:b≠0):ju .rem k a k b=some (.int k (a.tmod b)):=by simp[ju,h]
theorem Mj (a b:ahz):
  n0 .eql a b=some (.bool (a==b))/\n0 .neq a b=some (.bool !(a==b))/\n0 .lss a b=some (.bool (Op.bytesLess a b))/\
  n0 .leq a b=some (.bool (Op.bytesLess a b||a==b))/\n0 .gtr a b=some (.bool !(Op.bytesLess a b||a==b))/\n0 .geq a b=some (.bool !(Op.bytesLess a b)):=by
 refine⟨rfl,rfl,rfl,rfl,rfl,rfl⟩
theorem Mk:(∀b,un .not (.bool b)=some (.bool !b))/\(un .not .fo=some .fo)/\(∀k n,un .neg (.int k n)=some (.int k (k.wrap (0-n)))):=⟨λ_=>rfl,rfl,λ_ _=>rfl⟩
def FG:mO->Option UInt8->Option I
 | .str,some c=>some (.int .u8 c.toNat)
 |_,_=>none
theorem Ml (C:bV) (T:TypeId) (l:ahz) (k:IntKind) (n:Int):idx C T (.str l) (.int k n)=FG (C.T T).k (bZ l n):=by
 simp only[idx,bZ];generalize (C.T T).k=i_;cases i_<;>first|rfl|(simp only[FG];split<;>first|rfl|(cases l[n.toNat]? <;>rfl))
def FH (C:bV):mO->Option I->Option I
 | .slice e,some d=>if(C.T e).ok=true/\d.wd=(C.T e).sz then some (.ref d)else none
 |_,_=>none
theorem Mm (C:bV) (s:ao) (T:TypeId) (xs:ahI) (k:IntKind) (n:Int):jr C s T (.slice xs) (.int k n)=FH C (C.T T).k (bZ xs n):=by
 simp only[jr,bZ];generalize (C.T T).k=i_;cases i_<;>first|rfl|skip
 simp only[FH];by_cases bA:0<=n
 .simp only[bA,true_and,if_true];split
  .cases xs[n.toNat]? <;>simp[*]
  .cases xs[n.toNat]? <;>simp[*]
 .simp only[bA,false_and,if_false]
def yX (C:bV) (y:Nat) (q:ahC) (n:Int):mO->Option I->Option I
 | .slice e,some (.ad sz xs)=>if(bZ xs n).isSome=true/\(C.T e).ok=true/\sz=(C.T e).sz then some (.aw y (q++[n.toNat]))else none
 |_,_=>none
theorem Mn (C:bV) (s:ao) (T:TypeId) (y:Nat) (q:ahC) (k:IntKind) (n:Int):jr C s T (.h y q) (.int k n)=yX C y q n (C.T T).k (I.sub q (s y)):=by
 simp only[jr];generalize (C.T T).k=i_;cases i_<;>first|rfl|skip
 rename_i e;cases ae:I.sub q (s y)with
 |none=>simp[yX]
 |some d=>
  cases d<;>first
   |(simp[yX];done)
   |skip
  rename_i sz xs;have bP:(bZ xs n).isSome=true↔0<=n/\n.toNat<xs.length:=by
   unfold bZ;split<;>simp_all<;>omega
  simp only[yX,bP];by_cases bA:0<=n<;>by_cases af:(C.T e).ok=true<;>simp[bA,af]
def wc:mO->ao->Option ahz->Option (I×ao)
 | .str,s,some t=>some (.str t,s)
 |_,_,_=>none
def we (C:bV):mO->ao->ahI->Option ahI->Option (I×ao)
 | .slice e,s,xs,some t=>if(C.T e).ok=true/\∀d∈xs,d.wd=(C.T e).sz then some (.slice t,s)else none
 |_,_,_,_=>none
theorem Mo (C:bV) (s:ao) (T:TypeId) (l:ahz):
  (∀k a c7 b,fW C s T (.str l) (some (.int k a)) (some (.int c7 b))=wc (C.T T).k s (kv l a b))/\
  (∀c7 b,fW C s T (.str l) none (some (.int c7 b))=wc (C.T T).k s (kv l 0 b))/\
  (∀k a,fW C s T (.str l) (some (.int k a)) none=wc (C.T T).k s (kv l a l.length)):=by
 have e:∀(e5 aq:Option I) (a b:Int),(ix 0 e5=if 0<=a then some a.toNat else none)->(ix l.length aq=if 0<=b then some b.toNat else none)->fW C s T (.str l) e5 aq=wc (C.T T).k s (kv l a b):=by
  intro e5 aq a b af ag;simp only[fW];generalize (C.T T).k=i_;cases i_<;>first|rfl|skip
  simp only[af,ag,kv];by_cases bY:0<=a<;>by_cases U:0<=b<;>simp only[bY,U,if_true,if_false,wc,true_and,false_and]
  .by_cases aC:a<=b/\b<=l.length
   .rw[if_pos ⟨by omega,by omega⟩,if_pos aC]
   .rw[if_neg (λh=>aC ⟨by omega,by omega⟩),if_neg aC]
  .rw[if_neg (by omega)]
 exact⟨λk a c7 b=>e _ _ a b rfl rfl,λc7 b=>e _ _ 0 b rfl rfl,λk a=>e _ _ a l.length rfl (by simp[ix])⟩
theorem Mp (C:bV) (s:ao) (T:TypeId) (xs:ahI):
  (∀k a c7 b,fW C s T (.slice xs) (some (.int k a)) (some (.int c7 b))=we C (C.T T).k s xs (kv xs a b))/\
  (∀c7 b,fW C s T (.slice xs) none (some (.int c7 b))=we C (C.T T).k s xs (kv xs 0 b))/\
  (∀k a,fW C s T (.slice xs) (some (.int k a)) none=we C (C.T T).k s xs (kv xs a xs.length)):=by
 have e:∀(e5 aq:Option I) (a b:Int),(ix 0 e5=if 0<=a then some a.toNat else none)->(ix xs.length aq=if 0<=b then some b.toNat else none)->fW C s T (.slice xs) e5 aq=we C (C.T T).k s xs (kv xs a b):=by
  intro e5 aq a b af ag;simp only[fW];generalize (C.T T).k=i_;cases i_<;>first|rfl|skip
  simp only[af,ag,kv];by_cases bY:0<=a<;>by_cases U:0<=b<;>simp only[bY,U,if_true,if_false,we,true_and,false_and]
  .by_cases aC:a<=b/\b<=xs.length
   .rw[if_pos aC];have af:a.toNat<=b.toNat:=by omega
    have ag:b.toNat<=xs.length:=by omega
    simp only[af,ag,true_and]
   .rw[if_neg (λh=>aC ⟨by omega,by omega⟩),if_neg aC]
  .rw[if_neg (by omega)]
 exact⟨λk a c7 b=>e _ _ a b rfl rfl,λc7 b=>e _ _ 0 b rfl rfl,λk a=>e _ _ a xs.length rfl (by simp[ix])⟩
def yY (q:ahC):Option I->Option I
 |some d=>I.sub q d
 |none=>none
theorem Mq:(∀d,I.sub [] d=some d)/\(∀k q aG,I.sub (k::q) (.agg aG)=yY q aG[k]?)/\(∀k q aG,I.sub (k::q) (.tuple aG)=yY q aG[k]?)/\(∀k q sz xs,I.sub (k::q) (.ad sz xs)=yY q xs[k]?)/\
  (∀q d,I.sub (0::q) (.ai d)=I.sub q d)/\(∀q d,yY q (some d)=I.sub q d)/\
  (∀k q a b,I.sub (k::q) (.int a b)=none):=by
 refine⟨λd=>by simp[I.sub],?_,?_,?_,λq d=>by simp[I.sub],λ_ _=>rfl,λ_ _ _ _=>by simp[I.sub]⟩
 .intro k q aG;simp only[I.sub];cases aG[k]? <;>rfl
 .intro k q aG;simp only[I.sub];cases aG[k]? <;>rfl
 .intro k q sz aG;simp only[I.sub];cases aG[k]? <;>rfl
def Mr (k:Nat) (q:ahC) (n:I) (aG:ahI):Option I->I
 |some d=>.agg (aG.set k (I.put q n d))
 |none=>.agg aG
def Ms (k:Nat) (q:ahC) (n:I) (aG:ahI):Option I->I
 |some d=>.tuple (aG.set k (I.put q n d))
 |none=>.tuple aG
def Mt (k:Nat) (q:ahC) (n:I) (sz:Nat) (xs:ahI):Option I->I
 |some d=>.ad sz (xs.set k (I.put q n d))
 |none=>.ad sz xs
theorem Mu:(∀n d,I.put [] n d=n)/\(∀k q n aG,I.put (k::q) n (.agg aG)=Mr k q n aG aG[k]?)/\(∀k q n aG,I.put (k::q) n (.tuple aG)=Ms k q n aG aG[k]?)/\
  (∀k q n sz xs,I.put (k::q) n (.ad sz xs)=Mt k q n sz xs xs[k]?)/\(∀q n d,I.put (0::q) n (.ai d)= .ai (I.put q n d))/\
  (∀k q n aG d,Mr k q n aG (some d)= .agg (aG.set k (I.put q n d)))/\(∀k q n aG d,Ms k q n aG (some d)= .tuple (aG.set k (I.put q n d)))/\
  (∀k q n sz xs d,Mt k q n sz xs (some d)= .ad sz (xs.set k (I.put q n d))):=by
 refine⟨λn d=>by simp[I.put],?_,?_,?_,λq n d=>by simp[I.put],λ_ _ _ _ _=>rfl,λ_ _ _ _ _=>rfl,λ_ _ _ _ _ _=>rfl⟩
 .intro k q n aG;simp only[I.put];cases aG[k]? <;>rfl
 .intro k q n aG;simp only[I.put];cases aG[k]? <;>rfl
 .intro k q n sz aG;simp only[I.put];cases aG[k]? <;>rfl
theorem FI:(∀k n,I.wd (.int k n)=1)/\(∀b,I.wd (.bool b)=1)/\(∀x,I.wd (.str x)=1)/\(∀x,I.wd (.slice x)=1)/\(∀n x,I.wd (.ad n x)=1)/\(∀x,I.wd (.ref x)=1)/\(∀x,I.wd (.ai x)=1)/\
  I.wd .ah=1/\I.wd .dM=1/\I.wd .hole=1/\I.wd .fo=1/\(∀x y,I.wd (.h x y)=1)/\(∀x y,I.wd (.aw x y)=1)/\(∀x y,I.wd (.fn x y)=1)/\(∀aG,I.wd (.agg aG)=I.dO aG)/\(∀aG,I.wd (.tuple aG)=I.dO aG)/\I.dO []=0/\(∀d ds,I.dO (d::ds)=d.wd+I.dO ds):=by
 simp[I.wd,I.dO]
theorem U8 {α:Type} {e:α->I} {n:Nat} (h:∀x,(e x).wd=n) (xs:List α):(∀d∈xs.map e,d.wd=n)=True:=by
 simp only[List.mem_map,eq_iff_iff,iff_true];rintro d ⟨x,_,rfl⟩;exact h x
theorem U9 (C:bV) (s:ao) (A B:TypeId) (k c7:IntKind) (n:Int) (hX:(C.T A).ok=true) (hb:(C.T B).k= .int c7):jv C s A B (.int k n)=some (.int c7 (c7.wrap n)):=by
 simp only[jv,hX,hb,if_true]
theorem Mv (m:Int):lA (rm m)= .int .u8 (u8.wrap m):=by
 have h:0<=u8.wrap m/\u8.wrap m<256:=by rw[wrap_u8];omega
 simp only[lA,rm,UInt8.toNat_ofNat'];congr 1;omega
theorem FJ (m:Int):((rm m).toNat:Int)=u8.wrap m:=by
 have h:=Mv m;simpa [lA]using h
section
variable {C:bV} {l:ahH} {Q:Exit->ao->Prop} {s:ao}
theorem hH {ros:List bW} {k:ahC} (h:cS C (an l) ros none (λ_ s=>Q .normal (an (eD k s)))):bp C (.e0 ros (some k)) Q (an l):=yQ (λ_ _ h=>h) h
theorem sZ {ros:List bW} {bT:ahA} {k:ahC} (hlen:bT.length=ros.length) (h:cS C (an l) ros (some []) (λacc s=>iK (kD bT) 0 [] (acc.getD []).reverse=true/\Q .normal (an (eD k s)))):
  bp C (.h9 ros bT (some k)) Q (an l):=yU hlen h
theorem U_ {a b:aT} (h:∀eC:Exit->ao->Prop,(∀s,eK (bp C b Q) s->eC .normal s)->(∀s,Q .ret s->eC .ret s)->(∀i s,Q (.exit i) s->eC (.exit i) s)->bp C a eC s):bp C (.seq a b) Q s:=
 h _ (λ_ h=>h) (λ_ h=>h) (λ_ _ h=>h)
theorem df {ros:List bW} {k:ahC} {b:aT} (h:cS C (an l) ros none (λ_ s=>bp C b Q (an (eD k s)))):bp C (.seq (.e0 ros (some k)) b) Q (an l):=yQ (λ_ _ h=>.inl h) h
theorem ka {ros:List bW} {bT:ahA} {k:ahC} {b:aT} (hlen:bT.length=ros.length) (h:cS C (an l) ros (some []) (λacc s=>iK (kD bT) 0 [] (acc.getD []).reverse=true/\bp C b Q (an (eD k s)))):
  bp C (.seq (.h9 ros bT (some k)) b) Q (an l):=yU (K:=λs=>eK (bp C b Q) (an (eD k s))) hlen (by
   have key:∀(os:List bW) (s:ao) (acc:Option (List fh)),cS C s os acc (λacc s=>iK (kD bT) 0 [] (acc.getD []).reverse=true/\bp C b Q (an (eD k s)))->
     cS C s os acc (λacc s=>iK (kD bT) 0 [] (acc.getD []).reverse=true/\eK (bp C b Q) (an (eD k s))):=by
    intro os;induction os with
    |nil=>intro s acc h;exact⟨h.1,.inl h.2⟩
    |cons o os ih=>
     intro s acc h;have mono:∀{s:ao} {bE:dU} {K de:ahC->I->ao->Prop},(∀a b c,K a b c->de a b c)->n7 C s bE K->n7 C s bE de:=by
      intro s bE K de au h;cases bE with
      |call f args=>
       obtain⟨g,caps,ps,r,af,gS,ag,aJ,a_,bC,cw,cQ,e3⟩:=h;exact⟨g,caps,ps,r,af,gS,ag,aJ,a_,bC,cw,cQ,au _ _ _ e3⟩
      |shr bE=>obtain⟨av,s1,af,ag,aJ,a_⟩:=h;exact⟨av,s1,af,ag,aJ,au _ _ _ a_⟩
      |lX f args us=>
       obtain⟨cK,g,caps,ps,r,af,gS,ag,aJ,a_,bC,cw,cQ,e3,jq⟩:=h;exact⟨cK,g,caps,ps,r,af,gS,ag,aJ,a_,bC,cw,cQ,e3,au _ _ _ jq⟩
      |_=>obtain⟨av,s1,af,ag⟩:=h;exact⟨av,s1,af,au _ _ _ ag⟩
     simp only[cS,mz]at h⊢;split
     .rename_i bP;rw[bP]at h;exact mono (λ_ _ _=>ih _ _) h
     .rename_i t ee bP;rw[bP]at h;simp only at h;split
      .rename_i ago ae;rw[ae]at h;simp only at h;split
       .rename_i U;rw[if_pos U]at h;exact mono (λ_ _ _=>ih _ _) h
       .rename_i U;rw[if_neg U]at h;exact ih _ _ h
      .rename_i ae;rw[ae]at h;exact ih _ _ h
      .rename_i af ag;split at h
       .exact af _ (by assumption)
       .exact ag (by assumption)
       .exact h
   exact key _ _ _ h)
theorem jy {c:bn} {a b:aT} (aC:br s c= .bool true) (h:bp C a Q s):bp C (.cond c a b) Q s:=by simp only[bp,aC,if_true];exact h
theorem rT {c:bn} {a b:aT} (aC:br s c= .bool false) (h:bp C b Q s):bp C (.cond c a b) Q s:=by simp only[bp,aC];exact h
theorem FK {c:bn} {a b:aT} (aC:br s c= .fo) (af:bp C a Q s) (ag:bp C b Q s):bp C (.cond c a b) Q s:=by simp only[bp,aC];exact⟨af,ag⟩
theorem Va {id:Nat} {b:aT} (h:∀eC:Exit->ao->Prop,(∀s,Q .normal s->eC .normal s)->(∀s,Q .ret s->eC .ret s)->(∀s,Q .normal s->eC (.exit id) s)->(∀i s,i≠id->Q (.exit i) s->eC (.exit i) s)->bp C b eC s):bp C (.block id b) Q s:=
 h (v8 id Q) (λ_ h=>h) (λ_ h=>h) (λs h=>by simp only[v8,if_true];exact h) (λi s aq h=>by simp only[v8,if_neg aq];exact h)
theorem dk {id:Nat} (h:Q (.exit id) s):bp C (.exit id) Q s:=h
theorem ko (h:Q .ret s):bp C .ret Q s:=h
theorem bf (h:Q .normal s):bp C .skip Q s:=h
def dc (C:bV) (b:aT) (Q:Exit->ao->Prop) (s:ao):Prop:=∀Z:ao->Prop,(∀aH,bp C b (andThen (eK Z) Q) aH->Z aH)->Z s
theorem kW {b:aT} (h:eK (dc C b Q) s):bp C (.loop b) Q s:=h
theorem Vb {b:aT} (h:∀eC:Exit->ao->Prop,(∀s,eK (dc C b Q) s->eC .normal s)->(∀s,Q .ret s->eC .ret s)->(∀i s,Q (.exit i) s->eC (.exit i) s)->bp C b eC s):dc C b Q s:=by
 intro Z v9;refine v9 s (LF b ?_ (h (andThen (eK (dc C b Q)) Q) (λ_ h=>h) (λ_ h=>h) (λ_ _ h=>h)));intro e aH bO;cases e with
 |normal=>exact uD (λs h=>h Z v9) aH bO
 |_=>exact bO
theorem cH {bR:ahH} (h:bR.map (·.2)=bR.map λp=>s p.1):rR s bR:=by
 intro p aw;left;induction bR with
 |nil=>cases aw
 |cons a bR ih=>
  simp only[List.map_cons,List.cons.injEq]at h;rcases List.mem_cons.1 aw with rfl|aw
  .exact h.1
  .exact ih h.2 aw
end
section
variable {C:bV} {l:ahH} {Q:Exit->ao->Prop} {s:ao} {os ros:List bW} {K:Option (List fh)->ao->Prop} {dst:Option Nat}
theorem Mw (l:ahH):(∀n,br (an l) (.t n)=qz n (an l n))/\(∀av,br (an l) (.c av)=av)/\(∀g,br (an l) (.f g)= .fn g []):=⟨λ_=>rfl,λ_=>rfl,λ_=>rfl⟩
theorem Mx:(∀t,an [] t= .hole)/\(∀u d (l:ahH) t,an ((u,d)::l) t=if t=u then d else an l t):=⟨λ_=>rfl,λ_ _ _ _=>rfl⟩
theorem My (s:ao):eD [] s=[]/\(∀t k,eD (t::k) s=(t,s t)::eD k s):=⟨rfl,λ_ _=>rfl⟩
theorem Mz (s:ao):(∀d,j9 s (some d)=some (d,s))/\(∀s1,du (some s1)=some (.hole,s1))/\j_ s []=[]/\(∀x xs,j_ s (x::xs)=br s x::j_ s xs)/\sX s []=[]/\(∀k x xs,sX s ((k,x)::xs)=(k,br s x)::sX s xs)/\
  yV s none=none/\(∀x,yV s (some x)=some (br s x))/\(∀b x y,L9 s (.bool b) x y=some (if b=true then x else y,s)):=
 ⟨λ_=>rfl,λ_=>rfl,rfl,λ_ _=>rfl,rfl,λ_ _ _=>rfl,rfl,λ_=>rfl,λb _ _=>by cases b<;>rfl⟩
theorem MA (C:bV):(∀e d,FH C (.slice e) (some d)=if(C.T e).ok=true/\d.wd=(C.T e).sz then some (.ref d)else none)/\
  (∀y q n e sz xs,yX C y q n (.slice e) (some (.ad sz xs))=if(bZ xs n).isSome=true/\(C.T e).ok=true/\sz=(C.T e).sz then some (.aw y (q++[n.toNat]))else none)/\
  (∀e s xs t,we C (.slice e) s xs (some t)=if(C.T e).ok=true/\∀d∈xs,d.wd=(C.T e).sz then some (.slice t,s)else none):=
 ⟨λ_ _=>rfl,λ_ _ _ _ _ _=>rfl,λ_ _ _ _=>rfl⟩
theorem MB:(∀b,FF .bool b=some (.bool b))/\(∀c,FG .str (some c)=some (.int .u8 c.toNat))/\(∀s t,wc .str s (some t)=some (.str t,s))/\(∀q d,yY q (some d)=I.sub q d):=
 ⟨λ_=>rfl,λ_=>rfl,λ_ _=>rfl,λ_ _=>rfl⟩
theorem MC (sz bytes:Nat) (z:I):(∀k,gD.ok ⟨.int k,sz,bytes,z⟩=true)/\gD.ok ⟨.bool,sz,bytes,z⟩=true/\gD.ok ⟨.str,sz,bytes,z⟩=true/\(∀e,gD.ok ⟨.ptr e,sz,bytes,z⟩=true)/\(∀e,gD.ok ⟨.slice e,sz,bytes,z⟩=true)/\(∀e,gD.ok ⟨.struct e,sz,bytes,z⟩=true)/\gD.ok ⟨.fn,sz,bytes,z⟩=true:=by
 simp[gD.ok]
theorem MD (sz bytes:Nat) (z:I):(∀k,gD.flat ⟨.int k,sz,bytes,z⟩=true)/\gD.flat ⟨.bool,sz,bytes,z⟩=true/\gD.flat ⟨.str,sz,bytes,z⟩=true/\(∀e,gD.flat ⟨.ptr e,sz,bytes,z⟩=true)/\(∀e,gD.flat ⟨.slice e,sz,bytes,z⟩=true)/\(∀e,gD.flat ⟨.struct e,sz,bytes,z⟩=false)/\gD.flat ⟨.fn,sz,bytes,z⟩=true:=by
 simp[gD.flat]
theorem yZ (c:UInt8) (k:IntKind) (au:k≠.i8):k.wrap (c.toNat:Int)=(c.toNat:Int):=by
 have:=c.toNat_lt;cases k<;>first|(exact(au rfl).elim)|(simp[wrap,IntKind.bits,signed];try omega)
theorem FL (c:UInt8):i64.wrap (c.toNat:Int)=(c.toNat:Int)/\u64.wrap (c.toNat:Int)=(c.toNat:Int)/\u8.wrap (c.toNat:Int)=(c.toNat:Int)/\i32.wrap (c.toNat:Int)=(c.toNat:Int)/\u32.wrap (c.toNat:Int)=(c.toNat:Int):=
 ⟨yZ c _ (by simp),yZ c _ (by simp),yZ c _ (by simp),yZ c _ (by simp),yZ c _ (by simp)⟩
theorem cx {k:ahC} {K:ao->Prop} (bR:ahH) (h:∀P:ahH->Prop,P bR->cS C (an l) ros none (λ_ s=>P (eD k s))) (au:K (an bR)):cS C (an l) ros none (λ_ s=>K (an (eD k s))):=
 h (λl=>K (an l)) au
theorem hZ {k:ahC} {nD:ahA} {K:ao->Prop} (bR:ahH) (h:∀P:ahH->Prop,P bR->cS C (an l) ros (some []) (λacc s=>iK nD 0 [] (acc.getD []).reverse=true/\P (eD k s))) (au:K (an bR)):
  cS C (an l) ros (some []) (λacc s=>iK nD 0 [] (acc.getD []).reverse=true/\K (an (eD k s))):=
 h (λl=>K (an l)) au
theorem bt.Vc (bx:C.eN) {f:FuncId} {fn:Func} {c:Code} {e1:aT} {fx:ahC} {as outs:ahI} {r:I} (bS:C.P.funcs[f]? =some fn) (U:fn.body=some c)
  (lh:(fn.name== "runtime.NumGoroutine")=false) (ae:ft ⟨fn.ntmps,fx⟩ c=some e1.strip) (ba:as.length<=fn.ntmps)
  (h:∀Q:Exit->ao->Prop,(∀s,eK (Ends C fx fn.results.toList r outs) s->Q .ret s)->(∀s,eK (Ends C fx fn.results.toList r outs) s->Q .normal s)->bp C e1 Q (an (num 0 as))) (aw:e1.plain=true:=by kernel_rfl):bt C f as r outs:=by
 refine bt.of_wp bx bS U lh ae ba ?_ aw;rw[yN];exact h _ (λs h=>⟨.inr rfl,h⟩) (λs h=>⟨.inl rfl,h⟩)
def BC:ahI->I
 |[d]=>d
 |ds=>.tuple ds
theorem mA {fx:ahC} {eU:List ResultVar} {r:I} {outs:ahI} (ds:ahI) (af:eU.map (pW C s)=ds.map some) (ag:r=BC ds) (aJ:(eU.map jQ).Nodup)
  (a_:∀(i:Nat) (o:I),outs[i]? =some o->o= .hole\/(o=s i/\o.gE=true/\i∈fx/\i∉eU.map jQ)):Ends C fx eU r outs s:=.inl ⟨ds,af,by subst ag;cases ds with|nil=>rfl|cons a t=>cases t<;>rfl,aJ,a_⟩
theorem Vd {fx:ahC} {eU:List ResultVar}:∀(i:Nat) (o:I),([]:ahI)[i]? =some o->o= .hole\/(o=s i/\o.gE=true/\i∈fx/\i∉eU.map jQ):=λi o h=>by simp at h
theorem ME:∀(as ds:ahI),(m0 as ds).filter (·.g)=[]
 |[],_=>rfl
 |_::_,[]=>rfl
 |a::as,d::ds=>by simp only[m0,List.filter_cons];exact ME as ds
theorem BD {f:bn} {args:List bn} {g:FuncId} {caps:ahI} {K:ahC->I->ao->Prop} (ds:ahI) (r:I)
  (af:br (an l) f= .fn g caps) (gS:I.eY caps=true) (j4:views (an l) (j_ (an l) args++caps)=some ds)
  (bC:bt C g ds r []) (cw:r.res=true) (cQ:I.dK (j_ (an l) args++caps)=[]\/r.dj=true) (hK:K [] r (an l)):n7 C (an l) (.call f args) K:=by
 obtain⟨a1,bc,bb,cl,cR,b0,b7⟩:=Uv _ _ j4;refine⟨g,caps,m0 (j_ (an l) args++caps) ds,r,af,gS,by rw[a1,yW],λp aw=>(bb p aw).1,cl,by rw[bc];exact bC.outs cR.symm,cw,?_,by rw[b0,b7,ME];exact hK⟩;intro hl;refine⟨?_,λp aw=>by rw[(bb p aw).2.2.1];rfl⟩;rcases cQ with cQ|cQ
 .exfalso;simp only[kn,List.any_eq_true]at hl;obtain⟨p,aw,hc⟩:=hl;have hm:=(bb p aw).2.2.2;have:p.a.ae=[]:=by
   have key:∀(as:ahI) (a:I),a∈as->I.dK as=[]->a.ae=[]:=by
    intro as;induction as with
    |nil=>intro a h;cases h
    |cons b as ih=>
     intro a h he;simp only[I.dK,List.append_eq_nil_iff]at he;rcases List.mem_cons.1 h with rfl|h
     .exact he.1
     .exact ih a h he.2
   exact key _ _ hm cQ
  rw[this]at hc;simp at hc
 .exact cQ
theorem dv {f:bn} {args:List bn} {g:FuncId} {caps:ahI} {ds:ahI} {r:I} (bC:bt C g ds r [])
  (af:br (an l) f= .fn g caps:=by rfl) (gS:I.eY caps=true:=by rfl) (j4:views (an l) (j_ (an l) args++caps)=some ds:=by rfl)
  (cw:r.res=true:=by rfl) (cQ:I.dK (j_ (an l) args++caps)=[]\/r.dj=true:=by exact .inl (by rfl))
  (hK:cS C (fin (an l) dst r) os none K):cS C (an l) (⟨dst,.call f args,none⟩::os) none K:=by
 simp only[cS,mz,p0];exact BD ds r af gS j4 bC cw cQ hK
theorem ev {a:List fh} {f:bn} {args:List bn} {g:FuncId} {caps:ahI} {ds:ahI} {r:I} (bC:bt C g ds r [])
  (af:br (an l) f= .fn g caps:=by rfl) (gS:I.eY caps=true:=by rfl) (j4:views (an l) (j_ (an l) args++caps)=some ds:=by rfl)
  (cw:r.res=true:=by rfl) (cQ:I.dK (j_ (an l) args++caps)=[]\/r.dj=true:=by exact .inl (by rfl))
  (hK:cS C (fin (an l) dst r) os (some (jg (an l) (use (an l) (.call f args)) dst [] r::a)) K):cS C (an l) (⟨dst,.call f args,none⟩::os) (some a) K:=by
 simp only[cS,mz,p0];exact BD ds r af gS j4 bC cw cQ hK
theorem kE {t:Nat} {b:Bool} {f:bn} {args:List bn} {g:FuncId} {caps:ahI} {ds:ahI} {r:I} (bC:bt C g ds r [])
  (af:br (an l) f= .fn g caps:=by rfl) (gS:I.eY caps=true:=by rfl) (j4:views (an l) (j_ (an l) args++caps)=some ds:=by rfl)
  (cw:r.res=true:=by rfl) (cQ:I.dK (j_ (an l) args++caps)=[]\/r.dj=true:=by exact .inl (by rfl))
  (hK:cS C (fin (an l) dst r) os none K):j8 C l dst (.call f args) t b os none K (.bool b):=by
 simp only[j8,if_true];exact BD ds r af gS j4 bC cw cQ hK
theorem m2 {a:List fh} {t:Nat} {b:Bool} {f:bn} {args:List bn} {g:FuncId} {caps:ahI} {ds:ahI} {r:I} (bC:bt C g ds r [])
  (af:br (an l) f= .fn g caps:=by rfl) (gS:I.eY caps=true:=by rfl) (j4:views (an l) (j_ (an l) args++caps)=some ds:=by rfl)
  (cw:r.res=true:=by rfl) (cQ:I.dK (j_ (an l) args++caps)=[]\/r.dj=true:=by exact .inl (by rfl))
  (hK:cS C (fin (an l) dst r) os (some (jg (an l) (t::use (an l) (.call f args)) dst [] r::a)) K):j8 C l dst (.call f args) t b os (some a) K (.bool b):=by
 simp only[j8,if_true];exact BD ds r af gS j4 bC cw cQ hK
theorem gw (s:ao):views s []=some []/\(∀d ds,views s (d::ds)=(match view s d,views s ds with|some a,some b=>some (a::b)|_,_=>none))/\
  (∀k n,view s (.int k n)=some (.int k n))/\(∀b,view s (.bool b)=some (.bool b))/\(∀x,view s (.str x)=some (.str x))/\(∀x,view s (.slice x)=some (.slice x))/\(∀x,view s (.ref x)=some (.ref x))/\
  view s .ah=some .ah/\view s .dM=some .dM/\(∀aG,view s (.agg aG)=some (.agg aG))/\(∀f cap,view s (.fn f cap)=(views s cap).map (.fn f)):=by
 refine⟨rfl,λd ds=>?_,λ_ _=>rfl,λ_=>rfl,λ_=>rfl,λ_=>rfl,λ_=>rfl,rfl,rfl,λ_=>rfl,λ_ _=>by simp only[view]⟩;simp only[views];rfl
theorem bB {α:Type} {u e:α->I} (h:∀x,(u x).share=e x) (xs:List α):I.shares (xs.map u)=xs.map e:=by
 rw[I.sy];simp[h]
theorem iR {α:Type} {u:α->I} (h:∀x,(u x).dj=true) (xs:List α):I.jN (xs.map u)=true:=by
 induction xs with
 |nil=>rfl
 |cons x xs ih=>simp only[List.map_cons,I.jN,h,ih,Bool.and_self]
def s0 (s:ao) (H:ahC):ahH->Prop
 |[]=>True
 |p::l=>(p.2=s p.1\/((s p.1).tree=true/\eT (s p.1) p.2/\p.1∉H))/\s0 s H l
theorem ht {bR:ahH} (H:ahC) (lF:I.dK (bR.map (·.2))=H) (h:s0 s H bR):rR s bR:=by
 have key:∀(di:ahH),s0 s H di->∀p∈di,p.2=s p.1\/((s p.1).tree=true/\eT (s p.1) p.2/\p.1∉H):=by
  intro di;induction di with
  |nil=>intro _ p aw;cases aw
  |cons a di ih=>
   intro h p aw;rcases List.mem_cons.1 aw with rfl|aw
   .exact h.1
   .exact ih h.2 p aw
 have ae:∀(di:ahH),∀cE∈di,∀u∈cE.2.ae,u∈I.dK (di.map (·.2)):=by
  intro di;induction di with
  |nil=>intro p aw;cases aw
  |cons a di ih=>
   intro p aw u hu;simp only[List.map_cons,I.dK,List.mem_append];rcases List.mem_cons.1 aw with rfl|aw
   .exact .inl hu
   .exact .inr (ih p aw u hu)
 intro p aw;rcases key _ h p aw with af|⟨af,ag,aJ⟩
 .exact .inl af
 .refine .inr ⟨af,ag,λcE dT=>.inl λhm=>aJ ?_⟩;rw[<-lF];exact ae bR cE dT _ hm
def s3 (s:ao) (H D:ahC):ahH->Prop
 |[]=>True
 |p::l=>(p.2=s p.1\/((s p.1).tree=true/\eT (s p.1) p.2/\(p.1∉H\/((s p.1).own=true/\p.2.own=true/\p.1∉D))))/\s3 s H D l
theorem Ve {bR:ahH} (H D:ahC) (lF:I.dK (bR.map (·.2))=H) (FM:I.sS (bR.map (·.2))=D) (h:s3 s H D bR):rR s bR:=by
 have key:∀(di:ahH),s3 s H D di->∀p∈di,p.2=s p.1\/((s p.1).tree=true/\eT (s p.1) p.2/\(p.1∉H\/((s p.1).own=true/\p.2.own=true/\p.1∉D))):=by
  intro di;induction di with
  |nil=>intro _ p aw;cases aw
  |cons a di ih=>
   intro h p aw;rcases List.mem_cons.1 aw with rfl|aw
   .exact h.1
   .exact ih h.2 p aw
 have ae:∀(di:ahH),∀cE∈di,(∀u∈cE.2.ae,u∈I.dK (di.map (·.2)))/\∀u∈cE.2.sR,u∈I.sS (di.map (·.2)):=by
  intro di;induction di with
  |nil=>intro p aw;cases aw
  |cons a di ih=>
   intro p aw;simp only[List.map_cons,I.dK,I.sS,List.mem_append];rcases List.mem_cons.1 aw with rfl|aw
   .exact⟨λu hu=>.inl hu,λu hu=>.inl hu⟩
   .exact⟨λu hu=>.inr ((ih p aw).1 u hu),λu hu=>.inr ((ih p aw).2 u hu)⟩
 intro p aw;rcases key _ h p aw with af|⟨af,ag,aJ⟩
 .exact .inl af
 .refine .inr ⟨af,ag,λcE dT=>?_⟩;rcases aJ with aJ|⟨j5,kz,vZ⟩
  .exact .inl λhm=>aJ (by rw[<-lF];exact(ae bR cE dT).1 _ hm)
  .exact .inr ⟨j5,kz,λhm=>vZ (by rw[<-FM];exact(ae bR cE dT).2 _ hm)⟩
theorem Vf {H D:ahC}:s3 s H D []:=trivial
theorem BE {H D:ahC} {t:Nat} {d:I} {bR:ahH} (h:d=s t) (hl:s3 s H D bR):s3 s H D ((t,d)::bR):=⟨.inl h,hl⟩
theorem Vg {H D:ahC} {t:Nat} {d bz:I} {bR:ahH} (e:s t=d) (aZ:d.tree=true) (al:eT d bz) (af:d.own=true) (ag:bz.own=true) (FM:t∉D) (hl:s3 s H D bR):s3 s H D ((t,bz)::bR):=
 ⟨.inr ⟨by rw[e];exact aZ,by rw[e];exact al,.inr ⟨by rw[e];exact af,ag,FM⟩⟩,hl⟩
theorem hv {H:ahC}:s0 s H []:=trivial
theorem cy {H:ahC} {t:Nat} {d:I} {bR:ahH} (h:d=s t) (hl:s0 s H bR):s0 s H ((t,d)::bR):=⟨.inl h,hl⟩
theorem hg {H:ahC} {t:Nat} {d bz:I} {bR:ahH} (e:s t=d) (aZ:d.tree=true) (al:eT d bz) (lF:t∉H) (hl:s0 s H bR):s0 s H ((t,bz)::bR):=⟨.inr ⟨by rw[e];exact aZ,by rw[e];exact al,lF⟩,hl⟩
theorem MF {a b:I} (h:eT a b):∀n,kA (List.replicate n a) (List.replicate n b)
 |0=>.nil
 |n+1=>by simp only[List.replicate_succ];exact .cons h (MF h n)
theorem MG {α:Type} {sz:Nat} {u:α->I} {z:α} {a:I} (h:eT a (u z)) (n:Nat):eT (.ad sz (List.replicate n a)) (.ad sz ((List.replicate n z).map u)):=by
 rw[List.map_replicate];exact .ad (MF h n)
end
theorem Vh {C:bV} {A B:TypeId} {c7:IntKind} (hX:(C.T A).ok=true) (hb:(C.T B).k= .int c7):∀s k n,jv C s A B (.int k n)=some (.int c7 (c7.wrap n)):=λs k n=>U9 C s A B k c7 n hX hb
def MH:Option I->Option I
 |some (.ad 1 xs)=>(bytesOf xs).map .str
 |_=>none
theorem Vi {C:bV} {A B e:TypeId} (hX:(C.T A).k= .slice e) (hb:(C.T B).k= .str) (he:(C.T e).k= .int .u8):
  (∀s xs,jv C s A B (.slice xs)=(bytesOf xs).map .str)/\(∀s,jv C s A B .ah=some (.str []))/\(∀s x q,jv C s A B (.h x q)=MH (I.sub q (s x))):=by
 have yt:(C.T A).ok=true:=by simp[gD.ok,hX]
 refine⟨λs xs=>?_,λs=>?_,λs x q=>?_⟩
 .simp only[jv,yt,hX,hb,he,if_true]
 .simp only[jv,yt,hX,hb,he,if_true]
 .simp only[jv,yt,hX,hb,he,if_true];rfl
theorem Vj (xs:ahI):MH (some (.ad 1 xs))=(bytesOf xs).map .str:=rfl
theorem MI (c:UInt8) (r:ahI):bytesOf (lA c::r)=(bytesOf r).map (c::·):=by
 have:=c.toNat_lt;simp only[lA,bytesOf];rw[if_pos (by omega)];simp
theorem Vk:bytesOf []=some []/\
  (∀l:ahz,bytesOf (l.map lA)=some l)/\
  (∀c r,bytesOf (.int .u8 (c.toNat:Int)::r)=(bytesOf r).map (c::·))/\
  (∀m r,bytesOf (.int .u8 (u8.wrap m)::r)=(bytesOf r).map (rm m::·)):=
 ⟨rfl,R8,λc r=>MI c r,λm r=>by rw[<-Mv];exact MI _ r⟩
theorem Vl {k:IntKind} {b:Int} (h:b≠0):∀a,ju .quo k a k b=some (.int k (k.wrap (a.tdiv b))):=λ_=>U6 h
theorem Vm {k:IntKind} {b:Int} (h:b≠0):∀a,ju .rem k a k b=some (.int k (a.tmod b)):=λ_=>U7 h
theorem hx {α:Type} {e:α->I} {n:Nat} (h:∀x,(e x).wd=n):∀xs:List α,(∀d∈xs.map e,d.wd=n)=True:=U8 h
theorem h_ {P:I->Prop} (d:I) (ds:ahI):(∀x∈d::ds,P x)=(P d/\∀x∈ds,P x):=by simp
theorem all_nil {P:I->Prop}:(∀x∈([]:ahI),P x)=True:=by simp
def MJ (a b:ahz):Option Unit->Option I
 |some _=>some (.str (a++b))
 |none=>none
theorem MK (a b:ahz):n0 .add a b=MJ a b (qw (a.length+b.length)):=by
 simp only[n0,qw];split<;>rfl
theorem ML (a b:ahz) (u:Unit):MJ a b (some u)=some (.str (a++b)):=rfl
theorem MM:(∀l:ahC,[]++l=l)/\(∀a (l m:ahC),(a::l)++m=a::(l++m)):=⟨λ_=>rfl,λ_ _ _=>rfl⟩
def MN (C:bV) (e cb:TypeId):Bool:=(C.T e).ok&&((C.T e).zero.wd==(C.T e).sz)&&(flat (C.T e).zero).isSome&&A8 C e cb
def BF (C:bV) (e:TypeId) (xs:ahI):Option (ahI×ao)->Option (I×ao)
 |some (cr,s2)=>if(∀d∈cr,d.wd=(C.T e).sz)/\(room (C.T e).bytes (xs.length+cr.length)).isSome=true then some (.ad (C.T e).sz (xs++cr),s2)else none
 |none=>none
def FN (C:bV) (e:TypeId) (y:I) (o:Option Nat):Option (I×ao)->Option (I×ao)
 |some (.ad sz xs,s1)=>if sz=(C.T e).sz then BF C e xs (lY s1 (k9 o y))else none
 |_=>none
theorem Vn (b n:Nat):(room b n).isSome=true↔n*b<=140737488355328/\n<=9223372036854775807:=by unfold room;split<;>simp_all
theorem h0 {C:bV} {T cb e:TypeId} (iZ:(C.T T).k= .slice e) (fH:MN C e cb=true):∀s x y,rG C s T cb x y=FN C e y x.owner (qL C e s x):=by
 intro s x y;simp only[MN,Bool.and_eq_true,beq_iff_eq]at fH;rw[EV,iZ];simp only;rw[if_pos ⟨fH.1.1.1,fH.1.1.2,fH.1.2,fH.2⟩];generalize x.owner=o;cases qL C e s x with
 |none=>rfl
 |some p=>
  obtain⟨d,s1⟩:=p;cases d<;>first
   |rfl
   |(simp only[FN]
     split
     .rename_i h;subst h;generalize lY s1 (k9 o y)=z;cases z with
      |none=>rfl
      |some p=>simp only[BF,Vn]
     .rfl)
def MO:Option (I×ao)->Option (ahI×ao)
 |some (.ad _ cr,s2)=>some (cr,s2)
 |_=>none
theorem ia (s:ao):lY s .ah=some ([],s)/\(∀cr,lY s (.slice cr)=some (cr,s))/\(∀l,lY s (.str l)=some (l.map lA,s))/\
  (∀a q,lY s (.h a q)=MO (cV s (.h a q)))/\(∀n cr,MO (some (.ad n cr,s))=some (cr,s)):=
 ⟨rfl,λ_=>rfl,λ_=>rfl,λ_ _=>by simp only[lY];rfl,λ_ _=>rfl⟩
theorem ib (C:bV) (e:TypeId):(∀s,qL C e s .ah=some (.ad (C.T e).sz [],s))/\(∀s a q,qL C e s (.h a q)=cV s (.h a q))/\
  (∀y o sz xs s1,FN C e y o (some (.ad sz xs,s1))=if sz=(C.T e).sz then BF C e xs (lY s1 (k9 o y))else none)/\
  (∀xs cr s2,BF C e xs (some (cr,s2))=if(∀d∈cr,d.wd=(C.T e).sz)/\(room (C.T e).bytes (xs.length+cr.length)).isSome=true then some (.ad (C.T e).sz (xs++cr),s2)else none):=
 ⟨λ_=>rfl,λ_ _ _=>rfl,λ_ _ _ _ _=>rfl,λ_ _ _=>rfl⟩
theorem fl:(∀d,k9 none d=d)/\(∀x d,k9 (some x) d=cp x d)/\(∀x q,I.owner (.h x q)=some x)/\I.owner .ah=none:=
 ⟨λ_=>rfl,λ_ _=>rfl,λ_ _=>rfl,rfl⟩
def MP (s:ao) (x:Nat) (q:ahC):Option I->Option (I×ao)
 |some d=>if d.plain=true then none else some (d,cY (hV x s) x (I.put q d.cZ (s x)))
 |none=>none
theorem MQ (s:ao) (x:Nat) (q:ahC):cV s (.h x q)=MP s x q (I.sub q (s x)):=by
 simp only[cV];cases I.sub q (s x)<;>rfl
theorem MR (s:ao):(∀x q d,MP s x q (some d)=if d.plain=true then none else some (d,cY (hV x s) x (I.put q d.cZ (s x))))/\(∀k n,cV s (.int k n)=some (.int k n,s))/\(∀b,cV s (.bool b)=some (.bool b,s))/\(∀x,cV s (.str x)=some (.str x,s))/\
  (∀x,cV s (.slice x)=some (.slice x,s))/\(∀x,cV s (.ref x)=some (.ref x,s))/\(∀x,cV s (.agg x)=some (.agg x,s))/\cV s .ah=some (.ah,s)/\cV s .dM=some (.dM,s):=
 ⟨λ_ _ _=>rfl,λ_ _=>rfl,λ_=>rfl,λ_=>rfl,λ_=>rfl,λ_=>rfl,λ_=>rfl,rfl,rfl⟩
theorem MS (l:ahH) (t:Nat) (d:I):cY (an l) t d=an ((t,d)::l):=pY l t d
theorem MT:(∀n x,I.cZ (.ad n x)= .hole)/\(∀x,I.cZ (.ai x)= .hole)/\(∀aG,I.cZ (.agg aG)= .agg (I.lQ aG))/\(∀aG,I.cZ (.tuple aG)= .tuple (I.lQ aG))/\I.lQ []=[]/\(∀d ds,I.lQ (d::ds)=d.cZ::I.lQ ds)/\
  (∀k n,I.cZ (.int k n)= .int k n)/\(∀b,I.cZ (.bool b)= .bool b)/\(∀x,I.cZ (.str x)= .str x)/\(∀x,I.cZ (.slice x)= .slice x)/\(∀x,I.cZ (.ref x)= .ref x)/\I.cZ .ah= .ah/\I.cZ .dM= .dM/\I.cZ .hole= .hole:=by
 simp[I.cZ,I.lQ]
def uK:Option I->Option I
 |some d=>(match d with| .tuple _=>none| .dN _=>none| .eQ _ _=>none| .gC _=>none|d=>if d.plain=true then none else some d.share)
 |none=>none
def uL:Option I->Option I
 |some d=>(match d with| .tuple _=>none|d=>some (.ref d.share))
 |none=>none
theorem gx (s:ao) (x:Nat) (q:ahC):view s (.h x q)=uK (I.sub q (s x))/\view s (.aw x q)=(if I.fU q (s x)=true then uL (I.sub q (s x))else none):=by
 constructor
 .simp only[view];rfl
 .simp only[view];rfl
theorem gy:(∀n xs,uK (some (.ad n xs))=some (.slice (I.shares xs)))/\(∀d,uK (some (.ai d))=some (.ref d.share))/\(∀aG,uK (some (.agg aG))=if I.eY aG=true then none else some (.agg (I.shares aG)))/\
  (∀aG,uL (some (.agg aG))=some (.ref (.agg (I.shares aG))))/\(∀k n,uL (some (.int k n))=some (.ref (.int k n)))/\(∀x,uL (some (.str x))=some (.ref (.str x))):=
 ⟨λ_ _=>by simp[uK,I.plain,I.share],λ_=>by simp[uK,I.plain,I.share],λaG=>by cases h:I.eY aG<;>simp[uK,I.plain,I.share,h],λ_=>by simp[uL,I.share],λ_ _=>by simp[uL,I.share],λ_=>by simp[uL,I.share]⟩
theorem dg:(∀n xs,I.share (.ad n xs)= .slice (I.shares xs))/\(∀d,I.share (.ai d)= .ref d.share)/\(∀xs,I.share (.slice xs)= .slice (I.shares xs))/\(∀d,I.share (.ref d)= .ref d.share)/\(∀aG,I.share (.agg aG)= .agg (I.shares aG))/\(∀aG,I.share (.tuple aG)= .tuple (I.shares aG))/\
  (∀k n,I.share (.int k n)= .int k n)/\(∀b,I.share (.bool b)= .bool b)/\(∀x,I.share (.str x)= .str x)/\I.share .ah= .ah/\I.share .dM= .dM/\I.shares []=[]/\(∀d ds,I.shares (d::ds)=d.share::I.shares ds):=by
 simp[I.share,I.shares]
def cP (sz:Nat):Option (ahI×ao)->Option (I×ao)
 |some (ds,s1)=>some (.ad sz ds,s1)
 |none=>none
def cW:Option (ahI×ao)->Option (I×ao)
 |some (ds,s1)=>some (.agg ds,s1)
 |none=>none
theorem kF {C:bV} {T e n sz:Nat} {eS:ahI} (iZ:(C.T T).k= .slice e) (dR:(C.T e).sz=sz) (b3:List.replicate n (C.T e).zero=eS)
  (fH:((C.T e).ok&&((C.T e).zero.wd==sz)&&(flat (C.T e).zero).isSome&&(sz !=0)&&decide (n*sz<=16777216))=true):∀s ps,c5 C s T n ps=cP sz (kU (λk=>some (k*sz,sz)) s eS [] ps):=by
 intro s ps;subst dR;simp only[Bool.and_eq_true,beq_iff_eq,bne_iff_ne,decide_eq_true_eq]at fH;obtain⟨⟨⟨⟨af,ag⟩,aJ⟩,a_⟩,bC⟩:=fH;unfold c5;rw[iZ];simp only;rw[if_pos ⟨af,ag,aJ,a_,bC⟩,b3];cases kU (λk=>some (k*(C.T e).sz,(C.T e).sz)) s eS [] ps<;>rfl
theorem lG {C:bV} {T:Nat} {aG:List (TypeId×Nat)} {eS:ahI} (iZ:(C.T T).k= .struct aG) (b3:(C.T T).zero= .agg eS)
  (fH:((flat (.agg eS)).isSome&&aG.all λf=>(C.T f.1).ok)=true):∀s ps,d_ C s T ps=cW (kU (λk=>(aG[k]?).map λf=>(f.2,(C.T f.1).sz)) s eS [] ps):=by
 intro s ps;simp only[Bool.and_eq_true,List.all_eq_true]at fH;unfold d_;rw[iZ,b3];simp only;rw[if_pos ⟨fH.1,fH.2⟩];cases kU (λk=>(aG[k]?).map λf=>(f.2,(C.T f.1).sz)) s eS [] ps<;>rfl
def bM (place:Nat->Option (Nat×Nat)) (k:Nat) (eS:ahI) (os:List (Option Nat)) (r:ahH) (o:Option Nat):Option (Nat×Nat)->Option I->Option (I×ao)->Option (ahI×ao)
 |some (off,n),some z,some (d,s1)=>(match d with
  | .tuple _=>none
  |d=>if d.wd=n/\z.wd=n/\I.dO (eS.take k)=off then kU place s1 (eS.set k d) (os++[o]) r else none)
 |_,_,_=>none
theorem i2 (place:Nat->Option (Nat×Nat)) (s:ao) (eS:ahI) (os:List (Option Nat)):kU place s eS os []=some (eS,s)/\
  (∀k a r,kU place s eS os ((k,a)::r)=bM place k eS os r (lC os a).owner (place k) eS[k]? (cV s (lC os a))):=by
 refine⟨rfl,λk a r=>?_⟩;simp only[kU];cases cV s (lC os a)with
 |none=>cases place k<;>cases eS[k]? <;>rfl
 |some p=>
  obtain⟨d,s1⟩:=p;cases place k with
  |none=>cases eS[k]? <;>rfl
  |some q=>cases eS[k]? <;>(cases d<;>rfl)
theorem i3:(∀a,lC [] a=a)/\(∀o os a,lC (o::os) a=lC os (k9 o a)):=⟨λ_=>rfl,λ_ _ _=>rfl⟩
theorem dV:(∀k n,I.owner (.int k n)=none)/\(∀b,I.owner (.bool b)=none)/\(∀x,I.owner (.str x)=none)/\(∀x,I.owner (.slice x)=none)/\(∀x,I.owner (.ref x)=none)/\(∀x,I.owner (.agg x)=none)/\I.owner .dM=none/\I.owner .ah=none/\(∀x q,I.owner (.h x q)=some x):=
 ⟨λ_ _=>rfl,λ_=>rfl,λ_=>rfl,λ_=>rfl,λ_=>rfl,λ_=>rfl,rfl,rfl,λ_ _=>rfl⟩
end Go.dD
