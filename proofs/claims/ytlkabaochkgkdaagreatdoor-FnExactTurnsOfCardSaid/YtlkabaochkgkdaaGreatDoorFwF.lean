/- Part of a proof that a law returns true for every input. No condition. -/
import Derived.Test.YtlkabaochkgkdaaGreatDoorFwE
import Derived.Orders
import Derived.KernelRfl
import Derived.Test.YtlkabaochkgkdaaGreatDoorFwA
namespace Go.c_
section
variable {C:cl} {w0 w:World} {F0 X:Nat->Prop} {n:Fr} {ρ:Nat->Value} {s s1:ar} {a:Act} {av:I} {Q:Exit->Act->World->Prop}
def cb.un (o:cb):cb:=⟨o.dst,o.b0.base,o.guard⟩
theorem zl {ops:Array Oper}:∀{os:List Oper} {rs:List cb},qN n ops os=some rs->os.length=rs.length/\∀(i:Nat) (o:Oper),os[i]? =some o->∃r,rs[i]? =some r/\qM n ops o=some r:=by
 intro os;induction os with
 |nil=>intro rs h;simp only[qN,Option.some.injEq]at h;subst h;exact⟨rfl,λi o h=>by simp at h⟩
 |cons o os ih=>
  intro rs h;simp only[qN]at h;split at h
  .rename_i r aHh ag ah;simp only[Option.some.injEq]at h;subst h;obtain⟨b7,cw⟩:=ih ah;refine⟨by simp[b7],λi oq cy=>?_⟩;cases i with
   |zero=>simp at cy;subst cy;exact⟨r,rfl,ag⟩
   |succ i=>simpa using cw i oq (by simpa using cy)
  .cases h
theorem Cp {o:Oper} {y:Nat->Option Bool} (h:o.guard=none):Region.wanted o y=true:=by simp[Region.wanted,h]
theorem VV (h:Rel w0 F0 X n ρ s a w) {ops:Array Oper} {j t:Nat} (cH:(ops[j]?).bind (·.dst)=some t):
  (∀b,s t= .bool b->yielded ops a.tmps j=some b)/\(s t= .tuple []->yielded ops a.tmps j=none):=by
 obtain⟨aj,ae,bw,F,S,aS⟩:=h;have j3:=aS.dF t;refine⟨λb ad=>?_,λad=>?_⟩
 .rw[ad]at j3;have aT:=sC j3;simp only[yielded,cH,Option.bind_some];rw[Array.getD_eq_getD_getElem?]at aT;cases hg:a.tmps[t]? with
  |none=>rw[hg]at aT;simp[undef]at aT
  |some v=>rw[hg]at aT;simp at aT;subst aT;rfl
 .rw[ad]at j3;obtain⟨⟨arr,ag,ah⟩,_⟩:=(aO.cT (d:=.tuple []) rfl).1 j3;simp only[yielded,cH,Option.bind_some];rw[Array.getD_eq_getD_getElem?]at ag;cases hg:a.tmps[t]? with
  |none=>rfl
  |some v=>rw[hg]at ag;simp at ag;subst ag;rfl
theorem H0 (bx:C.fc) {ops:Array Oper} {ros:List cb} {l2:List Nat} {K:ar->Prop} (a7:∀aB c7 aL,K aB->Rel w0 F0 X n ρ aB c7 aL->wpOps C.P ops Q l2 c7 aL):
  ∀(l:List Nat),(∀i∈l,(ops[i]? =none->ros[i]? =none)/\∀o,ops[i]? =some o->∃r,ros[i]? =some r/\qM n ops o=some r.un)->
  ∀(s:ar) (a:Act) (w:World),kM C ros s l K->Rel w0 F0 X n ρ s a w->wpOps C.P ops Q (l++l2) a w:=by
 intro l;induction l with
 |nil=>intro _ s a w h aS;exact a7 s a w h aS
 |cons i l ih=>
  intro qO s a w h aS;replace ih:=ih λi an=>qO i (List.mem_cons_of_mem _ an);rw[List.cons_append];simp only[wpOps];cases cy:ops[i]? with
  |none=>
   simp only[kM,(qO i (by simp)).1 cy]at h;exact ih s a w h aS
  |some o=>
   obtain⟨r,ag,ah⟩:=(qO i (by simp)).2 o cy;simp only[kM,ag]at h;show(if Region.wanted o (yielded ops a.tmps)=true then o.wp C.P a w (wpOps C.P ops Q (l++l2)) Q\/(o.asks C.P a w/\LetsOut Q)else wpOps C.P ops Q (l++l2) (a.put o.dst undef) w);simp only[qM]at ah;split at ah
   .rename_i Cq;split at ah
    .rename_i g hg;obtain⟨rd,b0,rg⟩:=r;simp only[cb.un,Option.some.injEq,cb.mk.injEq]at ah;obtain⟨rfl,cD,rfl⟩:=ah;simp only[mI]at h;have run:∀(dX:ar->Prop),(∀aB,dX aB->kM C ros aB l K)->o6 C s b0 (λav s1=>dX (fin s1 o.dst av))->o.wp C.P a w (wpOps C.P ops Q (l++l2)) Q:=
      λdX ke hw=>VS bx aS cD Cq hw (λaB c7 aL ay e3=>ih aB c7 aL (ke aB ay) e3)
     cases wI:o.guard with
     |none=>
      rw[wI]at hg;simp only[zf,Option.some.injEq]at hg;subst hg;simp only at h;rw[if_pos (Cp wI)];exact .inl (run _ (λ_ h=>h) h)
     |some H2=>
      obtain⟨j,b⟩:=H2;rw[wI]at hg;simp only[zf]at hg;split at hg
      .rename_i t bj;simp only[Option.some.injEq]at hg;subst hg;simp only at h;obtain⟨e0,hd⟩:=VV aS bj;have MD:∀(dX:kM C ros (fin s o.dst (.tuple [])) l K),wpOps C.P ops Q (l++l2) (a.put o.dst undef) w:=λdX=>ih _ _ _ dX (Rel.skip aS Cq);split at h
       .rename_i gp ae;have hy:=e0 gp ae;split at h
        .rename_i ad;subst ad;rw[if_pos (by simp[Region.wanted,wI,hy])];exact .inl (run _ (λ_ h=>h) h)
        .rename_i ad;rw[if_neg (by simp[Region.wanted,wI,hy,ad])];exact MD h
       .rename_i ae;have hy:=hd ae;rw[if_neg (by simp[Region.wanted,wI,hy])];exact MD h
       .exact h.elim
      .cases hg
    .cases ah
   .cases ah
theorem ME (bx:C.fc) {ops:Array Oper} {ros:List cb} (sQ:qN n ops ops.toList=some (ros.map cb.un)) {K:ar->Prop} (a7:∀aB c7 aL,K aB->Rel w0 F0 X n ρ aB c7 aL->Q .normal c7 aL):
  ∀(l:List Nat) (s:ar) (a:Act) (w:World),kM C ros s l K->Rel w0 F0 X n ρ s a w->wpOps C.P ops Q l a w:=by
 obtain⟨hl,qO⟩:=zl sQ;intro l s a w h aS;have:=H0 (Q:=Q) bx (ros:=ros) (ops:=ops) (l2:=[]) (K:=K) (n:=n) (ρ:=ρ) (w0:=w0) (F0:=F0) (X:=X) (λaB c7 aL ay e3=>a7 aB c7 aL ay e3) l (λi _=>⟨λcy=>by
   rw[List.getElem?_eq_none_iff,<-List.length_map (f:=cb.un),<-hl];have:=Array.getElem?_eq_none_iff.1 cy;simpa using this,λo cy=>by
   obtain⟨al,iB,ah⟩:=qO i o (by simpa using cy);obtain⟨r,ag,rfl⟩:∃r,ros[i]? =some r/\r.un=al:=by simpa using iB
   exact⟨r,ag,ah⟩⟩) s a w h aS
 rwa [List.append_nil]at this
theorem Rel.drawn (h:Rel w0 F0 X n ρ s a w) (k:Nat) (ay:w.drawn<=k):Rel w0 F0 X n ρ s a {w with drawn:=k}:=by
 obtain⟨ag,ah,bw,F,S,aN⟩:=h;exact⟨ag,ah,bw,F,S,aN.grow (λ_ _=>rfl) (Nat.le_refl _) rfl rfl ⟨rfl,λ_=>ay⟩⟩
theorem VW (bx:C.fc) {id:Nat} {ops:Array Oper} {ros:List cb} (sQ:qN n ops ops.toList=some (ros.map cb.un)) {K:ar->Prop} (a7:∀aB c7 aL,K aB->Rel w0 F0 X n ρ aB c7 aL->Q .normal c7 aL)
  (h:mv C s ros K) (aS:Rel w0 F0 X n ρ s a w):(Code.region id ops false).wp C.P Q a w:=by
 refine wp_region (ME bx sQ a7 _ s a w ?_ aS);have:=VA C K ros [] s h;have hl:=(zl sQ).1;simp only[List.nil_append,List.length_nil,Nat.add_zero,List.map_id']at this;rw[List.length_map]at hl;rw[<-hl]at this;simpa using this
end
def H3 (p1:List (List Nat)) (l:List Nat):Prop:=
 l.Nodup/\(∀i,i∈l↔i<p1.length)/\∀u i v,l=u++i::v->∀e∈(p1[i]?).getD [],e∈u
def o7 (ops:Array Oper):List (List Nat):=ops.toList.map λo=>(o.after.toList.filter λe=>Region.binds .any e).map (·.on)
def zm (p1:List (List Nat)):Bool:=p1.zipIdx.all λp=>p.1.all λe=>decide (e<p.2)
theorem VX {p1:List (List Nat)} (h:zm p1=true) {i:Nat} {l:List Nat} (an:p1[i]? =some l):∀e∈l,e<i:=by
 intro e he;simp only[zm,List.all_eq_true]at h;have:=h (l,i) (by rw[List.mem_zipIdx_iff_getElem?];exact an) e he;simpa using this
theorem VY {ops:Array Oper} (ad:zm (o7 ops)=true):∀(fuel t:Nat) (listed:Array Bool),listed.size=ops.size->((List.range ops.size).filter λi=> !listed.getD i true).length<=fuel->
  (Region.linearise.go .any ops fuel t listed []).Nodup/\(∀i,i∈Region.linearise.go .any ops fuel t listed []↔(i<ops.size/\listed.getD i true=false))/\
   ∀u i v,Region.linearise.go .any ops fuel t listed []=u++i::v->∀e∈((o7 ops)[i]?).getD [],listed.getD e false=true\/e∈u:=by
 intro fuel;induction fuel with
 |zero=>
  intro t listed ae hl;have y0:((List.range ops.size).filter λi=> !listed.getD i true)=[]:=List.length_eq_zero_iff.1 (Nat.le_zero.1 hl);refine⟨by simp[Region.linearise.go],λi=>?_,λu i v h=>by simp[Region.linearise.go]at h⟩;simp only[Region.linearise.go,List.reverse_nil,List.not_mem_nil,false_iff,not_and];intro an bw;have:i∈((List.range ops.size).filter λi=> !listed.getD i true):=List.mem_filter.2 ⟨List.mem_range.2 an,by rw[bw];rfl⟩;rw[y0]at this;cases this
 |succ fuel ih=>
  intro t listed ae hl;have MF:∀i,i∈Region.ready .any ops listed↔(i<ops.size/\listed.getD i true=false/\∀e∈((o7 ops)[i]?).getD [],listed.getD e false=true):=by
   intro i;simp only[Region.ready,List.mem_filter,List.mem_range,Bool.and_eq_true,Bool.not_eq_true'];constructor
   .rintro⟨ag,ah,aN⟩;refine⟨ag,ah,?_⟩;rw[Array.getElem?_eq_getElem ag]at aN;simp only[Option.map_some,Option.getD_some,Array.all_eq_true_iff_forall_mem]at aN;simp only[o7,List.getElem?_map,Array.getElem?_toList,Array.getElem?_eq_getElem ag,Option.map_some,Option.getD_some,List.mem_map,List.mem_filter];rintro e ⟨x,⟨aw,ud⟩,rfl⟩;have:=aN x (by simpa using aw);simpa [ud]using this
   .rintro⟨ag,ah,aN⟩;refine⟨ag,ah,?_⟩;rw[Array.getElem?_eq_getElem ag];simp only[Option.map_some,Option.getD_some,Array.all_eq_true_iff_forall_mem];simp only[o7,List.getElem?_map,Array.getElem?_toList,Array.getElem?_eq_getElem ag,Option.map_some,Option.getD_some,List.mem_map,List.mem_filter]at aN;intro x aw;cases ud:Region.binds .any x with
    |false=>simp
    |true=>simpa using aN x.on ⟨x,⟨by simpa using aw,ud⟩,rfl⟩
  have hex:(∃i,i<ops.size/\listed.getD i true=false)->Region.ready .any ops listed≠[]:=by
   rintro⟨i,ag,ah⟩;have:∃i,(i<ops.size/\listed.getD i true=false)/\∀j,j<i->¬(j<ops.size/\listed.getD j true=false):=by
    induction i using Nat.strongRecOn with
    |_ i VZ=>
     by_cases cH:∃j,j<i/\(j<ops.size/\listed.getD j true=false)
     .obtain⟨j,V0,V1,V2⟩:=cH;exact VZ j V0 V1 V2
     .exact⟨i,⟨ag,ah⟩,λj V3 aq=>cH ⟨j,V3,aq⟩⟩
   obtain⟨k,⟨b7,cw⟩,fi⟩:=this;have:k∈Region.ready .any ops listed:=(MF k).2 ⟨b7,cw,λe he=>by
    cases cf:(o7 ops)[k]? with
    |none=>rw[cf]at he;simp at he
    |some l=>
     rw[cf]at he;have e6:=VX ad cf e he;have:=fi e e6;rw[not_and]at this;have:=this (by omega);have ov:e<listed.size:=by omega
     simp only[Array.getD_eq_getD_getElem?,Array.getElem?_eq_getElem ov,Option.getD_some]at this⊢;simpa using this⟩
   intro e;rw[e]at this;cases this
  have MG:Region.linearise.go .any ops (fuel+1) t listed []=(match(Region.ready .any ops listed)[t%(Region.ready .any ops listed).length]? with
   |some i=>Region.linearise.go .any ops fuel (t/(Region.ready .any ops listed).length) (listed.setIfInBounds i true) [i]
   |none=>[]):=rfl
  cases zn:(Region.ready .any ops listed)[t%(Region.ready .any ops listed).length]? with
  |none=>
   have y0:Region.ready .any ops listed=[]:=by
    cases aS:Region.ready .any ops listed with
    |nil=>rfl
    |cons a l=>
     rw[aS]at zn;have:=List.getElem?_eq_none_iff.1 zn;have ah:=Nat.mod_lt t (show 0<(a::l).length by simp);omega
   rw[MG,zn];refine⟨by simp,λi=>?_,λu i v h=>by simp at h⟩;simp only[List.not_mem_nil,false_iff];intro an;exact hex ⟨i,an⟩ y0
  |some i=>
   have an:=(MF i).1 (List.mem_of_getElem? zn);obtain⟨zo,MH,V4⟩:=an;rw[MG,zn];simp only;rw[linearise_go_acc];simp only[List.reverse_singleton,List.singleton_append];have sB:∀j d,(listed.setIfInBounds i true).getD j d=if j=i then true else listed.getD j d:=by
    intro j d;split
    .rename_i e;subst e;simp[Array.getD_eq_getD_getElem?,Array.getElem?_setIfInBounds_self_of_lt (show j<listed.size by omega)]
    .rename_i e;simp[Array.getD_eq_getD_getElem?,Array.getElem?_setIfInBounds_ne (λh=>e h.symm)]
   obtain⟨g1,g2,g3⟩:=ih (t/(Region.ready .any ops listed).length) (listed.setIfInBounds i true) (by simpa using ae) (by
    have fK:((List.range ops.size).filter λj=> !(listed.setIfInBounds i true).getD j true)=((List.range ops.size).filter λi=> !listed.getD i true).filter λj=>decide (j≠i):=by
     rw[List.filter_filter];apply List.filter_congr;intro j _;rw[sB];by_cases e:j=i<;>simp[e]
    rw[fK];have e6:(((List.range ops.size).filter λi=> !listed.getD i true).filter λj=>decide (j≠i)).length<((List.range ops.size).filter λi=> !listed.getD i true).length:=by
     rw[List.length_filter_lt_length_iff_exists];exact⟨i,List.mem_filter.2 ⟨List.mem_range.2 zo,by rw[MH];rfl⟩,by simp⟩
    omega)
   refine⟨?_,λj=>?_,?_⟩
   .rw[List.nodup_cons];refine⟨λhm=>?_,g1⟩;have:=((g2 i).1 hm).2;rw[sB,if_pos rfl]at this;cases this
   .rw[List.mem_cons,g2,sB];by_cases e:j=i
    .subst e;simp[zo,MH]
    .simp[e]
   .intro u j v h e he;cases u with
    |nil=>
     simp only[List.nil_append,List.cons.injEq]at h;obtain⟨rfl,rfl⟩:=h;exact .inl (V4 e he)
    |cons Cr u=>
     simp only[List.cons_append,List.cons.injEq]at h;obtain⟨rfl,h⟩:=h;rcases g3 u j v h e he with bt|bt
     .rw[sB]at bt;split at bt
      .rename_i gP;subst gP;exact .inr (by simp)
      .exact .inl bt
     .exact .inr (by simp[bt])
theorem V5 {ops:Array Oper} (ad:zm (o7 ops)=true) (t:Nat):H3 (o7 ops) (Region.linearise .any ops t):=by
 have MI:∀i d,i<ops.size->(Array.replicate ops.size false).getD i d=false:=by
  intro i d an;simp[Array.getD_eq_getD_getElem?,an]
 obtain⟨g1,g2,g3⟩:=VY ad ops.size t (Array.replicate ops.size false) (by simp) (by
  have:=List.length_filter_le (λi=> !(Array.replicate ops.size false).getD i true) (List.range ops.size);simpa using this)
 have hlen:(o7 ops).length=ops.size:=by simp[o7]
 refine⟨g1,λi=>?_,λu i v h e he=>?_⟩
 .rw[hlen];rw[show Region.linearise .any ops t=Region.linearise.go .any ops ops.size t (Array.replicate ops.size false) []from rfl,g2];exact⟨λh=>h.1,λh=>⟨h,MI i true h⟩⟩
 .rcases g3 u i v h e he with bt|bt
  .exfalso;by_cases MJ:e<ops.size
   .rw[MI e false MJ]at bt;cases bt
   .simp[Array.getD_eq_getD_getElem?,MJ]at bt
  .exact bt
def ab:List (Nat×I)->ar
 |[],_=>.hole
 |(u,d)::l,t=>if t=u then d else ab l t
mutual
inductive fC:I->I->Prop
 |refl (d:I):fC d d
 |jD (sz:Nat):fC .bz (.ao sz [])
 |wJ:fC .bz (.slice [])
 |any (b:Bool):fC (.bool b) .fs
 |share (d:I):d.tree=true->(∀vs,d≠.tuple vs)->(∀o,d≠.eD o)->fC d d.share
 |agg {ds es:List I}:ld ds es->fC (.agg ds) (.agg es)
 |bh {d e:I}:fC d e->fC (.bh d) (.bh e)
 |ao {sz:Nat} {ds es:List I}:ld ds es->fC (.ao sz ds) (.ao sz es)
 |tuple {ds es:List I}:ld ds es->fC (.tuple ds) (.tuple es)
 |ref {d e:I}:fC d e->fC (.ref d) (.ref e)
 |trans {d e f:I}:fC d e->fC e f->fC d f
inductive ld:List I->List I->Prop
 |nil:ld [] []
 |cons {d e:I} {ds es:List I}:fC d e->ld ds es->ld (d::ds) (e::es)
end
mutual
theorem fC.wd:∀{d e:I},fC d e->e.wd=d.wd
 |_,_,.refl _=>rfl
 |_,_,.jD _=>rfl
 |_,_,.wJ=>rfl
 |_,_,.any _=>rfl
 |_,_,.share d _ _ _=>I.BS d
 |_,_,.agg h=>by simp only[I.wd];exact ld.wd h
 |_,_,.bh _=>rfl
 |_,_,.ao _=>rfl
 |_,_,.tuple h=>by simp only[I.wd];exact ld.wd h
 |_,_,.ref _=>rfl
 |_,_,.trans h k=>(fC.wd k).trans (fC.wd h)
theorem ld.wd:∀{ds es:List I},ld ds es->I.eJ es=I.eJ ds
 |_,_,.nil=>rfl
 |_,_,.cons h ae=>by simp only[I.eJ];rw[fC.wd h,ld.wd ae]
end
theorem ld.len {ds es:List I} (h:ld ds es):es.length=ds.length:=by
 induction ds generalizing es with
 |nil=>cases h;rfl
 |cons d ds ih=>cases h with|cons h ae=>simp[ih ae]
theorem ld.all {sz:Nat} {ds es:List I} (h:ld ds es) (aj:∀d∈ds,d.wd=sz):∀d∈es,d.wd=sz:=by
 induction ds generalizing es with
 |nil=>cases h;intro d aj;cases aj
 |cons d ds ih=>
  cases h with
  |cons h ae=>
   intro x aw;rcases List.mem_cons.1 aw with rfl|aw
   .rw[h.wd];exact aj d (by simp)
   .exact ih ae (λd hm=>aj d (by simp[hm])) x aw
section
variable {w0 w:World} {F0 X F:Nat->Prop} {S:Nat->Nat->Prop} {s aB:ar} {aC:Nat->Value}
def V6 (w:World) (F:Nat->Prop) (_d e:I) (cs:List Value) (S:Nat->Prop):Prop:=
 ∃iT iU:Nat->Prop,(∀b,iT b->S b)/\(∀b,iU b->S b)/\(∀b,iU b->¬iT b)/\∀b3,(∀b,F b\/iT b->b3 b)->ax w b3 e cs iU
mutual
theorem ax.wider:∀{d e:I},fC d e->∀{F:Nat->Prop} {cs:List Value} {S:Nat->Prop},ax w F d cs S->V6 w F d e cs S
 |_,_,.refl _,F,cs,S,h=>⟨λ_=>False,S,λ_ h=>h.elim,λ_ h=>h,λ_ _ h=>h,λb3 bL=>ax.mono (λb ad=>bL b (.inl ad)) _ _ _ _ (λ_ h=>h) h⟩
 | .bz,_,.jD sz,F,cs,S,h=>⟨λ_=>False,S,λ_ h=>h.elim,λ_ h=>h,λ_ _ h=>h,λb3 bL=>by simp only[ax]at h⊢;exact .inl ⟨trivial,_,h⟩⟩
 | .bz,_,.wJ,F,cs,S,h=>⟨λ_=>False,S,λ_ h=>h.elim,λ_ h=>h,λ_ _ h=>h,λb3 bL=>by simp only[ax]at h⊢;exact .inl ⟨trivial,none,0,h,Nat.zero_le _,λ_=>rfl⟩⟩
 | .bool _,_,.any b,F,cs,S,h=>⟨λ_=>False,S,λ_ h=>h.elim,λ_ h=>h,λ_ _ h=>h,λb3 bL=>by simp only[ax]at h⊢;exact⟨b,h⟩⟩
 |_,_,.share d _ _ _,F,cs,S,h=>⟨S,λ_=>False,λ_ h=>h,λ_ h=>h.elim,λ_ h=>h.elim,λb3 bL=>ax.shared (λb ad=>bL b (.inl ad)) d cs S (λb ad=>bL b (.inr ad)) h⟩
 |_,_,.agg kd,F,cs,S,h=>by
  rw[ax]at h;obtain⟨iT,iU,ag,ah,aN,bg⟩:=bm.wider kd h;exact⟨iT,iU,ag,ah,aN,λb3 bL=>by rw[ax];exact bg b3 bL⟩
 |_,_,.bh aj,F,cs,S,h=>by
  rw[ax]at h;obtain⟨b,cur,ty,fr,aW,b7,cw,fi,ep,fQ,dM,jz⟩:=h;obtain⟨iT,iU,ag,ah,aN,bg⟩:=ax.wider aj fQ;refine⟨iT,λc=>c=b\/iU c,λc aq=>dM c (ag c aq),?_,?_,λb3 bL=>?_⟩
  .rintro c (rfl|aq)
   .exact cw
   .exact dM c (ah c aq)
  .rintro c (rfl|aq) bw
   .exact jz (ag _ bw)
   .exact aN c aq bw
  .rw[ax];exact⟨b,cur,ty,fr,iU,b7,.inl rfl,fi,ep,bg b3 bL,λc aq=>.inr aq,λaq=>jz (ah _ aq)⟩
 | .ao sz ds,.ao _ es,.ao kd,F,cs,S,h=>by
   rw[ax]at h;have hl:=kd.len;rcases h with⟨ag,ah⟩|⟨b,cap,cur,ty,fr,aW,b7,cw,fi,ep,fQ,dM,jz,gy,nc,oi,MK⟩
   .refine⟨λ_=>False,S,λ_ h=>h.elim,λ_ h=>h,λ_ _ h=>h,λb3 _=>?_⟩;rw[ax];subst ag;exact .inl ⟨List.length_eq_zero_iff.1 (by simpa using hl),ah⟩
   .obtain⟨iT,iU,ag,ah,aN,bg⟩:=bm.wider kd nc;refine⟨iT,λc=>c=b\/iU c,λc aq=>oi c (ag c aq),?_,?_,λb3 bL=>?_⟩
    .rintro c (rfl|aq)
     .exact cw
     .exact oi c (ah c aq)
    .rintro c (rfl|aq) bw
     .exact MK (ag _ bw)
     .exact aN c aq bw
    .rw[ax];refine .inr ⟨b,cap,cur,ty,fr,iU,by rw[hl];exact b7,.inl rfl,fi,ep,by rw[hl];exact fQ,dM,jz,kd.all gy,by rw[hl];exact bg b3 bL,λc aq=>.inr aq,λaq=>MK (ah _ aq)⟩
 |_,_,.tuple kd,F,cs,S,h=>by
  rw[ax]at h;obtain⟨iT,iU,ag,ah,aN,bg⟩:=bm.wider kd h;exact⟨iT,iU,ag,ah,aN,λb3 bL=>by rw[ax];exact bg b3 bL⟩
 |_,_,.ref aj,F,cs,S,h=>by
  rw[ax]at h;obtain⟨b,o,eT,ag,ah,aN,bg⟩:=h;obtain⟨iT,iU,b7,cw,fi,ep⟩:=ax.wider aj bg;refine⟨λ_=>False,S,λ_ h=>h.elim,λ_ h=>h,λ_ _ h=>h,λb3 bL=>?_⟩;rw[ax];exact⟨b,o,eT,ag,bL _ (.inl ah),aN,ax.mono (λ_ h=>h) _ _ _ _ (λb ad=>cw b ad) (ep b3 λb ad=>bL b (ad.imp id λh=>(b7 b h).elim))⟩
 |_,_,.trans aj he,F,cs,S,h=>by
  obtain⟨iT,iU,ag,ah,aN,bg⟩:=ax.wider aj h;obtain⟨H4,Cs,b7,cw,fi,ep⟩:=ax.wider he (F:=λb=>F b\/iT b) (bg _ λ_ h=>h);refine⟨λb=>iT b\/H4 b,Cs,?_,λb ad=>ah b (cw b ad),?_,λb3 bL=>ep b3 λb ad=>?_⟩
  .rintro b (h|h)
   .exact ag b h
   .exact ah b (b7 b h)
  .rintro b ad (h|h)
   .exact aN b (cw b ad) h
   .exact fi b ad h
  .rcases ad with(ad|ad)|ad
   .exact bL b (.inl ad)
   .exact bL b (.inr (.inl ad))
   .exact bL b (.inr (.inr ad))
theorem bm.wider:∀{ds es:List I},ld ds es->∀{F:Nat->Prop} {cs:List Value} {S:Nat->Prop},bm w F ds cs S->
  ∃iT iU:Nat->Prop,(∀b,iT b->S b)/\(∀b,iU b->S b)/\(∀b,iU b->¬iT b)/\∀b3,(∀b,F b\/iT b->b3 b)->bm w b3 es cs iU
 |_,_,.nil,F,cs,S,h=>⟨λ_=>False,λ_=>False,λ_ h=>h.elim,λ_ h=>h.elim,λ_ h=>h.elim,λb3 bL=>by rw[bm]at h⊢;exact h⟩
 |_,_,.cons aj kd,F,cs,S,h=>by
  rw[bm]at h;obtain⟨cv,c2,ck,eo,rfl,g2,g3,g4,g5,g6⟩:=h;obtain⟨V7,ML,R,a2,a3,a4⟩:=ax.wider aj g2;obtain⟨H4,Cs,mn,jy,jA,bD⟩:=bm.wider kd g3;refine⟨λb=>V7 b\/H4 b,λb=>ML b\/Cs b,?_,?_,?_,λb3 bL=>?_⟩
  .rintro b (h|h)
   .exact g4 b (R b h)
   .exact g5 b (mn b h)
  .rintro b (h|h)
   .exact g4 b (a2 b h)
   .exact g5 b (jy b h)
  .rintro b (h|h) (bt|bt)
   .exact a3 b h bt
   .exact g6 b (a2 b h) (mn b bt)
   .exact g6 b (R b bt) (jy b h)
   .exact jA b h bt
  .rw[bm];refine⟨cv,c2,ML,Cs,rfl,a4 b3 (λb ad=>bL b (ad.imp id .inl)),bD b3 (λb ad=>bL b (ad.imp id .inr)),λb ad=>.inl ad,λb ad=>.inr ad,λb ag ah=>g6 b (a2 b ag) (jy b ah)⟩
end
theorem fC.Ct:∀{d e:I},fC d e->(∀vs,d≠.tuple vs)->∀vs,e≠.tuple vs
 |_,_,.refl _,h=>h
 |_,_,.jD _,_=>λ_ h=>by cases h
 |_,_,.wJ,_=>λ_ h=>by cases h
 |_,_,.any _,_=>λ_ h=>by cases h
 |_,_,.share d _ _ _,h=>λvs he=>by cases d<;>first|(cases he;done)|exact h _ rfl
 |_,_,.agg _,_=>λ_ h=>by cases h
 |_,_,.bh _,_=>λ_ h=>by cases h
 |_,_,.ao _,_=>λ_ h=>by cases h
 |_,_,.tuple _,h=>λ_ _=>h _ rfl
 |_,_,.ref _,_=>λ_ h=>by cases h
 |_,_,.trans h k,a7=>fC.Ct k (fC.Ct h a7)
theorem fC.i7:∀{d e:I} {v:Value},fC d e->(∀vs,d≠.tuple vs)->c_.i7 d v->c_.i7 e v
 |_,_,_,.refl _,_,h=>h
 |_,_,_,.jD _,_,h=>h
 |_,_,_,.wJ,_,h=>h
 |_,_,_,.any _,_,h=>h
 |_,_,_,.share d _ a7 _,_,h=>by cases d<;>first|exact h|exact(a7 _ rfl).elim
 |_,_,_,.agg _,_,h=>h
 |_,_,_,.bh _,_,h=>h
 |_,_,_,.ao _,_,h=>h
 |_,_,_,.tuple _,a7,_=>(a7 _ rfl).elim
 |_,_,_,.ref _,_,h=>h
 |_,_,_,.trans h k,a7,ae=>fC.i7 k (fC.Ct h a7) (fC.i7 h a7 ae)
theorem ld.get:∀{ds es:List I},ld ds es->∀(k:Nat) (e:I),es[k]? =some e->∃d,ds[k]? =some d/\fC d e
 |_,_,.nil,k,e,h=>by simp at h
 |_,_,.cons aj ae,0,e,h=>by simp at h;subst h;exact⟨_,rfl,aj⟩
 |_,_,.cons aj ae,k+1,e,h=>ld.get ae k e (by simpa using h)
theorem fC.eA:∀{d e:I} {v:Value},fC d e->c_.eA d v->c_.eA e v
 |_,_,_,.refl _,ae=>ae
 |_,_,_,.jD _,ae=>ae
 |_,_,_,.wJ,ae=>ae
 |_,_,_,.any _,ae=>ae
 |_,_,_,.share _ _ nN _,ae=>HO nN ae
 |_,_,_,.agg _,ae=>ae
 |_,_,_,.bh _,ae=>ae
 |_,_,_,.ao _,ae=>ae
 |_,_,_,.ref _,ae=>ae
 |_,_,_,.tuple aj,ae=>by
  obtain⟨arr,ag,ah,aN⟩:=ae;refine⟨arr,ag,ah.trans aj.len.symm,λk e x he aw=>?_⟩;obtain⟨d,ay,hw⟩:=aj.get k e he;obtain⟨R,a2,a3⟩:=aN k d x ay aw;exact⟨hw.i7 a2 R,hw.Ct a2,a3.trans hw.wd.symm⟩
 |_,_,_,.trans h k,ae=>fC.eA k (fC.eA h ae)
theorem fC.tree:∀{d e:I},fC d e->d.tree=true->e.tree=true
 |_,_,.refl _,aj=>aj
 |_,_,.jD _,_=>rfl
 |_,_,.wJ,_=>rfl
 |_,_,.any _,_=>rfl
 |_,_,.share d _ _ lU,aj=>by cases d<;>first|exact aj|rfl|exact(lU _ rfl).elim
 |_,_,.agg _,_=>rfl
 |_,_,.bh _,_=>rfl
 |_,_,.ao _,_=>rfl
 |_,_,.tuple _,_=>rfl
 |_,_,.ref _,_=>rfl
 |_,_,.trans h k,aj=>fC.tree k (fC.tree h aj)
mutual
def I.um:I->List Nat
 | .h x q=>if q.isEmpty then []else [x]
 | .au x _=>[x]
 | .ad x _=>[x]
 | .fn _ cap=>I.zp cap
 |_=>[]
def I.zp:List I->List Nat
 |[]=>[]
 |d::ds=>d.um++I.zp ds
end
def zq (s aB:ar) (x:Nat) (D:List Nat):Prop:=aB x=s x\/aB x= .hole\/((s x).own=true/\(aB x).own=true/\x∉D)
theorem zq.less {s aB:ar} {x:Nat} {D E:List Nat} (h:zq s aB x D) (H5:∀u∈E,u∈D):zq s aB x E:=by
 rcases h with h|h|⟨ag,ah,aN⟩
 .exact .inl h
 .exact .inr (.inl h)
 .exact .inr (.inr ⟨ag,ah,λaw=>aN (H5 x aw)⟩)
theorem aO.keep {b3:Nat->Prop} (bL:∀b,F b->b3 b):∀n,(∀(d:I) (v:Value) (ey:Nat->Prop),SizeOf.sizeOf d<=n->(∀x∈d.ae,zq s aB x d.um)->aO w F s aC d v ey->aO w b3 aB aC d v ey)/\
  (∀(ds:List I) (vs:List Value),SizeOf.sizeOf ds<=n->(∀x∈I.e1 ds,zq s aB x (I.zp ds))->eH w F s aC ds vs->eH w b3 aB aC ds vs):=by
 intro n;induction n with
 |zero=>
  refine⟨λd v ey cg=>?_,λds vs cg=>?_⟩
  .cases d<;>simp at cg<;>omega
  .cases ds<;>simp at cg<;>omega
 |succ n ih=>
  refine⟨λd v ey cg ay h=>?_,λds vs cg ay h=>?_⟩
  .cases d with
   |hole=>rw[aO];trivial
   |h x q=>
    rw[aO]at h⊢;intro e fK au;rcases ay x (by simp[I.ae])with he|he|⟨zr,MM,wK⟩
    .rw[he]at fK⊢;exact h e fK au
    .rw[he]at fK;cases q with
     |nil=>simp only[I.sub,Option.some.injEq]at fK;subst fK;simp[I.plain]at au
     |cons k q=>simp[I.sub]at fK
    .cases q with
     |nil=>
      simp only[I.sub,Option.some.injEq]at fK;subst fK;obtain⟨c6,a0,fY,hU,iD⟩:=h (s x) (by simp only[I.sub]) (rI zr).1;simp only[dP,Option.some.injEq,Prod.mk.injEq,true_and]at fY;exact⟨cz (aC x),none,by simp only[dP],by rw[hU,<-fY.1],((rI MM).2.2.2.2.2 _).2 (((rI zr).2.2.2.2.2 _).1 iD)⟩
     |cons k q=>exact(wK (by simp[I.um])).elim
   |au x q=>
    rw[aO]at h⊢;intro e fK aq;rcases ay x (by simp[I.ae])with he|he|⟨_,_,wK⟩
    .rw[he]at fK aq⊢;exact h e fK aq
    .rw[he]at aq;cases q<;>simp[I.gd]at aq
    .exact(wK (by simp[I.um])).elim
   |ad x k=>
    rw[aO]at h⊢;intro au;rcases ay x (by simp[I.ae])with he|he|⟨_,_,wK⟩
    rotate_left 2
    .exact(wK (by simp[I.um])).elim
    .rw[he]at au;obtain⟨b,cur,e,fr,ag,ah,aN,bg⟩:=h au;exact⟨b,cur,e,fr,ag,bL b ah,aN,bg⟩
    .rw[he]at au;simp[I.plain]at au
   |fn f cap=>
    rw[aO]at h⊢;obtain⟨arr,rfl,aq⟩:=h;exact⟨arr,rfl,ih.2 _ _ (by simp at cg;omega) (by simpa [I.ae,I.um]using ay) aq⟩
   |_=>
    have bt:=(aO.cT rfl).1 h;exact(aO.cT rfl).2 ⟨bt.1,ax.mono bL _ _ _ _ (λ_ h=>h) bt.2⟩
  .cases ds with
   |nil=>rw[eH]at h⊢;exact h
   |cons d ds=>
    rw[eH]at h⊢;obtain⟨v,kp,rfl,ag,ah⟩:=h;simp at cg;simp only[I.e1,List.mem_append]at ay;exact⟨v,kp,rfl,ih.1 _ _ _ (by omega) (λx aw=>(ay x (.inl aw)).less λu hu=>by simp[I.zp,hu]) ag,ih.2 _ _ (by omega) (λx aw=>(ay x (.inr aw)).less λu hu=>by simp[I.zp,hu]) ah⟩
def zs (s:ar) (l:List (Nat×I)):Prop:=
 ∀p∈l,p.2=s p.1\/((s p.1).tree=true/\fC (s p.1) p.2/\∀c1∈l,p.1∉c1.2.ae\/((s p.1).own=true/\p.2.own=true/\p.1∉c1.2.um))
theorem MN:∀(l:List (Nat×I)) (t:Nat),ab l t= .hole\/∃p∈l,p.1=t/\ab l t=p.2:=by
 intro l;induction l with
 |nil=>intro t;exact .inl rfl
 |cons p l ih=>
  intro t;obtain⟨u,d⟩:=p;simp only[ab];split
  .rename_i e;exact .inr ⟨(u,d),by simp,e.symm,rfl⟩
  .rcases ih t with h|⟨p,au,h⟩
   .exact .inl h
   .exact .inr ⟨p,by simp[au],h⟩
theorem bU.V8 (h:bU w0 F0 X F S s aC w) {l:List (Nat×I)} (hw:zs s l):∃b3 aW,bU w0 F0 X b3 aW (ab l) aC w:=by
 have each:∀t,∃iT iU:Nat->Prop,(∀b,iT b->S t b)/\(∀b,iU b->S t b)/\(∀b,iU b->¬iT b)/\∀b3,(∀b,F b\/iT b->b3 b)->aO w b3 (ab l) aC (ab l t) (aC t) iU:=by
  intro t;rcases MN l t with e|⟨p,au,rfl,e⟩
  .exact⟨λ_=>False,λ_=>False,λ_ h=>h.elim,λ_ h=>h.elim,λ_ h=>h.elim,λb3 _=>by rw[e,aO];trivial⟩
  .rw[e];rcases hw p au with ay|⟨bj,lC,_⟩
   .refine⟨λ_=>False,S p.1,λ_ h=>h.elim,λ_ h=>h,λ_ _ h=>h,λb3 bL=>?_⟩;rw[ay];refine(aO.keep (λb ad=>bL b (.inl ad)) (SizeOf.sizeOf (s p.1))).1 _ _ _ (Nat.le_refl _) ?_ (h.dF p.1);intro x aw;rcases MN l x with gP|⟨c1,e_,rfl,gP⟩
    .exact .inr (.inl gP)
    .rcases hw c1 e_ with lX|⟨_,_,lU⟩
     .exact .inl (gP.trans lX)
     .rcases lU p au with lU|⟨ot,l0,pV⟩
      .exact(lU (by rw[ay];exact aw)).elim
      .exact .inr (.inr ⟨ot,by rw[gP];exact l0,by rw[ay]at pV;exact pV⟩)
   .obtain⟨g1,g2⟩:=(aO.cT bj).1 (h.dF p.1);obtain⟨iT,iU,b7,cw,fi,ep⟩:=ax.wider lC g2;exact⟨iT,iU,b7,cw,fi,λb3 bL=>(aO.cT (lC.tree bj)).2 ⟨lC.eA g1,ep b3 bL⟩⟩
 have cv:=λt=>(each t).choose_spec;let iT:=λt=>(each t).choose
 have c2:=λt=>(cv t).choose_spec;let iU:=λt=>(cv t).choose
 have hz:∀t b,iT t b->S t b:=λt=>(c2 t).1;have gw:∀t b,iU t b->S t b:=λt=>(c2 t).2.1;have iR:∀t b,iU t b->¬iT t b:=λt=>(c2 t).2.2.1;have iS:=λt=>(c2 t).2.2.2;refine⟨λb=>F b\/∃t,iT t b,iU,λb ad=>.inl (h.hG b ad),?_,?_,λt b ad=>h.e7 t b (gw t b ad),?_,λt u b dL ad hu=>h.fz t u b dL (gw t b ad) (gw u b hu),λt b ad=>h.ey t b (gw t b ad),?_,h.old,h.size,h.os,h.tape,h.output,h.hj⟩
 .rintro b (ad|⟨t,ad⟩)
  .exact h.h4 b ad
  .exact .inr (h.ey t b (hz t b ad))
 .rintro b (ad|⟨t,ad⟩)
  .exact h.fy b ad
  .exact h.e7 t b (hz t b ad)
 .rintro t b ad (bw|⟨u,hu⟩)
  .exact h.gf t b (gw t b ad) bw
  .by_cases e:t=u
   .subst e;exact iR t b ad hu
   .exact h.fz t u b e (gw t b ad) (hz u b hu)
 .intro t;exact iS t _ (λb ad=>ad.imp id λh=>⟨t,h⟩)
end
inductive J where
 |skip
 |bW (ros:List cb) (keep:Option (List Nat))
 |nR (ros:List cb) (p1:List (List Nat)) (keep:Option (List Nat))
 |seq (a b:J)
 |cond (c:aI) (a b:J)
 |block (id:Nat) (b:J)
 |loop (b:J)
 |exit (id:Nat)
 |ret
 |jE (T:(Exit->ar->Prop)->ar->Prop) (b:J)
 |raw (c:Code)
def bq (n:Fr):Code->Option J
 | .skip=>some .skip
 | .region id ops false=>match qN n ops ops.toList with
   |some r=>some (.bW r none)
   |none=>some (.raw (.region id ops false))
 | .region _ ops true=>if zm (o7 ops)=true then(qN n ops ops.toList).map λr=>.nR r (o7 ops) none else none
 | .seq a b=>match bq n a,bq n b with
   |some a,some b=>some (.seq a b)
   |_,_=>none
 | .cond c a b=>match d_ c,bq n a,bq n b with
   |some c,some a,some b=>some (.cond c a b)
   |_,_,_=>none
 | .block id b=>(bq n b).map (.block id)
 | .loop b=>(bq n b).map .loop
 | .exit id=>some (.exit id)
 | .ret=>some .ret
 |_=>none
def J.lG:J->J
 | .bW ros _=>.bW ros none
 | .nR ros h5 _=>.nR ros h5 none
 | .seq a b=>.seq a.lG b.lG
 | .cond c a b=>.cond c a.lG b.lG
 | .block id b=>.block id b.lG
 | .loop b=>.loop b.lG
 | .jE T b=>.jE T b.lG
 |c=>c
def J.strip:J->J
 | .bW ros _=>.bW (ros.map cb.un) none
 | .nR ros h5 _=>.nR (ros.map cb.un) h5 none
 | .seq a b=>.seq a.strip b.strip
 | .cond c a b=>.cond c a.strip b.strip
 | .block id b=>.block id b.strip
 | .loop b=>.loop b.strip
 | .jE _ b=>b.strip
 |c=>c
theorem J.H6:∀c:J,c.lG.strip=c.strip:=by
 intro c;induction c with
 |seq a b kN kO=>simp only[J.lG,J.strip,kN,kO]
 |cond c a b kN kO=>simp only[J.lG,J.strip,kN,kO]
 |block id b ih=>simp only[J.lG,J.strip,ih]
 |loop b ih=>simp only[J.lG,J.strip,ih]
 |jE T b ih=>simp only[J.lG,J.strip,ih]
 |_=>rfl
def J.bare (H:((Exit->ar->Prop)->ar->Prop)->J->Prop):J->Prop
 | .bW _ k=>k=none
 | .nR _ _ k=>k=none
 | .seq a b=>a.bare H/\b.bare H
 | .cond _ a b=>a.bare H/\b.bare H
 | .block _ b=>b.bare H
 | .loop b=>b.bare H
 | .jE T b=>H T b
 |_=>True
def J.nS (H:((Exit->ar->Prop)->ar->Prop)->J->Prop):J->Prop
 | .seq a b=>a.nS H/\b.nS H
 | .cond _ a b=>a.nS H/\b.nS H
 | .block _ b=>b.nS H
 | .loop b=>b.nS H
 | .jE T b=>H T b.lG
 |_=>True
theorem J.Cu {H:((Exit->ar->Prop)->ar->Prop)->J->Prop}:∀c:J,c.nS H->c.lG.bare H:=by
 intro c;induction c with
 |seq a b kN kO=>intro h;exact⟨kN h.1,kO h.2⟩
 |cond c a b kN kO=>intro h;exact⟨kN h.1,kO h.2⟩
 |block id b ih=>intro h;exact ih h
 |loop b ih=>intro h;exact ih h
 |bW=>intro _;rfl
 |nR=>intro _;rfl
 |jE T b _=>intro h;exact h
 |_=>intro _;trivial
def J.plain:J->Bool
 | .seq a b=>a.plain&&b.plain
 | .cond _ a b=>a.plain&&b.plain
 | .block _ b=>b.plain
 | .loop b=>b.plain
 | .jE _ _=>false
 |_=>true
theorem J.MO {H:((Exit->ar->Prop)->ar->Prop)->J->Prop}:∀c:J,c.plain=true->c.nS H:=by
 intro c;induction c with
 |seq a b kN kO=>intro h;simp only[J.plain,Bool.and_eq_true]at h;exact⟨kN h.1,kO h.2⟩
 |cond c a b kN kO=>intro h;simp only[J.plain,Bool.and_eq_true]at h;exact⟨kN h.1,kO h.2⟩
 |block id b ih=>intro h;exact ih h
 |loop b ih=>intro h;exact ih h
 |jE T b _=>intro h;cases h
 |_=>intro _;trivial
def andThen (K:ar->Prop) (Q:Exit->ar->Prop):Exit->ar->Prop
 | .normal,s=>K s
 |e,s=>Q e s
def wL (id:Nat) (Q:Exit->ar->Prop):Exit->ar->Prop
 | .exit i,s=>if i=id then Q .normal s else Q (.exit i) s
 |e,s=>Q e s
def eK (K:ar->Prop) (s:ar):Prop:=K s\/∃l,zs s l/\K (ab l)
def zt:Option (List Nat)->(ar->Prop)->ar->Prop
 |none,K,s=>eK K s
 |some k,K,s=>K (ab (k.map λt=>(t,s t)))
def dc (C:cl):J->(Exit->ar->Prop)->ar->Prop
 | .skip,Q,s=>Q .normal s
 | .bW ros keep,Q,s=>mv C s ros (zt keep (Q .normal))
 | .nR ros p1 keep,Q,s=>∀l,H3 p1 l->kM C ros s l (zt keep (Q .normal))
 | .seq a b,Q,s=>dc C a (andThen (eK (dc C b Q)) Q) s
 | .cond c a b,Q,s=>match aP s c with
   | .bool gp=>if gp=true then dc C a Q s else dc C b Q s
   | .fs=>dc C a Q s/\dc C b Q s
   |_=>False
 | .block id b,Q,s=>dc C b (wL id Q) s
 | .loop b,Q,s=>eK (λs=>∀Z:ar->Prop,(∀aB,dc C b (andThen (eK Z) Q) aB->Z aB)->Z s) s
 | .exit id,Q,s=>Q (.exit id) s
 | .ret,Q,s=>Q .ret s
 | .jE T _,Q,s=>∀eR:Exit->ar->Prop,(∀e s,Q e s->eR e s)->T eR s
 | .raw _,_,_=>False
section
variable {C:cl}
theorem H7 {s:ar} {o:cb} {K dX:ar->Prop} (h:mI C s o K) (ay:∀s,K s->dX s):mI C s o dX:=by
 unfold mI at h⊢;split
 .rename_i hg;rw[hg]at h;exact Co h λav s1=>ay _
 .rename_i t b hg;rw[hg]at h;simp only at h;split
  .rename_i gp ae;rw[ae]at h;simp only at h;split
   .rename_i ad;rw[if_pos ad]at h;exact Co h λav s1=>ay _
   .rename_i ad;rw[if_neg ad]at h;exact ay _ h
  .rename_i ae;rw[ae]at h;exact ay _ h
  .rename_i ag ah;split at h
   .exact ag _ (by assumption)
   .exact ah (by assumption)
   .exact h
theorem MP {K dX:ar->Prop} (ay:∀s,K s->dX s):∀{ros:List cb} {s:ar},mv C s ros K->mv C s ros dX:=by
 intro ros;induction ros with
 |nil=>intro s h;exact ay s h
 |cons o ros ih=>intro s h;exact H7 h λs h=>ih h
theorem MQ {ros:List cb} {K dX:ar->Prop} (ay:∀s,K s->dX s):∀{l:List Nat} {s:ar},kM C ros s l K->kM C ros s l dX:=by
 intro l;induction l with
 |nil=>intro s h;exact ay s h
 |cons i l ih=>
  intro s h;simp only[kM]at h⊢;split
  .rename_i cy;rw[cy]at h;exact ih h
  .rename_i o cy;rw[cy]at h;exact H7 h λs h=>ih h
theorem wM {K dX:ar->Prop} (ay:∀s,K s->dX s) (s:ar) (h:eK K s):eK dX s:=
 h.imp (ay s) λ⟨l,ag,ah⟩=>⟨l,ag,ay _ ah⟩
theorem MR {keep:Option (List Nat)} {K dX:ar->Prop} (ay:∀s,K s->dX s) (s:ar) (h:zt keep K s):zt keep dX s:=by
 cases keep with
 |none=>exact wM ay s h
 |some k=>exact ay _ h
theorem MS {keep:Option (List Nat)} {K:ar->Prop} {s:ar} (h:zt keep K s):eK K s:=by
 cases keep with
 |none=>exact h
 |some k=>
  refine .inr ⟨_,?_,h⟩;intro p au;obtain⟨t,_,rfl⟩:=List.mem_map.1 au;exact .inl rfl
theorem H8 {K dX:ar->Prop} {Q eR:Exit->ar->Prop} (ay:∀s,K s->dX s) (cU:∀e s,Q e s->eR e s):∀e s,andThen K Q e s->andThen dX eR e s:=by
 intro e s h;cases e with
 |normal=>exact ay s h
 |_=>exact cU _ s h
theorem H9:∀(c:J) {Q eR:Exit->ar->Prop} {s:ar},(∀e s,Q e s->eR e s)->dc C c Q s->dc C c eR s:=by
 intro c;induction c with
 |skip=>intro Q eR s cU h;exact cU _ _ h
 |bW ros keep=>intro Q eR s cU h;exact MP (MR (cU _)) h
 |nR ros p1 keep=>intro Q eR s cU h l hl;exact MQ (MR (cU _)) (h l hl)
 |seq a b kN kO=>
  intro Q eR s cU h;exact kN (H8 (λs h=>wM (λ_ h=>kO cU h) s h) cU) h
 |cond c a b kN kO=>
  intro Q eR s cU h;simp only[dc]at h⊢;split
  .rename_i gp ad;rw[ad]at h;simp only at h;split
   .rename_i e;rw[if_pos e]at h;exact kN cU h
   .rename_i e;rw[if_neg e]at h;exact kO cU h
  .rename_i ad;rw[ad]at h;exact⟨kN cU h.1,kO cU h.2⟩
  .rename_i ag ah;split at h
   .exact ag _ (by assumption)
   .exact ah (by assumption)
   .exact h
 |block id b ih=>
  intro Q eR s cU h;refine ih ?_ h;intro e s h;cases e with
  |exit i=>
   simp only[wL]at h⊢;split
   .rename_i e;rw[if_pos e]at h;exact cU _ _ h
   .rename_i e;rw[if_neg e]at h;exact cU _ _ h
  |_=>exact cU _ _ h
 |loop b ih=>
  intro Q eR s cU h;refine wM (λs h Z wN=>?_) s h;exact h Z λaB fu=>wN aB (ih (H8 (λ_ h=>h) cU) fu)
 |exit id=>intro Q eR s cU h;exact cU _ _ h
 |ret=>intro Q eR s cU h;exact cU _ _ h
 |jE T b _=>intro Q eR s cU h ej ah;exact h ej λe s he=>ah e s (cU e s he)
 |raw c=>intro Q eR s cU h;exact h
theorem Cv:∀(c:J) {Q:Exit->ar->Prop} {s:ar},dc C c Q s->dc C c.lG Q s:=by
 intro c;induction c with
 |bW ros keep=>intro Q s h;exact MP (λs h=>MS h) h
 |nR ros h5 keep=>intro Q s h l hl;exact MQ (λs h=>MS h) (h l hl)
 |seq a b kN kO=>intro Q s h;exact kN (H9 a (H8 (λs h=>wM (λ_ h=>kO h) s h) (λ_ _ h=>h)) h)
 |cond c a b kN kO=>
  intro Q s h;simp only[J.lG,dc]at h⊢;split
  .rename_i gp ad;rw[ad]at h;simp only at h;split
   .rename_i e;rw[if_pos e]at h;exact kN h
   .rename_i e;rw[if_neg e]at h;exact kO h
  .rename_i ad;rw[ad]at h;exact⟨kN h.1,kO h.2⟩
  .rename_i ag ah;split at h
   .exact ag _ (by assumption)
   .exact ah (by assumption)
   .exact h
 |block id b ih=>intro Q s h;exact ih h
 |loop b ih=>
  intro Q s h;refine wM (λs h Z wN=>?_) s h;exact h Z λaB fu=>wN aB (ih fu)
 |jE T b _=>intro Q s h;exact h
 |_=>intro Q s h;exact h
variable {w0 w:World} {F0 X:Nat->Prop} {n:Fr} {ρ:Nat->Value} {s:ar} {a:Act}
def uo (w0:World) (F0 X:Nat->Prop) (n:Fr) (ρ:Nat->Value) (Q:Exit->ar->Prop):Exit->Act->World->Prop:=λe a w=>∃s,Q e s/\Rel w0 F0 X n ρ s a w
theorem Rel.eK {K:ar->Prop} {s:ar} {a:Act} {w:World} (aS:Rel w0 F0 X n ρ s a w) (h:eK K s):∃aB,K aB/\Rel w0 F0 X n ρ aB a w:=by
 rcases h with h|⟨l,ag,ah⟩
 .exact⟨s,h,aS⟩
 .obtain⟨g1,g2,g3,F,S,g4⟩:=aS;obtain⟨b3,aW,g5⟩:=g4.V8 ag;exact⟨ab l,ah,g1,g2,g3,b3,aW,g5⟩
theorem J.V9 {c:J} (h:c.strip= .skip):c= .skip\/∃T b,c= .jE T b:=by cases c<;>first|exact .inl rfl|exact .inr ⟨_,_,rfl⟩|cases h
theorem J.V_ {c:J} (h:c.strip= .ret):c= .ret\/∃T b,c= .jE T b:=by cases c<;>first|exact .inl rfl|exact .inr ⟨_,_,rfl⟩|cases h
theorem J.Wa {c:J} {i:Nat} (h:c.strip= .exit i):c= .exit i\/∃T b,c= .jE T b:=by cases c<;>first|exact .inl h|exact .inr ⟨_,_,rfl⟩|cases h
theorem J.Wb {c:J} {x:Code} (h:c.strip= .raw x):c= .raw x\/∃T b,c= .jE T b:=by cases c<;>first|exact .inl h|exact .inr ⟨_,_,rfl⟩|cases h
theorem J.Wc {c:J} {r:List cb} {k:Option (List Nat)} (h:c.strip= .bW r k):(∃ros di,c= .bW ros di/\ros.map cb.un=r)\/∃T b,c= .jE T b:=by
 cases c<;>first|(cases h;exact .inl ⟨_,_,rfl,rfl⟩)|exact .inr ⟨_,_,rfl⟩|cases h
theorem J.Wd {c:J} {r:List cb} {h5:List (List Nat)} {k:Option (List Nat)} (h:c.strip= .nR r h5 k):(∃ros MT di,c= .nR ros MT di/\ros.map cb.un=r/\MT=h5)\/∃T b,c= .jE T b:=by
 cases c<;>first|(cases h;exact .inl ⟨_,_,_,rfl,rfl,rfl⟩)|exact .inr ⟨_,_,rfl⟩|cases h
theorem J.We {c x y:J} (h:c.strip= .seq x y):(∃a b,c= .seq a b/\a.strip=x/\b.strip=y)\/∃T b,c= .jE T b:=by
 cases c<;>first|(cases h;exact .inl ⟨_,_,rfl,rfl,rfl⟩)|exact .inr ⟨_,_,rfl⟩|cases h
theorem J.Wf {c x y:J} {o:aI} (h:c.strip= .cond o x y):(∃oq a b,c= .cond oq a b/\oq=o/\a.strip=x/\b.strip=y)\/∃T b,c= .jE T b:=by
 cases c<;>first|(cases h;exact .inl ⟨_,_,_,rfl,rfl,rfl,rfl⟩)|exact .inr ⟨_,_,rfl⟩|cases h
theorem J.Wg {c x:J} {i:Nat} (h:c.strip= .block i x):(∃a,c= .block i a/\a.strip=x)\/∃T b,c= .jE T b:=by
 cases c<;>first|(cases h;exact .inl ⟨_,rfl,rfl⟩)|exact .inr ⟨_,_,rfl⟩|cases h
theorem J.Wh {c x:J} (h:c.strip= .loop x):(∃a,c= .loop a/\a.strip=x)\/∃T b,c= .jE T b:=by
 cases c<;>first|(cases h;exact .inl ⟨_,rfl,rfl⟩)|exact .inr ⟨_,_,rfl⟩|cases h
theorem H_ (bx:C.fc) {H:((Exit->ar->Prop)->ar->Prop)->J->Prop}
  (nT:∀(c:Code) (T:(Exit->ar->Prop)->ar->Prop) (b:J) (Q:Exit->ar->Prop) (s:ar) (a:Act) (w:World),H T b->bq n c=some b.strip->T Q s->Rel w0 F0 X n ρ s a w->c.wp C.P (uo w0 F0 X n ρ Q) a w):
  ∀(c:Code) {dT:J} {Q:Exit->ar->Prop} {s:ar} {a:Act} {w:World},bq n c=some dT.strip->dT.bare H->dc C dT Q s->Rel w0 F0 X n ρ s a w->c.wp C.P (uo w0 F0 X n ρ Q) a w:=by
 intro c;induction c with
 |skip=>
  intro dT Q s a w ae ix h aS;have ks:=ae;simp only[bq,Option.some.injEq]at ae;rcases J.V9 ae.symm with rfl|⟨T,b,rfl⟩
  .exact wp_skip ⟨s,h,aS⟩
  .exact nT _ T b Q s a w ix (by simpa only[J.strip]using ks) (h Q λ_ _ h=>h) aS
 |region id ops draw=>
  intro dT Q s a w ae ix h aS;have ks:=ae;cases draw with
  |false=>
   simp only[bq]at ae;split at ae
   rotate_left
   .have fu:=(Option.some.injEq _ _▸ae).symm;rcases J.Wb fu with rfl|⟨T,b,rfl⟩
    .exact h.elim
    .exact nT _ T b Q s a w ix (by simpa only[J.strip]using ks) (h Q λ_ _ h=>h) aS
   rename_i Wi zu;simp only[Option.some.injEq]at ae;rcases J.Wc ae.symm with⟨ros,k,rfl,rfl⟩|⟨T,b,rfl⟩
   rotate_left
   .exact nT _ T b Q s a w ix (by simpa only[J.strip]using ks) (h Q λ_ _ h=>h) aS
   cases ix;exact VW bx zu (λaB c7 aL ay e3=>e3.eK ay) h aS
  |true=>
   simp only[bq]at ae;split at ae
   .rename_i ad;simp only[Option.map_eq_some_iff]at ae;obtain⟨Wi,zu,ae⟩:=ae;rcases J.Wd ae.symm with⟨ros,h5,k,rfl,rfl,rfl⟩|⟨T,b,rfl⟩
    rotate_left
    .exact nT _ T b Q s a w ix (by simpa only[J.strip]using ks) (h Q λ_ _ h=>h) aS
    cases ix;refine wp_region_draw λt=>?_;rw[show Region.schedule (C.P.follows .mixedOrders) ops t=Region.linearise .any ops t by simp[Region.schedule,bx.mixed]];exact ME bx zu (λaB c7 aL ay e3=>e3.eK ay) _ s a _ (h _ (V5 ad t)) (aS.drawn _ (by first|exact Nat.le_succ _|exact Nat.le_add_right _ _|omega))
   .cases ae
 |seq x y Wj Cw=>
  intro dT Q s a w ae ix h aS;have ks:=ae;simp only[bq]at ae;split at ae
  .rename_i wB MU aw hy;simp only[Option.some.injEq]at ae;rcases J.We ae.symm with⟨cA,k_,rfl,rfl,rfl⟩|⟨T,b,rfl⟩
   rotate_left
   .exact nT _ T b Q s a w ix (by simpa only[J.strip]using ks) (h Q λ_ _ h=>h) aS
   refine wp_seq (wp_mono (Wj aw ix.1 h aS) ?_);rintro e c7 aL ⟨aB,bt,e3⟩;cases e with
   |normal=>
    obtain⟨aB,bt,e3⟩:=e3.eK bt;exact Cw hy ix.2 bt e3
   |_=>exact⟨aB,bt,e3⟩
  .cases ae
 |cond x y z Cw MV=>
  intro dT Q s a w ae ix h aS;have ks:=ae;simp only[bq]at ae;split at ae
  .rename_i wB MU sz aw hy cg;simp only[Option.some.injEq]at ae;rcases J.Wf ae.symm with⟨cA,k_,rv,rfl,rfl,rfl,rfl⟩|⟨T,b,rfl⟩
   rotate_left
   .exact nT _ T b Q s a w ix (by simpa only[J.strip]using ks) (h Q λ_ _ h=>h) aS
   have e3:=aS;obtain⟨aj,eM,bw,F,S,pZ⟩:=e3;have aT:=(fL (a:=a) pZ (λ_=>rfl) aw).2;simp only[dc]at h;split at h
   .rename_i gp ad;rw[ad]at aT;have:=sC aT;refine wp_cond this ?_;split
    .rename_i e;rw[if_pos e]at h;exact Cw hy ix.1 h aS
    .rename_i e;rw[if_neg e]at h;exact MV cg ix.2 h aS
   .rename_i ad;rw[ad]at aT;obtain⟨gp,mX⟩:=Lq aT;refine wp_cond mX ?_;split
    .exact Cw hy ix.1 h.1 aS
    .exact MV cg ix.2 h.2 aS
   .exact h.elim
  .cases ae
 |block id b ih=>
  intro dT Q s a w ae ix h aS;have ks:=ae;simp only[bq,Option.map_eq_some_iff]at ae;obtain⟨y1,ad,ae⟩:=ae;rcases J.Wg ae.symm with⟨gp,rfl,rfl⟩|⟨T,b,rfl⟩
  rotate_left
  .exact nT _ T b Q s a w ix (by simpa only[J.strip]using ks) (h Q λ_ _ h=>h) aS
  refine wp_block (wp_mono (ih ad ix h aS) ?_);rintro e c7 aL ⟨aB,bt,e3⟩;cases e with
  |exit i=>
   simp only[wL]at bt;simp only[Exit.inBlock];split
   .rename_i e;rw[if_pos e]at bt;exact⟨aB,bt,e3⟩
   .rename_i e;rw[if_neg e]at bt;exact⟨aB,bt,e3⟩
  |_=>exact⟨aB,bt,e3⟩
 |loop b ih=>
  intro dT Q s a w ae ix h aS;have ks:=ae;simp only[bq,Option.map_eq_some_iff]at ae;obtain⟨y1,ad,ae⟩:=ae;rcases J.Wh ae.symm with⟨gp,rfl,rfl⟩|⟨T,b,rfl⟩
  rotate_left
  .exact nT _ T b Q s a w ix (by simpa only[J.strip]using ks) (h Q λ_ _ h=>h) aS
  obtain⟨s,h,aS⟩:=aS.eK h;have key:=h (λs=>∀a w,Rel w0 F0 X n ρ s a w->∀(f:Frame) (k:List Item) (cs:List Frame),∃e c7 aL,uo w0 F0 X n ρ Q e c7 aL/\Arrives C.P (lone (f.at a (.code b:: .inLoop b::k)) cs w) f k cs e c7 aL) ?_
  .intro f k cs;obtain⟨e,c7,aL,cU,sR⟩:=key a w aS f k cs;exact⟨e,c7,aL,cU,.of_steps (.one step_loop) sR⟩
  .intro aB fu a w aS f k cs;obtain⟨e,a₁,w₁,⟨s1,cU,sS⟩,sR⟩:=ih ad ix fu aS f (.inLoop b::k) cs;cases e with
   |normal=>
    simp only[andThen]at cU;obtain⟨s1,cU,sS⟩:=sS.eK cU;obtain⟨e₂,a₂,w₂,hq₂,harr₂⟩:=cU a₁ w₁ sS f k cs;exact⟨e₂,a₂,w₂,hq₂,.of_steps (Steps.trans sR (.one step_inLoop)) harr₂⟩
   |exit id=>exact⟨_,a₁,w₁,⟨s1,cU,sS⟩,.pass (x:=.inLoop b) rfl (λ_ _=>.inl (by simp)) sR⟩
   |goto l=>exact⟨_,a₁,w₁,⟨s1,cU,sS⟩,.pass (x:=.inLoop b) rfl (λ_ _=>.inl (by simp)) sR⟩
   |ret=>exact⟨_,a₁,w₁,⟨s1,cU,sS⟩,.pass (x:=.inLoop b) rfl (λ_ _=>.inl (by simp)) sR⟩
   |panic aHi=>exact⟨_,a₁,w₁,⟨s1,cU,sS⟩,.pass (x:=.inLoop b) rfl (λ_ _=>.inl (by simp)) sR⟩
   |outgrown=>exact⟨_,a₁,w₁,⟨s1,cU,sS⟩,.pass (x:=.inLoop b) rfl (λ_ _=>.inl (by simp)) sR⟩
 |exit id=>
  intro dT Q s a w ae ix h aS;have ks:=ae;simp only[bq,Option.some.injEq]at ae;rcases J.Wa ae.symm with rfl|⟨T,b,rfl⟩
  .exact wp_exit ⟨s,h,aS⟩
  .exact nT _ T b Q s a w ix (by simpa only[J.strip]using ks) (h Q λ_ _ h=>h) aS
 |ret=>
  intro dT Q s a w ae ix h aS;have ks:=ae;simp only[bq,Option.some.injEq]at ae;rcases J.V_ ae.symm with rfl|⟨T,b,rfl⟩
  .exact wp_ret ⟨s,h,aS⟩
  .exact nT _ T b Q s a w ix (by simpa only[J.strip]using ks) (h Q λ_ _ h=>h) aS
 |_=>intro dT Q s a w ae;simp[bq]at ae
theorem MW (bx:C.fc) (c:Code) {dT:J} {Q:Exit->ar->Prop} {s:ar} {a:Act} {w:World} (ae:bq n c=some dT.strip) (ad:dT.bare (λ_ _=>False)) (h:dc C dT Q s) (aS:Rel w0 F0 X n ρ s a w):c.wp C.P (uo w0 F0 X n ρ Q) a w:=
 H_ bx (λ_ _ _ _ _ _ _ bw=>bw.elim) c ae ad h aS
end
def kt:ResultVar->Nat
 | .tmp t=>t
 | .cell a _=>a
def rK (C:cl) (s:ar):ResultVar->Option I
 | .tmp t=>if(s t).tree=true then(match s t with| .tuple _=>none|d=>some d)else none
 | .cell a T=>match s a with
   | .bh d=>if fits C T d=true/\d.tree=true then some d else none
   |_=>none
def Ia (C:cl) (fx:List Nat) (fM:List ResultVar) (r:I) (outs:List I) (s:ar):Prop:=
 ∃ds,fM.map (rK C s)=ds.map some/\r=(match ds with|[d]=>d|ds=>.tuple ds)/\(fM.map kt).Nodup/\
  ∀(i:Nat) (o:I),outs[i]? =some o->o= .hole\/(o=s i/\o.hf=true/\i∈fx/\i∉fM.map kt)
def Ends (C:cl) (fx:List Nat) (fM:List ResultVar) (r:I) (outs:List I) (s:ar):Prop:=
 Ia C fx fM r outs s\/∃t y q d s1,s t= .h y q/\db s (.h y q)=some (d,s1)/\Ia C fx fM r outs (fin s1 (some t) d)
theorem bU.takes {w0 w:World} {F0 X F:Nat->Prop} {S:Nat->Nat->Prop} {s s1:ar} {aC:Nat->Value} {t y:Nat} {q:List Nat} {d:I} (aS:bU w0 F0 X F S s aC w) (ag:s t= .h y q) (ah:db s (.h y q)=some (d,s1)):
  ∃aW,bU w0 F0 X F aW (c_.fin s1 (some t) d) aC w:=by
 have ae:=aS.dF t;rw[ag,aO]at ae;obtain⟨ck,k0,b7,cw,Sn,fi,ep,fQ,dM,jz,_⟩:=pI aS (av:=.h y q) (v:=aC t) rfl (by rw[aO];exact ae) ah;obtain⟨aW,bt⟩:=k0.fin (.inr ⟨b7,cw,Sn,fi,ep,fQ,dM,jz⟩) (some t);refine⟨aW,?_⟩;have e:oe aC (some t) (aC t)=aC:=by
  funext u;simp only[oe,dD];split
  .rename_i h;rw[h]
  .rfl
 rwa [e]at bt
section
variable {C:cl} {w0 w:World} {F0 X F:Nat->Prop} {S:Nat->Nat->Prop} {s:ar} {tmps:Array Value}
theorem MX {d:I} {x:Value} (aj:∀vs,d≠.tuple vs) (h:eA d x):cz x=iv x/\i7 d x:=by
 have:i7 d x:=by cases d<;>first|exact h|exact(aj _ rfl).elim
 refine⟨?_,this⟩;cases d<;>first
  |(obtain⟨a,rfl⟩:=this;rfl)
  |(simp only[i7]at this
    rw[hH this];cases x<;>first|rfl|(simp[Value.ha]at this))
def zv (tmps:Array Value):ResultVar->Sem Value
 | .tmp t=>pure (tmps.getD t undef)
 | .cell a t=>do loadVar t (<-asAddr (tmps.getD a undef))
theorem Wk (bx:C.fc) (h:bU w0 F0 X F S s (λt=>tmps.getD t undef) w) {v:ResultVar} {d:I} (aT:rK C s v=some d):
  ∃x,(zv tmps v).run C.P w= .ok x w/\d.tree=true/\(∀vs,d≠.tuple vs)/\eA d x/\ax w F d (cz x) (S (kt v)):=by
 cases v with
 |tmp t=>
  simp only[rK]at aT;split at aT
  .rename_i bj;have nN:(∀vs,s t≠.tuple vs)/\d=s t:=by
    cases ae:s t<;>rw[ae]at aT<;>simp only at aT<;>first
     |(cases aT;done)
     |(simp only[Option.some.injEq]at aT;exact⟨(λ_ h=>by cases h),aT.symm⟩)
   obtain⟨nN,rfl⟩:=nN;obtain⟨g1,g2⟩:=(aO.cT bj).1 (h.dF t);exact⟨_,by simp[zv],bj,nN,g1,g2⟩
  .cases aT
 |cell a T=>
  simp only[rK]at aT;split at aT
  .rename_i e ae;split at aT
   .rename_i Wl;obtain⟨iP,Wm⟩:=Wl;simp only[Option.some.injEq]at aT;subst aT;have j3:=h.dF a;rw[ae]at j3;obtain⟨g1,g2⟩:=(aO.cT (d:=.bh e) rfl).1 j3;rw[hH g1,ax]at g2;obtain⟨b,cur,ty,fr,aW,b7,cw,fi,ep,fQ,dM,jz⟩:=g2;simp only[List.cons.injEq,and_true]at b7;have kI:iA w b 0 cur.toList:=by
     have:=wh fi cur.size
     rwa [List.take_of_length_le (by simp)]at this
    obtain⟨x,ei,bp,dk⟩:=B2 (C:=C) bx kI fQ iP;refine⟨x,?_,Wm,?_,dk,?_⟩
    .simp only[zv];rw[b7];simpa [asAddr]using ei
    .intro vs gP;subst gP;unfold fits at iP;split at iP<;>simp_all
    .rw[bp];exact ax.mono (λ_ h=>h) _ _ _ _ dM fQ
   .cases aT
  .cases aT
theorem Wn (bx:C.fc) (h:bU w0 F0 X F S s (λt=>tmps.getD t undef) w):∀(fM:List ResultVar) (ds:List I),fM.map (rK C s)=ds.map some->(fM.map kt).Nodup->
  ∃xs,(fM.mapM (zv tmps)).run C.P w= .ok xs w/\xs.length=ds.length/\bm w F ds (xs.flatMap iv) (λb=>∃t∈fM.map kt,S t b)/\
   ∀(k:Nat) (d:I) (x:Value),ds[k]? =some d->xs[k]? =some x->eA d x/\(∀vs,d≠.tuple vs)/\(iv x).length=d.wd/\cz x=iv x/\d.tree=true:=by
 intro fM;induction fM with
 |nil=>
  intro ds he _;have:ds=[]:=by simpa using he.symm
  subst this;exact⟨[],by simp,rfl,by simp only[List.flatMap_nil];rw[bm],λk d x aj=>by simp at aj⟩
 |cons v fM ih=>
  intro ds he wO;cases ds with
  |nil=>simp at he
  |cons d ds=>
   simp only[List.map_cons,List.cons.injEq]at he;simp only[List.map_cons,List.nodup_cons]at wO;obtain⟨x,ei,rt,bp,dk,b5⟩:=Wk bx h he.1;obtain⟨xs,hz,gw,iR,iS⟩:=ih ds he.2 wO.2;obtain⟨aX,a6⟩:=MX bp dk;refine⟨x::xs,by simp[List.mapM_cons,ei,hz],by simp[gw],?_,?_⟩
   .simp only[List.flatMap_cons];rw[bm];rw[aX]at b5;refine⟨iv x,xs.flatMap iv,S (kt v),λb=>∃t∈fM.map kt,S t b,rfl,b5,iR,λb ad=>⟨kt v,by simp,ad⟩,?_,?_⟩
    .rintro b ⟨t,bj,ad⟩;exact⟨t,by simp[bj],ad⟩
    .rintro b ad ⟨t,bj,mX⟩;have:t≠kt v:=λe=>wO.1 (e▸bj);exact h.fz t (kt v) b this mX ad
   .intro k bE cA aj aw;cases k with
    |zero=>
     simp at aj aw;subst aj aw;refine⟨dk,bp,?_,aX,rt⟩;rw[<-aX];exact ax.length _ _ _ b5
    |succ k=>exact iS k bE cA (by simpa using aj) (by simpa using aw)
theorem Ib (bx:C.fc) {f:FuncId} {fn:Func} {c:Code} {fx:List Nat} {as outs:List I} {r:I} (bw:C.P.funcs[f]? =some fn) (ad:fn.body=some c)
  (kP:(fn.name== "runtime.NumGoroutine")=false) (a7:as.length<=fn.ntmps)
  {w:World} {F X:Nat->Prop} {S:Nat->Nat->Prop} {vs:List Value} (hl:vs.length=as.length) (aS:bU w F X F S (gu as) (hW vs) w)
  (Ic:∀a,Rel w F X ⟨fn.ntmps,fx⟩ (hW vs) (gu as) a w->(∀t,a.tmps.getD t undef=hW vs t)->c.wp C.P (uo w F X ⟨fn.ntmps,fx⟩ (hW vs) (λe s=>(e= .normal\/e= .ret)/\eK (Ends C fx fn.results.toList r outs) s)) a w):
  pW C.P f vs.toArray w λv aL=>∃b3 aW,bU w F X b3 aW (gu (r::outs)) (hW (v::vs)) aL:=by
 have nM:(vs.toArray++Array.replicate (fn.ntmps-vs.toArray.size) undef).size=fn.ntmps:=by simp;omega
 have eN:(λt=>(vs.toArray++Array.replicate (fn.ntmps-vs.toArray.size) undef).getD t undef)=hW vs:=by
  funext t;simp only[hW,Array.getD_eq_getD_getElem?,List.getD_eq_getElem?_getD];by_cases bj:t<vs.length
  .rw[Array.getElem?_append_left (by simpa using bj)];simp
  .rw[Array.getElem?_append_right (by simpa using bj)];rw[List.getElem?_eq_none (by omega)];simp only[Array.getElem?_replicate];split<;>rfl
 have pZ:Rel w F X ⟨fn.ntmps,fx⟩ (hW vs) (gu as) {tmps:=vs.toArray++Array.replicate (fn.ntmps-vs.toArray.size) undef,defers:=[]} w:=
  ⟨rfl,nM,λi _=>congrFun eN i,F,S,by rw[eN];exact aS⟩
 have Ie:fn.name≠ "runtime.NumGoroutine" :=by simpa using kP
 refine .inl ⟨by simp[callFunc,bw,Ie,ad],calls_of_wp bw ad (wp_mono (Ic _ pZ (congrFun eN)) ?_)⟩;rintro e c7 aL ⟨aB,⟨he,Wo⟩,Wp⟩;obtain⟨aB,⟨ds,kd,MY,wO,tQ⟩,aj,eM,ia,b3,aW,e3⟩:∃aB,Ia C fx fn.results.toList r outs aB/\Rel w F X ⟨fn.ntmps,fx⟩ (hW vs) aB c7 aL:=by
  obtain⟨aB,he,MZ⟩:=Wp.eK Wo;rcases he with he|⟨t,y,q,d,s1,ag,ah,he⟩
  .exact⟨aB,he,MZ⟩
  .obtain⟨g1,g2,g3,F,S,g4⟩:=MZ;obtain⟨aW,g5⟩:=g4.takes ag ah;exact⟨_,he,g1,g2,g3,F,aW,g5⟩
 obtain⟨xs,hz,gw,iR,iS⟩:=Wn bx e3 _ ds kd wO;have Wq:(results fn c7.tmps)=(do let vs<-fn.results.mapM (zv c7.tmps);pure (if h:vs.size=1 then vs[0]else .tuple vs)):=by
  unfold results;congr 1
 have tV:(results fn c7.tmps).run C.P aL= .ok (if h:xs.toArray.size=1 then xs.toArray[0]else .tuple xs.toArray) aL:=by
  rw[Wq,Array.mapM_eq_mapM_toList];simp[hz]
 have qP:(r.tree=true/\eA r (if h:xs.toArray.size=1 then xs.toArray[0]else .tuple xs.toArray)/\
   ax aL b3 r (cz (if h:xs.toArray.size=1 then xs.toArray[0]else .tuple xs.toArray)) (λb=>∃t∈fn.results.toList.map kt,aW t b)):=by
  by_cases ag:∃d,ds=[d]
  .obtain⟨d,rfl⟩:=ag;obtain⟨x,rfl⟩:∃x,xs=[x]:=by
    cases xs with
    |nil=>simp at gw
    |cons x xs=>cases xs with
     |nil=>exact⟨x,rfl⟩
     |cons y cK=>simp at gw
   obtain⟨b7,cw,fi,ep,fQ⟩:=iS 0 d x rfl rfl;have Wr:d=r:=MY.symm;subst Wr;simp only[List.flatMap_cons,List.flatMap_nil,List.append_nil]at iR;rw[bm]at iR;obtain⟨cv,c2,ck,eo,aX,a6,aQ,cC,cF,cc⟩:=iR;rw[bm]at aQ;subst aQ;simp only[List.append_nil]at aX;subst aX;have aw:(if h:([x]:List Value).toArray.size=1 then([x]:List Value).toArray[0]else .tuple ([x]:List Value).toArray)=x:=by simp
   rw[aw,ep];exact⟨fQ,b7,ax.mono (λ_ h=>h) _ _ _ _ cC a6⟩
  .have Cx:r= .tuple ds:=by
    rw[MY];cases ds with
    |nil=>rfl
    |cons d ds=>cases ds with
     |nil=>exact(ag ⟨d,rfl⟩).elim
     |cons e ds=>rfl
   have aw:(if h:xs.toArray.size=1 then xs.toArray[0]else Value.tuple xs.toArray)= .tuple xs.toArray:=by
    rw[dif_neg];intro eM;have:ds.length=1:=by rw[<-gw];simpa using eM
    obtain⟨d,aj⟩:=List.length_eq_one_iff.1 this;exact ag ⟨d,aj⟩
   rw[aw,Cx];refine⟨rfl,⟨xs.toArray,rfl,by simpa using gw,λk d x aj aw=>?_⟩,?_⟩
   .obtain⟨b7,cw,fi,ep,_⟩:=iS k d x aj (by simpa using aw);exact⟨(MX cw b7).2,cw,fi⟩
   .rw[ax];simpa [cz]using iR
 have post:∀(v:Value),(r.tree=true/\eA r v/\ax aL b3 r (cz v) (λb=>∃t∈fn.results.toList.map kt,aW t b))->∃wH ck,bU w F X wH ck (gu (r::outs)) (hW (v::vs)) aL:=by
  rintro v ⟨v1,v2,v3⟩;have Ig:∀i,(outs.getD i .hole).hf=true->outs.getD i .hole=aB i/\i∈fx/\i∉fn.results.toList.map kt:=by
   intro i an;cases cy:outs[i]? with
   |none=>simp[List.getD,cy,I.hf]at an
   |some o=>
    have e:outs.getD i .hole=o:=by simp[List.getD,cy]
    rw[e]at an⊢;rcases tQ i o cy with h|h
    .subst h;simp[I.hf]at an
    .exact⟨h.1,h.2.2⟩
  refine⟨b3,λt b=>match t with|0=>∃t∈fn.results.toList.map kt,aW t b|i+1=>(outs.getD i .hole).hf=true/\aW i b,e3.hG,e3.h4,e3.fy,?_,?_,?_,?_,?_,e3.old,e3.size,e3.os,e3.tape,e3.output,aS.hj⟩
  .intro t b ad;cases t with
   |zero=>obtain⟨t,_,ad⟩:=ad;exact e3.e7 t b ad
   |succ i=>exact e3.e7 i b ad.2
  .intro t b ad;cases t with
   |zero=>obtain⟨t,_,ad⟩:=ad;exact e3.gf t b ad
   |succ i=>exact e3.gf i b ad.2
  .intro t u b dL ad hu;cases t with
   |zero=>
    obtain⟨t,bj,ad⟩:=ad;cases u with
    |zero=>exact dL rfl
    |succ j=>
     refine e3.fz t j b (λe=>?_) ad hu.2;subst e;exact(Ig t hu.1).2.2 bj
   |succ i=>
    cases u with
    |zero=>
     obtain⟨t,bj,hu⟩:=hu;refine e3.fz t i b (λe=>?_) hu ad.2;subst e;exact(Ig t ad.1).2.2 bj
    |succ j=>exact e3.fz i j b (by omega) ad.2 hu.2
  .intro t b ad;cases t with
   |zero=>obtain⟨t,_,ad⟩:=ad;exact e3.ey t b ad
   |succ i=>exact e3.ey i b ad.2
  .intro t;cases t with
   |zero=>exact(aO.cT v1).2 ⟨v2,v3⟩
   |succ i=>
    show aO aL b3 (gu (r::outs)) (hW (v::vs)) (outs.getD i .hole) (vs.getD i undef) (λb=>(outs.getD i .hole).hf=true/\aW i b);cases an:(outs.getD i .hole).hf with
    |false=>
     have:outs.getD i .hole= .hole:=by
      cases cy:outs[i]? with
      |none=>simp[List.getD,cy]
      |some o=>
       have e:outs.getD i .hole=o:=by simp[List.getD,cy]
       rw[e]at an⊢;rcases tQ i o cy with h|h
       .exact h
       .rw[h.2.1]at an;cases an
     rw[this,aO];trivial
    |true=>
     obtain⟨ot,l0,pV⟩:=Ig i an;have bj:=(sN an).2.1;have j3:=e3.dF i;rw[<-ot]at j3;obtain⟨g1,g2⟩:=(aO.cT bj).1 j3;have aT:c7.tmps.getD i undef=vs.getD i undef:=ia i l0;rw[aT]at g1 g2;exact(aO.cT bj).2 ⟨g1,ax.mono (λ_ h=>h) _ _ _ _ (λb ad=>⟨rfl,ad⟩) g2⟩
 rcases he with rfl|rfl
 .exact⟨aj,_,tV,_,rfl,post _ qP⟩
 .exact⟨aj,_,tV,_,rfl,post _ qP⟩
theorem bk.of_wp (bx:C.fc) {f:FuncId} {fn:Func} {c:Code} {dT:J} {fx:List Nat} {as outs:List I} {r:I} (bw:C.P.funcs[f]? =some fn) (ad:fn.body=some c)
  (kP:(fn.name== "runtime.NumGoroutine")=false) (ae:bq ⟨fn.ntmps,fx⟩ c=some dT.strip) (a7:as.length<=fn.ntmps)
  (h:dc C dT (λe s=>(e= .normal\/e= .ret)/\eK (Ends C fx fn.results.toList r outs) s) (gu as)) (au:dT.plain=true:=by kernel_rfl):bk C f as r outs:=
 λw F X S vs hl aS=>Ib bx bw ad kP a7 hl aS λa pZ _=>MW bx c (by rw[J.H6];exact ae) (J.Cu dT (J.MO dT au)) (Cv dT h) pZ
end
def num:Nat->List I->List (Nat×I)
 |_,[]=>[]
 |k,a::as=>(k,a)::num (k+1) as
theorem Ws:∀(as:List I) (k t:Nat),ab (num k as) (k+t)=as.getD t .hole:=by
 intro as;induction as with
 |nil=>intro k t;simp[num,ab]
 |cons a as ih=>
  intro k t;cases t with
  |zero=>simp[num,ab]
  |succ t=>
   have:=ih (k+1) t;simp only[num,ab];rw[if_neg (by omega)];rw[show k+(t+1)=k+1+t by omega,this];simp
theorem Ih (as:List I):gu as=ab (num 0 as):=by
 funext t;have:=Ws as 0 t;rw[Nat.zero_add]at this;rw[this];rfl
theorem lH (l:List (Nat×I)) (t:Nat) (d:I):dD (ab l) t d=ab ((t,d)::l):=by
 funext u;simp only[dD,ab]
def o8 (t:Nat):List (Nat×I)->List (Nat×I)
 |[]=>[]
 |(u,d)::l=>(u,da t d)::o8 t l
def uq (t:Nat):List (Nat×I)->List (Nat×I)
 |[]=>[]
 |(u,d)::l=>(u,ct t d)::uq t l
theorem wP (t:Nat):∀l:List (Nat×I),mD t (ab l)=ab (o8 t l):=by
 intro l;funext u;induction l with
 |nil=>rfl
 |cons p l ih=>
  obtain⟨v,d⟩:=p;simp only[mD,ab,o8]at ih⊢;split
  .rfl
  .exact ih
theorem Wt (t:Nat):∀l:List (Nat×I),iO t (ab l)=ab (uq t l):=by
 intro l;funext u;induction l with
 |nil=>rfl
 |cons p l ih=>
  obtain⟨v,d⟩:=p;simp only[iO,ab,uq]at ih⊢;split
  .rfl
  .exact ih
def jS (k:List Nat) (s:ar):List (Nat×I):=k.map λt=>(t,s t)
section
variable {C:cl} {l:List (Nat×I)}
def gr.ur:gr->Bool
 | .call _ _=>true
 | .bS _=>false
 | .gz _=>false
 | .pick _ _ _=>false
 | .hx _=>false
 | .dm _ _=>false
 | .fA _ _=>false
 | .eQ _ _ _=>false
 | .cp _ _=>false
 | .gH _ _ _=>false
 | .gg _=>false
 | .bV _ _ _ _=>false
 | .un _ _=>false
 | .gI _ _ _=>false
 | .i_ _ _=>false
 | .eu _ _ _=>false
 | .eE _ _ _ _=>false
 | .cY _ _ _=>false
 | .fp _ _ _=>false
 | .idx _ _ _=>false
 | .ex _ _=>false
 | .na _ _ _=>false
 | .len _ _=>false
 | .app _ _ _ _=>false
 | .shr _=>true
 | .oY _ _ _ _=>false
 | .cap _ _=>false
 | .jB _ _ _=>false
 | .bad=>false
 | .nL _ _ _ _=>true
 | .lb _ _ _=>true
 | .kr _ _=>false
 | .sK _=>false
 | .rF _=>false
 | .y6=>false
 | .oX _ _ _=>false
 | .nK _ _ _ _=>false
variable {Q:Exit->ar->Prop}
def I.M0:I->Bool
 | .tuple _=>true
 |_=>false
theorem Ends.one {fx:List Nat} {t:Nat} {r:I} {s:ar} (ag:s t=r) (ah:(r.tree&& !r.M0)=true):Ends C fx [.tmp t] r [] s:=by
 simp only[Bool.and_eq_true,Bool.not_eq_true']at ah;obtain⟨ah,Cy⟩:=ah;have aN:∀vs,r≠.tuple vs:=λvs e=>by subst e;simp[I.M0]at Cy
 refine .inl ⟨[r],?_,rfl,by simp,λi o h=>by simp at h⟩;have:rK C s (.tmp t)=some r:=by
  simp only[rK,ag,ah,if_true];try (cases r<;>first|rfl|exact(aN _ rfl).elim)
 simp only[List.map_cons,List.map_nil,this]
end
section
variable {C:cl} {l:List (Nat×I)} {Q:Exit->ar->Prop}
theorem bk.outs {f:FuncId} {as:List I} {r:I} {ot l0:List I} (h:bk C f as r ot) (he:gu ot=gu l0):bk C f as r l0:=by
 intro w F X S vs hl aS;refine pW.mono (h w F X S vs hl aS) ?_;rintro v aL ⟨b3,aW,bt⟩;refine⟨b3,aW,?_⟩;have:gu (r::l0)=gu (r::ot):=by
  funext t;cases t with
  |zero=>rfl
  |succ t=>exact(congrFun he t).symm
 rw[this];exact bt
def nh:List I->List I->List cZ
 |a::as,d::ds=>⟨a,false,d,.hole⟩::nh as ds
 |_,_=>[]
theorem Wu {s:ar}:∀(as ds:List I),views s as=some ds->(nh as ds).map (·.a)=as/\(nh as ds).map (·.d)=ds/\(∀p∈nh as ds,p.ok s/\p.g=false/\p.o= .hole/\p.a∈as)/\ja (nh as ds)=true/\
  gu ((nh as ds).map (·.o))=gu []/\(∀rL,ft rL (nh as ds)=rL)/\(∀rL,iy rL (nh as ds)=rL):=by
 intro as;induction as with
 |nil=>
  intro ds h;simp only[views,Option.some.injEq]at h;subst h;exact⟨rfl,rfl,(λp au=>by cases au),rfl,rfl,λ_=>rfl,λ_=>rfl⟩
 |cons a as ih=>
  intro ds h;simp only[views]at h;split at h
  .rename_i d Wv ag ah;simp only[Option.some.injEq]at h;subst h;obtain⟨aX,a6,aQ,cC,cF,cc,b4⟩:=ih Wv ah;refine⟨by simp only[nh,List.map_cons,aX],by simp only[nh,List.map_cons,a6],?_,?_,?_,?_,?_⟩
   .intro p au;simp only[nh,List.mem_cons]at au;rcases au with rfl|au
    .exact⟨by simp only[cZ.ok];exact ag,rfl,rfl,by simp⟩
    .obtain⟨g1,g2,g3,g4⟩:=aQ p au;exact⟨g1,g2,g3,by simp[g4]⟩
   .simp only[nh,ja,cC,Bool.and_true,List.all_eq_true];intro p au;simp[(aQ p au).2.1]
   .funext t;cases t with
    |zero=>rfl
    |succ t=>exact(congrFun cF t).trans (by simp[gu])
   .intro rL;exact cc rL
   .intro rL;exact b4 rL
  .cases h
end
structure fS where
 bZ:List Nat
 H:List Nat
 T:List Nat
 c:Bool
mutual
def I.clean:I->Bool
 | .hole=>false
 | .fn _ cap=>I.wQ cap
 |_=>true
def I.wQ:List I->Bool
 |[]=>true
 |d::ds=>d.clean&&I.wQ ds
end
mutual
theorem M1 {x:Nat}:∀a:I,(ct x a).clean=true->ct x a=a
 | .h y q,h=>by
   simp only[ct]at h⊢;split
   .rename_i e;rw[if_pos e]at h;split
    .rfl
    .rename_i gP;rw[if_neg gP]at h;simp[I.clean]at h
   .rfl
 | .au y q,h=>by
   simp only[ct]at h⊢;split
   .rename_i e;rw[if_pos e]at h;simp[I.clean]at h
   .rfl
 | .ad y q,h=>rfl
 | .fn f cap,h=>by simp only[ct,I.clean]at h⊢;rw[M3 cap h]
 | .hole,_=>rfl
 | .bool _,_=>rfl
 | .fs,_=>rfl
 | .int _ _,_=>rfl
 | .str _,_=>rfl
 | .dS,_=>rfl
 | .bz,_=>rfl
 | .slice _,_=>rfl
 | .ao _ _,_=>rfl
 | .ref _,_=>rfl
 | .bh _,_=>rfl
 | .agg _,_=>rfl
 | .tuple _,_=>rfl
 | .eD _,_=>rfl
theorem M3 {x:Nat}:∀ds:List I,I.wQ (jv x ds)=true->jv x ds=ds
 |[],_=>rfl
 |d::ds,h=>by
  simp only[jv,I.wQ,Bool.and_eq_true]at h⊢;rw[M1 d h.1,M3 ds h.2]
end
mutual
theorem M4 {x:Nat}:∀a:I,(da x a).clean=true->da x a=a
 | .h y q,h=>by
   simp only[da]at h⊢;split
   .rename_i e;rw[if_pos e]at h;simp[I.clean]at h
   .rfl
 | .au y q,h=>by
   simp only[da]at h⊢;split
   .rename_i e;rw[if_pos e]at h;simp[I.clean]at h
   .rfl
 | .ad y q,h=>by
   simp only[da]at h⊢;split
   .rename_i e;rw[if_pos e]at h;simp[I.clean]at h
   .rfl
 | .fn f cap,h=>by simp only[da,I.clean]at h⊢;rw[M5 cap h]
 | .hole,_=>rfl
 | .bool _,_=>rfl
 | .fs,_=>rfl
 | .int _ _,_=>rfl
 | .str _,_=>rfl
 | .dS,_=>rfl
 | .bz,_=>rfl
 | .slice _,_=>rfl
 | .ao _ _,_=>rfl
 | .ref _,_=>rfl
 | .bh _,_=>rfl
 | .agg _,_=>rfl
 | .tuple _,_=>rfl
 | .eD _,_=>rfl
theorem M5 {x:Nat}:∀ds:List I,I.wQ (j0 x ds)=true->j0 x ds=ds
 |[],_=>rfl
 |d::ds,h=>by
  simp only[j0,I.wQ,Bool.and_eq_true]at h⊢;rw[M4 d h.1,M5 ds h.2]
end
theorem Ww {k:qJ} {x:Nat} {a:I} (h:(k.app x a).clean=true):k.app x a=a:=by
 cases k with
 |no=>rfl
 |ct=>exact M1 a h
 |da=>exact M4 a h
theorem Wx:∀(ms:List hJ) (u:Nat) (a:I),(∀m∈ms,m.x≠u)->(kK ms u a).clean=true->kK ms u a=a:=by
 intro ms;induction ms with
 |nil=>intros;rfl
 |cons m ms ih=>
  intro u a aw aq;simp only[kK]at aq⊢;have e:=ih u _ (λiQ uu=>aw iQ (by simp[uu])) aq;have hm:m.at u a=m.k.app m.x a:=by
   simp only[hJ.at];rw[if_neg (λe=>aw m (by simp) e.symm)]
  rw[e,hm];rw[e,hm]at aq;exact Ww aq
theorem Wy:∀(ms:List hJ) (u:Nat) (a:I),(∀m∈ms,m.x≠u/\m.x∉a.ae)->kK ms u a=a:=by
 intro ms;induction ms with
 |nil=>intros;rfl
 |cons m ms ih=>
  intro u a aw;simp only[kK];have hm:m.at u a=a:=by
   simp only[hJ.at];rw[if_neg (λe=>(aw m (by simp)).1 e.symm)];exact y9 (.inr (aw m (by simp)).2)
  rw[hm];exact ih u a λiQ uu=>aw iQ (by simp[uu])
theorem Wz (m:hJ):∀(ms:List hJ) (u:Nat) (a:I),(∀iQ∈ms,iQ.x≠m.x/\iQ.x∉m.d.ae/\m.x∉iQ.d.ae)->kK ms u (m.at u a)=m.at u (kK ms u a):=by
 intro ms;induction ms with
 |nil=>intros;rfl
 |cons n ms ih=>
  intro u a aw;simp only[kK];have a7:=aw n (by simp);have aq:n.at u (m.at u a)=m.at u (n.at u a):=by
   simp only[hJ.at];by_cases aX:u=n.x
   .subst aX;rw[if_pos rfl,if_neg a7.1,if_pos rfl];exact(y9 (.inr a7.2.2)).symm
   .rw[if_neg aX];by_cases a6:u=m.x
    .subst a6;rw[if_pos rfl,if_pos rfl];exact y9 (.inr a7.2.1)
    .rw[if_neg a6,if_neg aX,if_neg a6];exact U1 _ _ _ _ _
  rw[aq];exact ih u _ λiQ uu=>aw iQ (by simp[uu])
theorem WA:∀(ms lZ:List hJ) (s:ar),(∀m∈ms,∀n∈lZ,n.x≠m.x/\n.x∉m.d.ae/\m.x∉n.d.ae)->ea lZ (ea ms s)=ea ms (ea lZ s):=by
 intro ms;induction ms with
 |nil=>intros;rfl
 |cons m ms ih=>
  intro lZ s h;have e:∀s,ea (m::ms) s=ea ms (ea [m] s):=λs=>mH [m] ms s;rw[e,e,ih lZ _ (λiQ uu=>h iQ (by simp[uu]))];congr 1;funext u;simp only[ea,kK];exact Wz m lZ u _ (h m (by simp))
def Ii (C:cl) (s:ar) (f:aI) (args:List aI) (K:List Nat->I->ar->Prop):Prop:=
 ∃(g:FuncId) (caps:List I) (ps:List cZ) (r:I),aP s f= .fn g caps/\I.ef caps=true/\ps.map (·.a)=args.map (aP s)++caps/\(∀p∈ps,p.ok s)/\ja ps=true/\
   bk C g (ps.map (·.d)) r (ps.map (·.o))/\r.res=true/\(kL ps=true->r.dd=true/\∀p∈ps,p.o.dd=true)/\K (I.e1 ((ps.filter (·.g)).map (·.a))) r (iy (ft s ps) ps)
def o9 (C:cl) (s:ar) (b0:gr) (K:List Nat->I->ar->Prop):Prop:=
 match b0 with
 | .call f args=>∃(g:FuncId) (caps:List I) (ps:List cZ) (r:I),aP s f= .fn g caps/\I.ef caps=true/\ps.map (·.a)=args.map (aP s)++caps/\(∀p∈ps,p.ok s)/\ja ps=true/\
   bk C g (ps.map (·.d)) r (ps.map (·.o))/\r.res=true/\(kL ps=true->r.dd=true/\∀p∈ps,p.o.dd=true)/\K (I.e1 ((ps.filter (·.g)).map (·.a))) r (iy (ft s ps) ps)
 | .shr b0=>∃av s1,bT C s b0=some (av,s1)/\av.tree=true/\(∀vs,av≠.tuple vs)/\K (dR s b0) av.share s1
 | .nL f args u x=>s u= .h x []/\(s x).own=true/\Ii C s f args λdb av s1=>s1 u= .hole/\(s1 x).own=true/\K (u::db) av (dD s1 u (.h x []))
 | .lb f args us=>mu s (j4 s us)=true/\Ii C s f args λdb av s1=>mu s1 (j4 s us)=true/\K (us++db) av (nP s1 (j4 s us))
 |b0=>∃av s1,bT C s b0=some (av,s1)/\K (dR s b0) av s1
def jT (s:ar) (bZ:List Nat) (dst:Option Nat) (db:List Nat) (av:I):fS:=
 ⟨bZ,bZ.flatMap (λu=>(s u).ae)++av.ae,dst.toList++db,bZ.all λu=>(s u).clean⟩
def ow (C:cl) (s:ar) (o:cb) (K:fS->ar->Prop):Prop:=
 match o.guard with
 |none=>o9 C s o.b0 λdb av s1=>K (jT s (use s o.b0) o.dst db av) (fin s1 o.dst av)
 |some (t,b)=>match s t with
  | .bool gp=>if gp=b then o9 C s o.b0 (λdb av s1=>K (jT s (t::use s o.b0) o.dst db av) (fin s1 o.dst av))else K (jT s [t] o.dst [] (.tuple [])) (fin s o.dst (.tuple []))
  | .tuple []=>K (jT s [t] o.dst [] (.tuple [])) (fin s o.dst (.tuple []))
  |_=>False
def qQ:Option (List fS)->fS->Option (List fS)
 |none,_=>none
 |some l,f=>some (f::l)
def cP (C:cl) (s:ar):List cb->Option (List fS)->(Option (List fS)->ar->Prop)->Prop
 |[],acc,K=>K acc s
 |o::os,acc,K=>ow C s o λf s1=>cP C s1 os (qQ acc f) K
section
variable {C:cl}
theorem M6 {s:ar} {b0:gr} {K:List Nat->I->ar->Prop} {dX:I->ar->Prop} (ay:∀db av s,K db av s->dX av s) (h:o9 C s b0 K):o6 C s b0 dX:=by
 cases b0 with
 |call f args=>
  obtain⟨g,caps,ps,r,ag,gR,ah,aN,bg,bR,cW,cE,fJ⟩:=h;exact⟨g,caps,ps,r,ag,gR,ah,aN,bg,bR,cW,cE,ay _ _ _ fJ⟩
 |nL f args u x=>
  obtain⟨b7,cw,g,caps,ps,r,ag,gR,ah,aN,bg,bR,cW,cE,fJ,hT,iB⟩:=h;exact⟨b7,cw,g,caps,ps,r,ag,gR,ah,aN,bg,bR,cW,cE,fJ,hT,ay _ _ _ iB⟩
 |lb f args us=>
  obtain⟨cw,g,caps,ps,r,ag,gR,ah,aN,bg,bR,cW,cE,fJ,hT⟩:=h;exact⟨cw,g,caps,ps,r,ag,gR,ah,aN,bg,bR,cW,cE,fJ,ay _ _ _ hT⟩
 |shr b0=>
  obtain⟨av,s1,ag,ah,aN,bg⟩:=h;exact⟨av,s1,ag,ah,aN,ay _ _ _ bg⟩
 |_=>
  obtain⟨av,s1,ag,ah⟩:=h;exact⟨av,s1,ag,ay _ _ _ ah⟩
theorem WB {s:ar} {o:cb} {K:fS->ar->Prop} {dX:ar->Prop} (ay:∀f s,K f s->dX s) (h:ow C s o K):mI C s o dX:=by
 unfold ow at h;unfold mI;split
 .rename_i hg;rw[hg]at h;exact M6 (λ_ _ _=>ay _ _) h
 .rename_i t b hg;rw[hg]at h;simp only at h;split
  .rename_i gp ae;rw[ae]at h;simp only at h;split
   .rename_i ad;rw[if_pos ad]at h;exact M6 (λ_ _ _=>ay _ _) h
   .rename_i ad;rw[if_neg ad]at h;exact ay _ _ h
  .rename_i ae;rw[ae]at h;exact ay _ _ h
  .rename_i ag ah;split at h
   .exact ag _ (by assumption)
   .exact ah (by assumption)
   .exact h
theorem uv {K:ar->Prop}:∀{ros:List cb} {s:ar} {acc:Option (List fS)} {dX:Option (List fS)->ar->Prop},(∀a s,dX a s->K s)->cP C s ros acc dX->mv C s ros K:=by
 intro ros;induction ros with
 |nil=>intro s acc dX ay h;exact ay _ _ h
 |cons o ros ih=>intro s acc dX ay h;exact WB (λf s h=>ih ay h) h
theorem M7 {q:List Nat} {a d:I} (h:I.sub q a=some d) (cU:q≠[]\/d.ae=[]):a.ae=[]:=by
 cases q with
 |nil=>
  simp only[I.sub,Option.some.injEq]at h;subst h;exact cU.resolve_left (λe=>e rfl)
 |cons k q=>cases a<;>first|rfl|(simp[I.sub]at h)
def Cz (s:ar) (p:cZ) (e:I->Prop):Prop:=p.g=true->∃x q d,p.a= .h x q/\I.sub q (s x)=some d/\e d/\(p.o= .hole\/p.o.hf=true)
theorem M8 {d:I} (h:d.hf=true):d.ae=[]:=Mu (sN h).2.1
theorem M9 {d:I} (h:d.hf=true):d.dz.ae=[]:=by cases d<;>first|rfl|(simp[I.hf]at h)
theorem M_ {p:cZ} {ps:List cZ} (h:ja (p::ps)=true):ja ps=true/\∀c1∈ps,(p.g=true\/c1.g=true)->∀u∈p.a.ae,u∉c1.a.ae:=by
 simp only[ja,Bool.and_eq_true,List.all_eq_true,Bool.or_eq_true,Bool.not_eq_true']at h;refine⟨h.2,λc1 e_ hg u hu=>?_⟩;rcases h.1 c1 e_ with e|e
 .rcases hg with hg|hg<;>simp[hg]at e
 .simpa using e u hu
def rM (ps:List cZ):List Nat:=I.e1 ((ps.filter (·.g)).map (·.a))
theorem wR (p:cZ) (ps:List cZ):(∀u∈rM ps,u∈rM (p::ps))/\(p.g=true->∀u∈p.a.ae,u∈rM (p::ps)):=by
 unfold rM;by_cases hg:p.g=true
 .simp only[List.filter_cons,hg,if_true,List.map_cons,I.e1,List.mem_append];exact⟨λu h=>.inr h,λ_ u h=>.inl h⟩
 .simp only[List.filter_cons,hg];exact⟨λu h=>h,λh=>by simp at h⟩
theorem WC {p:cZ} {ps:List cZ} (h:p∈ps):∀u∈p.a.ae,u∈I.e1 (ps.map (·.a)):=by
 induction ps with
 |nil=>cases h
 |cons c1 ps ih=>
  intro u hu;simp only[List.map_cons,I.e1,List.mem_append];rcases List.mem_cons.1 h with rfl|h
  .exact .inl hu
  .exact .inr (ih h u hu)
theorem WD:∀(ps:List cZ) (s:ar),(∀p∈ps,Cz s p (λd=>d=p.d/\p.d.hf=true))->ja ps=true->
  (∃ms:List hJ,(∀m∈ms,m.x∈rM ps/\m.d.ae=[])/\∀aB,ed (I.e1 (ps.map (·.a))) aB s->ft aB ps=ea ms aB)/\∀p∈ps,Cz (ft s ps) p (λd=>d=p.d.dz/\p.d.hf=true):=by
 intro ps;induction ps with
 |nil=>intro s _ _;exact⟨⟨[],by simp,λaB _=>rfl⟩,λp au=>by cases au⟩
 |cons p ps ih=>
  intro s hg lY;obtain⟨pU,o3⟩:=M_ lY;by_cases ni:p.g=true
  .obtain⟨x,q,d,cf,ae,⟨rfl,aj⟩,cy⟩:=hg p (by simp) ni;have k6:(I.put q p.d.dz (s x)).ae=[]:=wE q _ _ _ ae (.inl (sN aj).1) λ_=>M9 aj;have zw:∀aB:ar,aB x=s x->p.take aB=ea [⟨.ct,x,I.put q p.d.dz (s x)⟩] aB:=by
    intro aB e;simp only[cZ.take,ni,if_true,cf,e,uh]
   have dL:∀c1∈ps,∀cA jw,c1.a= .h cA jw->cA≠x:=by
    intro c1 e_ cA jw e gP;have:=o3 c1 e_ (.inl ni) x (by simp[cf,I.ae]);rw[e,gP]at this;simp[I.ae]at this
   have sO:∀cA,cA≠x->(s cA).ae=[]->ea [⟨.ct,x,I.put q p.d.dz (s x)⟩] s cA=s cA:=by
    intro cA wq ba;simp only[ea,kK,hJ.at];rw[if_neg wq];exact y9 (.inr (by rw[ba];simp))
   obtain⟨⟨ms,m1,m2⟩,m3⟩:=ih (ea [⟨.ct,x,I.put q p.d.dz (s x)⟩] s) (λc1 e_ Ij=>by
    obtain⟨cA,jw,bE,rJ,fu,h7,zx⟩:=hg c1 (by simp[e_]) Ij;refine⟨cA,jw,bE,rJ,?_,h7,zx⟩;rw[sO cA (dL c1 e_ cA jw rJ) (M7 fu (.inr (by rw[h7.1];exact M8 h7.2)))];exact fu) pU
   refine⟨⟨[⟨.ct,x,I.put q p.d.dz (s x)⟩]++ms,?_,?_⟩,?_⟩
   .intro m hm;rcases List.mem_append.1 hm with hm|hm
    .simp only[List.mem_singleton]at hm;subst hm;exact⟨(wR p ps).2 ni x (by simp[cf,I.ae]),k6⟩
    .exact⟨(wR p ps).1 _ (m1 m hm).1,(m1 m hm).2⟩
   .intro aB fu;simp only[List.map_cons,I.e1]at fu;have e:aB x=s x:=fu x (by simp[cf,I.ae]);rw[mH];show ft (p.take aB) ps=_;rw[zw aB e];exact m2 _ (ed.ea fu.right _)
   .have aX:ft s (p::ps)=ft (ea [⟨.ct,x,I.put q p.d.dz (s x)⟩] s) ps:=by
     show ft (p.take s) ps=_;rw[zw s rfl]
    rw[aX];intro c1 e_;rcases List.mem_cons.1 e_ with rfl|e_
    .intro _;refine⟨x,q,c1.d.dz,cf,?_,⟨rfl,aj⟩,cy⟩;have aT:ea [⟨.ct,x,I.put q c1.d.dz (s x)⟩] s x=I.put q c1.d.dz (s x):=by
      simp only[ea,kK,hJ.at,if_true]
     rw[HP (by rw[aT];exact k6) (λWE WG aHj=>?_),aT]
     .exact Mr q _ _ _ ae
     .exact o3 WE WG (.inl ni) x (by simp[cf,I.ae])
    .exact m3 c1 e_
  .have zw:∀aB:ar,p.take aB=aB:=by intro aB;simp only[cZ.take,ni];rfl
   obtain⟨⟨ms,m1,m2⟩,m3⟩:=ih s (λc1 e_=>hg c1 (by simp[e_])) pU;refine⟨⟨ms,λm hm=>⟨(wR p ps).1 _ (m1 m hm).1,(m1 m hm).2⟩,?_⟩,?_⟩
   .intro aB fu;simp only[List.map_cons,I.e1]at fu;show ft (p.take aB) ps=_;rw[zw];exact m2 aB fu.right
   .intro c1 e_;have aX:ft s (p::ps)=ft s ps:=by show ft (p.take s) ps=_;rw[zw]
    rw[aX];rcases List.mem_cons.1 e_ with rfl|e_
    .intro h;exact(ni h).elim
    .exact m3 c1 e_
theorem WH:∀(ps:List cZ) (s:ar),(∀p∈ps,Cz s p (λd=>d=p.d.dz/\p.d.hf=true))->ja ps=true->
  (∃ms:List hJ,(∀m∈ms,m.x∈rM ps/\m.d.ae=[])/\∀aB,ed (I.e1 (ps.map (·.a))) aB s->iy aB ps=ea ms aB):=by
 intro ps;induction ps with
 |nil=>intro s _ _;exact⟨[],by simp,λaB _=>rfl⟩
 |cons p ps ih=>
  intro s hg lY;obtain⟨pU,o3⟩:=M_ lY;by_cases ni:p.g=true/\p.o≠.hole
  .obtain⟨ni,WI⟩:=ni;obtain⟨x,q,d,cf,ae,⟨rfl,aj⟩,cy⟩:=hg p (by simp) ni;have cy:p.o.hf=true:=cy.resolve_left WI;have k6:(I.put q p.o (s x)).ae=[]:=by
    cases q with
    |nil=>simp only[I.put];exact M8 cy
    |cons k q=>exact wE _ _ _ _ ae (.inr (by simp)) (by simp)
   have Ik:∀aB:ar,aB x=s x->p.jC aB=ea [⟨.da,x,I.put q p.o (s x)⟩] aB:=by
    intro aB e;simp only[cZ.jC,ni,if_true,cf];rw[e,Ma]
   have dL:∀c1∈ps,∀cA jw,c1.a= .h cA jw->cA≠x:=by
    intro c1 e_ cA jw e gP;have:=o3 c1 e_ (.inl ni) x (by simp[cf,I.ae]);rw[e,gP]at this;simp[I.ae]at this
   obtain⟨ms,m1,m2⟩:=ih (ea [⟨.da,x,I.put q p.o (s x)⟩] s) (λc1 e_ Ij=>by
    obtain⟨cA,jw,bE,rJ,fu,h7,zx⟩:=hg c1 (by simp[e_]) Ij;refine⟨cA,jw,bE,rJ,?_,h7,zx⟩;have ba:=M7 fu (.inr (by rw[h7.1];exact M9 h7.2));have sO:ea [⟨.da,x,I.put q p.o (s x)⟩] s cA=s cA:=by
     simp only[ea,kK,hJ.at];rw[if_neg (dL c1 e_ cA jw rJ)];exact y9 (.inr (by rw[ba];simp))
    rw[sO];exact fu) pU
   refine⟨[⟨.da,x,I.put q p.o (s x)⟩]++ms,?_,?_⟩
   .intro m hm;rcases List.mem_append.1 hm with hm|hm
    .simp only[List.mem_singleton]at hm;subst hm;exact⟨(wR p ps).2 ni x (by simp[cf,I.ae]),k6⟩
    .exact⟨(wR p ps).1 _ (m1 m hm).1,(m1 m hm).2⟩
   .intro aB fu;simp only[List.map_cons,I.e1]at fu;have e:aB x=s x:=fu x (by simp[cf,I.ae]);rw[mH];show iy (p.jC aB) ps=_;rw[Ik aB e];exact m2 _ (ed.ea fu.right _)
  .have Ik:∀aB:ar,p.jC aB=aB:=by
    intro aB;unfold cZ.jC;split
    .rename_i h_;have:p.o= .hole:=by
      by_cases h:p.o= .hole
      .exact h
      .exact(ni ⟨h_,h⟩).elim
     rw[this]
    .rfl
   obtain⟨ms,m1,m2⟩:=ih s (λc1 e_=>hg c1 (by simp[e_])) pU;refine⟨ms,λm hm=>⟨(wR p ps).1 _ (m1 m hm).1,(m1 m hm).2⟩,?_⟩;intro aB fu;simp only[List.map_cons,I.e1]at fu;show iy (p.jC aB) ps=_;rw[Ik];exact m2 aB fu.right
theorem WJ {s aB:ar}:∀(a:I) (d:I),ed a.ae aB s->view s a=some d->view aB a=some d:=by
 intro a d h;have:=HS (s:=s) (aB:=aB) a d;intro aT;cases a with
 |h x q=>simp only[view]at aT⊢;rw[h x (by simp[I.ae])];exact aT
 |au x q=>simp only[view]at aT⊢;rw[h x (by simp[I.ae])];exact aT
 |fn f cap=>
  refine this (λu hu _=>h u hu) aT
 |_=>exact aT
theorem WK {p:cZ} {s aB:ar} (h:ed p.a.ae aB s) (hp:p.ok s):p.ok aB:=by
 unfold cZ.ok at hp⊢;split
 .rename_i hg;rw[if_pos hg]at hp;cases cf:p.a with
  |h x q=>
   rw[cf]at hp;simp only at hp⊢;rw[h x (by simp[cf,I.ae])];exact hp
  |_=>rw[cf]at hp;exact hp.elim
 .rename_i hg;rw[if_neg hg]at hp;exact WJ _ _ h hp
def CA (C:cl) (o:cb) (s:ar) (lI:fS) (ms:List hJ):Prop:=
 (∀aB,ed lI.bZ aB s->∀K:ar->Prop,K (ea ms aB)->mI C aB o K)/\(∀m∈ms,m.x∈lI.T/\∀u∈m.d.ae,u∈lI.H)/\(∀u∈lI.bZ,∀x∈(s u).ae,x∈lI.H)/\(lI.c=true->∀u∈lI.bZ,(s u).clean=true)
theorem Na (dst:Option Nat) (av:I):∃ms:List hJ,(∀m∈ms,m.x∈dst.toList/\m.d=av)/\∀s1:ar,fin s1 dst av=ea ms s1:=by
 cases dst with
 |none=>exact⟨[],by simp,λs=>rfl⟩
 |some t=>
  simp only[fin];by_cases h:av.plain=true
  .exact⟨[⟨.no,t,av⟩],by simp,λs=>by rw[if_pos h,HC]⟩
  .exact⟨[⟨.da,t,av⟩],by simp,λs=>by rw[if_neg h,Ma]⟩
theorem CB {s:ar} {bZ:List Nat} {dst:Option Nat} {db:List Nat} {av:I}:(∀u∈(jT s bZ dst db av).bZ,∀x∈(s u).ae,x∈(jT s bZ dst db av).H)/\((jT s bZ dst db av).c=true->∀u∈(jT s bZ dst db av).bZ,(s u).clean=true):=by
 refine⟨λu hu x aw=>?_,λaq=>?_⟩
 .simp only[jT,List.mem_append,List.mem_flatMap];exact .inl ⟨u,hu,aw⟩
 .simp only[jT,List.all_eq_true]at aq;exact aq
theorem Il {s:ar} {f:aI} {args:List aI} {K:List Nat->I->ar->Prop} (h:Ii C s f args K):
  ∃db av ms,K db av (ea ms s)/\(∀m∈ms,m.x∈db/\m.d.ae=[])/\∀aB,ed (use s (.call f args)) aB s->∀dX:I->ar->Prop,dX av (ea ms aB)->Cn C aB f args dX:=by
 obtain⟨g,caps,ps,r,ag,gR,ah,aN,bg,bR,cW,cE,fJ⟩:=h;have WL:∀p∈ps,Cz s p (λd=>d=p.d/\p.d.hf=true):=by
  intro p au hg;have:=aN p au;simp only[cZ.ok,hg,if_true]at this;cases cf:p.a with
  |h x q=>rw[cf]at this;exact⟨x,q,p.d,rfl,this.1,⟨rfl,this.2.1⟩,this.2.2.imp id λh=>h.1⟩
  |_=>rw[cf]at this;exact this.elim
 obtain⟨⟨pT,R,a2⟩,a3⟩:=WD ps s WL bg;obtain⟨sI,mn,jy⟩:=WH ps (ft s ps) a3 bg;have qF:∀u∈I.e1 (ps.map (·.a)),u∈use s (.call f args):=by
  rw[ah];intro u hu;simp only[use,List.mem_append];have key:∀(hk l2:List I),u∈I.e1 (hk++l2)->u∈I.e1 hk\/u∈I.e1 l2:=by
   intro hk;induction hk with
   |nil=>intro l2 h;exact .inr h
   |cons a hk ih=>
    intro l2 h;simp only[List.cons_append,I.e1,List.mem_append]at h⊢;rcases h with h|h
    .exact .inl (.inl h)
    .exact(ih l2 h).imp .inr id
  rcases key _ _ hu with hu|hu
  .exact .inr (aI.Ck u hu)
  .refine .inl (aI.ui u ?_);rw[ag];exact hu
 have gx:iy (ft s ps) ps=ea (pT++sI) s:=by
  rw[mH,<-a2 s (λ_ _=>rfl),jy _ (λ_ _=>rfl)]
 refine⟨rM ps,r,pT++sI,by rw[<-gx];exact fJ,?_,?_⟩
 .intro m hm;rcases List.mem_append.1 hm with hm|hm
  .exact R m hm
  .exact mn m hm
 .intro aB ae dX ay;have rH:ed (I.e1 (ps.map (·.a))) aB s:=ae.sub qF;have bw:ed (f.use s) aB s:=by simp only[use]at ae;exact ae.left
  have aw:ed (aI.o2 s args) aB s:=by simp only[use]at ae;exact ae.right
  have aX:iy (ft aB ps) ps=ea (pT++sI) aB:=by
   rw[mH,<-a2 aB rH,jy];rw[a2 aB rH,a2 s (λ_ _=>rfl)];exact ed.ea rH _
  exact⟨g,caps,ps,r,by rw[aI.fR bw];exact ag,gR,by rw[aI.HG aw];exact ah,λp au=>WK (rH.sub (WC au)) (aN p au),bg,bR,cW,cE,by rw[aX];exact ay⟩
mutual
theorem Nb {s aB:ar}:∀(d:I),ed d.ae aB s->d.gh aB=d.gh s
 | .h x q,h=>by simp only[I.gh];rw[h x (by simp[I.ae])]
 | .ad x q,h=>by simp only[I.gh];rw[h x (by simp[I.ae])]
 | .fn f cap,h=>by simp only[I.gh];exact Nc cap (by simpa only[I.ae]using h)
 | .au _ _,_=>by simp only[I.gh]
 | .hole,_=>by simp only[I.gh]
 | .bool _,_=>by simp only[I.gh]
 | .fs,_=>by simp only[I.gh]
 | .int _ _,_=>by simp only[I.gh]
 | .str _,_=>by simp only[I.gh]
 | .dS,_=>by simp only[I.gh]
 | .bz,_=>by simp only[I.gh]
 | .slice _,_=>by simp only[I.gh]
 | .ao _ _,_=>by simp only[I.gh]
 | .ref _,_=>by simp only[I.gh]
 | .bh _,_=>by simp only[I.gh]
 | .agg _,_=>by simp only[I.gh]
 | .tuple _,_=>by simp only[I.gh]
 | .eD _,_=>by simp only[I.gh]
theorem Nc {s aB:ar}:∀(ds:List I),ed (I.e1 ds) aB s->I.o5 aB ds=I.o5 s ds
 |[],_=>rfl
 |d::ds,h=>by
  simp only[I.e1]at h;simp only[I.o5];rw[Nb d h.left,Nc ds h.right]
end
theorem Im {s aB:ar} {us:List Nat} (h:ed (us.flatMap λu=>u::(s u).ae) aB s):j4 aB us=j4 s us:=by
 unfold j4;refine List.map_congr_left λu hu=>?_;rw[h u (List.mem_flatMap.2 ⟨u,hu,by simp⟩)]
theorem Io {s aB:ar}:∀(L:List (Nat×I)),(∀p∈L,ed p.2.ae aB s)->mu aB L=mu s L
 |[],_=>rfl
 |p::L,h=>by
  simp only[mu];rw[Nb p.2 (h p (by simp)),Io L (λq cU=>h q (by simp[cU]))]
theorem Nd:∀(L:List (Nat×I)) (s:ar),nP s L=ea (L.map λp=>⟨.no,p.1,p.2⟩) s
 |[],s=>rfl
 |p::L,s=>by
  simp only[nP,List.map_cons];rw[Nd L,HC];exact(mH [⟨.no,p.1,p.2⟩] _ s).symm
theorem WM {s:ar} {b0:gr} {K:List Nat->I->ar->Prop} (h:o9 C s b0 K):
  ∃db av ms,K db av (ea ms s)/\(∀m∈ms,m.x∈db/\∀v∈m.d.ae,∃u∈use s b0,v∈(s u).ae)/\∀aB,ed (use s b0) aB s->∀dX:I->ar->Prop,dX av (ea ms aB)->o6 C aB b0 dX:=by
 have plain:(∃av s1,bT C s b0=some (av,s1)/\K (dR s b0) av s1)->(∀aB (dX:I->ar->Prop) av s1,bT C aB b0=some (av,s1)->dX av s1->o6 C aB b0 dX)->
   ∃db av ms,K db av (ea ms s)/\(∀m∈ms,m.x∈db/\∀v∈m.d.ae,∃u∈use s b0,v∈(s u).ae)/\∀aB,ed (use s b0) aB s->∀dX:I->ar->Prop,dX av (ea ms aB)->o6 C aB b0 dX:=by
  rintro⟨av,s1,ag,ah⟩ hw;obtain⟨ms,aX,a6,aQ⟩:=Mp ag;subst aX;exact⟨_,av,ms,ah,λm hm=>⟨(a6 m hm).1,λv aT=>by rw[(a6 m hm).2]at aT;cases aT⟩,λaB ae dX ay=>hw aB dX av _ (aQ aB ae) ay⟩
 cases b0 with
 |call f args=>
  obtain⟨db,av,ms,R,a2,a3⟩:=Il h;exact⟨db,av,ms,R,λm hm=>⟨(a2 m hm).1,λv aT=>by rw[(a2 m hm).2]at aT;cases aT⟩,λaB ae dX ay=>a3 aB ae dX ay⟩
 |nL f args u x=>
  obtain⟨b7,cw,aq⟩:=h;obtain⟨db,av,ms,⟨R,Ip,WN⟩,a2,a3⟩:=Il aq;have e:∀s:ar,dD (ea ms s) u (.h x [])=ea (ms++[⟨.no,u,.h x []⟩]) s:=λs=>by rw[mH,<-HC]
  refine⟨u::db,av,ms++[⟨.no,u,.h x []⟩],by rw[<-e];exact WN,?_,?_⟩
  .intro m hm;rcases List.mem_append.1 hm with hm|hm
   .exact⟨by simp[(a2 m hm).1],λv aT=>by rw[(a2 m hm).2]at aT;cases aT⟩
   .simp only[List.mem_singleton]at hm;subst hm;refine⟨by simp,λv aT=>⟨u,by simp[use],?_⟩⟩;rw[b7];exact aT
  .intro aB ae dX ay;have Nf:aB u=s u:=ae u (by simp[use]);have ex:aB x=s x:=ae x (by simp[use]);refine⟨by rw[Nf];exact b7,by rw[ex];exact cw,a3 aB (λy hy=>ae y (by simp only[use,List.mem_cons]at hy⊢;exact .inr (.inr hy))) _ ⟨?_,?_,?_⟩⟩
   .have:=R;simp only[ea]at this⊢;rw[Nf];exact this
   .have:=Ip;simp only[ea]at this⊢;rw[ex];exact this
   .rw[e];exact ay
 |lb f args us=>
  obtain⟨cw,aq⟩:=h;obtain⟨db,av,ms,⟨R,Ip⟩,a2,a3⟩:=Il aq;have e:∀aB:ar,nP (ea ms aB) (j4 s us)=ea (ms++(j4 s us).map λp=>⟨.no,p.1,p.2⟩) aB:=λaB=>by rw[mH,Nd]
  have gF:∀{aB:ar},ed (us.flatMap λu=>u::(s u).ae) aB s->∀p∈j4 s us,ed p.2.ae aB s:=λ{aB} ae p au v aT=>by
   obtain⟨u,hu,rfl⟩:=List.mem_map.1 au;exact ae v (List.mem_flatMap.2 ⟨u,hu,by simp[aT]⟩)
  refine⟨us++db,av,ms++(j4 s us).map λp=>⟨.no,p.1,p.2⟩,by rw[<-e];exact Ip,?_,?_⟩
  .intro m hm;rcases List.mem_append.1 hm with hm|hm
   .exact⟨by simp[(a2 m hm).1],λv aT=>by rw[(a2 m hm).2]at aT;cases aT⟩
   .obtain⟨p,au,rfl⟩:=List.mem_map.1 hm;obtain⟨u,hu,rfl⟩:=List.mem_map.1 au;exact⟨List.mem_append_left _ hu,λv aT=>⟨u,by simp only[use,List.mem_append,List.mem_flatMap];exact .inl ⟨u,hu,by simp⟩,aT⟩⟩
  .intro aB ae dX ay;simp only[use]at ae;refine⟨by rw[Im ae.left,Io _ (gF ae.left)];exact cw,a3 aB ae.right _ ⟨?_,?_⟩⟩
   .rw[Im ae.left,Io _ (λp au=>(gF ae.left p au).ea ms)];exact R
   .rw[Im ae.left,e];exact ay
 |shr b0=>
  obtain⟨av,s1,ag,ah,aN,bg⟩:=h;obtain⟨ms,aX,a6,aQ⟩:=Mp ag;subst aX;exact⟨_,av.share,ms,bg,λm hm=>⟨(a6 m hm).1,λv aT=>by rw[(a6 m hm).2]at aT;cases aT⟩,λaB ae dX ay=>⟨av,_,aQ aB ae,ah,aN,ay⟩⟩
 |_=>exact plain h (λaB dX av s1 ag ah=>⟨av,s1,ag,ah⟩)
theorem WO {s:ar} {o:cb} {K:fS->ar->Prop} (h:ow C s o K):∃lI ms,K lI (ea ms s)/\CA C o s lI ms:=by
 have op:∀(bZ:List Nat),(∀u∈use s o.b0,u∈bZ)->(∀aB,ed bZ aB s->∀dX:ar->Prop,o6 C aB o.b0 (λav s1=>dX (fin s1 o.dst av))->mI C aB o dX)->
   o9 C s o.b0 (λdb av s1=>K (jT s bZ o.dst db av) (fin s1 o.dst av))->∃lI ms,K lI (ea ms s)/\CA C o s lI ms:=by
  intro bZ qF mY hw;obtain⟨db,av,ms,ag,ah,aN⟩:=WM hw;obtain⟨lZ,o_,bX⟩:=Na o.dst av;refine⟨jT s bZ o.dst db av,ms++lZ,?_,?_,?_,CB.1,CB.2⟩
  .rw[mH,<-bX];exact ag
  .intro aB ae dX ay;refine mY aB ae dX (aN aB (ae.sub qF) _ ?_);rw[bX,<-mH];exact ay
  .intro m hm;simp only[jT,List.mem_append];rcases List.mem_append.1 hm with hm|hm
   .refine⟨.inr (ah m hm).1,λv aT=>.inl ?_⟩;obtain⟨u,hu,mi⟩:=(ah m hm).2 v aT;exact List.mem_flatMap.2 ⟨u,qF u hu,mi⟩
   .exact⟨.inl (o_ m hm).1,λu hu=>.inr (by rw[(o_ m hm).2]at hu;exact hu)⟩
 have skip:∀t,(∀aB,ed [t] aB s->∀dX:ar->Prop,dX (fin aB o.dst (.tuple []))->mI C aB o dX)->K (jT s [t] o.dst [] (.tuple [])) (fin s o.dst (.tuple []))->∃lI ms,K lI (ea ms s)/\CA C o s lI ms:=by
  intro t mY ay;obtain⟨lZ,o_,bX⟩:=Na o.dst (.tuple []);refine⟨_,lZ,by rw[<-bX];exact ay,?_,?_,CB.1,CB.2⟩
  .intro aB ae dX lX;exact mY aB ae dX (by rw[bX];exact lX)
  .intro m hm;simp only[jT,List.mem_append];exact⟨.inl (o_ m hm).1,λu hu=>by rw[(o_ m hm).2]at hu;simp[I.ae]at hu⟩
 unfold ow at h;split at h
 .rename_i hg;exact op _ (λ_ h=>h) (λaB _ dX hw=>by unfold mI;rw[hg];exact hw) h
 .rename_i t b hg;split at h
  .rename_i gp ad;split at h
   .rename_i e;refine op (t::use s o.b0) (λu hu=>by simp[hu]) (λaB ae dX hw=>?_) h;have:aB t=s t:=ae t (by simp);unfold mI;rw[hg];simp only[this,ad,if_pos e];exact hw
   .rename_i e;refine skip t (λaB ae dX ay=>?_) h;have:aB t=s t:=ae t (by simp);unfold mI;rw[hg];simp only[this,ad,if_neg e];exact ay
  .rename_i ad;refine skip t (λaB ae dX ay=>?_) h;have:aB t=s t:=ae t (by simp);unfold mI;rw[hg];simp only[this,ad];exact ay
  .exact h.elim
def sT (C:cl) (ros:List cb):ar->List (Nat×fS×List hJ)->Prop
 |_,[]=>True
 |s,e::r=>(∃o,ros[e.1]? =some o/\CA C o s e.2.1 e.2.2)/\sT C ros (ea e.2.2 s) r
def p2 (s:ar) (r:List (Nat×fS×List hJ)):ar:=r.foldl (λs e=>ea e.2.2 s) s
def oW (a b:List Nat):Bool:=a.all λx=> !b.contains x
theorem wS {a b:List Nat} (h:oW a b=true):∀x∈a,x∉b:=by
 intro x aw;simp only[oW,List.all_eq_true]at h;simpa using h x aw
def uw (a b:fS):Bool:=oW b.T a.bZ&&oW b.T a.H&&oW b.T a.T&&oW a.T b.bZ&&oW a.T b.H&&b.c
theorem WQ {ros:List cb} {s:ar} {a b:Nat×fS×List hJ} {r:List (Nat×fS×List hJ)} (h:sT C ros s (a::b::r)) (an:uw a.2.1 b.2.1=true):
  sT C ros s (b::a::r)/\p2 s (b::a::r)=p2 s (a::b::r):=by
 obtain⟨⟨WR,cf,R,a2,a3,a4⟩,⟨eD,ad,mn,jy,jA,bD⟩,aS⟩:=h;simp only[uw,Bool.and_eq_true]at an;obtain⟨⟨⟨⟨⟨sw,i2⟩,i3⟩,i4⟩,i5⟩,GD⟩:=an;have Iq:∀u∈b.2.1.bZ,ea a.2.2 s u=s u:=by
  intro u hu;refine Wx _ _ _ (λm hm e=>?_) (bD GD u hu);exact wS i4 m.x (a2 m hm).1 (e▸hu)
 have Ir:∀u∈a.2.1.bZ,ea b.2.2 s u=s u:=by
  intro u hu;refine Wy _ _ _ λm hm=>⟨λe=>?_,λaw=>?_⟩
  .exact wS sw m.x (jy m hm).1 (e▸hu)
  .exact wS i2 m.x (jy m hm).1 (a3 u hu _ aw)
 have Ng:ea b.2.2 (ea a.2.2 s)=ea a.2.2 (ea b.2.2 s):=by
  refine WA _ _ _ λm hm n a7=>⟨λe=>?_,λh=>?_,λh=>?_⟩
  .exact wS i3 n.x (jy n a7).1 (e▸(a2 m hm).1)
  .exact wS i2 n.x (jy n a7).1 ((a2 m hm).2 _ h)
  .exact wS i5 m.x (a2 m hm).1 ((jy n a7).2 _ h)
 refine⟨⟨⟨eD,ad,?_,jy,?_,?_⟩,⟨WR,cf,?_,a2,?_,?_⟩,?_⟩,?_⟩
 .intro aB ae K ay;exact mn aB (λu hu=>(ae u hu).trans (Iq u hu).symm) K ay
 .intro u hu x aw;exact jA u hu x (by rw[Iq u hu];exact aw)
 .intro aq u hu;have:=bD aq u hu
  rwa [Iq u hu]at this
 .intro aB ae K ay;exact R aB (λu hu=>(ae u hu).trans (Ir u hu)) K ay
 .intro u hu x aw;rw[Ir u hu]at aw;exact a3 u hu x aw
 .intro aq u hu;rw[Ir u hu];exact a4 aq u hu
 .rw[<-Ng];exact aS
 .simp only[p2,List.foldl_cons];rw[Ng]
theorem WS {ros:List cb} {e:Nat×fS×List hJ} {post:List (Nat×fS×List hJ)}:∀(pre:List (Nat×fS×List hJ)) (s:ar),sT C ros s (pre++e::post)->(∀a∈pre,uw a.2.1 e.2.1=true)->
  sT C ros s (e::(pre++post))/\p2 s (e::(pre++post))=p2 s (pre++e::post):=by
 intro pre;induction pre with
 |nil=>intro s h _;exact⟨h,rfl⟩
 |cons a pre ih=>
  intro s h an;obtain⟨ag,ah⟩:=h;obtain⟨g1,g2⟩:=ih _ ah λb ad=>an b (by simp[ad]);have aq:sT C ros s (a::e::(pre++post)):=⟨ag,g1⟩
  obtain⟨b7,cw⟩:=WQ aq (an a (by simp));refine⟨b7,cw.trans ?_⟩;simp only[p2,List.foldl_cons,List.cons_append]at g2⊢;exact g2
end
def zy:List (List Nat)->List (List Nat)->List (List Nat)
 |done,[]=>done
 |done,a::r=>zy (done++[a++a.flatMap λe=>(done[e]?).getD []]) r
def wT (h5:List (List Nat)):List (List Nat):=zy [] h5
theorem WT {h5:List (List Nat)} {l:List Nat} (hl:∀u i v,l=u++i::v->∀e∈(h5[i]?).getD [],e∈u):∀(rest pre done:List (List Nat)),h5=pre++rest->done.length=pre.length->
  (∀u i v,l=u++i::v->∀e∈(done[i]?).getD [],e∈u)->∀u i v,l=u++i::v->∀e∈((zy done rest)[i]?).getD [],e∈u:=by
 intro rest;induction rest with
 |nil=>intro pre done _ _ h;exact h
 |cons a rest ih=>
  intro pre done Nh hlen h;simp only[zy];refine ih (pre++[a]) _ (by simp[Nh]) (by simp[hlen]) ?_;intro u i v hu e he;by_cases an:i<done.length
  .rw[List.getElem?_append_left an]at he;exact h u i v hu e he
  .rw[List.getElem?_append_right (by omega)]at he;by_cases L9:i-done.length=0
   .rw[L9]at he;simp only[List.getElem?_cons_zero,Option.getD_some,List.mem_append,List.mem_flatMap]at he;have CC:(h5[i]?).getD []=a:=by
     have:i=pre.length:=by omega
     rw[Nh,this,List.getElem?_append_right (Nat.le_refl _)];simp
    rcases he with he|⟨gP,ov,he⟩
    .exact hl u i v hu e (by rw[CC];exact he)
    .have za:=hl u i v hu gP (by rw[CC];exact ov);obtain⟨sJ,Ci,rfl⟩:=List.append_of_mem za;have:=h sJ gP (Ci++i::v) (by rw[hu];simp) e he;simp[this]
   .rw[List.getElem?_eq_none (by simp;omega)]at he;simp at he
theorem WU {h5:List (List Nat)} {l:List Nat} (hl:∀u i v,l=u++i::v->∀e∈(h5[i]?).getD [],e∈u):∀u i v,l=u++i::v->∀e∈((wT h5)[i]?).getD [],e∈u:=
 WT hl h5 [] [] rfl rfl λu i v _ e he=>by simp at he
def nU (nV:List (List Nat)):Nat->List (Nat×fS)->List fS->Bool
 |_,_,[]=>true
 |j,es,f::az=>(es.all λe=>((nV[j]?).getD []).contains e.1||uw e.2 f)&&nU nV (j+1) ((j,f)::es) az
def Is (nV:List (List Nat)) (a b:Nat×fS×List hJ):Prop:=a.1∈(nV[b.1]?).getD []\/uw a.2.1 b.2.1=true
theorem WV {nV:List (List Nat)}:∀(ib:List (Nat×fS×List hJ)) (j:Nat) (es:List (Nat×fS)),ib.map (·.1)=(List.range ib.length).map (·+j)->nU nV j es (ib.map (·.2.1))=true->
  ib.Pairwise (Is nV)/\∀e∈es,∀b∈ib,e.1∈(nV[b.1]?).getD []\/uw e.2 b.2.1=true:=by
 intro ib;induction ib with
 |nil=>intro j es _ _;exact⟨.nil,λe _ b ad=>by cases ad⟩
 |cons a ib ih=>
  intro j es ux hp;rw[List.length_cons,List.range_succ_eq_map,List.map_cons,List.map_cons,List.map_map]at ux;simp only[List.cons.injEq,Nat.zero_add]at ux;obtain⟨cH,ux⟩:=ux;simp only[List.map_cons,nU,Bool.and_eq_true,List.all_eq_true,Bool.or_eq_true]at hp;obtain⟨ag,ah⟩:=hp;obtain⟨g1,g2⟩:=ih (j+1) _ (by rw[ux];congr 1;funext x;simp;omega) ah;refine⟨.cons (λb ad=>?_) g1,λe he b ad=>?_⟩
  .have:=g2 (j,a.2.1) (by simp) b ad;simp only[Is,cH];exact this
  .rcases List.mem_cons.1 ad with rfl|ad
   .rw[cH];exact(ag e he).imp (λh=>by simpa using h) id
   .exact g2 e (by simp[he]) b ad
section
variable {C:cl}
theorem WW {K:Option (List fS)->ar->Prop}:∀(os pre:List cb) (s:ar) (acc:List fS),cP C s os (some acc) K->
  ∃ib,sT C (pre++os) s ib/\ib.map (·.1)=(List.range os.length).map (·+pre.length)/\K (some ((ib.map (·.2.1)).reverse++acc)) (p2 s ib):=by
 intro os;induction os with
 |nil=>intro pre s acc h;exact⟨[],trivial,rfl,h⟩
 |cons o os ih=>
  intro pre s acc h;obtain⟨lI,ms,ag,ah⟩:=WO h;obtain⟨ib,g1,g2,g3⟩:=ih (pre++[o]) _ (lI::acc) ag;refine⟨(pre.length,lI,ms)::ib,⟨⟨o,?_,ah⟩,?_⟩,?_,?_⟩
  .rw[List.getElem?_append_right (Nat.le_refl _)];simp
  .simpa using g1
  .rw[List.length_cons,List.range_succ_eq_map,List.map_cons,List.map_cons,List.map_map,g2];simp only[List.cons.injEq,Nat.zero_add,true_and];congr 1;funext x;simp;omega
  .simpa [p2]using g3
theorem WX {ros:List cb} {nV:List (List Nat)} {K:ar->Prop}:∀(l:List Nat) (ib:List (Nat×fS×List hJ)) (s:ar),sT C ros s ib->ib.Pairwise (Is nV)->l.Nodup->(ib.map (·.1)).Nodup->
  (∀i,i∈l↔i∈ib.map (·.1))->(∀u i v,l=u++i::v->∀e∈(nV[i]?).getD [],e∈ib.map (·.1)->e∈u)->K (p2 s ib)->kM C ros s l K:=by
 intro l;induction l with
 |nil=>
  intro ib s _ _ _ _ hm _ ay;cases ib with
  |nil=>exact ay
  |cons e ib=>have:=(hm e.1).2 (by simp);cases this
 |cons i l ih=>
  intro ib s aq au a7 qH hm cy ay;obtain⟨e,he,an⟩:=List.mem_map.1 ((hm i).1 (by simp));obtain⟨pre,post,rfl⟩:=List.append_of_mem he;have WY:∀a∈pre,uw a.2.1 e.2.1=true:=by
   intro a cf;have aS:=(List.pairwise_append.1 au).2.2 a cf e (by simp);rcases aS with aS|aS
   .rw[an]at aS;have:=cy [] i l rfl a.1 aS (by simp only[List.map_append,List.mem_append,List.mem_map];exact .inl ⟨a,cf,rfl⟩);cases this
   .exact aS
  obtain⟨g1,g2⟩:=WS pre s aq WY;obtain⟨⟨o,WZ,CD⟩,g3⟩:=g1;have Ni:i∉(pre++post).map (·.1):=by
   have:(pre.map (·.1)++e.1::post.map (·.1)).Nodup:=by simpa using qH
   have bt:=(List.perm_middle.nodup_iff.1 this)
   rw[List.nodup_cons]at bt;rw[<-an];simpa using bt.1
  simp only[kM];rw[<-an,WZ];refine CD.1 s (λ_ _=>rfl) _ ?_;rw[List.nodup_cons]at a7;refine ih (pre++post) _ g3 ?_ a7.2 ?_ ?_ ?_ ?_
  .exact au.sublist ((List.Sublist.refl pre).append (List.sublist_cons_self e post))
  .have:(pre.map (·.1)++e.1::post.map (·.1)).Nodup:=by simpa using qH
   have bt:=(List.perm_middle.nodup_iff.1 this)
   rw[List.nodup_cons]at bt;simpa using bt.2
  .intro j;constructor
   .intro cH;have ag:=(hm j).1 (by simp[cH]);simp only[List.map_append,List.map_cons,List.mem_append,List.mem_cons]at ag⊢;rcases ag with ag|rfl|ag
    .exact .inl ag
    .exact(a7.1 (an▸cH)).elim
    .exact .inr ag
   .intro cH;have ag:=(hm j).2 (by
     simp only[List.map_append,List.map_cons,List.mem_append,List.mem_cons]at cH⊢;exact cH.imp id .inr)
    rcases List.mem_cons.1 ag with rfl|ag
    .exact(Ni cH).elim
    .exact ag
  .intro u j v hu x aw It;have ag:=cy (i::u) j v (by rw[hu];rfl) x aw (by
    simp only[List.map_append,List.map_cons,List.mem_append,List.mem_cons]at It⊢;exact It.imp id .inr)
   rcases List.mem_cons.1 ag with rfl|ag
   .exact(Ni It).elim
   .exact ag
  .have:p2 s (e::(pre++post))=p2 (ea e.2.2 s) (pre++post):=rfl;rw[<-this,g2];exact ay
theorem W0 {ros:List cb} {h5:List (List Nat)} {s:ar} {K:ar->Prop} (hlen:h5.length=ros.length)
  (h:cP C s ros (some []) (λacc s=>nU (wT h5) 0 [] (acc.getD []).reverse=true/\K s)):∀l,H3 h5 l->kM C ros s l K:=by
 intro l ⟨hk,l2,ze⟩;obtain⟨ib,g1,g2,g3,g4⟩:=WW ros [] s [] h;simp only[List.nil_append,List.append_nil,List.length_nil,Option.getD_some,List.reverse_reverse]at g1 g2 g3;have hl:ib.length=ros.length:=by have:=congrArg List.length g2;simpa using this
 have ux:ib.map (·.1)=(List.range ib.length).map (·+0):=by rw[g2,hl]
 have aS:ib.map (·.1)=List.range ros.length:=by rw[g2];simp
 obtain⟨fY,_⟩:=WV ib 0 [] ux g3;refine WX l ib s g1 fY hk (by rw[aS];exact List.nodup_range) (λi=>?_) (λu i v hu e he _=>WU ze u i v hu e he) g4;rw[aS,l2,hlen,List.mem_range]
end
def ek (C:cl) (dst:Option Nat) (os:List cb) (K:Option (List fS)->ar->Prop):Option (I×ar)->Prop
 |some (av,s1)=>cP C (fin s1 dst av) os none K
 |none=>False
def ev (C:cl) (l:List (Nat×I)) (bZ db:List Nat) (dst:Option Nat) (os:List cb) (a:List fS) (K:Option (List fS)->ar->Prop):Option (I×ar)->Prop
 |some (av,s1)=>cP C (fin s1 dst av) os (some (jT (ab l) bZ dst db av::a)) K
 |none=>False
def cS (C:cl) (l:List (Nat×I)) (dst:Option Nat) (b0:gr) (t:Nat) (b:Bool) (os:List cb) (acc:Option (List fS)) (K:Option (List fS)->ar->Prop):I->Prop
 | .bool gp=>if gp=b then o9 C (ab l) b0 (λdb av s1=>cP C (fin s1 dst av) os (qQ acc (jT (ab l) (t::use (ab l) b0) dst db av)) K)else cP C (fin (ab l) dst (.tuple [])) os (qQ acc (jT (ab l) [t] dst [] (.tuple []))) K
 | .tuple []=>cP C (fin (ab l) dst (.tuple [])) os (qQ acc (jT (ab l) [t] dst [] (.tuple []))) K
 |_=>False
section
variable {C:cl} {l:List (Nat×I)} {os:List cb} {K:Option (List fS)->ar->Prop} {dst:Option Nat} {a:List fS} {acc:Option (List fS)}
theorem CE {s:ar} {b0:gr} {K:List Nat->I->ar->Prop} (a7:b0.ur=false):o9 C s b0 K=(match bT C s b0 with
  |some (av,s1)=>K (dR s b0) av s1
  |none=>False):=by
 apply propext;constructor
 .intro h;cases b0<;>first
   |(simp[gr.ur]at a7;done)
   |(obtain⟨av,s1,ag,ah⟩:=h;rw[ag];exact ah)
 .intro h;split at h
  .rename_i av s1 he;cases b0<;>first
    |(simp[gr.ur]at a7;done)
    |exact⟨av,s1,he,h⟩
  .exact h.elim
theorem Nj:cP C (ab l) [] acc K=K acc (ab l):=rfl
theorem j5 {b0:gr} (a7:b0.ur=false):cP C (ab l) (⟨dst,b0,none⟩::os) none K=ek C dst os K (bT C (ab l) b0):=by
 simp only[cP,ow,qQ];rw[CE a7];cases bT C (ab l) b0 with
 |none=>rfl
 |some p=>rfl
theorem kf {b0:gr} (a7:b0.ur=false):cP C (ab l) (⟨dst,b0,none⟩::os) (some a) K=ev C l (use (ab l) b0) (dR (ab l) b0) dst os a K (bT C (ab l) b0):=by
 simp only[cP,ow,qQ];rw[CE a7];cases bT C (ab l) b0 with
 |none=>rfl
 |some p=>rfl
theorem Nk {b0:gr} {t:Nat} {b:Bool}:cP C (ab l) (⟨dst,b0,some (t,b)⟩::os) acc K=cS C l dst b0 t b os acc K (ab l t):=by
 simp only[cP,ow];generalize ab l t=v;cases v<;>first|rfl|(rename_i vs;cases vs<;>rfl)
theorem gi {b0:gr} {t:Nat} {b:Bool} (a7:b0.ur=false):cS C l dst b0 t b os none K (.bool b)=ek C dst os K (bT C (ab l) b0):=by
 simp only[cS,if_true];rw[CE a7];cases bT C (ab l) b0 with
 |none=>rfl
 |some p=>rfl
theorem gj {b0:gr} {t:Nat} {b:Bool} (a7:b0.ur=false):cS C l dst b0 t b os (some a) K (.bool b)=ev C l (t::use (ab l) b0) (dR (ab l) b0) dst os a K (bT C (ab l) b0):=by
 simp only[cS,if_true];rw[CE a7];cases bT C (ab l) b0 with
 |none=>rfl
 |some p=>rfl
theorem W1 {b0:gr} {t:Nat}:cS C l dst b0 t true os none K (.bool false)=cP C (fin (ab l) dst (.tuple [])) os none K/\cS C l dst b0 t false os none K (.bool true)=cP C (fin (ab l) dst (.tuple [])) os none K/\
  (∀b,cS C l dst b0 t b os none K (.tuple [])=cP C (fin (ab l) dst (.tuple [])) os none K):=⟨rfl,rfl,λ_=>rfl⟩
theorem W2 {b0:gr} {t:Nat}:cS C l dst b0 t true os (some a) K (.bool false)=cP C (fin (ab l) dst (.tuple [])) os (some (jT (ab l) [t] dst [] (.tuple [])::a)) K/\
  cS C l dst b0 t false os (some a) K (.bool true)=cP C (fin (ab l) dst (.tuple [])) os (some (jT (ab l) [t] dst [] (.tuple [])::a)) K/\
  (∀b,cS C l dst b0 t b os (some a) K (.tuple [])=cP C (fin (ab l) dst (.tuple [])) os (some (jT (ab l) [t] dst [] (.tuple [])::a)) K):=⟨rfl,rfl,λ_=>rfl⟩
theorem W3 (av:I) (s1:ar):ek C dst os K (some (av,s1))=cP C (fin s1 dst av) os none K:=rfl
theorem W4 (bZ db:List Nat) (av:I) (s1:ar):ev C l bZ db dst os a K (some (av,s1))=cP C (fin s1 dst av) os (some (jT (ab l) bZ dst db av::a)) K:=rfl
def j6 (s:ar):I->Option (I×ar)
 | .h y q=>db s (.h y q)
 |d=>some (d,s)
def sU (s:ar):I->I->I->Option (I×ar)
 | .bool gp,x,y=>some (if gp then x else y,s)
 |_,_,_=>none
def dn (s:ar):Option I->Option (I×ar)
 |some d=>some (d,s)
 |none=>none
def dp:Option ar->Option (I×ar)
 |some s1=>some (.hole,s1)
 |none=>none
def iV (s:ar):List aI->List I
 |[]=>[]
 |x::xs=>aP s x::iV s xs
def lf (s:ar):List (Nat×aI)->List (Nat×I)
 |[]=>[]
 |(k,x)::xs=>(k,aP s x)::lf s xs
def mw (s:ar):Option aI->Option I
 |none=>none
 |some x=>some (aP s x)
theorem ox (s:ar) (x:Option I):(x.map λd=>(d,s))=dn s x:=by cases x<;>rfl
theorem W5 (x:Option ar):(x.map λs1=>(I.hole,s1))=dp x:=by cases x<;>rfl
theorem wU (s:ar):∀xs:List aI,xs.map (aP s)=iV s xs
 |[]=>rfl
 |x::xs=>by simp only[List.map_cons,iV,wU s xs]
theorem Iu (s:ar):∀xs:List (Nat×aI),(xs.map λp=>(p.1,aP s p.2))=lf s xs
 |[]=>rfl
 |(k,x)::xs=>by simp only[List.map_cons,lf,Iu s xs]
theorem W6 (s:ar) (x:Option aI):x.map (aP s)=mw s x:=by cases x<;>rfl
theorem wV (x:aI):bT C (ab l) (.bS x)=some (aP (ab l) x,ab l):=by
 rfl
theorem wW (x:aI):bT C (ab l) (.gz x)=j6 (ab l) (aP (ab l) x):=by
 simp only[bT];cases aP (ab l) x<;>rfl
theorem wX (c x y:aI):bT C (ab l) (.pick c x y)=sU (ab l) (aP (ab l) c) (aP (ab l) x) (aP (ab l) y):=by
 simp only[bT];cases aP (ab l) c<;>first|rfl|(rename_i b;cases b<;>rfl)
theorem wY (T:TypeId):bT C (ab l) (.hx T)=dn (ab l) (hx C T):=by
 simp only[bT,ox]
theorem wZ (T:TypeId) (x:aI):bT C (ab l) (.dm T x)=dm (ab l) (aP (ab l) x):=by
 rfl
theorem w1 (T:TypeId) (ps:List (Nat×aI)):bT C (ab l) (.fA T ps)=fA C (ab l) T (lf (ab l) ps):=by
 simp only[bT,Iu]
theorem w2 (T:TypeId) (n:Nat) (ps:List (Nat×aI)):bT C (ab l) (.eQ T n ps)=eQ C (ab l) T n (lf (ab l) ps):=by
 simp only[bT,Iu]
theorem w3 (T:TypeId) (x:aI):bT C (ab l) (.cp T x)=dn (ab l) (cp C (ab l) T (aP (ab l) x)):=by
 simp only[bT,ox]
theorem w4 (T:TypeId) (x y:aI):bT C (ab l) (.gH T x y)=dp (gH C (ab l) T (aP (ab l) x) (aP (ab l) y)):=by
 simp only[bT,W5]
theorem w5 (x:aI):bT C (ab l) (.gg x)=dn (ab l) (gg (ab l) (aP (ab l) x)):=by
 simp only[bT,ox]
theorem w6 (op:BinOp) (T:TypeId) (x y:aI):bT C (ab l) (.bV op T x y)=dn (ab l) (bV C (ab l) op T (aP (ab l) x) (aP (ab l) y)):=by
 simp only[bT,ox]
theorem w7 (op:UnOp) (x:aI):bT C (ab l) (.un op x)=dn (ab l) (un op (aP (ab l) x)):=by
 simp only[bT,ox]
theorem w8 (A B:TypeId) (x:aI):bT C (ab l) (.gI A B x)=dn (ab l) (gI C (ab l) A B (aP (ab l) x)):=by
 simp only[bT,ox]
theorem w9 (f:FuncId) (cs:List aI):bT C (ab l) (.i_ f cs)=some (.fn f (iV (ab l) cs),ab l):=by
 simp only[bT,wU]
theorem w_ (T:TypeId) (x y:aI):bT C (ab l) (.eu T x y)=dn (ab l) (eu C T (aP (ab l) x) (aP (ab l) y)):=by
 simp only[bT,ox]
theorem xa (T:TypeId) (x:aI) (dv an:Option aI):bT C (ab l) (.eE T x dv an)=eE C (ab l) T (aP (ab l) x) (mw (ab l) dv) (mw (ab l) an):=by
 simp only[bT,W6]
theorem xb (T:TypeId) (x:aI) (k:Nat):bT C (ab l) (.cY T x k)=dn (ab l) (cY C (ab l) T (aP (ab l) x) k):=by
 simp only[bT,ox]
theorem xc (T:TypeId) (x y:aI):bT C (ab l) (.fp T x y)=dn (ab l) (fp C (ab l) T (aP (ab l) x) (aP (ab l) y)):=by
 simp only[bT,ox]
theorem xd (T:TypeId) (x y:aI):bT C (ab l) (.idx T x y)=dn (ab l) (idx C T (aP (ab l) x) (aP (ab l) y)):=by
 simp only[bT,ox]
theorem xe (x:aI) (k:Nat):bT C (ab l) (.ex x k)=dn (ab l) (ex (ab l) (aP (ab l) x) k):=by
 simp only[bT,ox]
theorem xf (T:TypeId) (x:aI):bT C (ab l) (.len T x)=dn (ab l) (nb C (ab l) T (aP (ab l) x)):=by
 simp only[bT,ox]
theorem xg (T bZ:TypeId) (x y:aI):bT C (ab l) (.app T bZ x y)=nd C (ab l) T bZ (aP (ab l) x) (aP (ab l) y):=by
 rfl
theorem W7:
  (∀(x:aI),cP C (ab l) (⟨dst,.bS x,none⟩::os) none K=ek C dst os K (some (aP (ab l) x,ab l)))/\
  (∀(x:aI),cP C (ab l) (⟨dst,.gz x,none⟩::os) none K=ek C dst os K (j6 (ab l) (aP (ab l) x)))/\
  (∀(c x y:aI),cP C (ab l) (⟨dst,.pick c x y,none⟩::os) none K=ek C dst os K (sU (ab l) (aP (ab l) c) (aP (ab l) x) (aP (ab l) y)))/\
  (∀(T:TypeId),cP C (ab l) (⟨dst,.hx T,none⟩::os) none K=ek C dst os K (dn (ab l) (hx C T)))/\
  (∀(T:TypeId) (x:aI),cP C (ab l) (⟨dst,.dm T x,none⟩::os) none K=ek C dst os K (dm (ab l) (aP (ab l) x)))/\
  (∀(T:TypeId) (ps:List (Nat×aI)),cP C (ab l) (⟨dst,.fA T ps,none⟩::os) none K=ek C dst os K (fA C (ab l) T (lf (ab l) ps)))/\
  (∀(T:TypeId) (n:Nat) (ps:List (Nat×aI)),cP C (ab l) (⟨dst,.eQ T n ps,none⟩::os) none K=ek C dst os K (eQ C (ab l) T n (lf (ab l) ps)))/\
  (∀(T:TypeId) (x:aI),cP C (ab l) (⟨dst,.cp T x,none⟩::os) none K=ek C dst os K (dn (ab l) (cp C (ab l) T (aP (ab l) x))))/\
  (∀(T:TypeId) (x y:aI),cP C (ab l) (⟨dst,.gH T x y,none⟩::os) none K=ek C dst os K (dp (gH C (ab l) T (aP (ab l) x) (aP (ab l) y))))/\
  (∀(x:aI),cP C (ab l) (⟨dst,.gg x,none⟩::os) none K=ek C dst os K (dn (ab l) (gg (ab l) (aP (ab l) x))))/\
  (∀(op:BinOp) (T:TypeId) (x y:aI),cP C (ab l) (⟨dst,.bV op T x y,none⟩::os) none K=ek C dst os K (dn (ab l) (bV C (ab l) op T (aP (ab l) x) (aP (ab l) y))))/\
  (∀(op:UnOp) (x:aI),cP C (ab l) (⟨dst,.un op x,none⟩::os) none K=ek C dst os K (dn (ab l) (un op (aP (ab l) x))))/\
  (∀(A B:TypeId) (x:aI),cP C (ab l) (⟨dst,.gI A B x,none⟩::os) none K=ek C dst os K (dn (ab l) (gI C (ab l) A B (aP (ab l) x))))/\
  (∀(f:FuncId) (cs:List aI),cP C (ab l) (⟨dst,.i_ f cs,none⟩::os) none K=ek C dst os K (some (.fn f (iV (ab l) cs),ab l)))/\
  (∀(T:TypeId) (x y:aI),cP C (ab l) (⟨dst,.eu T x y,none⟩::os) none K=ek C dst os K (dn (ab l) (eu C T (aP (ab l) x) (aP (ab l) y))))/\
  (∀(T:TypeId) (x:aI) (dv an:Option aI),cP C (ab l) (⟨dst,.eE T x dv an,none⟩::os) none K=ek C dst os K (eE C (ab l) T (aP (ab l) x) (mw (ab l) dv) (mw (ab l) an)))/\
  (∀(T:TypeId) (x:aI) (k:Nat),cP C (ab l) (⟨dst,.cY T x k,none⟩::os) none K=ek C dst os K (dn (ab l) (cY C (ab l) T (aP (ab l) x) k)))/\
  (∀(T:TypeId) (x y:aI),cP C (ab l) (⟨dst,.fp T x y,none⟩::os) none K=ek C dst os K (dn (ab l) (fp C (ab l) T (aP (ab l) x) (aP (ab l) y))))/\
  (∀(T:TypeId) (x y:aI),cP C (ab l) (⟨dst,.idx T x y,none⟩::os) none K=ek C dst os K (dn (ab l) (idx C T (aP (ab l) x) (aP (ab l) y))))/\
  (∀(x:aI) (k:Nat),cP C (ab l) (⟨dst,.ex x k,none⟩::os) none K=ek C dst os K (dn (ab l) (ex (ab l) (aP (ab l) x) k)))/\
  (∀(T:TypeId) (x:aI),cP C (ab l) (⟨dst,.len T x,none⟩::os) none K=ek C dst os K (dn (ab l) (nb C (ab l) T (aP (ab l) x))))/\
  (∀(T bZ:TypeId) (x y:aI),cP C (ab l) (⟨dst,.app T bZ x y,none⟩::os) none K=ek C dst os K (nd C (ab l) T bZ (aP (ab l) x) (aP (ab l) y))):=
 ⟨λx=>(j5 rfl).trans (congrArg _ (wV x)),λx=>(j5 rfl).trans (congrArg _ (wW x)),λc x y=>(j5 rfl).trans (congrArg _ (wX c x y)),λT=>(j5 rfl).trans (congrArg _ (wY T)),λT x=>(j5 rfl).trans (congrArg _ (wZ T x)),λT ps=>(j5 rfl).trans (congrArg _ (w1 T ps)),λT n ps=>(j5 rfl).trans (congrArg _ (w2 T n ps)),λT x=>(j5 rfl).trans (congrArg _ (w3 T x)),λT x y=>(j5 rfl).trans (congrArg _ (w4 T x y)),λx=>(j5 rfl).trans (congrArg _ (w5 x)),λop T x y=>(j5 rfl).trans (congrArg _ (w6 op T x y)),λop x=>(j5 rfl).trans (congrArg _ (w7 op x)),λA B x=>(j5 rfl).trans (congrArg _ (w8 A B x)),λf cs=>(j5 rfl).trans (congrArg _ (w9 f cs)),λT x y=>(j5 rfl).trans (congrArg _ (w_ T x y)),λT x dv an=>(j5 rfl).trans (congrArg _ (xa T x dv an)),λT x k=>(j5 rfl).trans (congrArg _ (xb T x k)),λT x y=>(j5 rfl).trans (congrArg _ (xc T x y)),λT x y=>(j5 rfl).trans (congrArg _ (xd T x y)),λx k=>(j5 rfl).trans (congrArg _ (xe x k)),λT x=>(j5 rfl).trans (congrArg _ (xf T x)),λT bZ x y=>(j5 rfl).trans (congrArg _ (xg T bZ x y))⟩
theorem W8:
  (∀(x:aI),cP C (ab l) (⟨dst,.bS x,none⟩::os) (some a) K=ev C l (use (ab l) (.bS x)) (dR (ab l) (.bS x)) dst os a K (some (aP (ab l) x,ab l)))/\
  (∀(x:aI),cP C (ab l) (⟨dst,.gz x,none⟩::os) (some a) K=ev C l (use (ab l) (.gz x)) (dR (ab l) (.gz x)) dst os a K (j6 (ab l) (aP (ab l) x)))/\
  (∀(c x y:aI),cP C (ab l) (⟨dst,.pick c x y,none⟩::os) (some a) K=ev C l (use (ab l) (.pick c x y)) (dR (ab l) (.pick c x y)) dst os a K (sU (ab l) (aP (ab l) c) (aP (ab l) x) (aP (ab l) y)))/\
  (∀(T:TypeId),cP C (ab l) (⟨dst,.hx T,none⟩::os) (some a) K=ev C l (use (ab l) (.hx T)) (dR (ab l) (.hx T)) dst os a K (dn (ab l) (hx C T)))/\
  (∀(T:TypeId) (x:aI),cP C (ab l) (⟨dst,.dm T x,none⟩::os) (some a) K=ev C l (use (ab l) (.dm T x)) (dR (ab l) (.dm T x)) dst os a K (dm (ab l) (aP (ab l) x)))/\
  (∀(T:TypeId) (ps:List (Nat×aI)),cP C (ab l) (⟨dst,.fA T ps,none⟩::os) (some a) K=ev C l (use (ab l) (.fA T ps)) (dR (ab l) (.fA T ps)) dst os a K (fA C (ab l) T (lf (ab l) ps)))/\
  (∀(T:TypeId) (n:Nat) (ps:List (Nat×aI)),cP C (ab l) (⟨dst,.eQ T n ps,none⟩::os) (some a) K=ev C l (use (ab l) (.eQ T n ps)) (dR (ab l) (.eQ T n ps)) dst os a K (eQ C (ab l) T n (lf (ab l) ps)))/\
  (∀(T:TypeId) (x:aI),cP C (ab l) (⟨dst,.cp T x,none⟩::os) (some a) K=ev C l (use (ab l) (.cp T x)) (dR (ab l) (.cp T x)) dst os a K (dn (ab l) (cp C (ab l) T (aP (ab l) x))))/\
  (∀(T:TypeId) (x y:aI),cP C (ab l) (⟨dst,.gH T x y,none⟩::os) (some a) K=ev C l (use (ab l) (.gH T x y)) (dR (ab l) (.gH T x y)) dst os a K (dp (gH C (ab l) T (aP (ab l) x) (aP (ab l) y))))/\
  (∀(x:aI),cP C (ab l) (⟨dst,.gg x,none⟩::os) (some a) K=ev C l (use (ab l) (.gg x)) (dR (ab l) (.gg x)) dst os a K (dn (ab l) (gg (ab l) (aP (ab l) x))))/\
  (∀(op:BinOp) (T:TypeId) (x y:aI),cP C (ab l) (⟨dst,.bV op T x y,none⟩::os) (some a) K=ev C l (use (ab l) (.bV op T x y)) (dR (ab l) (.bV op T x y)) dst os a K (dn (ab l) (bV C (ab l) op T (aP (ab l) x) (aP (ab l) y))))/\
  (∀(op:UnOp) (x:aI),cP C (ab l) (⟨dst,.un op x,none⟩::os) (some a) K=ev C l (use (ab l) (.un op x)) (dR (ab l) (.un op x)) dst os a K (dn (ab l) (un op (aP (ab l) x))))/\
  (∀(A B:TypeId) (x:aI),cP C (ab l) (⟨dst,.gI A B x,none⟩::os) (some a) K=ev C l (use (ab l) (.gI A B x)) (dR (ab l) (.gI A B x)) dst os a K (dn (ab l) (gI C (ab l) A B (aP (ab l) x))))/\
  (∀(f:FuncId) (cs:List aI),cP C (ab l) (⟨dst,.i_ f cs,none⟩::os) (some a) K=ev C l (use (ab l) (.i_ f cs)) (dR (ab l) (.i_ f cs)) dst os a K (some (.fn f (iV (ab l) cs),ab l)))/\
  (∀(T:TypeId) (x y:aI),cP C (ab l) (⟨dst,.eu T x y,none⟩::os) (some a) K=ev C l (use (ab l) (.eu T x y)) (dR (ab l) (.eu T x y)) dst os a K (dn (ab l) (eu C T (aP (ab l) x) (aP (ab l) y))))/\
  (∀(T:TypeId) (x:aI) (dv an:Option aI),cP C (ab l) (⟨dst,.eE T x dv an,none⟩::os) (some a) K=ev C l (use (ab l) (.eE T x dv an)) (dR (ab l) (.eE T x dv an)) dst os a K (eE C (ab l) T (aP (ab l) x) (mw (ab l) dv) (mw (ab l) an)))/\
  (∀(T:TypeId) (x:aI) (k:Nat),cP C (ab l) (⟨dst,.cY T x k,none⟩::os) (some a) K=ev C l (use (ab l) (.cY T x k)) (dR (ab l) (.cY T x k)) dst os a K (dn (ab l) (cY C (ab l) T (aP (ab l) x) k)))/\
  (∀(T:TypeId) (x y:aI),cP C (ab l) (⟨dst,.fp T x y,none⟩::os) (some a) K=ev C l (use (ab l) (.fp T x y)) (dR (ab l) (.fp T x y)) dst os a K (dn (ab l) (fp C (ab l) T (aP (ab l) x) (aP (ab l) y))))/\
  (∀(T:TypeId) (x y:aI),cP C (ab l) (⟨dst,.idx T x y,none⟩::os) (some a) K=ev C l (use (ab l) (.idx T x y)) (dR (ab l) (.idx T x y)) dst os a K (dn (ab l) (idx C T (aP (ab l) x) (aP (ab l) y))))/\
  (∀(x:aI) (k:Nat),cP C (ab l) (⟨dst,.ex x k,none⟩::os) (some a) K=ev C l (use (ab l) (.ex x k)) (dR (ab l) (.ex x k)) dst os a K (dn (ab l) (ex (ab l) (aP (ab l) x) k)))/\
  (∀(T:TypeId) (x:aI),cP C (ab l) (⟨dst,.len T x,none⟩::os) (some a) K=ev C l (use (ab l) (.len T x)) (dR (ab l) (.len T x)) dst os a K (dn (ab l) (nb C (ab l) T (aP (ab l) x))))/\
  (∀(T bZ:TypeId) (x y:aI),cP C (ab l) (⟨dst,.app T bZ x y,none⟩::os) (some a) K=ev C l (use (ab l) (.app T bZ x y)) (dR (ab l) (.app T bZ x y)) dst os a K (nd C (ab l) T bZ (aP (ab l) x) (aP (ab l) y))):=
 ⟨λx=>(kf rfl).trans (congrArg _ (wV x)),λx=>(kf rfl).trans (congrArg _ (wW x)),λc x y=>(kf rfl).trans (congrArg _ (wX c x y)),λT=>(kf rfl).trans (congrArg _ (wY T)),λT x=>(kf rfl).trans (congrArg _ (wZ T x)),λT ps=>(kf rfl).trans (congrArg _ (w1 T ps)),λT n ps=>(kf rfl).trans (congrArg _ (w2 T n ps)),λT x=>(kf rfl).trans (congrArg _ (w3 T x)),λT x y=>(kf rfl).trans (congrArg _ (w4 T x y)),λx=>(kf rfl).trans (congrArg _ (w5 x)),λop T x y=>(kf rfl).trans (congrArg _ (w6 op T x y)),λop x=>(kf rfl).trans (congrArg _ (w7 op x)),λA B x=>(kf rfl).trans (congrArg _ (w8 A B x)),λf cs=>(kf rfl).trans (congrArg _ (w9 f cs)),λT x y=>(kf rfl).trans (congrArg _ (w_ T x y)),λT x dv an=>(kf rfl).trans (congrArg _ (xa T x dv an)),λT x k=>(kf rfl).trans (congrArg _ (xb T x k)),λT x y=>(kf rfl).trans (congrArg _ (xc T x y)),λT x y=>(kf rfl).trans (congrArg _ (xd T x y)),λx k=>(kf rfl).trans (congrArg _ (xe x k)),λT x=>(kf rfl).trans (congrArg _ (xf T x)),λT bZ x y=>(kf rfl).trans (congrArg _ (xg T bZ x y))⟩
theorem W9:
  (∀(x:aI) (t:Nat),cS C l dst (.bS x) t true os none K (.bool true)=ek C dst os K (some (aP (ab l) x,ab l)))/\
  (∀(x:aI) (t:Nat),cS C l dst (.bS x) t false os none K (.bool false)=ek C dst os K (some (aP (ab l) x,ab l)))/\
  (∀(x:aI) (t:Nat),cS C l dst (.gz x) t true os none K (.bool true)=ek C dst os K (j6 (ab l) (aP (ab l) x)))/\
  (∀(x:aI) (t:Nat),cS C l dst (.gz x) t false os none K (.bool false)=ek C dst os K (j6 (ab l) (aP (ab l) x)))/\
  (∀(c x y:aI) (t:Nat),cS C l dst (.pick c x y) t true os none K (.bool true)=ek C dst os K (sU (ab l) (aP (ab l) c) (aP (ab l) x) (aP (ab l) y)))/\
  (∀(c x y:aI) (t:Nat),cS C l dst (.pick c x y) t false os none K (.bool false)=ek C dst os K (sU (ab l) (aP (ab l) c) (aP (ab l) x) (aP (ab l) y)))/\
  (∀(T:TypeId) (t:Nat),cS C l dst (.hx T) t true os none K (.bool true)=ek C dst os K (dn (ab l) (hx C T)))/\
  (∀(T:TypeId) (t:Nat),cS C l dst (.hx T) t false os none K (.bool false)=ek C dst os K (dn (ab l) (hx C T)))/\
  (∀(T:TypeId) (x:aI) (t:Nat),cS C l dst (.dm T x) t true os none K (.bool true)=ek C dst os K (dm (ab l) (aP (ab l) x)))/\
  (∀(T:TypeId) (x:aI) (t:Nat),cS C l dst (.dm T x) t false os none K (.bool false)=ek C dst os K (dm (ab l) (aP (ab l) x)))/\
  (∀(T:TypeId) (ps:List (Nat×aI)) (t:Nat),cS C l dst (.fA T ps) t true os none K (.bool true)=ek C dst os K (fA C (ab l) T (lf (ab l) ps)))/\
  (∀(T:TypeId) (ps:List (Nat×aI)) (t:Nat),cS C l dst (.fA T ps) t false os none K (.bool false)=ek C dst os K (fA C (ab l) T (lf (ab l) ps)))/\
  (∀(T:TypeId) (n:Nat) (ps:List (Nat×aI)) (t:Nat),cS C l dst (.eQ T n ps) t true os none K (.bool true)=ek C dst os K (eQ C (ab l) T n (lf (ab l) ps)))/\
  (∀(T:TypeId) (n:Nat) (ps:List (Nat×aI)) (t:Nat),cS C l dst (.eQ T n ps) t false os none K (.bool false)=ek C dst os K (eQ C (ab l) T n (lf (ab l) ps)))/\
  (∀(T:TypeId) (x:aI) (t:Nat),cS C l dst (.cp T x) t true os none K (.bool true)=ek C dst os K (dn (ab l) (cp C (ab l) T (aP (ab l) x))))/\
  (∀(T:TypeId) (x:aI) (t:Nat),cS C l dst (.cp T x) t false os none K (.bool false)=ek C dst os K (dn (ab l) (cp C (ab l) T (aP (ab l) x))))/\
  (∀(T:TypeId) (x y:aI) (t:Nat),cS C l dst (.gH T x y) t true os none K (.bool true)=ek C dst os K (dp (gH C (ab l) T (aP (ab l) x) (aP (ab l) y))))/\
  (∀(T:TypeId) (x y:aI) (t:Nat),cS C l dst (.gH T x y) t false os none K (.bool false)=ek C dst os K (dp (gH C (ab l) T (aP (ab l) x) (aP (ab l) y))))/\
  (∀(x:aI) (t:Nat),cS C l dst (.gg x) t true os none K (.bool true)=ek C dst os K (dn (ab l) (gg (ab l) (aP (ab l) x))))/\
  (∀(x:aI) (t:Nat),cS C l dst (.gg x) t false os none K (.bool false)=ek C dst os K (dn (ab l) (gg (ab l) (aP (ab l) x))))/\
  (∀(op:BinOp) (T:TypeId) (x y:aI) (t:Nat),cS C l dst (.bV op T x y) t true os none K (.bool true)=ek C dst os K (dn (ab l) (bV C (ab l) op T (aP (ab l) x) (aP (ab l) y))))/\
  (∀(op:BinOp) (T:TypeId) (x y:aI) (t:Nat),cS C l dst (.bV op T x y) t false os none K (.bool false)=ek C dst os K (dn (ab l) (bV C (ab l) op T (aP (ab l) x) (aP (ab l) y))))/\
  (∀(op:UnOp) (x:aI) (t:Nat),cS C l dst (.un op x) t true os none K (.bool true)=ek C dst os K (dn (ab l) (un op (aP (ab l) x))))/\
  (∀(op:UnOp) (x:aI) (t:Nat),cS C l dst (.un op x) t false os none K (.bool false)=ek C dst os K (dn (ab l) (un op (aP (ab l) x))))/\
  (∀(A B:TypeId) (x:aI) (t:Nat),cS C l dst (.gI A B x) t true os none K (.bool true)=ek C dst os K (dn (ab l) (gI C (ab l) A B (aP (ab l) x))))/\
  (∀(A B:TypeId) (x:aI) (t:Nat),cS C l dst (.gI A B x) t false os none K (.bool false)=ek C dst os K (dn (ab l) (gI C (ab l) A B (aP (ab l) x))))/\
  (∀(f:FuncId) (cs:List aI) (t:Nat),cS C l dst (.i_ f cs) t true os none K (.bool true)=ek C dst os K (some (.fn f (iV (ab l) cs),ab l)))/\
  (∀(f:FuncId) (cs:List aI) (t:Nat),cS C l dst (.i_ f cs) t false os none K (.bool false)=ek C dst os K (some (.fn f (iV (ab l) cs),ab l)))/\
  (∀(T:TypeId) (x y:aI) (t:Nat),cS C l dst (.eu T x y) t true os none K (.bool true)=ek C dst os K (dn (ab l) (eu C T (aP (ab l) x) (aP (ab l) y))))/\
  (∀(T:TypeId) (x y:aI) (t:Nat),cS C l dst (.eu T x y) t false os none K (.bool false)=ek C dst os K (dn (ab l) (eu C T (aP (ab l) x) (aP (ab l) y))))/\
  (∀(T:TypeId) (x:aI) (dv an:Option aI) (t:Nat),cS C l dst (.eE T x dv an) t true os none K (.bool true)=ek C dst os K (eE C (ab l) T (aP (ab l) x) (mw (ab l) dv) (mw (ab l) an)))/\
  (∀(T:TypeId) (x:aI) (dv an:Option aI) (t:Nat),cS C l dst (.eE T x dv an) t false os none K (.bool false)=ek C dst os K (eE C (ab l) T (aP (ab l) x) (mw (ab l) dv) (mw (ab l) an)))/\
  (∀(T:TypeId) (x:aI) (k:Nat) (t:Nat),cS C l dst (.cY T x k) t true os none K (.bool true)=ek C dst os K (dn (ab l) (cY C (ab l) T (aP (ab l) x) k)))/\
  (∀(T:TypeId) (x:aI) (k:Nat) (t:Nat),cS C l dst (.cY T x k) t false os none K (.bool false)=ek C dst os K (dn (ab l) (cY C (ab l) T (aP (ab l) x) k)))/\
  (∀(T:TypeId) (x y:aI) (t:Nat),cS C l dst (.fp T x y) t true os none K (.bool true)=ek C dst os K (dn (ab l) (fp C (ab l) T (aP (ab l) x) (aP (ab l) y))))/\
  (∀(T:TypeId) (x y:aI) (t:Nat),cS C l dst (.fp T x y) t false os none K (.bool false)=ek C dst os K (dn (ab l) (fp C (ab l) T (aP (ab l) x) (aP (ab l) y))))/\
  (∀(T:TypeId) (x y:aI) (t:Nat),cS C l dst (.idx T x y) t true os none K (.bool true)=ek C dst os K (dn (ab l) (idx C T (aP (ab l) x) (aP (ab l) y))))/\
  (∀(T:TypeId) (x y:aI) (t:Nat),cS C l dst (.idx T x y) t false os none K (.bool false)=ek C dst os K (dn (ab l) (idx C T (aP (ab l) x) (aP (ab l) y))))/\
  (∀(x:aI) (k:Nat) (t:Nat),cS C l dst (.ex x k) t true os none K (.bool true)=ek C dst os K (dn (ab l) (ex (ab l) (aP (ab l) x) k)))/\
  (∀(x:aI) (k:Nat) (t:Nat),cS C l dst (.ex x k) t false os none K (.bool false)=ek C dst os K (dn (ab l) (ex (ab l) (aP (ab l) x) k)))/\
  (∀(T:TypeId) (x:aI) (t:Nat),cS C l dst (.len T x) t true os none K (.bool true)=ek C dst os K (dn (ab l) (nb C (ab l) T (aP (ab l) x))))/\
  (∀(T:TypeId) (x:aI) (t:Nat),cS C l dst (.len T x) t false os none K (.bool false)=ek C dst os K (dn (ab l) (nb C (ab l) T (aP (ab l) x))))/\
  (∀(T bZ:TypeId) (x y:aI) (t:Nat),cS C l dst (.app T bZ x y) t true os none K (.bool true)=ek C dst os K (nd C (ab l) T bZ (aP (ab l) x) (aP (ab l) y)))/\
  (∀(T bZ:TypeId) (x y:aI) (t:Nat),cS C l dst (.app T bZ x y) t false os none K (.bool false)=ek C dst os K (nd C (ab l) T bZ (aP (ab l) x) (aP (ab l) y))):=
 ⟨λx _=>(gi rfl).trans (congrArg _ (wV x)),λx _=>(gi rfl).trans (congrArg _ (wV x)),λx _=>(gi rfl).trans (congrArg _ (wW x)),λx _=>(gi rfl).trans (congrArg _ (wW x)),λc x y _=>(gi rfl).trans (congrArg _ (wX c x y)),λc x y _=>(gi rfl).trans (congrArg _ (wX c x y)),λT _=>(gi rfl).trans (congrArg _ (wY T)),λT _=>(gi rfl).trans (congrArg _ (wY T)),λT x _=>(gi rfl).trans (congrArg _ (wZ T x)),λT x _=>(gi rfl).trans (congrArg _ (wZ T x)),λT ps _=>(gi rfl).trans (congrArg _ (w1 T ps)),λT ps _=>(gi rfl).trans (congrArg _ (w1 T ps)),λT n ps _=>(gi rfl).trans (congrArg _ (w2 T n ps)),λT n ps _=>(gi rfl).trans (congrArg _ (w2 T n ps)),λT x _=>(gi rfl).trans (congrArg _ (w3 T x)),λT x _=>(gi rfl).trans (congrArg _ (w3 T x)),λT x y _=>(gi rfl).trans (congrArg _ (w4 T x y)),λT x y _=>(gi rfl).trans (congrArg _ (w4 T x y)),λx _=>(gi rfl).trans (congrArg _ (w5 x)),λx _=>(gi rfl).trans (congrArg _ (w5 x)),λop T x y _=>(gi rfl).trans (congrArg _ (w6 op T x y)),λop T x y _=>(gi rfl).trans (congrArg _ (w6 op T x y)),λop x _=>(gi rfl).trans (congrArg _ (w7 op x)),λop x _=>(gi rfl).trans (congrArg _ (w7 op x)),λA B x _=>(gi rfl).trans (congrArg _ (w8 A B x)),λA B x _=>(gi rfl).trans (congrArg _ (w8 A B x)),λf cs _=>(gi rfl).trans (congrArg _ (w9 f cs)),λf cs _=>(gi rfl).trans (congrArg _ (w9 f cs)),λT x y _=>(gi rfl).trans (congrArg _ (w_ T x y)),λT x y _=>(gi rfl).trans (congrArg _ (w_ T x y)),λT x dv an _=>(gi rfl).trans (congrArg _ (xa T x dv an)),λT x dv an _=>(gi rfl).trans (congrArg _ (xa T x dv an)),λT x k _=>(gi rfl).trans (congrArg _ (xb T x k)),λT x k _=>(gi rfl).trans (congrArg _ (xb T x k)),λT x y _=>(gi rfl).trans (congrArg _ (xc T x y)),λT x y _=>(gi rfl).trans (congrArg _ (xc T x y)),λT x y _=>(gi rfl).trans (congrArg _ (xd T x y)),λT x y _=>(gi rfl).trans (congrArg _ (xd T x y)),λx k _=>(gi rfl).trans (congrArg _ (xe x k)),λx k _=>(gi rfl).trans (congrArg _ (xe x k)),λT x _=>(gi rfl).trans (congrArg _ (xf T x)),λT x _=>(gi rfl).trans (congrArg _ (xf T x)),λT bZ x y _=>(gi rfl).trans (congrArg _ (xg T bZ x y)),λT bZ x y _=>(gi rfl).trans (congrArg _ (xg T bZ x y))⟩
theorem W_:
  (∀(x:aI) (t:Nat),cS C l dst (.bS x) t true os (some a) K (.bool true)=ev C l (t::use (ab l) (.bS x)) (dR (ab l) (.bS x)) dst os a K (some (aP (ab l) x,ab l)))/\
  (∀(x:aI) (t:Nat),cS C l dst (.bS x) t false os (some a) K (.bool false)=ev C l (t::use (ab l) (.bS x)) (dR (ab l) (.bS x)) dst os a K (some (aP (ab l) x,ab l)))/\
  (∀(x:aI) (t:Nat),cS C l dst (.gz x) t true os (some a) K (.bool true)=ev C l (t::use (ab l) (.gz x)) (dR (ab l) (.gz x)) dst os a K (j6 (ab l) (aP (ab l) x)))/\
  (∀(x:aI) (t:Nat),cS C l dst (.gz x) t false os (some a) K (.bool false)=ev C l (t::use (ab l) (.gz x)) (dR (ab l) (.gz x)) dst os a K (j6 (ab l) (aP (ab l) x)))/\
  (∀(c x y:aI) (t:Nat),cS C l dst (.pick c x y) t true os (some a) K (.bool true)=ev C l (t::use (ab l) (.pick c x y)) (dR (ab l) (.pick c x y)) dst os a K (sU (ab l) (aP (ab l) c) (aP (ab l) x) (aP (ab l) y)))/\
  (∀(c x y:aI) (t:Nat),cS C l dst (.pick c x y) t false os (some a) K (.bool false)=ev C l (t::use (ab l) (.pick c x y)) (dR (ab l) (.pick c x y)) dst os a K (sU (ab l) (aP (ab l) c) (aP (ab l) x) (aP (ab l) y)))/\
  (∀(T:TypeId) (t:Nat),cS C l dst (.hx T) t true os (some a) K (.bool true)=ev C l (t::use (ab l) (.hx T)) (dR (ab l) (.hx T)) dst os a K (dn (ab l) (hx C T)))/\
  (∀(T:TypeId) (t:Nat),cS C l dst (.hx T) t false os (some a) K (.bool false)=ev C l (t::use (ab l) (.hx T)) (dR (ab l) (.hx T)) dst os a K (dn (ab l) (hx C T)))/\
  (∀(T:TypeId) (x:aI) (t:Nat),cS C l dst (.dm T x) t true os (some a) K (.bool true)=ev C l (t::use (ab l) (.dm T x)) (dR (ab l) (.dm T x)) dst os a K (dm (ab l) (aP (ab l) x)))/\
  (∀(T:TypeId) (x:aI) (t:Nat),cS C l dst (.dm T x) t false os (some a) K (.bool false)=ev C l (t::use (ab l) (.dm T x)) (dR (ab l) (.dm T x)) dst os a K (dm (ab l) (aP (ab l) x)))/\
  (∀(T:TypeId) (ps:List (Nat×aI)) (t:Nat),cS C l dst (.fA T ps) t true os (some a) K (.bool true)=ev C l (t::use (ab l) (.fA T ps)) (dR (ab l) (.fA T ps)) dst os a K (fA C (ab l) T (lf (ab l) ps)))/\
  (∀(T:TypeId) (ps:List (Nat×aI)) (t:Nat),cS C l dst (.fA T ps) t false os (some a) K (.bool false)=ev C l (t::use (ab l) (.fA T ps)) (dR (ab l) (.fA T ps)) dst os a K (fA C (ab l) T (lf (ab l) ps)))/\
  (∀(T:TypeId) (n:Nat) (ps:List (Nat×aI)) (t:Nat),cS C l dst (.eQ T n ps) t true os (some a) K (.bool true)=ev C l (t::use (ab l) (.eQ T n ps)) (dR (ab l) (.eQ T n ps)) dst os a K (eQ C (ab l) T n (lf (ab l) ps)))/\
  (∀(T:TypeId) (n:Nat) (ps:List (Nat×aI)) (t:Nat),cS C l dst (.eQ T n ps) t false os (some a) K (.bool false)=ev C l (t::use (ab l) (.eQ T n ps)) (dR (ab l) (.eQ T n ps)) dst os a K (eQ C (ab l) T n (lf (ab l) ps)))/\
  (∀(T:TypeId) (x:aI) (t:Nat),cS C l dst (.cp T x) t true os (some a) K (.bool true)=ev C l (t::use (ab l) (.cp T x)) (dR (ab l) (.cp T x)) dst os a K (dn (ab l) (cp C (ab l) T (aP (ab l) x))))/\
  (∀(T:TypeId) (x:aI) (t:Nat),cS C l dst (.cp T x) t false os (some a) K (.bool false)=ev C l (t::use (ab l) (.cp T x)) (dR (ab l) (.cp T x)) dst os a K (dn (ab l) (cp C (ab l) T (aP (ab l) x))))/\
  (∀(T:TypeId) (x y:aI) (t:Nat),cS C l dst (.gH T x y) t true os (some a) K (.bool true)=ev C l (t::use (ab l) (.gH T x y)) (dR (ab l) (.gH T x y)) dst os a K (dp (gH C (ab l) T (aP (ab l) x) (aP (ab l) y))))/\
  (∀(T:TypeId) (x y:aI) (t:Nat),cS C l dst (.gH T x y) t false os (some a) K (.bool false)=ev C l (t::use (ab l) (.gH T x y)) (dR (ab l) (.gH T x y)) dst os a K (dp (gH C (ab l) T (aP (ab l) x) (aP (ab l) y))))/\
  (∀(x:aI) (t:Nat),cS C l dst (.gg x) t true os (some a) K (.bool true)=ev C l (t::use (ab l) (.gg x)) (dR (ab l) (.gg x)) dst os a K (dn (ab l) (gg (ab l) (aP (ab l) x))))/\
  (∀(x:aI) (t:Nat),cS C l dst (.gg x) t false os (some a) K (.bool false)=ev C l (t::use (ab l) (.gg x)) (dR (ab l) (.gg x)) dst os a K (dn (ab l) (gg (ab l) (aP (ab l) x))))/\
  (∀(op:BinOp) (T:TypeId) (x y:aI) (t:Nat),cS C l dst (.bV op T x y) t true os (some a) K (.bool true)=ev C l (t::use (ab l) (.bV op T x y)) (dR (ab l) (.bV op T x y)) dst os a K (dn (ab l) (bV C (ab l) op T (aP (ab l) x) (aP (ab l) y))))/\
  (∀(op:BinOp) (T:TypeId) (x y:aI) (t:Nat),cS C l dst (.bV op T x y) t false os (some a) K (.bool false)=ev C l (t::use (ab l) (.bV op T x y)) (dR (ab l) (.bV op T x y)) dst os a K (dn (ab l) (bV C (ab l) op T (aP (ab l) x) (aP (ab l) y))))/\
  (∀(op:UnOp) (x:aI) (t:Nat),cS C l dst (.un op x) t true os (some a) K (.bool true)=ev C l (t::use (ab l) (.un op x)) (dR (ab l) (.un op x)) dst os a K (dn (ab l) (un op (aP (ab l) x))))/\
  (∀(op:UnOp) (x:aI) (t:Nat),cS C l dst (.un op x) t false os (some a) K (.bool false)=ev C l (t::use (ab l) (.un op x)) (dR (ab l) (.un op x)) dst os a K (dn (ab l) (un op (aP (ab l) x))))/\
  (∀(A B:TypeId) (x:aI) (t:Nat),cS C l dst (.gI A B x) t true os (some a) K (.bool true)=ev C l (t::use (ab l) (.gI A B x)) (dR (ab l) (.gI A B x)) dst os a K (dn (ab l) (gI C (ab l) A B (aP (ab l) x))))/\
  (∀(A B:TypeId) (x:aI) (t:Nat),cS C l dst (.gI A B x) t false os (some a) K (.bool false)=ev C l (t::use (ab l) (.gI A B x)) (dR (ab l) (.gI A B x)) dst os a K (dn (ab l) (gI C (ab l) A B (aP (ab l) x))))/\
  (∀(f:FuncId) (cs:List aI) (t:Nat),cS C l dst (.i_ f cs) t true os (some a) K (.bool true)=ev C l (t::use (ab l) (.i_ f cs)) (dR (ab l) (.i_ f cs)) dst os a K (some (.fn f (iV (ab l) cs),ab l)))/\
  (∀(f:FuncId) (cs:List aI) (t:Nat),cS C l dst (.i_ f cs) t false os (some a) K (.bool false)=ev C l (t::use (ab l) (.i_ f cs)) (dR (ab l) (.i_ f cs)) dst os a K (some (.fn f (iV (ab l) cs),ab l)))/\
  (∀(T:TypeId) (x y:aI) (t:Nat),cS C l dst (.eu T x y) t true os (some a) K (.bool true)=ev C l (t::use (ab l) (.eu T x y)) (dR (ab l) (.eu T x y)) dst os a K (dn (ab l) (eu C T (aP (ab l) x) (aP (ab l) y))))/\
  (∀(T:TypeId) (x y:aI) (t:Nat),cS C l dst (.eu T x y) t false os (some a) K (.bool false)=ev C l (t::use (ab l) (.eu T x y)) (dR (ab l) (.eu T x y)) dst os a K (dn (ab l) (eu C T (aP (ab l) x) (aP (ab l) y))))/\
  (∀(T:TypeId) (x:aI) (dv an:Option aI) (t:Nat),cS C l dst (.eE T x dv an) t true os (some a) K (.bool true)=ev C l (t::use (ab l) (.eE T x dv an)) (dR (ab l) (.eE T x dv an)) dst os a K (eE C (ab l) T (aP (ab l) x) (mw (ab l) dv) (mw (ab l) an)))/\
  (∀(T:TypeId) (x:aI) (dv an:Option aI) (t:Nat),cS C l dst (.eE T x dv an) t false os (some a) K (.bool false)=ev C l (t::use (ab l) (.eE T x dv an)) (dR (ab l) (.eE T x dv an)) dst os a K (eE C (ab l) T (aP (ab l) x) (mw (ab l) dv) (mw (ab l) an)))/\
  (∀(T:TypeId) (x:aI) (k:Nat) (t:Nat),cS C l dst (.cY T x k) t true os (some a) K (.bool true)=ev C l (t::use (ab l) (.cY T x k)) (dR (ab l) (.cY T x k)) dst os a K (dn (ab l) (cY C (ab l) T (aP (ab l) x) k)))/\
  (∀(T:TypeId) (x:aI) (k:Nat) (t:Nat),cS C l dst (.cY T x k) t false os (some a) K (.bool false)=ev C l (t::use (ab l) (.cY T x k)) (dR (ab l) (.cY T x k)) dst os a K (dn (ab l) (cY C (ab l) T (aP (ab l) x) k)))/\
  (∀(T:TypeId) (x y:aI) (t:Nat),cS C l dst (.fp T x y) t true os (some a) K (.bool true)=ev C l (t::use (ab l) (.fp T x y)) (dR (ab l) (.fp T x y)) dst os a K (dn (ab l) (fp C (ab l) T (aP (ab l) x) (aP (ab l) y))))/\
  (∀(T:TypeId) (x y:aI) (t:Nat),cS C l dst (.fp T x y) t false os (some a) K (.bool false)=ev C l (t::use (ab l) (.fp T x y)) (dR (ab l) (.fp T x y)) dst os a K (dn (ab l) (fp C (ab l) T (aP (ab l) x) (aP (ab l) y))))/\
  (∀(T:TypeId) (x y:aI) (t:Nat),cS C l dst (.idx T x y) t true os (some a) K (.bool true)=ev C l (t::use (ab l) (.idx T x y)) (dR (ab l) (.idx T x y)) dst os a K (dn (ab l) (idx C T (aP (ab l) x) (aP (ab l) y))))/\
  (∀(T:TypeId) (x y:aI) (t:Nat),cS C l dst (.idx T x y) t false os (some a) K (.bool false)=ev C l (t::use (ab l) (.idx T x y)) (dR (ab l) (.idx T x y)) dst os a K (dn (ab l) (idx C T (aP (ab l) x) (aP (ab l) y))))/\
  (∀(x:aI) (k:Nat) (t:Nat),cS C l dst (.ex x k) t true os (some a) K (.bool true)=ev C l (t::use (ab l) (.ex x k)) (dR (ab l) (.ex x k)) dst os a K (dn (ab l) (ex (ab l) (aP (ab l) x) k)))/\
  (∀(x:aI) (k:Nat) (t:Nat),cS C l dst (.ex x k) t false os (some a) K (.bool false)=ev C l (t::use (ab l) (.ex x k)) (dR (ab l) (.ex x k)) dst os a K (dn (ab l) (ex (ab l) (aP (ab l) x) k)))/\
  (∀(T:TypeId) (x:aI) (t:Nat),cS C l dst (.len T x) t true os (some a) K (.bool true)=ev C l (t::use (ab l) (.len T x)) (dR (ab l) (.len T x)) dst os a K (dn (ab l) (nb C (ab l) T (aP (ab l) x))))/\
  (∀(T:TypeId) (x:aI) (t:Nat),cS C l dst (.len T x) t false os (some a) K (.bool false)=ev C l (t::use (ab l) (.len T x)) (dR (ab l) (.len T x)) dst os a K (dn (ab l) (nb C (ab l) T (aP (ab l) x))))/\
  (∀(T bZ:TypeId) (x y:aI) (t:Nat),cS C l dst (.app T bZ x y) t true os (some a) K (.bool true)=ev C l (t::use (ab l) (.app T bZ x y)) (dR (ab l) (.app T bZ x y)) dst os a K (nd C (ab l) T bZ (aP (ab l) x) (aP (ab l) y)))/\
  (∀(T bZ:TypeId) (x y:aI) (t:Nat),cS C l dst (.app T bZ x y) t false os (some a) K (.bool false)=ev C l (t::use (ab l) (.app T bZ x y)) (dR (ab l) (.app T bZ x y)) dst os a K (nd C (ab l) T bZ (aP (ab l) x) (aP (ab l) y))):=
 ⟨λx _=>(gj rfl).trans (congrArg _ (wV x)),λx _=>(gj rfl).trans (congrArg _ (wV x)),λx _=>(gj rfl).trans (congrArg _ (wW x)),λx _=>(gj rfl).trans (congrArg _ (wW x)),λc x y _=>(gj rfl).trans (congrArg _ (wX c x y)),λc x y _=>(gj rfl).trans (congrArg _ (wX c x y)),λT _=>(gj rfl).trans (congrArg _ (wY T)),λT _=>(gj rfl).trans (congrArg _ (wY T)),λT x _=>(gj rfl).trans (congrArg _ (wZ T x)),λT x _=>(gj rfl).trans (congrArg _ (wZ T x)),λT ps _=>(gj rfl).trans (congrArg _ (w1 T ps)),λT ps _=>(gj rfl).trans (congrArg _ (w1 T ps)),λT n ps _=>(gj rfl).trans (congrArg _ (w2 T n ps)),λT n ps _=>(gj rfl).trans (congrArg _ (w2 T n ps)),λT x _=>(gj rfl).trans (congrArg _ (w3 T x)),λT x _=>(gj rfl).trans (congrArg _ (w3 T x)),λT x y _=>(gj rfl).trans (congrArg _ (w4 T x y)),λT x y _=>(gj rfl).trans (congrArg _ (w4 T x y)),λx _=>(gj rfl).trans (congrArg _ (w5 x)),λx _=>(gj rfl).trans (congrArg _ (w5 x)),λop T x y _=>(gj rfl).trans (congrArg _ (w6 op T x y)),λop T x y _=>(gj rfl).trans (congrArg _ (w6 op T x y)),λop x _=>(gj rfl).trans (congrArg _ (w7 op x)),λop x _=>(gj rfl).trans (congrArg _ (w7 op x)),λA B x _=>(gj rfl).trans (congrArg _ (w8 A B x)),λA B x _=>(gj rfl).trans (congrArg _ (w8 A B x)),λf cs _=>(gj rfl).trans (congrArg _ (w9 f cs)),λf cs _=>(gj rfl).trans (congrArg _ (w9 f cs)),λT x y _=>(gj rfl).trans (congrArg _ (w_ T x y)),λT x y _=>(gj rfl).trans (congrArg _ (w_ T x y)),λT x dv an _=>(gj rfl).trans (congrArg _ (xa T x dv an)),λT x dv an _=>(gj rfl).trans (congrArg _ (xa T x dv an)),λT x k _=>(gj rfl).trans (congrArg _ (xb T x k)),λT x k _=>(gj rfl).trans (congrArg _ (xb T x k)),λT x y _=>(gj rfl).trans (congrArg _ (xc T x y)),λT x y _=>(gj rfl).trans (congrArg _ (xc T x y)),λT x y _=>(gj rfl).trans (congrArg _ (xd T x y)),λT x y _=>(gj rfl).trans (congrArg _ (xd T x y)),λx k _=>(gj rfl).trans (congrArg _ (xe x k)),λx k _=>(gj rfl).trans (congrArg _ (xe x k)),λT x _=>(gj rfl).trans (congrArg _ (xf T x)),λT x _=>(gj rfl).trans (congrArg _ (xf T x)),λT bZ x y _=>(gj rfl).trans (congrArg _ (xg T bZ x y)),λT bZ x y _=>(gj rfl).trans (congrArg _ (xg T bZ x y))⟩
end
theorem Nl:
  (∀(t:Nat) (k:IntKind) (n:Int),jP t (.int k n)=(.int k n))/\
  (∀(t:Nat) (b:Bool),jP t (.bool b)=(.bool b))/\
  (∀(t:Nat) (x:List UInt8),jP t (.str x)=(.str x))/\
  (∀(t:Nat) (xs:List I),jP t (.slice xs)=(.slice xs))/\
  (∀(t:Nat) (d:I),jP t (.ref d)=(.ref d))/\
  (∀(t:Nat) (f:FuncId) (cap:List I),jP t (.fn f cap)=(.fn f cap))/\
  (∀(t:Nat) (x:Nat) (q:List Nat),jP t (.h x q)=(.h x q))/\
  (∀(t:Nat) (x:Nat) (q:List Nat),jP t (.au x q)=(.au x q))/\
  (∀(t:Nat),jP t .dS= .dS)/\
  (∀(t:Nat),jP t .bz= .bz)/\
  (∀(t:Nat),jP t .fs= .fs)/\
  (∀(t:Nat),jP t .hole= .hole)/\
  (∀(t:Nat) (sz:Nat) (xs:List I),jP t (.ao sz xs)= .h t [])/\
  (∀(t:Nat) (d:I),jP t (.bh d)= .h t [])/\
  (∀(t:Nat) (az:List I),jP t (.agg az)=if I.ef az=true then(.agg az)else .h t [])/\
  (∀(t:Nat) (az:List I),jP t (.tuple az)=if I.ef az=true then(.tuple az)else .h t []):=
 ⟨λ_ _ _=>rfl,λ_ _=>rfl,λ_ _=>rfl,λ_ _=>rfl,λ_ _=>rfl,λ_ _ _=>rfl,λ_ _ _=>rfl,λ_ _ _=>rfl,λ_=>rfl,λ_=>rfl,λ_=>rfl,λ_=>rfl,λ_ _ _=>rfl,λ_ _=>rfl,λ_ _=>rfl,λ_ _=>rfl⟩
theorem Nn:
  (∀(l:List (Nat×I)) (av:I),fin (ab l) none av=ab l)/\
  (∀(l:List (Nat×I)) (t:Nat) (k:IntKind) (n:Int),fin (ab l) (some t) (.int k n)=ab ((t,(.int k n))::l))/\
  (∀(l:List (Nat×I)) (t:Nat) (b:Bool),fin (ab l) (some t) (.bool b)=ab ((t,(.bool b))::l))/\
  (∀(l:List (Nat×I)) (t:Nat) (x:List UInt8),fin (ab l) (some t) (.str x)=ab ((t,(.str x))::l))/\
  (∀(l:List (Nat×I)) (t:Nat) (xs:List I),fin (ab l) (some t) (.slice xs)=ab ((t,(.slice xs))::l))/\
  (∀(l:List (Nat×I)) (t:Nat) (d:I),fin (ab l) (some t) (.ref d)=ab ((t,(.ref d))::l))/\
  (∀(l:List (Nat×I)) (t:Nat) (f:FuncId) (cap:List I),fin (ab l) (some t) (.fn f cap)=ab ((t,(.fn f cap))::l))/\
  (∀(l:List (Nat×I)) (t:Nat) (x:Nat) (q:List Nat),fin (ab l) (some t) (.h x q)=ab ((t,(.h x q))::l))/\
  (∀(l:List (Nat×I)) (t:Nat) (x:Nat) (q:List Nat),fin (ab l) (some t) (.au x q)=ab ((t,(.au x q))::l))/\
  (∀(l:List (Nat×I)) (t:Nat),fin (ab l) (some t) .dS=ab ((t,.dS)::l))/\
  (∀(l:List (Nat×I)) (t:Nat),fin (ab l) (some t) .bz=ab ((t,.bz)::l))/\
  (∀(l:List (Nat×I)) (t:Nat),fin (ab l) (some t) .fs=ab ((t,.fs)::l))/\
  (∀(l:List (Nat×I)) (t:Nat),fin (ab l) (some t) .hole=ab ((t,.hole)::l))/\
  (∀(l:List (Nat×I)) (t:Nat) (sz:Nat) (xs:List I),fin (ab l) (some t) (.ao sz xs)=ab ((t,(.ao sz xs))::o8 t l))/\
  (∀(l:List (Nat×I)) (t:Nat) (d:I),fin (ab l) (some t) (.bh d)=ab ((t,(.bh d))::o8 t l))/\
  (∀(l:List (Nat×I)) (t:Nat) (az:List I),fin (ab l) (some t) (.agg az)=ab ((t,(.agg az))::if I.ef az=true then l else o8 t l))/\
  (∀(l:List (Nat×I)) (t:Nat) (az:List I),fin (ab l) (some t) (.tuple az)=ab ((t,(.tuple az))::if I.ef az=true then l else o8 t l)):=
 ⟨λ_ _=>rfl,λl t _ _=>by simp only[fin,I.plain,if_true,lH],λl t _=>by simp only[fin,I.plain,if_true,lH],λl t _=>by simp only[fin,I.plain,if_true,lH],λl t _=>by simp only[fin,I.plain,if_true,lH],λl t _=>by simp only[fin,I.plain,if_true,lH],λl t _ _=>by simp only[fin,I.plain,if_true,lH],λl t _ _=>by simp only[fin,I.plain,if_true,lH],λl t _ _=>by simp only[fin,I.plain,if_true,lH],λl t=>by simp only[fin,I.plain,if_true,lH],λl t=>by simp only[fin,I.plain,if_true,lH],λl t=>by simp only[fin,I.plain,if_true,lH],λl t=>by simp only[fin,I.plain,if_true,lH],λl t _ _=>by simp only[fin,I.plain,Bool.false_eq_true,if_false,wP,lH],λl t _=>by simp only[fin,I.plain,Bool.false_eq_true,if_false,wP,lH],λl t _=>by simp only[fin,I.plain,wP,lH];split<;>rfl,λl t _=>by simp only[fin,I.plain,wP,lH];split<;>rfl⟩
theorem xh:
  (∀(k:IntKind) (n:Int),I.plain (.int k n)=true)/\
  (∀(b:Bool),I.plain (.bool b)=true)/\
  (∀(x:List UInt8),I.plain (.str x)=true)/\
  (∀(xs:List I),I.plain (.slice xs)=true)/\
  (∀(d:I),I.plain (.ref d)=true)/\
  (∀(f:FuncId) (cap:List I),I.plain (.fn f cap)=true)/\
  (∀(x:Nat) (q:List Nat),I.plain (.h x q)=true)/\
  (∀(x:Nat) (q:List Nat),I.plain (.au x q)=true)/\
  (I.plain .dS=true)/\
  (I.plain .bz=true)/\
  (I.plain .fs=true)/\
  (I.plain .hole=true)/\
  (∀(sz:Nat) (xs:List I),I.plain (.ao sz xs)=false)/\
  (∀(d:I),I.plain (.bh d)=false)/\
  (∀(az:List I),I.plain (.agg az)=I.ef az)/\
  (∀(az:List I),I.plain (.tuple az)=I.ef az)/\
  (I.ef []=true)/\
  (∀d ds,I.ef (d::ds)=(d.plain&&I.ef ds)):=
 ⟨λ_ _=>rfl,λ_=>rfl,λ_=>rfl,λ_=>rfl,λ_=>rfl,λ_ _=>rfl,λ_ _=>rfl,λ_ _=>rfl,rfl,rfl,rfl,rfl,λ_ _=>rfl,λ_=>rfl,λ_=>rfl,λ_=>rfl,rfl,λ_ _=>rfl⟩
theorem Np:
  (∀(s:ar) (k:IntKind) (n:Int),j6 s (.int k n)=some ((.int k n),s))/\
  (∀(s:ar) (b:Bool),j6 s (.bool b)=some ((.bool b),s))/\
  (∀(s:ar) (x:List UInt8),j6 s (.str x)=some ((.str x),s))/\
  (∀(s:ar) (xs:List I),j6 s (.slice xs)=some ((.slice xs),s))/\
  (∀(s:ar) (d:I),j6 s (.ref d)=some ((.ref d),s))/\
  (∀(s:ar) (f:FuncId) (cap:List I),j6 s (.fn f cap)=some ((.fn f cap),s))/\
  (∀(s:ar) (x:Nat) (q:List Nat),j6 s (.au x q)=some ((.au x q),s))/\
  (∀(s:ar),j6 s .dS=some (.dS,s))/\
  (∀(s:ar),j6 s .bz=some (.bz,s))/\
  (∀(s:ar),j6 s .fs=some (.fs,s))/\
  (∀(s:ar),j6 s .hole=some (.hole,s))/\
  (∀(s:ar) (sz:Nat) (xs:List I),j6 s (.ao sz xs)=some ((.ao sz xs),s))/\
  (∀(s:ar) (d:I),j6 s (.bh d)=some ((.bh d),s))/\
  (∀(s:ar) (az:List I),j6 s (.agg az)=some ((.agg az),s))/\
  (∀(s:ar) (az:List I),j6 s (.tuple az)=some ((.tuple az),s))/\
  (∀(s:ar) y q,j6 s (.h y q)=db s (.h y q)):=
 ⟨λ_ _ _=>rfl,λ_ _=>rfl,λ_ _=>rfl,λ_ _=>rfl,λ_ _=>rfl,λ_ _ _=>rfl,λ_ _ _=>rfl,λ_=>rfl,λ_=>rfl,λ_=>rfl,λ_=>rfl,λ_ _ _=>rfl,λ_ _=>rfl,λ_ _=>rfl,λ_ _=>rfl,λ_ _ _=>rfl⟩
theorem Nq:
  (∀(t:Nat) (k:IntKind) (n:Int),da t (.int k n)=(.int k n))/\
  (∀(t:Nat) (b:Bool),da t (.bool b)=(.bool b))/\
  (∀(t:Nat) (x:List UInt8),da t (.str x)=(.str x))/\
  (∀(t:Nat) (xs:List I),da t (.slice xs)=(.slice xs))/\
  (∀(t:Nat) (d:I),da t (.ref d)=(.ref d))/\
  (∀(t:Nat),da t .dS= .dS)/\
  (∀(t:Nat),da t .bz= .bz)/\
  (∀(t:Nat),da t .fs= .fs)/\
  (∀(t:Nat),da t .hole= .hole)/\
  (∀(t:Nat) (sz:Nat) (xs:List I),da t (.ao sz xs)=(.ao sz xs))/\
  (∀(t:Nat) (d:I),da t (.bh d)=(.bh d))/\
  (∀(t:Nat) (az:List I),da t (.agg az)=(.agg az))/\
  (∀(t:Nat) (az:List I),da t (.tuple az)=(.tuple az))/\
  (∀(t y:Nat) q,da t (.h y q)=if y=t then .hole else .h y q)/\
  (∀(t y:Nat) q,da t (.au y q)=if y=t then .hole else .au y q)/\
  (∀(t:Nat) f c,da t (.fn f c)= .fn f (j0 t c))/\
  (∀t,j0 t []=[])/\
  (∀t d ds,j0 t (d::ds)=da t d::j0 t ds)/\
  (∀t,o8 t []=[])/\
  (∀t u d l,o8 t ((u,d)::l)=(u,da t d)::o8 t l)/\
  (∀t l,mD t (ab l)=ab (o8 t l)):=
 ⟨λ_ _ _=>by unfold da;rfl,λ_ _=>by unfold da;rfl,λ_ _=>by unfold da;rfl,λ_ _=>by unfold da;rfl,λ_ _=>by unfold da;rfl,λ_=>by unfold da;rfl,λ_=>by unfold da;rfl,λ_=>by unfold da;rfl,λ_=>by unfold da;rfl,λ_ _ _=>by unfold da;rfl,λ_ _=>by unfold da;rfl,λ_ _=>by unfold da;rfl,λ_ _=>by unfold da;rfl,λ_ _ _=>by unfold da;rfl,λ_ _ _=>by unfold da;rfl,λ_ _ _=>by simp only[da],λ_=>by simp only[j0],λ_ _ _=>by simp only[j0],λ_=>rfl,λ_ _ _ _=>rfl,λt l=>wP t l⟩
theorem Nr:
  (∀(t:Nat) (k:IntKind) (n:Int),ct t (.int k n)=(.int k n))/\
  (∀(t:Nat) (b:Bool),ct t (.bool b)=(.bool b))/\
  (∀(t:Nat) (x:List UInt8),ct t (.str x)=(.str x))/\
  (∀(t:Nat) (xs:List I),ct t (.slice xs)=(.slice xs))/\
  (∀(t:Nat) (d:I),ct t (.ref d)=(.ref d))/\
  (∀(t:Nat),ct t .dS= .dS)/\
  (∀(t:Nat),ct t .bz= .bz)/\
  (∀(t:Nat),ct t .fs= .fs)/\
  (∀(t:Nat),ct t .hole= .hole)/\
  (∀(t:Nat) (sz:Nat) (xs:List I),ct t (.ao sz xs)=(.ao sz xs))/\
  (∀(t:Nat) (d:I),ct t (.bh d)=(.bh d))/\
  (∀(t:Nat) (az:List I),ct t (.agg az)=(.agg az))/\
  (∀(t:Nat) (az:List I),ct t (.tuple az)=(.tuple az))/\
  (∀(t y:Nat),ct t (.h y [])= .h y [])/\
  (∀(t y k:Nat) q,ct t (.h y (k::q))=if y=t then .hole else .h y (k::q))/\
  (∀(t y:Nat) q,ct t (.au y q)=if y=t then .hole else .au y q)/\
  (∀(t:Nat) f c,ct t (.fn f c)= .fn f (jv t c))/\
  (∀t,jv t []=[])/\
  (∀t d ds,jv t (d::ds)=ct t d::jv t ds)/\
  (∀t,uq t []=[])/\
  (∀t u d l,uq t ((u,d)::l)=(u,ct t d)::uq t l)/\
  (∀t l,iO t (ab l)=ab (uq t l)):=
 ⟨λ_ _ _=>by unfold ct;rfl,λ_ _=>by unfold ct;rfl,λ_ _=>by unfold ct;rfl,λ_ _=>by unfold ct;rfl,λ_ _=>by unfold ct;rfl,λ_=>by unfold ct;rfl,λ_=>by unfold ct;rfl,λ_=>by unfold ct;rfl,λ_=>by unfold ct;rfl,λ_ _ _=>by unfold ct;rfl,λ_ _=>by unfold ct;rfl,λ_ _=>by unfold ct;rfl,λ_ _=>by unfold ct;rfl,λ_ _=>by simp[ct],λ_ _ _ _=>by simp[ct],λ_ _ _=>by unfold ct;rfl,λ_ _ _=>by simp only[ct],λ_=>by simp only[jv],λ_ _ _=>by simp only[jv],λ_=>rfl,λ_ _ _ _=>rfl,λt l=>Wt t l⟩
def Iv:od->Bool->Option I
 | .bool,b=>some (.bool b)
 |_,_=>none
def uy (neg:Bool):od->Option (Option Bool)->Option I
 | .slice _,some r=>some (yP neg r)
 |_,_=>none
def uz (neg:Bool):od->Option Bool->Option I
 | .ptr _,some b=>some (.bool (b !=neg))
 |_,_=>none
theorem Ns (C:cl) (s:ar) (T:TypeId):
  (∀op k a di b,bV C s op T (.int k a) (.int di b)=jQ op k a di b)/\
  (∀op a b,bV C s op T (.str a) (.str b)=oh op a b)/\
  (∀a b,bV C s .eql T (.bool a) (.bool b)=Iv (C.T T).k (a==b))/\
  (∀a b,bV C s .neq T (.bool a) (.bool b)=Iv (C.T T).k (!(a==b)))/\
  (∀xs,bV C s .eql T (.slice xs) .bz=uy false (C.T T).k (ml s (.slice xs)))/\
  (∀xs,bV C s .neq T (.slice xs) .bz=uy true (C.T T).k (ml s (.slice xs)))/\
  (bV C s .eql T .bz .bz=uy false (C.T T).k (ml s .bz))/\
  (bV C s .neq T .bz .bz=uy true (C.T T).k (ml s .bz))/\
  (∀x q,bV C s .eql T (.h x q) .bz=uy false (C.T T).k (ml s (.h x q)))/\
  (∀x q,bV C s .neq T (.h x q) .bz=uy true (C.T T).k (ml s (.h x q)))/\
  (∀x q,bV C s .eql T (.h x q) .dS=uz false (C.T T).k (mm s (.h x q)))/\
  (∀x q,bV C s .neq T (.h x q) .dS=uz true (C.T T).k (mm s (.h x q)))/\
  (∀d,bV C s .eql T (.ref d) .dS=uz false (C.T T).k (mm s (.ref d)))/\
  (∀d,bV C s .neq T (.ref d) .dS=uz true (C.T T).k (mm s (.ref d)))/\
  (bV C s .eql T .dS .dS=uz false (C.T T).k (mm s .dS))/\
  (bV C s .neq T .dS .dS=uz true (C.T T).k (mm s .dS)):=by
 refine⟨?_,?_,?_,?_,?_,?_,?_,?_,?_,?_,?_,?_,?_,?_,?_,?_⟩<;>intros<;>first
  |rfl
  |(simp only[bV]
    generalize (C.T T).k=mj;cases mj<;>first|rfl|(simp only[uy];generalize ml s _=v;cases v<;>rfl)|(simp only[uz];generalize mm s _=v;cases v<;>(try (rename_i b;cases b))<;>rfl))
theorem Nt (k:IntKind) (a b:Int):
  jQ .add k a k b=some (.int k (k.wrap (a+b)))/\jQ .sub k a k b=some (.int k (k.wrap (a-b)))/\jQ .mul k a k b=some (.int k (k.wrap (a*b)))/\
  jQ .eql k a k b=some (.bool (a==b))/\jQ .neq k a k b=some (.bool (a !=b))/\jQ .lss k a k b=some (.bool (decide (a<b)))/\jQ .leq k a k b=some (.bool (decide (a<=b)))/\
  jQ .gtr k a k b=some (.bool (decide (b<a)))/\jQ .geq k a k b=some (.bool (decide (b<=a)))/\
  jQ .and k a k b=some (.int k (bitsOf .and k a b))/\jQ .or k a k b=some (.int k (bitsOf .or k a b))/\jQ .xor k a k b=some (.int k (bitsOf .xor k a b))/\jQ .andNot k a k b=some (.int k (bitsOf .andNot k a b)):=by
 simp[jQ]
theorem Xa {k:IntKind} {a b:Int} (h:b≠0):jQ .quo k a k b=some (.int k (k.wrap (a.tdiv b))):=by simp[jQ,h]
theorem Xb {k:IntKind} {a b:Int} (h:b≠0):jQ .rem k a k b=some (.int k (a.tmod b)):=by simp[jQ,h]
theorem Nu (a b:List UInt8):
  oh .eql a b=some (.bool (a==b))/\oh .neq a b=some (.bool !(a==b))/\oh .lss a b=some (.bool (Op.bytesLess a b))/\
  oh .leq a b=some (.bool (Op.bytesLess a b||a==b))/\oh .gtr a b=some (.bool !(Op.bytesLess a b||a==b))/\oh .geq a b=some (.bool !(Op.bytesLess a b)):=by
 refine⟨rfl,rfl,rfl,rfl,rfl,rfl⟩
theorem Nv:(∀b,un .not (.bool b)=some (.bool !b))/\(un .not .fs=some .fs)/\(∀k n,un .neg (.int k n)=some (.int k (k.wrap (0-n)))):=⟨λ_=>rfl,rfl,λ_ _=>rfl⟩
def Iw:od->Option UInt8->Option I
 | .str,some c=>some (.int .u8 c.toNat)
 |_,_=>none
theorem Nw (C:cl) (T:TypeId) (l:List UInt8) (k:IntKind) (n:Int):idx C T (.str l) (.int k n)=Iw (C.T T).k (bF l n):=by
 simp only[idx,bF];generalize (C.T T).k=mj;cases mj<;>first|rfl|(simp only[Iw];split<;>first|rfl|(cases l[n.toNat]? <;>rfl))
def Ix (C:cl):od->Option I->Option I
 | .slice e,some d=>if(C.T e).ok=true/\d.wd=(C.T e).sz then some (.ref d)else none
 |_,_=>none
theorem Nx (C:cl) (s:ar) (T:TypeId) (xs:List I) (k:IntKind) (n:Int):fp C s T (.slice xs) (.int k n)=Ix C (C.T T).k (bF xs n):=by
 simp only[fp,bF];generalize (C.T T).k=mj;cases mj<;>first|rfl|skip
 simp only[Ix];by_cases ba:0<=n
 .simp only[ba,true_and,if_true];split
  .cases xs[n.toNat]? <;>simp[*]
  .cases xs[n.toNat]? <;>simp[*]
 .simp only[ba,false_and,if_false]
def zz (C:cl) (y:Nat) (q:List Nat) (n:Int):od->Option I->Option I
 | .slice e,some (.ao sz xs)=>if(bF xs n).isSome=true/\(C.T e).ok=true/\sz=(C.T e).sz then some (.au y (q++[n.toNat]))else none
 |_,_=>none
theorem Ny (C:cl) (s:ar) (T:TypeId) (y:Nat) (q:List Nat) (k:IntKind) (n:Int):fp C s T (.h y q) (.int k n)=zz C y q n (C.T T).k (I.sub q (s y)):=by
 simp only[fp];generalize (C.T T).k=mj;cases mj<;>first|rfl|skip
 rename_i e;cases ae:I.sub q (s y)with
 |none=>simp[zz]
 |some d=>
  cases d<;>first
   |(simp[zz];done)
   |skip
  rename_i sz xs;have hg:(bF xs n).isSome=true↔0<=n/\n.toNat<xs.length:=by
   unfold bF;split<;>simp_all<;>omega
  simp only[zz,hg];by_cases ba:0<=n<;>by_cases ag:(C.T e).ok=true<;>simp[ba,ag]
def xi:od->ar->Option (List UInt8)->Option (I×ar)
 | .str,s,some t=>some (.str t,s)
 |_,_,_=>none
def xj (C:cl):od->ar->List I->Option (List I)->Option (I×ar)
 | .slice e,s,xs,some t=>if(C.T e).ok=true/\∀d∈xs,d.wd=(C.T e).sz then some (.slice t,s)else none
 |_,_,_,_=>none
theorem Nz (C:cl) (s:ar) (T:TypeId) (l:List UInt8):
  (∀k a di b,eE C s T (.str l) (some (.int k a)) (some (.int di b))=xi (C.T T).k s (gB l a b))/\
  (∀di b,eE C s T (.str l) none (some (.int di b))=xi (C.T T).k s (gB l 0 b))/\
  (∀k a,eE C s T (.str l) (some (.int k a)) none=xi (C.T T).k s (gB l a l.length)):=by
 have e:∀(dv an:Option I) (a b:Int),(iN 0 dv=if 0<=a then some a.toNat else none)->(iN l.length an=if 0<=b then some b.toNat else none)->eE C s T (.str l) dv an=xi (C.T T).k s (gB l a b):=by
  intro dv an a b ag ah;simp only[eE];generalize (C.T T).k=mj;cases mj<;>first|rfl|skip
  simp only[ag,ah,gB];by_cases cf:0<=a<;>by_cases ad:0<=b<;>simp only[cf,ad,if_true,if_false,xi,true_and,false_and]
  .by_cases aq:a<=b/\b<=l.length
   .rw[if_pos ⟨by omega,by omega⟩,if_pos aq]
   .rw[if_neg (λh=>aq ⟨by omega,by omega⟩),if_neg aq]
  .rw[if_neg (by omega)]
 exact⟨λk a di b=>e _ _ a b rfl rfl,λdi b=>e _ _ 0 b rfl rfl,λk a=>e _ _ a l.length rfl (by simp[iN])⟩
theorem NA (C:cl) (s:ar) (T:TypeId) (xs:List I):
  (∀k a di b,eE C s T (.slice xs) (some (.int k a)) (some (.int di b))=xj C (C.T T).k s xs (gB xs a b))/\
  (∀di b,eE C s T (.slice xs) none (some (.int di b))=xj C (C.T T).k s xs (gB xs 0 b))/\
  (∀k a,eE C s T (.slice xs) (some (.int k a)) none=xj C (C.T T).k s xs (gB xs a xs.length)):=by
 have e:∀(dv an:Option I) (a b:Int),(iN 0 dv=if 0<=a then some a.toNat else none)->(iN xs.length an=if 0<=b then some b.toNat else none)->eE C s T (.slice xs) dv an=xj C (C.T T).k s xs (gB xs a b):=by
  intro dv an a b ag ah;simp only[eE];generalize (C.T T).k=mj;cases mj<;>first|rfl|skip
  simp only[ag,ah,gB];by_cases cf:0<=a<;>by_cases ad:0<=b<;>simp only[cf,ad,if_true,if_false,xj,true_and,false_and]
  .by_cases aq:a<=b/\b<=xs.length
   .rw[if_pos aq];have ag:a.toNat<=b.toNat:=by omega
    have ah:b.toNat<=xs.length:=by omega
    simp only[ag,ah,true_and]
   .rw[if_neg (λh=>aq ⟨by omega,by omega⟩),if_neg aq]
  .rw[if_neg (by omega)]
 exact⟨λk a di b=>e _ _ a b rfl rfl,λdi b=>e _ _ 0 b rfl rfl,λk a=>e _ _ a xs.length rfl (by simp[iN])⟩
def zA (q:List Nat):Option I->Option I
 |some d=>I.sub q d
 |none=>none
theorem NB:(∀d,I.sub [] d=some d)/\(∀k q az,I.sub (k::q) (.agg az)=zA q az[k]?)/\(∀k q az,I.sub (k::q) (.tuple az)=zA q az[k]?)/\(∀k q sz xs,I.sub (k::q) (.ao sz xs)=zA q xs[k]?)/\
  (∀q d,I.sub (0::q) (.bh d)=I.sub q d)/\(∀q d,zA q (some d)=I.sub q d)/\
  (∀k q a b,I.sub (k::q) (.int a b)=none):=by
 refine⟨λd=>by simp[I.sub],?_,?_,?_,λq d=>by simp[I.sub],λ_ _=>rfl,λ_ _ _ _=>by simp[I.sub]⟩
 .intro k q az;simp only[I.sub];cases az[k]? <;>rfl
 .intro k q az;simp only[I.sub];cases az[k]? <;>rfl
 .intro k q sz az;simp only[I.sub];cases az[k]? <;>rfl
def NC (k:Nat) (q:List Nat) (n:I) (az:List I):Option I->I
 |some d=>.agg (az.set k (I.put q n d))
 |none=>.agg az
def ND (k:Nat) (q:List Nat) (n:I) (az:List I):Option I->I
 |some d=>.tuple (az.set k (I.put q n d))
 |none=>.tuple az
def NF (k:Nat) (q:List Nat) (n:I) (sz:Nat) (xs:List I):Option I->I
 |some d=>.ao sz (xs.set k (I.put q n d))
 |none=>.ao sz xs
theorem NG:(∀n d,I.put [] n d=n)/\(∀k q n az,I.put (k::q) n (.agg az)=NC k q n az az[k]?)/\(∀k q n az,I.put (k::q) n (.tuple az)=ND k q n az az[k]?)/\
  (∀k q n sz xs,I.put (k::q) n (.ao sz xs)=NF k q n sz xs xs[k]?)/\(∀q n d,I.put (0::q) n (.bh d)= .bh (I.put q n d))/\
  (∀k q n az d,NC k q n az (some d)= .agg (az.set k (I.put q n d)))/\(∀k q n az d,ND k q n az (some d)= .tuple (az.set k (I.put q n d)))/\
  (∀k q n sz xs d,NF k q n sz xs (some d)= .ao sz (xs.set k (I.put q n d))):=by
 refine⟨λn d=>by simp[I.put],?_,?_,?_,λq n d=>by simp[I.put],λ_ _ _ _ _=>rfl,λ_ _ _ _ _=>rfl,λ_ _ _ _ _ _=>rfl⟩
 .intro k q n az;simp only[I.put];cases az[k]? <;>rfl
 .intro k q n az;simp only[I.put];cases az[k]? <;>rfl
 .intro k q n sz az;simp only[I.put];cases az[k]? <;>rfl
theorem Iy:(∀k n,I.wd (.int k n)=1)/\(∀b,I.wd (.bool b)=1)/\(∀x,I.wd (.str x)=1)/\(∀x,I.wd (.slice x)=1)/\(∀n x,I.wd (.ao n x)=1)/\(∀x,I.wd (.ref x)=1)/\(∀x,I.wd (.bh x)=1)/\
  I.wd .bz=1/\I.wd .dS=1/\I.wd .hole=1/\I.wd .fs=1/\(∀x y,I.wd (.h x y)=1)/\(∀x y,I.wd (.au x y)=1)/\(∀x y,I.wd (.fn x y)=1)/\(∀az,I.wd (.agg az)=I.eJ az)/\(∀az,I.wd (.tuple az)=I.eJ az)/\I.eJ []=0/\(∀d ds,I.eJ (d::ds)=d.wd+I.eJ ds):=by
 simp[I.wd,I.eJ]
theorem Xc {α:Type} {e:α->I} {n:Nat} (h:∀x,(e x).wd=n) (xs:List α):(∀d∈xs.map e,d.wd=n)=True:=by
 simp only[List.mem_map,eq_iff_iff,iff_true];rintro d ⟨x,_,rfl⟩;exact h x
theorem Xd (C:cl) (s:ar) (A B:TypeId) (k di:IntKind) (n:Int) (jR:(C.T A).ok=true) (h3:(C.T B).k= .int di):gI C s A B (.int k n)=some (.int di (di.wrap n)):=by
 simp only[gI,jR,h3,if_true]
theorem NH (m:Int):lF (rn m)= .int .u8 (IntKind.u8.wrap m):=by
 have h:0<=IntKind.u8.wrap m/\IntKind.u8.wrap m<256:=by rw[IntKind.wrap_u8];omega
 simp only[lF,rn,UInt8.toNat_ofNat'];congr 1;omega
theorem Iz (m:Int):((rn m).toNat:Int)=IntKind.u8.wrap m:=by
 have h:=NH m;simpa [lF]using h
section
variable {C:cl} {l:List (Nat×I)} {Q:Exit->ar->Prop} {s:ar}
theorem ku {ros:List cb} {k:List Nat} (h:cP C (ab l) ros none (λ_ s=>Q .normal (ab (jS k s)))):dc C (.bW ros (some k)) Q (ab l):=uv (λ_ _ h=>h) h
theorem Xe {a b:J} (h:∀eR:Exit->ar->Prop,(∀s,eK (dc C b Q) s->eR .normal s)->(∀s,Q .ret s->eR .ret s)->(∀i s,Q (.exit i) s->eR (.exit i) s)->dc C a eR s):dc C (.seq a b) Q s:=
 h _ (λ_ h=>h) (λ_ h=>h) (λ_ _ h=>h)
theorem cd {ros:List cb} {k:List Nat} {b:J} (h:cP C (ab l) ros none (λ_ s=>dc C b Q (ab (jS k s)))):dc C (.seq (.bW ros (some k)) b) Q (ab l):=uv (λ_ _ h=>.inl h) h
theorem hX {ros:List cb} {h5:List (List Nat)} {k:List Nat} {b:J} (hlen:h5.length=ros.length) (h:cP C (ab l) ros (some []) (λacc s=>nU (wT h5) 0 [] (acc.getD []).reverse=true/\dc C b Q (ab (jS k s)))):
  dc C (.seq (.nR ros h5 (some k)) b) Q (ab l):=W0 (K:=λs=>eK (dc C b Q) (ab (jS k s))) hlen (by
   have key:∀(os:List cb) (s:ar) (acc:Option (List fS)),cP C s os acc (λacc s=>nU (wT h5) 0 [] (acc.getD []).reverse=true/\dc C b Q (ab (jS k s)))->
     cP C s os acc (λacc s=>nU (wT h5) 0 [] (acc.getD []).reverse=true/\eK (dc C b Q) (ab (jS k s))):=by
    intro os;induction os with
    |nil=>intro s acc h;exact⟨h.1,.inl h.2⟩
    |cons o os ih=>
     intro s acc h;have mono:∀{s:ar} {b0:gr} {K dX:List Nat->I->ar->Prop},(∀a b c,K a b c->dX a b c)->o9 C s b0 K->o9 C s b0 dX:=by
      intro s b0 K dX ay h;cases b0 with
      |call f args=>
       obtain⟨g,caps,ps,r,ag,gR,ah,aN,bg,bR,cW,cE,fJ⟩:=h;exact⟨g,caps,ps,r,ag,gR,ah,aN,bg,bR,cW,cE,ay _ _ _ fJ⟩
      |shr b0=>obtain⟨av,s1,ag,ah,aN,bg⟩:=h;exact⟨av,s1,ag,ah,aN,ay _ _ _ bg⟩
      |nL f args u x=>
       obtain⟨b7,cw,g,caps,ps,r,ag,gR,ah,aN,bg,bR,cW,cE,fJ,hT,iB⟩:=h;exact⟨b7,cw,g,caps,ps,r,ag,gR,ah,aN,bg,bR,cW,cE,fJ,hT,ay _ _ _ iB⟩
      |lb f args us=>
       obtain⟨cw,g,caps,ps,r,ag,gR,ah,aN,bg,bR,cW,cE,fJ,hT⟩:=h;exact⟨cw,g,caps,ps,r,ag,gR,ah,aN,bg,bR,cW,cE,fJ,ay _ _ _ hT⟩
      |_=>obtain⟨av,s1,ag,ah⟩:=h;exact⟨av,s1,ag,ay _ _ _ ah⟩
     simp only[cP,ow]at h⊢;split
     .rename_i hg;rw[hg]at h;exact mono (λ_ _ _=>ih _ _) h
     .rename_i t gp hg;rw[hg]at h;simp only at h;split
      .rename_i aHk ae;rw[ae]at h;simp only at h;split
       .rename_i ad;rw[if_pos ad]at h;exact mono (λ_ _ _=>ih _ _) h
       .rename_i ad;rw[if_neg ad]at h;exact ih _ _ h
      .rename_i ae;rw[ae]at h;exact ih _ _ h
      .rename_i ag ah;split at h
       .exact ag _ (by assumption)
       .exact ah (by assumption)
       .exact h
   exact key _ _ _ h)
theorem iW {c:aI} {a b:J} (aq:aP s c= .bool true) (h:dc C a Q s):dc C (.cond c a b) Q s:=by simp only[dc,aq,if_true];exact h
theorem rN {c:aI} {a b:J} (aq:aP s c= .bool false) (h:dc C b Q s):dc C (.cond c a b) Q s:=by simp only[dc,aq];exact h
theorem Xf {id:Nat} {b:J} (h:∀eR:Exit->ar->Prop,(∀s,Q .normal s->eR .normal s)->(∀s,Q .ret s->eR .ret s)->(∀s,Q .normal s->eR (.exit id) s)->(∀i s,i≠id->Q (.exit i) s->eR (.exit i) s)->dc C b eR s):dc C (.block id b) Q s:=
 h (wL id Q) (λ_ h=>h) (λ_ h=>h) (λs h=>by simp only[wL,if_true];exact h) (λi s an h=>by simp only[wL,if_neg an];exact h)
theorem dG {id:Nat} (h:Q (.exit id) s):dc C (.exit id) Q s:=h
theorem aE (h:Q .ret s):dc C .ret Q s:=h
theorem aY (h:Q .normal s):dc C .skip Q s:=h
def du (C:cl) (b:J) (Q:Exit->ar->Prop) (s:ar):Prop:=∀Z:ar->Prop,(∀aB,dc C b (andThen (eK Z) Q) aB->Z aB)->Z s
theorem dH {b:J} (h:eK (du C b Q) s):dc C (.loop b) Q s:=h
theorem Xg {b:J} (h:∀eR:Exit->ar->Prop,(∀s,eK (du C b Q) s->eR .normal s)->(∀s,Q .ret s->eR .ret s)->(∀i s,Q (.exit i) s->eR (.exit i) s)->dc C b eR s):du C b Q s:=by
 intro Z wN;refine wN s (H9 b ?_ (h (andThen (eK (du C b Q)) Q) (λ_ h=>h) (λ_ h=>h) (λ_ _ h=>h)));intro e aB bt;cases e with
 |normal=>exact wM (λs h=>h Z wN) aB bt
 |_=>exact bt
theorem bo {eO:List (Nat×I)} (h:eO.map (·.2)=eO.map λp=>s p.1):zs s eO:=by
 intro p au;left;induction eO with
 |nil=>cases au
 |cons a eO ih=>
  simp only[List.map_cons,List.cons.injEq]at h;rcases List.mem_cons.1 au with rfl|au
  .exact h.1
  .exact ih h.2 au
end
section
variable {C:cl} {l:List (Nat×I)} {Q:Exit->ar->Prop} {s:ar} {os ros:List cb} {K:Option (List fS)->ar->Prop} {dst:Option Nat}
theorem NI (l:List (Nat×I)):(∀n,aP (ab l) (.t n)=jP n (ab l n))/\(∀av,aP (ab l) (.c av)=av)/\(∀g,aP (ab l) (.f g)= .fn g []):=⟨λ_=>rfl,λ_=>rfl,λ_=>rfl⟩
theorem NJ:(∀t,ab [] t= .hole)/\(∀u d (l:List (Nat×I)) t,ab ((u,d)::l) t=if t=u then d else ab l t):=⟨λ_=>rfl,λ_ _ _ _=>rfl⟩
theorem NK (s:ar):jS [] s=[]/\(∀t k,jS (t::k) s=(t,s t)::jS k s):=⟨rfl,λ_ _=>rfl⟩
theorem NL (s:ar):(∀d,dn s (some d)=some (d,s))/\(∀s1,dp (some s1)=some (.hole,s1))/\iV s []=[]/\(∀x xs,iV s (x::xs)=aP s x::iV s xs)/\lf s []=[]/\(∀k x xs,lf s ((k,x)::xs)=(k,aP s x)::lf s xs)/\
  mw s none=none/\(∀x,mw s (some x)=some (aP s x))/\(∀b x y,sU s (.bool b) x y=some (if b=true then x else y,s)):=
 ⟨λ_=>rfl,λ_=>rfl,rfl,λ_ _=>rfl,rfl,λ_ _ _=>rfl,rfl,λ_=>rfl,λb _ _=>by cases b<;>rfl⟩
theorem NM (C:cl):(∀e d,Ix C (.slice e) (some d)=if(C.T e).ok=true/\d.wd=(C.T e).sz then some (.ref d)else none)/\
  (∀y q n e sz xs,zz C y q n (.slice e) (some (.ao sz xs))=if(bF xs n).isSome=true/\(C.T e).ok=true/\sz=(C.T e).sz then some (.au y (q++[n.toNat]))else none)/\
  (∀e s xs t,xj C (.slice e) s xs (some t)=if(C.T e).ok=true/\∀d∈xs,d.wd=(C.T e).sz then some (.slice t,s)else none):=
 ⟨λ_ _=>rfl,λ_ _ _ _ _ _=>rfl,λ_ _ _ _=>rfl⟩
theorem NN:(∀b,Iv .bool b=some (.bool b))/\(∀c,Iw .str (some c)=some (.int .u8 c.toNat))/\(∀s t,xi .str s (some t)=some (.str t,s))/\(∀q d,zA q (some d)=I.sub q d):=
 ⟨λ_=>rfl,λ_=>rfl,λ_ _=>rfl,λ_ _=>rfl⟩
theorem NO (sz bytes:Nat) (z:I):(∀k,hb.ok ⟨.int k,sz,bytes,z⟩=true)/\hb.ok ⟨.bool,sz,bytes,z⟩=true/\hb.ok ⟨.str,sz,bytes,z⟩=true/\(∀e,hb.ok ⟨.ptr e,sz,bytes,z⟩=true)/\(∀e,hb.ok ⟨.slice e,sz,bytes,z⟩=true)/\(∀e,hb.ok ⟨.struct e,sz,bytes,z⟩=true)/\hb.ok ⟨.fn,sz,bytes,z⟩=true:=by
 simp[hb.ok]
theorem NP (sz bytes:Nat) (z:I):(∀k,hb.flat ⟨.int k,sz,bytes,z⟩=true)/\hb.flat ⟨.bool,sz,bytes,z⟩=true/\hb.flat ⟨.str,sz,bytes,z⟩=true/\(∀e,hb.flat ⟨.ptr e,sz,bytes,z⟩=true)/\(∀e,hb.flat ⟨.slice e,sz,bytes,z⟩=true)/\(∀e,hb.flat ⟨.struct e,sz,bytes,z⟩=false)/\hb.flat ⟨.fn,sz,bytes,z⟩=true:=by
 simp[hb.flat]
theorem zB (c:UInt8) (k:IntKind) (ay:k≠.i8):k.wrap (c.toNat:Int)=(c.toNat:Int):=by
 have:=c.toNat_lt;cases k<;>first|(exact(ay rfl).elim)|(simp[IntKind.wrap,IntKind.bits,IntKind.signed];try omega)
theorem IA (c:UInt8):IntKind.i64.wrap (c.toNat:Int)=(c.toNat:Int)/\IntKind.u64.wrap (c.toNat:Int)=(c.toNat:Int)/\IntKind.u8.wrap (c.toNat:Int)=(c.toNat:Int)/\IntKind.i32.wrap (c.toNat:Int)=(c.toNat:Int)/\IntKind.u32.wrap (c.toNat:Int)=(c.toNat:Int):=
 ⟨zB c _ (by simp),zB c _ (by simp),zB c _ (by simp),zB c _ (by simp),zB c _ (by simp)⟩
theorem bJ {k:List Nat} {K:ar->Prop} (eO:List (Nat×I)) (h:∀P:List (Nat×I)->Prop,P eO->cP C (ab l) ros none (λ_ s=>P (jS k s))) (ay:K (ab eO)):cP C (ab l) ros none (λ_ s=>K (ab (jS k s))):=
 h (λl=>K (ab l)) ay
theorem hY {k:List Nat} {nV:List (List Nat)} {K:ar->Prop} (eO:List (Nat×I)) (h:∀P:List (Nat×I)->Prop,P eO->cP C (ab l) ros (some []) (λacc s=>nU nV 0 [] (acc.getD []).reverse=true/\P (jS k s))) (ay:K (ab eO)):
  cP C (ab l) ros (some []) (λacc s=>nU nV 0 [] (acc.getD []).reverse=true/\K (ab (jS k s))):=
 h (λl=>K (ab l)) ay
theorem bk.Xh (bx:C.fc) {f:FuncId} {fn:Func} {c:Code} {dT:J} {fx:List Nat} {as outs:List I} {r:I} (bw:C.P.funcs[f]? =some fn) (ad:fn.body=some c)
  (kP:(fn.name== "runtime.NumGoroutine")=false) (ae:bq ⟨fn.ntmps,fx⟩ c=some dT.strip) (a7:as.length<=fn.ntmps)
  (h:∀Q:Exit->ar->Prop,(∀s,eK (Ends C fx fn.results.toList r outs) s->Q .ret s)->(∀s,eK (Ends C fx fn.results.toList r outs) s->Q .normal s)->dc C dT Q (ab (num 0 as))) (au:dT.plain=true:=by kernel_rfl):bk C f as r outs:=by
 refine bk.of_wp bx bw ad kP ae a7 ?_ au;rw[Ih];exact h _ (λs h=>⟨.inr rfl,h⟩) (λs h=>⟨.inl rfl,h⟩)
def NQ:List I->I
 |[d]=>d
 |ds=>.tuple ds
theorem pa {fx:List Nat} {fM:List ResultVar} {r:I} {outs:List I} (ds:List I) (ag:fM.map (rK C s)=ds.map some) (ah:r=NQ ds) (aN:(fM.map kt).Nodup)
  (bg:∀(i:Nat) (o:I),outs[i]? =some o->o= .hole\/(o=s i/\o.hf=true/\i∈fx/\i∉fM.map kt)):Ends C fx fM r outs s:=.inl ⟨ds,ag,by subst ah;cases ds with|nil=>rfl|cons a t=>cases t<;>rfl,aN,bg⟩
theorem Xi {fx:List Nat} {fM:List ResultVar}:∀(i:Nat) (o:I),([]:List I)[i]? =some o->o= .hole\/(o=s i/\o.hf=true/\i∈fx/\i∉fM.map kt):=λi o h=>by simp at h
theorem NR:∀(as ds:List I),(nh as ds).filter (·.g)=[]
 |[],_=>rfl
 |_::_,[]=>rfl
 |a::as,d::ds=>by simp only[nh,List.filter_cons];exact NR as ds
theorem CF {f:aI} {args:List aI} {g:FuncId} {caps:List I} {K:List Nat->I->ar->Prop} (ds:List I) (r:I)
  (ag:aP (ab l) f= .fn g caps) (gR:I.ef caps=true) (kd:views (ab l) (iV (ab l) args++caps)=some ds)
  (bR:bk C g ds r []) (cW:r.res=true) (cE:I.e1 (iV (ab l) args++caps)=[]\/r.dd=true) (ke:K [] r (ab l)):o9 C (ab l) (.call f args) K:=by
 obtain⟨aX,a6,aQ,cC,cF,cc,b4⟩:=Wu _ _ kd;refine⟨g,caps,nh (iV (ab l) args++caps) ds,r,ag,gR,by rw[aX,wU],λp au=>(aQ p au).1,cC,by rw[a6];exact bR.outs cF.symm,cW,?_,by rw[cc,b4,NR];exact ke⟩;intro hl;refine⟨?_,λp au=>by rw[(aQ p au).2.2.1];rfl⟩;rcases cE with cE|cE
 .exfalso;simp only[kL,List.any_eq_true]at hl;obtain⟨p,au,gE⟩:=hl;have hm:=(aQ p au).2.2.2;have:p.a.ae=[]:=by
   have key:∀(as:List I) (a:I),a∈as->I.e1 as=[]->a.ae=[]:=by
    intro as;induction as with
    |nil=>intro a h;cases h
    |cons b as ih=>
     intro a h he;simp only[I.e1,List.append_eq_nil_iff]at he;rcases List.mem_cons.1 h with rfl|h
     .exact he.1
     .exact ih a h he.2
   exact key _ _ hm cE
  rw[this]at gE;simp at gE
 .exact cE
theorem ez {f:aI} {args:List aI} {g:FuncId} {caps:List I} {ds:List I} {r:I} (bR:bk C g ds r [])
  (ag:aP (ab l) f= .fn g caps) (gR:I.ef caps=true) (kd:views (ab l) (iV (ab l) args++caps)=some ds)
  (cW:r.res=true) (cE:I.e1 (iV (ab l) args++caps)=[]\/r.dd=true)
  (ke:cP C (fin (ab l) dst r) os none K):cP C (ab l) (⟨dst,.call f args,none⟩::os) none K:=by
 simp only[cP,ow,qQ];exact CF ds r ag gR kd bR cW cE ke
theorem j7 {a:List fS} {f:aI} {args:List aI} {g:FuncId} {caps:List I} {ds:List I} {r:I} (bR:bk C g ds r [])
  (ag:aP (ab l) f= .fn g caps) (gR:I.ef caps=true) (kd:views (ab l) (iV (ab l) args++caps)=some ds)
  (cW:r.res=true) (cE:I.e1 (iV (ab l) args++caps)=[]\/r.dd=true)
  (ke:cP C (fin (ab l) dst r) os (some (jT (ab l) (use (ab l) (.call f args)) dst [] r::a)) K):cP C (ab l) (⟨dst,.call f args,none⟩::os) (some a) K:=by
 simp only[cP,ow,qQ];exact CF ds r ag gR kd bR cW cE ke
theorem fT {t:Nat} {b:Bool} {f:aI} {args:List aI} {g:FuncId} {caps:List I} {ds:List I} {r:I} (bR:bk C g ds r [])
  (ag:aP (ab l) f= .fn g caps) (gR:I.ef caps=true) (kd:views (ab l) (iV (ab l) args++caps)=some ds)
  (cW:r.res=true) (cE:I.e1 (iV (ab l) args++caps)=[]\/r.dd=true)
  (ke:cP C (fin (ab l) dst r) os none K):cS C l dst (.call f args) t b os none K (.bool b):=by
 simp only[cS,if_true];exact CF ds r ag gR kd bR cW cE ke
theorem nW {a:List fS} {t:Nat} {b:Bool} {f:aI} {args:List aI} {g:FuncId} {caps:List I} {ds:List I} {r:I} (bR:bk C g ds r [])
  (ag:aP (ab l) f= .fn g caps) (gR:I.ef caps=true) (kd:views (ab l) (iV (ab l) args++caps)=some ds)
  (cW:r.res=true) (cE:I.e1 (iV (ab l) args++caps)=[]\/r.dd=true)
  (ke:cP C (fin (ab l) dst r) os (some (jT (ab l) (t::use (ab l) (.call f args)) dst [] r::a)) K):cS C l dst (.call f args) t b os (some a) K (.bool b):=by
 simp only[cS,if_true];exact CF ds r ag gR kd bR cW cE ke
theorem hq (s:ar):views s []=some []/\(∀d ds,views s (d::ds)=(match view s d,views s ds with|some a,some b=>some (a::b)|_,_=>none))/\
  (∀k n,view s (.int k n)=some (.int k n))/\(∀b,view s (.bool b)=some (.bool b))/\(∀x,view s (.str x)=some (.str x))/\(∀x,view s (.slice x)=some (.slice x))/\(∀x,view s (.ref x)=some (.ref x))/\
  view s .bz=some .bz/\view s .dS=some .dS/\(∀az,view s (.agg az)=some (.agg az))/\(∀f cap,view s (.fn f cap)=(views s cap).map (.fn f)):=by
 refine⟨rfl,λd ds=>?_,λ_ _=>rfl,λ_=>rfl,λ_=>rfl,λ_=>rfl,λ_=>rfl,rfl,rfl,λ_=>rfl,λ_ _=>by simp only[view]⟩;simp only[views];rfl
theorem cm {α:Type} {u e:α->I} (h:∀x,(u x).share=e x) (xs:List α):I.shares (xs.map u)=xs.map e:=by
 rw[I.tL];simp[h]
theorem lg {α:Type} {u:α->I} (h:∀x,(u x).dd=true) (xs:List α):I.hV (xs.map u)=true:=by
 induction xs with
 |nil=>rfl
 |cons x xs ih=>simp only[List.map_cons,I.hV,h,ih,Bool.and_self]
def sV (s:ar) (H:List Nat):List (Nat×I)->Prop
 |[]=>True
 |p::l=>(p.2=s p.1\/((s p.1).tree=true/\fC (s p.1) p.2/\p.1∉H))/\sV s H l
theorem lh {eO:List (Nat×I)} (H:List Nat) (nT:I.e1 (eO.map (·.2))=H) (h:sV s H eO):zs s eO:=by
 have key:∀(hk:List (Nat×I)),sV s H hk->∀p∈hk,p.2=s p.1\/((s p.1).tree=true/\fC (s p.1) p.2/\p.1∉H):=by
  intro hk;induction hk with
  |nil=>intro _ p au;cases au
  |cons a hk ih=>
   intro h p au;rcases List.mem_cons.1 au with rfl|au
   .exact h.1
   .exact ih h.2 p au
 have ae:∀(hk:List (Nat×I)),∀c1∈hk,∀u∈c1.2.ae,u∈I.e1 (hk.map (·.2)):=by
  intro hk;induction hk with
  |nil=>intro p au;cases au
  |cons a hk ih=>
   intro p au u hu;simp only[List.map_cons,I.e1,List.mem_append];rcases List.mem_cons.1 au with rfl|au
   .exact .inl hu
   .exact .inr (ih p au u hu)
 intro p au;rcases key _ h p au with ag|⟨ag,ah,aN⟩
 .exact .inl ag
 .refine .inr ⟨ag,ah,λc1 e_=>.inl λhm=>aN ?_⟩;rw[<-nT];exact ae eO c1 e_ _ hm
theorem lj {H:List Nat}:sV s H []:=trivial
theorem jb {H:List Nat} {t:Nat} {d:I} {eO:List (Nat×I)} (h:d=s t) (hl:sV s H eO):sV s H ((t,d)::eO):=⟨.inl h,hl⟩
theorem lk {H:List Nat} {t:Nat} {d bE:I} {eO:List (Nat×I)} (e:s t=d) (bj:d.tree=true) (aj:fC d bE) (nT:t∉H) (hl:sV s H eO):sV s H ((t,bE)::eO):=⟨.inr ⟨by rw[e];exact bj,by rw[e];exact aj,nT⟩,hl⟩
theorem NS {a b:I} (h:fC a b):∀n,ld (List.replicate n a) (List.replicate n b)
 |0=>.nil
 |n+1=>by simp only[List.replicate_succ];exact .cons h (NS h n)
theorem CG {α:Type} {sz:Nat} {u:α->I} {z:α} {a:I} (h:fC a (u z)) (n:Nat):fC (.ao sz (List.replicate n a)) (.ao sz ((List.replicate n z).map u)):=by
 rw[List.map_replicate];exact .ao (NS h n)
end
theorem CH {C:cl} {A B:TypeId} {di:IntKind} (jR:(C.T A).ok=true) (h3:(C.T B).k= .int di):∀s k n,gI C s A B (.int k n)=some (.int di (di.wrap n)):=λs k n=>Xd C s A B k di n jR h3
def NT:Option I->Option I
 |some (.ao 1 xs)=>(bytesOf xs).map .str
 |_=>none
theorem NU {C:cl} {A B e:TypeId} (jR:(C.T A).k= .slice e) (h3:(C.T B).k= .str) (he:(C.T e).k= .int .u8):
  (∀s xs,gI C s A B (.slice xs)=(bytesOf xs).map .str)/\(∀s,gI C s A B .bz=some (.str []))/\(∀s x q,gI C s A B (.h x q)=NT (I.sub q (s x))):=by
 have y5:(C.T A).ok=true:=by simp[hb.ok,jR]
 refine⟨λs xs=>?_,λs=>?_,λs x q=>?_⟩
 .simp only[gI,y5,jR,h3,he,if_true]
 .simp only[gI,y5,jR,h3,he,if_true]
 .simp only[gI,y5,jR,h3,he,if_true];rfl
theorem NV (xs:List I):NT (some (.ao 1 xs))=(bytesOf xs).map .str:=rfl
theorem NW (c:UInt8) (r:List I):bytesOf (lF c::r)=(bytesOf r).map (c::·):=by
 have:=c.toNat_lt;simp only[lF,bytesOf];rw[if_pos (by omega)];simp
theorem NX:bytesOf []=some []/\(∀l:List UInt8,bytesOf (l.map lF)=some l)/\(∀(c:UInt8) r,bytesOf (.int .u8 (c.toNat:Int)::r)=(bytesOf r).map (c::·))/\
  (∀m r,bytesOf (.int .u8 (IntKind.u8.wrap m)::r)=(bytesOf r).map (rn m::·)):=
 ⟨rfl,Uf,λc r=>NW c r,λm r=>by rw[<-NH];exact NW _ r⟩
theorem Xj {k:IntKind} {b:Int} (h:b≠0):∀a,jQ .quo k a k b=some (.int k (k.wrap (a.tdiv b))):=λ_=>Xa h
theorem NY {k:IntKind} {b:Int} (h:b≠0):∀a,jQ .rem k a k b=some (.int k (a.tmod b)):=λ_=>Xb h
theorem pb {α:Type} {e:α->I} {n:Nat} (h:∀x,(e x).wd=n):∀xs:List α,(∀d∈xs.map e,d.wd=n)=True:=Xc h
theorem all_cons {P:I->Prop} (d:I) (ds:List I):(∀x∈d::ds,P x)=(P d/\∀x∈ds,P x):=by simp
theorem all_nil {P:I->Prop}:(∀x∈([]:List I),P x)=True:=by simp
def NZ (a b:List UInt8):Option Unit->Option I
 |some _=>some (.str (a++b))
 |none=>none
theorem uA (a b:List UInt8):oh .add a b=NZ a b (mU (a.length+b.length)):=by
 simp only[oh,mU];split<;>rfl
theorem uB (a b:List UInt8) (u:Unit):NZ a b (some u)=some (.str (a++b)):=rfl
theorem N0:(∀l:List Nat,[]++l=l)/\(∀a (l m:List Nat),(a::l)++m=a::(l++m)):=⟨λ_=>rfl,λ_ _ _=>rfl⟩
def N1 (C:cl) (e bZ:TypeId):Bool:=(C.T e).ok&&((C.T e).zero.wd==(C.T e).sz)&&(flat (C.T e).zero).isSome&&Ca C e bZ
def CI (C:cl) (e:TypeId) (xs:List I):Option (List I×ar)->Option (I×ar)
 |some (cK,s2)=>if(∀d∈cK,d.wd=(C.T e).sz)/\(room (C.T e).bytes (xs.length+cK.length)).isSome=true then some (.ao (C.T e).sz (xs++cK),s2)else none
 |none=>none
def IB (C:cl) (e:TypeId) (y:I) (o:Option Nat):Option (I×ar)->Option (I×ar)
 |some (.ao sz xs,s1)=>if sz=(C.T e).sz then CI C e xs (mq s1 (lV o y))else none
 |_=>none
theorem Xk (b n:Nat):(room b n).isSome=true↔n*b<=140737488355328/\n<=9223372036854775807:=by unfold room;split<;>simp_all
theorem sW {C:cl} {T bZ e:TypeId} (k8:(C.T T).k= .slice e) (hp:N1 C e bZ=true):∀s x y,nd C s T bZ x y=IB C e y x.owner (qK C e s x):=by
 intro s x y;simp only[N1,Bool.and_eq_true,beq_iff_eq]at hp;rw[HL,k8];simp only;rw[if_pos ⟨hp.1.1.1,hp.1.1.2,hp.1.2,hp.2⟩];generalize x.owner=o;cases qK C e s x with
 |none=>rfl
 |some p=>
  obtain⟨d,s1⟩:=p;cases d<;>first
   |rfl
   |(simp only[IB]
     split
     .rename_i h;subst h;generalize mq s1 (lV o y)=z;cases z with
      |none=>rfl
      |some p=>simp only[CI,Xk]
     .rfl)
def N2:Option (I×ar)->Option (List I×ar)
 |some (.ao _ cK,s2)=>some (cK,s2)
 |_=>none
theorem sX (s:ar):mq s .bz=some ([],s)/\(∀cK,mq s (.slice cK)=some (cK,s))/\(∀l,mq s (.str l)=some (l.map lF,s))/\
  (∀a q,mq s (.h a q)=N2 (db s (.h a q)))/\(∀n cK,N2 (some (.ao n cK,s))=some (cK,s)):=
 ⟨rfl,λ_=>rfl,λ_=>rfl,λ_ _=>by simp only[mq];rfl,λ_ _=>rfl⟩
theorem sY (C:cl) (e:TypeId):(∀s,qK C e s .bz=some (.ao (C.T e).sz [],s))/\(∀s a q,qK C e s (.h a q)=db s (.h a q))/\
  (∀y o sz xs s1,IB C e y o (some (.ao sz xs,s1))=if sz=(C.T e).sz then CI C e xs (mq s1 (lV o y))else none)/\
  (∀xs cK s2,CI C e xs (some (cK,s2))=if(∀d∈cK,d.wd=(C.T e).sz)/\(room (C.T e).bytes (xs.length+cK.length)).isSome=true then some (.ao (C.T e).sz (xs++cK),s2)else none):=
 ⟨λ_=>rfl,λ_ _ _=>rfl,λ_ _ _ _ _=>rfl,λ_ _ _=>rfl⟩
theorem sZ:(∀d,lV none d=d)/\(∀x d,lV (some x) d=ct x d)/\(∀x q,I.owner (.h x q)=some x)/\I.owner .bz=none:=
 ⟨λ_=>rfl,λ_ _=>rfl,λ_ _=>rfl,rfl⟩
def N3 (s:ar) (x:Nat) (q:List Nat):Option I->Option (I×ar)
 |some d=>if d.plain=true then none else some (d,dD (iO x s) x (I.put q d.dz (s x)))
 |none=>none
theorem N4 (s:ar) (x:Nat) (q:List Nat):db s (.h x q)=N3 s x q (I.sub q (s x)):=by
 simp only[db];cases I.sub q (s x)<;>rfl
theorem N5 (s:ar):(∀x q d,N3 s x q (some d)=if d.plain=true then none else some (d,dD (iO x s) x (I.put q d.dz (s x))))/\(∀k n,db s (.int k n)=some (.int k n,s))/\(∀b,db s (.bool b)=some (.bool b,s))/\(∀x,db s (.str x)=some (.str x,s))/\
  (∀x,db s (.slice x)=some (.slice x,s))/\(∀x,db s (.ref x)=some (.ref x,s))/\(∀x,db s (.agg x)=some (.agg x,s))/\db s .bz=some (.bz,s)/\db s .dS=some (.dS,s):=
 ⟨λ_ _ _=>rfl,λ_ _=>rfl,λ_=>rfl,λ_=>rfl,λ_=>rfl,λ_=>rfl,λ_=>rfl,rfl,rfl⟩
theorem N6 (l:List (Nat×I)) (t:Nat) (d:I):dD (ab l) t d=ab ((t,d)::l):=lH l t d
theorem N7:(∀n x,I.dz (.ao n x)= .hole)/\(∀x,I.dz (.bh x)= .hole)/\(∀az,I.dz (.agg az)= .agg (I.me az))/\(∀az,I.dz (.tuple az)= .tuple (I.me az))/\I.me []=[]/\(∀d ds,I.me (d::ds)=d.dz::I.me ds)/\
  (∀k n,I.dz (.int k n)= .int k n)/\(∀b,I.dz (.bool b)= .bool b)/\(∀x,I.dz (.str x)= .str x)/\(∀x,I.dz (.slice x)= .slice x)/\(∀x,I.dz (.ref x)= .ref x)/\I.dz .bz= .bz/\I.dz .dS= .dS/\I.dz .hole= .hole:=by
 simp[I.dz,I.me]
def uC:Option I->Option I
 |some d=>(match d with| .tuple _=>none| .eD _=>none|d=>if d.plain=true then none else some d.share)
 |none=>none
def uD:Option I->Option I
 |some d=>(match d with| .tuple _=>none|d=>some (.ref d.share))
 |none=>none
theorem hr (s:ar) (x:Nat) (q:List Nat):view s (.h x q)=uC (I.sub q (s x))/\view s (.au x q)=(if I.gd q (s x)=true then uD (I.sub q (s x))else none):=by
 constructor
 .simp only[view];rfl
 .simp only[view];rfl
theorem hs:(∀n xs,uC (some (.ao n xs))=some (.slice (I.shares xs)))/\(∀d,uC (some (.bh d))=some (.ref d.share))/\(∀az,uC (some (.agg az))=if I.ef az=true then none else some (.agg (I.shares az)))/\
  (∀az,uD (some (.agg az))=some (.ref (.agg (I.shares az))))/\(∀k n,uD (some (.int k n))=some (.ref (.int k n)))/\(∀x,uD (some (.str x))=some (.ref (.str x))):=
 ⟨λ_ _=>by simp[uC,I.plain,I.share],λ_=>by simp[uC,I.plain,I.share],λaz=>by cases h:I.ef az<;>simp[uC,I.plain,I.share,h],λ_=>by simp[uD,I.share],λ_ _=>by simp[uD,I.share],λ_=>by simp[uD,I.share]⟩
theorem dI:(∀n xs,I.share (.ao n xs)= .slice (I.shares xs))/\(∀d,I.share (.bh d)= .ref d.share)/\(∀xs,I.share (.slice xs)= .slice (I.shares xs))/\(∀d,I.share (.ref d)= .ref d.share)/\(∀az,I.share (.agg az)= .agg (I.shares az))/\(∀az,I.share (.tuple az)= .tuple (I.shares az))/\
  (∀k n,I.share (.int k n)= .int k n)/\(∀b,I.share (.bool b)= .bool b)/\(∀x,I.share (.str x)= .str x)/\I.share .bz= .bz/\I.share .dS= .dS/\I.shares []=[]/\(∀d ds,I.shares (d::ds)=d.share::I.shares ds):=by
 simp[I.share,I.shares]
theorem dN:(∀k n,I.owner (.int k n)=none)/\(∀b,I.owner (.bool b)=none)/\(∀x,I.owner (.str x)=none)/\(∀x,I.owner (.slice x)=none)/\(∀x,I.owner (.ref x)=none)/\(∀x,I.owner (.agg x)=none)/\I.owner .dS=none/\I.owner .bz=none/\(∀x q,I.owner (.h x q)=some x):=
 ⟨λ_ _=>rfl,λ_=>rfl,λ_=>rfl,λ_=>rfl,λ_=>rfl,λ_=>rfl,rfl,rfl,λ_ _=>rfl⟩
end Go.c_
