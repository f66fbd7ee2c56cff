/- Part of a proof that a law returns true for every input. No condition. -/
import Derived.Test.YtklcmlnabkfneaaGreatFwE
import Derived.Orders
import Derived.KernelRfl
import Derived.Test.YtklcmlnabkfneaaGreatFwA
namespace Go.de
open Go.IntKind Nat Or
section
variable {C:ca} {w0 w:World} {F0 X:Nat->Prop} {n:Fr} {ρ:Nat->Value} {s s1:aw} {a:Act} {av:I} {Q:Exit->Act->World->Prop}
def ch.un (o:ch):ch:=⟨o.dst,o.bV.base,o.guard⟩
theorem xZ {ops:Array Oper}:∀{os:List Oper} {rs:List ch},pZ n ops os=some rs->os.length=rs.length/\∀(i:Nat) (o:Oper),os[i]? =some o->∃r,rs[i]? =some r/\pY n ops o=some r:=by
 intro os;induction os with
 |nil=>intro rs h;simp only[pZ,Option.some.injEq]at h;subst h;exact⟨rfl,λi o h=>by simp at h⟩
 |cons o os ih=>
  intro rs h;simp only[pZ]at h;split at h
  .rename_i r aj3 ab ae;simp only[Option.some.injEq]at h;subst h;obtain⟨b3,cc⟩:=ih ae;refine⟨by simp[b3],λi mh bE=>?_⟩;cases i with
   |zero=>simp at bE;subst bE;exact⟨r,rfl,ab⟩
   |succ i=>simpa using cc i mh (by simpa using bE)
  .cases h
theorem Bj {o:Oper} {y:Nat->alS} (h:o.guard=none):Region.wanted o y=true:=by simp[Region.wanted,h]
theorem T8 (h:Rel w0 F0 X n ρ s a w) {ops:Array Oper} {j t:Nat} (bm:(ops[j]?).bind (·.dst)=some t):
  (∀b,s t= .bool b->yielded ops a.tmps j=some b)/\(s t= .tuple []->yielded ops a.tmps j=none):=by
 obtain⟨ai,ad,bo,F,S,aM⟩:=h;have ix:=aM.dp t;refine⟨λb R=>?_,λR=>?_⟩
 .rw[R]at ix;have aJ:=rV ix;simp only[yielded,bm,Option.bind_some];rw[Array.getD_eq_getD_getElem?]at aJ;cases bR:a.tmps[t]? with
  |none=>rw[bR]at aJ;simp[undef]at aJ
  |some v=>rw[bR]at aJ;simp at aJ;subst aJ;rfl
 .rw[R]at ix;obtain⟨⟨arr,ab,ae⟩,_⟩:=(aH.cv (d:=.tuple []) rfl).1 ix;simp only[yielded,bm,Option.bind_some];rw[Array.getD_eq_getD_getElem?]at ab;cases bR:a.tmps[t]? with
  |none=>rfl
  |some v=>rw[bR]at ab;simp at ab;subst ab;rfl
theorem Fq (bn:C.Ok) {ops:Array Oper} {ros:List ch} {l2:alR} {K:aw->Prop} (aS:∀aB cL aF,K aB->Rel w0 F0 X n ρ aB cL aF->wpOps C.P ops Q l2 cL aF):
  ∀(l:alR),(∀i∈l,(ops[i]? =none->ros[i]? =none)/\∀o,ops[i]? =some o->∃r,ros[i]? =some r/\pY n ops o=some r.un)->
  ∀(s:aw) (a:Act) (w:World),j6 C ros s l K->Rel w0 F0 X n ρ s a w->wpOps C.P ops Q (l++l2) a w:=by
 intro l;induction l with
 |nil=>intro _ s a w h aM;exact aS s a w h aM
 |cons i l ih=>
  intro nt s a w h aM;replace ih:=ih λi ao=>nt i (List.mem_cons_of_mem _ ao);rw[List.cons_append];simp only[wpOps];cases bE:ops[i]? with
  |none=>
   simp only[j6,(nt i (by simp)).1 bE]at h;exact ih s a w h aM
  |some o=>
   obtain⟨r,ab,ae⟩:=(nt i (by simp)).2 o bE;simp only[j6,ab]at h;show(if Region.wanted o (yielded ops a.tmps)=true then o.wp C.P a w (wpOps C.P ops Q (l++l2)) Q\/(o.asks C.P a w/\LetsOut Q)else wpOps C.P ops Q (l++l2) (a.put o.dst undef) w);simp only[pY]at ae;split at ae
   .rename_i Bk;split at ae
    .rename_i g bR;obtain⟨rd,bV,rg⟩:=r;simp only[ch.un,Option.some.injEq,ch.mk.injEq]at ae;obtain⟨rfl,cx,rfl⟩:=ae;simp only[lZ]at h;have run:∀(dz:aw->Prop),(∀aB,dz aB->j6 C ros aB l K)->oc C s bV (λav s1=>dz (fin s1 o.dst av))->o.wp C.P a w (wpOps C.P ops Q (l++l2)) Q:=
      λdz hK hw=>T6 bn aM cx Bk hw (λaB cL aF ax eG=>ih aB cL aF (hK aB ax) eG)
     cases u1:o.guard with
     |none=>
      rw[u1]at bR;simp only[xS,Option.some.injEq]at bR;subst bR;simp only at h;rw[if_pos (Bj u1)];exact .inl (run _ (λ_ h=>h) h)
     |some Fs=>
      obtain⟨j,b⟩:=Fs;rw[u1]at bR;simp only[xS]at bR;split at bR
      .rename_i t a8;simp only[Option.some.injEq]at bR;subst bR;simp only at h;obtain⟨eo,gu⟩:=T8 aM a8;have L1:∀(dz:j6 C ros (fin s o.dst (.tuple [])) l K),wpOps C.P ops Q (l++l2) (a.put o.dst undef) w:=λdz=>ih _ _ _ dz (Rel.skip aM Bk);split at h
       .rename_i fH ad;have bb:=eo fH ad;split at h
        .rename_i R;subst R;rw[if_pos (by simp[Region.wanted,u1,bb])];exact .inl (run _ (λ_ h=>h) h)
        .rename_i R;rw[if_neg (by simp[Region.wanted,u1,bb,R])];exact L1 h
       .rename_i ad;have bb:=gu ad;rw[if_neg (by simp[Region.wanted,u1,bb])];exact L1 h
       .exact h.elim
      .cases bR
    .cases ae
   .cases ae
theorem L2 (bn:C.Ok) {ops:Array Oper} {ros:List ch} (r7:pZ n ops ops.toList=some (ros.map ch.un)) {K:aw->Prop} (aS:∀aB cL aF,K aB->Rel w0 F0 X n ρ aB cL aF->Q .normal cL aF):
  ∀(l:alR) (s:aw) (a:Act) (w:World),j6 C ros s l K->Rel w0 F0 X n ρ s a w->wpOps C.P ops Q l a w:=by
 obtain⟨hl,nt⟩:=xZ r7;intro l s a w h aM;have:=Fq (Q:=Q) bn (ros:=ros) (ops:=ops) (l2:=[]) (K:=K) (n:=n) (ρ:=ρ) (w0:=w0) (F0:=F0) (X:=X) (λaB cL aF ax eG=>aS aB cL aF ax eG) l (λi _=>⟨λbE=>by
   rw[List.getElem?_eq_none_iff,<-List.length_map (f:=ch.un),<-hl];have:=Array.getElem?_eq_none_iff.1 bE;simpa using this,λo bE=>by
   obtain⟨aj,iT,ae⟩:=nt i o (by simpa using bE);obtain⟨r,ab,rfl⟩:∃r,ros[i]? =some r/\r.un=aj:=by simpa using iT
   exact⟨r,ab,ae⟩⟩) s a w h aM
 rwa [List.append_nil]at this
theorem Rel.drawn (h:Rel w0 F0 X n ρ s a w) (k:Nat) (ax:w.drawn<=k):Rel w0 F0 X n ρ s a {w with drawn:=k}:=by
 obtain⟨ab,ae,bo,F,S,az⟩:=h;exact⟨ab,ae,bo,F,S,az.grow (λ_ _=>rfl) (Nat.le_refl _) rfl rfl ⟨rfl,λ_=>ax⟩⟩
theorem T9 (bn:C.Ok) {id:Nat} {ops:Array Oper} {ros:List ch} (r7:pZ n ops ops.toList=some (ros.map ch.un)) {K:aw->Prop} (aS:∀aB cL aF,K aB->Rel w0 F0 X n ρ aB cL aF->Q .normal cL aF)
  (h:lC C s ros K) (aM:Rel w0 F0 X n ρ s a w):(Code.region id ops false).wp C.P Q a w:=by
 refine wp_region (L2 bn r7 aS _ s a w ?_ aM);have:=TT C K ros [] s h;have hl:=(xZ r7).1;simp only[List.nil_append,List.length_nil,Nat.add_zero,List.map_id']at this;rw[List.length_map]at hl;rw[<-hl]at this;simpa using this
end
def Ft (oS:alP) (l:alR):Prop:=
 l.Nodup/\(∀i,i∈l↔i<oS.length)/\∀u i v,l=u++i::v->∀e∈(oS[i]?).getD [],e∈u
def od (ops:Array Oper):alP:=ops.toList.map λo=>(o.after.toList.filter λe=>Region.binds .any e).map (·.on)
def x0 (oS:alP):Bool:=oS.zipIdx.all λp=>p.1.all λe=>decide (e<p.2)
theorem T_ {oS:alP} (h:x0 oS=true) {i:Nat} {l:alR} (ao:oS[i]? =some l):∀e∈l,e<i:=by
 intro e he;simp only[x0,List.all_eq_true]at h;have:=h (l,i) (by rw[List.mem_zipIdx_iff_getElem?];exact ao) e he;simpa using this
theorem Ua {ops:Array Oper} (R:x0 (od ops)=true):∀(fuel t:Nat) (gw:Array Bool),gw.size=ops.size->((List.range ops.size).filter λi=> !gw.getD i true).length<=fuel->
  (Region.linearise.go .any ops fuel t gw []).Nodup/\(∀i,i∈Region.linearise.go .any ops fuel t gw []↔(i<ops.size/\gw.getD i true=false))/\
   ∀u i v,Region.linearise.go .any ops fuel t gw []=u++i::v->∀e∈((od ops)[i]?).getD [],gw.getD e false=true\/e∈u:=by
 intro fuel;induction fuel with
 |zero=>
  intro t gw ad hl;have xx:((List.range ops.size).filter λi=> !gw.getD i true)=[]:=List.length_eq_zero_iff.1 (le_zero.1 hl);refine⟨by simp[Region.linearise.go],λi=>?_,λu i v h=>by simp[Region.linearise.go]at h⟩;simp only[Region.linearise.go,List.reverse_nil,List.not_mem_nil,false_iff,not_and];intro ao bo;have:i∈((List.range ops.size).filter λi=> !gw.getD i true):=List.mem_filter.2 ⟨List.mem_range.2 ao,by rw[bo];rfl⟩;rw[xx]at this;cases this
 |succ fuel ih=>
  intro t gw ad hl;have L3:∀i,i∈Region.ready .any ops gw↔(i<ops.size/\gw.getD i true=false/\∀e∈((od ops)[i]?).getD [],gw.getD e false=true):=by
   intro i;simp only[Region.ready,List.mem_filter,List.mem_range,Bool.and_eq_true,Bool.not_eq_true'];constructor
   .rintro⟨ab,ae,az⟩;refine⟨ab,ae,?_⟩;rw[Array.getElem?_eq_getElem ab]at az;simp only[Option.map_some,Option.getD_some,Array.all_eq_true_iff_forall_mem]at az;simp only[od,List.getElem?_map,Array.getElem?_toList,Array.getElem?_eq_getElem ab,Option.map_some,Option.getD_some,List.mem_map,List.mem_filter];rintro e ⟨x,⟨au,th⟩,rfl⟩;have:=az x (by simpa using au);simpa [th]using this
   .rintro⟨ab,ae,az⟩;refine⟨ab,ae,?_⟩;rw[Array.getElem?_eq_getElem ab];simp only[Option.map_some,Option.getD_some,Array.all_eq_true_iff_forall_mem];simp only[od,List.getElem?_map,Array.getElem?_toList,Array.getElem?_eq_getElem ab,Option.map_some,Option.getD_some,List.mem_map,List.mem_filter]at az;intro x au;cases th:Region.binds .any x with
    |false=>simp
    |true=>simpa using az x.on ⟨x,⟨by simpa using au,th⟩,rfl⟩
  have hex:(∃i,i<ops.size/\gw.getD i true=false)->Region.ready .any ops gw≠[]:=by
   rintro⟨i,ab,ae⟩;have:∃i,(i<ops.size/\gw.getD i true=false)/\∀j,j<i->¬(j<ops.size/\gw.getD j true=false):=by
    induction i using Nat.strongRecOn with
    |_ i Ub=>
     by_cases bm:∃j,j<i/\(j<ops.size/\gw.getD j true=false)
     .obtain⟨j,Uc,Bl,Ud⟩:=bm;exact Ub j Uc Bl Ud
     .exact⟨i,⟨ab,ae⟩,λj Ue an=>bm ⟨j,Ue,an⟩⟩
   obtain⟨k,⟨b3,cc⟩,eT⟩:=this;have:k∈Region.ready .any ops gw:=(L3 k).2 ⟨b3,cc,λe he=>by
    cases cg:(od ops)[k]? with
    |none=>rw[cg]at he;simp at he
    |some l=>
     rw[cg]at he;have dv:=T_ R cg e he;have:=eT e dv;rw[not_and]at this;have:=this (by omega);have nu:e<gw.size:=by omega
     simp only[Array.getD_eq_getD_getElem?,Array.getElem?_eq_getElem nu,Option.getD_some]at this⊢;simpa using this⟩
   intro e;rw[e]at this;cases this
  have L4:Region.linearise.go .any ops (fuel+1) t gw []=(match(Region.ready .any ops gw)[t%(Region.ready .any ops gw).length]? with
   |some i=>Region.linearise.go .any ops fuel (t/(Region.ready .any ops gw).length) (gw.setIfInBounds i true) [i]
   |none=>[]):=rfl
  cases x1:(Region.ready .any ops gw)[t%(Region.ready .any ops gw).length]? with
  |none=>
   have xx:Region.ready .any ops gw=[]:=by
    cases aM:Region.ready .any ops gw with
    |nil=>rfl
    |cons a l=>
     rw[aM]at x1;have:=List.getElem?_eq_none_iff.1 x1;have ae:=mod_lt t (show 0<(a::l).length by simp);omega
   rw[L4,x1];refine⟨by simp,λi=>?_,λu i v h=>by simp at h⟩;simp only[List.not_mem_nil,false_iff];intro ao;exact hex ⟨i,ao⟩ xx
  |some i=>
   have ao:=(L3 i).1 (List.mem_of_getElem? x1);obtain⟨Fu,L5,Uf⟩:=ao;rw[L4,x1];simp only;rw[linearise_go_acc];simp only[List.reverse_singleton,List.singleton_append];have rU:∀j d,(gw.setIfInBounds i true).getD j d=if j=i then true else gw.getD j d:=by
    intro j d;split
    .rename_i e;subst e;simp[Array.getD_eq_getD_getElem?,Array.getElem?_setIfInBounds_self_of_lt (show j<gw.size by omega)]
    .rename_i e;simp[Array.getD_eq_getD_getElem?,Array.getElem?_setIfInBounds_ne (λh=>e h.symm)]
   obtain⟨g1,g2,g3⟩:=ih (t/(Region.ready .any ops gw).length) (gw.setIfInBounds i true) (by simpa using ad) (by
    have fj:((List.range ops.size).filter λj=> !(gw.setIfInBounds i true).getD j true)=((List.range ops.size).filter λi=> !gw.getD i true).filter λj=>decide (j≠i):=by
     rw[List.filter_filter];apply List.filter_congr;intro j _;rw[rU];by_cases e:j=i<;>simp[e]
    rw[fj];have dv:(((List.range ops.size).filter λi=> !gw.getD i true).filter λj=>decide (j≠i)).length<((List.range ops.size).filter λi=> !gw.getD i true).length:=by
     rw[List.length_filter_lt_length_iff_exists];exact⟨i,List.mem_filter.2 ⟨List.mem_range.2 Fu,by rw[L5];rfl⟩,by simp⟩
    omega)
   refine⟨?_,λj=>?_,?_⟩
   .rw[List.nodup_cons];refine⟨λhm=>?_,g1⟩;have:=((g2 i).1 hm).2;rw[rU,if_pos rfl]at this;cases this
   .rw[List.mem_cons,g2,rU];by_cases e:j=i
    .subst e;simp[Fu,L5]
    .simp[e]
   .intro u j v h e he;cases u with
    |nil=>
     simp only[List.nil_append,List.cons.injEq]at h;obtain⟨rfl,rfl⟩:=h;exact .inl (Uf e he)
    |cons Bm u=>
     simp only[List.cons_append,List.cons.injEq]at h;obtain⟨rfl,h⟩:=h;rcases g3 u j v h e he with bC|bC
     .rw[rU]at bC;split at bC
      .rename_i f_;subst f_;exact .inr (by simp)
      .exact .inl bC
     .exact .inr (by simp[bC])
theorem Ug {ops:Array Oper} (R:x0 (od ops)=true) (t:Nat):Ft (od ops) (Region.linearise .any ops t):=by
 have L6:∀i d,i<ops.size->(Array.replicate ops.size false).getD i d=false:=by
  intro i d ao;simp[Array.getD_eq_getD_getElem?,ao]
 obtain⟨g1,g2,g3⟩:=Ua R ops.size t (Array.replicate ops.size false) (by simp) (by
  have:=List.length_filter_le (λi=> !(Array.replicate ops.size false).getD i true) (List.range ops.size);simpa using this)
 have hlen:(od ops).length=ops.size:=by simp[od]
 refine⟨g1,λi=>?_,λu i v h e he=>?_⟩
 .rw[hlen];rw[show Region.linearise .any ops t=Region.linearise.go .any ops ops.size t (Array.replicate ops.size false) []from rfl,g2];exact⟨λh=>h.1,λh=>⟨h,L6 i true h⟩⟩
 .rcases g3 u i v h e he with bC|bC
  .exfalso;by_cases L7:e<ops.size
   .rw[L6 e false L7]at bC;cases bC
   .simp[Array.getD_eq_getD_getElem?,L7]at bC
  .exact bC
def ay:alV->aw
 |[],_=>.hole
 |(u,d)::l,t=>if t=u then d else ay l t
mutual
inductive e4:I->I->Prop
 |refl (d:I):e4 d d
 |kN (sz:Nat):e4 .bd (.ag sz [])
 |p1:e4 .bd (.slice [])
 |any (b:Bool):e4 (.bool b) .fm
 |share (d:I):d.tree=true->(∀vs,d≠.tuple vs)->(∀o,d≠.dS o)->(∀f c,d≠.fJ f c)->e4 d d.share
 |agg {ds es:alW}:jz ds es->e4 (.agg ds) (.agg es)
 |bf {d e:I}:e4 d e->e4 (.bf d) (.bf e)
 |ag {sz:Nat} {ds es:alW}:jz ds es->e4 (.ag sz ds) (.ag sz es)
 |tuple {ds es:alW}:jz ds es->e4 (.tuple ds) (.tuple es)
 |ref {d e:I}:e4 d e->e4 (.ref d) (.ref e)
 |trans {d e f:I}:e4 d e->e4 e f->e4 d f
inductive jz:alW->alW->Prop
 |nil:jz [] []
 |cons {d e:I} {ds es:alW}:e4 d e->jz ds es->jz (d::ds) (e::es)
end
mutual
theorem e4.wd:∀{d e:I},e4 d e->e.wd=d.wd
 |_,_,.refl _=>rfl
 |_,_,.kN _=>rfl
 |_,_,.p1=>rfl
 |_,_,.any _=>rfl
 |_,_,.share d _ _ _ _=>I.AM d
 |_,_,.agg h=>by simp only[I.wd];exact jz.wd h
 |_,_,.bf _=>rfl
 |_,_,.ag _=>rfl
 |_,_,.tuple h=>by simp only[I.wd];exact jz.wd h
 |_,_,.ref _=>rfl
 |_,_,.trans h k=>(e4.wd k).trans (e4.wd h)
theorem jz.wd:∀{ds es:alW},jz ds es->I.ef es=I.ef ds
 |_,_,.nil=>rfl
 |_,_,.cons h ad=>by simp only[I.ef];rw[e4.wd h,jz.wd ad]
end
theorem jz.len {ds es:alW} (h:jz ds es):es.length=ds.length:=by
 induction ds generalizing es with
 |nil=>cases h;rfl
 |cons d ds ih=>cases h with|cons h ad=>simp[ih ad]
theorem jz.all {sz:Nat} {ds es:alW} (h:jz ds es) (ai:∀d∈ds,d.wd=sz):∀d∈es,d.wd=sz:=by
 induction ds generalizing es with
 |nil=>cases h;intro d ai;cases ai
 |cons d ds ih=>
  cases h with
  |cons h ad=>
   intro x au;rcases List.mem_cons.1 au with rfl|au
   .rw[h.wd];exact ai d (by simp)
   .exact ih ad (λd hm=>ai d (by simp[hm])) x au
section
variable {w0 w:World} {F0 X F:Nat->Prop} {S:Nat->Nat->Prop} {s aB:aw} {aC:Nat->Value}
def Uh (w:World) (F:Nat->Prop) (_d e:I) (cs:alU) (S:Nat->Prop):Prop:=
 ∃ib ic:Nat->Prop,(∀b,ib b->S b)/\(∀b,ic b->S b)/\(∀b,ic b->¬ib b)/\∀bO,(∀b,F b\/ib b->bO b)->ar w bO e cs ic
mutual
theorem ar.oT:∀{d e:I},e4 d e->∀{F:Nat->Prop} {cs:alU} {S:Nat->Prop},ar w F d cs S->Uh w F d e cs S
 |_,_,.refl _,F,cs,S,h=>⟨λ_=>False,S,λ_ h=>h.elim,λ_ h=>h,λ_ _ h=>h,λbO bh=>ar.mono (λb R=>bh b (.inl R)) _ _ _ _ (λ_ h=>h) h⟩
 | .bd,_,.kN sz,F,cs,S,h=>⟨λ_=>False,S,λ_ h=>h.elim,λ_ h=>h,λ_ _ h=>h,λbO bh=>by simp only[ar]at h⊢;exact .inl ⟨trivial,_,h⟩⟩
 | .bd,_,.p1,F,cs,S,h=>⟨λ_=>False,S,λ_ h=>h.elim,λ_ h=>h,λ_ _ h=>h,λbO bh=>by simp only[ar]at h⊢;exact .inl ⟨trivial,none,0,h,zero_le _,λ_=>rfl⟩⟩
 | .bool _,_,.any b,F,cs,S,h=>⟨λ_=>False,S,λ_ h=>h.elim,λ_ h=>h,λ_ _ h=>h,λbO bh=>by simp only[ar]at h⊢;exact⟨b,h⟩⟩
 |_,_,.share d _ _ _ _,F,cs,S,h=>⟨S,λ_=>False,λ_ h=>h,λ_ h=>h.elim,λ_ h=>h.elim,λbO bh=>ar.shared (λb R=>bh b (.inl R)) d cs S (λb R=>bh b (.inr R)) h⟩
 |_,_,.agg hf,F,cs,S,h=>by
  rw[ar]at h;obtain⟨ib,ic,ab,ae,az,a6⟩:=a1.oT hf h;exact⟨ib,ic,ab,ae,az,λbO bh=>by rw[ar];exact a6 bO bh⟩
 |_,_,.bf ai,F,cs,S,h=>by
  rw[ar]at h;obtain⟨b,cur,ty,fr,aN,b3,cc,eT,dL,fp,cW,k7⟩:=h;obtain⟨ib,ic,ab,ae,az,a6⟩:=ar.oT ai fp;refine⟨ib,λc=>c=b\/ic c,λc an=>cW c (ab c an),?_,?_,λbO bh=>?_⟩
  .rintro c (rfl|an)
   .exact cc
   .exact cW c (ae c an)
  .rintro c (rfl|an) bo
   .exact k7 (ab _ bo)
   .exact az c an bo
  .rw[ar];exact⟨b,cur,ty,fr,ic,b3,.inl rfl,eT,dL,a6 bO bh,λc an=>.inr an,λan=>k7 (ae _ an)⟩
 | .ag sz ds,.ag _ es,.ag hf,F,cs,S,h=>by
   rw[ar]at h;have hl:=hf.len;rcases h with⟨ab,ae⟩|⟨b,cap,cur,ty,fr,aN,b3,cc,eT,dL,fp,cW,k7,dM,mf,rZ,L8⟩
   .refine⟨λ_=>False,S,λ_ h=>h.elim,λ_ h=>h,λ_ _ h=>h,λbO _=>?_⟩;rw[ar];subst ab;exact .inl ⟨List.length_eq_zero_iff.1 (by simpa using hl),ae⟩
   .obtain⟨ib,ic,ab,ae,az,a6⟩:=a1.oT hf mf;refine⟨ib,λc=>c=b\/ic c,λc an=>rZ c (ab c an),?_,?_,λbO bh=>?_⟩
    .rintro c (rfl|an)
     .exact cc
     .exact rZ c (ae c an)
    .rintro c (rfl|an) bo
     .exact L8 (ab _ bo)
     .exact az c an bo
    .rw[ar];refine .inr ⟨b,cap,cur,ty,fr,ic,by rw[hl];exact b3,.inl rfl,eT,dL,by rw[hl];exact fp,cW,k7,hf.all dM,by rw[hl];exact a6 bO bh,λc an=>.inr an,λan=>L8 (ae _ an)⟩
 |_,_,.tuple hf,F,cs,S,h=>by
  rw[ar]at h;obtain⟨ib,ic,ab,ae,az,a6⟩:=a1.oT hf h;exact⟨ib,ic,ab,ae,az,λbO bh=>by rw[ar];exact a6 bO bh⟩
 |_,_,.ref ai,F,cs,S,h=>by
  rw[ar]at h;obtain⟨b,o,eA,ab,ae,az,a6⟩:=h;obtain⟨ib,ic,b3,cc,eT,dL⟩:=ar.oT ai a6;refine⟨λ_=>False,S,λ_ h=>h.elim,λ_ h=>h,λ_ _ h=>h,λbO bh=>?_⟩;rw[ar];exact⟨b,o,eA,ab,bh _ (.inl ae),az,ar.mono (λ_ h=>h) _ _ _ _ (λb R=>cc b R) (dL bO λb R=>bh b (R.imp id λh=>(b3 b h).elim))⟩
 |_,_,.trans ai he,F,cs,S,h=>by
  obtain⟨ib,ic,ab,ae,az,a6⟩:=ar.oT ai h;obtain⟨Fv,Bn,b3,cc,eT,dL⟩:=ar.oT he (F:=λb=>F b\/ib b) (a6 _ λ_ h=>h);refine⟨λb=>ib b\/Fv b,Bn,?_,λb R=>ae b (cc b R),?_,λbO bh=>dL bO λb R=>?_⟩
  .rintro b (h|h)
   .exact ab b h
   .exact ae b (b3 b h)
  .rintro b R (h|h)
   .exact az b (cc b R) h
   .exact eT b R h
  .rcases R with(R|R)|R
   .exact bh b (.inl R)
   .exact bh b (.inr (.inl R))
   .exact bh b (.inr (.inr R))
theorem a1.oT:∀{ds es:alW},jz ds es->∀{F:Nat->Prop} {cs:alU} {S:Nat->Prop},a1 w F ds cs S->
  ∃ib ic:Nat->Prop,(∀b,ib b->S b)/\(∀b,ic b->S b)/\(∀b,ic b->¬ib b)/\∀bO,(∀b,F b\/ib b->bO b)->a1 w bO es cs ic
 |_,_,.nil,F,cs,S,h=>⟨λ_=>False,λ_=>False,λ_ h=>h.elim,λ_ h=>h.elim,λ_ h=>h.elim,λbO bh=>by rw[a1]at h⊢;exact h⟩
 |_,_,.cons ai hf,F,cs,S,h=>by
  rw[a1]at h;obtain⟨c1,c2,b5,dg,rfl,g2,g3,g4,g5,g6⟩:=h;obtain⟨Ui,L9,J,a2,a3,a4⟩:=ar.oT ai g2;obtain⟨Fv,Bn,jO,hz,jQ,bG⟩:=a1.oT hf g3;refine⟨λb=>Ui b\/Fv b,λb=>L9 b\/Bn b,?_,?_,?_,λbO bh=>?_⟩
  .rintro b (h|h)
   .exact g4 b (J b h)
   .exact g5 b (jO b h)
  .rintro b (h|h)
   .exact g4 b (a2 b h)
   .exact g5 b (hz b h)
  .rintro b (h|h) (bC|bC)
   .exact a3 b h bC
   .exact g6 b (a2 b h) (jO b bC)
   .exact g6 b (J b bC) (hz b h)
   .exact jQ b h bC
  .rw[a1];refine⟨c1,c2,L9,Bn,rfl,a4 bO (λb R=>bh b (R.imp id .inl)),bG bO (λb R=>bh b (R.imp id .inr)),λb R=>.inl R,λb R=>.inr R,λb ab ae=>g6 b (a2 b ab) (hz b ae)⟩
end
theorem e4.Bo:∀{d e:I},e4 d e->(∀vs,d≠.tuple vs)->∀vs,e≠.tuple vs
 |_,_,.refl _,h=>h
 |_,_,.kN _,_=>λ_ h=>by cases h
 |_,_,.p1,_=>λ_ h=>by cases h
 |_,_,.any _,_=>λ_ h=>by cases h
 |_,_,.share d _ _ _ _,h=>λvs he=>by cases d<;>first|(cases he;done)|exact h _ rfl
 |_,_,.agg _,_=>λ_ h=>by cases h
 |_,_,.bf _,_=>λ_ h=>by cases h
 |_,_,.ag _,_=>λ_ h=>by cases h
 |_,_,.tuple _,h=>λ_ _=>h _ rfl
 |_,_,.ref _,_=>λ_ h=>by cases h
 |_,_,.trans h k,aS=>e4.Bo k (e4.Bo h aS)
theorem e4.iv:∀{d e:I} {v:Value},e4 d e->(∀vs,d≠.tuple vs)->de.iv d v->de.iv e v
 |_,_,_,.refl _,_,h=>h
 |_,_,_,.kN _,_,h=>h
 |_,_,_,.p1,_,h=>h
 |_,_,_,.any _,_,h=>h
 |_,_,_,.share d _ aS _ _,_,h=>by cases d<;>first|exact h|exact(aS _ rfl).elim
 |_,_,_,.agg _,_,h=>h
 |_,_,_,.bf _,_,h=>h
 |_,_,_,.ag _,_,h=>h
 |_,_,_,.tuple _,aS,_=>(aS _ rfl).elim
 |_,_,_,.ref _,_,h=>h
 |_,_,_,.trans h k,aS,ad=>e4.iv k (e4.Bo h aS) (e4.iv h aS ad)
theorem jz.get:∀{ds es:alW},jz ds es->∀(k:Nat) (e:I),es[k]? =some e->∃d,ds[k]? =some d/\e4 d e
 |_,_,.nil,k,e,h=>by simp at h
 |_,_,.cons ai ad,0,e,h=>by simp at h;subst h;exact⟨_,rfl,ai⟩
 |_,_,.cons ai ad,k+1,e,h=>jz.get ad k e (by simpa using h)
theorem e4.dD:∀{d e:I} {v:Value},e4 d e->de.dD d v->de.dD e v
 |_,_,_,.refl _,ad=>ad
 |_,_,_,.kN _,ad=>ad
 |_,_,_,.p1,ad=>ad
 |_,_,_,.any _,ad=>ad
 |_,_,_,.share _ _ mM _ _,ad=>Fe mM ad
 |_,_,_,.agg _,ad=>ad
 |_,_,_,.bf _,ad=>ad
 |_,_,_,.ag _,ad=>ad
 |_,_,_,.ref _,ad=>ad
 |_,_,_,.tuple ai,ad=>by
  obtain⟨arr,ab,ae,az⟩:=ad;refine⟨arr,ab,ae.trans ai.len.symm,λk e x he au=>?_⟩;obtain⟨d,ax,hw⟩:=ai.get k e he;obtain⟨J,a2,a3⟩:=az k d x ax au;exact⟨hw.iv a2 J,hw.Bo a2,a3.trans hw.wd.symm⟩
 |_,_,_,.trans h k,ad=>e4.dD k (e4.dD h ad)
theorem e4.tree:∀{d e:I},e4 d e->d.tree=true->e.tree=true
 |_,_,.refl _,ai=>ai
 |_,_,.kN _,_=>rfl
 |_,_,.p1,_=>rfl
 |_,_,.any _,_=>rfl
 |_,_,.share d _ _ lS Ff,ai=>by cases d<;>first|exact ai|rfl|exact(lS _ rfl).elim|exact(Ff _ _ rfl).elim
 |_,_,.agg _,_=>rfl
 |_,_,.bf _,_=>rfl
 |_,_,.ag _,_=>rfl
 |_,_,.tuple _,_=>rfl
 |_,_,.ref _,_=>rfl
 |_,_,.trans h k,ai=>e4.tree k (e4.tree h ai)
mutual
def I.ts:I->alR
 | .h x q=>if q.isEmpty then []else [x]
 | .aq x _=>[x]
 | .R x _=>[x]
 | .fn _ cap=>I.x2 cap
 |_=>[]
def I.x2:alW->alR
 |[]=>[]
 |d::ds=>d.ts++I.x2 ds
end
def x3 (s aB:aw) (x:Nat) (D:alR):Prop:=aB x=s x\/aB x= .hole\/((s x).own=true/\(aB x).own=true/\x∉D)
theorem x3.less {s aB:aw} {x:Nat} {D E:alR} (h:x3 s aB x D) (Uj:∀u∈E,u∈D):x3 s aB x E:=by
 rcases h with h|h|⟨ab,ae,az⟩
 .exact .inl h
 .exact .inr (.inl h)
 .exact .inr (.inr ⟨ab,ae,λau=>az (Uj x au)⟩)
theorem aH.keep {bO:Nat->Prop} (bh:∀b,F b->bO b):∀n,(∀(d:I) (v:Value) (dx:Nat->Prop),SizeOf.sizeOf d<=n->(∀x∈d.ad,x3 s aB x d.ts)->aH w F s aC d v dx->aH w bO aB aC d v dx)/\
  (∀(ds:alW) (vs:alU),SizeOf.sizeOf ds<=n->(∀x∈I.dQ ds,x3 s aB x (I.x2 ds))->d_ w F s aC ds vs->d_ w bO aB aC ds vs):=by
 intro n;induction n with
 |zero=>
  refine⟨λd v dx bZ=>?_,λds vs bZ=>?_⟩
  .cases d<;>simp at bZ<;>omega
  .cases ds<;>simp at bZ<;>omega
 |succ n ih=>
  refine⟨λd v dx bZ ax h=>?_,λds vs bZ ax h=>?_⟩
  .cases d with
   |hole=>rw[aH];trivial
   |h x q=>
    rw[aH]at h⊢;intro e fj aq;rcases ax x (by simp[I.ad])with he|he|⟨x4,L_,u2⟩
    .rw[he]at fj⊢;exact h e fj aq
    .rw[he]at fj;cases q with
     |nil=>simp only[I.sub,Option.some.injEq]at fj;subst fj;simp[I.plain]at aq
     |cons k q=>simp[I.sub]at fj
    .cases q with
     |nil=>
      simp only[I.sub,Option.some.injEq]at fj;subst fj;obtain⟨cQ,a0,fL,hn,h6⟩:=h (s x) (by simp only[I.sub]) (tl x4).1;simp only[du,Option.some.injEq,Prod.mk.injEq,true_and]at fL;exact⟨cj (aC x),none,by simp only[du],by rw[hn,<-fL.1],((tl L_).2.2.2.2.2 _).2 (((tl x4).2.2.2.2.2 _).1 h6)⟩
     |cons k q=>exact(u2 (by simp[I.ts])).elim
   |aq x q=>
    rw[aH]at h⊢;intro e fj an;rcases ax x (by simp[I.ad])with he|he|⟨_,_,u2⟩
    .rw[he]at fj an⊢;exact h e fj an
    .rw[he]at an;cases q<;>simp[I.fD]at an
    .exact(u2 (by simp[I.ts])).elim
   |R x k=>
    rw[aH]at h⊢;intro aq;rcases ax x (by simp[I.ad])with he|he|⟨_,_,u2⟩
    rotate_left 2
    .exact(u2 (by simp[I.ts])).elim
    .rw[he]at aq;obtain⟨b,cur,e,fr,ab,ae,az,a6⟩:=h aq;exact⟨b,cur,e,fr,ab,bh b ae,az,a6⟩
    .rw[he]at aq;simp[I.plain]at aq
   |fn f cap=>
    rw[aH]at h⊢;obtain⟨arr,rfl,an⟩:=h;exact⟨arr,rfl,ih.2 _ _ (by simp at bZ;omega) (by simpa [I.ad,I.ts]using ax) an⟩
   |_=>
    have bC:=(aH.cv rfl).1 h;exact(aH.cv rfl).2 ⟨bC.1,ar.mono bh _ _ _ _ (λ_ h=>h) bC.2⟩
  .cases ds with
   |nil=>rw[d_]at h⊢;exact h
   |cons d ds=>
    rw[d_]at h⊢;obtain⟨v,jI,rfl,ab,ae⟩:=h;simp at bZ;simp only[I.dQ,List.mem_append]at ax;exact⟨v,jI,rfl,ih.1 _ _ _ (by omega) (λx au=>(ax x (.inl au)).less λu hu=>by simp[I.x2,hu]) ab,ih.2 _ _ (by omega) (λx au=>(ax x (.inr au)).less λu hu=>by simp[I.x2,hu]) ae⟩
def tt (s:aw) (l:alV):Prop:=
 ∀p∈l,p.2=s p.1\/((s p.1).tree=true/\e4 (s p.1) p.2/\∀cE∈l,p.1∉cE.2.ad\/((s p.1).own=true/\p.2.own=true/\p.1∉cE.2.ts))
theorem Ma:∀(l:alV) (t:Nat),ay l t= .hole\/∃p∈l,p.1=t/\ay l t=p.2:=by
 intro l;induction l with
 |nil=>intro t;exact .inl rfl
 |cons p l ih=>
  intro t;obtain⟨u,d⟩:=p;simp only[ay];split
  .rename_i e;exact .inr ⟨(u,d),by simp,e.symm,rfl⟩
  .rcases ih t with h|⟨p,aq,h⟩
   .exact .inl h
   .exact .inr ⟨p,by simp[aq],h⟩
theorem bD.Mb (h:bD w0 F0 X F S s aC w) {l:alV} (hw:tt s l):∃bO aN,bD w0 F0 X bO aN (ay l) aC w:=by
 have each:∀t,∃ib ic:Nat->Prop,(∀b,ib b->S t b)/\(∀b,ic b->S t b)/\(∀b,ic b->¬ib b)/\∀bO,(∀b,F b\/ib b->bO b)->aH w bO (ay l) aC (ay l t) (aC t) ic:=by
  intro t;rcases Ma l t with e|⟨p,aq,rfl,e⟩
  .exact⟨λ_=>False,λ_=>False,λ_ h=>h.elim,λ_ h=>h.elim,λ_ h=>h.elim,λbO _=>by rw[e,aH];trivial⟩
  .rw[e];rcases hw p aq with ax|⟨a8,kG,_⟩
   .refine⟨λ_=>False,S p.1,λ_ h=>h.elim,λ_ h=>h,λ_ _ h=>h,λbO bh=>?_⟩;rw[ax];refine(aH.keep (λb R=>bh b (.inl R)) (SizeOf.sizeOf (s p.1))).1 _ _ _ (Nat.le_refl _) ?_ (h.dp p.1);intro x au;rcases Ma l x with f_|⟨cE,eH,rfl,f_⟩
    .exact .inr (.inl f_)
    .rcases hw cE eH with jP|⟨_,_,lS⟩
     .exact .inl (f_.trans jP)
     .rcases lS p aq with lS|⟨lY,j4,oP⟩
      .exact(lS (by rw[ax];exact au)).elim
      .exact .inr (.inr ⟨lY,by rw[f_];exact j4,by rw[ax]at oP;exact oP⟩)
   .obtain⟨g1,g2⟩:=(aH.cv a8).1 (h.dp p.1);obtain⟨ib,ic,b3,cc,eT,dL⟩:=ar.oT kG g2;exact⟨ib,ic,b3,cc,eT,λbO bh=>(aH.cv (kG.tree a8)).2 ⟨kG.dD g1,dL bO bh⟩⟩
 have c1:=λt=>(each t).choose_spec;let ib:=λt=>(each t).choose
 have c2:=λt=>(c1 t).choose_spec;let ic:=λt=>(c1 t).choose
 have gE:∀t b,ib t b->S t b:=λt=>(c2 t).1;have gD:∀t b,ic t b->S t b:=λt=>(c2 t).2.1;have iH:∀t b,ic t b->¬ib t b:=λt=>(c2 t).2.2.1;have iI:=λt=>(c2 t).2.2.2;refine⟨λb=>F b\/∃t,ib t b,ic,λb R=>.inl (h.gm b R),?_,?_,λt b R=>h.dW t b (gD t b R),?_,λt u b cY R hu=>h.e_ t u b cY (gD t b R) (gD u b hu),λt b R=>h.dx t b (gD t b R),?_,h.old,h.size,h.os,h.tape,h.output,h.gn⟩
 .rintro b (R|⟨t,R⟩)
  .exact h.gC b R
  .exact .inr (h.dx t b (gE t b R))
 .rintro b (R|⟨t,R⟩)
  .exact h.eQ b R
  .exact h.dW t b (gE t b R)
 .rintro t b R (bo|⟨u,hu⟩)
  .exact h.fb t b (gD t b R) bo
  .by_cases e:t=u
   .subst e;exact iH t b R hu
   .exact h.e_ t u b e (gD t b R) (gE u b hu)
 .intro t;exact iI t _ (λb R=>R.imp id λh=>⟨t,h⟩)
end
inductive aI where
 |skip
 |fN (ros:List ch) (keep:Option alR)
 |j7 (ros:List ch) (oS:alP) (keep:Option alR)
 |seq (a b:aI)
 |cond (c:bk) (a b:aI)
 |block (id:Nat) (b:aI)
 |loop (b:aI)
 |exit (id:Nat)
 |ret
 |iQ (T:(Exit->aw->Prop)->aw->Prop) (b:aI)
 |raw (c:Code)
def e5 (n:Fr):Code->Option aI
 | .skip=>some .skip
 | .region id ops false=>match pZ n ops ops.toList with
   |some r=>some (.fN r none)
   |none=>some (.raw (.region id ops false))
 | .region _ ops true=>if x0 (od ops)=true then(pZ n ops ops.toList).map λr=>.j7 r (od ops) none else none
 | .seq a b=>match e5 n a,e5 n b with
   |some a,some b=>some (.seq a b)
   |_,_=>none
 | .cond c a b=>match dG c,e5 n a,e5 n b with
   |some c,some a,some b=>some (.cond c a b)
   |_,_,_=>none
 | .block id b=>(e5 n b).map (.block id)
 | .loop b=>(e5 n b).map .loop
 | .exit id=>some (.exit id)
 | .ret=>some .ret
 |_=>none
def aI.kO:aI->aI
 | .fN ros _=>.fN ros none
 | .j7 ros eX _=>.j7 ros eX none
 | .seq a b=>.seq a.kO b.kO
 | .cond c a b=>.cond c a.kO b.kO
 | .block id b=>.block id b.kO
 | .loop b=>.loop b.kO
 | .iQ T b=>.iQ T b.kO
 |c=>c
def aI.strip:aI->aI
 | .fN ros _=>.fN (ros.map ch.un) none
 | .j7 ros eX _=>.j7 (ros.map ch.un) eX none
 | .seq a b=>.seq a.strip b.strip
 | .cond c a b=>.cond c a.strip b.strip
 | .block id b=>.block id b.strip
 | .loop b=>.loop b.strip
 | .iQ _ b=>b.strip
 |c=>c
theorem aI.Fw:∀c:aI,c.kO.strip=c.strip:=by
 intro c;induction c with
 |seq a b j8 j9=>simp only[aI.kO,aI.strip,j8,j9]
 |cond c a b j8 j9=>simp only[aI.kO,aI.strip,j8,j9]
 |block id b ih=>simp only[aI.kO,aI.strip,ih]
 |loop b ih=>simp only[aI.kO,aI.strip,ih]
 |iQ T b ih=>simp only[aI.kO,aI.strip,ih]
 |_=>rfl
def aI.bare (H:((Exit->aw->Prop)->aw->Prop)->aI->Prop):aI->Prop
 | .fN _ k=>k=none
 | .j7 _ _ k=>k=none
 | .seq a b=>a.bare H/\b.bare H
 | .cond _ a b=>a.bare H/\b.bare H
 | .block _ b=>b.bare H
 | .loop b=>b.bare H
 | .iQ T b=>H T b
 |_=>True
def aI.mQ (H:((Exit->aw->Prop)->aw->Prop)->aI->Prop):aI->Prop
 | .seq a b=>a.mQ H/\b.mQ H
 | .cond _ a b=>a.mQ H/\b.mQ H
 | .block _ b=>b.mQ H
 | .loop b=>b.mQ H
 | .iQ T b=>H T b.kO
 |_=>True
theorem aI.Bp {H:((Exit->aw->Prop)->aw->Prop)->aI->Prop}:∀c:aI,c.mQ H->c.kO.bare H:=by
 intro c;induction c with
 |seq a b j8 j9=>intro h;exact⟨j8 h.1,j9 h.2⟩
 |cond c a b j8 j9=>intro h;exact⟨j8 h.1,j9 h.2⟩
 |block id b ih=>intro h;exact ih h
 |loop b ih=>intro h;exact ih h
 |fN=>intro _;rfl
 |j7=>intro _;rfl
 |iQ T b _=>intro h;exact h
 |_=>intro _;trivial
def aI.plain:aI->Bool
 | .seq a b=>a.plain&&b.plain
 | .cond _ a b=>a.plain&&b.plain
 | .block _ b=>b.plain
 | .loop b=>b.plain
 | .iQ _ _=>false
 |_=>true
theorem aI.Mc {H:((Exit->aw->Prop)->aw->Prop)->aI->Prop}:∀c:aI,c.plain=true->c.mQ H:=by
 intro c;induction c with
 |seq a b j8 j9=>intro h;simp only[aI.plain,Bool.and_eq_true]at h;exact⟨j8 h.1,j9 h.2⟩
 |cond c a b j8 j9=>intro h;simp only[aI.plain,Bool.and_eq_true]at h;exact⟨j8 h.1,j9 h.2⟩
 |block id b ih=>intro h;exact ih h
 |loop b ih=>intro h;exact ih h
 |iQ T b _=>intro h;cases h
 |_=>intro _;trivial
def andThen (K:aw->Prop) (Q:Exit->aw->Prop):Exit->aw->Prop
 | .normal,s=>K s
 |e,s=>Q e s
def u3 (id:Nat) (Q:Exit->aw->Prop):Exit->aw->Prop
 | .exit i,s=>if i=id then Q .normal s else Q (.exit i) s
 |e,s=>Q e s
def dK (K:aw->Prop) (s:aw):Prop:=K s\/∃l,tt s l/\K (ay l)
def ej:Option alR->(aw->Prop)->aw->Prop
 |none,K,s=>dK K s
 |some k,K,s=>K (ay (k.map λt=>(t,s t)))
def a_ (C:ca):aI->(Exit->aw->Prop)->aw->Prop
 | .skip,Q,s=>Q .normal s
 | .fN ros keep,Q,s=>lC C s ros (ej keep (Q .normal))
 | .j7 ros oS keep,Q,s=>∀l,Ft oS l->j6 C ros s l (ej keep (Q .normal))
 | .seq a b,Q,s=>a_ C a (andThen (dK (a_ C b Q)) Q) s
 | .cond c a b,Q,s=>match bu s c with
   | .bool fH=>if fH=true then a_ C a Q s else a_ C b Q s
   | .fm=>a_ C a Q s/\a_ C b Q s
   |_=>False
 | .block id b,Q,s=>a_ C b (u3 id Q) s
 | .loop b,Q,s=>dK (λs=>∀Z:aw->Prop,(∀aB,a_ C b (andThen (dK Z) Q) aB->Z aB)->Z s) s
 | .exit id,Q,s=>Q (.exit id) s
 | .ret,Q,s=>Q .ret s
 | .iQ T _,Q,s=>∀ep:Exit->aw->Prop,(∀e s,Q e s->ep e s)->T ep s
 | .raw _,_,_=>False
section
variable {C:ca}
theorem Fx {s:aw} {o:ch} {K dz:aw->Prop} (h:lZ C s o K) (ax:∀s,K s->dz s):lZ C s o dz:=by
 unfold lZ at h⊢;split
 .rename_i bR;rw[bR]at h;exact Bi h λav s1=>ax _
 .rename_i t b bR;rw[bR]at h;simp only at h;split
  .rename_i fH ad;rw[ad]at h;simp only at h;split
   .rename_i R;rw[if_pos R]at h;exact Bi h λav s1=>ax _
   .rename_i R;rw[if_neg R]at h;exact ax _ h
  .rename_i ad;rw[ad]at h;exact ax _ h
  .rename_i ab ae;split at h
   .exact ab _ (by assumption)
   .exact ae (by assumption)
   .exact h
theorem Md {K dz:aw->Prop} (ax:∀s,K s->dz s):∀{ros:List ch} {s:aw},lC C s ros K->lC C s ros dz:=by
 intro ros;induction ros with
 |nil=>intro s h;exact ax s h
 |cons o ros ih=>intro s h;exact Fx h λs h=>ih h
theorem Me {ros:List ch} {K dz:aw->Prop} (ax:∀s,K s->dz s):∀{l:alR} {s:aw},j6 C ros s l K->j6 C ros s l dz:=by
 intro l;induction l with
 |nil=>intro s h;exact ax s h
 |cons i l ih=>
  intro s h;simp only[j6]at h⊢;split
  .rename_i bE;rw[bE]at h;exact ih h
  .rename_i o bE;rw[bE]at h;exact Fx h λs h=>ih h
theorem u4 {K dz:aw->Prop} (ax:∀s,K s->dz s) (s:aw) (h:dK K s):dK dz s:=
 h.imp (ax s) λ⟨l,ab,ae⟩=>⟨l,ab,ax _ ae⟩
theorem Mf {keep:Option alR} {K dz:aw->Prop} (ax:∀s,K s->dz s) (s:aw) (h:ej keep K s):ej keep dz s:=by
 cases keep with
 |none=>exact u4 ax s h
 |some k=>exact ax _ h
theorem Mg {keep:Option alR} {K:aw->Prop} {s:aw} (h:ej keep K s):dK K s:=by
 cases keep with
 |none=>exact h
 |some k=>
  refine .inr ⟨_,?_,h⟩;intro p aq;obtain⟨t,_,rfl⟩:=List.mem_map.1 aq;exact .inl rfl
theorem Fy {K dz:aw->Prop} {Q ep:Exit->aw->Prop} (ax:∀s,K s->dz s) (b1:∀e s,Q e s->ep e s):∀e s,andThen K Q e s->andThen dz ep e s:=by
 intro e s h;cases e with
 |normal=>exact ax s h
 |_=>exact b1 _ s h
theorem Fz:∀(c:aI) {Q ep:Exit->aw->Prop} {s:aw},(∀e s,Q e s->ep e s)->a_ C c Q s->a_ C c ep s:=by
 intro c;induction c with
 |skip=>intro Q ep s b1 h;exact b1 _ _ h
 |fN ros keep=>intro Q ep s b1 h;exact Md (Mf (b1 _)) h
 |j7 ros oS keep=>intro Q ep s b1 h l hl;exact Me (Mf (b1 _)) (h l hl)
 |seq a b j8 j9=>
  intro Q ep s b1 h;exact j8 (Fy (λs h=>u4 (λ_ h=>j9 b1 h) s h) b1) h
 |cond c a b j8 j9=>
  intro Q ep s b1 h;simp only[a_]at h⊢;split
  .rename_i fH R;rw[R]at h;simp only at h;split
   .rename_i e;rw[if_pos e]at h;exact j8 b1 h
   .rename_i e;rw[if_neg e]at h;exact j9 b1 h
  .rename_i R;rw[R]at h;exact⟨j8 b1 h.1,j9 b1 h.2⟩
  .rename_i ab ae;split at h
   .exact ab _ (by assumption)
   .exact ae (by assumption)
   .exact h
 |block id b ih=>
  intro Q ep s b1 h;refine ih ?_ h;intro e s h;cases e with
  |exit i=>
   simp only[u3]at h⊢;split
   .rename_i e;rw[if_pos e]at h;exact b1 _ _ h
   .rename_i e;rw[if_neg e]at h;exact b1 _ _ h
  |_=>exact b1 _ _ h
 |loop b ih=>
  intro Q ep s b1 h;refine u4 (λs h Z u5=>?_) s h;exact h Z λaB fc=>u5 aB (ih (Fy (λ_ h=>h) b1) fc)
 |exit id=>intro Q ep s b1 h;exact b1 _ _ h
 |ret=>intro Q ep s b1 h;exact b1 _ _ h
 |iQ T b _=>intro Q ep s b1 h Uk ae;exact h Uk λe s he=>ae e s (b1 e s he)
 |raw c=>intro Q ep s b1 h;exact h
theorem Bq:∀(c:aI) {Q:Exit->aw->Prop} {s:aw},a_ C c Q s->a_ C c.kO Q s:=by
 intro c;induction c with
 |fN ros keep=>intro Q s h;exact Md (λs h=>Mg h) h
 |j7 ros eX keep=>intro Q s h l hl;exact Me (λs h=>Mg h) (h l hl)
 |seq a b j8 j9=>intro Q s h;exact j8 (Fz a (Fy (λs h=>u4 (λ_ h=>j9 h) s h) (λ_ _ h=>h)) h)
 |cond c a b j8 j9=>
  intro Q s h;simp only[aI.kO,a_]at h⊢;split
  .rename_i fH R;rw[R]at h;simp only at h;split
   .rename_i e;rw[if_pos e]at h;exact j8 h
   .rename_i e;rw[if_neg e]at h;exact j9 h
  .rename_i R;rw[R]at h;exact⟨j8 h.1,j9 h.2⟩
  .rename_i ab ae;split at h
   .exact ab _ (by assumption)
   .exact ae (by assumption)
   .exact h
 |block id b ih=>intro Q s h;exact ih h
 |loop b ih=>
  intro Q s h;refine u4 (λs h Z u5=>?_) s h;exact h Z λaB fc=>u5 aB (ih fc)
 |iQ T b _=>intro Q s h;exact h
 |_=>intro Q s h;exact h
variable {w0 w:World} {F0 X:Nat->Prop} {n:Fr} {ρ:Nat->Value} {s:aw} {a:Act}
def qZ (w0:World) (F0 X:Nat->Prop) (n:Fr) (ρ:Nat->Value) (Q:Exit->aw->Prop):Exit->Act->World->Prop:=λe a w=>∃s,Q e s/\Rel w0 F0 X n ρ s a w
theorem Rel.dK {K:aw->Prop} {s:aw} {a:Act} {w:World} (aM:Rel w0 F0 X n ρ s a w) (h:dK K s):∃aB,K aB/\Rel w0 F0 X n ρ aB a w:=by
 rcases h with h|⟨l,ab,ae⟩
 .exact⟨s,h,aM⟩
 .obtain⟨g1,g2,g3,F,S,g4⟩:=aM;obtain⟨bO,aN,g5⟩:=g4.Mb ab;exact⟨ay l,ae,g1,g2,g3,bO,aN,g5⟩
theorem aI.Ul {c:aI} (h:c.strip= .skip):c= .skip\/∃T b,c= .iQ T b:=by cases c<;>first|exact .inl rfl|exact .inr ⟨_,_,rfl⟩|cases h
theorem aI.Um {c:aI} (h:c.strip= .ret):c= .ret\/∃T b,c= .iQ T b:=by cases c<;>first|exact .inl rfl|exact .inr ⟨_,_,rfl⟩|cases h
theorem aI.Un {c:aI} {i:Nat} (h:c.strip= .exit i):c= .exit i\/∃T b,c= .iQ T b:=by cases c<;>first|exact .inl h|exact .inr ⟨_,_,rfl⟩|cases h
theorem aI.Uo {c:aI} {x:Code} (h:c.strip= .raw x):c= .raw x\/∃T b,c= .iQ T b:=by cases c<;>first|exact .inl h|exact .inr ⟨_,_,rfl⟩|cases h
theorem aI.Up {c:aI} {r:List ch} {k:Option alR} (h:c.strip= .fN r k):(∃ros cF,c= .fN ros cF/\ros.map ch.un=r)\/∃T b,c= .iQ T b:=by
 cases c<;>first|(cases h;exact .inl ⟨_,_,rfl,rfl⟩)|exact .inr ⟨_,_,rfl⟩|cases h
theorem aI.Uq {c:aI} {r:List ch} {eX:alP} {k:Option alR} (h:c.strip= .j7 r eX k):(∃ros Mh cF,c= .j7 ros Mh cF/\ros.map ch.un=r/\Mh=eX)\/∃T b,c= .iQ T b:=by
 cases c<;>first|(cases h;exact .inl ⟨_,_,_,rfl,rfl,rfl⟩)|exact .inr ⟨_,_,rfl⟩|cases h
theorem aI.Ur {c x y:aI} (h:c.strip= .seq x y):(∃a b,c= .seq a b/\a.strip=x/\b.strip=y)\/∃T b,c= .iQ T b:=by
 cases c<;>first|(cases h;exact .inl ⟨_,_,rfl,rfl,rfl⟩)|exact .inr ⟨_,_,rfl⟩|cases h
theorem aI.Us {c x y:aI} {o:bk} (h:c.strip= .cond o x y):(∃mh a b,c= .cond mh a b/\mh=o/\a.strip=x/\b.strip=y)\/∃T b,c= .iQ T b:=by
 cases c<;>first|(cases h;exact .inl ⟨_,_,_,rfl,rfl,rfl,rfl⟩)|exact .inr ⟨_,_,rfl⟩|cases h
theorem aI.Ut {c x:aI} {i:Nat} (h:c.strip= .block i x):(∃a,c= .block i a/\a.strip=x)\/∃T b,c= .iQ T b:=by
 cases c<;>first|(cases h;exact .inl ⟨_,rfl,rfl⟩)|exact .inr ⟨_,_,rfl⟩|cases h
theorem aI.Uu {c x:aI} (h:c.strip= .loop x):(∃a,c= .loop a/\a.strip=x)\/∃T b,c= .iQ T b:=by
 cases c<;>first|(cases h;exact .inl ⟨_,rfl,rfl⟩)|exact .inr ⟨_,_,rfl⟩|cases h
def r8:Code->List (Array Oper)
 | .region _ ops _=>[ops]
 | .seq a b=>r8 a++r8 b
 | .cond _ a b=>r8 a++r8 b
 | .block _ b=>r8 b
 | .loop b=>r8 b
 |_=>[]
theorem Uv (bn:C.Ok) {H:((Exit->aw->Prop)->aw->Prop)->aI->Prop} {gF:List (Array Oper)}
  (hH:∀(c:Code) (T:(Exit->aw->Prop)->aw->Prop) (b:aI) (Q:Exit->aw->Prop) (s:aw) (a:Act) (w:World),(∀r∈r8 c,r∈gF)->H T b->e5 n c=some b.strip->T Q s->Rel w0 F0 X n ρ s a w->c.wp C.P (qZ w0 F0 X n ρ Q) a w):
  ∀(c:Code) {dj:aI} {Q:Exit->aw->Prop} {s:aw} {a:Act} {w:World},(∀r∈r8 c,r∈gF)->e5 n c=some dj.strip->dj.bare H->a_ C dj Q s->Rel w0 F0 X n ρ s a w->c.wp C.P (qZ w0 F0 X n ρ Q) a w:=by
 intro c;induction c with
 |skip=>
  intro dj Q s a w fU ad hI h aM;have jT:=ad;simp only[e5,Option.some.injEq]at ad;rcases aI.Ul ad.symm with rfl|⟨T,b,rfl⟩
  .exact wp_skip ⟨s,h,aM⟩
  .exact hH _ T b Q s a w fU hI (by simpa only[aI.strip]using jT) (h Q λ_ _ h=>h) aM
 |region id ops draw=>
  intro dj Q s a w fU ad hI h aM;have jT:=ad;cases draw with
  |false=>
   simp only[e5]at ad;split at ad
   rotate_left
   .have fc:=(Option.some.injEq _ _▸ad).symm;rcases aI.Uo fc with rfl|⟨T,b,rfl⟩
    .exact h.elim
    .exact hH _ T b Q s a w fU hI (by simpa only[aI.strip]using jT) (h Q λ_ _ h=>h) aM
   rename_i Uw x5;simp only[Option.some.injEq]at ad;rcases aI.Up ad.symm with⟨ros,k,rfl,rfl⟩|⟨T,b,rfl⟩
   rotate_left
   .exact hH _ T b Q s a w fU hI (by simpa only[aI.strip]using jT) (h Q λ_ _ h=>h) aM
   cases hI;exact T9 bn x5 (λaB cL aF ax eG=>eG.dK ax) h aM
  |true=>
   simp only[e5]at ad;split at ad
   .rename_i R;simp only[Option.map_eq_some_iff]at ad;obtain⟨Uw,x5,ad⟩:=ad;rcases aI.Uq ad.symm with⟨ros,eX,k,rfl,rfl,rfl⟩|⟨T,b,rfl⟩
    rotate_left
    .exact hH _ T b Q s a w fU hI (by simpa only[aI.strip]using jT) (h Q λ_ _ h=>h) aM
    cases hI;refine wp_region_draw λt=>?_;rw[show Region.schedule (C.P.follows .mixedOrders) ops t=Region.linearise .any ops t by simp[Region.schedule,bn.mixed]];exact L2 bn x5 (λaB cL aF ax eG=>eG.dK ax) _ s a _ (h _ (Ug R t)) (aM.drawn _ (by first|exact le_succ _|exact le_add_right _ _|omega))
   .cases ad
 |seq x y Ux Br=>
  intro dj Q s a w fU ad hI h aM;have jT:=ad;simp only[e5]at ad;split at ad
  .rename_i uS Mi au bb;simp only[Option.some.injEq]at ad;rcases aI.Ur ad.symm with⟨cp,lU,rfl,rfl,rfl⟩|⟨T,b,rfl⟩
   rotate_left
   .exact hH _ T b Q s a w fU hI (by simpa only[aI.strip]using jT) (h Q λ_ _ h=>h) aM
   refine wp_seq (wp_mono (Ux (λr aM=>fU r (List.mem_append.2 (.inl aM))) au hI.1 h aM) ?_);rintro e cL aF ⟨aB,bC,eG⟩;cases e with
   |normal=>
    obtain⟨aB,bC,eG⟩:=eG.dK bC;exact Br (λr aM=>fU r (List.mem_append.2 (.inr aM))) bb hI.2 bC eG
   |_=>exact⟨aB,bC,eG⟩
  .cases ad
 |cond x y z Br Mj=>
  intro dj Q s a w fU ad hI h aM;have jT:=ad;simp only[e5]at ad;split at ad
  .rename_i uS Mi sz au bb bZ;simp only[Option.some.injEq]at ad;rcases aI.Us ad.symm with⟨cp,lU,qN,rfl,rfl,rfl,rfl⟩|⟨T,b,rfl⟩
   rotate_left
   .exact hH _ T b Q s a w fU hI (by simpa only[aI.strip]using jT) (h Q λ_ _ h=>h) aM
   have eG:=aM;obtain⟨ai,ea,bo,F,S,hrel⟩:=eG;have aJ:=(fE (a:=a) hrel (λ_=>rfl) au).2;simp only[a_]at h;split at h
   .rename_i fH R;rw[R]at aJ;have:=rV aJ;refine wp_cond this ?_;split
    .rename_i e;rw[if_pos e]at h;exact Br (λr aM=>fU r (List.mem_append.2 (.inl aM))) bb hI.1 h aM
    .rename_i e;rw[if_neg e]at h;exact Mj (λr aM=>fU r (List.mem_append.2 (.inr aM))) bZ hI.2 h aM
   .rename_i R;rw[R]at aJ;obtain⟨fH,ll⟩:=KI aJ;refine wp_cond ll ?_;split
    .exact Br (λr aM=>fU r (List.mem_append.2 (.inl aM))) bb hI.1 h.1 aM
    .exact Mj (λr aM=>fU r (List.mem_append.2 (.inr aM))) bZ hI.2 h.2 aM
   .exact h.elim
  .cases ad
 |block id b ih=>
  intro dj Q s a w fU ad hI h aM;have jT:=ad;simp only[e5,Option.map_eq_some_iff]at ad;obtain⟨xz,R,ad⟩:=ad;rcases aI.Ut ad.symm with⟨fH,rfl,rfl⟩|⟨T,b,rfl⟩
  rotate_left
  .exact hH _ T b Q s a w fU hI (by simpa only[aI.strip]using jT) (h Q λ_ _ h=>h) aM
  refine wp_block (wp_mono (ih fU R hI h aM) ?_);rintro e cL aF ⟨aB,bC,eG⟩;cases e with
  |exit i=>
   simp only[u3]at bC;simp only[Exit.inBlock];split
   .rename_i e;rw[if_pos e]at bC;exact⟨aB,bC,eG⟩
   .rename_i e;rw[if_neg e]at bC;exact⟨aB,bC,eG⟩
  |_=>exact⟨aB,bC,eG⟩
 |loop b ih=>
  intro dj Q s a w fU ad hI h aM;have jT:=ad;simp only[e5,Option.map_eq_some_iff]at ad;obtain⟨xz,R,ad⟩:=ad;rcases aI.Uu ad.symm with⟨fH,rfl,rfl⟩|⟨T,b,rfl⟩
  rotate_left
  .exact hH _ T b Q s a w fU hI (by simpa only[aI.strip]using jT) (h Q λ_ _ h=>h) aM
  obtain⟨s,h,aM⟩:=aM.dK h;have key:=h (λs=>∀a w,Rel w0 F0 X n ρ s a w->∀(f:Frame) (k:List Item) (cs:List Frame),∃e cL aF,qZ w0 F0 X n ρ Q e cL aF/\Arrives C.P (lone (f.at a (.code b:: .inLoop b::k)) cs w) f k cs e cL aF) ?_
  .intro f k cs;obtain⟨e,cL,aF,b1,r9⟩:=key a w aM f k cs;exact⟨e,cL,aF,b1,.of_steps (.one step_loop) r9⟩
  .intro aB fc a w aM f k cs;obtain⟨e,a₁,w₁,⟨s1,b1,oe⟩,r9⟩:=ih fU R hI fc aM f (.inLoop b::k) cs;cases e with
   |normal=>
    simp only[andThen]at b1;obtain⟨s1,b1,oe⟩:=oe.dK b1;obtain⟨e₂,a₂,w₂,hq₂,harr₂⟩:=b1 a₁ w₁ oe f k cs;exact⟨e₂,a₂,w₂,hq₂,.of_steps (Steps.trans r9 (.one step_inLoop)) harr₂⟩
   |exit id=>exact⟨_,a₁,w₁,⟨s1,b1,oe⟩,.pass (x:=.inLoop b) rfl (λ_ _=>.inl (by simp)) r9⟩
   |goto l=>exact⟨_,a₁,w₁,⟨s1,b1,oe⟩,.pass (x:=.inLoop b) rfl (λ_ _=>.inl (by simp)) r9⟩
   |ret=>exact⟨_,a₁,w₁,⟨s1,b1,oe⟩,.pass (x:=.inLoop b) rfl (λ_ _=>.inl (by simp)) r9⟩
   |panic aj4=>exact⟨_,a₁,w₁,⟨s1,b1,oe⟩,.pass (x:=.inLoop b) rfl (λ_ _=>.inl (by simp)) r9⟩
   |outgrown=>exact⟨_,a₁,w₁,⟨s1,b1,oe⟩,.pass (x:=.inLoop b) rfl (λ_ _=>.inl (by simp)) r9⟩
 |exit id=>
  intro dj Q s a w fU ad hI h aM;have jT:=ad;simp only[e5,Option.some.injEq]at ad;rcases aI.Un ad.symm with rfl|⟨T,b,rfl⟩
  .exact wp_exit ⟨s,h,aM⟩
  .exact hH _ T b Q s a w fU hI (by simpa only[aI.strip]using jT) (h Q λ_ _ h=>h) aM
 |ret=>
  intro dj Q s a w fU ad hI h aM;have jT:=ad;simp only[e5,Option.some.injEq]at ad;rcases aI.Um ad.symm with rfl|⟨T,b,rfl⟩
  .exact wp_ret ⟨s,h,aM⟩
  .exact hH _ T b Q s a w fU hI (by simpa only[aI.strip]using jT) (h Q λ_ _ h=>h) aM
 |_=>intro dj Q s a w fU ad;simp[e5]at ad
theorem FA (bn:C.Ok) {H:((Exit->aw->Prop)->aw->Prop)->aI->Prop}
  (hH:∀(c:Code) (T:(Exit->aw->Prop)->aw->Prop) (b:aI) (Q:Exit->aw->Prop) (s:aw) (a:Act) (w:World),H T b->e5 n c=some b.strip->T Q s->Rel w0 F0 X n ρ s a w->c.wp C.P (qZ w0 F0 X n ρ Q) a w):
  ∀(c:Code) {dj:aI} {Q:Exit->aw->Prop} {s:aw} {a:Act} {w:World},e5 n c=some dj.strip->dj.bare H->a_ C dj Q s->Rel w0 F0 X n ρ s a w->c.wp C.P (qZ w0 F0 X n ρ Q) a w:=
 λc _ _ _ _ _ ad R h aM=>Uv bn (λc T b Q s a w _ iO ad h aM=>hH c T b Q s a w iO ad h aM) c (λ_ aM=>aM) ad R h aM
theorem Mk (bn:C.Ok) (c:Code) {dj:aI} {Q:Exit->aw->Prop} {s:aw} {a:Act} {w:World} (ad:e5 n c=some dj.strip) (R:dj.bare (λ_ _=>False)) (h:a_ C dj Q s) (aM:Rel w0 F0 X n ρ s a w):c.wp C.P (qZ w0 F0 X n ρ Q) a w:=
 FA bn (λ_ _ _ _ _ _ _ bo=>bo.elim) c ad R h aM
end
def jg:ResultVar->Nat
 | .tmp t=>t
 | .cell a _=>a
def oU (C:ca) (s:aw):ResultVar->Option I
 | .tmp t=>if(s t).tree=true then(match s t with| .tuple _=>none|d=>some d)else none
 | .cell a T=>match s a with
   | .bf d=>if fits C T d=true/\d.tree=true then some d else none
   |_=>none
def FB (C:ca) (fx:alR) (eL:List ResultVar) (r:I) (outs:alW) (s:aw):Prop:=
 ∃ds,eL.map (oU C s)=ds.map some/\r=(match ds with|[d]=>d|ds=>.tuple ds)/\(eL.map jg).Nodup/\
  ∀(i:Nat) (o:I),outs[i]? =some o->o= .hole\/(o=s i/\o.gv=true/\i∈fx/\i∉eL.map jg)
def Ends (C:ca) (fx:alR) (eL:List ResultVar) (r:I) (outs:alW) (s:aw):Prop:=
 FB C fx eL r outs s\/∃t y q d s1,s t= .h y q/\cV s (.h y q)=some (d,s1)/\FB C fx eL r outs (fin s1 (some t) d)
theorem bD.takes {w0 w:World} {F0 X F:Nat->Prop} {S:Nat->Nat->Prop} {s s1:aw} {aC:Nat->Value} {t y:Nat} {q:alR} {d:I} (aM:bD w0 F0 X F S s aC w) (ab:s t= .h y q) (ae:cV s (.h y q)=some (d,s1)):
  ∃aN,bD w0 F0 X F aN (de.fin s1 (some t) d) aC w:=by
 have ad:=aM.dp t;rw[ab,aH]at ad;obtain⟨b5,k0,b3,cc,Sn,eT,dL,fp,cW,k7,_⟩:=pJ aM (av:=.h y q) (v:=aC t) rfl (by rw[aH];exact ad) ae;obtain⟨aN,bC⟩:=k0.fin (.inr ⟨b3,cc,Sn,eT,dL,fp,cW,k7⟩) (some t);refine⟨aN,?_⟩;have e:nj aC (some t) (aC t)=aC:=by
  funext u;simp only[nj,dq];split
  .rename_i h;rw[h]
  .rfl
 rwa [e]at bC
section
variable {C:ca} {w0 w:World} {F0 X F:Nat->Prop} {S:Nat->Nat->Prop} {s:aw} {tmps:Array Value}
theorem Ml {d:I} {x:Value} (ai:∀vs,d≠.tuple vs) (h:dD d x):cj x=iu x/\iv d x:=by
 have:iv d x:=by cases d<;>first|exact h|exact(ai _ rfl).elim
 refine⟨?_,this⟩;cases d<;>first
  |(obtain⟨a,rfl⟩:=this;rfl)
  |(simp only[iv]at this
    rw[gq this];cases x<;>first|rfl|(simp[Value.fK]at this))
def x6 (tmps:Array Value):ResultVar->Sem Value
 | .tmp t=>pure (tmps.getD t undef)
 | .cell a t=>do loadVar t (<-asAddr (tmps.getD a undef))
theorem Uy (bn:C.Ok) (h:bD w0 F0 X F S s (λt=>tmps.getD t undef) w) {v:ResultVar} {d:I} (aJ:oU C s v=some d):
  ∃x,(x6 tmps v).run C.P w= .ok x w/\d.tree=true/\(∀vs,d≠.tuple vs)/\dD d x/\ar w F d (cj x) (S (jg v)):=by
 cases v with
 |tmp t=>
  simp only[oU]at aJ;split at aJ
  .rename_i a8;have mM:(∀vs,s t≠.tuple vs)/\d=s t:=by
    cases ad:s t<;>rw[ad]at aJ<;>simp only at aJ<;>first
     |(cases aJ;done)
     |(simp only[Option.some.injEq]at aJ;exact⟨(λ_ h=>by cases h),aJ.symm⟩)
   obtain⟨mM,rfl⟩:=mM;obtain⟨g1,g2⟩:=(aH.cv a8).1 (h.dp t);exact⟨_,by simp[x6],a8,mM,g1,g2⟩
  .cases aJ
 |cell a T=>
  simp only[oU]at aJ;split at aJ
  .rename_i e ad;split at aJ
   .rename_i Uz;obtain⟨iF,FC⟩:=Uz;simp only[Option.some.injEq]at aJ;subst aJ;have ix:=h.dp a;rw[ad]at ix;obtain⟨g1,g2⟩:=(aH.cv (d:=.bf e) rfl).1 ix;rw[gq g1,ar]at g2;obtain⟨b,cur,ty,fr,aN,b3,cc,eT,dL,fp,cW,k7⟩:=g2;simp only[List.cons.injEq,and_true]at b3;have j2:Rd w b 0 cur.toList:=by
     have:=uF eT cur.size
     rwa [List.take_of_length_le (by simp)]at this
    obtain⟨x,di,aZ,cZ⟩:=AX (C:=C) bn j2 fp iF;refine⟨x,?_,FC,?_,cZ,?_⟩
    .simp only[x6];rw[b3];simpa [asAddr]using di
    .intro vs f_;subst f_;unfold fits at iF;split at iF<;>simp_all
    .rw[aZ];exact ar.mono (λ_ h=>h) _ _ _ _ cW fp
   .cases aJ
  .cases aJ
theorem UA (bn:C.Ok) (h:bD w0 F0 X F S s (λt=>tmps.getD t undef) w):∀(eL:List ResultVar) (ds:alW),eL.map (oU C s)=ds.map some->(eL.map jg).Nodup->
  ∃xs,(eL.mapM (x6 tmps)).run C.P w= .ok xs w/\xs.length=ds.length/\a1 w F ds (xs.flatMap iu) (λb=>∃t∈eL.map jg,S t b)/\
   ∀(k:Nat) (d:I) (x:Value),ds[k]? =some d->xs[k]? =some x->dD d x/\(∀vs,d≠.tuple vs)/\(iu x).length=d.wd/\cj x=iu x/\d.tree=true:=by
 intro eL;induction eL with
 |nil=>
  intro ds he _;have:ds=[]:=by simpa using he.symm
  subst this;exact⟨[],by simp,rfl,by simp only[List.flatMap_nil];rw[a1],λk d x ai=>by simp at ai⟩
 |cons v eL ih=>
  intro ds he u6;cases ds with
  |nil=>simp at he
  |cons d ds=>
   simp only[List.map_cons,List.cons.injEq]at he;simp only[List.map_cons,List.nodup_cons]at u6;obtain⟨x,di,rt,aZ,cZ,bU⟩:=Uy bn h he.1;obtain⟨xs,gE,gD,iH,iI⟩:=ih ds he.2 u6.2;obtain⟨aR,aV⟩:=Ml aZ cZ;refine⟨x::xs,by simp[List.mapM_cons,di,gE],by simp[gD],?_,?_⟩
   .simp only[List.flatMap_cons];rw[a1];rw[aR]at bU;refine⟨iu x,xs.flatMap iu,S (jg v),λb=>∃t∈eL.map jg,S t b,rfl,bU,iH,λb R=>⟨jg v,by simp,R⟩,?_,?_⟩
    .rintro b ⟨t,a8,R⟩;exact⟨t,by simp[a8],R⟩
    .rintro b R ⟨t,a8,ll⟩;have:t≠jg v:=λe=>u6.1 (e▸a8);exact h.e_ t (jg v) b this ll R
   .intro k bg cp ai au;cases k with
    |zero=>
     simp at ai au;subst ai au;refine⟨cZ,aZ,?_,aR,rt⟩;rw[<-aR];exact ar.length _ _ _ bU
    |succ k=>exact iI k bg cp (by simpa using ai) (by simpa using au)
theorem FD (bn:C.Ok) {f:FuncId} {fn:Func} {c:Code} {fx:alR} {as outs:alW} {r:I} (bo:C.P.funcs[f]? =some fn) (R:fn.body=some c)
  (kP:(fn.name== "runtime.NumGoroutine")=false) (aS:as.length<=fn.ntmps)
  {w:World} {F X:Nat->Prop} {S:Nat->Nat->Prop} {vs:alU} (hl:vs.length=as.length) (aM:bD w F X F S (eW as) (gb vs) w)
  (FE:∀a,Rel w F X ⟨fn.ntmps,fx⟩ (gb vs) (eW as) a w->(∀t,a.tmps.getD t undef=gb vs t)->c.wp C.P (qZ w F X ⟨fn.ntmps,fx⟩ (gb vs) (λe s=>(e= .normal\/e= .ret)/\dK (Ends C fx fn.results.toList r outs) s)) a w):
  mN C.P f vs.toArray w λv aF=>∃bO aN,bD w F X bO aN (eW (r::outs)) (gb (v::vs)) aF:=by
 have n7:(vs.toArray++Array.replicate (fn.ntmps-vs.toArray.size) undef).size=fn.ntmps:=by simp;omega
 have el:(λt=>(vs.toArray++Array.replicate (fn.ntmps-vs.toArray.size) undef).getD t undef)=gb vs:=by
  funext t;simp only[gb,Array.getD_eq_getD_getElem?,List.getD_eq_getElem?_getD];by_cases a8:t<vs.length
  .rw[Array.getElem?_append_left (by simpa using a8)];simp
  .rw[Array.getElem?_append_right (by simpa using a8)];rw[List.getElem?_eq_none (by omega)];simp only[Array.getElem?_replicate];split<;>rfl
 have hrel:Rel w F X ⟨fn.ntmps,fx⟩ (gb vs) (eW as) {tmps:=vs.toArray++Array.replicate (fn.ntmps-vs.toArray.size) undef,defers:=[]} w:=
  ⟨rfl,n7,λi _=>congrFun el i,F,S,by rw[el];exact aM⟩
 have FF:fn.name≠ "runtime.NumGoroutine" :=by simpa using kP
 refine .inl ⟨by simp[callFunc,bo,FF,R],calls_of_wp bo R (wp_mono (FE _ hrel (congrFun el)) ?_)⟩;rintro e cL aF ⟨aB,⟨he,UB⟩,UC⟩;obtain⟨aB,⟨ds,hf,Mm,u6,s0⟩,ai,ea,iy,bO,aN,eG⟩:∃aB,FB C fx fn.results.toList r outs aB/\Rel w F X ⟨fn.ntmps,fx⟩ (gb vs) aB cL aF:=by
  obtain⟨aB,he,Mn⟩:=UC.dK UB;rcases he with he|⟨t,y,q,d,s1,ab,ae,he⟩
  .exact⟨aB,he,Mn⟩
  .obtain⟨g1,g2,g3,F,S,g4⟩:=Mn;obtain⟨aN,g5⟩:=g4.takes ab ae;exact⟨_,he,g1,g2,g3,F,aN,g5⟩
 obtain⟨xs,gE,gD,iH,iI⟩:=UA bn eG _ ds hf u6;have UD:(results fn cL.tmps)=(do let vs<-fn.results.mapM (x6 cL.tmps);pure (if h:vs.size=1 then vs[0]else .tuple vs)):=by
  unfold results;congr 1
 have s6:(results fn cL.tmps).run C.P aF= .ok (if h:xs.toArray.size=1 then xs.toArray[0]else .tuple xs.toArray) aF:=by
  rw[UD,Array.mapM_eq_mapM_toList];simp[gE]
 have p2:(r.tree=true/\dD r (if h:xs.toArray.size=1 then xs.toArray[0]else .tuple xs.toArray)/\
   ar aF bO r (cj (if h:xs.toArray.size=1 then xs.toArray[0]else .tuple xs.toArray)) (λb=>∃t∈fn.results.toList.map jg,aN t b)):=by
  by_cases ab:∃d,ds=[d]
  .obtain⟨d,rfl⟩:=ab;obtain⟨x,rfl⟩:∃x,xs=[x]:=by
    cases xs with
    |nil=>simp at gD
    |cons x xs=>cases xs with
     |nil=>exact⟨x,rfl⟩
     |cons y ys=>simp at gD
   obtain⟨b3,cc,eT,dL,fp⟩:=iI 0 d x rfl rfl;have UE:d=r:=Mm.symm;subst UE;simp only[List.flatMap_cons,List.flatMap_nil,List.append_nil]at iH;rw[a1]at iH;obtain⟨c1,c2,b5,dg,aR,aV,aW,cm,cC,b7⟩:=iH;rw[a1]at aW;subst aW;simp only[List.append_nil]at aR;subst aR;have au:(if h:([x]:alU).toArray.size=1 then([x]:alU).toArray[0]else .tuple ([x]:alU).toArray)=x:=by simp
   rw[au,dL];exact⟨fp,b3,ar.mono (λ_ h=>h) _ _ _ _ cm aV⟩
  .have Bs:r= .tuple ds:=by
    rw[Mm];cases ds with
    |nil=>rfl
    |cons d ds=>cases ds with
     |nil=>exact(ab ⟨d,rfl⟩).elim
     |cons e ds=>rfl
   have au:(if h:xs.toArray.size=1 then xs.toArray[0]else Value.tuple xs.toArray)= .tuple xs.toArray:=by
    rw[dif_neg];intro ea;have:ds.length=1:=by rw[<-gD];simpa using ea
    obtain⟨d,ai⟩:=List.length_eq_one_iff.1 this;exact ab ⟨d,ai⟩
   rw[au,Bs];refine⟨rfl,⟨xs.toArray,rfl,by simpa using gD,λk d x ai au=>?_⟩,?_⟩
   .obtain⟨b3,cc,eT,dL,_⟩:=iI k d x ai (by simpa using au);exact⟨(Ml cc b3).2,cc,eT⟩
   .rw[ar];simpa [cj]using iH
 have post:∀(v:Value),(r.tree=true/\dD r v/\ar aF bO r (cj v) (λb=>∃t∈fn.results.toList.map jg,aN t b))->∃tp b5,bD w F X tp b5 (eW (r::outs)) (gb (v::vs)) aF:=by
  rintro v ⟨v1,v2,v3⟩;have FG:∀i,(outs.getD i .hole).gv=true->outs.getD i .hole=aB i/\i∈fx/\i∉fn.results.toList.map jg:=by
   intro i ao;cases bE:outs[i]? with
   |none=>simp[List.getD,bE,I.gv]at ao
   |some o=>
    have e:outs.getD i .hole=o:=by simp[List.getD,bE]
    rw[e]at ao⊢;rcases s0 i o bE with h|h
    .subst h;simp[I.gv]at ao
    .exact⟨h.1,h.2.2⟩
  refine⟨bO,λt b=>match t with|0=>∃t∈fn.results.toList.map jg,aN t b|i+1=>(outs.getD i .hole).gv=true/\aN i b,eG.gm,eG.gC,eG.eQ,?_,?_,?_,?_,?_,eG.old,eG.size,eG.os,eG.tape,eG.output,aM.gn⟩
  .intro t b R;cases t with
   |zero=>obtain⟨t,_,R⟩:=R;exact eG.dW t b R
   |succ i=>exact eG.dW i b R.2
  .intro t b R;cases t with
   |zero=>obtain⟨t,_,R⟩:=R;exact eG.fb t b R
   |succ i=>exact eG.fb i b R.2
  .intro t u b cY R hu;cases t with
   |zero=>
    obtain⟨t,a8,R⟩:=R;cases u with
    |zero=>exact cY rfl
    |succ j=>
     refine eG.e_ t j b (λe=>?_) R hu.2;subst e;exact(FG t hu.1).2.2 a8
   |succ i=>
    cases u with
    |zero=>
     obtain⟨t,a8,hu⟩:=hu;refine eG.e_ t i b (λe=>?_) hu R.2;subst e;exact(FG t R.1).2.2 a8
    |succ j=>exact eG.e_ i j b (by omega) R.2 hu.2
  .intro t b R;cases t with
   |zero=>obtain⟨t,_,R⟩:=R;exact eG.dx t b R
   |succ i=>exact eG.dx i b R.2
  .intro t;cases t with
   |zero=>exact(aH.cv v1).2 ⟨v2,v3⟩
   |succ i=>
    show aH aF bO (eW (r::outs)) (gb (v::vs)) (outs.getD i .hole) (vs.getD i undef) (λb=>(outs.getD i .hole).gv=true/\aN i b);cases ao:(outs.getD i .hole).gv with
    |false=>
     have:outs.getD i .hole= .hole:=by
      cases bE:outs[i]? with
      |none=>simp[List.getD,bE]
      |some o=>
       have e:outs.getD i .hole=o:=by simp[List.getD,bE]
       rw[e]at ao⊢;rcases s0 i o bE with h|h
       .exact h
       .rw[h.2.1]at ao;cases ao
     rw[this,aH];trivial
    |true=>
     obtain⟨lY,j4,oP⟩:=FG i ao;have a8:=(qY ao).2.1;have ix:=eG.dp i;rw[<-lY]at ix;obtain⟨g1,g2⟩:=(aH.cv a8).1 ix;have aJ:cL.tmps.getD i undef=vs.getD i undef:=iy i j4;rw[aJ]at g1 g2;exact(aH.cv a8).2 ⟨g1,ar.mono (λ_ h=>h) _ _ _ _ (λb R=>⟨rfl,R⟩) g2⟩
 rcases he with rfl|rfl
 .exact⟨ai,_,s6,_,rfl,post _ p2⟩
 .exact⟨ai,_,s6,_,rfl,post _ p2⟩
theorem aY.of_wp (bn:C.Ok) {f:FuncId} {fn:Func} {c:Code} {dj:aI} {fx:alR} {as outs:alW} {r:I} (bo:C.P.funcs[f]? =some fn) (R:fn.body=some c)
  (kP:(fn.name== "runtime.NumGoroutine")=false) (ad:e5 ⟨fn.ntmps,fx⟩ c=some dj.strip) (aS:as.length<=fn.ntmps)
  (h:a_ C dj (λe s=>(e= .normal\/e= .ret)/\dK (Ends C fx fn.results.toList r outs) s) (eW as)) (aq:dj.plain=true:=by kernel_rfl):aY C f as r outs:=
 λw F X S vs hl aM=>FD bn bo R kP aS hl aM λa hrel _=>Mk bn c (by rw[aI.Fw];exact ad) (aI.Bp dj (aI.Mc dj aq)) (Bq dj h) hrel
end
def num:Nat->alW->alV
 |_,[]=>[]
 |k,a::as=>(k,a)::num (k+1) as
theorem UF:∀(as:alW) (k t:Nat),ay (num k as) (k+t)=as.getD t .hole:=by
 intro as;induction as with
 |nil=>intro k t;simp[num,ay]
 |cons a as ih=>
  intro k t;cases t with
  |zero=>simp[num,ay]
  |succ t=>
   have:=ih (k+1) t;simp only[num,ay];rw[if_neg (by omega)];rw[show k+(t+1)=k+1+t by omega,this];simp
theorem Bt (as:alW):eW as=ay (num 0 as):=by
 funext t;have:=UF as 0 t;rw[Nat.zero_add]at this;rw[this];rfl
theorem x7 (l:alV) (t:Nat) (d:I):dq (ay l) t d=ay ((t,d)::l):=by
 funext u;simp only[dq,ay]
def q0 (t:Nat):alV->alV
 |[]=>[]
 |(u,d)::l=>(u,cR t d)::q0 t l
def tu (t:Nat):alV->alV
 |[]=>[]
 |(u,d)::l=>(u,cb t d)::tu t l
theorem FH (t:Nat):∀l:alV,lQ t (ay l)=ay (q0 t l):=by
 intro l;funext u;induction l with
 |nil=>rfl
 |cons p l ih=>
  obtain⟨v,d⟩:=p;simp only[lQ,ay,q0]at ih⊢;split
  .rfl
  .exact ih
theorem UG (t:Nat):∀l:alV,h7 t (ay l)=ay (tu t l):=by
 intro l;funext u;induction l with
 |nil=>rfl
 |cons p l ih=>
  obtain⟨v,d⟩:=p;simp only[h7,ay,tu]at ih⊢;split
  .rfl
  .exact ih
def gO (k:alR) (s:aw):alV:=k.map λt=>(t,s t)
section
variable {C:ca} {l:alV}
def ed.ie:ed->Bool
 | .call _ _=>true
 | .hB _=>false
 | .lx _=>false
 | .pick _ _ _=>false
 | .kq _=>false
 | .iw _ _=>false
 | .hd _ _=>false
 | .fa _ _ _=>false
 | .fk _ _=>false
 | .iV _ _ _=>false
 | .kK _=>false
 | .eU _ _ _ _=>false
 | .un _ _=>false
 | .iX _ _ _=>false
 | .mL _ _=>false
 | .eK _ _ _=>false
 | .h9 _ _ _ _=>false
 | .ho _ _ _=>false
 | .jL _ _ _=>false
 | .idx _ _ _=>false
 | .ex _ _=>false
 | .me _ _ _=>false
 | .len _ _=>false
 | .app _ _ _ _=>false
 | .shr _=>true
 | .cap _ _=>false
 | .pV _ _ _=>false
 | .bad=>false
 | .ks _ _ _=>true
 | .jM _ _=>false
 | .ns _=>false
 | .xF=>false
 | .n3 _ _ _=>false
 | .mK _ _ _ _=>false
variable {Q:Exit->aw->Prop}
def I.Mo:I->Bool
 | .tuple _=>true
 |_=>false
theorem Ends.one {fx:alR} {t:Nat} {r:I} {s:aw} (ab:s t=r) (ae:(r.tree&& !r.Mo)=true):Ends C fx [.tmp t] r [] s:=by
 simp only[Bool.and_eq_true,Bool.not_eq_true']at ae;obtain⟨ae,Bu⟩:=ae;have az:∀vs,r≠.tuple vs:=λvs e=>by subst e;simp[I.Mo]at Bu
 refine .inl ⟨[r],?_,rfl,by simp,λi o h=>by simp at h⟩;have:oU C s (.tmp t)=some r:=by
  simp only[oU,ab,ae,if_true];try (cases r<;>first|rfl|exact(az _ rfl).elim)
 simp only[List.map_cons,List.map_nil,this]
end
section
variable {C:ca} {l:alV} {Q:Exit->aw->Prop}
theorem aY.outs {f:FuncId} {as:alW} {r:I} {lY j4:alW} (h:aY C f as r lY) (he:eW lY=eW j4):aY C f as r j4:=by
 intro w F X S vs hl aM;refine mN.mono (h w F X S vs hl aM) ?_;rintro v aF ⟨bO,aN,bC⟩;refine⟨bO,aN,?_⟩;have:eW (r::j4)=eW (r::lY):=by
  funext t;cases t with
  |zero=>rfl
  |succ t=>exact(congrFun he t).symm
 rw[this];exact bC
def mj:alW->alW->List cD
 |a::as,d::ds=>⟨a,false,d,.hole⟩::mj as ds
 |_,_=>[]
theorem UH {s:aw}:∀(as ds:alW),views s as=some ds->(mj as ds).map (·.a)=as/\(mj as ds).map (·.d)=ds/\(∀p∈mj as ds,p.ok s/\p.g=false/\p.o= .hole/\p.a∈as)/\ia (mj as ds)=true/\
  eW ((mj as ds).map (·.o))=eW []/\(∀q1,e3 q1 (mj as ds)=q1)/\(∀q1,hp q1 (mj as ds)=q1):=by
 intro as;induction as with
 |nil=>
  intro ds h;simp only[views,Option.some.injEq]at h;subst h;exact⟨rfl,rfl,(λp aq=>by cases aq),rfl,rfl,λ_=>rfl,λ_=>rfl⟩
 |cons a as ih=>
  intro ds h;simp only[views]at h;split at h
  .rename_i d UI ab ae;simp only[Option.some.injEq]at h;subst h;obtain⟨aR,aV,aW,cm,cC,b7,bW⟩:=ih UI ae;refine⟨by simp only[mj,List.map_cons,aR],by simp only[mj,List.map_cons,aV],?_,?_,?_,?_,?_⟩
   .intro p aq;simp only[mj,List.mem_cons]at aq;rcases aq with rfl|aq
    .exact⟨by simp only[cD.ok];exact ab,rfl,rfl,by simp⟩
    .obtain⟨g1,g2,g3,g4⟩:=aW p aq;exact⟨g1,g2,g3,by simp[g4]⟩
   .simp only[mj,ia,cm,Bool.and_true,List.all_eq_true];intro p aq;simp[(aW p aq).2.1]
   .funext t;cases t with
    |zero=>rfl
    |succ t=>exact(congrFun cC t).trans (by simp[eW])
   .intro q1;exact b7 q1
   .intro q1;exact bW q1
  .cases h
end
structure fs where
 c8:alR
 H:alR
 T:alR
 c:Bool
mutual
def I.clean:I->Bool
 | .hole=>false
 | .fn _ cap=>I.u7 cap
 |_=>true
def I.u7:alW->Bool
 |[]=>true
 |d::ds=>d.clean&&I.u7 ds
end
mutual
theorem Mp {x:Nat}:∀a:I,(cb x a).clean=true->cb x a=a
 | .h y q,h=>by
   simp only[cb]at h⊢;split
   .rename_i e;rw[if_pos e]at h;split
    .rfl
    .rename_i f_;rw[if_neg f_]at h;simp[I.clean]at h
   .rfl
 | .aq y q,h=>by
   simp only[cb]at h⊢;split
   .rename_i e;rw[if_pos e]at h;simp[I.clean]at h
   .rfl
 | .R y q,h=>rfl
 | .fn f cap,h=>by simp only[cb,I.clean]at h⊢;rw[Mq cap h]
 | .hole,_=>rfl
 | .bool _,_=>rfl
 | .fm,_=>rfl
 | .int _ _,_=>rfl
 | .str _,_=>rfl
 | .dC,_=>rfl
 | .bd,_=>rfl
 | .slice _,_=>rfl
 | .ag _ _,_=>rfl
 | .ref _,_=>rfl
 | .bf _,_=>rfl
 | .agg _,_=>rfl
 | .tuple _,_=>rfl
 | .dS _,_=>rfl
 | .fJ _ _,_=>rfl
theorem Mq {x:Nat}:∀ds:alW,I.u7 (iN x ds)=true->iN x ds=ds
 |[],_=>rfl
 |d::ds,h=>by
  simp only[iN,I.u7,Bool.and_eq_true]at h⊢;rw[Mp d h.1,Mq ds h.2]
end
mutual
theorem Mr {x:Nat}:∀a:I,(cR x a).clean=true->cR x a=a
 | .h y q,h=>by
   simp only[cR]at h⊢;split
   .rename_i e;rw[if_pos e]at h;simp[I.clean]at h
   .rfl
 | .aq y q,h=>by
   simp only[cR]at h⊢;split
   .rename_i e;rw[if_pos e]at h;simp[I.clean]at h
   .rfl
 | .R y q,h=>by
   simp only[cR]at h⊢;split
   .rename_i e;rw[if_pos e]at h;simp[I.clean]at h
   .rfl
 | .fn f cap,h=>by simp only[cR,I.clean]at h⊢;rw[Ms cap h]
 | .hole,_=>rfl
 | .bool _,_=>rfl
 | .fm,_=>rfl
 | .int _ _,_=>rfl
 | .str _,_=>rfl
 | .dC,_=>rfl
 | .bd,_=>rfl
 | .slice _,_=>rfl
 | .ag _ _,_=>rfl
 | .ref _,_=>rfl
 | .bf _,_=>rfl
 | .agg _,_=>rfl
 | .tuple _,_=>rfl
 | .dS _,_=>rfl
 | .fJ _ _,_=>rfl
theorem Ms {x:Nat}:∀ds:alW,I.u7 (jd x ds)=true->jd x ds=ds
 |[],_=>rfl
 |d::ds,h=>by
  simp only[jd,I.u7,Bool.and_eq_true]at h⊢;rw[Mr d h.1,Ms ds h.2]
end
theorem UJ {k:pW} {x:Nat} {a:I} (h:(k.app x a).clean=true):k.app x a=a:=by
 cases k with
 |no=>rfl
 |cb=>exact Mp a h
 |cR=>exact Mr a h
theorem UK:∀(ms:List gN) (u:Nat) (a:I),(∀m∈ms,m.x≠u)->(j3 ms u a).clean=true->j3 ms u a=a:=by
 intro ms;induction ms with
 |nil=>intros;rfl
 |cons m ms ih=>
  intro u a au an;simp only[j3]at an⊢;have e:=ih u _ (λh8 tv=>au h8 (by simp[tv])) an;have hm:m.at u a=m.k.app m.x a:=by
   simp only[gN.at];rw[if_neg (λe=>au m (by simp) e.symm)]
  rw[e,hm];rw[e,hm]at an;exact UJ an
theorem UL:∀(ms:List gN) (u:Nat) (a:I),(∀m∈ms,m.x≠u/\m.x∉a.ad)->j3 ms u a=a:=by
 intro ms;induction ms with
 |nil=>intros;rfl
 |cons m ms ih=>
  intro u a au;simp only[j3];have hm:m.at u a=a:=by
   simp only[gN.at];rw[if_neg (λe=>(au m (by simp)).1 e.symm)];exact xM (.inr (au m (by simp)).2)
  rw[hm];exact ih u a λh8 tv=>au h8 (by simp[tv])
theorem UM (m:gN):∀(ms:List gN) (u:Nat) (a:I),(∀h8∈ms,h8.x≠m.x/\h8.x∉m.d.ad/\m.x∉h8.d.ad)->j3 ms u (m.at u a)=m.at u (j3 ms u a):=by
 intro ms;induction ms with
 |nil=>intros;rfl
 |cons n ms ih=>
  intro u a au;simp only[j3];have aS:=au n (by simp);have an:n.at u (m.at u a)=m.at u (n.at u a):=by
   simp only[gN.at];by_cases aR:u=n.x
   .subst aR;rw[if_pos rfl,if_neg aS.1,if_pos rfl];exact(xM (.inr aS.2.2)).symm
   .rw[if_neg aR];by_cases aV:u=m.x
    .subst aV;rw[if_pos rfl,if_pos rfl];exact xM (.inr aS.2.1)
    .rw[if_neg aV,if_neg aR,if_neg aV];exact Tc _ _ _ _ _
  rw[an];exact ih u _ λh8 tv=>au h8 (by simp[tv])
theorem UN:∀(ms k9:List gN) (s:aw),(∀m∈ms,∀n∈k9,n.x≠m.x/\n.x∉m.d.ad/\m.x∉n.d.ad)->dJ k9 (dJ ms s)=dJ ms (dJ k9 s):=by
 intro ms;induction ms with
 |nil=>intros;rfl
 |cons m ms ih=>
  intro k9 s h;have e:∀s,dJ (m::ms) s=dJ ms (dJ [m] s):=λs=>mi [m] ms s;rw[e,e,ih k9 _ (λh8 tv=>h h8 (by simp[tv]))];congr 1;funext u;simp only[dJ,j3];exact UM m k9 u _ (h m (by simp))
def Mt (C:ca) (s:aw) (f:bk) (args:List bk) (K:alR->I->aw->Prop):Prop:=
 ∃(g:FuncId) (caps:alW) (ps:List cD) (r:I),bu s f= .fn g caps/\I.eg caps=true/\ps.map (·.a)=args.map (bu s)++caps/\(∀p∈ps,p.ok s)/\ia ps=true/\
   aY C g (ps.map (·.d)) r (ps.map (·.o))/\r.res=true/\(jR ps=true->r.cS=true/\∀p∈ps,p.o.cS=true)/\K (I.dQ ((ps.filter (·.g)).map (·.a))) r (hp (e3 s ps) ps)
def og (C:ca) (s:aw) (bV:ed) (K:alR->I->aw->Prop):Prop:=
 match bV with
 | .call f args=>∃(g:FuncId) (caps:alW) (ps:List cD) (r:I),bu s f= .fn g caps/\I.eg caps=true/\ps.map (·.a)=args.map (bu s)++caps/\(∀p∈ps,p.ok s)/\ia ps=true/\
   aY C g (ps.map (·.d)) r (ps.map (·.o))/\r.res=true/\(jR ps=true->r.cS=true/\∀p∈ps,p.o.cS=true)/\K (I.dQ ((ps.filter (·.g)).map (·.a))) r (hp (e3 s ps) ps)
 | .shr bV=>∃av s1,b8 C s bV=some (av,s1)/\av.tree=true/\(∀vs,av≠.tuple vs)/\K (oM s bV) av.share s1
 | .ks f args us=>lB s (jf s us)=true/\Mt C s f args λcV av s1=>lB s1 (jf s us)=true/\K (us++cV) av (mO s1 (jf s us))
 |bV=>∃av s1,b8 C s bV=some (av,s1)/\K (oM s bV) av s1
def iY (s:aw) (c8:alR) (dst:Option Nat) (cV:alR) (av:I):fs:=
 ⟨c8,c8.flatMap (λu=>(s u).ad)++av.ad,dst.toList++cV,c8.all λu=>(s u).clean⟩
def nv (C:ca) (s:aw) (o:ch) (K:fs->aw->Prop):Prop:=
 match o.guard with
 |none=>og C s o.bV λcV av s1=>K (iY s (use s o.bV) o.dst cV av) (fin s1 o.dst av)
 |some (t,b)=>match s t with
  | .bool fH=>if fH=b then og C s o.bV (λcV av s1=>K (iY s (t::use s o.bV) o.dst cV av) (fin s1 o.dst av))else K (iY s [t] o.dst [] (.tuple [])) (fin s o.dst (.tuple []))
  | .tuple []=>K (iY s [t] o.dst [] (.tuple [])) (fin s o.dst (.tuple []))
  |_=>False
def p3:Option (List fs)->fs->Option (List fs)
 |none,_=>none
 |some l,f=>some (f::l)
def dE (C:ca) (s:aw):List ch->Option (List fs)->(Option (List fs)->aw->Prop)->Prop
 |[],acc,K=>K acc s
 |o::os,acc,K=>nv C s o λf s1=>dE C s1 os (p3 acc f) K
section
variable {C:ca}
theorem Mu {s:aw} {bV:ed} {K:alR->I->aw->Prop} {dz:I->aw->Prop} (ax:∀cV av s,K cV av s->dz av s) (h:og C s bV K):oc C s bV dz:=by
 cases bV with
 |call f args=>
  obtain⟨g,caps,ps,r,ab,gT,ae,az,a6,bF,cP,cB,fS⟩:=h;exact⟨g,caps,ps,r,ab,gT,ae,az,a6,bF,cP,cB,ax _ _ _ fS⟩
 |ks f args us=>
  obtain⟨cc,g,caps,ps,r,ab,gT,ae,az,a6,bF,cP,cB,fS,iE⟩:=h;exact⟨cc,g,caps,ps,r,ab,gT,ae,az,a6,bF,cP,cB,fS,ax _ _ _ iE⟩
 |shr bV=>
  obtain⟨av,s1,ab,ae,az,a6⟩:=h;exact⟨av,s1,ab,ae,az,ax _ _ _ a6⟩
 |_=>
  obtain⟨av,s1,ab,ae⟩:=h;exact⟨av,s1,ab,ax _ _ _ ae⟩
theorem UO {s:aw} {o:ch} {K:fs->aw->Prop} {dz:aw->Prop} (ax:∀f s,K f s->dz s) (h:nv C s o K):lZ C s o dz:=by
 unfold nv at h;unfold lZ;split
 .rename_i bR;rw[bR]at h;exact Mu (λ_ _ _=>ax _ _) h
 .rename_i t b bR;rw[bR]at h;simp only at h;split
  .rename_i fH ad;rw[ad]at h;simp only at h;split
   .rename_i R;rw[if_pos R]at h;exact Mu (λ_ _ _=>ax _ _) h
   .rename_i R;rw[if_neg R]at h;exact ax _ _ h
  .rename_i ad;rw[ad]at h;exact ax _ _ h
  .rename_i ab ae;split at h
   .exact ab _ (by assumption)
   .exact ae (by assumption)
   .exact h
theorem tw {K:aw->Prop}:∀{ros:List ch} {s:aw} {acc:Option (List fs)} {dz:Option (List fs)->aw->Prop},(∀a s,dz a s->K s)->dE C s ros acc dz->lC C s ros K:=by
 intro ros;induction ros with
 |nil=>intro s acc dz ax h;exact ax _ _ h
 |cons o ros ih=>intro s acc dz ax h;exact UO (λf s h=>ih ax h) h
theorem Mv {q:alR} {a d:I} (h:I.sub q a=some d) (b1:q≠[]\/d.ad=[]):a.ad=[]:=by
 cases q with
 |nil=>
  simp only[I.sub,Option.some.injEq]at h;subst h;exact b1.resolve_left (λe=>e rfl)
 |cons k q=>cases a<;>first|rfl|(simp[I.sub]at h)
def Bv (s:aw) (p:cD) (e:I->Prop):Prop:=p.g=true->∃x q d,p.a= .h x q/\I.sub q (s x)=some d/\e d/\(p.o= .hole\/p.o.gv=true)
theorem Mw {d:I} (h:d.gv=true):d.ad=[]:=Fi (qY h).2.1
theorem Mx {d:I} (h:d.gv=true):d.c_.ad=[]:=by cases d<;>first|rfl|(simp[I.gv]at h)
theorem My {p:cD} {ps:List cD} (h:ia (p::ps)=true):ia ps=true/\∀cE∈ps,(p.g=true\/cE.g=true)->∀u∈p.a.ad,u∉cE.a.ad:=by
 simp only[ia,Bool.and_eq_true,List.all_eq_true,Bool.or_eq_true,Bool.not_eq_true']at h;refine⟨h.2,λcE eH bR u hu=>?_⟩;rcases h.1 cE eH with e|e
 .rcases bR with bR|bR<;>simp[bR]at e
 .simpa using e u hu
def q2 (ps:List cD):alR:=I.dQ ((ps.filter (·.g)).map (·.a))
theorem u9 (p:cD) (ps:List cD):(∀u∈q2 ps,u∈q2 (p::ps))/\(p.g=true->∀u∈p.a.ad,u∈q2 (p::ps)):=by
 unfold q2;by_cases bR:p.g=true
 .simp only[List.filter_cons,bR,if_true,List.map_cons,I.dQ,List.mem_append];exact⟨λu h=>.inr h,λ_ u h=>.inl h⟩
 .simp only[List.filter_cons,bR];exact⟨λu h=>h,λh=>by simp at h⟩
theorem UP {p:cD} {ps:List cD} (h:p∈ps):∀u∈p.a.ad,u∈I.dQ (ps.map (·.a)):=by
 induction ps with
 |nil=>cases h
 |cons cE ps ih=>
  intro u hu;simp only[List.map_cons,I.dQ,List.mem_append];rcases List.mem_cons.1 h with rfl|h
  .exact .inl hu
  .exact .inr (ih h u hu)
theorem UQ:∀(ps:List cD) (s:aw),(∀p∈ps,Bv s p (λd=>d=p.d/\p.d.gv=true))->ia ps=true->
  (∃ms:List gN,(∀m∈ms,m.x∈q2 ps/\m.d.ad=[])/\∀aB,dH (I.dQ (ps.map (·.a))) aB s->e3 aB ps=dJ ms aB)/\∀p∈ps,Bv (e3 s ps) p (λd=>d=p.d.c_/\p.d.gv=true):=by
 intro ps;induction ps with
 |nil=>intro s _ _;exact⟨⟨[],by simp,λaB _=>rfl⟩,λp aq=>by cases aq⟩
 |cons p ps ih=>
  intro s bR kr;obtain⟨oO,n9⟩:=My kr;by_cases ml:p.g=true
  .obtain⟨x,q,d,cg,ad,⟨rfl,ai⟩,bE⟩:=bR p (by simp) ml;have jH:(I.put q p.d.c_ (s x)).ad=[]:=uX q _ _ _ ad (.inl (qY ai).1) λ_=>Mx ai;have x8:∀aB:aw,aB x=s x->p.take aB=dJ [⟨.cb,x,I.put q p.d.c_ (s x)⟩] aB:=by
    intro aB e;simp only[cD.take,ml,if_true,cg,e,tj]
   have cY:∀cE∈ps,∀cp iU,cE.a= .h cp iU->cp≠x:=by
    intro cE eH cp iU e f_;have:=n9 cE eH (.inl ml) x (by simp[cg,I.ad]);rw[e,f_]at this;simp[I.ad]at this
   have n_:∀cp,cp≠x->(s cp).ad=[]->dJ [⟨.cb,x,I.put q p.d.c_ (s x)⟩] s cp=s cp:=by
    intro cp rX aX;simp only[dJ,j3,gN.at];rw[if_neg rX];exact xM (.inr (by rw[aX];simp))
   obtain⟨⟨ms,m1,m2⟩,m3⟩:=ih (dJ [⟨.cb,x,I.put q p.d.c_ (s x)⟩] s) (λcE eH FI=>by
    obtain⟨cp,iU,bg,tm,fc,hb,x9⟩:=bR cE (by simp[eH]) FI;refine⟨cp,iU,bg,tm,?_,hb,x9⟩;rw[n_ cp (cY cE eH cp iU tm) (Mv fc (.inr (by rw[hb.1];exact Mw hb.2)))];exact fc) oO
   refine⟨⟨[⟨.cb,x,I.put q p.d.c_ (s x)⟩]++ms,?_,?_⟩,?_⟩
   .intro m hm;rcases List.mem_append.1 hm with hm|hm
    .simp only[List.mem_singleton]at hm;subst hm;exact⟨(u9 p ps).2 ml x (by simp[cg,I.ad]),jH⟩
    .exact⟨(u9 p ps).1 _ (m1 m hm).1,(m1 m hm).2⟩
   .intro aB fc;simp only[List.map_cons,I.dQ]at fc;have e:aB x=s x:=fc x (by simp[cg,I.ad]);rw[mi];show e3 (p.take aB) ps=_;rw[x8 aB e];exact m2 _ (dH.dJ fc.right _)
   .have aR:e3 s (p::ps)=e3 (dJ [⟨.cb,x,I.put q p.d.c_ (s x)⟩] s) ps:=by
     show e3 (p.take s) ps=_;rw[x8 s rfl]
    rw[aR];intro cE eH;rcases List.mem_cons.1 eH with rfl|eH
    .intro _;refine⟨x,q,cE.d.c_,cg,?_,⟨rfl,ai⟩,bE⟩;have aJ:dJ [⟨.cb,x,I.put q cE.d.c_ (s x)⟩] s x=I.put q cE.d.c_ (s x):=by
      simp only[dJ,j3,gN.at,if_true]
     rw[Fg (by rw[aJ];exact jH) (λUR US aj5=>?_),aJ]
     .exact LJ q _ _ _ ad
     .exact n9 UR US (.inl ml) x (by simp[cg,I.ad])
    .exact m3 cE eH
  .have x8:∀aB:aw,p.take aB=aB:=by intro aB;simp only[cD.take,ml];rfl
   obtain⟨⟨ms,m1,m2⟩,m3⟩:=ih s (λcE eH=>bR cE (by simp[eH])) oO;refine⟨⟨ms,λm hm=>⟨(u9 p ps).1 _ (m1 m hm).1,(m1 m hm).2⟩,?_⟩,?_⟩
   .intro aB fc;simp only[List.map_cons,I.dQ]at fc;show e3 (p.take aB) ps=_;rw[x8];exact m2 aB fc.right
   .intro cE eH;have aR:e3 s (p::ps)=e3 s ps:=by show e3 (p.take s) ps=_;rw[x8]
    rw[aR];rcases List.mem_cons.1 eH with rfl|eH
    .intro h;exact(ml h).elim
    .exact m3 cE eH
theorem UT:∀(ps:List cD) (s:aw),(∀p∈ps,Bv s p (λd=>d=p.d.c_/\p.d.gv=true))->ia ps=true->
  (∃ms:List gN,(∀m∈ms,m.x∈q2 ps/\m.d.ad=[])/\∀aB,dH (I.dQ (ps.map (·.a))) aB s->hp aB ps=dJ ms aB):=by
 intro ps;induction ps with
 |nil=>intro s _ _;exact⟨[],by simp,λaB _=>rfl⟩
 |cons p ps ih=>
  intro s bR kr;obtain⟨oO,n9⟩:=My kr;by_cases ml:p.g=true/\p.o≠.hole
  .obtain⟨ml,UU⟩:=ml;obtain⟨x,q,d,cg,ad,⟨rfl,ai⟩,bE⟩:=bR p (by simp) ml;have bE:p.o.gv=true:=bE.resolve_left UU;have jH:(I.put q p.o (s x)).ad=[]:=by
    cases q with
    |nil=>simp only[I.put];exact Mw bE
    |cons k q=>exact uX _ _ _ _ ad (.inr (by simp)) (by simp)
   have FJ:∀aB:aw,aB x=s x->p.iP aB=dJ [⟨.cR,x,I.put q p.o (s x)⟩] aB:=by
    intro aB e;simp only[cD.iP,ml,if_true,cg];rw[e,Lq]
   have cY:∀cE∈ps,∀cp iU,cE.a= .h cp iU->cp≠x:=by
    intro cE eH cp iU e f_;have:=n9 cE eH (.inl ml) x (by simp[cg,I.ad]);rw[e,f_]at this;simp[I.ad]at this
   obtain⟨ms,m1,m2⟩:=ih (dJ [⟨.cR,x,I.put q p.o (s x)⟩] s) (λcE eH FI=>by
    obtain⟨cp,iU,bg,tm,fc,hb,x9⟩:=bR cE (by simp[eH]) FI;refine⟨cp,iU,bg,tm,?_,hb,x9⟩;have aX:=Mv fc (.inr (by rw[hb.1];exact Mx hb.2));have n_:dJ [⟨.cR,x,I.put q p.o (s x)⟩] s cp=s cp:=by
     simp only[dJ,j3,gN.at];rw[if_neg (cY cE eH cp iU tm)];exact xM (.inr (by rw[aX];simp))
    rw[n_];exact fc) oO
   refine⟨[⟨.cR,x,I.put q p.o (s x)⟩]++ms,?_,?_⟩
   .intro m hm;rcases List.mem_append.1 hm with hm|hm
    .simp only[List.mem_singleton]at hm;subst hm;exact⟨(u9 p ps).2 ml x (by simp[cg,I.ad]),jH⟩
    .exact⟨(u9 p ps).1 _ (m1 m hm).1,(m1 m hm).2⟩
   .intro aB fc;simp only[List.map_cons,I.dQ]at fc;have e:aB x=s x:=fc x (by simp[cg,I.ad]);rw[mi];show hp (p.iP aB) ps=_;rw[FJ aB e];exact m2 _ (dH.dJ fc.right _)
  .have FJ:∀aB:aw,p.iP aB=aB:=by
    intro aB;unfold cD.iP;split
    .rename_i hJ;have:p.o= .hole:=by
      by_cases h:p.o= .hole
      .exact h
      .exact(ml ⟨hJ,h⟩).elim
     rw[this]
    .rfl
   obtain⟨ms,m1,m2⟩:=ih s (λcE eH=>bR cE (by simp[eH])) oO;refine⟨ms,λm hm=>⟨(u9 p ps).1 _ (m1 m hm).1,(m1 m hm).2⟩,?_⟩;intro aB fc;simp only[List.map_cons,I.dQ]at fc;show hp (p.iP aB) ps=_;rw[FJ];exact m2 aB fc.right
theorem UW {s aB:aw}:∀(a:I) (d:I),dH a.ad aB s->view s a=some d->view aB a=some d:=by
 intro a d h;have:=Fj (s:=s) (aB:=aB) a d;intro aJ;cases a with
 |h x q=>simp only[view]at aJ⊢;rw[h x (by simp[I.ad])];exact aJ
 |aq x q=>simp only[view]at aJ⊢;rw[h x (by simp[I.ad])];exact aJ
 |fn f cap=>
  refine this (λu hu _=>h u hu) aJ
 |_=>exact aJ
theorem UX {p:cD} {s aB:aw} (h:dH p.a.ad aB s) (fq:p.ok s):p.ok aB:=by
 unfold cD.ok at fq⊢;split
 .rename_i bR;rw[if_pos bR]at fq;cases cg:p.a with
  |h x q=>
   rw[cg]at fq;simp only at fq⊢;rw[h x (by simp[cg,I.ad])];exact fq
  |_=>rw[cg]at fq;exact fq.elim
 .rename_i bR;rw[if_neg bR]at fq;exact UW _ _ h fq
def Bw (C:ca) (o:ch) (s:aw) (kQ:fs) (ms:List gN):Prop:=
 (∀aB,dH kQ.c8 aB s->∀K:aw->Prop,K (dJ ms aB)->lZ C aB o K)/\(∀m∈ms,m.x∈kQ.T/\∀u∈m.d.ad,u∈kQ.H)/\(∀u∈kQ.c8,∀x∈(s u).ad,x∈kQ.H)/\(kQ.c=true->∀u∈kQ.c8,(s u).clean=true)
theorem Mz (dst:Option Nat) (av:I):∃ms:List gN,(∀m∈ms,m.x∈dst.toList/\m.d=av)/\∀s1:aw,fin s1 dst av=dJ ms s1:=by
 cases dst with
 |none=>exact⟨[],by simp,λs=>rfl⟩
 |some t=>
  simp only[fin];by_cases h:av.plain=true
  .exact⟨[⟨.no,t,av⟩],by simp,λs=>by rw[if_pos h,Lr]⟩
  .exact⟨[⟨.cR,t,av⟩],by simp,λs=>by rw[if_neg h,Lq]⟩
theorem Bx {s:aw} {c8:alR} {dst:Option Nat} {cV:alR} {av:I}:(∀u∈(iY s c8 dst cV av).c8,∀x∈(s u).ad,x∈(iY s c8 dst cV av).H)/\((iY s c8 dst cV av).c=true->∀u∈(iY s c8 dst cV av).c8,(s u).clean=true):=by
 refine⟨λu hu x au=>?_,λan=>?_⟩
 .simp only[iY,List.mem_append,List.mem_flatMap];exact .inl ⟨u,hu,au⟩
 .simp only[iY,List.all_eq_true]at an;exact an
theorem MA {s:aw} {f:bk} {args:List bk} {K:alR->I->aw->Prop} (h:Mt C s f args K):
  ∃cV av ms,K cV av (dJ ms s)/\(∀m∈ms,m.x∈cV/\m.d.ad=[])/\∀aB,dH (use s (.call f args)) aB s->∀dz:I->aw->Prop,dz av (dJ ms aB)->Fl C aB f args dz:=by
 obtain⟨g,caps,ps,r,ab,gT,ae,az,a6,bF,cP,cB,fS⟩:=h;have UY:∀p∈ps,Bv s p (λd=>d=p.d/\p.d.gv=true):=by
  intro p aq bR;have:=az p aq;simp only[cD.ok,bR,if_true]at this;cases cg:p.a with
  |h x q=>rw[cg]at this;exact⟨x,q,p.d,rfl,this.1,⟨rfl,this.2.1⟩,this.2.2.imp id λh=>h.1⟩
  |_=>rw[cg]at this;exact this.elim
 obtain⟨⟨oN,J,a2⟩,a3⟩:=UQ ps s UY a6;obtain⟨r3,jO,hz⟩:=UT ps (e3 s ps) a3 a6;have pT:∀u∈I.dQ (ps.map (·.a)),u∈use s (.call f args):=by
  rw[ae];intro u hu;simp only[use,List.mem_append];have key:∀(eV l2:alW),u∈I.dQ (eV++l2)->u∈I.dQ eV\/u∈I.dQ l2:=by
   intro eV;induction eV with
   |nil=>intro l2 h;exact .inr h
   |cons a eV ih=>
    intro l2 h;simp only[List.cons_append,I.dQ,List.mem_append]at h⊢;rcases h with h|h
    .exact .inl (.inl h)
    .exact(ih l2 h).imp .inr id
  rcases key _ _ hu with hu|hu
  .exact .inr (bk.Bd u hu)
  .refine .inl (bk.tk u ?_);rw[ab];exact hu
 have gr:hp (e3 s ps) ps=dJ (oN++r3) s:=by
  rw[mi,<-a2 s (λ_ _=>rfl),hz _ (λ_ _=>rfl)]
 refine⟨q2 ps,r,oN++r3,by rw[<-gr];exact fS,?_,?_⟩
 .intro m hm;rcases List.mem_append.1 hm with hm|hm
  .exact J m hm
  .exact jO m hm
 .intro aB ad dz ax;have qX:dH (I.dQ (ps.map (·.a))) aB s:=ad.sub pT;have bo:dH (f.use s) aB s:=by simp only[use]at ad;exact ad.left
  have au:dH (bk.oL s args) aB s:=by simp only[use]at ad;exact ad.right
  have aR:hp (e3 aB ps) ps=dJ (oN++r3) aB:=by
   rw[mi,<-a2 aB qX,hz];rw[a2 aB qX,a2 s (λ_ _=>rfl)];exact dH.dJ qX _
  exact⟨g,caps,ps,r,by rw[bk.fM bo];exact ab,gT,by rw[bk.E5 au];exact ae,λp aq=>UX (qX.sub (UP aq)) (az p aq),a6,bF,cP,cB,by rw[aR];exact ax⟩
mutual
theorem MB {s aB:aw}:∀(d:I),dH d.ad aB s->d.fy aB=d.fy s
 | .h x q,h=>by simp only[I.fy];rw[h x (by simp[I.ad])]
 | .R x q,h=>by simp only[I.fy];rw[h x (by simp[I.ad])]
 | .fn f cap,h=>by simp only[I.fy];exact MC cap (by simpa only[I.ad]using h)
 | .aq _ _,_=>by simp only[I.fy]
 | .hole,_=>by simp only[I.fy]
 | .bool _,_=>by simp only[I.fy]
 | .fm,_=>by simp only[I.fy]
 | .int _ _,_=>by simp only[I.fy]
 | .str _,_=>by simp only[I.fy]
 | .dC,_=>by simp only[I.fy]
 | .bd,_=>by simp only[I.fy]
 | .slice _,_=>by simp only[I.fy]
 | .ag _ _,_=>by simp only[I.fy]
 | .ref _,_=>by simp only[I.fy]
 | .bf _,_=>by simp only[I.fy]
 | .agg _,_=>by simp only[I.fy]
 | .tuple _,_=>by simp only[I.fy]
 | .dS _,_=>by simp only[I.fy]
 | .fJ _ _,_=>by simp only[I.fy]
theorem MC {s aB:aw}:∀(ds:alW),dH (I.dQ ds) aB s->I.ob aB ds=I.ob s ds
 |[],_=>rfl
 |d::ds,h=>by
  simp only[I.dQ]at h;simp only[I.ob];rw[MB d h.left,MC ds h.right]
end
theorem FK {s aB:aw} {us:alR} (h:dH (us.flatMap λu=>u::(s u).ad) aB s):jf aB us=jf s us:=by
 unfold jf;refine List.map_congr_left λu hu=>?_;rw[h u (List.mem_flatMap.2 ⟨u,hu,by simp⟩)]
theorem FL {s aB:aw}:∀(L:alV),(∀p∈L,dH p.2.ad aB s)->lB aB L=lB s L
 |[],_=>rfl
 |p::L,h=>by
  simp only[lB];rw[MB p.2 (h p (by simp)),FL L (λq b1=>h q (by simp[b1]))]
theorem MD:∀(L:alV) (s:aw),mO s L=dJ (L.map λp=>⟨.no,p.1,p.2⟩) s
 |[],s=>rfl
 |p::L,s=>by
  simp only[mO,List.map_cons];rw[MD L,Lr];exact(mi [⟨.no,p.1,p.2⟩] _ s).symm
theorem UZ {s:aw} {bV:ed} {K:alR->I->aw->Prop} (h:og C s bV K):
  ∃cV av ms,K cV av (dJ ms s)/\(∀m∈ms,m.x∈cV/\∀v∈m.d.ad,∃u∈use s bV,v∈(s u).ad)/\∀aB,dH (use s bV) aB s->∀dz:I->aw->Prop,dz av (dJ ms aB)->oc C aB bV dz:=by
 have plain:(∃av s1,b8 C s bV=some (av,s1)/\K (oM s bV) av s1)->(∀aB (dz:I->aw->Prop) av s1,b8 C aB bV=some (av,s1)->dz av s1->oc C aB bV dz)->
   ∃cV av ms,K cV av (dJ ms s)/\(∀m∈ms,m.x∈cV/\∀v∈m.d.ad,∃u∈use s bV,v∈(s u).ad)/\∀aB,dH (use s bV) aB s->∀dz:I->aw->Prop,dz av (dJ ms aB)->oc C aB bV dz:=by
  rintro⟨av,s1,ab,ae⟩ hw;obtain⟨ms,aR,aV,aW⟩:=LI ab;subst aR;exact⟨_,av,ms,ae,λm hm=>⟨(aV m hm).1,λv aJ=>by rw[(aV m hm).2]at aJ;cases aJ⟩,λaB ad dz ax=>hw aB dz av _ (aW aB ad) ax⟩
 cases bV with
 |call f args=>
  obtain⟨cV,av,ms,J,a2,a3⟩:=MA h;exact⟨cV,av,ms,J,λm hm=>⟨(a2 m hm).1,λv aJ=>by rw[(a2 m hm).2]at aJ;cases aJ⟩,λaB ad dz ax=>a3 aB ad dz ax⟩
 |ks f args us=>
  obtain⟨cc,an⟩:=h;obtain⟨cV,av,ms,⟨J,U0⟩,a2,a3⟩:=MA an;have e:∀aB:aw,mO (dJ ms aB) (jf s us)=dJ (ms++(jf s us).map λp=>⟨.no,p.1,p.2⟩) aB:=λaB=>by rw[mi,MD]
  have lo:∀{aB:aw},dH (us.flatMap λu=>u::(s u).ad) aB s->∀p∈jf s us,dH p.2.ad aB s:=λ{aB} ad p aq v aJ=>by
   obtain⟨u,hu,rfl⟩:=List.mem_map.1 aq;exact ad v (List.mem_flatMap.2 ⟨u,hu,by simp[aJ]⟩)
  refine⟨us++cV,av,ms++(jf s us).map λp=>⟨.no,p.1,p.2⟩,by rw[<-e];exact U0,?_,?_⟩
  .intro m hm;rcases List.mem_append.1 hm with hm|hm
   .exact⟨by simp[(a2 m hm).1],λv aJ=>by rw[(a2 m hm).2]at aJ;cases aJ⟩
   .obtain⟨p,aq,rfl⟩:=List.mem_map.1 hm;obtain⟨u,hu,rfl⟩:=List.mem_map.1 aq;exact⟨List.mem_append_left _ hu,λv aJ=>⟨u,by simp only[use,List.mem_append,List.mem_flatMap];exact .inl ⟨u,hu,by simp⟩,aJ⟩⟩
  .intro aB ad dz ax;simp only[use]at ad;refine⟨by rw[FK ad.left,FL _ (lo ad.left)];exact cc,a3 aB ad.right _ ⟨?_,?_⟩⟩
   .rw[FK ad.left,FL _ (λp aq=>(lo ad.left p aq).dJ ms)];exact J
   .rw[FK ad.left,e];exact ax
 |shr bV=>
  obtain⟨av,s1,ab,ae,az,a6⟩:=h;obtain⟨ms,aR,aV,aW⟩:=LI ab;subst aR;exact⟨_,av.share,ms,a6,λm hm=>⟨(aV m hm).1,λv aJ=>by rw[(aV m hm).2]at aJ;cases aJ⟩,λaB ad dz ax=>⟨av,_,aW aB ad,ae,az,ax⟩⟩
 |_=>exact plain h (λaB dz av s1 ab ae=>⟨av,s1,ab,ae⟩)
theorem U1 {s:aw} {o:ch} {K:fs->aw->Prop} (h:nv C s o K):∃kQ ms,K kQ (dJ ms s)/\Bw C o s kQ ms:=by
 have op:∀(c8:alR),(∀u∈use s o.bV,u∈c8)->(∀aB,dH c8 aB s->∀dz:aw->Prop,oc C aB o.bV (λav s1=>dz (fin s1 o.dst av))->lZ C aB o dz)->
   og C s o.bV (λcV av s1=>K (iY s c8 o.dst cV av) (fin s1 o.dst av))->∃kQ ms,K kQ (dJ ms s)/\Bw C o s kQ ms:=by
  intro c8 pT fU hw;obtain⟨cV,av,ms,ab,ae,az⟩:=UZ hw;obtain⟨k9,mR,bB⟩:=Mz o.dst av;refine⟨iY s c8 o.dst cV av,ms++k9,?_,?_,?_,Bx.1,Bx.2⟩
  .rw[mi,<-bB];exact ab
  .intro aB ad dz ax;refine fU aB ad dz (az aB (ad.sub pT) _ ?_);rw[bB,<-mi];exact ax
  .intro m hm;simp only[iY,List.mem_append];rcases List.mem_append.1 hm with hm|hm
   .refine⟨.inr (ae m hm).1,λv aJ=>.inl ?_⟩;obtain⟨u,hu,mc⟩:=(ae m hm).2 v aJ;exact List.mem_flatMap.2 ⟨u,pT u hu,mc⟩
   .exact⟨.inl (mR m hm).1,λu hu=>.inr (by rw[(mR m hm).2]at hu;exact hu)⟩
 have skip:∀t,(∀aB,dH [t] aB s->∀dz:aw->Prop,dz (fin aB o.dst (.tuple []))->lZ C aB o dz)->K (iY s [t] o.dst [] (.tuple [])) (fin s o.dst (.tuple []))->∃kQ ms,K kQ (dJ ms s)/\Bw C o s kQ ms:=by
  intro t fU ax;obtain⟨k9,mR,bB⟩:=Mz o.dst (.tuple []);refine⟨_,k9,by rw[<-bB];exact ax,?_,?_,Bx.1,Bx.2⟩
  .intro aB ad dz jP;exact fU aB ad dz (by rw[bB];exact jP)
  .intro m hm;simp only[iY,List.mem_append];exact⟨.inl (mR m hm).1,λu hu=>by rw[(mR m hm).2]at hu;simp[I.ad]at hu⟩
 unfold nv at h;split at h
 .rename_i bR;exact op _ (λ_ h=>h) (λaB _ dz hw=>by unfold lZ;rw[bR];exact hw) h
 .rename_i t b bR;split at h
  .rename_i fH R;split at h
   .rename_i e;refine op (t::use s o.bV) (λu hu=>by simp[hu]) (λaB ad dz hw=>?_) h;have:aB t=s t:=ad t (by simp);unfold lZ;rw[bR];simp only[this,R,if_pos e];exact hw
   .rename_i e;refine skip t (λaB ad dz ax=>?_) h;have:aB t=s t:=ad t (by simp);unfold lZ;rw[bR];simp only[this,R,if_neg e];exact ax
  .rename_i R;refine skip t (λaB ad dz ax=>?_) h;have:aB t=s t:=ad t (by simp);unfold lZ;rw[bR];simp only[this,R];exact ax
  .exact h.elim
def lD (C:ca) (ros:List ch):aw->List (Nat×fs×List gN)->Prop
 |_,[]=>True
 |s,e::r=>(∃o,ros[e.1]? =some o/\Bw C o s e.2.1 e.2.2)/\lD C ros (dJ e.2.2 s) r
def oV (s:aw) (r:List (Nat×fs×List gN)):aw:=r.foldl (λs e=>dJ e.2.2 s) s
def n2 (a b:alR):Bool:=a.all λx=> !b.contains x
theorem u_ {a b:alR} (h:n2 a b=true):∀x∈a,x∉b:=by
 intro x au;simp only[n2,List.all_eq_true]at h;simpa using h x au
def tx (a b:fs):Bool:=n2 b.T a.c8&&n2 b.T a.H&&n2 b.T a.T&&n2 a.T b.c8&&n2 a.T b.H&&b.c
theorem U2 {ros:List ch} {s:aw} {a b:Nat×fs×List gN} {r:List (Nat×fs×List gN)} (h:lD C ros s (a::b::r)) (ao:tx a.2.1 b.2.1=true):
  lD C ros s (b::a::r)/\oV s (b::a::r)=oV s (a::b::r):=by
 obtain⟨⟨U3,cg,J,a2,a3,a4⟩,⟨dS,R,jO,hz,jQ,bG⟩,aM⟩:=h;simp only[tx,Bool.and_eq_true]at ao;obtain⟨⟨⟨⟨⟨nQ,i2⟩,i3⟩,i4⟩,i5⟩,Eb⟩:=ao;have FM:∀u∈b.2.1.c8,dJ a.2.2 s u=s u:=by
  intro u hu;refine UK _ _ _ (λm hm e=>?_) (bG Eb u hu);exact u_ i4 m.x (a2 m hm).1 (e▸hu)
 have FN:∀u∈a.2.1.c8,dJ b.2.2 s u=s u:=by
  intro u hu;refine UL _ _ _ λm hm=>⟨λe=>?_,λau=>?_⟩
  .exact u_ nQ m.x (hz m hm).1 (e▸hu)
  .exact u_ i2 m.x (hz m hm).1 (a3 u hu _ au)
 have ME:dJ b.2.2 (dJ a.2.2 s)=dJ a.2.2 (dJ b.2.2 s):=by
  refine UN _ _ _ λm hm n aS=>⟨λe=>?_,λh=>?_,λh=>?_⟩
  .exact u_ i3 n.x (hz n aS).1 (e▸(a2 m hm).1)
  .exact u_ i2 n.x (hz n aS).1 ((a2 m hm).2 _ h)
  .exact u_ i5 m.x (a2 m hm).1 ((hz n aS).2 _ h)
 refine⟨⟨⟨dS,R,?_,hz,?_,?_⟩,⟨U3,cg,?_,a2,?_,?_⟩,?_⟩,?_⟩
 .intro aB ad K ax;exact jO aB (λu hu=>(ad u hu).trans (FM u hu).symm) K ax
 .intro u hu x au;exact jQ u hu x (by rw[FM u hu];exact au)
 .intro an u hu;have:=bG an u hu
  rwa [FM u hu]at this
 .intro aB ad K ax;exact J aB (λu hu=>(ad u hu).trans (FN u hu)) K ax
 .intro u hu x au;rw[FN u hu]at au;exact a3 u hu x au
 .intro an u hu;rw[FN u hu];exact a4 an u hu
 .rw[<-ME];exact aM
 .simp only[oV,List.foldl_cons];rw[ME]
theorem U4 {ros:List ch} {e:Nat×fs×List gN} {post:List (Nat×fs×List gN)}:∀(pre:List (Nat×fs×List gN)) (s:aw),lD C ros s (pre++e::post)->(∀a∈pre,tx a.2.1 e.2.1=true)->
  lD C ros s (e::(pre++post))/\oV s (e::(pre++post))=oV s (pre++e::post):=by
 intro pre;induction pre with
 |nil=>intro s h _;exact⟨h,rfl⟩
 |cons a pre ih=>
  intro s h ao;obtain⟨ab,ae⟩:=h;obtain⟨g1,g2⟩:=ih _ ae λb R=>ao b (by simp[R]);have an:lD C ros s (a::e::(pre++post)):=⟨ab,g1⟩
  obtain⟨b3,cc⟩:=U2 an (ao a (by simp));refine⟨b3,cc.trans ?_⟩;simp only[oV,List.foldl_cons,List.cons_append]at g2⊢;exact g2
end
def x_:alP->alP->alP
 |done,[]=>done
 |done,a::r=>x_ (done++[a++a.flatMap λe=>(done[e]?).getD []]) r
def oW (eX:alP):alP:=x_ [] eX
theorem U5 {eX:alP} {l:alR} (hl:∀u i v,l=u++i::v->∀e∈(eX[i]?).getD [],e∈u):∀(rest pre done:alP),eX=pre++rest->done.length=pre.length->
  (∀u i v,l=u++i::v->∀e∈(done[i]?).getD [],e∈u)->∀u i v,l=u++i::v->∀e∈((x_ done rest)[i]?).getD [],e∈u:=by
 intro rest;induction rest with
 |nil=>intro pre done _ _ h;exact h
 |cons a rest ih=>
  intro pre done MF hlen h;simp only[x_];refine ih (pre++[a]) _ (by simp[MF]) (by simp[hlen]) ?_;intro u i v hu e he;by_cases ao:i<done.length
  .rw[List.getElem?_append_left ao]at he;exact h u i v hu e he
  .rw[List.getElem?_append_right (by omega)]at he;by_cases uW:i-done.length=0
   .rw[uW]at he;simp only[List.getElem?_cons_zero,Option.getD_some,List.mem_append,List.mem_flatMap]at he;have Bz:(eX[i]?).getD []=a:=by
     have:i=pre.length:=by omega
     rw[MF,this,List.getElem?_append_right (Nat.le_refl _)];simp
    rcases he with he|⟨f_,nu,he⟩
    .exact hl u i v hu e (by rw[Bz];exact he)
    .have xP:=hl u i v hu f_ (by rw[Bz];exact nu);obtain⟨oX,tz,rfl⟩:=List.append_of_mem xP;have:=h oX f_ (tz++i::v) (by rw[hu];simp) e he;simp[this]
   .rw[List.getElem?_eq_none (by simp;omega)]at he;simp at he
theorem U6 {eX:alP} {l:alR} (hl:∀u i v,l=u++i::v->∀e∈(eX[i]?).getD [],e∈u):∀u i v,l=u++i::v->∀e∈((oW eX)[i]?).getD [],e∈u:=
 U5 hl eX [] [] rfl rfl λu i v _ e he=>by simp at he
def kR (cl:alP):Nat->List (Nat×fs)->List fs->Bool
 |_,_,[]=>true
 |j,es,f::aE=>(es.all λe=>((cl[j]?).getD []).contains e.1||tx e.2 f)&&kR cl (j+1) ((j,f)::es) aE
def FO (cl:alP) (a b:Nat×fs×List gN):Prop:=a.1∈(cl[b.1]?).getD []\/tx a.2.1 b.2.1=true
theorem U7 {cl:alP}:∀(hq:List (Nat×fs×List gN)) (j:Nat) (es:List (Nat×fs)),hq.map (·.1)=(List.range hq.length).map (·+j)->kR cl j es (hq.map (·.2.1))=true->
  hq.Pairwise (FO cl)/\∀e∈es,∀b∈hq,e.1∈(cl[b.1]?).getD []\/tx e.2 b.2.1=true:=by
 intro hq;induction hq with
 |nil=>intro j es _ _;exact⟨.nil,λe _ b R=>by cases R⟩
 |cons a hq ih=>
  intro j es tA fq;rw[List.length_cons,List.range_succ_eq_map,List.map_cons,List.map_cons,List.map_map]at tA;simp only[List.cons.injEq,Nat.zero_add]at tA;obtain⟨bm,tA⟩:=tA;simp only[List.map_cons,kR,Bool.and_eq_true,List.all_eq_true,Bool.or_eq_true]at fq;obtain⟨ab,ae⟩:=fq;obtain⟨g1,g2⟩:=ih (j+1) _ (by rw[tA];congr 1;funext x;simp;omega) ae;refine⟨.cons (λb R=>?_) g1,λe he b R=>?_⟩
  .have:=g2 (j,a.2.1) (by simp) b R;simp only[FO,bm];exact this
  .rcases List.mem_cons.1 R with rfl|R
   .rw[bm];exact(ab e he).imp (λh=>by simpa using h) id
   .exact g2 e (by simp[he]) b R
section
variable {C:ca}
theorem U8 {K:Option (List fs)->aw->Prop}:∀(os pre:List ch) (s:aw) (acc:List fs),dE C s os (some acc) K->
  ∃hq,lD C (pre++os) s hq/\hq.map (·.1)=(List.range os.length).map (·+pre.length)/\K (some ((hq.map (·.2.1)).reverse++acc)) (oV s hq):=by
 intro os;induction os with
 |nil=>intro pre s acc h;exact⟨[],trivial,rfl,h⟩
 |cons o os ih=>
  intro pre s acc h;obtain⟨kQ,ms,ab,ae⟩:=U1 h;obtain⟨hq,g1,g2,g3⟩:=ih (pre++[o]) _ (kQ::acc) ab;refine⟨(pre.length,kQ,ms)::hq,⟨⟨o,?_,ae⟩,?_⟩,?_,?_⟩
  .rw[List.getElem?_append_right (Nat.le_refl _)];simp
  .simpa using g1
  .rw[List.length_cons,List.range_succ_eq_map,List.map_cons,List.map_cons,List.map_map,g2];simp only[List.cons.injEq,Nat.zero_add,true_and];congr 1;funext x;simp;omega
  .simpa [oV]using g3
theorem U9 {ros:List ch} {cl:alP} {K:aw->Prop}:∀(l:alR) (hq:List (Nat×fs×List gN)) (s:aw),lD C ros s hq->hq.Pairwise (FO cl)->l.Nodup->(hq.map (·.1)).Nodup->
  (∀i,i∈l↔i∈hq.map (·.1))->(∀u i v,l=u++i::v->∀e∈(cl[i]?).getD [],e∈hq.map (·.1)->e∈u)->K (oV s hq)->j6 C ros s l K:=by
 intro l;induction l with
 |nil=>
  intro hq s _ _ _ _ hm _ ax;cases hq with
  |nil=>exact ax
  |cons e hq=>have:=(hm e.1).2 (by simp);cases this
 |cons i l ih=>
  intro hq s an aq aS xE hm bE ax;obtain⟨e,he,ao⟩:=List.mem_map.1 ((hm i).1 (by simp));obtain⟨pre,post,rfl⟩:=List.append_of_mem he;have U_:∀a∈pre,tx a.2.1 e.2.1=true:=by
   intro a cg;have aM:=(List.pairwise_append.1 aq).2.2 a cg e (by simp);rcases aM with aM|aM
   .rw[ao]at aM;have:=bE [] i l rfl a.1 aM (by simp only[List.map_append,List.mem_append,List.mem_map];exact .inl ⟨a,cg,rfl⟩);cases this
   .exact aM
  obtain⟨g1,g2⟩:=U4 pre s an U_;obtain⟨⟨o,Va,tr⟩,g3⟩:=g1;have MG:i∉(pre++post).map (·.1):=by
   have:(pre.map (·.1)++e.1::post.map (·.1)).Nodup:=by simpa using xE
   have bC:=(List.perm_middle.nodup_iff.1 this)
   rw[List.nodup_cons]at bC;rw[<-ao];simpa using bC.1
  simp only[j6];rw[<-ao,Va];refine tr.1 s (λ_ _=>rfl) _ ?_;rw[List.nodup_cons]at aS;refine ih (pre++post) _ g3 ?_ aS.2 ?_ ?_ ?_ ?_
  .exact aq.sublist ((List.Sublist.refl pre).append (List.sublist_cons_self e post))
  .have:(pre.map (·.1)++e.1::post.map (·.1)).Nodup:=by simpa using xE
   have bC:=(List.perm_middle.nodup_iff.1 this)
   rw[List.nodup_cons]at bC;simpa using bC.2
  .intro j;constructor
   .intro bm;have ab:=(hm j).1 (by simp[bm]);simp only[List.map_append,List.map_cons,List.mem_append,List.mem_cons]at ab⊢;rcases ab with ab|rfl|ab
    .exact .inl ab
    .exact(aS.1 (ao▸bm)).elim
    .exact .inr ab
   .intro bm;have ab:=(hm j).2 (by
     simp only[List.map_append,List.map_cons,List.mem_append,List.mem_cons]at bm⊢;exact bm.imp id .inr)
    rcases List.mem_cons.1 ab with rfl|ab
    .exact(MG bm).elim
    .exact ab
  .intro u j v hu x au FP;have ab:=bE (i::u) j v (by rw[hu];rfl) x au (by
    simp only[List.map_append,List.map_cons,List.mem_append,List.mem_cons]at FP⊢;exact FP.imp id .inr)
   rcases List.mem_cons.1 ab with rfl|ab
   .exact(MG FP).elim
   .exact ab
  .have:oV s (e::(pre++post))=oV (dJ e.2.2 s) (pre++post):=rfl;rw[<-this,g2];exact ax
theorem MH {ros:List ch} {eX:alP} {s:aw} {K:aw->Prop} (hlen:eX.length=ros.length)
  (h:dE C s ros (some []) (λacc s=>kR (oW eX) 0 [] (acc.getD []).reverse=true/\K s)):∀l,Ft eX l->j6 C ros s l K:=by
 intro l ⟨eV,l2,xR⟩;obtain⟨hq,g1,g2,g3,g4⟩:=U8 ros [] s [] h;simp only[List.nil_append,List.append_nil,List.length_nil,Option.getD_some,List.reverse_reverse]at g1 g2 g3;have hl:hq.length=ros.length:=by have:=congrArg List.length g2;simpa using this
 have tA:hq.map (·.1)=(List.range hq.length).map (·+0):=by rw[g2,hl]
 have aM:hq.map (·.1)=List.range ros.length:=by rw[g2];simp
 obtain⟨fL,_⟩:=U7 hq 0 [] tA g3;refine U9 l hq s g1 fL eV (by rw[aM];exact List.nodup_range) (λi=>?_) (λu i v hu e he _=>U6 xR u i v hu e he) g4;rw[aM,l2,hlen,List.mem_range]
end
def ya (C:ca) (dst:Option Nat) (os:List ch) (K:Option (List fs)->aw->Prop):Option (I×aw)->Prop
 |some (av,s1)=>dE C (fin s1 dst av) os none K
 |none=>False
def BA (C:ca) (l:alV) (c8 cV:alR) (dst:Option Nat) (os:List ch) (a:List fs) (K:Option (List fs)->aw->Prop):Option (I×aw)->Prop
 |some (av,s1)=>dE C (fin s1 dst av) os (some (iY (ay l) c8 dst cV av::a)) K
 |none=>False
def mm (C:ca) (l:alV) (dst:Option Nat) (bV:ed) (t:Nat) (b:Bool) (os:List ch) (acc:Option (List fs)) (K:Option (List fs)->aw->Prop):I->Prop
 | .bool fH=>if fH=b then og C (ay l) bV (λcV av s1=>dE C (fin s1 dst av) os (p3 acc (iY (ay l) (t::use (ay l) bV) dst cV av)) K)else dE C (fin (ay l) dst (.tuple [])) os (p3 acc (iY (ay l) [t] dst [] (.tuple []))) K
 | .tuple []=>dE C (fin (ay l) dst (.tuple [])) os (p3 acc (iY (ay l) [t] dst [] (.tuple []))) K
 |_=>False
section
variable {C:ca} {l:alV} {os:List ch} {K:Option (List fs)->aw->Prop} {dst:Option Nat} {a:List fs} {acc:Option (List fs)}
theorem BB {s:aw} {bV:ed} {K:alR->I->aw->Prop} (aS:bV.ie=false):og C s bV K=(match b8 C s bV with
  |some (av,s1)=>K (oM s bV) av s1
  |none=>False):=by
 apply propext;constructor
 .intro h;cases bV<;>first
   |(simp[ed.ie]at aS;done)
   |(obtain⟨av,s1,ab,ae⟩:=h;rw[ab];exact ae)
 .intro h;split at h
  .rename_i av s1 he;cases bV<;>first
    |(simp[ed.ie]at aS;done)
    |exact⟨av,s1,he,h⟩
  .exact h.elim
theorem MI:dE C (ay l) [] acc K=K acc (ay l):=rfl
theorem FQ {bV:ed} (aS:bV.ie=false):dE C (ay l) (⟨dst,bV,none⟩::os) none K=ya C dst os K (b8 C (ay l) bV):=by
 simp only[dE,nv,p3];rw[BB aS];cases b8 C (ay l) bV with
 |none=>rfl
 |some p=>rfl
theorem MJ {bV:ed} (aS:bV.ie=false):dE C (ay l) (⟨dst,bV,none⟩::os) (some a) K=BA C l (use (ay l) bV) (oM (ay l) bV) dst os a K (b8 C (ay l) bV):=by
 simp only[dE,nv,p3];rw[BB aS];cases b8 C (ay l) bV with
 |none=>rfl
 |some p=>rfl
theorem MK {bV:ed} {t:Nat} {b:Bool}:dE C (ay l) (⟨dst,bV,some (t,b)⟩::os) acc K=mm C l dst bV t b os acc K (ay l t):=by
 simp only[dE,nv];generalize ay l t=v;cases v<;>first|rfl|(rename_i vs;cases vs<;>rfl)
theorem Vb {bV:ed} {t:Nat} {b:Bool} (aS:bV.ie=false):mm C l dst bV t b os none K (.bool b)=ya C dst os K (b8 C (ay l) bV):=by
 simp only[mm,if_true];rw[BB aS];cases b8 C (ay l) bV with
 |none=>rfl
 |some p=>rfl
theorem Vc {bV:ed} {t:Nat} {b:Bool} (aS:bV.ie=false):mm C l dst bV t b os (some a) K (.bool b)=BA C l (t::use (ay l) bV) (oM (ay l) bV) dst os a K (b8 C (ay l) bV):=by
 simp only[mm,if_true];rw[BB aS];cases b8 C (ay l) bV with
 |none=>rfl
 |some p=>rfl
theorem Vd {bV:ed} {t:Nat}:mm C l dst bV t true os none K (.bool false)=dE C (fin (ay l) dst (.tuple [])) os none K/\mm C l dst bV t false os none K (.bool true)=dE C (fin (ay l) dst (.tuple [])) os none K/\
  (∀b,mm C l dst bV t b os none K (.tuple [])=dE C (fin (ay l) dst (.tuple [])) os none K):=⟨rfl,rfl,λ_=>rfl⟩
theorem Ve {bV:ed} {t:Nat}:mm C l dst bV t true os (some a) K (.bool false)=dE C (fin (ay l) dst (.tuple [])) os (some (iY (ay l) [t] dst [] (.tuple [])::a)) K/\
  mm C l dst bV t false os (some a) K (.bool true)=dE C (fin (ay l) dst (.tuple [])) os (some (iY (ay l) [t] dst [] (.tuple [])::a)) K/\
  (∀b,mm C l dst bV t b os (some a) K (.tuple [])=dE C (fin (ay l) dst (.tuple [])) os (some (iY (ay l) [t] dst [] (.tuple [])::a)) K):=⟨rfl,rfl,λ_=>rfl⟩
theorem Vf (av:I) (s1:aw):ya C dst os K (some (av,s1))=dE C (fin s1 dst av) os none K:=rfl
theorem Vg (c8 cV:alR) (av:I) (s1:aw):BA C l c8 cV dst os a K (some (av,s1))=dE C (fin s1 dst av) os (some (iY (ay l) c8 dst cV av::a)) K:=rfl
def BC (s:aw):I->Option (I×aw)
 | .h y q=>cV s (.h y q)
 |d=>some (d,s)
def ML (s:aw):I->I->I->Option (I×aw)
 | .bool fH,x,y=>some (if fH then x else y,s)
 |_,_,_=>none
def mS (s:aw):Option I->Option (I×aw)
 |some d=>some (d,s)
 |none=>none
def cJ:Option aw->Option (I×aw)
 |some s1=>some (.hole,s1)
 |none=>none
def jA (s:aw):List bk->alW
 |[]=>[]
 |x::xs=>bu s x::jA s xs
def r_ (s:aw):List (Nat×bk)->alV
 |[]=>[]
 |(k,x)::xs=>(k,bu s x)::r_ s xs
def yb (s:aw):Option bk->Option I
 |none=>none
 |some x=>some (bu s x)
theorem Vh (s:aw) (x:Option I):(x.map λd=>(d,s))=mS s x:=by cases x<;>rfl
theorem Vi (x:Option aw):(x.map λs1=>(I.hole,s1))=cJ x:=by cases x<;>rfl
theorem va (s:aw):∀xs:List bk,xs.map (bu s)=jA s xs
 |[]=>rfl
 |x::xs=>by simp only[List.map_cons,jA,va s xs]
theorem MM (s:aw):∀xs:List (Nat×bk),(xs.map λp=>(p.1,bu s p.2))=r_ s xs
 |[]=>rfl
 |(k,x)::xs=>by simp only[List.map_cons,r_,MM s xs]
theorem Vj (s:aw) (x:Option bk):x.map (bu s)=yb s x:=by cases x<;>rfl
theorem MN:(∀x,ed.ie (.hB x)=false)/\
  (∀x,ed.ie (.lx x)=false)/\
  (∀c x y,ed.ie (.pick c x y)=false)/\
  (∀T,ed.ie (.kq T)=false)/\
  (∀T x,ed.ie (.iw T x)=false)/\
  (∀T ps,ed.ie (.hd T ps)=false)/\
  (∀T n ps,ed.ie (.fa T n ps)=false)/\
  (∀T x,ed.ie (.fk T x)=false)/\
  (∀T x y,ed.ie (.iV T x y)=false)/\
  (∀x,ed.ie (.kK x)=false)/\
  (∀op T x y,ed.ie (.eU op T x y)=false)/\
  (∀op x,ed.ie (.un op x)=false)/\
  (∀A B x,ed.ie (.iX A B x)=false)/\
  (∀f cs,ed.ie (.mL f cs)=false)/\
  (∀T x y,ed.ie (.eK T x y)=false)/\
  (∀T x fl ao,ed.ie (.h9 T x fl ao)=false)/\
  (∀T x k,ed.ie (.ho T x k)=false)/\
  (∀T x y,ed.ie (.jL T x y)=false)/\
  (∀T x y,ed.ie (.idx T x y)=false)/\
  (∀x k,ed.ie (.ex x k)=false)/\
  (∀T x,ed.ie (.len T x)=false)/\
  (∀T c8 x y,ed.ie (.app T c8 x y)=false):=by
 and_intros<;>intros<;>rfl
theorem MO:(∀x,b8 C (ay l) (.hB x)=some (bu (ay l) x,ay l))/\
  (∀x,b8 C (ay l) (.lx x)=BC (ay l) (bu (ay l) x))/\
  (∀c x y,b8 C (ay l) (.pick c x y)=ML (ay l) (bu (ay l) c) (bu (ay l) x) (bu (ay l) y))/\
  (∀T,b8 C (ay l) (.kq T)=mS (ay l) (kq C T))/\
  (∀T x,b8 C (ay l) (.iw T x)=iw (ay l) (bu (ay l) x))/\
  (∀T ps,b8 C (ay l) (.hd T ps)=hd C (ay l) T (r_ (ay l) ps))/\
  (∀T n ps,b8 C (ay l) (.fa T n ps)=fa C (ay l) T n (r_ (ay l) ps))/\
  (∀T x,b8 C (ay l) (.fk T x)=mS (ay l) (fk C (ay l) T (bu (ay l) x)))/\
  (∀T x y,b8 C (ay l) (.iV T x y)=cJ (iV C (ay l) T (bu (ay l) x) (bu (ay l) y)))/\
  (∀x,b8 C (ay l) (.kK x)=mS (ay l) (kK (ay l) (bu (ay l) x)))/\
  (∀op T x y,b8 C (ay l) (.eU op T x y)=mS (ay l) (eU C (ay l) op T (bu (ay l) x) (bu (ay l) y)))/\
  (∀op x,b8 C (ay l) (.un op x)=mS (ay l) (un op (bu (ay l) x)))/\
  (∀A B x,b8 C (ay l) (.iX A B x)=mS (ay l) (iX C (ay l) A B (bu (ay l) x)))/\
  (∀f cs,b8 C (ay l) (.mL f cs)=some (.fn f (jA (ay l) cs),ay l))/\
  (∀T x y,b8 C (ay l) (.eK T x y)=mS (ay l) (eK C T (bu (ay l) x) (bu (ay l) y)))/\
  (∀T x fl ao,b8 C (ay l) (.h9 T x fl ao)=h9 C (ay l) T (bu (ay l) x) (yb (ay l) fl) (yb (ay l) ao))/\
  (∀T x k,b8 C (ay l) (.ho T x k)=mS (ay l) (ho C (ay l) T (bu (ay l) x) k))/\
  (∀T x y,b8 C (ay l) (.jL T x y)=mS (ay l) (jL C (ay l) T (bu (ay l) x) (bu (ay l) y)))/\
  (∀T x y,b8 C (ay l) (.idx T x y)=mS (ay l) (idx C T (bu (ay l) x) (bu (ay l) y)))/\
  (∀x k,b8 C (ay l) (.ex x k)=mS (ay l) (ex (ay l) (bu (ay l) x) k))/\
  (∀T x,b8 C (ay l) (.len T x)=mS (ay l) (qR C (ay l) T (bu (ay l) x)))/\
  (∀T c8 x y,b8 C (ay l) (.app T c8 x y)=qV C (ay l) T c8 (bu (ay l) x) (bu (ay l) y)):=by
 and_intros<;>intros<;>first|rfl|(simp only[b8,Vh,Vi,MM,va,Vj];done)|(simp only[b8];cases bu (ay l) _<;>first|rfl|(rename_i b;cases b<;>rfl))
end
theorem MP:∀t d,pI t d=if I.plain d=true then d else .h t []:=λ_ _=>rfl
theorem MQ:(∀l av,fin (ay l) none av=ay l)/\(∀l t av,fin (ay l) (some t) av=ay ((t,av)::if I.plain av=true then l else q0 t l)):=
 ⟨λ_ _=>rfl,λl t av=>by
  simp only[fin];split
  .rw[x7]
  .rw[FH,x7]⟩
theorem FR:
  (∀k n,I.plain (.int k n)=true)/\
  (∀b,I.plain (.bool b)=true)/\
  (∀x,I.plain (.str x)=true)/\
  (∀xs,I.plain (.slice xs)=true)/\
  (∀d,I.plain (.ref d)=true)/\
  (∀f cap,I.plain (.fn f cap)=true)/\
  (∀x q,I.plain (.h x q)=true)/\
  (∀x q,I.plain (.aq x q)=true)/\
  (I.plain .dC=true)/\
  (I.plain .bd=true)/\
  (I.plain .fm=true)/\
  (I.plain .hole=true)/\
  (∀sz xs,I.plain (.ag sz xs)=false)/\
  (∀d,I.plain (.bf d)=false)/\
  (∀aE,I.plain (.agg aE)=I.eg aE)/\
  (∀aE,I.plain (.tuple aE)=I.eg aE)/\
  (I.eg []=true)/\
  (∀d ds,I.eg (d::ds)=(d.plain&&I.eg ds)):=
 ⟨λ_ _=>rfl,λ_=>rfl,λ_=>rfl,λ_=>rfl,λ_=>rfl,λ_ _=>rfl,λ_ _=>rfl,λ_ _=>rfl,rfl,rfl,rfl,rfl,λ_ _=>rfl,λ_=>rfl,λ_=>rfl,λ_=>rfl,rfl,λ_ _=>rfl⟩
theorem MR:∀s d,BC s d=match d with| .h y q=>cV s (.h y q)|d=>some (d,s):=λ_ _=>by unfold BC;rfl
theorem MS:
  (∀t k n,cR t (.int k n)=(.int k n))/\
  (∀t b,cR t (.bool b)=(.bool b))/\
  (∀t x,cR t (.str x)=(.str x))/\
  (∀t xs,cR t (.slice xs)=(.slice xs))/\
  (∀t d,cR t (.ref d)=(.ref d))/\
  (∀t,cR t .dC= .dC)/\
  (∀t,cR t .bd= .bd)/\
  (∀t,cR t .fm= .fm)/\
  (∀t,cR t .hole= .hole)/\
  (∀t sz xs,cR t (.ag sz xs)=(.ag sz xs))/\
  (∀t d,cR t (.bf d)=(.bf d))/\
  (∀t aE,cR t (.agg aE)=(.agg aE))/\
  (∀t aE,cR t (.tuple aE)=(.tuple aE))/\
  (∀t y q,cR t (.h y q)=if y=t then .hole else .h y q)/\
  (∀t y q,cR t (.aq y q)=if y=t then .hole else .aq y q)/\
  (∀t f c,cR t (.fn f c)= .fn f (jd t c))/\
  (∀t,jd t []=[])/\
  (∀t d ds,jd t (d::ds)=cR t d::jd t ds)/\
  (∀t,q0 t []=[])/\
  (∀t u d l,q0 t ((u,d)::l)=(u,cR t d)::q0 t l)/\
  (∀t l,lQ t (ay l)=ay (q0 t l)):=
 ⟨λ_ _ _=>by unfold cR;rfl,λ_ _=>by unfold cR;rfl,λ_ _=>by unfold cR;rfl,λ_ _=>by unfold cR;rfl,λ_ _=>by unfold cR;rfl,λ_=>by unfold cR;rfl,λ_=>by unfold cR;rfl,λ_=>by unfold cR;rfl,λ_=>by unfold cR;rfl,λ_ _ _=>by unfold cR;rfl,λ_ _=>by unfold cR;rfl,λ_ _=>by unfold cR;rfl,λ_ _=>by unfold cR;rfl,λ_ _ _=>by unfold cR;rfl,λ_ _ _=>by unfold cR;rfl,λ_ _ _=>by simp only[cR],λ_=>by simp only[jd],λ_ _ _=>by simp only[jd],λ_=>rfl,λ_ _ _ _=>rfl,λt l=>FH t l⟩
theorem MT:
  (∀t k n,cb t (.int k n)=(.int k n))/\
  (∀t b,cb t (.bool b)=(.bool b))/\
  (∀t x,cb t (.str x)=(.str x))/\
  (∀t xs,cb t (.slice xs)=(.slice xs))/\
  (∀t d,cb t (.ref d)=(.ref d))/\
  (∀t,cb t .dC= .dC)/\
  (∀t,cb t .bd= .bd)/\
  (∀t,cb t .fm= .fm)/\
  (∀t,cb t .hole= .hole)/\
  (∀t sz xs,cb t (.ag sz xs)=(.ag sz xs))/\
  (∀t d,cb t (.bf d)=(.bf d))/\
  (∀t aE,cb t (.agg aE)=(.agg aE))/\
  (∀t aE,cb t (.tuple aE)=(.tuple aE))/\
  (∀t y,cb t (.h y [])= .h y [])/\
  (∀t y k q,cb t (.h y (k::q))=if y=t then .hole else .h y (k::q))/\
  (∀t y q,cb t (.aq y q)=if y=t then .hole else .aq y q)/\
  (∀t f c,cb t (.fn f c)= .fn f (iN t c))/\
  (∀t,iN t []=[])/\
  (∀t d ds,iN t (d::ds)=cb t d::iN t ds)/\
  (∀t,tu t []=[])/\
  (∀t u d l,tu t ((u,d)::l)=(u,cb t d)::tu t l)/\
  (∀t l,h7 t (ay l)=ay (tu t l)):=
 ⟨λ_ _ _=>by unfold cb;rfl,λ_ _=>by unfold cb;rfl,λ_ _=>by unfold cb;rfl,λ_ _=>by unfold cb;rfl,λ_ _=>by unfold cb;rfl,λ_=>by unfold cb;rfl,λ_=>by unfold cb;rfl,λ_=>by unfold cb;rfl,λ_=>by unfold cb;rfl,λ_ _ _=>by unfold cb;rfl,λ_ _=>by unfold cb;rfl,λ_ _=>by unfold cb;rfl,λ_ _=>by unfold cb;rfl,λ_ _=>by simp[cb],λ_ _ _ _=>by simp[cb],λ_ _ _=>by unfold cb;rfl,λ_ _ _=>by simp only[cb],λ_=>by simp only[iN],λ_ _ _=>by simp only[iN],λ_=>rfl,λ_ _ _ _=>rfl,λt l=>UG t l⟩
def FT:nS->Bool->Option I
 | .bool,b=>some (.bool b)
 |_,_=>none
def sa (neg:Bool):nS->Option alS->Option I
 | .slice _,some r=>some (oG neg r)
 |_,_=>none
def tB (neg:Bool):nS->alS->Option I
 | .ptr _,some b=>some (.bool (b !=neg))
 |_,_=>none
theorem MU (C:ca) (s:aw) (T:TypeId):
  (∀op k a cF b,eU C s op T (.int k a) (.int cF b)=iW op k a cF b)/\
  (∀op a b,eU C s op T (.str a) (.str b)=nm op a b)/\
  (∀a b,eU C s .eql T (.bool a) (.bool b)=FT (C.T T).k (a==b))/\
  (∀a b,eU C s .neq T (.bool a) (.bool b)=FT (C.T T).k (!(a==b)))/\
  (∀xs,eU C s .eql T (.slice xs) .bd=sa false (C.T T).k (jN s (.slice xs)))/\
  (∀xs,eU C s .neq T (.slice xs) .bd=sa true (C.T T).k (jN s (.slice xs)))/\
  (eU C s .eql T .bd .bd=sa false (C.T T).k (jN s .bd))/\
  (eU C s .neq T .bd .bd=sa true (C.T T).k (jN s .bd))/\
  (∀x q,eU C s .eql T (.h x q) .bd=sa false (C.T T).k (jN s (.h x q)))/\
  (∀x q,eU C s .neq T (.h x q) .bd=sa true (C.T T).k (jN s (.h x q)))/\
  (∀x q,eU C s .eql T (.h x q) .dC=tB false (C.T T).k (lr s (.h x q)))/\
  (∀x q,eU C s .neq T (.h x q) .dC=tB true (C.T T).k (lr s (.h x q)))/\
  (∀d,eU C s .eql T (.ref d) .dC=tB false (C.T T).k (lr s (.ref d)))/\
  (∀d,eU C s .neq T (.ref d) .dC=tB true (C.T T).k (lr s (.ref d)))/\
  (eU C s .eql T .dC .dC=tB false (C.T T).k (lr s .dC))/\
  (eU C s .neq T .dC .dC=tB true (C.T T).k (lr s .dC)):=by
 refine⟨?_,?_,?_,?_,?_,?_,?_,?_,?_,?_,?_,?_,?_,?_,?_,?_⟩<;>intros<;>first
  |rfl
  |(simp only[eU]
    generalize (C.T T).k=dX;cases dX<;>first|rfl|(simp only[sa];generalize jN s _=v;cases v<;>rfl)|(simp only[tB];generalize lr s _=v;cases v<;>(try (rename_i b;cases b))<;>rfl))
theorem MV (k:IntKind) (a b:Int):
  iW .add k a k b=some (.int k (k.wrap (a+b)))/\iW .sub k a k b=some (.int k (k.wrap (a-b)))/\iW .mul k a k b=some (.int k (k.wrap (a*b)))/\
  iW .eql k a k b=some (.bool (a==b))/\iW .neq k a k b=some (.bool (a !=b))/\iW .lss k a k b=some (.bool (decide (a<b)))/\iW .leq k a k b=some (.bool (decide (a<=b)))/\
  iW .gtr k a k b=some (.bool (decide (b<a)))/\iW .geq k a k b=some (.bool (decide (b<=a)))/\
  iW .and k a k b=some (.int k (bitsOf .and k a b))/\iW .or k a k b=some (.int k (bitsOf .or k a b))/\iW .xor k a k b=some (.int k (bitsOf .xor k a b))/\iW .andNot k a k b=some (.int k (bitsOf .andNot k a b)):=by
 simp[iW]
theorem Vk {k:IntKind} {a b:Int} (h:b≠0):iW .quo k a k b=some (.int k (k.wrap (a.tdiv b))):=by simp[iW,h]
theorem Vl {k:IntKind} {a b:Int} (h:b≠0):iW .rem k a k b=some (.int k (a.tmod b)):=by simp[iW,h]
theorem MW (a b:alO):
  nm .eql a b=some (.bool (a==b))/\nm .neq a b=some (.bool !(a==b))/\nm .lss a b=some (.bool (Op.bytesLess a b))/\
  nm .leq a b=some (.bool (Op.bytesLess a b||a==b))/\nm .gtr a b=some (.bool !(Op.bytesLess a b||a==b))/\nm .geq a b=some (.bool !(Op.bytesLess a b)):=by
 refine⟨rfl,rfl,rfl,rfl,rfl,rfl⟩
theorem MX:(∀b,un .not (.bool b)=some (.bool !b))/\(un .not .fm=some .fm)/\(∀k n,un .neg (.int k n)=some (.int k (k.wrap (0-n)))):=⟨λ_=>rfl,rfl,λ_ _=>rfl⟩
def FU:nS->Option UInt8->Option I
 | .str,some c=>some (.int .u8 c.toNat)
 |_,_=>none
theorem MY (C:ca) (T:TypeId) (l:alO) (k:IntKind) (n:Int):idx C T (.str l) (.int k n)=FU (C.T T).k (bl l n):=by
 simp only[idx,bl];generalize (C.T T).k=dX;cases dX<;>first|rfl|(simp only[FU];split<;>first|rfl|(cases l[n.toNat]? <;>rfl))
def FV (C:ca):nS->Option I->Option I
 | .slice e,some d=>if(C.T e).ok=true/\d.wd=(C.T e).sz then some (.ref d)else none
 |_,_=>none
theorem MZ (C:ca) (s:aw) (T:TypeId) (xs:alW) (k:IntKind) (n:Int):jL C s T (.slice xs) (.int k n)=FV C (C.T T).k (bl xs n):=by
 simp only[jL,bl];generalize (C.T T).k=dX;cases dX<;>first|rfl|skip
 simp only[FV];by_cases aX:0<=n
 .simp only[aX,true_and,if_true];split
  .cases xs[n.toNat]? <;>simp[*]
  .cases xs[n.toNat]? <;>simp[*]
 .simp only[aX,false_and,if_false]
def yc (C:ca) (y:Nat) (q:alR) (n:Int):nS->Option I->Option I
 | .slice e,some (.ag sz xs)=>if(bl xs n).isSome=true/\(C.T e).ok=true/\sz=(C.T e).sz then some (.aq y (q++[n.toNat]))else none
 |_,_=>none
theorem M0 (C:ca) (s:aw) (T:TypeId) (y:Nat) (q:alR) (k:IntKind) (n:Int):jL C s T (.h y q) (.int k n)=yc C y q n (C.T T).k (I.sub q (s y)):=by
 simp only[jL];generalize (C.T T).k=dX;cases dX<;>first|rfl|skip
 rename_i e;cases ad:I.sub q (s y)with
 |none=>simp[yc]
 |some d=>
  cases d<;>first
   |(simp[yc];done)
   |skip
  rename_i sz xs;have bR:(bl xs n).isSome=true↔0<=n/\n.toNat<xs.length:=by
   unfold bl;split<;>simp_all<;>omega
  simp only[yc,bR];by_cases aX:0<=n<;>by_cases ab:(C.T e).ok=true<;>simp[aX,ab]
def vb:nS->aw->Option alO->Option (I×aw)
 | .str,s,some t=>some (.str t,s)
 |_,_,_=>none
def vc (C:ca):nS->aw->alW->Option alW->Option (I×aw)
 | .slice e,s,xs,some t=>if(C.T e).ok=true/\∀d∈xs,d.wd=(C.T e).sz then some (.slice t,s)else none
 |_,_,_,_=>none
theorem M1 (C:ca) (s:aw) (T:TypeId) (l:alO):
  (∀k a cF b,h9 C s T (.str l) (some (.int k a)) (some (.int cF b))=vb (C.T T).k s (lk l a b))/\
  (∀cF b,h9 C s T (.str l) none (some (.int cF b))=vb (C.T T).k s (lk l 0 b))/\
  (∀k a,h9 C s T (.str l) (some (.int k a)) none=vb (C.T T).k s (lk l a l.length)):=by
 have e:∀(fl ao:Option I) (a b:Int),(iM 0 fl=if 0<=a then some a.toNat else none)->(iM l.length ao=if 0<=b then some b.toNat else none)->h9 C s T (.str l) fl ao=vb (C.T T).k s (lk l a b):=by
  intro fl ao a b ab ae;simp only[h9];generalize (C.T T).k=dX;cases dX<;>first|rfl|skip
  simp only[ab,ae,lk];by_cases cg:0<=a<;>by_cases R:0<=b<;>simp only[cg,R,if_true,if_false,vb,true_and,false_and]
  .by_cases an:a<=b/\b<=l.length
   .rw[if_pos ⟨by omega,by omega⟩,if_pos an]
   .rw[if_neg (λh=>an ⟨by omega,by omega⟩),if_neg an]
  .rw[if_neg (by omega)]
 exact⟨λk a cF b=>e _ _ a b rfl rfl,λcF b=>e _ _ 0 b rfl rfl,λk a=>e _ _ a l.length rfl (by simp[iM])⟩
theorem M3 (C:ca) (s:aw) (T:TypeId) (xs:alW):
  (∀k a cF b,h9 C s T (.slice xs) (some (.int k a)) (some (.int cF b))=vc C (C.T T).k s xs (lk xs a b))/\
  (∀cF b,h9 C s T (.slice xs) none (some (.int cF b))=vc C (C.T T).k s xs (lk xs 0 b))/\
  (∀k a,h9 C s T (.slice xs) (some (.int k a)) none=vc C (C.T T).k s xs (lk xs a xs.length)):=by
 have e:∀(fl ao:Option I) (a b:Int),(iM 0 fl=if 0<=a then some a.toNat else none)->(iM xs.length ao=if 0<=b then some b.toNat else none)->h9 C s T (.slice xs) fl ao=vc C (C.T T).k s xs (lk xs a b):=by
  intro fl ao a b ab ae;simp only[h9];generalize (C.T T).k=dX;cases dX<;>first|rfl|skip
  simp only[ab,ae,lk];by_cases cg:0<=a<;>by_cases R:0<=b<;>simp only[cg,R,if_true,if_false,vc,true_and,false_and]
  .by_cases an:a<=b/\b<=xs.length
   .rw[if_pos an];have ab:a.toNat<=b.toNat:=by omega
    have ae:b.toNat<=xs.length:=by omega
    simp only[ab,ae,true_and]
   .rw[if_neg (λh=>an ⟨by omega,by omega⟩),if_neg an]
  .rw[if_neg (by omega)]
 exact⟨λk a cF b=>e _ _ a b rfl rfl,λcF b=>e _ _ 0 b rfl rfl,λk a=>e _ _ a xs.length rfl (by simp[iM])⟩
def yd (q:alR):Option I->Option I
 |some d=>I.sub q d
 |none=>none
theorem M4:(∀d,I.sub [] d=some d)/\(∀k q aE,I.sub (k::q) (.agg aE)=yd q aE[k]?)/\(∀k q aE,I.sub (k::q) (.tuple aE)=yd q aE[k]?)/\(∀k q sz xs,I.sub (k::q) (.ag sz xs)=yd q xs[k]?)/\
  (∀q d,I.sub (0::q) (.bf d)=I.sub q d)/\(∀q d,yd q (some d)=I.sub q d)/\
  (∀k q a b,I.sub (k::q) (.int a b)=none):=by
 refine⟨λd=>by simp[I.sub],?_,?_,?_,λq d=>by simp[I.sub],λ_ _=>rfl,λ_ _ _ _=>by simp[I.sub]⟩
 .intro k q aE;simp only[I.sub];cases aE[k]? <;>rfl
 .intro k q aE;simp only[I.sub];cases aE[k]? <;>rfl
 .intro k q sz aE;simp only[I.sub];cases aE[k]? <;>rfl
def M5 (k:Nat) (q:alR) (n:I) (aE:alW):Option I->I
 |some d=>.agg (aE.set k (I.put q n d))
 |none=>.agg aE
def M6 (k:Nat) (q:alR) (n:I) (aE:alW):Option I->I
 |some d=>.tuple (aE.set k (I.put q n d))
 |none=>.tuple aE
def M7 (k:Nat) (q:alR) (n:I) (sz:Nat) (xs:alW):Option I->I
 |some d=>.ag sz (xs.set k (I.put q n d))
 |none=>.ag sz xs
theorem M8:(∀n d,I.put [] n d=n)/\(∀k q n aE,I.put (k::q) n (.agg aE)=M5 k q n aE aE[k]?)/\(∀k q n aE,I.put (k::q) n (.tuple aE)=M6 k q n aE aE[k]?)/\
  (∀k q n sz xs,I.put (k::q) n (.ag sz xs)=M7 k q n sz xs xs[k]?)/\(∀q n d,I.put (0::q) n (.bf d)= .bf (I.put q n d))/\
  (∀k q n aE d,M5 k q n aE (some d)= .agg (aE.set k (I.put q n d)))/\(∀k q n aE d,M6 k q n aE (some d)= .tuple (aE.set k (I.put q n d)))/\
  (∀k q n sz xs d,M7 k q n sz xs (some d)= .ag sz (xs.set k (I.put q n d))):=by
 refine⟨λn d=>by simp[I.put],?_,?_,?_,λq n d=>by simp[I.put],λ_ _ _ _ _=>rfl,λ_ _ _ _ _=>rfl,λ_ _ _ _ _ _=>rfl⟩
 .intro k q n aE;simp only[I.put];cases aE[k]? <;>rfl
 .intro k q n aE;simp only[I.put];cases aE[k]? <;>rfl
 .intro k q n sz aE;simp only[I.put];cases aE[k]? <;>rfl
theorem FW:(∀k n,I.wd (.int k n)=1)/\(∀b,I.wd (.bool b)=1)/\(∀x,I.wd (.str x)=1)/\(∀x,I.wd (.slice x)=1)/\(∀n x,I.wd (.ag n x)=1)/\(∀x,I.wd (.ref x)=1)/\(∀x,I.wd (.bf x)=1)/\
  I.wd .bd=1/\I.wd .dC=1/\I.wd .hole=1/\I.wd .fm=1/\(∀x y,I.wd (.h x y)=1)/\(∀x y,I.wd (.aq x y)=1)/\(∀x y,I.wd (.fn x y)=1)/\(∀aE,I.wd (.agg aE)=I.ef aE)/\(∀aE,I.wd (.tuple aE)=I.ef aE)/\I.ef []=0/\(∀d ds,I.ef (d::ds)=d.wd+I.ef ds):=by
 simp[I.wd,I.ef]
theorem Vm {α:Type} {e:α->I} {n:Nat} (h:∀x,(e x).wd=n) (xs:List α):(∀d∈xs.map e,d.wd=n)=True:=by
 simp only[List.mem_map,eq_iff_iff,iff_true];rintro d ⟨x,_,rfl⟩;exact h x
theorem Vn (C:ca) (s:aw) (A B:TypeId) (k cF:IntKind) (n:Int) (hA:(C.T A).ok=true) (hc:(C.T B).k= .int cF):iX C s A B (.int k n)=some (.int cF (cF.wrap n)):=by
 simp only[iX,hA,hc,if_true]
theorem M9 (m:Int):k6 (qJ m)= .int .u8 (u8.wrap m):=by
 have h:0<=u8.wrap m/\u8.wrap m<256:=by rw[wrap_u8];omega
 simp only[k6,qJ,UInt8.toNat_ofNat'];congr 1;omega
theorem FX (m:Int):((qJ m).toNat:Int)=u8.wrap m:=by
 have h:=M9 m;simpa [k6]using h
section
variable {C:ca} {l:alV} {Q:Exit->aw->Prop} {s:aw}
theorem hM {ros:List ch} {k:alR} (h:dE C (ay l) ros none (λ_ s=>Q .normal (ay (gO k s)))):a_ C (.fN ros (some k)) Q (ay l):=tw (λ_ _ h=>h) h
theorem Vo {ros:List ch} {eX:alP} {k:alR} (hlen:eX.length=ros.length) (h:dE C (ay l) ros (some []) (λacc s=>kR (oW eX) 0 [] (acc.getD []).reverse=true/\Q .normal (ay (gO k s)))):
  a_ C (.j7 ros eX (some k)) Q (ay l):=MH hlen h
theorem Vp {a b:aI} (h:∀ep:Exit->aw->Prop,(∀s,dK (a_ C b Q) s->ep .normal s)->(∀s,Q .ret s->ep .ret s)->(∀i s,Q (.exit i) s->ep (.exit i) s)->a_ C a ep s):a_ C (.seq a b) Q s:=
 h _ (λ_ h=>h) (λ_ h=>h) (λ_ _ h=>h)
theorem da {ros:List ch} {k:alR} {b:aI} (h:dE C (ay l) ros none (λ_ s=>a_ C b Q (ay (gO k s)))):a_ C (.seq (.fN ros (some k)) b) Q (ay l):=tw (λ_ _ h=>.inl h) h
theorem kS {ros:List ch} {eX:alP} {k:alR} {b:aI} (hlen:eX.length=ros.length) (h:dE C (ay l) ros (some []) (λacc s=>kR (oW eX) 0 [] (acc.getD []).reverse=true/\a_ C b Q (ay (gO k s)))):
  a_ C (.seq (.j7 ros eX (some k)) b) Q (ay l):=MH (K:=λs=>dK (a_ C b Q) (ay (gO k s))) hlen (by
   have key:∀(os:List ch) (s:aw) (acc:Option (List fs)),dE C s os acc (λacc s=>kR (oW eX) 0 [] (acc.getD []).reverse=true/\a_ C b Q (ay (gO k s)))->
     dE C s os acc (λacc s=>kR (oW eX) 0 [] (acc.getD []).reverse=true/\dK (a_ C b Q) (ay (gO k s))):=by
    intro os;induction os with
    |nil=>intro s acc h;exact⟨h.1,.inl h.2⟩
    |cons o os ih=>
     intro s acc h;have mono:∀{s:aw} {bV:ed} {K dz:alR->I->aw->Prop},(∀a b c,K a b c->dz a b c)->og C s bV K->og C s bV dz:=by
      intro s bV K dz ax h;cases bV with
      |call f args=>
       obtain⟨g,caps,ps,r,ab,gT,ae,az,a6,bF,cP,cB,fS⟩:=h;exact⟨g,caps,ps,r,ab,gT,ae,az,a6,bF,cP,cB,ax _ _ _ fS⟩
      |shr bV=>obtain⟨av,s1,ab,ae,az,a6⟩:=h;exact⟨av,s1,ab,ae,az,ax _ _ _ a6⟩
      |ks f args us=>
       obtain⟨cc,g,caps,ps,r,ab,gT,ae,az,a6,bF,cP,cB,fS,iE⟩:=h;exact⟨cc,g,caps,ps,r,ab,gT,ae,az,a6,bF,cP,cB,fS,ax _ _ _ iE⟩
      |_=>obtain⟨av,s1,ab,ae⟩:=h;exact⟨av,s1,ab,ax _ _ _ ae⟩
     simp only[dE,nv]at h⊢;split
     .rename_i bR;rw[bR]at h;exact mono (λ_ _ _=>ih _ _) h
     .rename_i t fH bR;rw[bR]at h;simp only at h;split
      .rename_i aj6 ad;rw[ad]at h;simp only at h;split
       .rename_i R;rw[if_pos R]at h;exact mono (λ_ _ _=>ih _ _) h
       .rename_i R;rw[if_neg R]at h;exact ih _ _ h
      .rename_i ad;rw[ad]at h;exact ih _ _ h
      .rename_i ab ae;split at h
       .exact ab _ (by assumption)
       .exact ae (by assumption)
       .exact h
   exact key _ _ _ h)
theorem iz {c:bk} {a b:aI} (an:bu s c= .bool true) (h:a_ C a Q s):a_ C (.cond c a b) Q s:=by simp only[a_,an,if_true];exact h
theorem p4 {c:bk} {a b:aI} (an:bu s c= .bool false) (h:a_ C b Q s):a_ C (.cond c a b) Q s:=by simp only[a_,an];exact h
theorem Vq {c:bk} {a b:aI} (an:bu s c= .fm) (ab:a_ C a Q s) (ae:a_ C b Q s):a_ C (.cond c a b) Q s:=by simp only[a_,an];exact⟨ab,ae⟩
theorem Vr {id:Nat} {b:aI} (h:∀ep:Exit->aw->Prop,(∀s,Q .normal s->ep .normal s)->(∀s,Q .ret s->ep .ret s)->(∀s,Q .normal s->ep (.exit id) s)->(∀i s,i≠id->Q (.exit i) s->ep (.exit i) s)->a_ C b ep s):a_ C (.block id b) Q s:=
 h (u3 id Q) (λ_ h=>h) (λ_ h=>h) (λs h=>by simp only[u3,if_true];exact h) (λi s ao h=>by simp only[u3,if_neg ao];exact h)
theorem cK {id:Nat} (h:Q (.exit id) s):a_ C (.exit id) Q s:=h
theorem jh (h:Q .ret s):a_ C .ret Q s:=h
theorem aQ (h:Q .normal s):a_ C .skip Q s:=h
def cy (C:ca) (b:aI) (Q:Exit->aw->Prop) (s:aw):Prop:=∀Z:aw->Prop,(∀aB,a_ C b (andThen (dK Z) Q) aB->Z aB)->Z s
theorem q3 {b:aI} (h:dK (cy C b Q) s):a_ C (.loop b) Q s:=h
theorem Vs {b:aI} (h:∀ep:Exit->aw->Prop,(∀s,dK (cy C b Q) s->ep .normal s)->(∀s,Q .ret s->ep .ret s)->(∀i s,Q (.exit i) s->ep (.exit i) s)->a_ C b ep s):cy C b Q s:=by
 intro Z u5;refine u5 s (Fz b ?_ (h (andThen (dK (cy C b Q)) Q) (λ_ h=>h) (λ_ h=>h) (λ_ _ h=>h)));intro e aB bC;cases e with
 |normal=>exact u4 (λs h=>h Z u5) aB bC
 |_=>exact bC
theorem bQ {cn:alV} (h:cn.map (·.2)=cn.map λp=>s p.1):tt s cn:=by
 intro p aq;left;induction cn with
 |nil=>cases aq
 |cons a cn ih=>
  simp only[List.map_cons,List.cons.injEq]at h;rcases List.mem_cons.1 aq with rfl|aq
  .exact h.1
  .exact ih h.2 aq
end
section
variable {C:ca} {l:alV} {Q:Exit->aw->Prop} {s:aw} {os ros:List ch} {K:Option (List fs)->aw->Prop} {dst:Option Nat}
theorem M_ (l:alV):(∀n,bu (ay l) (.t n)=pI n (ay l n))/\(∀av,bu (ay l) (.c av)=av)/\(∀g,bu (ay l) (.f g)= .fn g []):=⟨λ_=>rfl,λ_=>rfl,λ_=>rfl⟩
theorem Na:(∀t,ay [] t= .hole)/\(∀u d (l:alV) t,ay ((u,d)::l) t=if t=u then d else ay l t):=⟨λ_=>rfl,λ_ _ _ _=>rfl⟩
theorem Nb (s:aw):gO [] s=[]/\(∀t k,gO (t::k) s=(t,s t)::gO k s):=⟨rfl,λ_ _=>rfl⟩
theorem Nc (s:aw):(∀d,mS s (some d)=some (d,s))/\(∀s1,cJ (some s1)=some (.hole,s1))/\jA s []=[]/\(∀x xs,jA s (x::xs)=bu s x::jA s xs)/\r_ s []=[]/\(∀k x xs,r_ s ((k,x)::xs)=(k,bu s x)::r_ s xs)/\
  yb s none=none/\(∀x,yb s (some x)=some (bu s x))/\(∀b x y,ML s (.bool b) x y=some (if b=true then x else y,s)):=
 ⟨λ_=>rfl,λ_=>rfl,rfl,λ_ _=>rfl,rfl,λ_ _ _=>rfl,rfl,λ_=>rfl,λb _ _=>by cases b<;>rfl⟩
theorem Nd (C:ca):(∀e d,FV C (.slice e) (some d)=if(C.T e).ok=true/\d.wd=(C.T e).sz then some (.ref d)else none)/\
  (∀y q n e sz xs,yc C y q n (.slice e) (some (.ag sz xs))=if(bl xs n).isSome=true/\(C.T e).ok=true/\sz=(C.T e).sz then some (.aq y (q++[n.toNat]))else none)/\
  (∀e s xs t,vc C (.slice e) s xs (some t)=if(C.T e).ok=true/\∀d∈xs,d.wd=(C.T e).sz then some (.slice t,s)else none):=
 ⟨λ_ _=>rfl,λ_ _ _ _ _ _=>rfl,λ_ _ _ _=>rfl⟩
theorem Nf:(∀b,FT .bool b=some (.bool b))/\(∀c,FU .str (some c)=some (.int .u8 c.toNat))/\(∀s t,vb .str s (some t)=some (.str t,s))/\(∀q d,yd q (some d)=I.sub q d):=
 ⟨λ_=>rfl,λ_=>rfl,λ_ _=>rfl,λ_ _=>rfl⟩
theorem Ng (sz bytes:Nat) (z:I):(∀k,gp.ok ⟨.int k,sz,bytes,z⟩=true)/\gp.ok ⟨.bool,sz,bytes,z⟩=true/\gp.ok ⟨.str,sz,bytes,z⟩=true/\(∀e,gp.ok ⟨.ptr e,sz,bytes,z⟩=true)/\(∀e,gp.ok ⟨.slice e,sz,bytes,z⟩=true)/\(∀e,gp.ok ⟨.struct e,sz,bytes,z⟩=true)/\gp.ok ⟨.fn,sz,bytes,z⟩=true:=by
 simp[gp.ok]
theorem Nh (sz bytes:Nat) (z:I):(∀k,gp.flat ⟨.int k,sz,bytes,z⟩=true)/\gp.flat ⟨.bool,sz,bytes,z⟩=true/\gp.flat ⟨.str,sz,bytes,z⟩=true/\(∀e,gp.flat ⟨.ptr e,sz,bytes,z⟩=true)/\(∀e,gp.flat ⟨.slice e,sz,bytes,z⟩=true)/\(∀e,gp.flat ⟨.struct e,sz,bytes,z⟩=false)/\gp.flat ⟨.fn,sz,bytes,z⟩=true:=by
 simp[gp.flat]
theorem ye (c:UInt8) (k:IntKind) (ax:k≠.i8):k.wrap (c.toNat:Int)=(c.toNat:Int):=by
 have:=c.toNat_lt;cases k<;>first|(exact(ax rfl).elim)|(simp[wrap,IntKind.bits,signed];try omega)
theorem FY (c:UInt8):i64.wrap (c.toNat:Int)=(c.toNat:Int)/\u64.wrap (c.toNat:Int)=(c.toNat:Int)/\u8.wrap (c.toNat:Int)=(c.toNat:Int)/\i32.wrap (c.toNat:Int)=(c.toNat:Int)/\u32.wrap (c.toNat:Int)=(c.toNat:Int):=
 ⟨ye c _ (by simp),ye c _ (by simp),ye c _ (by simp),ye c _ (by simp),ye c _ (by simp)⟩
theorem bX {k:alR} {K:aw->Prop} (cn:alV) (h:∀P:alV->Prop,P cn->dE C (ay l) ros none (λ_ s=>P (gO k s))) (ax:K (ay cn)):dE C (ay l) ros none (λ_ s=>K (ay (gO k s))):=
 h (λl=>K (ay l)) ax
theorem ku {k:alR} {cl:alP} {K:aw->Prop} (cn:alV) (h:∀P:alV->Prop,P cn->dE C (ay l) ros (some []) (λacc s=>kR cl 0 [] (acc.getD []).reverse=true/\P (gO k s))) (ax:K (ay cn)):
  dE C (ay l) ros (some []) (λacc s=>kR cl 0 [] (acc.getD []).reverse=true/\K (ay (gO k s))):=
 h (λl=>K (ay l)) ax
theorem aY.Vt (bn:C.Ok) {f:FuncId} {fn:Func} {c:Code} {dj:aI} {fx:alR} {as outs:alW} {r:I} (bo:C.P.funcs[f]? =some fn) (R:fn.body=some c)
  (kP:(fn.name== "runtime.NumGoroutine")=false) (ad:e5 ⟨fn.ntmps,fx⟩ c=some dj.strip) (aS:as.length<=fn.ntmps)
  (h:∀Q:Exit->aw->Prop,(∀s,dK (Ends C fx fn.results.toList r outs) s->Q .ret s)->(∀s,dK (Ends C fx fn.results.toList r outs) s->Q .normal s)->a_ C dj Q (ay (num 0 as))) (aq:dj.plain=true:=by kernel_rfl):aY C f as r outs:=by
 refine aY.of_wp bn bo R kP ad aS ?_ aq;rw[Bt];exact h _ (λs h=>⟨.inr rfl,h⟩) (λs h=>⟨.inl rfl,h⟩)
def BD:alW->I
 |[d]=>d
 |ds=>.tuple ds
theorem jU {fx:alR} {eL:List ResultVar} {r:I} {outs:alW} (ds:alW) (ab:eL.map (oU C s)=ds.map some) (ae:r=BD ds) (az:(eL.map jg).Nodup)
  (a6:∀(i:Nat) (o:I),outs[i]? =some o->o= .hole\/(o=s i/\o.gv=true/\i∈fx/\i∉eL.map jg)):Ends C fx eL r outs s:=.inl ⟨ds,ab,by subst ae;cases ds with|nil=>rfl|cons a t=>cases t<;>rfl,az,a6⟩
theorem Vu {fx:alR} {eL:List ResultVar}:∀(i:Nat) (o:I),([]:alW)[i]? =some o->o= .hole\/(o=s i/\o.gv=true/\i∈fx/\i∉eL.map jg):=λi o h=>by simp at h
theorem Ni:∀(as ds:alW),(mj as ds).filter (·.g)=[]
 |[],_=>rfl
 |_::_,[]=>rfl
 |a::as,d::ds=>by simp only[mj,List.filter_cons];exact Ni as ds
theorem BE {f:bk} {args:List bk} {g:FuncId} {caps:alW} {K:alR->I->aw->Prop} (ds:alW) (r:I)
  (ab:bu (ay l) f= .fn g caps) (gT:I.eg caps=true) (hf:views (ay l) (jA (ay l) args++caps)=some ds)
  (bF:aY C g ds r []) (cP:r.res=true) (cB:I.dQ (jA (ay l) args++caps)=[]\/r.cS=true) (hK:K [] r (ay l)):og C (ay l) (.call f args) K:=by
 obtain⟨aR,aV,aW,cm,cC,b7,bW⟩:=UH _ _ hf;refine⟨g,caps,mj (jA (ay l) args++caps) ds,r,ab,gT,by rw[aR,va],λp aq=>(aW p aq).1,cm,by rw[aV];exact bF.outs cC.symm,cP,?_,by rw[b7,bW,Ni];exact hK⟩;intro hl;refine⟨?_,λp aq=>by rw[(aW p aq).2.2.1];rfl⟩;rcases cB with cB|cB
 .exfalso;simp only[jR,List.any_eq_true]at hl;obtain⟨p,aq,fI⟩:=hl;have hm:=(aW p aq).2.2.2;have:p.a.ad=[]:=by
   have key:∀(as:alW) (a:I),a∈as->I.dQ as=[]->a.ad=[]:=by
    intro as;induction as with
    |nil=>intro a h;cases h
    |cons b as ih=>
     intro a h he;simp only[I.dQ,List.append_eq_nil_iff]at he;rcases List.mem_cons.1 h with rfl|h
     .exact he.1
     .exact ih a h he.2
   exact key _ _ hm cB
  rw[this]at fI;simp at fI
 .exact cB
theorem eB {f:bk} {args:List bk} {g:FuncId} {caps:alW} {ds:alW} {r:I} (bF:aY C g ds r [])
  (ab:bu (ay l) f= .fn g caps:=by rfl) (gT:I.eg caps=true:=by rfl) (hf:views (ay l) (jA (ay l) args++caps)=some ds:=by rfl)
  (cP:r.res=true:=by rfl) (cB:I.dQ (jA (ay l) args++caps)=[]\/r.cS=true:=by exact .inl (by rfl))
  (hK:dE C (fin (ay l) dst r) os none K):dE C (ay l) (⟨dst,.call f args,none⟩::os) none K:=by
 simp only[dE,nv,p3];exact BE ds r ab gT hf bF cP cB hK
theorem kv {a:List fs} {f:bk} {args:List bk} {g:FuncId} {caps:alW} {ds:alW} {r:I} (bF:aY C g ds r [])
  (ab:bu (ay l) f= .fn g caps:=by rfl) (gT:I.eg caps=true:=by rfl) (hf:views (ay l) (jA (ay l) args++caps)=some ds:=by rfl)
  (cP:r.res=true:=by rfl) (cB:I.dQ (jA (ay l) args++caps)=[]\/r.cS=true:=by exact .inl (by rfl))
  (hK:dE C (fin (ay l) dst r) os (some (iY (ay l) (use (ay l) (.call f args)) dst [] r::a)) K):dE C (ay l) (⟨dst,.call f args,none⟩::os) (some a) K:=by
 simp only[dE,nv,p3];exact BE ds r ab gT hf bF cP cB hK
theorem gU {t:Nat} {b:Bool} {f:bk} {args:List bk} {g:FuncId} {caps:alW} {ds:alW} {r:I} (bF:aY C g ds r [])
  (ab:bu (ay l) f= .fn g caps:=by rfl) (gT:I.eg caps=true:=by rfl) (hf:views (ay l) (jA (ay l) args++caps)=some ds:=by rfl)
  (cP:r.res=true:=by rfl) (cB:I.dQ (jA (ay l) args++caps)=[]\/r.cS=true:=by exact .inl (by rfl))
  (hK:dE C (fin (ay l) dst r) os none K):mm C l dst (.call f args) t b os none K (.bool b):=by
 simp only[mm,if_true];exact BE ds r ab gT hf bF cP cB hK
theorem kT {a:List fs} {t:Nat} {b:Bool} {f:bk} {args:List bk} {g:FuncId} {caps:alW} {ds:alW} {r:I} (bF:aY C g ds r [])
  (ab:bu (ay l) f= .fn g caps:=by rfl) (gT:I.eg caps=true:=by rfl) (hf:views (ay l) (jA (ay l) args++caps)=some ds:=by rfl)
  (cP:r.res=true:=by rfl) (cB:I.dQ (jA (ay l) args++caps)=[]\/r.cS=true:=by exact .inl (by rfl))
  (hK:dE C (fin (ay l) dst r) os (some (iY (ay l) (t::use (ay l) (.call f args)) dst [] r::a)) K):mm C l dst (.call f args) t b os (some a) K (.bool b):=by
 simp only[mm,if_true];exact BE ds r ab gT hf bF cP cB hK
theorem hN (s:aw):views s []=some []/\(∀d ds,views s (d::ds)=(match view s d,views s ds with|some a,some b=>some (a::b)|_,_=>none))/\
  (∀k n,view s (.int k n)=some (.int k n))/\(∀b,view s (.bool b)=some (.bool b))/\(∀x,view s (.str x)=some (.str x))/\(∀x,view s (.slice x)=some (.slice x))/\(∀x,view s (.ref x)=some (.ref x))/\
  view s .bd=some .bd/\view s .dC=some .dC/\(∀aE,view s (.agg aE)=some (.agg aE))/\(∀f cap,view s (.fn f cap)=(views s cap).map (.fn f)):=by
 refine⟨rfl,λd ds=>?_,λ_ _=>rfl,λ_=>rfl,λ_=>rfl,λ_=>rfl,λ_=>rfl,rfl,rfl,λ_=>rfl,λ_ _=>by simp only[view]⟩;simp only[views];rfl
theorem cr {α:Type} {u e:α->I} (h:∀x,(u x).share=e x) (xs:List α):I.shares (xs.map u)=xs.map e:=by
 rw[I.sV];simp[h]
theorem jV {α:Type} {u:α->I} (h:∀x,(u x).cS=true) (xs:List α):I.hg (xs.map u)=true:=by
 induction xs with
 |nil=>rfl
 |cons x xs ih=>simp only[List.map_cons,I.hg,h,ih,Bool.and_self]
def sb (s:aw) (H:alR):alV->Prop
 |[]=>True
 |p::l=>(p.2=s p.1\/((s p.1).tree=true/\e4 (s p.1) p.2/\p.1∉H))/\sb s H l
theorem jW {cn:alV} (H:alR) (hH:I.dQ (cn.map (·.2))=H) (h:sb s H cn):tt s cn:=by
 have key:∀(eV:alV),sb s H eV->∀p∈eV,p.2=s p.1\/((s p.1).tree=true/\e4 (s p.1) p.2/\p.1∉H):=by
  intro eV;induction eV with
  |nil=>intro _ p aq;cases aq
  |cons a eV ih=>
   intro h p aq;rcases List.mem_cons.1 aq with rfl|aq
   .exact h.1
   .exact ih h.2 p aq
 have ad:∀(eV:alV),∀cE∈eV,∀u∈cE.2.ad,u∈I.dQ (eV.map (·.2)):=by
  intro eV;induction eV with
  |nil=>intro p aq;cases aq
  |cons a eV ih=>
   intro p aq u hu;simp only[List.map_cons,I.dQ,List.mem_append];rcases List.mem_cons.1 aq with rfl|aq
   .exact .inl hu
   .exact .inr (ih p aq u hu)
 intro p aq;rcases key _ h p aq with ab|⟨ab,ae,az⟩
 .exact .inl ab
 .refine .inr ⟨ab,ae,λcE eH=>.inl λhm=>az ?_⟩;rw[<-hH];exact ad cn cE eH _ hm
theorem jX {H:alR}:sb s H []:=trivial
theorem dB {H:alR} {t:Nat} {d:I} {cn:alV} (h:d=s t) (hl:sb s H cn):sb s H ((t,d)::cn):=⟨.inl h,hl⟩
theorem jY {H:alR} {t:Nat} {d bg:I} {cn:alV} (e:s t=d) (a8:d.tree=true) (ai:e4 d bg) (hH:t∉H) (hl:sb s H cn):sb s H ((t,bg)::cn):=⟨.inr ⟨by rw[e];exact a8,by rw[e];exact ai,hH⟩,hl⟩
theorem Nj {a b:I} (h:e4 a b):∀n,jz (List.replicate n a) (List.replicate n b)
 |0=>.nil
 |n+1=>by simp only[List.replicate_succ];exact .cons h (Nj h n)
theorem yf {α:Type} {sz:Nat} {u:α->I} {z:α} {a:I} (h:e4 a (u z)) (n:Nat):e4 (.ag sz (List.replicate n a)) (.ag sz ((List.replicate n z).map u)):=by
 rw[List.map_replicate];exact .ag (Nj h n)
end
theorem Vv {C:ca} {A B:TypeId} {cF:IntKind} (hA:(C.T A).ok=true) (hc:(C.T B).k= .int cF):∀s k n,iX C s A B (.int k n)=some (.int cF (cF.wrap n)):=λs k n=>Vn C s A B k cF n hA hc
def Nk:Option I->Option I
 |some (.ag 1 xs)=>(bytesOf xs).map .str
 |_=>none
theorem Vw {C:ca} {A B e:TypeId} (hA:(C.T A).k= .slice e) (hc:(C.T B).k= .str) (he:(C.T e).k= .int .u8):
  (∀s xs,iX C s A B (.slice xs)=(bytesOf xs).map .str)/\(∀s,iX C s A B .bd=some (.str []))/\(∀s x q,iX C s A B (.h x q)=Nk (I.sub q (s x))):=by
 have xD:(C.T A).ok=true:=by simp[gp.ok,hA]
 refine⟨λs xs=>?_,λs=>?_,λs x q=>?_⟩
 .simp only[iX,xD,hA,hc,he,if_true]
 .simp only[iX,xD,hA,hc,he,if_true]
 .simp only[iX,xD,hA,hc,he,if_true];rfl
theorem Vx (xs:alW):Nk (some (.ag 1 xs))=(bytesOf xs).map .str:=rfl
theorem Nl (c:UInt8) (r:alW):bytesOf (k6 c::r)=(bytesOf r).map (c::·):=by
 have:=c.toNat_lt;simp only[k6,bytesOf];rw[if_pos (by omega)];simp
theorem Vy:bytesOf []=some []/\
  (∀l:alO,bytesOf (l.map k6)=some l)/\
  (∀c r,bytesOf (.int .u8 (c.toNat:Int)::r)=(bytesOf r).map (c::·))/\
  (∀m r,bytesOf (.int .u8 (u8.wrap m)::r)=(bytesOf r).map (qJ m::·)):=
 ⟨rfl,Sr,λc r=>Nl c r,λm r=>by rw[<-M9];exact Nl _ r⟩
theorem Vz {k:IntKind} {b:Int} (h:b≠0):∀a,iW .quo k a k b=some (.int k (k.wrap (a.tdiv b))):=λ_=>Vk h
theorem VA {k:IntKind} {b:Int} (h:b≠0):∀a,iW .rem k a k b=some (.int k (a.tmod b)):=λ_=>Vl h
theorem mn {α:Type} {e:α->I} {n:Nat} (h:∀x,(e x).wd=n):∀xs:List α,(∀d∈xs.map e,d.wd=n)=True:=Vm h
theorem p5 {P:I->Prop} (d:I) (ds:alW):(∀x∈d::ds,P x)=(P d/\∀x∈ds,P x):=by simp
theorem all_nil {P:I->Prop}:(∀x∈([]:alW),P x)=True:=by simp
def Nn (a b:alO):Option Unit->Option I
 |some _=>some (.str (a++b))
 |none=>none
theorem Np (a b:alO):nm .add a b=Nn a b (pD (a.length+b.length)):=by
 simp only[nm,pD];split<;>rfl
theorem Nq (a b:alO) (u:Unit):Nn a b (some u)=some (.str (a++b)):=rfl
theorem Nr:(∀l:alR,[]++l=l)/\(∀a (l m:alR),(a::l)++m=a::(l++m)):=⟨λ_=>rfl,λ_ _ _=>rfl⟩
def Ns (C:ca) (e c8:TypeId):Bool:=(C.T e).ok&&((C.T e).zero.wd==(C.T e).sz)&&(flat (C.T e).zero).isSome&&A5 C e c8
def BF (C:ca) (e:TypeId) (xs:alW):Option (alW×aw)->Option (I×aw)
 |some (ys,s2)=>if(∀d∈ys,d.wd=(C.T e).sz)/\(room (C.T e).bytes (xs.length+ys.length)).isSome=true then some (.ag (C.T e).sz (xs++ys),s2)else none
 |none=>none
def FZ (C:ca) (e:TypeId) (y:I) (o:Option Nat):Option (I×aw)->Option (I×aw)
 |some (.ag sz xs,s1)=>if sz=(C.T e).sz then BF C e xs (ly s1 (kI o y))else none
 |_=>none
theorem VB (b n:Nat):(room b n).isSome=true↔n*b<=140737488355328/\n<=9223372036854775807:=by unfold room;split<;>simp_all
theorem oY {C:ca} {T c8 e:TypeId} (iO:(C.T T).k= .slice e) (fq:Ns C e c8=true):∀s x y,qV C s T c8 x y=FZ C e y x.owner (pX C e s x):=by
 intro s x y;simp only[Ns,Bool.and_eq_true,beq_iff_eq]at fq;rw[E_,iO];simp only;rw[if_pos ⟨fq.1.1.1,fq.1.1.2,fq.1.2,fq.2⟩];generalize x.owner=o;cases pX C e s x with
 |none=>rfl
 |some p=>
  obtain⟨d,s1⟩:=p;cases d<;>first
   |rfl
   |(simp only[FZ]
     split
     .rename_i h;subst h;generalize ly s1 (kI o y)=z;cases z with
      |none=>rfl
      |some p=>simp only[BF,VB]
     .rfl)
def Nt:Option (I×aw)->Option (alW×aw)
 |some (.ag _ ys,s2)=>some (ys,s2)
 |_=>none
theorem p6 (s:aw):ly s .bd=some ([],s)/\(∀ys,ly s (.slice ys)=some (ys,s))/\(∀l,ly s (.str l)=some (l.map k6,s))/\
  (∀a q,ly s (.h a q)=Nt (cV s (.h a q)))/\(∀n ys,Nt (some (.ag n ys,s))=some (ys,s)):=
 ⟨rfl,λ_=>rfl,λ_=>rfl,λ_ _=>by simp only[ly];rfl,λ_ _=>rfl⟩
theorem p7 (C:ca) (e:TypeId):(∀s,pX C e s .bd=some (.ag (C.T e).sz [],s))/\(∀s a q,pX C e s (.h a q)=cV s (.h a q))/\
  (∀y o sz xs s1,FZ C e y o (some (.ag sz xs,s1))=if sz=(C.T e).sz then BF C e xs (ly s1 (kI o y))else none)/\
  (∀xs ys s2,BF C e xs (some (ys,s2))=if(∀d∈ys,d.wd=(C.T e).sz)/\(room (C.T e).bytes (xs.length+ys.length)).isSome=true then some (.ag (C.T e).sz (xs++ys),s2)else none):=
 ⟨λ_=>rfl,λ_ _ _=>rfl,λ_ _ _ _ _=>rfl,λ_ _ _=>rfl⟩
theorem p8:(∀d,kI none d=d)/\(∀x d,kI (some x) d=cb x d)/\(∀x q,I.owner (.h x q)=some x)/\I.owner .bd=none:=
 ⟨λ_=>rfl,λ_ _=>rfl,λ_ _=>rfl,rfl⟩
def Nu (s:aw) (x:Nat) (q:alR):Option I->Option (I×aw)
 |some d=>if d.plain=true then none else some (d,dq (h7 x s) x (I.put q d.c_ (s x)))
 |none=>none
theorem Nv (s:aw) (x:Nat) (q:alR):cV s (.h x q)=Nu s x q (I.sub q (s x)):=by
 simp only[cV];cases I.sub q (s x)<;>rfl
theorem Nw (s:aw):(∀x q d,Nu s x q (some d)=if d.plain=true then none else some (d,dq (h7 x s) x (I.put q d.c_ (s x))))/\(∀k n,cV s (.int k n)=some (.int k n,s))/\(∀b,cV s (.bool b)=some (.bool b,s))/\(∀x,cV s (.str x)=some (.str x,s))/\
  (∀x,cV s (.slice x)=some (.slice x,s))/\(∀x,cV s (.ref x)=some (.ref x,s))/\(∀x,cV s (.agg x)=some (.agg x,s))/\cV s .bd=some (.bd,s)/\cV s .dC=some (.dC,s):=
 ⟨λ_ _ _=>rfl,λ_ _=>rfl,λ_=>rfl,λ_=>rfl,λ_=>rfl,λ_=>rfl,λ_=>rfl,rfl,rfl⟩
theorem Nx (l:alV) (t:Nat) (d:I):dq (ay l) t d=ay ((t,d)::l):=x7 l t d
theorem Ny:(∀n x,I.c_ (.ag n x)= .hole)/\(∀x,I.c_ (.bf x)= .hole)/\(∀aE,I.c_ (.agg aE)= .agg (I.ln aE))/\(∀aE,I.c_ (.tuple aE)= .tuple (I.ln aE))/\I.ln []=[]/\(∀d ds,I.ln (d::ds)=d.c_::I.ln ds)/\
  (∀k n,I.c_ (.int k n)= .int k n)/\(∀b,I.c_ (.bool b)= .bool b)/\(∀x,I.c_ (.str x)= .str x)/\(∀x,I.c_ (.slice x)= .slice x)/\(∀x,I.c_ (.ref x)= .ref x)/\I.c_ .bd= .bd/\I.c_ .dC= .dC/\I.c_ .hole= .hole:=by
 simp[I.c_,I.ln]
def tC:Option I->Option I
 |some d=>(match d with| .tuple _=>none| .dS _=>none| .fJ _ _=>none|d=>if d.plain=true then none else some d.share)
 |none=>none
def tD:Option I->Option I
 |some d=>(match d with| .tuple _=>none|d=>some (.ref d.share))
 |none=>none
theorem hP (s:aw) (x:Nat) (q:alR):view s (.h x q)=tC (I.sub q (s x))/\view s (.aq x q)=(if I.fD q (s x)=true then tD (I.sub q (s x))else none):=by
 constructor
 .simp only[view];rfl
 .simp only[view];rfl
theorem hQ:(∀n xs,tC (some (.ag n xs))=some (.slice (I.shares xs)))/\(∀d,tC (some (.bf d))=some (.ref d.share))/\(∀aE,tC (some (.agg aE))=if I.eg aE=true then none else some (.agg (I.shares aE)))/\
  (∀aE,tD (some (.agg aE))=some (.ref (.agg (I.shares aE))))/\(∀k n,tD (some (.int k n))=some (.ref (.int k n)))/\(∀x,tD (some (.str x))=some (.ref (.str x))):=
 ⟨λ_ _=>by simp[tC,I.plain,I.share],λ_=>by simp[tC,I.plain,I.share],λaE=>by cases h:I.eg aE<;>simp[tC,I.plain,I.share,h],λ_=>by simp[tD,I.share],λ_ _=>by simp[tD,I.share],λ_=>by simp[tD,I.share]⟩
theorem dr:(∀n xs,I.share (.ag n xs)= .slice (I.shares xs))/\(∀d,I.share (.bf d)= .ref d.share)/\(∀xs,I.share (.slice xs)= .slice (I.shares xs))/\(∀d,I.share (.ref d)= .ref d.share)/\(∀aE,I.share (.agg aE)= .agg (I.shares aE))/\(∀aE,I.share (.tuple aE)= .tuple (I.shares aE))/\
  (∀k n,I.share (.int k n)= .int k n)/\(∀b,I.share (.bool b)= .bool b)/\(∀x,I.share (.str x)= .str x)/\I.share .bd= .bd/\I.share .dC= .dC/\I.shares []=[]/\(∀d ds,I.shares (d::ds)=d.share::I.shares ds):=by
 simp[I.share,I.shares]
def mT (sz:Nat):Option (alW×aw)->Option (I×aw)
 |some (ds,s1)=>some (.ag sz ds,s1)
 |none=>none
def ft:Option (alW×aw)->Option (I×aw)
 |some (ds,s1)=>some (.agg ds,s1)
 |none=>none
theorem yg {C:ca} {T e n sz:Nat} {en:alW} (iO:(C.T T).k= .slice e) (ea:(C.T e).sz=sz) (bZ:List.replicate n (C.T e).zero=en)
  (fq:((C.T e).ok&&((C.T e).zero.wd==sz)&&(flat (C.T e).zero).isSome&&(sz !=0)&&decide (n*sz<=16777216))=true):∀s ps,fa C s T n ps=mT sz (eu (λk=>some (k*sz,sz)) s en [] ps):=by
 intro s ps;subst ea;simp only[Bool.and_eq_true,beq_iff_eq,bne_iff_ne,decide_eq_true_eq]at fq;obtain⟨⟨⟨⟨ab,ae⟩,az⟩,a6⟩,bF⟩:=fq;unfold fa;rw[iO];simp only;rw[if_pos ⟨ab,ae,az,a6,bF⟩,bZ];cases eu (λk=>some (k*(C.T e).sz,(C.T e).sz)) s en [] ps<;>rfl
theorem VC {C:ca} {T:Nat} {aE:List (TypeId×Nat)} {en:alW} (iO:(C.T T).k= .struct aE) (bZ:(C.T T).zero= .agg en)
  (fq:((flat (.agg en)).isSome&&aE.all λf=>(C.T f.1).ok)=true):∀s ps,hd C s T ps=ft (eu (λk=>(aE[k]?).map λf=>(f.2,(C.T f.1).sz)) s en [] ps):=by
 intro s ps;simp only[Bool.and_eq_true,List.all_eq_true]at fq;unfold hd;rw[iO,bZ];simp only;rw[if_pos ⟨fq.1,fq.2⟩];cases eu (λk=>(aE[k]?).map λf=>(f.2,(C.T f.1).sz)) s en [] ps<;>rfl
def eI (place:Nat->Option (Nat×Nat)) (k:Nat) (en:alW) (os:List (Option Nat)) (r:alV) (o:Option Nat):Option (Nat×Nat)->Option I->Option (I×aw)->Option (alW×aw)
 |some (off,n),some z,some (d,s1)=>(match d with
  | .tuple _=>none
  |d=>if d.wd=n/\z.wd=n/\I.ef (en.take k)=off then eu place s1 (en.set k d) (os++[o]) r else none)
 |_,_,_=>none
theorem yh (place:Nat->Option (Nat×Nat)) (s:aw) (en:alW) (os:List (Option Nat)):eu place s en os []=some (en,s)/\
  (∀k a r,eu place s en os ((k,a)::r)=eI place k en os r (k8 os a).owner (place k) en[k]? (cV s (k8 os a))):=by
 refine⟨rfl,λk a r=>?_⟩;simp only[eu];cases cV s (k8 os a)with
 |none=>cases place k<;>cases en[k]? <;>rfl
 |some p=>
  obtain⟨d,s1⟩:=p;cases place k with
  |none=>cases en[k]? <;>rfl
  |some q=>cases en[k]? <;>(cases d<;>rfl)
theorem yi:(∀a,k8 [] a=a)/\(∀o os a,k8 (o::os) a=k8 os (kI o a)):=⟨λ_=>rfl,λ_ _ _=>rfl⟩
theorem cM:(∀k n,I.owner (.int k n)=none)/\(∀b,I.owner (.bool b)=none)/\(∀x,I.owner (.str x)=none)/\(∀x,I.owner (.slice x)=none)/\(∀x,I.owner (.ref x)=none)/\(∀x,I.owner (.agg x)=none)/\I.owner .dC=none/\I.owner .bd=none/\(∀x q,I.owner (.h x q)=some x):=
 ⟨λ_ _=>rfl,λ_=>rfl,λ_=>rfl,λ_=>rfl,λ_=>rfl,λ_=>rfl,rfl,rfl,λ_ _=>rfl⟩
end Go.de
