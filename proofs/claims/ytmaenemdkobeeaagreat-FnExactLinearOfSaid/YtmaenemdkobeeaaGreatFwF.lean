/- Part of a proof that a law returns true for every input. No condition. -/
import Derived.Test.YtmaenemdkobeeaaGreatFwE
import Derived.Orders
import Derived.KernelRfl
import Derived.Test.YtmaenemdkobeeaaGreatFwA
namespace Go.ek
open Go.IntKind Nat Or
section
variable {C:ch} {w0 w:World} {F0 X:Nat->Prop} {n:Fr} {ρ:Nat->Value} {s s1:az} {a:Act} {av:J} {Q:Exit->Act->World->Prop}
def cn.un (o:cn):cn:=⟨o.dst,o.bO.base,o.guard⟩
theorem Bn {ops:Array Oper}:∀{os:List Oper} {rs:List cn},sy n ops os=some rs->os.length=rs.length/\∀(i:Nat) (o:Oper),os[i]? =some o->∃r,rs[i]? =some r/\sx n ops o=some r:=by
 intro os;induction os with
 |nil=>intro rs h;simp only[sy,Option.some.injEq]at h;subst h;exact⟨rfl,λi o h=>by simp at h⟩
 |cons o os ih=>
  intro rs h;simp only[sy]at h;split at h
  .rename_i r apC ae ag;simp only[Option.some.injEq]at h;subst h;obtain⟨b3,cv⟩:=ih ag;refine⟨by simp[b3],λi pk b_=>?_⟩;cases i with
   |zero=>simp at b_;subst b_;exact⟨r,rfl,ae⟩
   |succ i=>simpa using cv i pk (by simpa using b_)
  .cases h
theorem EU {o:Oper} {y:Nat->arI} (h:o.guard=none):Region.wanted o y=true:=by simp[Region.wanted,h]
theorem Zm (h:Rel w0 F0 X n ρ s a w) {ops:Array Oper} {j t:Nat} (bP:(ops[j]?).bind (·.dst)=some t):
  (∀b,s t= .bool b->yielded ops a.tmps j=some b)/\(s t= .tuple []->yielded ops a.tmps j=none):=by
 obtain⟨ak,ad,bo,F,S,a4⟩:=h;have kk:=a4.ev t;refine⟨λb ab=>?_,λab=>?_⟩
 .rw[ab]at kk;have aE:=uL kk;simp only[yielded,bP,Option.bind_some];rw[Array.getD_eq_getD_getElem?]at aE;cases bC:a.tmps[t]? with
  |none=>rw[bC]at aE;simp[undef]at aE
  |some v=>rw[bC]at aE;simp at aE;subst aE;rfl
 .rw[ab]at kk;obtain⟨⟨arr,ae,ag⟩,_⟩:=(aU.c_ (d:=.tuple []) rfl).1 kk;simp only[yielded,bP,Option.bind_some];rw[Array.getD_eq_getD_getElem?]at ae;cases bC:a.tmps[t]? with
  |none=>rfl
  |some v=>rw[bC]at ae;simp at ae;subst ae;rfl
theorem JN (bB:C.fI) {ops:Array Oper} {ros:List cn} {l2:arH} {K:az->Prop} (aZ:∀aI dd aQ,K aI->Rel w0 F0 X n ρ aI dd aQ->wpOps C.P ops Q l2 dd aQ):
  ∀(l:arH),(∀i∈l,(ops[i]? =none->ros[i]? =none)/\∀o,ops[i]? =some o->∃r,ros[i]? =some r/\sx n ops o=some r.un)->
  ∀(s:az) (a:Act) (w:World),jS C ros s l K->Rel w0 F0 X n ρ s a w->wpOps C.P ops Q (l++l2) a w:=by
 intro l;induction l with
 |nil=>intro _ s a w h a4;exact aZ s a w h a4
 |cons i l ih=>
  intro oI s a w h a4;replace ih:=ih λi al=>oI i (List.mem_cons_of_mem _ al);rw[List.cons_append];simp only[wpOps];cases b_:ops[i]? with
  |none=>
   simp only[jS,(oI i (by simp)).1 b_]at h;exact ih s a w h a4
  |some o=>
   obtain⟨r,ae,ag⟩:=(oI i (by simp)).2 o b_;simp only[jS,ae]at h;show(if Region.wanted o (yielded ops a.tmps)=true then o.wp C.P a w (wpOps C.P ops Q (l++l2)) Q\/(o.asks C.P a w/\LetsOut Q)else wpOps C.P ops Q (l++l2) (a.put o.dst undef) w);simp only[sx]at ag;split at ag
   .rename_i EV;split at ag
    .rename_i g bC;obtain⟨rd,bO,rg⟩:=r;simp only[cn.un,Option.some.injEq,cn.mk.injEq]at ag;obtain⟨rfl,cQ,rfl⟩:=ag;simp only[nw]at h;have run:∀(ej:az->Prop),(∀aI,ej aI->jS C ros aI l K)->qk C s bO (λav s1=>ej (fin s1 o.dst av))->o.wp C.P a w (wpOps C.P ops Q (l++l2)) Q:=
      λej hK hw=>Zk bB a4 cQ EV hw (λaI dd aQ ao ft=>ih aI dd aQ (hK aI ao) ft)
     cases yv:o.guard with
     |none=>
      rw[yv]at bC;simp only[Bh,Option.some.injEq]at bC;subst bC;simp only at h;rw[if_pos (EU yv)];exact .inl (run _ (λ_ h=>h) h)
     |some JO=>
      obtain⟨j,b⟩:=JO;rw[yv]at bC;simp only[Bh]at bC;split at bC
      .rename_i t bc;simp only[Option.some.injEq]at bC;subst bC;simp only at h;obtain⟨fj,g8⟩:=Zm a4 bc;have Q7:∀(ej:jS C ros (fin s o.dst (.tuple [])) l K),wpOps C.P ops Q (l++l2) (a.put o.dst undef) w:=λej=>ih _ _ _ ej (Rel.skip a4 EV);split at h
       .rename_i gJ ad;have bz:=fj gJ ad;split at h
        .rename_i ab;subst ab;rw[if_pos (by simp[Region.wanted,yv,bz])];exact .inl (run _ (λ_ h=>h) h)
        .rename_i ab;rw[if_neg (by simp[Region.wanted,yv,bz,ab])];exact Q7 h
       .rename_i ad;have bz:=g8 ad;rw[if_neg (by simp[Region.wanted,yv,bz])];exact Q7 h
       .exact h.elim
      .cases bC
    .cases ag
   .cases ag
theorem Q8 (bB:C.fI) {ops:Array Oper} {ros:List cn} (uZ:sy n ops ops.toList=some (ros.map cn.un)) {K:az->Prop} (aZ:∀aI dd aQ,K aI->Rel w0 F0 X n ρ aI dd aQ->Q .normal dd aQ):
  ∀(l:arH) (s:az) (a:Act) (w:World),jS C ros s l K->Rel w0 F0 X n ρ s a w->wpOps C.P ops Q l a w:=by
 obtain⟨hl,oI⟩:=Bn uZ;intro l s a w h a4;have:=JN (Q:=Q) bB (ros:=ros) (ops:=ops) (l2:=[]) (K:=K) (n:=n) (ρ:=ρ) (w0:=w0) (F0:=F0) (X:=X) (λaI dd aQ ao ft=>aZ aI dd aQ ao ft) l (λi _=>⟨λb_=>by
   rw[List.getElem?_eq_none_iff,<-List.length_map (f:=cn.un),<-hl];have:=Array.getElem?_eq_none_iff.1 b_;simpa using this,λo b_=>by
   obtain⟨aj,kf,ag⟩:=oI i o (by simpa using b_);obtain⟨r,ae,rfl⟩:∃r,ros[i]? =some r/\r.un=aj:=by simpa using kf
   exact⟨r,ae,ag⟩⟩) s a w h a4
 rwa [List.append_nil]at this
theorem Rel.drawn (h:Rel w0 F0 X n ρ s a w) (k:Nat) (ao:w.drawn<=k):Rel w0 F0 X n ρ s a {w with drawn:=k}:=by
 obtain⟨ae,ag,bo,F,S,aK⟩:=h;exact⟨ae,ag,bo,F,S,aK.grow (λ_ _=>rfl) (Nat.le_refl _) rfl rfl ⟨rfl,λ_=>ao⟩⟩
theorem Zn (bB:C.fI) {id:Nat} {ops:Array Oper} {ros:List cn} (uZ:sy n ops ops.toList=some (ros.map cn.un)) {K:az->Prop} (aZ:∀aI dd aQ,K aI->Rel w0 F0 X n ρ aI dd aQ->Q .normal dd aQ)
  (h:m2 C s ros K) (a4:Rel w0 F0 X n ρ s a w):(Code.region id ops false).wp C.P Q a w:=by
 refine wp_region (Q8 bB uZ aZ _ s a w ?_ a4);have:=Y4 C K ros [] s h;have hl:=(Bn uZ).1;simp only[List.nil_append,List.length_nil,Nat.add_zero,List.map_id']at this;rw[List.length_map]at hl;rw[<-hl]at this;simpa using this
end
def rm (rn:arF) (l:arH):Prop:=
 l.Nodup/\(∀i,i∈l↔i<rn.length)/\∀u i v,l=u++i::v->∀e∈(rn[i]?).getD [],e∈u
def qm (ops:Array Oper):arF:=ops.toList.map λo=>(o.after.toList.filter λe=>Region.binds .any e).map (·.on)
def Bo (rn:arF):Bool:=rn.zipIdx.all λp=>p.1.all λe=>decide (e<p.2)
theorem Zo {rn:arF} (h:Bo rn=true) {i:Nat} {l:arH} (al:rn[i]? =some l):∀e∈l,e<i:=by
 intro e he;simp only[Bo,List.all_eq_true]at h;have:=h (l,i) (by rw[List.mem_zipIdx_iff_getElem?];exact al) e he;simpa using this
theorem Zp {ops:Array Oper} (ab:Bo (qm ops)=true):∀(fuel t:Nat) (hy:Array Bool),hy.size=ops.size->((List.range ops.size).filter λi=> !hy.getD i true).length<=fuel->
  (Region.linearise.go .any ops fuel t hy []).Nodup/\(∀i,i∈Region.linearise.go .any ops fuel t hy []↔(i<ops.size/\hy.getD i true=false))/\
   ∀u i v,Region.linearise.go .any ops fuel t hy []=u++i::v->∀e∈((qm ops)[i]?).getD [],hy.getD e false=true\/e∈u:=by
 intro fuel;induction fuel with
 |zero=>
  intro t hy ad hl;have A2:((List.range ops.size).filter λi=> !hy.getD i true)=[]:=List.length_eq_zero_iff.1 (le_zero.1 hl);refine⟨by simp[Region.linearise.go],λi=>?_,λu i v h=>by simp[Region.linearise.go]at h⟩;simp only[Region.linearise.go,List.reverse_nil,List.not_mem_nil,false_iff,not_and];intro al bo;have:i∈((List.range ops.size).filter λi=> !hy.getD i true):=List.mem_filter.2 ⟨List.mem_range.2 al,by rw[bo];rfl⟩;rw[A2]at this;cases this
 |succ fuel ih=>
  intro t hy ad hl;have Q9:∀i,i∈Region.ready .any ops hy↔(i<ops.size/\hy.getD i true=false/\∀e∈((qm ops)[i]?).getD [],hy.getD e false=true):=by
   intro i;simp only[Region.ready,List.mem_filter,List.mem_range,Bool.and_eq_true,Bool.not_eq_true'];constructor
   .rintro⟨ae,ag,aK⟩;refine⟨ae,ag,?_⟩;rw[Array.getElem?_eq_getElem ae]at aK;simp only[Option.map_some,Option.getD_some,Array.all_eq_true_iff_forall_mem]at aK;simp only[qm,List.getElem?_map,Array.getElem?_toList,Array.getElem?_eq_getElem ae,Option.map_some,Option.getD_some,List.mem_map,List.mem_filter];rintro e ⟨x,⟨ay,wv⟩,rfl⟩;have:=aK x (by simpa using ay);simpa [wv]using this
   .rintro⟨ae,ag,aK⟩;refine⟨ae,ag,?_⟩;rw[Array.getElem?_eq_getElem ae];simp only[Option.map_some,Option.getD_some,Array.all_eq_true_iff_forall_mem];simp only[qm,List.getElem?_map,Array.getElem?_toList,Array.getElem?_eq_getElem ae,Option.map_some,Option.getD_some,List.mem_map,List.mem_filter]at aK;intro x ay;cases wv:Region.binds .any x with
    |false=>simp
    |true=>simpa using aK x.on ⟨x,⟨by simpa using ay,wv⟩,rfl⟩
  have hex:(∃i,i<ops.size/\hy.getD i true=false)->Region.ready .any ops hy≠[]:=by
   rintro⟨i,ae,ag⟩;have:∃i,(i<ops.size/\hy.getD i true=false)/\∀j,j<i->¬(j<ops.size/\hy.getD j true=false):=by
    induction i using Nat.strongRecOn with
    |_ i Zq=>
     by_cases bP:∃j,j<i/\(j<ops.size/\hy.getD j true=false)
     .obtain⟨j,EW,Zr,Zs⟩:=bP;exact Zq j EW Zr Zs
     .exact⟨i,⟨ae,ag⟩,λj Zt ax=>bP ⟨j,Zt,ax⟩⟩
   obtain⟨k,⟨b3,cv⟩,fz⟩:=this;have:k∈Region.ready .any ops hy:=(Q9 k).2 ⟨b3,cv,λe he=>by
    cases b6:(qm ops)[k]? with
    |none=>rw[b6]at he;simp at he
    |some l=>
     rw[b6]at he;have e2:=Zo ab b6 e he;have:=fz e e2;rw[not_and]at this;have:=this (by omega);have kW:e<hy.size:=by omega
     simp only[Array.getD_eq_getD_getElem?,Array.getElem?_eq_getElem kW,Option.getD_some]at this⊢;simpa using this⟩
   intro e;rw[e]at this;cases this
  have Q_:Region.linearise.go .any ops (fuel+1) t hy []=(match(Region.ready .any ops hy)[t%(Region.ready .any ops hy).length]? with
   |some i=>Region.linearise.go .any ops fuel (t/(Region.ready .any ops hy).length) (hy.setIfInBounds i true) [i]
   |none=>[]):=rfl
  cases Bp:(Region.ready .any ops hy)[t%(Region.ready .any ops hy).length]? with
  |none=>
   have A2:Region.ready .any ops hy=[]:=by
    cases a4:Region.ready .any ops hy with
    |nil=>rfl
    |cons a l=>
     rw[a4]at Bp;have:=List.getElem?_eq_none_iff.1 Bp;have ag:=mod_lt t (show 0<(a::l).length by simp);omega
   rw[Q_,Bp];refine⟨by simp,λi=>?_,λu i v h=>by simp at h⟩;simp only[List.not_mem_nil,false_iff];intro al;exact hex ⟨i,al⟩ A2
  |some i=>
   have al:=(Q9 i).1 (List.mem_of_getElem? Bp);obtain⟨JP,Ra,Zu⟩:=al;rw[Q_,Bp];simp only;rw[linearise_go_acc];simp only[List.reverse_singleton,List.singleton_append];have uK:∀j d,(hy.setIfInBounds i true).getD j d=if j=i then true else hy.getD j d:=by
    intro j d;split
    .rename_i e;subst e;simp[Array.getD_eq_getD_getElem?,Array.getElem?_setIfInBounds_self_of_lt (show j<hy.size by omega)]
    .rename_i e;simp[Array.getD_eq_getD_getElem?,Array.getElem?_setIfInBounds_ne (λh=>e h.symm)]
   obtain⟨a2,bq,ck⟩:=ih (t/(Region.ready .any ops hy).length) (hy.setIfInBounds i true) (by simpa using ad) (by
    have gi:((List.range ops.size).filter λj=> !(hy.setIfInBounds i true).getD j true)=((List.range ops.size).filter λi=> !hy.getD i true).filter λj=>decide (j≠i):=by
     rw[List.filter_filter];apply List.filter_congr;intro j _;rw[uK];by_cases e:j=i<;>simp[e]
    rw[gi];have e2:(((List.range ops.size).filter λi=> !hy.getD i true).filter λj=>decide (j≠i)).length<((List.range ops.size).filter λi=> !hy.getD i true).length:=by
     rw[List.length_filter_lt_length_iff_exists];exact⟨i,List.mem_filter.2 ⟨List.mem_range.2 JP,by rw[Ra];rfl⟩,by simp⟩
    omega)
   refine⟨?_,λj=>?_,?_⟩
   .rw[List.nodup_cons];refine⟨λhm=>?_,a2⟩;have:=((bq i).1 hm).2;rw[uK,if_pos rfl]at this;cases this
   .rw[List.mem_cons,bq,uK];by_cases e:j=i
    .subst e;simp[JP,Ra]
    .simp[e]
   .intro u j v h e he;cases u with
    |nil=>
     simp only[List.nil_append,List.cons.injEq]at h;obtain⟨rfl,rfl⟩:=h;exact .inl (Zu e he)
    |cons wG u=>
     simp only[List.cons_append,List.cons.injEq]at h;obtain⟨rfl,h⟩:=h;rcases ck u j v h e he with bM|bM
     .rw[uK]at bM;split at bM
      .rename_i fQ;subst fQ;exact .inr (by simp)
      .exact .inl bM
     .exact .inr (by simp[bM])
theorem Zv {ops:Array Oper} (ab:Bo (qm ops)=true) (t:Nat):rm (qm ops) (Region.linearise .any ops t):=by
 have Rb:∀i d,i<ops.size->(Array.replicate ops.size false).getD i d=false:=by
  intro i d al;simp[Array.getD_eq_getD_getElem?,al]
 obtain⟨a2,bq,ck⟩:=Zp ab ops.size t (Array.replicate ops.size false) (by simp) (by
  have:=List.length_filter_le (λi=> !(Array.replicate ops.size false).getD i true) (List.range ops.size);simpa using this)
 have hlen:(qm ops).length=ops.size:=by simp[qm]
 refine⟨a2,λi=>?_,λu i v h e he=>?_⟩
 .rw[hlen];rw[show Region.linearise .any ops t=Region.linearise.go .any ops ops.size t (Array.replicate ops.size false) []from rfl,bq];exact⟨λh=>h.1,λh=>⟨h,Rb i true h⟩⟩
 .rcases ck u i v h e he with bM|bM
  .exfalso;by_cases Rc:e<ops.size
   .rw[Rb e false Rc]at bM;cases bM
   .simp[Array.getD_eq_getD_getElem?,Rc]at bM
  .exact bM
def aq:arL->az
 |[],_=>.hole
 |(u,d)::l,t=>if t=u then d else aq l t
mutual
inductive fJ:J->J->Prop
 |refl (d:J):fJ d d
 |gS (sz:Nat):fJ .au (.af sz [])
 |qn:fJ .au (.slice [])
 |any (b:Bool):fJ (.bool b) .fW
 |share (d:J):d.tree=true->(∀vs,d≠.tuple vs)->(∀o,d≠.eM o)->fJ d d.share
 |agg {ds es:arM}:lF ds es->fJ (.agg ds) (.agg es)
 |aG {d e:J}:fJ d e->fJ (.aG d) (.aG e)
 |af {sz:Nat} {ds es:arM}:lF ds es->fJ (.af sz ds) (.af sz es)
 |tuple {ds es:arM}:lF ds es->fJ (.tuple ds) (.tuple es)
 |ref {d e:J}:fJ d e->fJ (.ref d) (.ref e)
 |trans {d e f:J}:fJ d e->fJ e f->fJ d f
inductive lF:arM->arM->Prop
 |nil:lF [] []
 |cons {d e:J} {ds es:arM}:fJ d e->lF ds es->lF (d::ds) (e::es)
end
mutual
theorem fJ.wd:∀{d e:J},fJ d e->e.wd=d.wd
 |_,_,.refl _=>rfl
 |_,_,.gS _=>rfl
 |_,_,.qn=>rfl
 |_,_,.any _=>rfl
 |_,_,.share d _ _ _=>J.Ej d
 |_,_,.agg h=>by simp only[J.wd];exact lF.wd h
 |_,_,.aG _=>rfl
 |_,_,.af _=>rfl
 |_,_,.tuple h=>by simp only[J.wd];exact lF.wd h
 |_,_,.ref _=>rfl
 |_,_,.trans h k=>(fJ.wd k).trans (fJ.wd h)
theorem lF.wd:∀{ds es:arM},lF ds es->J.e1 es=J.e1 ds
 |_,_,.nil=>rfl
 |_,_,.cons h ad=>by simp only[J.e1];rw[fJ.wd h,lF.wd ad]
end
theorem lF.len {ds es:arM} (h:lF ds es):es.length=ds.length:=by
 induction ds generalizing es with
 |nil=>cases h;rfl
 |cons d ds ih=>cases h with|cons h ad=>simp[ih ad]
theorem lF.all {sz:Nat} {ds es:arM} (h:lF ds es) (ak:∀d∈ds,d.wd=sz):∀d∈es,d.wd=sz:=by
 induction ds generalizing es with
 |nil=>cases h;intro d ak;cases ak
 |cons d ds ih=>
  cases h with
  |cons h ad=>
   intro x ay;rcases List.mem_cons.1 ay with rfl|ay
   .rw[h.wd];exact ak d (by simp)
   .exact ih ad (λd hm=>ak d (by simp[hm])) x ay
section
variable {w0 w:World} {F0 X F:Nat->Prop} {S:Nat->Nat->Prop} {s aI:az} {aJ:Nat->Value}
def Zw (w:World) (F:Nat->Prop) (_d e:J) (cs:arK) (S:Nat->Prop):Prop:=
 ∃jc jd:Nat->Prop,(∀b,jc b->S b)/\(∀b,jd b->S b)/\(∀b,jd b->¬jc b)/\∀b9,(∀b,F b\/jc b->b9 b)->aD w b9 e cs jd
mutual
theorem aD.rp:∀{d e:J},fJ d e->∀{F:Nat->Prop} {cs:arK} {S:Nat->Prop},aD w F d cs S->Zw w F d e cs S
 |_,_,.refl _,F,cs,S,h=>⟨λ_=>False,S,λ_ h=>h.elim,λ_ h=>h,λ_ _ h=>h,λb9 bt=>aD.mono (λb ab=>bt b (.inl ab)) _ _ _ _ (λ_ h=>h) h⟩
 | .au,_,.gS sz,F,cs,S,h=>⟨λ_=>False,S,λ_ h=>h.elim,λ_ h=>h,λ_ _ h=>h,λb9 bt=>by simp only[aD]at h⊢;exact .inl ⟨trivial,_,h⟩⟩
 | .au,_,.qn,F,cs,S,h=>⟨λ_=>False,S,λ_ h=>h.elim,λ_ h=>h,λ_ _ h=>h,λb9 bt=>by simp only[aD]at h⊢;exact .inl ⟨trivial,none,0,h,zero_le _,λ_=>rfl⟩⟩
 | .bool _,_,.any b,F,cs,S,h=>⟨λ_=>False,S,λ_ h=>h.elim,λ_ h=>h,λ_ _ h=>h,λb9 bt=>by simp only[aD]at h⊢;exact⟨b,h⟩⟩
 |_,_,.share d _ _ _,F,cs,S,h=>⟨S,λ_=>False,λ_ h=>h,λ_ h=>h.elim,λ_ h=>h.elim,λb9 bt=>aD.shared (λb ab=>bt b (.inl ab)) d cs S (λb ab=>bt b (.inr ab)) h⟩
 |_,_,.agg kC,F,cs,S,h=>by
  rw[aD]at h;obtain⟨jc,jd,ae,ag,aK,a3⟩:=bm.rp kC h;exact⟨jc,jd,ae,ag,aK,λb9 bt=>by rw[aD];exact a3 b9 bt⟩
 |_,_,.aG ak,F,cs,S,h=>by
  rw[aD]at h;obtain⟨b,cur,ty,fr,a0,b3,cv,fz,ez,fR,dj,jO⟩:=h;obtain⟨jc,jd,ae,ag,aK,a3⟩:=aD.rp ak fR;refine⟨jc,λc=>c=b\/jd c,λc ax=>dj c (ae c ax),?_,?_,λb9 bt=>?_⟩
  .rintro c (rfl|ax)
   .exact cv
   .exact dj c (ag c ax)
  .rintro c (rfl|ax) bo
   .exact jO (ae _ bo)
   .exact aK c ax bo
  .rw[aD];exact⟨b,cur,ty,fr,jd,b3,.inl rfl,fz,ez,a3 b9 bt,λc ax=>.inr ax,λax=>jO (ag _ ax)⟩
 | .af sz ds,.af _ es,.af kC,F,cs,S,h=>by
   rw[aD]at h;have hl:=kC.len;rcases h with⟨ae,ag⟩|⟨b,cap,cur,ty,fr,a0,b3,cv,fz,ez,fR,dj,jO,dx,nU,uP,Rd⟩
   .refine⟨λ_=>False,S,λ_ h=>h.elim,λ_ h=>h,λ_ _ h=>h,λb9 _=>?_⟩;rw[aD];subst ae;exact .inl ⟨List.length_eq_zero_iff.1 (by simpa using hl),ag⟩
   .obtain⟨jc,jd,ae,ag,aK,a3⟩:=bm.rp kC nU;refine⟨jc,λc=>c=b\/jd c,λc ax=>uP c (ae c ax),?_,?_,λb9 bt=>?_⟩
    .rintro c (rfl|ax)
     .exact cv
     .exact uP c (ag c ax)
    .rintro c (rfl|ax) bo
     .exact Rd (ae _ bo)
     .exact aK c ax bo
    .rw[aD];refine .inr ⟨b,cap,cur,ty,fr,jd,by rw[hl];exact b3,.inl rfl,fz,ez,by rw[hl];exact fR,dj,jO,kC.all dx,by rw[hl];exact a3 b9 bt,λc ax=>.inr ax,λax=>Rd (ag _ ax)⟩
 |_,_,.tuple kC,F,cs,S,h=>by
  rw[aD]at h;obtain⟨jc,jd,ae,ag,aK,a3⟩:=bm.rp kC h;exact⟨jc,jd,ae,ag,aK,λb9 bt=>by rw[aD];exact a3 b9 bt⟩
 |_,_,.ref ak,F,cs,S,h=>by
  rw[aD]at h;obtain⟨b,o,fm,ae,ag,aK,a3⟩:=h;obtain⟨jc,jd,b3,cv,fz,ez⟩:=aD.rp ak a3;refine⟨λ_=>False,S,λ_ h=>h.elim,λ_ h=>h,λ_ _ h=>h,λb9 bt=>?_⟩;rw[aD];exact⟨b,o,fm,ae,bt _ (.inl ag),aK,aD.mono (λ_ h=>h) _ _ _ _ (λb ab=>cv b ab) (ez b9 λb ab=>bt b (ab.imp id λh=>(b3 b h).elim))⟩
 |_,_,.trans ak he,F,cs,S,h=>by
  obtain⟨jc,jd,ae,ag,aK,a3⟩:=aD.rp ak h;obtain⟨JQ,EX,b3,cv,fz,ez⟩:=aD.rp he (F:=λb=>F b\/jc b) (a3 _ λ_ h=>h);refine⟨λb=>jc b\/JQ b,EX,?_,λb ab=>ag b (cv b ab),?_,λb9 bt=>ez b9 λb ab=>?_⟩
  .rintro b (h|h)
   .exact ae b h
   .exact ag b (b3 b h)
  .rintro b ab (h|h)
   .exact aK b (cv b ab) h
   .exact fz b ab h
  .rcases ab with(ab|ab)|ab
   .exact bt b (.inl ab)
   .exact bt b (.inr (.inl ab))
   .exact bt b (.inr (.inr ab))
theorem bm.rp:∀{ds es:arM},lF ds es->∀{F:Nat->Prop} {cs:arK} {S:Nat->Prop},bm w F ds cs S->
  ∃jc jd:Nat->Prop,(∀b,jc b->S b)/\(∀b,jd b->S b)/\(∀b,jd b->¬jc b)/\∀b9,(∀b,F b\/jc b->b9 b)->bm w b9 es cs jd
 |_,_,.nil,F,cs,S,h=>⟨λ_=>False,λ_=>False,λ_ h=>h.elim,λ_ h=>h.elim,λ_ h=>h.elim,λb9 bt=>by rw[bm]at h⊢;exact h⟩
 |_,_,.cons ak kC,F,cs,S,h=>by
  rw[bm]at h;obtain⟨b2,cc,cA,eo,rfl,bq,ck,eE,fP,g0⟩:=h;obtain⟨Zx,Re,R,aM,bG,dM⟩:=aD.rp ak bq;obtain⟨JQ,EX,j5,ig,lB,bN⟩:=bm.rp kC ck;refine⟨λb=>Zx b\/JQ b,λb=>Re b\/EX b,?_,?_,?_,λb9 bt=>?_⟩
  .rintro b (h|h)
   .exact eE b (R b h)
   .exact fP b (j5 b h)
  .rintro b (h|h)
   .exact eE b (aM b h)
   .exact fP b (ig b h)
  .rintro b (h|h) (bM|bM)
   .exact bG b h bM
   .exact g0 b (aM b h) (j5 b bM)
   .exact g0 b (R b bM) (ig b h)
   .exact lB b h bM
  .rw[bm];refine⟨b2,cc,Re,EX,rfl,dM b9 (λb ab=>bt b (ab.imp id .inl)),bN b9 (λb ab=>bt b (ab.imp id .inr)),λb ab=>.inl ab,λb ab=>.inr ab,λb ae ag=>g0 b (aM b ae) (ig b ag)⟩
end
theorem fJ.EY:∀{d e:J},fJ d e->(∀vs,d≠.tuple vs)->∀vs,e≠.tuple vs
 |_,_,.refl _,h=>h
 |_,_,.gS _,_=>λ_ h=>by cases h
 |_,_,.qn,_=>λ_ h=>by cases h
 |_,_,.any _,_=>λ_ h=>by cases h
 |_,_,.share d _ _ _,h=>λvs he=>by cases d<;>first|(cases he;done)|exact h _ rfl
 |_,_,.agg _,_=>λ_ h=>by cases h
 |_,_,.aG _,_=>λ_ h=>by cases h
 |_,_,.af _,_=>λ_ h=>by cases h
 |_,_,.tuple _,h=>λ_ _=>h _ rfl
 |_,_,.ref _,_=>λ_ h=>by cases h
 |_,_,.trans h k,aZ=>fJ.EY k (fJ.EY h aZ)
theorem fJ.jo:∀{d e:J} {v:Value},fJ d e->(∀vs,d≠.tuple vs)->ek.jo d v->ek.jo e v
 |_,_,_,.refl _,_,h=>h
 |_,_,_,.gS _,_,h=>h
 |_,_,_,.qn,_,h=>h
 |_,_,_,.any _,_,h=>h
 |_,_,_,.share d _ aZ _,_,h=>by cases d<;>first|exact h|exact(aZ _ rfl).elim
 |_,_,_,.agg _,_,h=>h
 |_,_,_,.aG _,_,h=>h
 |_,_,_,.af _,_,h=>h
 |_,_,_,.tuple _,aZ,_=>(aZ _ rfl).elim
 |_,_,_,.ref _,_,h=>h
 |_,_,_,.trans h k,aZ,ad=>fJ.jo k (fJ.EY h aZ) (fJ.jo h aZ ad)
theorem lF.get:∀{ds es:arM},lF ds es->∀(k:Nat) (e:J),es[k]? =some e->∃d,ds[k]? =some d/\fJ d e
 |_,_,.nil,k,e,h=>by simp at h
 |_,_,.cons ak ad,0,e,h=>by simp at h;subst h;exact⟨_,rfl,ak⟩
 |_,_,.cons ak ad,k+1,e,h=>lF.get ad k e (by simpa using h)
theorem fJ.eO:∀{d e:J} {v:Value},fJ d e->ek.eO d v->ek.eO e v
 |_,_,_,.refl _,ad=>ad
 |_,_,_,.gS _,ad=>ad
 |_,_,_,.qn,ad=>ad
 |_,_,_,.any _,ad=>ad
 |_,_,_,.share _ _ oE _,ad=>Jz oE ad
 |_,_,_,.agg _,ad=>ad
 |_,_,_,.aG _,ad=>ad
 |_,_,_,.af _,ad=>ad
 |_,_,_,.ref _,ad=>ad
 |_,_,_,.tuple ak,ad=>by
  obtain⟨arr,ae,ag,aK⟩:=ad;refine⟨arr,ae,ag.trans ak.len.symm,λk e x he ay=>?_⟩;obtain⟨d,ao,hw⟩:=ak.get k e he;obtain⟨R,aM,bG⟩:=aK k d x ao ay;exact⟨hw.jo aM R,hw.EY aM,bG.trans hw.wd.symm⟩
 |_,_,_,.trans h k,ad=>fJ.eO k (fJ.eO h ad)
theorem fJ.tree:∀{d e:J},fJ d e->d.tree=true->e.tree=true
 |_,_,.refl _,ak=>ak
 |_,_,.gS _,_=>rfl
 |_,_,.qn,_=>rfl
 |_,_,.any _,_=>rfl
 |_,_,.share d _ _ nn,ak=>by cases d<;>first|exact ak|rfl|exact(nn _ rfl).elim
 |_,_,.agg _,_=>rfl
 |_,_,.aG _,_=>rfl
 |_,_,.af _,_=>rfl
 |_,_,.tuple _,_=>rfl
 |_,_,.ref _,_=>rfl
 |_,_,.trans h k,ak=>fJ.tree k (fJ.tree h ak)
mutual
def J.u0:J->arH
 | .h x q=>if q.isEmpty then []else [x]
 | .aw x _=>[x]
 | .ab x _=>[x]
 | .fn _ cap=>J.u1 cap
 |_=>[]
def J.u1:arM->arH
 |[]=>[]
 |d::ds=>d.u0++J.u1 ds
end
def Bq (s aI:az) (x:Nat) (D:arH):Prop:=aI x=s x\/aI x= .hole\/((s x).own=true/\(aI x).own=true/\x∉D)
theorem Bq.less {s aI:az} {x:Nat} {D E:arH} (h:Bq s aI x D) (JR:∀u∈E,u∈D):Bq s aI x E:=by
 rcases h with h|h|⟨ae,ag,aK⟩
 .exact .inl h
 .exact .inr (.inl h)
 .exact .inr (.inr ⟨ae,ag,λay=>aK (JR x ay)⟩)
theorem aU.fX {b9:Nat->Prop} (bt:∀b,F b->b9 b):∀n,(∀(d:J) (v:Value) (eN:Nat->Prop),SizeOf.sizeOf d<=n->(∀x∈d.ad,Bq s aI x d.u0)->aU w F s aJ d v eN->aU w b9 aI aJ d v eN)/\
  (∀(ds:arM) (vs:arK),SizeOf.sizeOf ds<=n->(∀x∈J.eJ ds,Bq s aI x (J.u1 ds))->e3 w F s aJ ds vs->e3 w b9 aI aJ ds vs):=by
 intro n;induction n with
 |zero=>
  refine⟨λd v eN ca=>?_,λds vs ca=>?_⟩
  .cases d<;>simp at ca<;>omega
  .cases ds<;>simp at ca<;>omega
 |succ n ih=>
  refine⟨λd v eN ca ao h=>?_,λds vs ca ao h=>?_⟩
  .cases d with
   |hole=>rw[aU];trivial
   |h x q=>
    rw[aU]at h⊢;intro e gi aw;rcases ao x (by simp[J.ad])with he|he|⟨oJ,Br,tA⟩
    .rw[he]at gi⊢;exact h e gi aw
    .rw[he]at gi;cases q with
     |nil=>simp only[J.sub,Option.some.injEq]at gi;subst gi;simp[J.plain]at aw
     |cons k q=>simp[J.sub]at gi
    .cases q with
     |nil=>
      simp only[J.sub,Option.some.injEq]at gi;subst gi;obtain⟨df,I,gr,hD,i7⟩:=h (s x) (by simp only[J.sub]) (wC oJ).1;simp only[eb,Option.some.injEq,Prod.mk.injEq,true_and]at gr;exact⟨cP (aJ x),none,by simp only[eb],by rw[hD,<-gr.1],((wC Br).2.2.2.2.2 _).2 (((wC oJ).2.2.2.2.2 _).1 i7)⟩
     |cons k q=>exact(tA (by simp[J.u0])).elim
   |aw x q=>
    rw[aU]at h⊢;intro e gi ax;rcases ao x (by simp[J.ad])with he|he|⟨_,_,tA⟩
    .rw[he]at gi ax⊢;exact h e gi ax
    .rw[he]at ax;cases q<;>simp[J.gD]at ax
    .exact(tA (by simp[J.u0])).elim
   |ab x k=>
    rw[aU]at h⊢;intro aw;rcases ao x (by simp[J.ad])with he|he|⟨_,_,tA⟩
    rotate_left 2
    .exact(tA (by simp[J.u0])).elim
    .rw[he]at aw;obtain⟨b,cur,e,fr,ae,ag,aK,a3⟩:=h aw;exact⟨b,cur,e,fr,ae,bt b ag,aK,a3⟩
    .rw[he]at aw;simp[J.plain]at aw
   |fn f cap=>
    rw[aU]at h⊢;obtain⟨arr,rfl,ax⟩:=h;exact⟨arr,rfl,ih.2 _ _ (by simp at ca;omega) (by simpa [J.ad,J.u0]using ao) ax⟩
   |_=>
    have bM:=(aU.c_ rfl).1 h;exact(aU.c_ rfl).2 ⟨bM.1,aD.mono bt _ _ _ _ (λ_ h=>h) bM.2⟩
  .cases ds with
   |nil=>rw[e3]at h⊢;exact h
   |cons d ds=>
    rw[e3]at h⊢;obtain⟨v,kP,rfl,ae,ag⟩:=h;simp at ca;simp only[J.eJ,List.mem_append]at ao;exact⟨v,kP,rfl,ih.1 _ _ _ (by omega) (λx ay=>(ao x (.inl ay)).less λu hu=>by simp[J.u1,hu]) ae,ih.2 _ _ (by omega) (λx ay=>(ao x (.inr ay)).less λu hu=>by simp[J.u1,hu]) ag⟩
def tB (s:az) (l:arL):Prop:=
 ∀p∈l,p.2=s p.1\/((s p.1).tree=true/\fJ (s p.1) p.2/\∀cO∈l,p.1∉cO.2.ad\/((s p.1).own=true/\p.2.own=true/\p.1∉cO.2.u0))
theorem Rf:∀(l:arL) (t:Nat),aq l t= .hole\/∃p∈l,p.1=t/\aq l t=p.2:=by
 intro l;induction l with
 |nil=>intro t;exact .inl rfl
 |cons p l ih=>
  intro t;obtain⟨u,d⟩:=p;simp only[aq];split
  .rename_i e;exact .inr ⟨(u,d),by simp,e.symm,rfl⟩
  .rcases ih t with h|⟨p,aw,h⟩
   .exact .inl h
   .exact .inr ⟨p,by simp[aw],h⟩
theorem b4.JS (h:b4 w0 F0 X F S s aJ w) {l:arL} (hw:tB s l):∃b9 a0,b4 w0 F0 X b9 a0 (aq l) aJ w:=by
 have each:∀t,∃jc jd:Nat->Prop,(∀b,jc b->S t b)/\(∀b,jd b->S t b)/\(∀b,jd b->¬jc b)/\∀b9,(∀b,F b\/jc b->b9 b)->aU w b9 (aq l) aJ (aq l t) (aJ t) jd:=by
  intro t;rcases Rf l t with e|⟨p,aw,rfl,e⟩
  .exact⟨λ_=>False,λ_=>False,λ_ h=>h.elim,λ_ h=>h.elim,λ_ h=>h.elim,λb9 _=>by rw[e,aU];trivial⟩
  .rw[e];rcases hw p aw with ao|⟨bc,l1,_⟩
   .refine⟨λ_=>False,S p.1,λ_ h=>h.elim,λ_ h=>h,λ_ _ h=>h,λb9 bt=>?_⟩;rw[ao];refine(aU.fX (λb ab=>bt b (.inl ab)) (SizeOf.sizeOf (s p.1))).1 _ _ _ (Nat.le_refl _) ?_ (h.ev p.1);intro x ay;rcases Rf l x with fQ|⟨cO,eR,rfl,fQ⟩
    .exact .inr (.inl fQ)
    .rcases hw cO eR with mv|⟨_,_,nn⟩
     .exact .inl (fQ.trans mv)
     .rcases nn p aw with nn|⟨n1,lE,pn⟩
      .exact(nn (by rw[ao];exact ay)).elim
      .exact .inr (.inr ⟨n1,by rw[fQ];exact lE,by rw[ao]at pn;exact pn⟩)
   .obtain⟨a2,bq⟩:=(aU.c_ bc).1 (h.ev p.1);obtain⟨jc,jd,b3,cv,fz,ez⟩:=aD.rp l1 bq;exact⟨jc,jd,b3,cv,fz,λb9 bt=>(aU.c_ (l1.tree bc)).2 ⟨l1.eO a2,ez b9 bt⟩⟩
 have b2:=λt=>(each t).choose_spec;let jc:=λt=>(each t).choose
 have cc:=λt=>(b2 t).choose_spec;let jd:=λt=>(b2 t).choose
 have dr:∀t b,jc t b->S t b:=λt=>(cc t).1;have dh:∀t b,jd t b->S t b:=λt=>(cc t).2.1;have hM:∀t b,jd t b->¬jc t b:=λt=>(cc t).2.2.1;have g7:=λt=>(cc t).2.2.2;refine⟨λb=>F b\/∃t,jc t b,jd,λb ab=>.inl (h.ib b ab),?_,?_,λt b ab=>h.fH t b (dh t b ab),?_,λt u b ee ab hu=>h.gu t u b ee (dh t b ab) (dh u b hu),λt b ab=>h.eN t b (dh t b ab),?_,h.old,h.size,h.os,h.tape,h.output,h.iA⟩
 .rintro b (ab|⟨t,ab⟩)
  .exact h.iz b ab
  .exact .inr (h.eN t b (dr t b ab))
 .rintro b (ab|⟨t,ab⟩)
  .exact h.gE b ab
  .exact h.fH t b (dr t b ab)
 .rintro t b ab (bo|⟨u,hu⟩)
  .exact h.gP t b (dh t b ab) bo
  .by_cases e:t=u
   .subst e;exact hM t b ab hu
   .exact h.gu t u b e (dh t b ab) (dr u b hu)
 .intro t;exact g7 t _ (λb ab=>ab.imp id λh=>⟨t,h⟩)
end
inductive aN where
 |skip
 |fK (ros:List cn) (fX:Option arH)
 |jC (ros:List cn) (rn:arF) (fX:Option arH)
 |seq (a b:aN)
 |cond (c:bl) (a b:aN)
 |block (id:Nat) (b:aN)
 |loop (b:aN)
 |exit (id:Nat)
 |ret
 |jT (T:(Exit->az->Prop)->az->Prop) (b:aN)
 |raw (c:Code)
def fY (n:Fr):Code->Option aN
 | .skip=>some .skip
 | .region id ops false=>match sy n ops ops.toList with
   |some r=>some (.fK r none)
   |none=>some (.raw (.region id ops false))
 | .region _ ops true=>if Bo (qm ops)=true then(sy n ops ops.toList).map λr=>.jC r (qm ops) none else none
 | .seq a b=>match fY n a,fY n b with
   |some a,some b=>some (.seq a b)
   |_,_=>none
 | .cond c a b=>match ei c,fY n a,fY n b with
   |some c,some a,some b=>some (.cond c a b)
   |_,_,_=>none
 | .block id b=>(fY n b).map (.block id)
 | .loop b=>(fY n b).map .loop
 | .exit id=>some (.exit id)
 | .ret=>some .ret
 |_=>none
def aN.l7:aN->aN
 | .fK ros _=>.fK ros none
 | .jC ros cK _=>.jC ros cK none
 | .seq a b=>.seq a.l7 b.l7
 | .cond c a b=>.cond c a.l7 b.l7
 | .block id b=>.block id b.l7
 | .loop b=>.loop b.l7
 | .jT T b=>.jT T b.l7
 |c=>c
def aN.strip:aN->aN
 | .fK ros _=>.fK (ros.map cn.un) none
 | .jC ros cK _=>.jC (ros.map cn.un) cK none
 | .seq a b=>.seq a.strip b.strip
 | .cond c a b=>.cond c a.strip b.strip
 | .block id b=>.block id b.strip
 | .loop b=>.loop b.strip
 | .jT _ b=>b.strip
 |c=>c
theorem aN.JT:∀c:aN,c.l7.strip=c.strip:=by
 intro c;induction c with
 |seq a b ld lf=>simp only[aN.l7,aN.strip,ld,lf]
 |cond c a b ld lf=>simp only[aN.l7,aN.strip,ld,lf]
 |block id b ih=>simp only[aN.l7,aN.strip,ih]
 |loop b ih=>simp only[aN.l7,aN.strip,ih]
 |jT T b ih=>simp only[aN.l7,aN.strip,ih]
 |_=>rfl
def aN.bare (H:((Exit->az->Prop)->az->Prop)->aN->Prop):aN->Prop
 | .fK _ k=>k=none
 | .jC _ _ k=>k=none
 | .seq a b=>a.bare H/\b.bare H
 | .cond _ a b=>a.bare H/\b.bare H
 | .block _ b=>b.bare H
 | .loop b=>b.bare H
 | .jT T b=>H T b
 |_=>True
def aN.oK (H:((Exit->az->Prop)->az->Prop)->aN->Prop):aN->Prop
 | .seq a b=>a.oK H/\b.oK H
 | .cond _ a b=>a.oK H/\b.oK H
 | .block _ b=>b.oK H
 | .loop b=>b.oK H
 | .jT T b=>H T b.l7
 |_=>True
theorem aN.EZ {H:((Exit->az->Prop)->az->Prop)->aN->Prop}:∀c:aN,c.oK H->c.l7.bare H:=by
 intro c;induction c with
 |seq a b ld lf=>intro h;exact⟨ld h.1,lf h.2⟩
 |cond c a b ld lf=>intro h;exact⟨ld h.1,lf h.2⟩
 |block id b ih=>intro h;exact ih h
 |loop b ih=>intro h;exact ih h
 |fK=>intro _;rfl
 |jC=>intro _;rfl
 |jT T b _=>intro h;exact h
 |_=>intro _;trivial
def aN.plain:aN->Bool
 | .seq a b=>a.plain&&b.plain
 | .cond _ a b=>a.plain&&b.plain
 | .block _ b=>b.plain
 | .loop b=>b.plain
 | .jT _ _=>false
 |_=>true
theorem aN.Rg {H:((Exit->az->Prop)->az->Prop)->aN->Prop}:∀c:aN,c.plain=true->c.oK H:=by
 intro c;induction c with
 |seq a b ld lf=>intro h;simp only[aN.plain,Bool.and_eq_true]at h;exact⟨ld h.1,lf h.2⟩
 |cond c a b ld lf=>intro h;simp only[aN.plain,Bool.and_eq_true]at h;exact⟨ld h.1,lf h.2⟩
 |block id b ih=>intro h;exact ih h
 |loop b ih=>intro h;exact ih h
 |jT T b _=>intro h;cases h
 |_=>intro _;trivial
def andThen (K:az->Prop) (Q:Exit->az->Prop):Exit->az->Prop
 | .normal,s=>K s
 |e,s=>Q e s
def yw (id:Nat) (Q:Exit->az->Prop):Exit->az->Prop
 | .exit i,s=>if i=id then Q .normal s else Q (.exit i) s
 |e,s=>Q e s
def eB (K:az->Prop) (s:az):Prop:=K s\/∃l,tB s l/\K (aq l)
def Bs:Option arH->(az->Prop)->az->Prop
 |none,K,s=>eB K s
 |some k,K,s=>K (aq (k.map λt=>(t,s t)))
def a6 (C:ch):aN->(Exit->az->Prop)->az->Prop
 | .skip,Q,s=>Q .normal s
 | .fK ros fX,Q,s=>m2 C s ros (Bs fX (Q .normal))
 | .jC ros rn fX,Q,s=>∀l,rm rn l->jS C ros s l (Bs fX (Q .normal))
 | .seq a b,Q,s=>a6 C a (andThen (eB (a6 C b Q)) Q) s
 | .cond c a b,Q,s=>match bs s c with
   | .bool gJ=>if gJ=true then a6 C a Q s else a6 C b Q s
   | .fW=>a6 C a Q s/\a6 C b Q s
   |_=>False
 | .block id b,Q,s=>a6 C b (yw id Q) s
 | .loop b,Q,s=>eB (λs=>∀Z:az->Prop,(∀aI,a6 C b (andThen (eB Z) Q) aI->Z aI)->Z s) s
 | .exit id,Q,s=>Q (.exit id) s
 | .ret,Q,s=>Q .ret s
 | .jT T _,Q,s=>∀fg:Exit->az->Prop,(∀e s,Q e s->fg e s)->T fg s
 | .raw _,_,_=>False
section
variable {C:ch}
theorem E0 {s:az} {o:cn} {K ej:az->Prop} (h:nw C s o K) (ao:∀s,K s->ej s):nw C s o ej:=by
 unfold nw at h⊢;split
 .rename_i bC;rw[bC]at h;exact ET h λav s1=>ao _
 .rename_i t b bC;rw[bC]at h;simp only at h;split
  .rename_i gJ ad;rw[ad]at h;simp only at h;split
   .rename_i ab;rw[if_pos ab]at h;exact ET h λav s1=>ao _
   .rename_i ab;rw[if_neg ab]at h;exact ao _ h
  .rename_i ad;rw[ad]at h;exact ao _ h
  .rename_i ae ag;split at h
   .exact ae _ (by assumption)
   .exact ag (by assumption)
   .exact h
theorem Rh {K ej:az->Prop} (ao:∀s,K s->ej s):∀{ros:List cn} {s:az},m2 C s ros K->m2 C s ros ej:=by
 intro ros;induction ros with
 |nil=>intro s h;exact ao s h
 |cons o ros ih=>intro s h;exact E0 h λs h=>ih h
theorem Ri {ros:List cn} {K ej:az->Prop} (ao:∀s,K s->ej s):∀{l:arH} {s:az},jS C ros s l K->jS C ros s l ej:=by
 intro l;induction l with
 |nil=>intro s h;exact ao s h
 |cons i l ih=>
  intro s h;simp only[jS]at h⊢;split
  .rename_i b_;rw[b_]at h;exact ih h
  .rename_i o b_;rw[b_]at h;exact E0 h λs h=>ih h
theorem yx {K ej:az->Prop} (ao:∀s,K s->ej s) (s:az) (h:eB K s):eB ej s:=
 h.imp (ao s) λ⟨l,ae,ag⟩=>⟨l,ae,ao _ ag⟩
theorem Rj {fX:Option arH} {K ej:az->Prop} (ao:∀s,K s->ej s) (s:az) (h:Bs fX K s):Bs fX ej s:=by
 cases fX with
 |none=>exact yx ao s h
 |some k=>exact ao _ h
theorem Rk {fX:Option arH} {K:az->Prop} {s:az} (h:Bs fX K s):eB K s:=by
 cases fX with
 |none=>exact h
 |some k=>
  refine .inr ⟨_,?_,h⟩;intro p aw;obtain⟨t,_,rfl⟩:=List.mem_map.1 aw;exact .inl rfl
theorem JU {K ej:az->Prop} {Q fg:Exit->az->Prop} (ao:∀s,K s->ej s) (cl:∀e s,Q e s->fg e s):∀e s,andThen K Q e s->andThen ej fg e s:=by
 intro e s h;cases e with
 |normal=>exact ao s h
 |_=>exact cl _ s h
theorem JV:∀(c:aN) {Q fg:Exit->az->Prop} {s:az},(∀e s,Q e s->fg e s)->a6 C c Q s->a6 C c fg s:=by
 intro c;induction c with
 |skip=>intro Q fg s cl h;exact cl _ _ h
 |fK ros fX=>intro Q fg s cl h;exact Rh (Rj (cl _)) h
 |jC ros rn fX=>intro Q fg s cl h l hl;exact Ri (Rj (cl _)) (h l hl)
 |seq a b ld lf=>
  intro Q fg s cl h;exact ld (JU (λs h=>yx (λ_ h=>lf cl h) s h) cl) h
 |cond c a b ld lf=>
  intro Q fg s cl h;simp only[a6]at h⊢;split
  .rename_i gJ ab;rw[ab]at h;simp only at h;split
   .rename_i e;rw[if_pos e]at h;exact ld cl h
   .rename_i e;rw[if_neg e]at h;exact lf cl h
  .rename_i ab;rw[ab]at h;exact⟨ld cl h.1,lf cl h.2⟩
  .rename_i ae ag;split at h
   .exact ae _ (by assumption)
   .exact ag (by assumption)
   .exact h
 |block id b ih=>
  intro Q fg s cl h;refine ih ?_ h;intro e s h;cases e with
  |exit i=>
   simp only[yw]at h⊢;split
   .rename_i e;rw[if_pos e]at h;exact cl _ _ h
   .rename_i e;rw[if_neg e]at h;exact cl _ _ h
  |_=>exact cl _ _ h
 |loop b ih=>
  intro Q fg s cl h;refine yx (λs h Z yy=>?_) s h;exact h Z λaI fZ=>yy aI (ih (JU (λ_ h=>h) cl) fZ)
 |exit id=>intro Q fg s cl h;exact cl _ _ h
 |ret=>intro Q fg s cl h;exact cl _ _ h
 |jT T b _=>intro Q fg s cl h Zy ag;exact h Zy λe s he=>ag e s (cl e s he)
 |raw c=>intro Q fg s cl h;exact h
theorem E1:∀(c:aN) {Q:Exit->az->Prop} {s:az},a6 C c Q s->a6 C c.l7 Q s:=by
 intro c;induction c with
 |fK ros fX=>intro Q s h;exact Rh (λs h=>Rk h) h
 |jC ros cK fX=>intro Q s h l hl;exact Ri (λs h=>Rk h) (h l hl)
 |seq a b ld lf=>intro Q s h;exact ld (JV a (JU (λs h=>yx (λ_ h=>lf h) s h) (λ_ _ h=>h)) h)
 |cond c a b ld lf=>
  intro Q s h;simp only[aN.l7,a6]at h⊢;split
  .rename_i gJ ab;rw[ab]at h;simp only at h;split
   .rename_i e;rw[if_pos e]at h;exact ld h
   .rename_i e;rw[if_neg e]at h;exact lf h
  .rename_i ab;rw[ab]at h;exact⟨ld h.1,lf h.2⟩
  .rename_i ae ag;split at h
   .exact ae _ (by assumption)
   .exact ag (by assumption)
   .exact h
 |block id b ih=>intro Q s h;exact ih h
 |loop b ih=>
  intro Q s h;refine yx (λs h Z yy=>?_) s h;exact h Z λaI fZ=>yy aI (ih fZ)
 |jT T b _=>intro Q s h;exact h
 |_=>intro Q s h;exact h
variable {w0 w:World} {F0 X:Nat->Prop} {n:Fr} {ρ:Nat->Value} {s:az} {a:Act}
def wH (w0:World) (F0 X:Nat->Prop) (n:Fr) (ρ:Nat->Value) (Q:Exit->az->Prop):Exit->Act->World->Prop:=λe a w=>∃s,Q e s/\Rel w0 F0 X n ρ s a w
theorem Rel.eB {K:az->Prop} {s:az} {a:Act} {w:World} (a4:Rel w0 F0 X n ρ s a w) (h:eB K s):∃aI,K aI/\Rel w0 F0 X n ρ aI a w:=by
 rcases h with h|⟨l,ae,ag⟩
 .exact⟨s,h,a4⟩
 .obtain⟨a2,bq,ck,F,S,eE⟩:=a4;obtain⟨b9,a0,fP⟩:=eE.JS ae;exact⟨aq l,ag,a2,bq,ck,b9,a0,fP⟩
theorem aN.Zz {c:aN} (h:c.strip= .skip):c= .skip\/∃T b,c= .jT T b:=by cases c<;>first|exact .inl rfl|exact .inr ⟨_,_,rfl⟩|cases h
theorem aN.ZA {c:aN} (h:c.strip= .ret):c= .ret\/∃T b,c= .jT T b:=by cases c<;>first|exact .inl rfl|exact .inr ⟨_,_,rfl⟩|cases h
theorem aN.ZB {c:aN} {i:Nat} (h:c.strip= .exit i):c= .exit i\/∃T b,c= .jT T b:=by cases c<;>first|exact .inl h|exact .inr ⟨_,_,rfl⟩|cases h
theorem aN.ZC {c:aN} {x:Code} (h:c.strip= .raw x):c= .raw x\/∃T b,c= .jT T b:=by cases c<;>first|exact .inl h|exact .inr ⟨_,_,rfl⟩|cases h
theorem aN.ZD {c:aN} {r:List cn} {k:Option arH} (h:c.strip= .fK r k):(∃ros cZ,c= .fK ros cZ/\ros.map cn.un=r)\/∃T b,c= .jT T b:=by
 cases c<;>first|(cases h;exact .inl ⟨_,_,rfl,rfl⟩)|exact .inr ⟨_,_,rfl⟩|cases h
theorem aN.ZE {c:aN} {r:List cn} {cK:arF} {k:Option arH} (h:c.strip= .jC r cK k):(∃ros Rl cZ,c= .jC ros Rl cZ/\ros.map cn.un=r/\Rl=cK)\/∃T b,c= .jT T b:=by
 cases c<;>first|(cases h;exact .inl ⟨_,_,_,rfl,rfl,rfl⟩)|exact .inr ⟨_,_,rfl⟩|cases h
theorem aN.ZF {c x y:aN} (h:c.strip= .seq x y):(∃a b,c= .seq a b/\a.strip=x/\b.strip=y)\/∃T b,c= .jT T b:=by
 cases c<;>first|(cases h;exact .inl ⟨_,_,rfl,rfl,rfl⟩)|exact .inr ⟨_,_,rfl⟩|cases h
theorem aN.ZG {c x y:aN} {o:bl} (h:c.strip= .cond o x y):(∃pk a b,c= .cond pk a b/\pk=o/\a.strip=x/\b.strip=y)\/∃T b,c= .jT T b:=by
 cases c<;>first|(cases h;exact .inl ⟨_,_,_,rfl,rfl,rfl,rfl⟩)|exact .inr ⟨_,_,rfl⟩|cases h
theorem aN.ZH {c x:aN} {i:Nat} (h:c.strip= .block i x):(∃a,c= .block i a/\a.strip=x)\/∃T b,c= .jT T b:=by
 cases c<;>first|(cases h;exact .inl ⟨_,rfl,rfl⟩)|exact .inr ⟨_,_,rfl⟩|cases h
theorem aN.ZI {c x:aN} (h:c.strip= .loop x):(∃a,c= .loop a/\a.strip=x)\/∃T b,c= .jT T b:=by
 cases c<;>first|(cases h;exact .inl ⟨_,rfl,rfl⟩)|exact .inr ⟨_,_,rfl⟩|cases h
theorem JW (bB:C.fI) {H:((Exit->az->Prop)->az->Prop)->aN->Prop}
  (nx:∀(c:Code) (T:(Exit->az->Prop)->az->Prop) (b:aN) (Q:Exit->az->Prop) (s:az) (a:Act) (w:World),H T b->fY n c=some b.strip->T Q s->Rel w0 F0 X n ρ s a w->c.wp C.P (wH w0 F0 X n ρ Q) a w):
  ∀(c:Code) {cR:aN} {Q:Exit->az->Prop} {s:az} {a:Act} {w:World},fY n c=some cR.strip->cR.bare H->a6 C cR Q s->Rel w0 F0 X n ρ s a w->c.wp C.P (wH w0 F0 X n ρ Q) a w:=by
 intro c;induction c with
 |skip=>
  intro cR Q s a w ad iK h a4;have l8:=ad;simp only[fY,Option.some.injEq]at ad;rcases aN.Zz ad.symm with rfl|⟨T,b,rfl⟩
  .exact wp_skip ⟨s,h,a4⟩
  .exact nx _ T b Q s a w iK (by simpa only[aN.strip]using l8) (h Q λ_ _ h=>h) a4
 |region id ops draw=>
  intro cR Q s a w ad iK h a4;have l8:=ad;cases draw with
  |false=>
   simp only[fY]at ad;split at ad
   rotate_left
   .have fZ:=(Option.some.injEq _ _▸ad).symm;rcases aN.ZC fZ with rfl|⟨T,b,rfl⟩
    .exact h.elim
    .exact nx _ T b Q s a w iK (by simpa only[aN.strip]using l8) (h Q λ_ _ h=>h) a4
   rename_i ZJ Bt;simp only[Option.some.injEq]at ad;rcases aN.ZD ad.symm with⟨ros,k,rfl,rfl⟩|⟨T,b,rfl⟩
   rotate_left
   .exact nx _ T b Q s a w iK (by simpa only[aN.strip]using l8) (h Q λ_ _ h=>h) a4
   cases iK;exact Zn bB Bt (λaI dd aQ ao ft=>ft.eB ao) h a4
  |true=>
   simp only[fY]at ad;split at ad
   .rename_i ab;simp only[Option.map_eq_some_iff]at ad;obtain⟨ZJ,Bt,ad⟩:=ad;rcases aN.ZE ad.symm with⟨ros,cK,k,rfl,rfl,rfl⟩|⟨T,b,rfl⟩
    rotate_left
    .exact nx _ T b Q s a w iK (by simpa only[aN.strip]using l8) (h Q λ_ _ h=>h) a4
    cases iK;refine wp_region_draw λt=>?_;rw[show Region.schedule (C.P.follows .mixedOrders) ops t=Region.linearise .any ops t by simp[Region.schedule,bB.mixed]];exact Q8 bB Bt (λaI dd aQ ao ft=>ft.eB ao) _ s a _ (h _ (Zv ab t)) (a4.drawn _ (by first|exact le_succ _|exact le_add_right _ _|omega))
   .cases ad
 |seq x y ZK E2=>
  intro cR Q s a w ad iK h a4;have l8:=ad;simp only[fY]at ad;split at ad
  .rename_i yo Rm ay bz;simp only[Option.some.injEq]at ad;rcases aN.ZF ad.symm with⟨cD,l4,rfl,rfl,rfl⟩|⟨T,b,rfl⟩
   rotate_left
   .exact nx _ T b Q s a w iK (by simpa only[aN.strip]using l8) (h Q λ_ _ h=>h) a4
   refine wp_seq (wp_mono (ZK ay iK.1 h a4) ?_);rintro e dd aQ ⟨aI,bM,ft⟩;cases e with
   |normal=>
    obtain⟨aI,bM,ft⟩:=ft.eB bM;exact E2 bz iK.2 bM ft
   |_=>exact⟨aI,bM,ft⟩
  .cases ad
 |cond x y z E2 Rn=>
  intro cR Q s a w ad iK h a4;have l8:=ad;simp only[fY]at ad;split at ad
  .rename_i yo Rm sz ay bz ca;simp only[Option.some.injEq]at ad;rcases aN.ZG ad.symm with⟨cD,l4,tm,rfl,rfl,rfl,rfl⟩|⟨T,b,rfl⟩
   rotate_left
   .exact nx _ T b Q s a w iK (by simpa only[aN.strip]using l8) (h Q λ_ _ h=>h) a4
   have ft:=a4;obtain⟨ak,e4,bo,F,S,rk⟩:=ft;have aE:=(gj (a:=a) rk (λ_=>rfl) ay).2;simp only[a6]at h;split at h
   .rename_i gJ ab;rw[ab]at aE;have:=uL aE;refine wp_cond this ?_;split
    .rename_i e;rw[if_pos e]at h;exact E2 bz iK.1 h a4
    .rename_i e;rw[if_neg e]at h;exact Rn ca iK.2 h a4
   .rename_i ab;rw[ab]at aE;obtain⟨gJ,nR⟩:=PZ aE;refine wp_cond nR ?_;split
    .exact E2 bz iK.1 h.1 a4
    .exact Rn ca iK.2 h.2 a4
   .exact h.elim
  .cases ad
 |block id b ih=>
  intro cR Q s a w ad iK h a4;have l8:=ad;simp only[fY,Option.map_eq_some_iff]at ad;obtain⟨A3,ab,ad⟩:=ad;rcases aN.ZH ad.symm with⟨gJ,rfl,rfl⟩|⟨T,b,rfl⟩
  rotate_left
  .exact nx _ T b Q s a w iK (by simpa only[aN.strip]using l8) (h Q λ_ _ h=>h) a4
  refine wp_block (wp_mono (ih ab iK h a4) ?_);rintro e dd aQ ⟨aI,bM,ft⟩;cases e with
  |exit i=>
   simp only[yw]at bM;simp only[Exit.inBlock];split
   .rename_i e;rw[if_pos e]at bM;exact⟨aI,bM,ft⟩
   .rename_i e;rw[if_neg e]at bM;exact⟨aI,bM,ft⟩
  |_=>exact⟨aI,bM,ft⟩
 |loop b ih=>
  intro cR Q s a w ad iK h a4;have l8:=ad;simp only[fY,Option.map_eq_some_iff]at ad;obtain⟨A3,ab,ad⟩:=ad;rcases aN.ZI ad.symm with⟨gJ,rfl,rfl⟩|⟨T,b,rfl⟩
  rotate_left
  .exact nx _ T b Q s a w iK (by simpa only[aN.strip]using l8) (h Q λ_ _ h=>h) a4
  obtain⟨s,h,a4⟩:=a4.eB h;have key:=h (λs=>∀a w,Rel w0 F0 X n ρ s a w->∀(f:Frame) (k:List Item) (cs:List Frame),∃e dd aQ,wH w0 F0 X n ρ Q e dd aQ/\Arrives C.P (lone (f.at a (.code b:: .inLoop b::k)) cs w) f k cs e dd aQ) ?_
  .intro f k cs;obtain⟨e,dd,aQ,cl,u2⟩:=key a w a4 f k cs;exact⟨e,dd,aQ,cl,.of_steps (.one step_loop) u2⟩
  .intro aI fZ a w a4 f k cs;obtain⟨e,a₁,w₁,⟨s1,cl,u3⟩,u2⟩:=ih ab iK fZ a4 f (.inLoop b::k) cs;cases e with
   |normal=>
    simp only[andThen]at cl;obtain⟨s1,cl,u3⟩:=u3.eB cl;obtain⟨e₂,a₂,w₂,hq₂,harr₂⟩:=cl a₁ w₁ u3 f k cs;exact⟨e₂,a₂,w₂,hq₂,.of_steps (Steps.trans u2 (.one step_inLoop)) harr₂⟩
   |exit id=>exact⟨_,a₁,w₁,⟨s1,cl,u3⟩,.pass (x:=.inLoop b) rfl (λ_ _=>.inl (by simp)) u2⟩
   |goto l=>exact⟨_,a₁,w₁,⟨s1,cl,u3⟩,.pass (x:=.inLoop b) rfl (λ_ _=>.inl (by simp)) u2⟩
   |ret=>exact⟨_,a₁,w₁,⟨s1,cl,u3⟩,.pass (x:=.inLoop b) rfl (λ_ _=>.inl (by simp)) u2⟩
   |panic apD=>exact⟨_,a₁,w₁,⟨s1,cl,u3⟩,.pass (x:=.inLoop b) rfl (λ_ _=>.inl (by simp)) u2⟩
   |outgrown=>exact⟨_,a₁,w₁,⟨s1,cl,u3⟩,.pass (x:=.inLoop b) rfl (λ_ _=>.inl (by simp)) u2⟩
 |exit id=>
  intro cR Q s a w ad iK h a4;have l8:=ad;simp only[fY,Option.some.injEq]at ad;rcases aN.ZB ad.symm with rfl|⟨T,b,rfl⟩
  .exact wp_exit ⟨s,h,a4⟩
  .exact nx _ T b Q s a w iK (by simpa only[aN.strip]using l8) (h Q λ_ _ h=>h) a4
 |ret=>
  intro cR Q s a w ad iK h a4;have l8:=ad;simp only[fY,Option.some.injEq]at ad;rcases aN.ZA ad.symm with rfl|⟨T,b,rfl⟩
  .exact wp_ret ⟨s,h,a4⟩
  .exact nx _ T b Q s a w iK (by simpa only[aN.strip]using l8) (h Q λ_ _ h=>h) a4
 |_=>intro cR Q s a w ad;simp[fY]at ad
theorem Ro (bB:C.fI) (c:Code) {cR:aN} {Q:Exit->az->Prop} {s:az} {a:Act} {w:World} (ad:fY n c=some cR.strip) (ab:cR.bare (λ_ _=>False)) (h:a6 C cR Q s) (a4:Rel w0 F0 X n ρ s a w):c.wp C.P (wH w0 F0 X n ρ Q) a w:=
 JW bB (λ_ _ _ _ _ _ _ bo=>bo.elim) c ad ab h a4
end
def km:ResultVar->Nat
 | .tmp t=>t
 | .cell a _=>a
def rq (C:ch) (s:az):ResultVar->Option J
 | .tmp t=>if(s t).tree=true then(match s t with| .tuple _=>none|d=>some d)else none
 | .cell a T=>match s a with
   | .aG d=>if fits C T d=true/\d.tree=true then some d else none
   |_=>none
def JX (C:ch) (fx:arH) (fD:List ResultVar) (r:J) (outs:arM) (s:az):Prop:=
 ∃ds,fD.map (rq C s)=ds.map some/\r=(match ds with|[d]=>d|ds=>.tuple ds)/\(fD.map km).Nodup/\
  ∀(i:Nat) (o:J),outs[i]? =some o->o= .hole\/(o=s i/\o.hv=true/\i∈fx/\i∉fD.map km)
def Ends (C:ch) (fx:arH) (fD:List ResultVar) (r:J) (outs:arM) (s:az):Prop:=
 JX C fx fD r outs s\/∃t y q d s1,s t= .h y q/\dq s (.h y q)=some (d,s1)/\JX C fx fD r outs (fin s1 (some t) d)
theorem b4.takes {w0 w:World} {F0 X F:Nat->Prop} {S:Nat->Nat->Prop} {s s1:az} {aJ:Nat->Value} {t y:Nat} {q:arH} {d:J} (a4:b4 w0 F0 X F S s aJ w) (ae:s t= .h y q) (ag:dq s (.h y q)=some (d,s1)):
  ∃a0,b4 w0 F0 X F a0 (ek.fin s1 (some t) d) aJ w:=by
 have ad:=a4.ev t;rw[ae,aU]at ad;obtain⟨cA,k0,b3,cv,Sn,fz,ez,fR,dj,jO,_⟩:=qY a4 (av:=.h y q) (v:=aJ t) rfl (by rw[aU];exact ad) ag;obtain⟨a0,bM⟩:=k0.fin (.inr ⟨b3,cv,Sn,fz,ez,fR,dj,jO⟩) (some t);refine⟨a0,?_⟩;have e:pe aJ (some t) (aJ t)=aJ:=by
  funext u;simp only[pe,dY];split
  .rename_i h;rw[h]
  .rfl
 rwa [e]at bM
section
variable {C:ch} {w0 w:World} {F0 X F:Nat->Prop} {S:Nat->Nat->Prop} {s:az} {tmps:Array Value}
theorem Rp {d:J} {x:Value} (ak:∀vs,d≠.tuple vs) (h:eO d x):cP x=jn x/\jo d x:=by
 have:jo d x:=by cases d<;>first|exact h|exact(ak _ rfl).elim
 refine⟨?_,this⟩;cases d<;>first
  |(obtain⟨a,rfl⟩:=this;rfl)
  |(simp only[jo]at this
    rw[hX this];cases x<;>first|rfl|(simp[Value.hp]at this))
def Bu (tmps:Array Value):ResultVar->Sem Value
 | .tmp t=>pure (tmps.getD t undef)
 | .cell a t=>do loadVar t (<-asAddr (tmps.getD a undef))
theorem ZL (bB:C.fI) (h:b4 w0 F0 X F S s (λt=>tmps.getD t undef) w) {v:ResultVar} {d:J} (aE:rq C s v=some d):
  ∃x,(Bu tmps v).run C.P w= .ok x w/\d.tree=true/\(∀vs,d≠.tuple vs)/\eO d x/\aD w F d (cP x) (S (km v)):=by
 cases v with
 |tmp t=>
  simp only[rq]at aE;split at aE
  .rename_i bc;have oE:(∀vs,s t≠.tuple vs)/\d=s t:=by
    cases ad:s t<;>rw[ad]at aE<;>simp only at aE<;>first
     |(cases aE;done)
     |(simp only[Option.some.injEq]at aE;exact⟨(λ_ h=>by cases h),aE.symm⟩)
   obtain⟨oE,rfl⟩:=oE;obtain⟨a2,bq⟩:=(aU.c_ bc).1 (h.ev t);exact⟨_,by simp[Bu],bc,oE,a2,bq⟩
  .cases aE
 |cell a T=>
  simp only[rq]at aE;split at aE
  .rename_i e ad;split at aE
   .rename_i ZM;obtain⟨i_,ZN⟩:=ZM;simp only[Option.some.injEq]at aE;subst aE;have kk:=h.ev a;rw[ad]at kk;obtain⟨a2,bq⟩:=(aU.c_ (d:=.aG e) rfl).1 kk;rw[hX a2,aD]at bq;obtain⟨b,cur,ty,fr,a0,b3,cv,fz,ez,fR,dj,jO⟩:=bq;simp only[List.cons.injEq,and_true]at b3;have k5:iV w b 0 cur.toList:=by
     have:=x_ fz cur.size
     rwa [List.take_of_length_le (by simp)]at this
    obtain⟨x,dT,bb,dt⟩:=Es (C:=C) bB k5 fR i_;refine⟨x,?_,ZN,?_,dt,?_⟩
    .simp only[Bu];rw[b3];simpa [asAddr]using dT
    .intro vs fQ;subst fQ;unfold fits at i_;split at i_<;>simp_all
    .rw[bb];exact aD.mono (λ_ h=>h) _ _ _ _ dj fR
   .cases aE
  .cases aE
theorem ZO (bB:C.fI) (h:b4 w0 F0 X F S s (λt=>tmps.getD t undef) w):∀(fD:List ResultVar) (ds:arM),fD.map (rq C s)=ds.map some->(fD.map km).Nodup->
  ∃xs,(fD.mapM (Bu tmps)).run C.P w= .ok xs w/\xs.length=ds.length/\bm w F ds (xs.flatMap jn) (λb=>∃t∈fD.map km,S t b)/\
   ∀(k:Nat) (d:J) (x:Value),ds[k]? =some d->xs[k]? =some x->eO d x/\(∀vs,d≠.tuple vs)/\(jn x).length=d.wd/\cP x=jn x/\d.tree=true:=by
 intro fD;induction fD with
 |nil=>
  intro ds he _;have:ds=[]:=by simpa using he.symm
  subst this;exact⟨[],by simp,rfl,by simp only[List.flatMap_nil];rw[bm],λk d x ak=>by simp at ak⟩
 |cons v fD ih=>
  intro ds he yz;cases ds with
  |nil=>simp at he
  |cons d ds=>
   simp only[List.map_cons,List.cons.injEq]at he;simp only[List.map_cons,List.nodup_cons]at yz;obtain⟨x,dT,rt,bb,dt,bX⟩:=ZL bB h he.1;obtain⟨xs,dr,dh,hM,g7⟩:=ih ds he.2 yz.2;obtain⟨aW,a8⟩:=Rp bb dt;refine⟨x::xs,by simp[List.mapM_cons,dT,dr],by simp[dh],?_,?_⟩
   .simp only[List.flatMap_cons];rw[bm];rw[aW]at bX;refine⟨jn x,xs.flatMap jn,S (km v),λb=>∃t∈fD.map km,S t b,rfl,bX,hM,λb ab=>⟨km v,by simp,ab⟩,?_,?_⟩
    .rintro b ⟨t,bc,ab⟩;exact⟨t,by simp[bc],ab⟩
    .rintro b ab ⟨t,bc,nR⟩;have:t≠km v:=λe=>yz.1 (e▸bc);exact h.gu t (km v) b this nR ab
   .intro k bE cD ak ay;cases k with
    |zero=>
     simp at ak ay;subst ak ay;refine⟨dt,bb,?_,aW,rt⟩;rw[<-aW];exact aD.length _ _ _ bX
    |succ k=>exact g7 k bE cD (by simpa using ak) (by simpa using ay)
theorem JY (bB:C.fI) {f:FuncId} {fn:Func} {c:Code} {fx:arH} {as outs:arM} {r:J} (bo:C.P.funcs[f]? =some fn) (ab:fn.body=some c)
  (lg:(fn.name== "runtime.NumGoroutine")=false) (aZ:as.length<=fn.ntmps)
  {w:World} {F X:Nat->Prop} {S:Nat->Nat->Prop} {vs:arK} (hl:vs.length=as.length) (a4:b4 w F X F S (gK as) (iD vs) w)
  (JZ:∀a,Rel w F X ⟨fn.ntmps,fx⟩ (iD vs) (gK as) a w->(∀t,a.tmps.getD t undef=iD vs t)->c.wp C.P (wH w F X ⟨fn.ntmps,fx⟩ (iD vs) (λe s=>(e= .normal\/e= .ret)/\eB (Ends C fx fn.results.toList r outs) s)) a w):
  qh C.P f vs.toArray w λv aQ=>∃b9 a0,b4 w F X b9 a0 (gK (r::outs)) (iD (v::vs)) aQ:=by
 have oD:(vs.toArray++Array.replicate (fn.ntmps-vs.toArray.size) undef).size=fn.ntmps:=by simp;omega
 have e9:(λt=>(vs.toArray++Array.replicate (fn.ntmps-vs.toArray.size) undef).getD t undef)=iD vs:=by
  funext t;simp only[iD,Array.getD_eq_getD_getElem?,List.getD_eq_getElem?_getD];by_cases bc:t<vs.length
  .rw[Array.getElem?_append_left (by simpa using bc)];simp
  .rw[Array.getElem?_append_right (by simpa using bc)];rw[List.getElem?_eq_none (by omega)];simp only[Array.getElem?_replicate];split<;>rfl
 have rk:Rel w F X ⟨fn.ntmps,fx⟩ (iD vs) (gK as) {tmps:=vs.toArray++Array.replicate (fn.ntmps-vs.toArray.size) undef,defers:=[]} w:=
  ⟨rfl,oD,λi _=>congrFun e9 i,F,S,by rw[e9];exact a4⟩
 have J0:fn.name≠ "runtime.NumGoroutine" :=by simpa using lg
 refine .inl ⟨by simp[callFunc,bo,J0,ab],calls_of_wp bo ab (wp_mono (JZ _ rk (congrFun e9)) ?_)⟩;rintro e dd aQ ⟨aI,⟨he,ZP⟩,ZQ⟩;obtain⟨aI,⟨ds,kC,Rq,yz,wb⟩,ak,e4,iv,b9,a0,ft⟩:∃aI,JX C fx fn.results.toList r outs aI/\Rel w F X ⟨fn.ntmps,fx⟩ (iD vs) aI dd aQ:=by
  obtain⟨aI,he,Rr⟩:=ZQ.eB ZP;rcases he with he|⟨t,y,q,d,s1,ae,ag,he⟩
  .exact⟨aI,he,Rr⟩
  .obtain⟨a2,bq,ck,F,S,eE⟩:=Rr;obtain⟨a0,fP⟩:=eE.takes ae ag;exact⟨_,he,a2,bq,ck,F,a0,fP⟩
 obtain⟨xs,dr,dh,hM,g7⟩:=ZO bB ft _ ds kC yz;have ZR:(results fn dd.tmps)=(do let vs<-fn.results.mapM (Bu dd.tmps);pure (if h:vs.size=1 then vs[0]else .tuple vs)):=by
  unfold results;congr 1
 have wi:(results fn dd.tmps).run C.P aQ= .ok (if h:xs.toArray.size=1 then xs.toArray[0]else .tuple xs.toArray) aQ:=by
  rw[ZR,Array.mapM_eq_mapM_toList];simp[dr]
 have sA:(r.tree=true/\eO r (if h:xs.toArray.size=1 then xs.toArray[0]else .tuple xs.toArray)/\
   aD aQ b9 r (cP (if h:xs.toArray.size=1 then xs.toArray[0]else .tuple xs.toArray)) (λb=>∃t∈fn.results.toList.map km,a0 t b)):=by
  by_cases ae:∃d,ds=[d]
  .obtain⟨d,rfl⟩:=ae;obtain⟨x,rfl⟩:∃x,xs=[x]:=by
    cases xs with
    |nil=>simp at dh
    |cons x xs=>cases xs with
     |nil=>exact⟨x,rfl⟩
     |cons y c7=>simp at dh
   obtain⟨b3,cv,fz,ez,fR⟩:=g7 0 d x rfl rfl;have ZS:d=r:=Rq.symm;subst ZS;simp only[List.flatMap_cons,List.flatMap_nil,List.append_nil]at hM;rw[bm]at hM;obtain⟨b2,cc,cA,eo,aW,a8,aY,bT,cF,cj⟩:=hM;rw[bm]at aY;subst aY;simp only[List.append_nil]at aW;subst aW;have ay:(if h:([x]:arK).toArray.size=1 then([x]:arK).toArray[0]else .tuple ([x]:arK).toArray)=x:=by simp
   rw[ay,ez];exact⟨fR,b3,aD.mono (λ_ h=>h) _ _ _ _ bT a8⟩
  .have E3:r= .tuple ds:=by
    rw[Rq];cases ds with
    |nil=>rfl
    |cons d ds=>cases ds with
     |nil=>exact(ae ⟨d,rfl⟩).elim
     |cons e ds=>rfl
   have ay:(if h:xs.toArray.size=1 then xs.toArray[0]else Value.tuple xs.toArray)= .tuple xs.toArray:=by
    rw[dif_neg];intro e4;have:ds.length=1:=by rw[<-dh];simpa using e4
    obtain⟨d,ak⟩:=List.length_eq_one_iff.1 this;exact ae ⟨d,ak⟩
   rw[ay,E3];refine⟨rfl,⟨xs.toArray,rfl,by simpa using dh,λk d x ak ay=>?_⟩,?_⟩
   .obtain⟨b3,cv,fz,ez,_⟩:=g7 k d x ak (by simpa using ay);exact⟨(Rp cv b3).2,cv,fz⟩
   .rw[aD];simpa [cP]using hM
 have post:∀(v:Value),(r.tree=true/\eO r v/\aD aQ b9 r (cP v) (λb=>∃t∈fn.results.toList.map km,a0 t b))->∃yu cA,b4 w F X yu cA (gK (r::outs)) (iD (v::vs)) aQ:=by
  rintro v ⟨v1,v2,sB⟩;have J1:∀i,(outs.getD i .hole).hv=true->outs.getD i .hole=aI i/\i∈fx/\i∉fn.results.toList.map km:=by
   intro i al;cases b_:outs[i]? with
   |none=>simp[List.getD,b_,J.hv]at al
   |some o=>
    have e:outs.getD i .hole=o:=by simp[List.getD,b_]
    rw[e]at al⊢;rcases wb i o b_ with h|h
    .subst h;simp[J.hv]at al
    .exact⟨h.1,h.2.2⟩
  refine⟨b9,λt b=>match t with|0=>∃t∈fn.results.toList.map km,a0 t b|i+1=>(outs.getD i .hole).hv=true/\a0 i b,ft.ib,ft.iz,ft.gE,?_,?_,?_,?_,?_,ft.old,ft.size,ft.os,ft.tape,ft.output,a4.iA⟩
  .intro t b ab;cases t with
   |zero=>obtain⟨t,_,ab⟩:=ab;exact ft.fH t b ab
   |succ i=>exact ft.fH i b ab.2
  .intro t b ab;cases t with
   |zero=>obtain⟨t,_,ab⟩:=ab;exact ft.gP t b ab
   |succ i=>exact ft.gP i b ab.2
  .intro t u b ee ab hu;cases t with
   |zero=>
    obtain⟨t,bc,ab⟩:=ab;cases u with
    |zero=>exact ee rfl
    |succ j=>
     refine ft.gu t j b (λe=>?_) ab hu.2;subst e;exact(J1 t hu.1).2.2 bc
   |succ i=>
    cases u with
    |zero=>
     obtain⟨t,bc,hu⟩:=hu;refine ft.gu t i b (λe=>?_) hu ab.2;subst e;exact(J1 t ab.1).2.2 bc
    |succ j=>exact ft.gu i j b (by omega) ab.2 hu.2
  .intro t b ab;cases t with
   |zero=>obtain⟨t,_,ab⟩:=ab;exact ft.eN t b ab
   |succ i=>exact ft.eN i b ab.2
  .intro t;cases t with
   |zero=>exact(aU.c_ v1).2 ⟨v2,sB⟩
   |succ i=>
    show aU aQ b9 (gK (r::outs)) (iD (v::vs)) (outs.getD i .hole) (vs.getD i undef) (λb=>(outs.getD i .hole).hv=true/\a0 i b);cases al:(outs.getD i .hole).hv with
    |false=>
     have:outs.getD i .hole= .hole:=by
      cases b_:outs[i]? with
      |none=>simp[List.getD,b_]
      |some o=>
       have e:outs.getD i .hole=o:=by simp[List.getD,b_]
       rw[e]at al⊢;rcases wb i o b_ with h|h
       .exact h
       .rw[h.2.1]at al;cases al
     rw[this,aU];trivial
    |true=>
     obtain⟨n1,lE,pn⟩:=J1 i al;have bc:=(uW al).2.1;have kk:=ft.ev i;rw[<-n1]at kk;obtain⟨a2,bq⟩:=(aU.c_ bc).1 kk;have aE:dd.tmps.getD i undef=vs.getD i undef:=iv i lE;rw[aE]at a2 bq;exact(aU.c_ bc).2 ⟨a2,aD.mono (λ_ h=>h) _ _ _ _ (λb ab=>⟨rfl,ab⟩) bq⟩
 rcases he with rfl|rfl
 .exact⟨ak,_,wi,_,rfl,post _ sA⟩
 .exact⟨ak,_,wi,_,rfl,post _ sA⟩
theorem ba.of_wp (bB:C.fI) {f:FuncId} {fn:Func} {c:Code} {cR:aN} {fx:arH} {as outs:arM} {r:J} (bo:C.P.funcs[f]? =some fn) (ab:fn.body=some c)
  (lg:(fn.name== "runtime.NumGoroutine")=false) (ad:fY ⟨fn.ntmps,fx⟩ c=some cR.strip) (aZ:as.length<=fn.ntmps)
  (h:a6 C cR (λe s=>(e= .normal\/e= .ret)/\eB (Ends C fx fn.results.toList r outs) s) (gK as)) (aw:cR.plain=true:=by kernel_rfl):ba C f as r outs:=
 λw F X S vs hl a4=>JY bB bo ab lg aZ hl a4 λa rk _=>Ro bB c (by rw[aN.JT];exact ad) (aN.EZ cR (aN.Rg cR aw)) (E1 cR h) rk
end
def num:Nat->arM->arL
 |_,[]=>[]
 |k,a::as=>(k,a)::num (k+1) as
theorem ZT:∀(as:arM) (k t:Nat),aq (num k as) (k+t)=as.getD t .hole:=by
 intro as;induction as with
 |nil=>intro k t;simp[num,aq]
 |cons a as ih=>
  intro k t;cases t with
  |zero=>simp[num,aq]
  |succ t=>
   have:=ih (k+1) t;simp only[num,aq];rw[if_neg (by omega)];rw[show k+(t+1)=k+1+t by omega,this];simp
theorem Bv (as:arM):gK as=aq (num 0 as):=by
 funext t;have:=ZT as 0 t;rw[Nat.zero_add]at this;rw[this];rfl
theorem Bw (l:arL) (t:Nat) (d:J):dY (aq l) t d=aq ((t,d)::l):=by
 funext u;simp only[dY,aq]
def tC (t:Nat):arL->arL
 |[]=>[]
 |(u,d)::l=>(u,dg t d)::tC t l
def wI (t:Nat):arL->arL
 |[]=>[]
 |(u,d)::l=>(u,cB t d)::wI t l
theorem J2 (t:Nat):∀l:arL,nk t (aq l)=aq (tC t l):=by
 intro l;funext u;induction l with
 |nil=>rfl
 |cons p l ih=>
  obtain⟨v,d⟩:=p;simp only[nk,aq,tC]at ih⊢;split
  .rfl
  .exact ih
theorem ZU (t:Nat):∀l:arL,hq t (aq l)=aq (wI t l):=by
 intro l;funext u;induction l with
 |nil=>rfl
 |cons p l ih=>
  obtain⟨v,d⟩:=p;simp only[hq,aq,wI]at ih⊢;split
  .rfl
  .exact ih
def gz (k:arH) (s:az):arL:=k.map λt=>(t,s t)
section
variable {C:ch} {l:arL}
def eP.je:eP->Bool
 | .call _ _=>true
 | .hF _=>false
 | .mY _=>false
 | .pick _ _ _=>false
 | .lz _=>false
 | .ic _ _=>false
 | .ey _ _=>false
 | .dz _ _ _=>false
 | .fo _ _=>false
 | .j2 _ _ _=>false
 | .j6 _=>false
 | .ff _ _ _ _=>false
 | .un _ _=>false
 | .j7 _ _ _=>false
 | .nW _ _=>false
 | .fi _ _ _=>false
 | .gR _ _ _ _=>false
 | .gQ _ _ _=>false
 | .j0 _ _ _=>false
 | .idx _ _ _=>false
 | .ex _ _=>false
 | .nT _ _ _=>false
 | .len _ _=>false
 | .app _ _ _ _=>false
 | .shr _=>true
 | .jP _ _ _ _=>false
 | .cap _ _=>false
 | .jQ _ _ _=>false
 | .bad=>false
 | .la _ _ _=>true
 | .kA _ _=>false
 | .nY _=>false
 | .nZ _=>false
 | .Ba=>false
 | .qd _ _ _=>false
 | .oC _ _ _ _=>false
variable {Q:Exit->az->Prop}
def J.Bx:J->Bool
 | .tuple _=>true
 |_=>false
theorem Ends.one {fx:arH} {t:Nat} {r:J} {s:az} (ae:s t=r) (ag:(r.tree&& !r.Bx)=true):Ends C fx [.tmp t] r [] s:=by
 simp only[Bool.and_eq_true,Bool.not_eq_true']at ag;obtain⟨ag,E4⟩:=ag;have aK:∀vs,r≠.tuple vs:=λvs e=>by subst e;simp[J.Bx]at E4
 refine .inl ⟨[r],?_,rfl,by simp,λi o h=>by simp at h⟩;have:rq C s (.tmp t)=some r:=by
  simp only[rq,ae,ag,if_true];try (cases r<;>first|rfl|exact(aK _ rfl).elim)
 simp only[List.map_cons,List.map_nil,this]
end
section
variable {C:ch} {l:arL} {Q:Exit->az->Prop}
theorem ba.outs {f:FuncId} {as:arM} {r:J} {n1 lE:arM} (h:ba C f as r n1) (he:gK n1=gK lE):ba C f as r lE:=by
 intro w F X S vs hl a4;refine qh.mono (h w F X S vs hl a4) ?_;rintro v aQ ⟨b9,a0,bM⟩;refine⟨b9,a0,?_⟩;have:gK (r::lE)=gK (r::n1):=by
  funext t;cases t with
  |zero=>rfl
  |succ t=>exact(congrFun he t).symm
 rw[this];exact bM
def n3:arM->arM->List c8
 |a::as,d::ds=>⟨a,false,d,.hole⟩::n3 as ds
 |_,_=>[]
theorem ZV {s:az}:∀(as ds:arM),views s as=some ds->(n3 as ds).map (·.a)=as/\(n3 as ds).map (·.d)=ds/\(∀p∈n3 as ds,p.ok s/\p.g=false/\p.o= .hole/\p.a∈as)/\jb (n3 as ds)=true/\
  gK ((n3 as ds).map (·.o))=gK []/\(∀tD,fT tD (n3 as ds)=tD)/\(∀tD,iC tD (n3 as ds)=tD):=by
 intro as;induction as with
 |nil=>
  intro ds h;simp only[views,Option.some.injEq]at h;subst h;exact⟨rfl,rfl,(λp aw=>by cases aw),rfl,rfl,λ_=>rfl,λ_=>rfl⟩
 |cons a as ih=>
  intro ds h;simp only[views]at h;split at h
  .rename_i d ZW ae ag;simp only[Option.some.injEq]at h;subst h;obtain⟨aW,a8,aY,bT,cF,cj,b0⟩:=ih ZW ag;refine⟨by simp only[n3,List.map_cons,aW],by simp only[n3,List.map_cons,a8],?_,?_,?_,?_,?_⟩
   .intro p aw;simp only[n3,List.mem_cons]at aw;rcases aw with rfl|aw
    .exact⟨by simp only[c8.ok];exact ae,rfl,rfl,by simp⟩
    .obtain⟨a2,bq,ck,eE⟩:=aY p aw;exact⟨a2,bq,ck,by simp[eE]⟩
   .simp only[n3,jb,bT,Bool.and_true,List.all_eq_true];intro p aw;simp[(aY p aw).2.1]
   .funext t;cases t with
    |zero=>rfl
    |succ t=>exact(congrFun cF t).trans (by simp[gK])
   .intro tD;exact cj tD
   .intro tD;exact b0 tD
  .cases h
end
structure f_ where
 cC:arH
 H:arH
 T:arH
 c:Bool
mutual
def J.clean:J->Bool
 | .hole=>false
 | .fn _ cap=>J.yA cap
 |_=>true
def J.yA:arM->Bool
 |[]=>true
 |d::ds=>d.clean&&J.yA ds
end
mutual
theorem Rs {x:Nat}:∀a:J,(cB x a).clean=true->cB x a=a
 | .h y q,h=>by
   simp only[cB]at h⊢;split
   .rename_i e;rw[if_pos e]at h;split
    .rfl
    .rename_i fQ;rw[if_neg fQ]at h;simp[J.clean]at h
   .rfl
 | .aw y q,h=>by
   simp only[cB]at h⊢;split
   .rename_i e;rw[if_pos e]at h;simp[J.clean]at h
   .rfl
 | .ab y q,h=>rfl
 | .fn f cap,h=>by simp only[cB,J.clean]at h⊢;rw[Rt cap h]
 | .hole,_=>rfl
 | .bool _,_=>rfl
 | .fW,_=>rfl
 | .int _ _,_=>rfl
 | .str _,_=>rfl
 | .eh,_=>rfl
 | .au,_=>rfl
 | .slice _,_=>rfl
 | .af _ _,_=>rfl
 | .ref _,_=>rfl
 | .aG _,_=>rfl
 | .agg _,_=>rfl
 | .tuple _,_=>rfl
 | .eM _,_=>rfl
theorem Rt {x:Nat}:∀ds:arM,J.yA (jL x ds)=true->jL x ds=ds
 |[],_=>rfl
 |d::ds,h=>by
  simp only[jL,J.yA,Bool.and_eq_true]at h⊢;rw[Rs d h.1,Rt ds h.2]
end
mutual
theorem Ru {x:Nat}:∀a:J,(dg x a).clean=true->dg x a=a
 | .h y q,h=>by
   simp only[dg]at h⊢;split
   .rename_i e;rw[if_pos e]at h;simp[J.clean]at h
   .rfl
 | .aw y q,h=>by
   simp only[dg]at h⊢;split
   .rename_i e;rw[if_pos e]at h;simp[J.clean]at h
   .rfl
 | .ab y q,h=>by
   simp only[dg]at h⊢;split
   .rename_i e;rw[if_pos e]at h;simp[J.clean]at h
   .rfl
 | .fn f cap,h=>by simp only[dg,J.clean]at h⊢;rw[Rv cap h]
 | .hole,_=>rfl
 | .bool _,_=>rfl
 | .fW,_=>rfl
 | .int _ _,_=>rfl
 | .str _,_=>rfl
 | .eh,_=>rfl
 | .au,_=>rfl
 | .slice _,_=>rfl
 | .af _ _,_=>rfl
 | .ref _,_=>rfl
 | .aG _,_=>rfl
 | .agg _,_=>rfl
 | .tuple _,_=>rfl
 | .eM _,_=>rfl
theorem Rv {x:Nat}:∀ds:arM,J.yA (kh x ds)=true->kh x ds=ds
 |[],_=>rfl
 |d::ds,h=>by
  simp only[kh,J.yA,Bool.and_eq_true]at h⊢;rw[Ru d h.1,Rv ds h.2]
end
theorem ZX {k:ss} {x:Nat} {a:J} (h:(k.app x a).clean=true):k.app x a=a:=by
 cases k with
 |no=>rfl
 |cB=>exact Rs a h
 |dg=>exact Ru a h
theorem ZY:∀(ms:List hY) (u:Nat) (a:J),(∀m∈ms,m.x≠u)->(lb ms u a).clean=true->lb ms u a=a:=by
 intro ms;induction ms with
 |nil=>intros;rfl
 |cons m ms ih=>
  intro u a ay ax;simp only[lb]at ax⊢;have e:=ih u _ (λja wJ=>ay ja (by simp[wJ])) ax;have hm:m.at u a=m.k.app m.x a:=by
   simp only[hY.at];rw[if_neg (λe=>ay m (by simp) e.symm)]
  rw[e,hm];rw[e,hm]at ax;exact ZX ax
theorem ZZ:∀(ms:List hY) (u:Nat) (a:J),(∀m∈ms,m.x≠u/\m.x∉a.ad)->lb ms u a=a:=by
 intro ms;induction ms with
 |nil=>intros;rfl
 |cons m ms ih=>
  intro u a ay;simp only[lb];have hm:m.at u a=a:=by
   simp only[hY.at];rw[if_neg (λe=>(ay m (by simp)).1 e.symm)];exact Be (.inr (ay m (by simp)).2)
  rw[hm];exact ih u a λja wJ=>ay ja (by simp[wJ])
theorem Z0 (m:hY):∀(ms:List hY) (u:Nat) (a:J),(∀ja∈ms,ja.x≠m.x/\ja.x∉m.d.ad/\m.x∉ja.d.ad)->lb ms u (m.at u a)=m.at u (lb ms u a):=by
 intro ms;induction ms with
 |nil=>intros;rfl
 |cons n ms ih=>
  intro u a ay;simp only[lb];have aZ:=ay n (by simp);have ax:n.at u (m.at u a)=m.at u (n.at u a):=by
   simp only[hY.at];by_cases aW:u=n.x
   .subst aW;rw[if_pos rfl,if_neg aZ.1,if_pos rfl];exact(Be (.inr aZ.2.2)).symm
   .rw[if_neg aW];by_cases a8:u=m.x
    .subst a8;rw[if_pos rfl,if_pos rfl];exact Be (.inr aZ.2.1)
    .rw[if_neg a8,if_neg aW,if_neg a8];exact Yu _ _ _ _ _
  rw[ax];exact ih u _ λja wJ=>ay ja (by simp[wJ])
theorem Z1:∀(ms my:List hY) (s:az),(∀m∈ms,∀n∈my,n.x≠m.x/\n.x∉m.d.ad/\m.x∉n.d.ad)->eD my (eD ms s)=eD ms (eD my s):=by
 intro ms;induction ms with
 |nil=>intros;rfl
 |cons m ms ih=>
  intro my s h;have e:∀s,eD (m::ms) s=eD ms (eD [m] s):=λs=>n0 [m] ms s;rw[e,e,ih my _ (λja wJ=>h ja (by simp[wJ]))];congr 1;funext u;simp only[eD,lb];exact Z0 m my u _ (h m (by simp))
def Rw (C:ch) (s:az) (f:bl) (args:List bl) (K:arH->J->az->Prop):Prop:=
 ∃(g:FuncId) (caps:arM) (ps:List c8) (r:J),bs s f= .fn g caps/\J.eu caps=true/\ps.map (·.a)=args.map (bs s)++caps/\(∀p∈ps,p.ok s)/\jb ps=true/\
   ba C g (ps.map (·.d)) r (ps.map (·.o))/\r.res=true/\(kV ps=true->r.da=true/\∀p∈ps,p.o.da=true)/\K (J.eJ ((ps.filter (·.g)).map (·.a))) r (iC (fT s ps) ps)
def po (C:ch) (s:az) (bO:eP) (K:arH->J->az->Prop):Prop:=
 match bO with
 | .call f args=>∃(g:FuncId) (caps:arM) (ps:List c8) (r:J),bs s f= .fn g caps/\J.eu caps=true/\ps.map (·.a)=args.map (bs s)++caps/\(∀p∈ps,p.ok s)/\jb ps=true/\
   ba C g (ps.map (·.d)) r (ps.map (·.o))/\r.res=true/\(kV ps=true->r.da=true/\∀p∈ps,p.o.da=true)/\K (J.eJ ((ps.filter (·.g)).map (·.a))) r (iC (fT s ps) ps)
 | .shr bO=>∃av s1,bY C s bO=some (av,s1)/\av.tree=true/\(∀vs,av≠.tuple vs)/\K (lC s bO) av.share s1
 | .la f args us=>m1 s (kl s us)=true/\Rw C s f args λdq av s1=>m1 s1 (kl s us)=true/\K (us++dq) av (oG s1 (kl s us))
 |bO=>∃av s1,bY C s bO=some (av,s1)/\K (lC s bO) av s1
def jU (s:az) (cC:arH) (dst:Option Nat) (dq:arH) (av:J):f_:=
 ⟨cC,cC.flatMap (λu=>(s u).ad)++av.ad,dst.toList++dq,cC.all λu=>(s u).clean⟩
def ny (C:ch) (s:az) (o:cn) (K:f_->az->Prop):Prop:=
 match o.guard with
 |none=>po C s o.bO λdq av s1=>K (jU s (use s o.bO) o.dst dq av) (fin s1 o.dst av)
 |some (t,b)=>match s t with
  | .bool gJ=>if gJ=b then po C s o.bO (λdq av s1=>K (jU s (t::use s o.bO) o.dst dq av) (fin s1 o.dst av))else K (jU s [t] o.dst [] (.tuple [])) (fin s o.dst (.tuple []))
  | .tuple []=>K (jU s [t] o.dst [] (.tuple [])) (fin s o.dst (.tuple []))
  |_=>False
def rr:Option (List f_)->f_->Option (List f_)
 |none,_=>none
 |some l,f=>some (f::l)
def dk (C:ch) (s:az):List cn->Option (List f_)->(Option (List f_)->az->Prop)->Prop
 |[],acc,K=>K acc s
 |o::os,acc,K=>ny C s o λf s1=>dk C s1 os (rr acc f) K
section
variable {C:ch}
theorem Rx {s:az} {bO:eP} {K:arH->J->az->Prop} {ej:J->az->Prop} (ao:∀dq av s,K dq av s->ej av s) (h:po C s bO K):qk C s bO ej:=by
 cases bO with
 |call f args=>
  obtain⟨g,caps,ps,r,ae,hP,ag,aK,a3,bI,dc,c6,gy⟩:=h;exact⟨g,caps,ps,r,ae,hP,ag,aK,a3,bI,dc,c6,ao _ _ _ gy⟩
 |la f args us=>
  obtain⟨cv,g,caps,ps,r,ae,hP,ag,aK,a3,bI,dc,c6,gy,jy⟩:=h;exact⟨cv,g,caps,ps,r,ae,hP,ag,aK,a3,bI,dc,c6,gy,ao _ _ _ jy⟩
 |shr bO=>
  obtain⟨av,s1,ae,ag,aK,a3⟩:=h;exact⟨av,s1,ae,ag,aK,ao _ _ _ a3⟩
 |_=>
  obtain⟨av,s1,ae,ag⟩:=h;exact⟨av,s1,ae,ao _ _ _ ag⟩
theorem Z2 {s:az} {o:cn} {K:f_->az->Prop} {ej:az->Prop} (ao:∀f s,K f s->ej s) (h:ny C s o K):nw C s o ej:=by
 unfold ny at h;unfold nw;split
 .rename_i bC;rw[bC]at h;exact Rx (λ_ _ _=>ao _ _) h
 .rename_i t b bC;rw[bC]at h;simp only at h;split
  .rename_i gJ ad;rw[ad]at h;simp only at h;split
   .rename_i ab;rw[if_pos ab]at h;exact Rx (λ_ _ _=>ao _ _) h
   .rename_i ab;rw[if_neg ab]at h;exact ao _ _ h
  .rename_i ad;rw[ad]at h;exact ao _ _ h
  .rename_i ae ag;split at h
   .exact ae _ (by assumption)
   .exact ag (by assumption)
   .exact h
theorem wK {K:az->Prop}:∀{ros:List cn} {s:az} {acc:Option (List f_)} {ej:Option (List f_)->az->Prop},(∀a s,ej a s->K s)->dk C s ros acc ej->m2 C s ros K:=by
 intro ros;induction ros with
 |nil=>intro s acc ej ao h;exact ao _ _ h
 |cons o ros ih=>intro s acc ej ao h;exact Z2 (λf s h=>ih ao h) h
theorem Ry {q:arH} {a d:J} (h:J.sub q a=some d) (cl:q≠[]\/d.ad=[]):a.ad=[]:=by
 cases q with
 |nil=>
  simp only[J.sub,Option.some.injEq]at h;subst h;exact cl.resolve_left (λe=>e rfl)
 |cons k q=>cases a<;>first|rfl|(simp[J.sub]at h)
def E5 (s:az) (p:c8) (e:J->Prop):Prop:=p.g=true->∃x q d,p.a= .h x q/\J.sub q (s x)=some d/\e d/\(p.o= .hole\/p.o.hv=true)
theorem Rz {d:J} (h:d.hv=true):d.ad=[]:=JD (uW h).2.1
theorem RA {d:J} (h:d.hv=true):d.dS.ad=[]:=by cases d<;>first|rfl|(simp[J.hv]at h)
theorem RB {p:c8} {ps:List c8} (h:jb (p::ps)=true):jb ps=true/\∀cO∈ps,(p.g=true\/cO.g=true)->∀u∈p.a.ad,u∉cO.a.ad:=by
 simp only[jb,Bool.and_eq_true,List.all_eq_true,Bool.or_eq_true,Bool.not_eq_true']at h;refine⟨h.2,λcO eR bC u hu=>?_⟩;rcases h.1 cO eR with e|e
 .rcases bC with bC|bC<;>simp[bC]at e
 .simpa using e u hu
def sC (ps:List c8):arH:=J.eJ ((ps.filter (·.g)).map (·.a))
theorem yB (p:c8) (ps:List c8):(∀u∈sC ps,u∈sC (p::ps))/\(p.g=true->∀u∈p.a.ad,u∈sC (p::ps)):=by
 unfold sC;by_cases bC:p.g=true
 .simp only[List.filter_cons,bC,if_true,List.map_cons,J.eJ,List.mem_append];exact⟨λu h=>.inr h,λ_ u h=>.inl h⟩
 .simp only[List.filter_cons,bC];exact⟨λu h=>h,λh=>by simp at h⟩
theorem Z3 {p:c8} {ps:List c8} (h:p∈ps):∀u∈p.a.ad,u∈J.eJ (ps.map (·.a)):=by
 induction ps with
 |nil=>cases h
 |cons cO ps ih=>
  intro u hu;simp only[List.map_cons,J.eJ,List.mem_append];rcases List.mem_cons.1 h with rfl|h
  .exact .inl hu
  .exact .inr (ih h u hu)
theorem Z4:∀(ps:List c8) (s:az),(∀p∈ps,E5 s p (λd=>d=p.d/\p.d.hv=true))->jb ps=true->
  (∃ms:List hY,(∀m∈ms,m.x∈sC ps/\m.d.ad=[])/\∀aI,ep (J.eJ (ps.map (·.a))) aI s->fT aI ps=eD ms aI)/\∀p∈ps,E5 (fT s ps) p (λd=>d=p.d.dS/\p.d.hv=true):=by
 intro ps;induction ps with
 |nil=>intro s _ _;exact⟨⟨[],by simp,λaI _=>rfl⟩,λp aw=>by cases aw⟩
 |cons p ps ih=>
  intro s bC mx;obtain⟨rh,qg⟩:=RB mx;by_cases n4:p.g=true
  .obtain⟨x,q,d,b6,ad,⟨rfl,ak⟩,b_⟩:=bC p (by simp) n4;have lv:(J.put q p.d.dS (s x)).ad=[]:=yr q _ _ _ ad (.inl (uW ak).1) λ_=>RA ak;have Bz:∀aI:az,aI x=s x->p.take aI=eD [⟨.cB,x,J.put q p.d.dS (s x)⟩] aI:=by
    intro aI e;simp only[c8.take,n4,if_true,b6,e,wA]
   have ee:∀cO∈ps,∀cD kz,cO.a= .h cD kz->cD≠x:=by
    intro cO eR cD kz e fQ;have:=qg cO eR (.inl n4) x (by simp[b6,J.ad]);rw[e,fQ]at this;simp[J.ad]at this
   have uX:∀cD,cD≠x->(s cD).ad=[]->eD [⟨.cB,x,J.put q p.d.dS (s x)⟩] s cD=s cD:=by
    intro cD uM a5;simp only[eD,lb,hY.at];rw[if_neg uM];exact Be (.inr (by rw[a5];simp))
   obtain⟨⟨ms,gk,ht⟩,iJ⟩:=ih (eD [⟨.cB,x,J.put q p.d.dS (s x)⟩] s) (λcO eR J3=>by
    obtain⟨cD,kz,bE,wD,fZ,iu,BA⟩:=bC cO (by simp[eR]) J3;refine⟨cD,kz,bE,wD,?_,iu,BA⟩;rw[uX cD (ee cO eR cD kz wD) (Ry fZ (.inr (by rw[iu.1];exact Rz iu.2)))];exact fZ) rh
   refine⟨⟨[⟨.cB,x,J.put q p.d.dS (s x)⟩]++ms,?_,?_⟩,?_⟩
   .intro m hm;rcases List.mem_append.1 hm with hm|hm
    .simp only[List.mem_singleton]at hm;subst hm;exact⟨(yB p ps).2 n4 x (by simp[b6,J.ad]),lv⟩
    .exact⟨(yB p ps).1 _ (gk m hm).1,(gk m hm).2⟩
   .intro aI fZ;simp only[List.map_cons,J.eJ]at fZ;have e:aI x=s x:=fZ x (by simp[b6,J.ad]);rw[n0];show fT (p.take aI) ps=_;rw[Bz aI e];exact ht _ (ep.eD fZ.right _)
   .have aW:fT s (p::ps)=fT (eD [⟨.cB,x,J.put q p.d.dS (s x)⟩] s) ps:=by
     show fT (p.take s) ps=_;rw[Bz s rfl]
    rw[aW];intro cO eR;rcases List.mem_cons.1 eR with rfl|eR
    .intro _;refine⟨x,q,cO.d.dS,b6,?_,⟨rfl,ak⟩,b_⟩;have aE:eD [⟨.cB,x,J.put q cO.d.dS (s x)⟩] s x=J.put q cO.d.dS (s x):=by
      simp only[eD,lb,hY.at,if_true]
     rw[JA (by rw[aE];exact lv) (λZ5 Z6 apE=>?_),aE]
     .exact QW q _ _ _ ad
     .exact qg Z5 Z6 (.inl n4) x (by simp[b6,J.ad])
    .exact iJ cO eR
  .have Bz:∀aI:az,p.take aI=aI:=by intro aI;simp only[c8.take,n4];rfl
   obtain⟨⟨ms,gk,ht⟩,iJ⟩:=ih s (λcO eR=>bC cO (by simp[eR])) rh;refine⟨⟨ms,λm hm=>⟨(yB p ps).1 _ (gk m hm).1,(gk m hm).2⟩,?_⟩,?_⟩
   .intro aI fZ;simp only[List.map_cons,J.eJ]at fZ;show fT (p.take aI) ps=_;rw[Bz];exact ht aI fZ.right
   .intro cO eR;have aW:fT s (p::ps)=fT s ps:=by show fT (p.take s) ps=_;rw[Bz]
    rw[aW];rcases List.mem_cons.1 eR with rfl|eR
    .intro h;exact(n4 h).elim
    .exact iJ cO eR
theorem Z7:∀(ps:List c8) (s:az),(∀p∈ps,E5 s p (λd=>d=p.d.dS/\p.d.hv=true))->jb ps=true->
  (∃ms:List hY,(∀m∈ms,m.x∈sC ps/\m.d.ad=[])/\∀aI,ep (J.eJ (ps.map (·.a))) aI s->iC aI ps=eD ms aI):=by
 intro ps;induction ps with
 |nil=>intro s _ _;exact⟨[],by simp,λaI _=>rfl⟩
 |cons p ps ih=>
  intro s bC mx;obtain⟨rh,qg⟩:=RB mx;by_cases n4:p.g=true/\p.o≠.hole
  .obtain⟨n4,Z8⟩:=n4;obtain⟨x,q,d,b6,ad,⟨rfl,ak⟩,b_⟩:=bC p (by simp) n4;have b_:p.o.hv=true:=b_.resolve_left Z8;have lv:(J.put q p.o (s x)).ad=[]:=by
    cases q with
    |nil=>simp only[J.put];exact Rz b_
    |cons k q=>exact yr _ _ _ _ ad (.inr (by simp)) (by simp)
   have J4:∀aI:az,aI x=s x->p.jR aI=eD [⟨.dg,x,J.put q p.o (s x)⟩] aI:=by
    intro aI e;simp only[c8.jR,n4,if_true,b6];rw[e,QE]
   have ee:∀cO∈ps,∀cD kz,cO.a= .h cD kz->cD≠x:=by
    intro cO eR cD kz e fQ;have:=qg cO eR (.inl n4) x (by simp[b6,J.ad]);rw[e,fQ]at this;simp[J.ad]at this
   obtain⟨ms,gk,ht⟩:=ih (eD [⟨.dg,x,J.put q p.o (s x)⟩] s) (λcO eR J3=>by
    obtain⟨cD,kz,bE,wD,fZ,iu,BA⟩:=bC cO (by simp[eR]) J3;refine⟨cD,kz,bE,wD,?_,iu,BA⟩;have a5:=Ry fZ (.inr (by rw[iu.1];exact RA iu.2));have uX:eD [⟨.dg,x,J.put q p.o (s x)⟩] s cD=s cD:=by
     simp only[eD,lb,hY.at];rw[if_neg (ee cO eR cD kz wD)];exact Be (.inr (by rw[a5];simp))
    rw[uX];exact fZ) rh
   refine⟨[⟨.dg,x,J.put q p.o (s x)⟩]++ms,?_,?_⟩
   .intro m hm;rcases List.mem_append.1 hm with hm|hm
    .simp only[List.mem_singleton]at hm;subst hm;exact⟨(yB p ps).2 n4 x (by simp[b6,J.ad]),lv⟩
    .exact⟨(yB p ps).1 _ (gk m hm).1,(gk m hm).2⟩
   .intro aI fZ;simp only[List.map_cons,J.eJ]at fZ;have e:aI x=s x:=fZ x (by simp[b6,J.ad]);rw[n0];show iC (p.jR aI) ps=_;rw[J4 aI e];exact ht _ (ep.eD fZ.right _)
  .have J4:∀aI:az,p.jR aI=aI:=by
    intro aI;unfold c8.jR;split
    .rename_i iL;have:p.o= .hole:=by
      by_cases h:p.o= .hole
      .exact h
      .exact(n4 ⟨iL,h⟩).elim
     rw[this]
    .rfl
   obtain⟨ms,gk,ht⟩:=ih s (λcO eR=>bC cO (by simp[eR])) rh;refine⟨ms,λm hm=>⟨(yB p ps).1 _ (gk m hm).1,(gk m hm).2⟩,?_⟩;intro aI fZ;simp only[List.map_cons,J.eJ]at fZ;show iC (p.jR aI) ps=_;rw[J4];exact ht aI fZ.right
theorem Z9 {s aI:az}:∀(a:J) (d:J),ep a.ad aI s->view s a=some d->view aI a=some d:=by
 intro a d h;have:=JE (s:=s) (aI:=aI) a d;intro aE;cases a with
 |h x q=>simp only[view]at aE⊢;rw[h x (by simp[J.ad])];exact aE
 |aw x q=>simp only[view]at aE⊢;rw[h x (by simp[J.ad])];exact aE
 |fn f cap=>
  refine this (λu hu _=>h u hu) aE
 |_=>exact aE
theorem Z_ {p:c8} {s aI:az} (h:ep p.a.ad aI s) (gF:p.ok s):p.ok aI:=by
 unfold c8.ok at gF⊢;split
 .rename_i bC;rw[if_pos bC]at gF;cases b6:p.a with
  |h x q=>
   rw[b6]at gF;simp only at gF⊢;rw[h x (by simp[b6,J.ad])];exact gF
  |_=>rw[b6]at gF;exact gF.elim
 .rename_i bC;rw[if_neg bC]at gF;exact Z9 _ _ h gF
def E6 (C:ch) (o:cn) (s:az) (l9:f_) (ms:List hY):Prop:=
 (∀aI,ep l9.cC aI s->∀K:az->Prop,K (eD ms aI)->nw C aI o K)/\(∀m∈ms,m.x∈l9.T/\∀u∈m.d.ad,u∈l9.H)/\(∀u∈l9.cC,∀x∈(s u).ad,x∈l9.H)/\(l9.c=true->∀u∈l9.cC,(s u).clean=true)
theorem RC (dst:Option Nat) (av:J):∃ms:List hY,(∀m∈ms,m.x∈dst.toList/\m.d=av)/\∀s1:az,fin s1 dst av=eD ms s1:=by
 cases dst with
 |none=>exact⟨[],by simp,λs=>rfl⟩
 |some t=>
  simp only[fin];by_cases h:av.plain=true
  .exact⟨[⟨.no,t,av⟩],by simp,λs=>by rw[if_pos h,QF]⟩
  .exact⟨[⟨.dg,t,av⟩],by simp,λs=>by rw[if_neg h,QE]⟩
theorem E7 {s:az} {cC:arH} {dst:Option Nat} {dq:arH} {av:J}:(∀u∈(jU s cC dst dq av).cC,∀x∈(s u).ad,x∈(jU s cC dst dq av).H)/\((jU s cC dst dq av).c=true->∀u∈(jU s cC dst dq av).cC,(s u).clean=true):=by
 refine⟨λu hu x ay=>?_,λax=>?_⟩
 .simp only[jU,List.mem_append,List.mem_flatMap];exact .inl ⟨u,hu,ay⟩
 .simp only[jU,List.all_eq_true]at ax;exact ax
theorem RD {s:az} {f:bl} {args:List bl} {K:arH->J->az->Prop} (h:Rw C s f args K):
  ∃dq av ms,K dq av (eD ms s)/\(∀m∈ms,m.x∈dq/\m.d.ad=[])/\∀aI,ep (use s (.call f args)) aI s->∀ej:J->az->Prop,ej av (eD ms aI)->JJ C aI f args ej:=by
 obtain⟨g,caps,ps,r,ae,hP,ag,aK,a3,bI,dc,c6,gy⟩:=h;have aaa:∀p∈ps,E5 s p (λd=>d=p.d/\p.d.hv=true):=by
  intro p aw bC;have:=aK p aw;simp only[c8.ok,bC,if_true]at this;cases b6:p.a with
  |h x q=>rw[b6]at this;exact⟨x,q,p.d,rfl,this.1,⟨rfl,this.2.1⟩,this.2.2.imp id λh=>h.1⟩
  |_=>rw[b6]at this;exact this.elim
 obtain⟨⟨rf,R,aM⟩,bG⟩:=Z4 ps s aaa a3;obtain⟨uT,j5,ig⟩:=Z7 ps (fT s ps) bG a3;have sm:∀u∈J.eJ (ps.map (·.a)),u∈use s (.call f args):=by
  rw[ag];intro u hu;simp only[use,List.mem_append];have key:∀(fA l2:arM),u∈J.eJ (fA++l2)->u∈J.eJ fA\/u∈J.eJ l2:=by
   intro fA;induction fA with
   |nil=>intro l2 h;exact .inr h
   |cons a fA ih=>
    intro l2 h;simp only[List.cons_append,J.eJ,List.mem_append]at h⊢;rcases h with h|h
    .exact .inl (.inl h)
    .exact(ih l2 h).imp .inr id
  rcases key _ _ hu with hu|hu
  .exact .inr (bl.EO u hu)
  .refine .inl (bl.wB u ?_);rw[ae];exact hu
 have fS:iC (fT s ps) ps=eD (rf++uT) s:=by
  rw[n0,<-aM s (λ_ _=>rfl),ig _ (λ_ _=>rfl)]
 refine⟨sC ps,r,rf++uT,by rw[<-fS];exact gy,?_,?_⟩
 .intro m hm;rcases List.mem_append.1 hm with hm|hm
  .exact R m hm
  .exact j5 m hm
 .intro aI ad ej ao;have su:ep (J.eJ (ps.map (·.a))) aI s:=ad.sub sm;have bo:ep (f.use s) aI s:=by simp only[use]at ad;exact ad.left
  have ay:ep (bl.re s args) aI s:=by simp only[use]at ad;exact ad.right
  have aW:iC (fT aI ps) ps=eD (rf++uT) aI:=by
   rw[n0,<-aM aI su,ig];rw[aM aI su,aM s (λ_ _=>rfl)];exact ep.eD su _
  exact⟨g,caps,ps,r,by rw[bl.gv bo];exact ae,hP,by rw[bl.Jr ay];exact ag,λp aw=>Z_ (su.sub (Z3 aw)) (aK p aw),a3,bI,dc,c6,by rw[aW];exact ao⟩
mutual
theorem RE {s aI:az}:∀(d:J),ep d.ad aI s->d.gG aI=d.gG s
 | .h x q,h=>by simp only[J.gG];rw[h x (by simp[J.ad])]
 | .ab x q,h=>by simp only[J.gG];rw[h x (by simp[J.ad])]
 | .fn f cap,h=>by simp only[J.gG];exact RF cap (by simpa only[J.ad]using h)
 | .aw _ _,_=>by simp only[J.gG]
 | .hole,_=>by simp only[J.gG]
 | .bool _,_=>by simp only[J.gG]
 | .fW,_=>by simp only[J.gG]
 | .int _ _,_=>by simp only[J.gG]
 | .str _,_=>by simp only[J.gG]
 | .eh,_=>by simp only[J.gG]
 | .au,_=>by simp only[J.gG]
 | .slice _,_=>by simp only[J.gG]
 | .af _ _,_=>by simp only[J.gG]
 | .ref _,_=>by simp only[J.gG]
 | .aG _,_=>by simp only[J.gG]
 | .agg _,_=>by simp only[J.gG]
 | .tuple _,_=>by simp only[J.gG]
 | .eM _,_=>by simp only[J.gG]
theorem RF {s aI:az}:∀(ds:arM),ep (J.eJ ds) aI s->J.qj aI ds=J.qj s ds
 |[],_=>rfl
 |d::ds,h=>by
  simp only[J.eJ]at h;simp only[J.qj];rw[RE d h.left,RF ds h.right]
end
theorem J5 {s aI:az} {us:arH} (h:ep (us.flatMap λu=>u::(s u).ad) aI s):kl aI us=kl s us:=by
 unfold kl;refine List.map_congr_left λu hu=>?_;rw[h u (List.mem_flatMap.2 ⟨u,hu,by simp⟩)]
theorem J6 {s aI:az}:∀(L:arL),(∀p∈L,ep p.2.ad aI s)->m1 aI L=m1 s L
 |[],_=>rfl
 |p::L,h=>by
  simp only[m1];rw[RE p.2 (h p (by simp)),J6 L (λq cl=>h q (by simp[cl]))]
theorem RG:∀(L:arL) (s:az),oG s L=eD (L.map λp=>⟨.no,p.1,p.2⟩) s
 |[],s=>rfl
 |p::L,s=>by
  simp only[oG,List.map_cons];rw[RG L,QF];exact(n0 [⟨.no,p.1,p.2⟩] _ s).symm
theorem aab {s:az} {bO:eP} {K:arH->J->az->Prop} (h:po C s bO K):
  ∃dq av ms,K dq av (eD ms s)/\(∀m∈ms,m.x∈dq/\∀v∈m.d.ad,∃u∈use s bO,v∈(s u).ad)/\∀aI,ep (use s bO) aI s->∀ej:J->az->Prop,ej av (eD ms aI)->qk C aI bO ej:=by
 have plain:(∃av s1,bY C s bO=some (av,s1)/\K (lC s bO) av s1)->(∀aI (ej:J->az->Prop) av s1,bY C aI bO=some (av,s1)->ej av s1->qk C aI bO ej)->
   ∃dq av ms,K dq av (eD ms s)/\(∀m∈ms,m.x∈dq/\∀v∈m.d.ad,∃u∈use s bO,v∈(s u).ad)/\∀aI,ep (use s bO) aI s->∀ej:J->az->Prop,ej av (eD ms aI)->qk C aI bO ej:=by
  rintro⟨av,s1,ae,ag⟩ hw;obtain⟨ms,aW,a8,aY⟩:=QU ae;subst aW;exact⟨_,av,ms,ag,λm hm=>⟨(a8 m hm).1,λv aE=>by rw[(a8 m hm).2]at aE;cases aE⟩,λaI ad ej ao=>hw aI ej av _ (aY aI ad) ao⟩
 cases bO with
 |call f args=>
  obtain⟨dq,av,ms,R,aM,bG⟩:=RD h;exact⟨dq,av,ms,R,λm hm=>⟨(aM m hm).1,λv aE=>by rw[(aM m hm).2]at aE;cases aE⟩,λaI ad ej ao=>bG aI ad ej ao⟩
 |la f args us=>
  obtain⟨cv,ax⟩:=h;obtain⟨dq,av,ms,⟨R,aac⟩,aM,bG⟩:=RD ax;have e:∀aI:az,oG (eD ms aI) (kl s us)=eD (ms++(kl s us).map λp=>⟨.no,p.1,p.2⟩) aI:=λaI=>by rw[n0,RG]
  have k6:∀{aI:az},ep (us.flatMap λu=>u::(s u).ad) aI s->∀p∈kl s us,ep p.2.ad aI s:=λ{aI} ad p aw v aE=>by
   obtain⟨u,hu,rfl⟩:=List.mem_map.1 aw;exact ad v (List.mem_flatMap.2 ⟨u,hu,by simp[aE]⟩)
  refine⟨us++dq,av,ms++(kl s us).map λp=>⟨.no,p.1,p.2⟩,by rw[<-e];exact aac,?_,?_⟩
  .intro m hm;rcases List.mem_append.1 hm with hm|hm
   .exact⟨by simp[(aM m hm).1],λv aE=>by rw[(aM m hm).2]at aE;cases aE⟩
   .obtain⟨p,aw,rfl⟩:=List.mem_map.1 hm;obtain⟨u,hu,rfl⟩:=List.mem_map.1 aw;exact⟨List.mem_append_left _ hu,λv aE=>⟨u,by simp only[use,List.mem_append,List.mem_flatMap];exact .inl ⟨u,hu,by simp⟩,aE⟩⟩
  .intro aI ad ej ao;simp only[use]at ad;refine⟨by rw[J5 ad.left,J6 _ (k6 ad.left)];exact cv,bG aI ad.right _ ⟨?_,?_⟩⟩
   .rw[J5 ad.left,J6 _ (λp aw=>(k6 ad.left p aw).eD ms)];exact R
   .rw[J5 ad.left,e];exact ao
 |shr bO=>
  obtain⟨av,s1,ae,ag,aK,a3⟩:=h;obtain⟨ms,aW,a8,aY⟩:=QU ae;subst aW;exact⟨_,av.share,ms,a3,λm hm=>⟨(a8 m hm).1,λv aE=>by rw[(a8 m hm).2]at aE;cases aE⟩,λaI ad ej ao=>⟨av,_,aY aI ad,ag,aK,ao⟩⟩
 |_=>exact plain h (λaI ej av s1 ae ag=>⟨av,s1,ae,ag⟩)
theorem aad {s:az} {o:cn} {K:f_->az->Prop} (h:ny C s o K):∃l9 ms,K l9 (eD ms s)/\E6 C o s l9 ms:=by
 have op:∀(cC:arH),(∀u∈use s o.bO,u∈cC)->(∀aI,ep cC aI s->∀ej:az->Prop,qk C aI o.bO (λav s1=>ej (fin s1 o.dst av))->nw C aI o ej)->
   po C s o.bO (λdq av s1=>K (jU s cC o.dst dq av) (fin s1 o.dst av))->∃l9 ms,K l9 (eD ms s)/\E6 C o s l9 ms:=by
  intro cC sm nS hw;obtain⟨dq,av,ms,ae,ag,aK⟩:=aab hw;obtain⟨my,lG,bD⟩:=RC o.dst av;refine⟨jU s cC o.dst dq av,ms++my,?_,?_,?_,E7.1,E7.2⟩
  .rw[n0,<-bD];exact ae
  .intro aI ad ej ao;refine nS aI ad ej (aK aI (ad.sub sm) _ ?_);rw[bD,<-n0];exact ao
  .intro m hm;simp only[jU,List.mem_append];rcases List.mem_append.1 hm with hm|hm
   .refine⟨.inr (ag m hm).1,λv aE=>.inl ?_⟩;obtain⟨u,hu,np⟩:=(ag m hm).2 v aE;exact List.mem_flatMap.2 ⟨u,sm u hu,np⟩
   .exact⟨.inl (lG m hm).1,λu hu=>.inr (by rw[(lG m hm).2]at hu;exact hu)⟩
 have skip:∀t,(∀aI,ep [t] aI s->∀ej:az->Prop,ej (fin aI o.dst (.tuple []))->nw C aI o ej)->K (jU s [t] o.dst [] (.tuple [])) (fin s o.dst (.tuple []))->∃l9 ms,K l9 (eD ms s)/\E6 C o s l9 ms:=by
  intro t nS ao;obtain⟨my,lG,bD⟩:=RC o.dst (.tuple []);refine⟨_,my,by rw[<-bD];exact ao,?_,?_,E7.1,E7.2⟩
  .intro aI ad ej mv;exact nS aI ad ej (by rw[bD];exact mv)
  .intro m hm;simp only[jU,List.mem_append];exact⟨.inl (lG m hm).1,λu hu=>by rw[(lG m hm).2]at hu;simp[J.ad]at hu⟩
 unfold ny at h;split at h
 .rename_i bC;exact op _ (λ_ h=>h) (λaI _ ej hw=>by unfold nw;rw[bC];exact hw) h
 .rename_i t b bC;split at h
  .rename_i gJ ab;split at h
   .rename_i e;refine op (t::use s o.bO) (λu hu=>by simp[hu]) (λaI ad ej hw=>?_) h;have:aI t=s t:=ad t (by simp);unfold nw;rw[bC];simp only[this,ab,if_pos e];exact hw
   .rename_i e;refine skip t (λaI ad ej ao=>?_) h;have:aI t=s t:=ad t (by simp);unfold nw;rw[bC];simp only[this,ab,if_neg e];exact ao
  .rename_i ab;refine skip t (λaI ad ej ao=>?_) h;have:aI t=s t:=ad t (by simp);unfold nw;rw[bC];simp only[this,ab];exact ao
  .exact h.elim
def u4 (C:ch) (ros:List cn):az->List (Nat×f_×List hY)->Prop
 |_,[]=>True
 |s,e::r=>(∃o,ros[e.1]? =some o/\E6 C o s e.2.1 e.2.2)/\u4 C ros (eD e.2.2 s) r
def ru (s:az) (r:List (Nat×f_×List hY)):az:=r.foldl (λs e=>eD e.2.2 s) s
def qc (a b:arH):Bool:=a.all λx=> !b.contains x
theorem yC {a b:arH} (h:qc a b=true):∀x∈a,x∉b:=by
 intro x ay;simp only[qc,List.all_eq_true]at h;simpa using h x ay
def wL (a b:f_):Bool:=qc b.T a.cC&&qc b.T a.H&&qc b.T a.T&&qc a.T b.cC&&qc a.T b.H&&b.c
theorem aae {ros:List cn} {s:az} {a b:Nat×f_×List hY} {r:List (Nat×f_×List hY)} (h:u4 C ros s (a::b::r)) (al:wL a.2.1 b.2.1=true):
  u4 C ros s (b::a::r)/\ru s (b::a::r)=ru s (a::b::r):=by
 obtain⟨⟨aaf,b6,R,aM,bG,dM⟩,⟨eM,ab,j5,ig,lB,bN⟩,a4⟩:=h;simp only[wL,Bool.and_eq_true]at al;obtain⟨⟨⟨⟨⟨uF,qV⟩,v5⟩,Is⟩,AA⟩,Iu⟩:=al;have J7:∀u∈b.2.1.cC,eD a.2.2 s u=s u:=by
  intro u hu;refine ZY _ _ _ (λm hm e=>?_) (bN Iu u hu);exact yC Is m.x (aM m hm).1 (e▸hu)
 have J8:∀u∈a.2.1.cC,eD b.2.2 s u=s u:=by
  intro u hu;refine ZZ _ _ _ λm hm=>⟨λe=>?_,λay=>?_⟩
  .exact yC uF m.x (ig m hm).1 (e▸hu)
  .exact yC qV m.x (ig m hm).1 (bG u hu _ ay)
 have RH:eD b.2.2 (eD a.2.2 s)=eD a.2.2 (eD b.2.2 s):=by
  refine Z1 _ _ _ λm hm n aZ=>⟨λe=>?_,λh=>?_,λh=>?_⟩
  .exact yC v5 n.x (ig n aZ).1 (e▸(aM m hm).1)
  .exact yC qV n.x (ig n aZ).1 ((aM m hm).2 _ h)
  .exact yC AA m.x (aM m hm).1 ((ig n aZ).2 _ h)
 refine⟨⟨⟨eM,ab,?_,ig,?_,?_⟩,⟨aaf,b6,?_,aM,?_,?_⟩,?_⟩,?_⟩
 .intro aI ad K ao;exact j5 aI (λu hu=>(ad u hu).trans (J7 u hu).symm) K ao
 .intro u hu x ay;exact lB u hu x (by rw[J7 u hu];exact ay)
 .intro ax u hu;have:=bN ax u hu
  rwa [J7 u hu]at this
 .intro aI ad K ao;exact R aI (λu hu=>(ad u hu).trans (J8 u hu)) K ao
 .intro u hu x ay;rw[J8 u hu]at ay;exact bG u hu x ay
 .intro ax u hu;rw[J8 u hu];exact dM ax u hu
 .rw[<-RH];exact a4
 .simp only[ru,List.foldl_cons];rw[RH]
theorem aag {ros:List cn} {e:Nat×f_×List hY} {post:List (Nat×f_×List hY)}:∀(pre:List (Nat×f_×List hY)) (s:az),u4 C ros s (pre++e::post)->(∀a∈pre,wL a.2.1 e.2.1=true)->
  u4 C ros s (e::(pre++post))/\ru s (e::(pre++post))=ru s (pre++e::post):=by
 intro pre;induction pre with
 |nil=>intro s h _;exact⟨h,rfl⟩
 |cons a pre ih=>
  intro s h al;obtain⟨ae,ag⟩:=h;obtain⟨a2,bq⟩:=ih _ ag λb ab=>al b (by simp[ab]);have ax:u4 C ros s (a::e::(pre++post)):=⟨ae,a2⟩
  obtain⟨b3,cv⟩:=aae ax (al a (by simp));refine⟨b3,cv.trans ?_⟩;simp only[ru,List.foldl_cons,List.cons_append]at bq⊢;exact bq
end
def BB:arF->arF->arF
 |done,[]=>done
 |done,a::r=>BB (done++[a++a.flatMap λe=>(done[e]?).getD []]) r
def lH (cK:arF):arF:=BB [] cK
theorem aah {cK:arF} {l:arH} (hl:∀u i v,l=u++i::v->∀e∈(cK[i]?).getD [],e∈u):∀(rest pre done:arF),cK=pre++rest->done.length=pre.length->
  (∀u i v,l=u++i::v->∀e∈(done[i]?).getD [],e∈u)->∀u i v,l=u++i::v->∀e∈((BB done rest)[i]?).getD [],e∈u:=by
 intro rest;induction rest with
 |nil=>intro pre done _ _ h;exact h
 |cons a rest ih=>
  intro pre done RI hlen h;simp only[BB];refine ih (pre++[a]) _ (by simp[RI]) (by simp[hlen]) ?_;intro u i v hu e he;by_cases al:i<done.length
  .rw[List.getElem?_append_left al]at he;exact h u i v hu e he
  .rw[List.getElem?_append_right (by omega)]at he;by_cases wy:i-done.length=0
   .rw[wy]at he;simp only[List.getElem?_cons_zero,Option.getD_some,List.mem_append,List.mem_flatMap]at he;have E8:(cK[i]?).getD []=a:=by
     have:i=pre.length:=by omega
     rw[RI,this,List.getElem?_append_right (Nat.le_refl _)];simp
    rcases he with he|⟨fQ,kW,he⟩
    .exact hl u i v hu e (by rw[E8];exact he)
    .have Bf:=hl u i v hu fQ (by rw[E8];exact kW);obtain⟨so,sq,rfl⟩:=List.append_of_mem Bf;have:=h so fQ (sq++i::v) (by rw[hu];simp) e he;simp[this]
   .rw[List.getElem?_eq_none (by simp;omega)]at he;simp at he
theorem aai {cK:arF} {l:arH} (hl:∀u i v,l=u++i::v->∀e∈(cK[i]?).getD [],e∈u):∀u i v,l=u++i::v->∀e∈((lH cK)[i]?).getD [],e∈u:=
 aah hl cK [] [] rfl rfl λu i v _ e he=>by simp at he
def jq (oL:arF):Nat->List (Nat×f_)->List f_->Bool
 |_,_,[]=>true
 |j,es,f::aH=>(es.all λe=>((oL[j]?).getD []).contains e.1||wL e.2 f)&&jq oL (j+1) ((j,f)::es) aH
def J9 (oL:arF) (a b:Nat×f_×List hY):Prop:=a.1∈(oL[b.1]?).getD []\/wL a.2.1 b.2.1=true
theorem aaj {oL:arF}:∀(iw:List (Nat×f_×List hY)) (j:Nat) (es:List (Nat×f_)),iw.map (·.1)=(List.range iw.length).map (·+j)->jq oL j es (iw.map (·.2.1))=true->
  iw.Pairwise (J9 oL)/\∀e∈es,∀b∈iw,e.1∈(oL[b.1]?).getD []\/wL e.2 b.2.1=true:=by
 intro iw;induction iw with
 |nil=>intro j es _ _;exact⟨.nil,λe _ b ab=>by cases ab⟩
 |cons a iw ih=>
  intro j es wM gF;rw[List.length_cons,List.range_succ_eq_map,List.map_cons,List.map_cons,List.map_map]at wM;simp only[List.cons.injEq,Nat.zero_add]at wM;obtain⟨bP,wM⟩:=wM;simp only[List.map_cons,jq,Bool.and_eq_true,List.all_eq_true,Bool.or_eq_true]at gF;obtain⟨ae,ag⟩:=gF;obtain⟨a2,bq⟩:=ih (j+1) _ (by rw[wM];congr 1;funext x;simp;omega) ag;refine⟨.cons (λb ab=>?_) a2,λe he b ab=>?_⟩
  .have:=bq (j,a.2.1) (by simp) b ab;simp only[J9,bP];exact this
  .rcases List.mem_cons.1 ab with rfl|ab
   .rw[bP];exact(ae e he).imp (λh=>by simpa using h) id
   .exact bq e (by simp[he]) b ab
section
variable {C:ch}
theorem aak {K:Option (List f_)->az->Prop}:∀(os pre:List cn) (s:az) (acc:List f_),dk C s os (some acc) K->
  ∃iw,u4 C (pre++os) s iw/\iw.map (·.1)=(List.range os.length).map (·+pre.length)/\K (some ((iw.map (·.2.1)).reverse++acc)) (ru s iw):=by
 intro os;induction os with
 |nil=>intro pre s acc h;exact⟨[],trivial,rfl,h⟩
 |cons o os ih=>
  intro pre s acc h;obtain⟨l9,ms,ae,ag⟩:=aad h;obtain⟨iw,a2,bq,ck⟩:=ih (pre++[o]) _ (l9::acc) ae;refine⟨(pre.length,l9,ms)::iw,⟨⟨o,?_,ag⟩,?_⟩,?_,?_⟩
  .rw[List.getElem?_append_right (Nat.le_refl _)];simp
  .simpa using a2
  .rw[List.length_cons,List.range_succ_eq_map,List.map_cons,List.map_cons,List.map_map,bq];simp only[List.cons.injEq,Nat.zero_add,true_and];congr 1;funext x;simp;omega
  .simpa [ru]using ck
theorem aal {ros:List cn} {oL:arF} {K:az->Prop}:∀(l:arH) (iw:List (Nat×f_×List hY)) (s:az),u4 C ros s iw->iw.Pairwise (J9 oL)->l.Nodup->(iw.map (·.1)).Nodup->
  (∀i,i∈l↔i∈iw.map (·.1))->(∀u i v,l=u++i::v->∀e∈(oL[i]?).getD [],e∈iw.map (·.1)->e∈u)->K (ru s iw)->jS C ros s l K:=by
 intro l;induction l with
 |nil=>
  intro iw s _ _ _ _ hm _ ao;cases iw with
  |nil=>exact ao
  |cons e iw=>have:=(hm e.1).2 (by simp);cases this
 |cons i l ih=>
  intro iw s ax aw aZ A_ hm b_ ao;obtain⟨e,he,al⟩:=List.mem_map.1 ((hm i).1 (by simp));obtain⟨pre,post,rfl⟩:=List.append_of_mem he;have aam:∀a∈pre,wL a.2.1 e.2.1=true:=by
   intro a b6;have a4:=(List.pairwise_append.1 aw).2.2 a b6 e (by simp);rcases a4 with a4|a4
   .rw[al]at a4;have:=b_ [] i l rfl a.1 a4 (by simp only[List.map_append,List.mem_append,List.mem_map];exact .inl ⟨a,b6,rfl⟩);cases this
   .exact a4
  obtain⟨a2,bq⟩:=aag pre s ax aam;obtain⟨⟨o,aan,wN⟩,ck⟩:=a2;have RJ:i∉(pre++post).map (·.1):=by
   have:(pre.map (·.1)++e.1::post.map (·.1)).Nodup:=by simpa using A_
   have bM:=(List.perm_middle.nodup_iff.1 this)
   rw[List.nodup_cons]at bM;rw[<-al];simpa using bM.1
  simp only[jS];rw[<-al,aan];refine wN.1 s (λ_ _=>rfl) _ ?_;rw[List.nodup_cons]at aZ;refine ih (pre++post) _ ck ?_ aZ.2 ?_ ?_ ?_ ?_
  .exact aw.sublist ((List.Sublist.refl pre).append (List.sublist_cons_self e post))
  .have:(pre.map (·.1)++e.1::post.map (·.1)).Nodup:=by simpa using A_
   have bM:=(List.perm_middle.nodup_iff.1 this)
   rw[List.nodup_cons]at bM;simpa using bM.2
  .intro j;constructor
   .intro bP;have ae:=(hm j).1 (by simp[bP]);simp only[List.map_append,List.map_cons,List.mem_append,List.mem_cons]at ae⊢;rcases ae with ae|rfl|ae
    .exact .inl ae
    .exact(aZ.1 (al▸bP)).elim
    .exact .inr ae
   .intro bP;have ae:=(hm j).2 (by
     simp only[List.map_append,List.map_cons,List.mem_append,List.mem_cons]at bP⊢;exact bP.imp id .inr)
    rcases List.mem_cons.1 ae with rfl|ae
    .exact(RJ bP).elim
    .exact ae
  .intro u j v hu x ay J_;have ae:=b_ (i::u) j v (by rw[hu];rfl) x ay (by
    simp only[List.map_append,List.map_cons,List.mem_append,List.mem_cons]at J_⊢;exact J_.imp id .inr)
   rcases List.mem_cons.1 ae with rfl|ae
   .exact(RJ J_).elim
   .exact ae
  .have:ru s (e::(pre++post))=ru (eD e.2.2 s) (pre++post):=rfl;rw[<-this,bq];exact ao
theorem BC {ros:List cn} {cK:arF} {s:az} {K:az->Prop} (hlen:cK.length=ros.length)
  (h:dk C s ros (some []) (λacc s=>jq (lH cK) 0 [] (acc.getD []).reverse=true/\K s)):∀l,rm cK l->jS C ros s l K:=by
 intro l ⟨fA,l2,mz⟩;obtain⟨iw,a2,bq,ck,eE⟩:=aak ros [] s [] h;simp only[List.nil_append,List.append_nil,List.length_nil,Option.getD_some,List.reverse_reverse]at a2 bq ck;have hl:iw.length=ros.length:=by have:=congrArg List.length bq;simpa using this
 have wM:iw.map (·.1)=(List.range iw.length).map (·+0):=by rw[bq,hl]
 have a4:iw.map (·.1)=List.range ros.length:=by rw[bq];simp
 obtain⟨gr,_⟩:=aaj iw 0 [] wM ck;refine aal l iw s a2 gr fA (by rw[a4];exact List.nodup_range) (λi=>?_) (λu i v hu e he _=>aai mz u i v hu e he) eE;rw[a4,l2,hlen,List.mem_range]
end
def qo (C:ch) (dst:Option Nat) (os:List cn) (K:Option (List f_)->az->Prop):Option (J×az)->Prop
 |some (av,s1)=>dk C (fin s1 dst av) os none K
 |none=>False
def rv (C:ch) (l:arL) (cC dq:arH) (dst:Option Nat) (os:List cn) (a:List f_) (K:Option (List f_)->az->Prop):Option (J×az)->Prop
 |some (av,s1)=>dk C (fin s1 dst av) os (some (jU (aq l) cC dst dq av::a)) K
 |none=>False
def lh (C:ch) (l:arL) (dst:Option Nat) (bO:eP) (t:Nat) (b:Bool) (os:List cn) (acc:Option (List f_)) (K:Option (List f_)->az->Prop):J->Prop
 | .bool gJ=>if gJ=b then po C (aq l) bO (λdq av s1=>dk C (fin s1 dst av) os (rr acc (jU (aq l) (t::use (aq l) bO) dst dq av)) K)else dk C (fin (aq l) dst (.tuple [])) os (rr acc (jU (aq l) [t] dst [] (.tuple []))) K
 | .tuple []=>dk C (fin (aq l) dst (.tuple [])) os (rr acc (jU (aq l) [t] dst [] (.tuple []))) K
 |_=>False
section
variable {C:ch} {l:arL} {os:List cn} {K:Option (List f_)->az->Prop} {dst:Option Nat} {a:List f_} {acc:Option (List f_)}
theorem E9 {s:az} {bO:eP} {K:arH->J->az->Prop} (aZ:bO.je=false):po C s bO K=(match bY C s bO with
  |some (av,s1)=>K (lC s bO) av s1
  |none=>False):=by
 apply propext;constructor
 .intro h;cases bO<;>first
   |(simp[eP.je]at aZ;done)
   |(obtain⟨av,s1,ae,ag⟩:=h;rw[ae];exact ag)
 .intro h;split at h
  .rename_i av s1 he;cases bO<;>first
    |(simp[eP.je]at aZ;done)
    |exact⟨av,s1,he,h⟩
  .exact h.elim
theorem RK:dk C (aq l) [] acc K=K acc (aq l):=rfl
theorem wO {bO:eP} (aZ:bO.je=false):dk C (aq l) (⟨dst,bO,none⟩::os) none K=qo C dst os K (bY C (aq l) bO):=by
 simp only[dk,ny,rr];rw[E9 aZ];cases bY C (aq l) bO with
 |none=>rfl
 |some p=>rfl
theorem yD {bO:eP} (aZ:bO.je=false):dk C (aq l) (⟨dst,bO,none⟩::os) (some a) K=rv C l (use (aq l) bO) (lC (aq l) bO) dst os a K (bY C (aq l) bO):=by
 simp only[dk,ny,rr];rw[E9 aZ];cases bY C (aq l) bO with
 |none=>rfl
 |some p=>rfl
theorem RL {bO:eP} {t:Nat} {b:Bool}:dk C (aq l) (⟨dst,bO,some (t,b)⟩::os) acc K=lh C l dst bO t b os acc K (aq l t):=by
 simp only[dk,ny];generalize aq l t=v;cases v<;>first|rfl|(rename_i vs;cases vs<;>rfl)
theorem RM {bO:eP} {t:Nat} {b:Bool} (aZ:bO.je=false):lh C l dst bO t b os none K (.bool b)=qo C dst os K (bY C (aq l) bO):=by
 simp only[lh,if_true];rw[E9 aZ];cases bY C (aq l) bO with
 |none=>rfl
 |some p=>rfl
theorem RN {bO:eP} {t:Nat} {b:Bool} (aZ:bO.je=false):lh C l dst bO t b os (some a) K (.bool b)=rv C l (t::use (aq l) bO) (lC (aq l) bO) dst os a K (bY C (aq l) bO):=by
 simp only[lh,if_true];rw[E9 aZ];cases bY C (aq l) bO with
 |none=>rfl
 |some p=>rfl
theorem aao {bO:eP} {t:Nat}:lh C l dst bO t true os none K (.bool false)=dk C (fin (aq l) dst (.tuple [])) os none K/\lh C l dst bO t false os none K (.bool true)=dk C (fin (aq l) dst (.tuple [])) os none K/\
  (∀b,lh C l dst bO t b os none K (.tuple [])=dk C (fin (aq l) dst (.tuple [])) os none K):=⟨rfl,rfl,λ_=>rfl⟩
theorem aap {bO:eP} {t:Nat}:lh C l dst bO t true os (some a) K (.bool false)=dk C (fin (aq l) dst (.tuple [])) os (some (jU (aq l) [t] dst [] (.tuple [])::a)) K/\
  lh C l dst bO t false os (some a) K (.bool true)=dk C (fin (aq l) dst (.tuple [])) os (some (jU (aq l) [t] dst [] (.tuple [])::a)) K/\
  (∀b,lh C l dst bO t b os (some a) K (.tuple [])=dk C (fin (aq l) dst (.tuple [])) os (some (jU (aq l) [t] dst [] (.tuple [])::a)) K):=⟨rfl,rfl,λ_=>rfl⟩
theorem aaq (av:J) (s1:az):qo C dst os K (some (av,s1))=dk C (fin s1 dst av) os none K:=rfl
theorem aar (cC dq:arH) (av:J) (s1:az):rv C l cC dq dst os a K (some (av,s1))=dk C (fin s1 dst av) os (some (jU (aq l) cC dst dq av::a)) K:=rfl
def wP (s:az):J->Option (J×az)
 | .h y q=>dq s (.h y q)
 |d=>some (d,s)
def RO (s:az):J->J->J->Option (J×az)
 | .bool gJ,x,y=>some (if gJ then x else y,s)
 |_,_,_=>none
def kD (s:az):Option J->Option (J×az)
 |some d=>some (d,s)
 |none=>none
def dN:Option az->Option (J×az)
 |some s1=>some (.hole,s1)
 |none=>none
def kn (s:az):List bl->arM
 |[]=>[]
 |x::xs=>bs s x::kn s xs
def u5 (s:az):List (Nat×bl)->arL
 |[]=>[]
 |(k,x)::xs=>(k,bs s x)::u5 s xs
def BD (s:az):Option bl->Option J
 |none=>none
 |some x=>some (bs s x)
theorem Ka (s:az) (x:Option J):(x.map λd=>(d,s))=kD s x:=by cases x<;>rfl
theorem aas (x:Option az):(x.map λs1=>(J.hole,s1))=dN x:=by cases x<;>rfl
theorem yE (s:az):∀xs:List bl,xs.map (bs s)=kn s xs
 |[]=>rfl
 |x::xs=>by simp only[List.map_cons,kn,yE s xs]
theorem RP (s:az):∀xs:List (Nat×bl),(xs.map λp=>(p.1,bs s p.2))=u5 s xs
 |[]=>rfl
 |(k,x)::xs=>by simp only[List.map_cons,u5,RP s xs]
theorem aat (s:az) (x:Option bl):x.map (bs s)=BD s x:=by cases x<;>rfl
theorem RQ:(∀x,eP.je (.hF x)=false)/\
  (∀x,eP.je (.mY x)=false)/\
  (∀c x y,eP.je (.pick c x y)=false)/\
  (∀T,eP.je (.lz T)=false)/\
  (∀T x,eP.je (.ic T x)=false)/\
  (∀T ps,eP.je (.ey T ps)=false)/\
  (∀T n ps,eP.je (.dz T n ps)=false)/\
  (∀T x,eP.je (.fo T x)=false)/\
  (∀T x y,eP.je (.j2 T x y)=false)/\
  (∀x,eP.je (.j6 x)=false)/\
  (∀op T x y,eP.je (.ff op T x y)=false)/\
  (∀op x,eP.je (.un op x)=false)/\
  (∀A B x,eP.je (.j7 A B x)=false)/\
  (∀f cs,eP.je (.nW f cs)=false)/\
  (∀T x y,eP.je (.fi T x y)=false)/\
  (∀T x fB al,eP.je (.gR T x fB al)=false)/\
  (∀T x k,eP.je (.gQ T x k)=false)/\
  (∀T x y,eP.je (.j0 T x y)=false)/\
  (∀T x y,eP.je (.idx T x y)=false)/\
  (∀x k,eP.je (.ex x k)=false)/\
  (∀T x,eP.je (.len T x)=false)/\
  (∀T cC x y,eP.je (.app T cC x y)=false):=by
 and_intros<;>intros<;>rfl
theorem RR:(∀x,bY C (aq l) (.hF x)=some (bs (aq l) x,aq l))/\
  (∀x,bY C (aq l) (.mY x)=wP (aq l) (bs (aq l) x))/\
  (∀c x y,bY C (aq l) (.pick c x y)=RO (aq l) (bs (aq l) c) (bs (aq l) x) (bs (aq l) y))/\
  (∀T,bY C (aq l) (.lz T)=kD (aq l) (lz C T))/\
  (∀T x,bY C (aq l) (.ic T x)=ic (aq l) (bs (aq l) x))/\
  (∀T ps,bY C (aq l) (.ey T ps)=ey C (aq l) T (u5 (aq l) ps))/\
  (∀T n ps,bY C (aq l) (.dz T n ps)=dz C (aq l) T n (u5 (aq l) ps))/\
  (∀T x,bY C (aq l) (.fo T x)=kD (aq l) (fo C (aq l) T (bs (aq l) x)))/\
  (∀T x y,bY C (aq l) (.j2 T x y)=dN (j2 C (aq l) T (bs (aq l) x) (bs (aq l) y)))/\
  (∀x,bY C (aq l) (.j6 x)=kD (aq l) (j6 (aq l) (bs (aq l) x)))/\
  (∀op T x y,bY C (aq l) (.ff op T x y)=kD (aq l) (ff C (aq l) op T (bs (aq l) x) (bs (aq l) y)))/\
  (∀op x,bY C (aq l) (.un op x)=kD (aq l) (un op (bs (aq l) x)))/\
  (∀A B x,bY C (aq l) (.j7 A B x)=kD (aq l) (j7 C (aq l) A B (bs (aq l) x)))/\
  (∀f cs,bY C (aq l) (.nW f cs)=some (.fn f (kn (aq l) cs),aq l))/\
  (∀T x y,bY C (aq l) (.fi T x y)=kD (aq l) (fi C T (bs (aq l) x) (bs (aq l) y)))/\
  (∀T x fB al,bY C (aq l) (.gR T x fB al)=gR C (aq l) T (bs (aq l) x) (BD (aq l) fB) (BD (aq l) al))/\
  (∀T x k,bY C (aq l) (.gQ T x k)=kD (aq l) (gQ C (aq l) T (bs (aq l) x) k))/\
  (∀T x y,bY C (aq l) (.j0 T x y)=kD (aq l) (j0 C (aq l) T (bs (aq l) x) (bs (aq l) y)))/\
  (∀T x y,bY C (aq l) (.idx T x y)=kD (aq l) (idx C T (bs (aq l) x) (bs (aq l) y)))/\
  (∀x k,bY C (aq l) (.ex x k)=kD (aq l) (ex (aq l) (bs (aq l) x) k))/\
  (∀T x,bY C (aq l) (.len T x)=kD (aq l) (tr C (aq l) T (bs (aq l) x)))/\
  (∀T cC x y,bY C (aq l) (.app T cC x y)=tu C (aq l) T cC (bs (aq l) x) (bs (aq l) y)):=by
 and_intros<;>intros<;>first|rfl|(simp only[bY,Ka,aas,RP,yE,aat];done)|(simp only[bY];cases bs (aq l) _<;>first|rfl|(rename_i b;cases b<;>rfl))
end
theorem RS:∀t d,sd t d=if J.plain d=true then d else .h t []:=λ_ _=>rfl
theorem RT:(∀l av,fin (aq l) none av=aq l)/\(∀l t av,fin (aq l) (some t) av=aq ((t,av)::if J.plain av=true then l else tC t l)):=
 ⟨λ_ _=>rfl,λl t av=>by
  simp only[fin];split
  .rw[Bw]
  .rw[J2,Bw]⟩
theorem Kb:
  (∀k n,J.plain (.int k n)=true)/\
  (∀b,J.plain (.bool b)=true)/\
  (∀x,J.plain (.str x)=true)/\
  (∀xs,J.plain (.slice xs)=true)/\
  (∀d,J.plain (.ref d)=true)/\
  (∀f cap,J.plain (.fn f cap)=true)/\
  (∀x q,J.plain (.h x q)=true)/\
  (∀x q,J.plain (.aw x q)=true)/\
  (J.plain .eh=true)/\
  (J.plain .au=true)/\
  (J.plain .fW=true)/\
  (J.plain .hole=true)/\
  (∀sz xs,J.plain (.af sz xs)=false)/\
  (∀d,J.plain (.aG d)=false)/\
  (∀aH,J.plain (.agg aH)=J.eu aH)/\
  (∀aH,J.plain (.tuple aH)=J.eu aH)/\
  (J.eu []=true)/\
  (∀d ds,J.eu (d::ds)=(d.plain&&J.eu ds)):=
 ⟨λ_ _=>rfl,λ_=>rfl,λ_=>rfl,λ_=>rfl,λ_=>rfl,λ_ _=>rfl,λ_ _=>rfl,λ_ _=>rfl,rfl,rfl,rfl,rfl,λ_ _=>rfl,λ_=>rfl,λ_=>rfl,λ_=>rfl,rfl,λ_ _=>rfl⟩
theorem RU:∀s d,wP s d=match d with| .h y q=>dq s (.h y q)|d=>some (d,s):=λ_ _=>by unfold wP;rfl
theorem RV:
  (∀t k n,dg t (.int k n)=(.int k n))/\
  (∀t b,dg t (.bool b)=(.bool b))/\
  (∀t x,dg t (.str x)=(.str x))/\
  (∀t xs,dg t (.slice xs)=(.slice xs))/\
  (∀t d,dg t (.ref d)=(.ref d))/\
  (∀t,dg t .eh= .eh)/\
  (∀t,dg t .au= .au)/\
  (∀t,dg t .fW= .fW)/\
  (∀t,dg t .hole= .hole)/\
  (∀t sz xs,dg t (.af sz xs)=(.af sz xs))/\
  (∀t d,dg t (.aG d)=(.aG d))/\
  (∀t aH,dg t (.agg aH)=(.agg aH))/\
  (∀t aH,dg t (.tuple aH)=(.tuple aH))/\
  (∀t y q,dg t (.h y q)=if y=t then .hole else .h y q)/\
  (∀t y q,dg t (.aw y q)=if y=t then .hole else .aw y q)/\
  (∀t f c,dg t (.fn f c)= .fn f (kh t c))/\
  (∀t,kh t []=[])/\
  (∀t d ds,kh t (d::ds)=dg t d::kh t ds)/\
  (∀t,tC t []=[])/\
  (∀t u d l,tC t ((u,d)::l)=(u,dg t d)::tC t l)/\
  (∀t l,nk t (aq l)=aq (tC t l)):=
 ⟨λ_ _ _=>by unfold dg;rfl,λ_ _=>by unfold dg;rfl,λ_ _=>by unfold dg;rfl,λ_ _=>by unfold dg;rfl,λ_ _=>by unfold dg;rfl,λ_=>by unfold dg;rfl,λ_=>by unfold dg;rfl,λ_=>by unfold dg;rfl,λ_=>by unfold dg;rfl,λ_ _ _=>by unfold dg;rfl,λ_ _=>by unfold dg;rfl,λ_ _=>by unfold dg;rfl,λ_ _=>by unfold dg;rfl,λ_ _ _=>by unfold dg;rfl,λ_ _ _=>by unfold dg;rfl,λ_ _ _=>by simp only[dg],λ_=>by simp only[kh],λ_ _ _=>by simp only[kh],λ_=>rfl,λ_ _ _ _=>rfl,λt l=>J2 t l⟩
theorem RW:
  (∀t k n,cB t (.int k n)=(.int k n))/\
  (∀t b,cB t (.bool b)=(.bool b))/\
  (∀t x,cB t (.str x)=(.str x))/\
  (∀t xs,cB t (.slice xs)=(.slice xs))/\
  (∀t d,cB t (.ref d)=(.ref d))/\
  (∀t,cB t .eh= .eh)/\
  (∀t,cB t .au= .au)/\
  (∀t,cB t .fW= .fW)/\
  (∀t,cB t .hole= .hole)/\
  (∀t sz xs,cB t (.af sz xs)=(.af sz xs))/\
  (∀t d,cB t (.aG d)=(.aG d))/\
  (∀t aH,cB t (.agg aH)=(.agg aH))/\
  (∀t aH,cB t (.tuple aH)=(.tuple aH))/\
  (∀t y,cB t (.h y [])= .h y [])/\
  (∀t y k q,cB t (.h y (k::q))=if y=t then .hole else .h y (k::q))/\
  (∀t y q,cB t (.aw y q)=if y=t then .hole else .aw y q)/\
  (∀t f c,cB t (.fn f c)= .fn f (jL t c))/\
  (∀t,jL t []=[])/\
  (∀t d ds,jL t (d::ds)=cB t d::jL t ds)/\
  (∀t,wI t []=[])/\
  (∀t u d l,wI t ((u,d)::l)=(u,cB t d)::wI t l)/\
  (∀t l,hq t (aq l)=aq (wI t l)):=
 ⟨λ_ _ _=>by unfold cB;rfl,λ_ _=>by unfold cB;rfl,λ_ _=>by unfold cB;rfl,λ_ _=>by unfold cB;rfl,λ_ _=>by unfold cB;rfl,λ_=>by unfold cB;rfl,λ_=>by unfold cB;rfl,λ_=>by unfold cB;rfl,λ_=>by unfold cB;rfl,λ_ _ _=>by unfold cB;rfl,λ_ _=>by unfold cB;rfl,λ_ _=>by unfold cB;rfl,λ_ _=>by unfold cB;rfl,λ_ _=>by simp[cB],λ_ _ _ _=>by simp[cB],λ_ _ _=>by unfold cB;rfl,λ_ _ _=>by simp only[cB],λ_=>by simp only[jL],λ_ _ _=>by simp only[jL],λ_=>rfl,λ_ _ _ _=>rfl,λt l=>ZU t l⟩
def Kc:oA->Bool->Option J
 | .bool,b=>some (.bool b)
 |_,_=>none
def u6 (neg:Bool):oA->Option arI->Option J
 | .slice _,some r=>some (q7 neg r)
 |_,_=>none
def wQ (neg:Bool):oA->arI->Option J
 | .ptr _,some b=>some (.bool (b !=neg))
 |_,_=>none
theorem RX (C:ch) (s:az) (T:TypeId):
  (∀op k a cZ b,ff C s op T (.int k a) (.int cZ b)=j4 op k a cZ b)/\
  (∀op a b,ff C s op T (.str a) (.str b)=pg op a b)/\
  (∀a b,ff C s .eql T (.bool a) (.bool b)=Kc (C.T T).k (a==b))/\
  (∀a b,ff C s .neq T (.bool a) (.bool b)=Kc (C.T T).k (!(a==b)))/\
  (∀xs,ff C s .eql T (.slice xs) .au=u6 false (C.T T).k (kT s (.slice xs)))/\
  (∀xs,ff C s .neq T (.slice xs) .au=u6 true (C.T T).k (kT s (.slice xs)))/\
  (ff C s .eql T .au .au=u6 false (C.T T).k (kT s .au))/\
  (ff C s .neq T .au .au=u6 true (C.T T).k (kT s .au))/\
  (∀x q,ff C s .eql T (.h x q) .au=u6 false (C.T T).k (kT s (.h x q)))/\
  (∀x q,ff C s .neq T (.h x q) .au=u6 true (C.T T).k (kT s (.h x q)))/\
  (∀x q,ff C s .eql T (.h x q) .eh=wQ false (C.T T).k (mW s (.h x q)))/\
  (∀x q,ff C s .neq T (.h x q) .eh=wQ true (C.T T).k (mW s (.h x q)))/\
  (∀d,ff C s .eql T (.ref d) .eh=wQ false (C.T T).k (mW s (.ref d)))/\
  (∀d,ff C s .neq T (.ref d) .eh=wQ true (C.T T).k (mW s (.ref d)))/\
  (ff C s .eql T .eh .eh=wQ false (C.T T).k (mW s .eh))/\
  (ff C s .neq T .eh .eh=wQ true (C.T T).k (mW s .eh)):=by
 refine⟨?_,?_,?_,?_,?_,?_,?_,?_,?_,?_,?_,?_,?_,?_,?_,?_⟩<;>intros<;>first
  |rfl
  |(simp only[ff]
    generalize (C.T T).k=k8;cases k8<;>first|rfl|(simp only[u6];generalize kT s _=v;cases v<;>rfl)|(simp only[wQ];generalize mW s _=v;cases v<;>(try (rename_i b;cases b))<;>rfl))
theorem RY (k:IntKind) (a b:Int):
  j4 .add k a k b=some (.int k (k.wrap (a+b)))/\j4 .sub k a k b=some (.int k (k.wrap (a-b)))/\j4 .mul k a k b=some (.int k (k.wrap (a*b)))/\
  j4 .eql k a k b=some (.bool (a==b))/\j4 .neq k a k b=some (.bool (a !=b))/\j4 .lss k a k b=some (.bool (decide (a<b)))/\j4 .leq k a k b=some (.bool (decide (a<=b)))/\
  j4 .gtr k a k b=some (.bool (decide (b<a)))/\j4 .geq k a k b=some (.bool (decide (b<=a)))/\
  j4 .and k a k b=some (.int k (bitsOf .and k a b))/\j4 .or k a k b=some (.int k (bitsOf .or k a b))/\j4 .xor k a k b=some (.int k (bitsOf .xor k a b))/\j4 .andNot k a k b=some (.int k (bitsOf .andNot k a b)):=by
 simp[j4]
theorem aau {k:IntKind} {a b:Int} (h:b≠0):j4 .quo k a k b=some (.int k (k.wrap (a.tdiv b))):=by simp[j4,h]
theorem aav {k:IntKind} {a b:Int} (h:b≠0):j4 .rem k a k b=some (.int k (a.tmod b)):=by simp[j4,h]
theorem RZ (a b:arE):
  pg .eql a b=some (.bool (a==b))/\pg .neq a b=some (.bool !(a==b))/\pg .lss a b=some (.bool (Op.bytesLess a b))/\
  pg .leq a b=some (.bool (Op.bytesLess a b||a==b))/\pg .gtr a b=some (.bool !(Op.bytesLess a b||a==b))/\pg .geq a b=some (.bool !(Op.bytesLess a b)):=by
 refine⟨rfl,rfl,rfl,rfl,rfl,rfl⟩
theorem R0:(∀b,un .not (.bool b)=some (.bool !b))/\(un .not .fW=some .fW)/\(∀k n,un .neg (.int k n)=some (.int k (k.wrap (0-n)))):=⟨λ_=>rfl,rfl,λ_ _=>rfl⟩
def Kd:oA->Option UInt8->Option J
 | .str,some c=>some (.int .u8 c.toNat)
 |_,_=>none
theorem R1 (C:ch) (T:TypeId) (l:arE) (k:IntKind) (n:Int):idx C T (.str l) (.int k n)=Kd (C.T T).k (a_ l n):=by
 simp only[idx,a_];generalize (C.T T).k=k8;cases k8<;>first|rfl|(simp only[Kd];split<;>first|rfl|(cases l[n.toNat]? <;>rfl))
def Ke (C:ch):oA->Option J->Option J
 | .slice e,some d=>if(C.T e).ok=true/\d.wd=(C.T e).sz then some (.ref d)else none
 |_,_=>none
theorem R2 (C:ch) (s:az) (T:TypeId) (xs:arM) (k:IntKind) (n:Int):j0 C s T (.slice xs) (.int k n)=Ke C (C.T T).k (a_ xs n):=by
 simp only[j0,a_];generalize (C.T T).k=k8;cases k8<;>first|rfl|skip
 simp only[Ke];by_cases a5:0<=n
 .simp only[a5,true_and,if_true];split
  .cases xs[n.toNat]? <;>simp[*]
  .cases xs[n.toNat]? <;>simp[*]
 .simp only[a5,false_and,if_false]
def BE (C:ch) (y:Nat) (q:arH) (n:Int):oA->Option J->Option J
 | .slice e,some (.af sz xs)=>if(a_ xs n).isSome=true/\(C.T e).ok=true/\sz=(C.T e).sz then some (.aw y (q++[n.toNat]))else none
 |_,_=>none
theorem R3 (C:ch) (s:az) (T:TypeId) (y:Nat) (q:arH) (k:IntKind) (n:Int):j0 C s T (.h y q) (.int k n)=BE C y q n (C.T T).k (J.sub q (s y)):=by
 simp only[j0];generalize (C.T T).k=k8;cases k8<;>first|rfl|skip
 rename_i e;cases ad:J.sub q (s y)with
 |none=>simp[BE]
 |some d=>
  cases d<;>first
   |(simp[BE];done)
   |skip
  rename_i sz xs;have bC:(a_ xs n).isSome=true↔0<=n/\n.toNat<xs.length:=by
   unfold a_;split<;>simp_all<;>omega
  simp only[BE,bC];by_cases a5:0<=n<;>by_cases ae:(C.T e).ok=true<;>simp[a5,ae]
def yF:oA->az->Option arE->Option (J×az)
 | .str,s,some t=>some (.str t,s)
 |_,_,_=>none
def yG (C:ch):oA->az->arM->Option arM->Option (J×az)
 | .slice e,s,xs,some t=>if(C.T e).ok=true/\∀d∈xs,d.wd=(C.T e).sz then some (.slice t,s)else none
 |_,_,_,_=>none
theorem R4 (C:ch) (s:az) (T:TypeId) (l:arE):
  (∀k a cZ b,gR C s T (.str l) (some (.int k a)) (some (.int cZ b))=yF (C.T T).k s (jY l a b))/\
  (∀cZ b,gR C s T (.str l) none (some (.int cZ b))=yF (C.T T).k s (jY l 0 b))/\
  (∀k a,gR C s T (.str l) (some (.int k a)) none=yF (C.T T).k s (jY l a l.length)):=by
 have e:∀(fB al:Option J) (a b:Int),(i6 0 fB=if 0<=a then some a.toNat else none)->(i6 l.length al=if 0<=b then some b.toNat else none)->gR C s T (.str l) fB al=yF (C.T T).k s (jY l a b):=by
  intro fB al a b ae ag;simp only[gR];generalize (C.T T).k=k8;cases k8<;>first|rfl|skip
  simp only[ae,ag,jY];by_cases b6:0<=a<;>by_cases ab:0<=b<;>simp only[b6,ab,if_true,if_false,yF,true_and,false_and]
  .by_cases ax:a<=b/\b<=l.length
   .rw[if_pos ⟨by omega,by omega⟩,if_pos ax]
   .rw[if_neg (λh=>ax ⟨by omega,by omega⟩),if_neg ax]
  .rw[if_neg (by omega)]
 exact⟨λk a cZ b=>e _ _ a b rfl rfl,λcZ b=>e _ _ 0 b rfl rfl,λk a=>e _ _ a l.length rfl (by simp[i6])⟩
theorem R5 (C:ch) (s:az) (T:TypeId) (xs:arM):
  (∀k a cZ b,gR C s T (.slice xs) (some (.int k a)) (some (.int cZ b))=yG C (C.T T).k s xs (jY xs a b))/\
  (∀cZ b,gR C s T (.slice xs) none (some (.int cZ b))=yG C (C.T T).k s xs (jY xs 0 b))/\
  (∀k a,gR C s T (.slice xs) (some (.int k a)) none=yG C (C.T T).k s xs (jY xs a xs.length)):=by
 have e:∀(fB al:Option J) (a b:Int),(i6 0 fB=if 0<=a then some a.toNat else none)->(i6 xs.length al=if 0<=b then some b.toNat else none)->gR C s T (.slice xs) fB al=yG C (C.T T).k s xs (jY xs a b):=by
  intro fB al a b ae ag;simp only[gR];generalize (C.T T).k=k8;cases k8<;>first|rfl|skip
  simp only[ae,ag,jY];by_cases b6:0<=a<;>by_cases ab:0<=b<;>simp only[b6,ab,if_true,if_false,yG,true_and,false_and]
  .by_cases ax:a<=b/\b<=xs.length
   .rw[if_pos ax];have ae:a.toNat<=b.toNat:=by omega
    have ag:b.toNat<=xs.length:=by omega
    simp only[ae,ag,true_and]
   .rw[if_neg (λh=>ax ⟨by omega,by omega⟩),if_neg ax]
  .rw[if_neg (by omega)]
 exact⟨λk a cZ b=>e _ _ a b rfl rfl,λcZ b=>e _ _ 0 b rfl rfl,λk a=>e _ _ a xs.length rfl (by simp[i6])⟩
def BF (q:arH):Option J->Option J
 |some d=>J.sub q d
 |none=>none
theorem R6:(∀d,J.sub [] d=some d)/\(∀k q aH,J.sub (k::q) (.agg aH)=BF q aH[k]?)/\(∀k q aH,J.sub (k::q) (.tuple aH)=BF q aH[k]?)/\(∀k q sz xs,J.sub (k::q) (.af sz xs)=BF q xs[k]?)/\
  (∀q d,J.sub (0::q) (.aG d)=J.sub q d)/\(∀q d,BF q (some d)=J.sub q d)/\
  (∀k q a b,J.sub (k::q) (.int a b)=none):=by
 refine⟨λd=>by simp[J.sub],?_,?_,?_,λq d=>by simp[J.sub],λ_ _=>rfl,λ_ _ _ _=>by simp[J.sub]⟩
 .intro k q aH;simp only[J.sub];cases aH[k]? <;>rfl
 .intro k q aH;simp only[J.sub];cases aH[k]? <;>rfl
 .intro k q sz aH;simp only[J.sub];cases aH[k]? <;>rfl
def R7 (k:Nat) (q:arH) (n:J) (aH:arM):Option J->J
 |some d=>.agg (aH.set k (J.put q n d))
 |none=>.agg aH
def R8 (k:Nat) (q:arH) (n:J) (aH:arM):Option J->J
 |some d=>.tuple (aH.set k (J.put q n d))
 |none=>.tuple aH
def R9 (k:Nat) (q:arH) (n:J) (sz:Nat) (xs:arM):Option J->J
 |some d=>.af sz (xs.set k (J.put q n d))
 |none=>.af sz xs
theorem R_:(∀n d,J.put [] n d=n)/\(∀k q n aH,J.put (k::q) n (.agg aH)=R7 k q n aH aH[k]?)/\(∀k q n aH,J.put (k::q) n (.tuple aH)=R8 k q n aH aH[k]?)/\
  (∀k q n sz xs,J.put (k::q) n (.af sz xs)=R9 k q n sz xs xs[k]?)/\(∀q n d,J.put (0::q) n (.aG d)= .aG (J.put q n d))/\
  (∀k q n aH d,R7 k q n aH (some d)= .agg (aH.set k (J.put q n d)))/\(∀k q n aH d,R8 k q n aH (some d)= .tuple (aH.set k (J.put q n d)))/\
  (∀k q n sz xs d,R9 k q n sz xs (some d)= .af sz (xs.set k (J.put q n d))):=by
 refine⟨λn d=>by simp[J.put],?_,?_,?_,λq n d=>by simp[J.put],λ_ _ _ _ _=>rfl,λ_ _ _ _ _=>rfl,λ_ _ _ _ _ _=>rfl⟩
 .intro k q n aH;simp only[J.put];cases aH[k]? <;>rfl
 .intro k q n aH;simp only[J.put];cases aH[k]? <;>rfl
 .intro k q n sz aH;simp only[J.put];cases aH[k]? <;>rfl
theorem Kf:(∀k n,J.wd (.int k n)=1)/\(∀b,J.wd (.bool b)=1)/\(∀x,J.wd (.str x)=1)/\(∀x,J.wd (.slice x)=1)/\(∀n x,J.wd (.af n x)=1)/\(∀x,J.wd (.ref x)=1)/\(∀x,J.wd (.aG x)=1)/\
  J.wd .au=1/\J.wd .eh=1/\J.wd .hole=1/\J.wd .fW=1/\(∀x y,J.wd (.h x y)=1)/\(∀x y,J.wd (.aw x y)=1)/\(∀x y,J.wd (.fn x y)=1)/\(∀aH,J.wd (.agg aH)=J.e1 aH)/\(∀aH,J.wd (.tuple aH)=J.e1 aH)/\J.e1 []=0/\(∀d ds,J.e1 (d::ds)=d.wd+J.e1 ds):=by
 simp[J.wd,J.e1]
theorem aaw {α:Type} {e:α->J} {n:Nat} (h:∀x,(e x).wd=n) (xs:List α):(∀d∈xs.map e,d.wd=n)=True:=by
 simp only[List.mem_map,eq_iff_iff,iff_true];rintro d ⟨x,_,rfl⟩;exact h x
theorem aax (C:ch) (s:az) (A B:TypeId) (k cZ:IntKind) (n:Int) (h4:(C.T A).ok=true) (ia:(C.T B).k= .int cZ):j7 C s A B (.int k n)=some (.int cZ (cZ.wrap n)):=by
 simp only[j7,h4,ia,if_true]
theorem Sa (m:Int):mu (th m)= .int .u8 (u8.wrap m):=by
 have h:0<=u8.wrap m/\u8.wrap m<256:=by rw[wrap_u8];omega
 simp only[mu,th,UInt8.toNat_ofNat'];congr 1;omega
theorem Kg (m:Int):((th m).toNat:Int)=u8.wrap m:=by
 have h:=Sa m;simpa [mu]using h
section
variable {C:ch} {l:arL} {Q:Exit->az->Prop} {s:az}
theorem h5 {ros:List cn} {k:arH} (h:dk C (aq l) ros none (λ_ s=>Q .normal (aq (gz k s)))):a6 C (.fK ros (some k)) Q (aq l):=wK (λ_ _ h=>h) h
theorem sD {ros:List cn} {cK:arF} {k:arH} (hlen:cK.length=ros.length) (h:dk C (aq l) ros (some []) (λacc s=>jq (lH cK) 0 [] (acc.getD []).reverse=true/\Q .normal (aq (gz k s)))):
  a6 C (.jC ros cK (some k)) Q (aq l):=BC hlen h
theorem aay {a b:aN} (h:∀fg:Exit->az->Prop,(∀s,eB (a6 C b Q) s->fg .normal s)->(∀s,Q .ret s->fg .ret s)->(∀i s,Q (.exit i) s->fg (.exit i) s)->a6 C a fg s):a6 C (.seq a b) Q s:=
 h _ (λ_ h=>h) (λ_ h=>h) (λ_ _ h=>h)
theorem du {ros:List cn} {k:arH} {b:aN} (h:dk C (aq l) ros none (λ_ s=>a6 C b Q (aq (gz k s)))):a6 C (.seq (.fK ros (some k)) b) Q (aq l):=wK (λ_ _ h=>.inl h) h
theorem ko {ros:List cn} {cK:arF} {k:arH} {b:aN} (hlen:cK.length=ros.length) (h:dk C (aq l) ros (some []) (λacc s=>jq (lH cK) 0 [] (acc.getD []).reverse=true/\a6 C b Q (aq (gz k s)))):
  a6 C (.seq (.jC ros cK (some k)) b) Q (aq l):=BC (K:=λs=>eB (a6 C b Q) (aq (gz k s))) hlen (by
   have key:∀(os:List cn) (s:az) (acc:Option (List f_)),dk C s os acc (λacc s=>jq (lH cK) 0 [] (acc.getD []).reverse=true/\a6 C b Q (aq (gz k s)))->
     dk C s os acc (λacc s=>jq (lH cK) 0 [] (acc.getD []).reverse=true/\eB (a6 C b Q) (aq (gz k s))):=by
    intro os;induction os with
    |nil=>intro s acc h;exact⟨h.1,.inl h.2⟩
    |cons o os ih=>
     intro s acc h;have mono:∀{s:az} {bO:eP} {K ej:arH->J->az->Prop},(∀a b c,K a b c->ej a b c)->po C s bO K->po C s bO ej:=by
      intro s bO K ej ao h;cases bO with
      |call f args=>
       obtain⟨g,caps,ps,r,ae,hP,ag,aK,a3,bI,dc,c6,gy⟩:=h;exact⟨g,caps,ps,r,ae,hP,ag,aK,a3,bI,dc,c6,ao _ _ _ gy⟩
      |shr bO=>obtain⟨av,s1,ae,ag,aK,a3⟩:=h;exact⟨av,s1,ae,ag,aK,ao _ _ _ a3⟩
      |la f args us=>
       obtain⟨cv,g,caps,ps,r,ae,hP,ag,aK,a3,bI,dc,c6,gy,jy⟩:=h;exact⟨cv,g,caps,ps,r,ae,hP,ag,aK,a3,bI,dc,c6,gy,ao _ _ _ jy⟩
      |_=>obtain⟨av,s1,ae,ag⟩:=h;exact⟨av,s1,ae,ao _ _ _ ag⟩
     simp only[dk,ny]at h⊢;split
     .rename_i bC;rw[bC]at h;exact mono (λ_ _ _=>ih _ _) h
     .rename_i t gJ bC;rw[bC]at h;simp only at h;split
      .rename_i apF ad;rw[ad]at h;simp only at h;split
       .rename_i ab;rw[if_pos ab]at h;exact mono (λ_ _ _=>ih _ _) h
       .rename_i ab;rw[if_neg ab]at h;exact ih _ _ h
      .rename_i ad;rw[ad]at h;exact ih _ _ h
      .rename_i ae ag;split at h
       .exact ae _ (by assumption)
       .exact ag (by assumption)
       .exact h
   exact key _ _ _ h)
theorem iE {c:bl} {a b:aN} (ax:bs s c= .bool true) (h:a6 C a Q s):a6 C (.cond c a b) Q s:=by simp only[a6,ax,if_true];exact h
theorem m3 {c:bl} {a b:aN} (ax:bs s c= .bool false) (h:a6 C b Q s):a6 C (.cond c a b) Q s:=by simp only[a6,ax];exact h
theorem E_ {c:bl} {a b:aN} (ax:bs s c= .fW) (ae:a6 C a Q s) (ag:a6 C b Q s):a6 C (.cond c a b) Q s:=by simp only[a6,ax];exact⟨ae,ag⟩
theorem aaz {id:Nat} {b:aN} (h:∀fg:Exit->az->Prop,(∀s,Q .normal s->fg .normal s)->(∀s,Q .ret s->fg .ret s)->(∀s,Q .normal s->fg (.exit id) s)->(∀i s,i≠id->Q (.exit i) s->fg (.exit i) s)->a6 C b fg s):a6 C (.block id b) Q s:=
 h (yw id Q) (λ_ h=>h) (λ_ h=>h) (λs h=>by simp only[yw,if_true];exact h) (λi s al h=>by simp only[yw,if_neg al];exact h)
theorem cT {id:Nat} (h:Q (.exit id) s):a6 C (.exit id) Q s:=h
theorem jr (h:Q .ret s):a6 C .ret Q s:=h
theorem aS (h:Q .normal s):a6 C .skip Q s:=h
def cL (C:ch) (b:aN) (Q:Exit->az->Prop) (s:az):Prop:=∀Z:az->Prop,(∀aI,a6 C b (andThen (eB Z) Q) aI->Z aI)->Z s
theorem oM {b:aN} (h:eB (cL C b Q) s):a6 C (.loop b) Q s:=h
theorem aaA {b:aN} (h:∀fg:Exit->az->Prop,(∀s,eB (cL C b Q) s->fg .normal s)->(∀s,Q .ret s->fg .ret s)->(∀i s,Q (.exit i) s->fg (.exit i) s)->a6 C b fg s):cL C b Q s:=by
 intro Z yy;refine yy s (JV b ?_ (h (andThen (eB (cL C b Q)) Q) (λ_ h=>h) (λ_ h=>h) (λ_ _ h=>h)));intro e aI bM;cases e with
 |normal=>exact yx (λs h=>h Z yy) aI bM
 |_=>exact bM
theorem bx {cb:arL} (h:cb.map (·.2)=cb.map λp=>s p.1):tB s cb:=by
 intro p aw;left;induction cb with
 |nil=>cases aw
 |cons a cb ih=>
  simp only[List.map_cons,List.cons.injEq]at h;rcases List.mem_cons.1 aw with rfl|aw
  .exact h.1
  .exact ih h.2 aw
end
section
variable {C:ch} {l:arL} {Q:Exit->az->Prop} {s:az} {os ros:List cn} {K:Option (List f_)->az->Prop} {dst:Option Nat}
theorem Sb (l:arL):(∀n,bs (aq l) (.t n)=sd n (aq l n))/\(∀av,bs (aq l) (.c av)=av)/\(∀g,bs (aq l) (.f g)= .fn g []):=⟨λ_=>rfl,λ_=>rfl,λ_=>rfl⟩
theorem Sc:(∀t,aq [] t= .hole)/\(∀u d (l:arL) t,aq ((u,d)::l) t=if t=u then d else aq l t):=⟨λ_=>rfl,λ_ _ _ _=>rfl⟩
theorem Sd (s:az):gz [] s=[]/\(∀t k,gz (t::k) s=(t,s t)::gz k s):=⟨rfl,λ_ _=>rfl⟩
theorem Se (s:az):(∀d,kD s (some d)=some (d,s))/\(∀s1,dN (some s1)=some (.hole,s1))/\kn s []=[]/\(∀x xs,kn s (x::xs)=bs s x::kn s xs)/\u5 s []=[]/\(∀k x xs,u5 s ((k,x)::xs)=(k,bs s x)::u5 s xs)/\
  BD s none=none/\(∀x,BD s (some x)=some (bs s x))/\(∀b x y,RO s (.bool b) x y=some (if b=true then x else y,s)):=
 ⟨λ_=>rfl,λ_=>rfl,rfl,λ_ _=>rfl,rfl,λ_ _ _=>rfl,rfl,λ_=>rfl,λb _ _=>by cases b<;>rfl⟩
theorem Sf (C:ch):(∀e d,Ke C (.slice e) (some d)=if(C.T e).ok=true/\d.wd=(C.T e).sz then some (.ref d)else none)/\
  (∀y q n e sz xs,BE C y q n (.slice e) (some (.af sz xs))=if(a_ xs n).isSome=true/\(C.T e).ok=true/\sz=(C.T e).sz then some (.aw y (q++[n.toNat]))else none)/\
  (∀e s xs t,yG C (.slice e) s xs (some t)=if(C.T e).ok=true/\∀d∈xs,d.wd=(C.T e).sz then some (.slice t,s)else none):=
 ⟨λ_ _=>rfl,λ_ _ _ _ _ _=>rfl,λ_ _ _ _=>rfl⟩
theorem Sg:(∀b,Kc .bool b=some (.bool b))/\(∀c,Kd .str (some c)=some (.int .u8 c.toNat))/\(∀s t,yF .str s (some t)=some (.str t,s))/\(∀q d,BF q (some d)=J.sub q d):=
 ⟨λ_=>rfl,λ_=>rfl,λ_ _=>rfl,λ_ _=>rfl⟩
theorem Sh (sz bytes:Nat) (z:J):(∀k,hr.ok ⟨.int k,sz,bytes,z⟩=true)/\hr.ok ⟨.bool,sz,bytes,z⟩=true/\hr.ok ⟨.str,sz,bytes,z⟩=true/\(∀e,hr.ok ⟨.ptr e,sz,bytes,z⟩=true)/\(∀e,hr.ok ⟨.slice e,sz,bytes,z⟩=true)/\(∀e,hr.ok ⟨.struct e,sz,bytes,z⟩=true)/\hr.ok ⟨.fn,sz,bytes,z⟩=true:=by
 simp[hr.ok]
theorem Si (sz bytes:Nat) (z:J):(∀k,hr.flat ⟨.int k,sz,bytes,z⟩=true)/\hr.flat ⟨.bool,sz,bytes,z⟩=true/\hr.flat ⟨.str,sz,bytes,z⟩=true/\(∀e,hr.flat ⟨.ptr e,sz,bytes,z⟩=true)/\(∀e,hr.flat ⟨.slice e,sz,bytes,z⟩=true)/\(∀e,hr.flat ⟨.struct e,sz,bytes,z⟩=false)/\hr.flat ⟨.fn,sz,bytes,z⟩=true:=by
 simp[hr.flat]
theorem BG (c:UInt8) (k:IntKind) (ao:k≠.i8):k.wrap (c.toNat:Int)=(c.toNat:Int):=by
 have:=c.toNat_lt;cases k<;>first|(exact(ao rfl).elim)|(simp[wrap,IntKind.bits,signed];try omega)
theorem Kh (c:UInt8):i64.wrap (c.toNat:Int)=(c.toNat:Int)/\u64.wrap (c.toNat:Int)=(c.toNat:Int)/\u8.wrap (c.toNat:Int)=(c.toNat:Int)/\i32.wrap (c.toNat:Int)=(c.toNat:Int)/\u32.wrap (c.toNat:Int)=(c.toNat:Int):=
 ⟨BG c _ (by simp),BG c _ (by simp),BG c _ (by simp),BG c _ (by simp),BG c _ (by simp)⟩
theorem b5 {k:arH} {K:az->Prop} (cb:arL) (h:∀P:arL->Prop,P cb->dk C (aq l) ros none (λ_ s=>P (gz k s))) (ao:K (aq cb)):dk C (aq l) ros none (λ_ s=>K (aq (gz k s))):=
 h (λl=>K (aq l)) ao
theorem h0 {k:arH} {oL:arF} {K:az->Prop} (cb:arL) (h:∀P:arL->Prop,P cb->dk C (aq l) ros (some []) (λacc s=>jq oL 0 [] (acc.getD []).reverse=true/\P (gz k s))) (ao:K (aq cb)):
  dk C (aq l) ros (some []) (λacc s=>jq oL 0 [] (acc.getD []).reverse=true/\K (aq (gz k s))):=
 h (λl=>K (aq l)) ao
theorem ba.aaB (bB:C.fI) {f:FuncId} {fn:Func} {c:Code} {cR:aN} {fx:arH} {as outs:arM} {r:J} (bo:C.P.funcs[f]? =some fn) (ab:fn.body=some c)
  (lg:(fn.name== "runtime.NumGoroutine")=false) (ad:fY ⟨fn.ntmps,fx⟩ c=some cR.strip) (aZ:as.length<=fn.ntmps)
  (h:∀Q:Exit->az->Prop,(∀s,eB (Ends C fx fn.results.toList r outs) s->Q .ret s)->(∀s,eB (Ends C fx fn.results.toList r outs) s->Q .normal s)->a6 C cR Q (aq (num 0 as))) (aw:cR.plain=true:=by kernel_rfl):ba C f as r outs:=by
 refine ba.of_wp bB bo ab lg ad aZ ?_ aw;rw[Bv];exact h _ (λs h=>⟨.inr rfl,h⟩) (λs h=>⟨.inl rfl,h⟩)
def Fa:arM->J
 |[d]=>d
 |ds=>.tuple ds
theorem lj {fx:arH} {fD:List ResultVar} {r:J} {outs:arM} (ds:arM) (ae:fD.map (rq C s)=ds.map some) (ag:r=Fa ds) (aK:(fD.map km).Nodup)
  (a3:∀(i:Nat) (o:J),outs[i]? =some o->o= .hole\/(o=s i/\o.hv=true/\i∈fx/\i∉fD.map km)):Ends C fx fD r outs s:=.inl ⟨ds,ae,by subst ag;cases ds with|nil=>rfl|cons a t=>cases t<;>rfl,aK,a3⟩
theorem aaC {fx:arH} {fD:List ResultVar}:∀(i:Nat) (o:J),([]:arM)[i]? =some o->o= .hole\/(o=s i/\o.hv=true/\i∈fx/\i∉fD.map km):=λi o h=>by simp at h
theorem Sj:∀(as ds:arM),(n3 as ds).filter (·.g)=[]
 |[],_=>rfl
 |_::_,[]=>rfl
 |a::as,d::ds=>by simp only[n3,List.filter_cons];exact Sj as ds
theorem Fb {f:bl} {args:List bl} {g:FuncId} {caps:arM} {K:arH->J->az->Prop} (ds:arM) (r:J)
  (ae:bs (aq l) f= .fn g caps) (hP:J.eu caps=true) (kC:views (aq l) (kn (aq l) args++caps)=some ds)
  (bI:ba C g ds r []) (dc:r.res=true) (c6:J.eJ (kn (aq l) args++caps)=[]\/r.da=true) (hK:K [] r (aq l)):po C (aq l) (.call f args) K:=by
 obtain⟨aW,a8,aY,bT,cF,cj,b0⟩:=ZV _ _ kC;refine⟨g,caps,n3 (kn (aq l) args++caps) ds,r,ae,hP,by rw[aW,yE],λp aw=>(aY p aw).1,bT,by rw[a8];exact bI.outs cF.symm,dc,?_,by rw[cj,b0,Sj];exact hK⟩;intro hl;refine⟨?_,λp aw=>by rw[(aY p aw).2.2.1];rfl⟩;rcases c6 with c6|c6
 .exfalso;simp only[kV,List.any_eq_true]at hl;obtain⟨p,aw,ew⟩:=hl;have hm:=(aY p aw).2.2.2;have:p.a.ad=[]:=by
   have key:∀(as:arM) (a:J),a∈as->J.eJ as=[]->a.ad=[]:=by
    intro as;induction as with
    |nil=>intro a h;cases h
    |cons b as ih=>
     intro a h he;simp only[J.eJ,List.append_eq_nil_iff]at he;rcases List.mem_cons.1 h with rfl|h
     .exact he.1
     .exact ih a h he.2
   exact key _ _ hm c6
  rw[this]at ew;simp at ew
 .exact c6
theorem d_ {f:bl} {args:List bl} {g:FuncId} {caps:arM} {ds:arM} {r:J} (bI:ba C g ds r [])
  (ae:bs (aq l) f= .fn g caps:=by rfl) (hP:J.eu caps=true:=by rfl) (kC:views (aq l) (kn (aq l) args++caps)=some ds:=by rfl)
  (dc:r.res=true:=by rfl) (c6:J.eJ (kn (aq l) args++caps)=[]\/r.da=true:=by exact .inl (by rfl))
  (hK:dk C (fin (aq l) dst r) os none K):dk C (aq l) (⟨dst,.call f args,none⟩::os) none K:=by
 simp only[dk,ny,rr];exact Fb ds r ae hP kC bI dc c6 hK
theorem g1 {a:List f_} {f:bl} {args:List bl} {g:FuncId} {caps:arM} {ds:arM} {r:J} (bI:ba C g ds r [])
  (ae:bs (aq l) f= .fn g caps:=by rfl) (hP:J.eu caps=true:=by rfl) (kC:views (aq l) (kn (aq l) args++caps)=some ds:=by rfl)
  (dc:r.res=true:=by rfl) (c6:J.eJ (kn (aq l) args++caps)=[]\/r.da=true:=by exact .inl (by rfl))
  (hK:dk C (fin (aq l) dst r) os (some (jU (aq l) (use (aq l) (.call f args)) dst [] r::a)) K):dk C (aq l) (⟨dst,.call f args,none⟩::os) (some a) K:=by
 simp only[dk,ny,rr];exact Fb ds r ae hP kC bI dc c6 hK
theorem ij {t:Nat} {b:Bool} {f:bl} {args:List bl} {g:FuncId} {caps:arM} {ds:arM} {r:J} (bI:ba C g ds r [])
  (ae:bs (aq l) f= .fn g caps:=by rfl) (hP:J.eu caps=true:=by rfl) (kC:views (aq l) (kn (aq l) args++caps)=some ds:=by rfl)
  (dc:r.res=true:=by rfl) (c6:J.eJ (kn (aq l) args++caps)=[]\/r.da=true:=by exact .inl (by rfl))
  (hK:dk C (fin (aq l) dst r) os none K):lh C l dst (.call f args) t b os none K (.bool b):=by
 simp only[lh,if_true];exact Fb ds r ae hP kC bI dc c6 hK
theorem m4 {a:List f_} {t:Nat} {b:Bool} {f:bl} {args:List bl} {g:FuncId} {caps:arM} {ds:arM} {r:J} (bI:ba C g ds r [])
  (ae:bs (aq l) f= .fn g caps:=by rfl) (hP:J.eu caps=true:=by rfl) (kC:views (aq l) (kn (aq l) args++caps)=some ds:=by rfl)
  (dc:r.res=true:=by rfl) (c6:J.eJ (kn (aq l) args++caps)=[]\/r.da=true:=by exact .inl (by rfl))
  (hK:dk C (fin (aq l) dst r) os (some (jU (aq l) (t::use (aq l) (.call f args)) dst [] r::a)) K):lh C l dst (.call f args) t b os (some a) K (.bool b):=by
 simp only[lh,if_true];exact Fb ds r ae hP kC bI dc c6 hK
theorem g9 (s:az):views s []=some []/\(∀d ds,views s (d::ds)=(match view s d,views s ds with|some a,some b=>some (a::b)|_,_=>none))/\
  (∀k n,view s (.int k n)=some (.int k n))/\(∀b,view s (.bool b)=some (.bool b))/\(∀x,view s (.str x)=some (.str x))/\(∀x,view s (.slice x)=some (.slice x))/\(∀x,view s (.ref x)=some (.ref x))/\
  view s .au=some .au/\view s .eh=some .eh/\(∀aH,view s (.agg aH)=some (.agg aH))/\(∀f cap,view s (.fn f cap)=(views s cap).map (.fn f)):=by
 refine⟨rfl,λd ds=>?_,λ_ _=>rfl,λ_=>rfl,λ_=>rfl,λ_=>rfl,λ_=>rfl,rfl,rfl,λ_=>rfl,λ_ _=>by simp only[view]⟩;simp only[views];rfl
theorem bn {α:Type} {u e:α->J} (h:∀x,(u x).share=e x) (xs:List α):J.shares (xs.map u)=xs.map e:=by
 rw[J.uG];simp[h]
theorem iM {α:Type} {u:α->J} (h:∀x,(u x).da=true) (xs:List α):J.hZ (xs.map u)=true:=by
 induction xs with
 |nil=>rfl
 |cons x xs ih=>simp only[List.map_cons,J.hZ,h,ih,Bool.and_self]
def u7 (s:az) (H:arH):arL->Prop
 |[]=>True
 |p::l=>(p.2=s p.1\/((s p.1).tree=true/\fJ (s p.1) p.2/\p.1∉H))/\u7 s H l
theorem iZ {cb:arL} (H:arH) (nx:J.eJ (cb.map (·.2))=H) (h:u7 s H cb):tB s cb:=by
 have key:∀(fA:arL),u7 s H fA->∀p∈fA,p.2=s p.1\/((s p.1).tree=true/\fJ (s p.1) p.2/\p.1∉H):=by
  intro fA;induction fA with
  |nil=>intro _ p aw;cases aw
  |cons a fA ih=>
   intro h p aw;rcases List.mem_cons.1 aw with rfl|aw
   .exact h.1
   .exact ih h.2 p aw
 have ad:∀(fA:arL),∀cO∈fA,∀u∈cO.2.ad,u∈J.eJ (fA.map (·.2)):=by
  intro fA;induction fA with
  |nil=>intro p aw;cases aw
  |cons a fA ih=>
   intro p aw u hu;simp only[List.map_cons,J.eJ,List.mem_append];rcases List.mem_cons.1 aw with rfl|aw
   .exact .inl hu
   .exact .inr (ih p aw u hu)
 intro p aw;rcases key _ h p aw with ae|⟨ae,ag,aK⟩
 .exact .inl ae
 .refine .inr ⟨ae,ag,λcO eR=>.inl λhm=>aK ?_⟩;rw[<-nx];exact ad cb cO eR _ hm
def u9 (s:az) (H D:arH):arL->Prop
 |[]=>True
 |p::l=>(p.2=s p.1\/((s p.1).tree=true/\fJ (s p.1) p.2/\(p.1∉H\/((s p.1).own=true/\p.2.own=true/\p.1∉D))))/\u9 s H D l
theorem aaD {cb:arL} (H D:arH) (nx:J.eJ (cb.map (·.2))=H) (Ki:J.u1 (cb.map (·.2))=D) (h:u9 s H D cb):tB s cb:=by
 have key:∀(fA:arL),u9 s H D fA->∀p∈fA,p.2=s p.1\/((s p.1).tree=true/\fJ (s p.1) p.2/\(p.1∉H\/((s p.1).own=true/\p.2.own=true/\p.1∉D))):=by
  intro fA;induction fA with
  |nil=>intro _ p aw;cases aw
  |cons a fA ih=>
   intro h p aw;rcases List.mem_cons.1 aw with rfl|aw
   .exact h.1
   .exact ih h.2 p aw
 have ad:∀(fA:arL),∀cO∈fA,(∀u∈cO.2.ad,u∈J.eJ (fA.map (·.2)))/\∀u∈cO.2.u0,u∈J.u1 (fA.map (·.2)):=by
  intro fA;induction fA with
  |nil=>intro p aw;cases aw
  |cons a fA ih=>
   intro p aw;simp only[List.map_cons,J.eJ,J.u1,List.mem_append];rcases List.mem_cons.1 aw with rfl|aw
   .exact⟨λu hu=>.inl hu,λu hu=>.inl hu⟩
   .exact⟨λu hu=>.inr ((ih p aw).1 u hu),λu hu=>.inr ((ih p aw).2 u hu)⟩
 intro p aw;rcases key _ h p aw with ae|⟨ae,ag,aK⟩
 .exact .inl ae
 .refine .inr ⟨ae,ag,λcO eR=>?_⟩;rcases aK with aK|⟨n1,lE,pn⟩
  .exact .inl λhm=>aK (by rw[<-nx];exact(ad cb cO eR).1 _ hm)
  .exact .inr ⟨n1,lE,λhm=>pn (by rw[<-Ki];exact(ad cb cO eR).2 _ hm)⟩
theorem aaE {H D:arH}:u9 s H D []:=trivial
theorem Fe {H D:arH} {t:Nat} {d:J} {cb:arL} (h:d=s t) (hl:u9 s H D cb):u9 s H D ((t,d)::cb):=⟨.inl h,hl⟩
theorem aaF {H D:arH} {t:Nat} {d bE:J} {cb:arL} (e:s t=d) (bc:d.tree=true) (ak:fJ d bE) (ae:d.own=true) (ag:bE.own=true) (Ki:t∉D) (hl:u9 s H D cb):u9 s H D ((t,bE)::cb):=
 ⟨.inr ⟨by rw[e];exact bc,by rw[e];exact ak,.inr ⟨by rw[e];exact ae,ag,Ki⟩⟩,hl⟩
theorem i0 {H:arH}:u7 s H []:=trivial
theorem eF {H:arH} {t:Nat} {d:J} {cb:arL} (h:d=s t) (hl:u7 s H cb):u7 s H ((t,d)::cb):=⟨.inl h,hl⟩
theorem i1 {H:arH} {t:Nat} {d bE:J} {cb:arL} (e:s t=d) (bc:d.tree=true) (ak:fJ d bE) (nx:t∉H) (hl:u7 s H cb):u7 s H ((t,bE)::cb):=⟨.inr ⟨by rw[e];exact bc,by rw[e];exact ak,nx⟩,hl⟩
theorem Sk {a b:J} (h:fJ a b):∀n,lF (List.replicate n a) (List.replicate n b)
 |0=>.nil
 |n+1=>by simp only[List.replicate_succ];exact .cons h (Sk h n)
theorem Ff {α:Type} {sz:Nat} {u:α->J} {z:α} {a:J} (h:fJ a (u z)) (n:Nat):fJ (.af sz (List.replicate n a)) (.af sz ((List.replicate n z).map u)):=by
 rw[List.map_replicate];exact .af (Sk h n)
end
theorem aaG {C:ch} {A B:TypeId} {cZ:IntKind} (h4:(C.T A).ok=true) (ia:(C.T B).k= .int cZ):∀s k n,j7 C s A B (.int k n)=some (.int cZ (cZ.wrap n)):=λs k n=>aax C s A B k cZ n h4 ia
def Sl:Option J->Option J
 |some (.af 1 xs)=>(bytesOf xs).map .str
 |_=>none
theorem aaH {C:ch} {A B e:TypeId} (h4:(C.T A).k= .slice e) (ia:(C.T B).k= .str) (he:(C.T e).k= .int .u8):
  (∀s xs,j7 C s A B (.slice xs)=(bytesOf xs).map .str)/\(∀s,j7 C s A B .au=some (.str []))/\(∀s x q,j7 C s A B (.h x q)=Sl (J.sub q (s x))):=by
 have A8:(C.T A).ok=true:=by simp[hr.ok,h4]
 refine⟨λs xs=>?_,λs=>?_,λs x q=>?_⟩
 .simp only[j7,A8,h4,ia,he,if_true]
 .simp only[j7,A8,h4,ia,he,if_true]
 .simp only[j7,A8,h4,ia,he,if_true];rfl
theorem aaI (xs:arM):Sl (some (.af 1 xs))=(bytesOf xs).map .str:=rfl
theorem Sm (c:UInt8) (r:arM):bytesOf (mu c::r)=(bytesOf r).map (c::·):=by
 have:=c.toNat_lt;simp only[mu,bytesOf];rw[if_pos (by omega)];simp
theorem aaJ:bytesOf []=some []/\
  (∀l:arE,bytesOf (l.map mu)=some l)/\
  (∀c r,bytesOf (.int .u8 (c.toNat:Int)::r)=(bytesOf r).map (c::·))/\
  (∀m r,bytesOf (.int .u8 (u8.wrap m)::r)=(bytesOf r).map (th m::·)):=
 ⟨rfl,XJ,λc r=>Sm c r,λm r=>by rw[<-Sa];exact Sm _ r⟩
theorem aaK {k:IntKind} {b:Int} (h:b≠0):∀a,j4 .quo k a k b=some (.int k (k.wrap (a.tdiv b))):=λ_=>aau h
theorem aaL {k:IntKind} {b:Int} (h:b≠0):∀a,j4 .rem k a k b=some (.int k (a.tmod b)):=λ_=>aav h
theorem hQ {α:Type} {e:α->J} {n:Nat} (h:∀x,(e x).wd=n):∀xs:List α,(∀d∈xs.map e,d.wd=n)=True:=aaw h
theorem all_cons {P:J->Prop} (d:J) (ds:arM):(∀x∈d::ds,P x)=(P d/\∀x∈ds,P x):=by simp
theorem all_nil {P:J->Prop}:(∀x∈([]:arM),P x)=True:=by simp
def So (a b:arE):Option Unit->Option J
 |some _=>some (.str (a++b))
 |none=>none
theorem Sp (a b:arE):pg .add a b=So a b (sa (a.length+b.length)):=by
 simp only[pg,sa];split<;>rfl
theorem Sq (a b:arE) (u:Unit):So a b (some u)=some (.str (a++b)):=rfl
theorem Sr:(∀l:arH,[]++l=l)/\(∀a (l m:arH),(a::l)++m=a::(l++m)):=⟨λ_=>rfl,λ_ _ _=>rfl⟩
def Ss (C:ch) (e cC:TypeId):Bool:=(C.T e).ok&&((C.T e).zero.wd==(C.T e).sz)&&(flat (C.T e).zero).isSome&&EB C e cC
def Fg (C:ch) (e:TypeId) (xs:arM):Option (arM×az)->Option (J×az)
 |some (c7,s2)=>if(∀d∈c7,d.wd=(C.T e).sz)/\(room (C.T e).bytes (xs.length+c7.length)).isSome=true then some (.af (C.T e).sz (xs++c7),s2)else none
 |none=>none
def Kj (C:ch) (e:TypeId) (y:J) (o:Option Nat):Option (J×az)->Option (J×az)
 |some (.af sz xs,s1)=>if sz=(C.T e).sz then Fg C e xs (mZ s1 (l5 o y))else none
 |_=>none
theorem aaM (b n:Nat):(room b n).isSome=true↔n*b<=140737488355328/\n<=9223372036854775807:=by unfold room;split<;>simp_all
theorem iN {C:ch} {T cC e:TypeId} (kj:(C.T T).k= .slice e) (gF:Ss C e cC=true):∀s x y,tu C s T cC x y=Kj C e y x.owner (sv C e s x):=by
 intro s x y;simp only[Ss,Bool.and_eq_true,beq_iff_eq]at gF;rw[Jw,kj];simp only;rw[if_pos ⟨gF.1.1.1,gF.1.1.2,gF.1.2,gF.2⟩];generalize x.owner=o;cases sv C e s x with
 |none=>rfl
 |some p=>
  obtain⟨d,s1⟩:=p;cases d<;>first
   |rfl
   |(simp only[Kj]
     split
     .rename_i h;subst h;generalize mZ s1 (l5 o y)=z;cases z with
      |none=>rfl
      |some p=>simp only[Fg,aaM]
     .rfl)
def St:Option (J×az)->Option (arM×az)
 |some (.af _ c7,s2)=>some (c7,s2)
 |_=>none
theorem iO (s:az):mZ s .au=some ([],s)/\(∀c7,mZ s (.slice c7)=some (c7,s))/\(∀l,mZ s (.str l)=some (l.map mu,s))/\
  (∀a q,mZ s (.h a q)=St (dq s (.h a q)))/\(∀n c7,St (some (.af n c7,s))=some (c7,s)):=
 ⟨rfl,λ_=>rfl,λ_=>rfl,λ_ _=>by simp only[mZ];rfl,λ_ _=>rfl⟩
theorem iP (C:ch) (e:TypeId):(∀s,sv C e s .au=some (.af (C.T e).sz [],s))/\(∀s a q,sv C e s (.h a q)=dq s (.h a q))/\
  (∀y o sz xs s1,Kj C e y o (some (.af sz xs,s1))=if sz=(C.T e).sz then Fg C e xs (mZ s1 (l5 o y))else none)/\
  (∀xs c7 s2,Fg C e xs (some (c7,s2))=if(∀d∈c7,d.wd=(C.T e).sz)/\(room (C.T e).bytes (xs.length+c7.length)).isSome=true then some (.af (C.T e).sz (xs++c7),s2)else none):=
 ⟨λ_=>rfl,λ_ _ _=>rfl,λ_ _ _ _ _=>rfl,λ_ _ _=>rfl⟩
theorem hR:(∀d,l5 none d=d)/\(∀x d,l5 (some x) d=cB x d)/\(∀x q,J.owner (.h x q)=some x)/\J.owner .au=none:=
 ⟨λ_=>rfl,λ_ _=>rfl,λ_ _=>rfl,rfl⟩
def Su (s:az) (x:Nat) (q:arH):Option J->Option (J×az)
 |some d=>if d.plain=true then none else some (d,dY (hq x s) x (J.put q d.dS (s x)))
 |none=>none
theorem Sv (s:az) (x:Nat) (q:arH):dq s (.h x q)=Su s x q (J.sub q (s x)):=by
 simp only[dq];cases J.sub q (s x)<;>rfl
theorem Sw (s:az):(∀x q d,Su s x q (some d)=if d.plain=true then none else some (d,dY (hq x s) x (J.put q d.dS (s x))))/\(∀k n,dq s (.int k n)=some (.int k n,s))/\(∀b,dq s (.bool b)=some (.bool b,s))/\(∀x,dq s (.str x)=some (.str x,s))/\
  (∀x,dq s (.slice x)=some (.slice x,s))/\(∀x,dq s (.ref x)=some (.ref x,s))/\(∀x,dq s (.agg x)=some (.agg x,s))/\dq s .au=some (.au,s)/\dq s .eh=some (.eh,s):=
 ⟨λ_ _ _=>rfl,λ_ _=>rfl,λ_=>rfl,λ_=>rfl,λ_=>rfl,λ_=>rfl,λ_=>rfl,rfl,rfl⟩
theorem Sy (l:arL) (t:Nat) (d:J):dY (aq l) t d=aq ((t,d)::l):=Bw l t d
theorem Sz:(∀n x,J.dS (.af n x)= .hole)/\(∀x,J.dS (.aG x)= .hole)/\(∀aH,J.dS (.agg aH)= .agg (J.mS aH))/\(∀aH,J.dS (.tuple aH)= .tuple (J.mS aH))/\J.mS []=[]/\(∀d ds,J.mS (d::ds)=d.dS::J.mS ds)/\
  (∀k n,J.dS (.int k n)= .int k n)/\(∀b,J.dS (.bool b)= .bool b)/\(∀x,J.dS (.str x)= .str x)/\(∀x,J.dS (.slice x)= .slice x)/\(∀x,J.dS (.ref x)= .ref x)/\J.dS .au= .au/\J.dS .eh= .eh/\J.dS .hole= .hole:=by
 simp[J.dS,J.mS]
def wR:Option J->Option J
 |some d=>(match d with| .tuple _=>none| .eM _=>none|d=>if d.plain=true then none else some d.share)
 |none=>none
def wS:Option J->Option J
 |some d=>(match d with| .tuple _=>none|d=>some (.ref d.share))
 |none=>none
theorem g_ (s:az) (x:Nat) (q:arH):view s (.h x q)=wR (J.sub q (s x))/\view s (.aw x q)=(if J.gD q (s x)=true then wS (J.sub q (s x))else none):=by
 constructor
 .simp only[view];rfl
 .simp only[view];rfl
theorem ha:(∀n xs,wR (some (.af n xs))=some (.slice (J.shares xs)))/\(∀d,wR (some (.aG d))=some (.ref d.share))/\(∀aH,wR (some (.agg aH))=if J.eu aH=true then none else some (.agg (J.shares aH)))/\
  (∀aH,wS (some (.agg aH))=some (.ref (.agg (J.shares aH))))/\(∀k n,wS (some (.int k n))=some (.ref (.int k n)))/\(∀x,wS (some (.str x))=some (.ref (.str x))):=
 ⟨λ_ _=>by simp[wR,J.plain,J.share],λ_=>by simp[wR,J.plain,J.share],λaH=>by cases h:J.eu aH<;>simp[wR,J.plain,J.share,h],λ_=>by simp[wS,J.share],λ_ _=>by simp[wS,J.share],λ_=>by simp[wS,J.share]⟩
theorem dm:(∀n xs,J.share (.af n xs)= .slice (J.shares xs))/\(∀d,J.share (.aG d)= .ref d.share)/\(∀xs,J.share (.slice xs)= .slice (J.shares xs))/\(∀d,J.share (.ref d)= .ref d.share)/\(∀aH,J.share (.agg aH)= .agg (J.shares aH))/\(∀aH,J.share (.tuple aH)= .tuple (J.shares aH))/\
  (∀k n,J.share (.int k n)= .int k n)/\(∀b,J.share (.bool b)= .bool b)/\(∀x,J.share (.str x)= .str x)/\J.share .au= .au/\J.share .eh= .eh/\J.shares []=[]/\(∀d ds,J.shares (d::ds)=d.share::J.shares ds):=by
 simp[J.share,J.shares]
def eZ (sz:Nat):Option (arM×az)->Option (J×az)
 |some (ds,s1)=>some (.af sz ds,s1)
 |none=>none
def fN:Option (arM×az)->Option (J×az)
 |some (ds,s1)=>some (.agg ds,s1)
 |none=>none
theorem n5 {C:ch} {T e n sz:Nat} {fC:arM} (kj:(C.T T).k= .slice e) (e4:(C.T e).sz=sz) (ca:List.replicate n (C.T e).zero=fC)
  (gF:((C.T e).ok&&((C.T e).zero.wd==sz)&&(flat (C.T e).zero).isSome&&(sz !=0)&&decide (n*sz<=16777216))=true):∀s ps,dz C s T n ps=eZ sz (dZ (λk=>some (k*sz,sz)) s fC [] ps):=by
 intro s ps;subst e4;simp only[Bool.and_eq_true,beq_iff_eq,bne_iff_ne,decide_eq_true_eq]at gF;obtain⟨⟨⟨⟨ae,ag⟩,aK⟩,a3⟩,bI⟩:=gF;unfold dz;rw[kj];simp only;rw[if_pos ⟨ae,ag,aK,a3,bI⟩,ca];cases dZ (λk=>some (k*(C.T e).sz,(C.T e).sz)) s fC [] ps<;>rfl
theorem Kk {C:ch} {T:Nat} {aH:List (TypeId×Nat)} {fC:arM} (kj:(C.T T).k= .struct aH) (ca:(C.T T).zero= .agg fC)
  (gF:((flat (.agg fC)).isSome&&aH.all λf=>(C.T f.1).ok)=true):∀s ps,ey C s T ps=fN (dZ (λk=>(aH[k]?).map λf=>(f.2,(C.T f.1).sz)) s fC [] ps):=by
 intro s ps;simp only[Bool.and_eq_true,List.all_eq_true]at gF;unfold ey;rw[kj,ca];simp only;rw[if_pos ⟨gF.1,gF.2⟩];cases dZ (λk=>(aH[k]?).map λf=>(f.2,(C.T f.1).sz)) s fC [] ps<;>rfl
def cH (place:Nat->Option (Nat×Nat)) (k:Nat) (fC:arM) (os:List (Option Nat)) (r:arL) (o:Option Nat):Option (Nat×Nat)->Option J->Option (J×az)->Option (arM×az)
 |some (off,n),some z,some (d,s1)=>(match d with
  | .tuple _=>none
  |d=>if d.wd=n/\z.wd=n/\J.e1 (fC.take k)=off then dZ place s1 (fC.set k d) (os++[o]) r else none)
 |_,_,_=>none
theorem n6 (place:Nat->Option (Nat×Nat)) (s:az) (fC:arM) (os:List (Option Nat)):dZ place s fC os []=some (fC,s)/\
  (∀k a r,dZ place s fC os ((k,a)::r)=cH place k fC os r (mw os a).owner (place k) fC[k]? (dq s (mw os a))):=by
 refine⟨rfl,λk a r=>?_⟩;simp only[dZ];cases dq s (mw os a)with
 |none=>cases place k<;>cases fC[k]? <;>rfl
 |some p=>
  obtain⟨d,s1⟩:=p;cases place k with
  |none=>cases fC[k]? <;>rfl
  |some q=>cases fC[k]? <;>(cases d<;>rfl)
theorem n7:(∀a,mw [] a=a)/\(∀o os a,mw (o::os) a=mw os (l5 o a)):=⟨λ_=>rfl,λ_ _ _=>rfl⟩
theorem ed:(∀k n,J.owner (.int k n)=none)/\(∀b,J.owner (.bool b)=none)/\(∀x,J.owner (.str x)=none)/\(∀x,J.owner (.slice x)=none)/\(∀x,J.owner (.ref x)=none)/\(∀x,J.owner (.agg x)=none)/\J.owner .eh=none/\J.owner .au=none/\(∀x q,J.owner (.h x q)=some x):=
 ⟨λ_ _=>rfl,λ_=>rfl,λ_=>rfl,λ_=>rfl,λ_=>rfl,λ_=>rfl,rfl,rfl,λ_ _=>rfl⟩
end Go.ek
