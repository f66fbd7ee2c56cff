/- Part of a proof that a law returns true for every input. No condition. -/
import Derived.Test.YteloniioljdceaaGreatDoorFwE
import Derived.Orders
import Derived.KernelRfl
import Derived.Test.YteloniioljdceaaGreatDoorFwA
namespace Go.ca
open Nat Or
section
variable {C:bl} {w0 w:World} {F0 X:Nat->Prop} {n:Fr} {ρ:Nat->Value} {s s1:aj} {a:Act} {av:I} {Q:Exit->Act->World->Prop}
def bs.un (o:bs):bs:=⟨o.dst,o.a6.base,o.guard⟩
theorem xw {ops:Array Oper}:∀{os:List Oper} {rs:List bs},lS n ops os=some rs->os.length=rs.length/\∀(i:Nat) (o:Oper),os[i]? =some o->∃r,rs[i]? =some r/\lR n ops o=some r:=by
 intro os;induction os with
 |nil=>intro rs h;simp only[lS,Option.some.injEq]at h;subst h;exact⟨rfl,λi o h=>by simp at h⟩
 |cons o os ih=>
  intro rs h;simp only[lS]at h;split at h
  .rename_i r QZ U ab;simp only[Option.some.injEq]at h;subst h;obtain⟨bA,bN⟩:=ih ab;refine⟨by simp[bA],λi jP ba=>?_⟩;cases i with
   |zero=>simp at ba;subst ba;exact⟨r,rfl,U⟩
   |succ i=>simpa using bN i jP (by simpa using ba)
  .cases h
theorem xx {o:Oper} {y:Nat->RH} (h:o.guard=none):Region.wanted o y=true:=by simp[Region.wanted,h]
theorem II (h:Rel w0 F0 X n ρ s a w) {ops:Array Oper} {j t:Nat} (bE:(ops[j]?).bind (·.dst)=some t):
  (∀b,s t= .bool b->yielded ops a.tmps j=some b)/\(s t= .tuple []->yielded ops a.tmps j=none):=by
 obtain⟨ad,R,bq,F,S,ax⟩:=h;have fo:=ax.b9 t;refine⟨λb J=>?_,λJ=>?_⟩
 .rw[J]at fo;have az:=ny fo;simp only[yielded,bE,Option.bind_some];rw[Array.getD_eq_getD_getElem?]at az;cases hg:a.tmps[t]? with
  |none=>rw[hg]at az;simp[undef]at az
  |some v=>rw[hg]at az;simp at az;subst az;rfl
 .rw[J]at fo;obtain⟨⟨arr,U,ab⟩,_⟩:=(ar.bx (d:=.tuple []) rfl).1 fo;simp only[yielded,bE,Option.bind_some];rw[Array.getD_eq_getD_getElem?]at U;cases hg:a.tmps[t]? with
  |none=>rfl
  |some v=>rw[hg]at U;simp at U;subst U;rfl
theorem xy (aS:C.cS) {ops:Array Oper} {ros:List bs} {l2:RG} {K:aj->Prop} (aT:∀aq bI an,K aq->Rel w0 F0 X n ρ aq bI an->wpOps C.P ops Q l2 bI an):
  ∀(l:RG),(∀i∈l,(ops[i]? =none->ros[i]? =none)/\∀o,ops[i]? =some o->∃r,ros[i]? =some r/\lR n ops o=some r.un)->
  ∀(s:aj) (a:Act) (w:World),gC C ros s l K->Rel w0 F0 X n ρ s a w->wpOps C.P ops Q (l++l2) a w:=by
 intro l;induction l with
 |nil=>intro _ s a w h ax;exact aT s a w h ax
 |cons i l ih=>
  intro lT s a w h ax;replace ih:=ih λi aC=>lT i (List.mem_cons_of_mem _ aC);rw[List.cons_append];simp only[wpOps];cases ba:ops[i]? with
  |none=>
   simp only[gC,(lT i (by simp)).1 ba]at h;exact ih s a w h ax
  |some o=>
   obtain⟨r,U,ab⟩:=(lT i (by simp)).2 o ba;simp only[gC,U]at h;show(if Region.wanted o (yielded ops a.tmps)=true then o.wp C.P a w (wpOps C.P ops Q (l++l2)) Q\/(o.asks C.P a w/\LetsOut Q)else wpOps C.P ops Q (l++l2) (a.put o.dst undef) w);simp only[lR]at ab;split at ab
   .rename_i uh;split at ab
    .rename_i g hg;obtain⟨rd,a6,rg⟩:=r;simp only[bs.un,Option.some.injEq,bs.mk.injEq]at ab;obtain⟨rfl,bD,rfl⟩:=ab;simp only[iz]at h;have run:∀(b_:aj->Prop),(∀aq,b_ aq->gC C ros aq l K)->kq C s a6 (λav s1=>b_ (fin s1 o.dst av))->o.wp C.P a w (wpOps C.P ops Q (l++l2)) Q:=
      λb_ hK hw=>IH aS ax bD uh hw (λaq bI an ag cI=>ih aq bI an (hK aq ag) cI)
     cases p3:o.guard with
     |none=>
      rw[p3]at hg;simp only[rS,Option.some.injEq]at hg;subst hg;simp only at h;rw[if_pos (xx p3)];exact .inl (run _ (λ_ h=>h) h)
     |some xz=>
      obtain⟨j,b⟩:=xz;rw[p3]at hg;simp only[rS]at hg;split at hg
      .rename_i t aI;simp only[Option.some.injEq]at hg;subst hg;simp only at h;obtain⟨w7,w8⟩:=II ax aI;have BL:∀(b_:gC C ros (fin s o.dst (.tuple [])) l K),wpOps C.P ops Q (l++l2) (a.put o.dst undef) w:=λb_=>ih _ _ _ b_ (Rel.skip ax uh);split at h
       .rename_i dw R;have hy:=w7 dw R;split at h
        .rename_i J;subst J;rw[if_pos (by simp[Region.wanted,p3,hy])];exact .inl (run _ (λ_ h=>h) h)
        .rename_i J;rw[if_neg (by simp[Region.wanted,p3,hy,J])];exact BL h
       .rename_i R;have hy:=w8 R;rw[if_neg (by simp[Region.wanted,p3,hy])];exact BL h
       .exact h.elim
      .cases hg
    .cases ab
   .cases ab
theorem BM (aS:C.cS) {ops:Array Oper} {ros:List bs} (nK:lS n ops ops.toList=some (ros.map bs.un)) {K:aj->Prop} (aT:∀aq bI an,K aq->Rel w0 F0 X n ρ aq bI an->Q .normal bI an):
  ∀(l:RG) (s:aj) (a:Act) (w:World),gC C ros s l K->Rel w0 F0 X n ρ s a w->wpOps C.P ops Q l a w:=by
 obtain⟨hl,lT⟩:=xw nK;intro l s a w h ax;have:=xy (Q:=Q) aS (ros:=ros) (ops:=ops) (l2:=[]) (K:=K) (n:=n) (ρ:=ρ) (w0:=w0) (F0:=F0) (X:=X) (λaq bI an ag cI=>aT aq bI an ag cI) l (λi _=>⟨λba=>by
   rw[List.getElem?_eq_none_iff,<-List.length_map (f:=bs.un),<-hl];have:=Array.getElem?_eq_none_iff.1 ba;simpa using this,λo ba=>by
   obtain⟨aO,fs,ab⟩:=lT i o (by simpa using ba);obtain⟨r,U,rfl⟩:∃r,ros[i]? =some r/\r.un=aO:=by simpa using fs
   exact⟨r,U,ab⟩⟩) s a w h ax
 rwa [List.append_nil]at this
theorem Rel.drawn (h:Rel w0 F0 X n ρ s a w) (k:Nat) (ag:w.drawn<=k):Rel w0 F0 X n ρ s a {w with drawn:=k}:=by
 obtain⟨U,ab,bq,F,S,ay⟩:=h;exact⟨U,ab,bq,F,S,ay.grow (λ_ _=>rfl) (Nat.le_refl _) rfl rfl ⟨rfl,λ_=>ag⟩⟩
theorem IJ (aS:C.cS) {id:Nat} {ops:Array Oper} {ros:List bs} (nK:lS n ops ops.toList=some (ros.map bs.un)) {K:aj->Prop} (aT:∀aq bI an,K aq->Rel w0 F0 X n ρ aq bI an->Q .normal bI an)
  (h:h4 C s ros K) (ax:Rel w0 F0 X n ρ s a w):(Code.region id ops false).wp C.P Q a w:=by
 refine wp_region (BM aS nK aT _ s a w ?_ ax);have:=IC C K ros [] s h;have hl:=(xw nK).1;simp only[List.nil_append,List.length_nil,Nat.add_zero,List.map_id']at this;rw[List.length_map]at hl;rw[<-hl]at this;simpa using this
end
def xA (k8:RE) (l:RG):Prop:=
 l.Nodup/\(∀i,i∈l↔i<k8.length)/\∀u i v,l=u++i::v->∀e∈(k8[i]?).getD [],e∈u
def kr (ops:Array Oper):RE:=ops.toList.map λo=>(o.after.toList.filter λe=>Region.binds .any e).map (·.on)
def rW (k8:RE):Bool:=k8.zipIdx.all λp=>p.1.all λe=>decide (e<p.2)
theorem IK {k8:RE} (h:rW k8=true) {i:Nat} {l:RG} (aC:k8[i]? =some l):∀e∈l,e<i:=by
 intro e he;simp only[rW,List.all_eq_true]at h;have:=h (l,i) (by rw[List.mem_zipIdx_iff_getElem?];exact aC) e he;simpa using this
theorem IL {ops:Array Oper} (J:rW (kr ops)=true):∀(fuel t:Nat) (listed:Array Bool),listed.size=ops.size->((List.range ops.size).filter λi=> !listed.getD i true).length<=fuel->
  (Region.linearise.go .any ops fuel t listed []).Nodup/\(∀i,i∈Region.linearise.go .any ops fuel t listed []↔(i<ops.size/\listed.getD i true=false))/\
   ∀u i v,Region.linearise.go .any ops fuel t listed []=u++i::v->∀e∈((kr ops)[i]?).getD [],listed.getD e false=true\/e∈u:=by
 intro fuel;induction fuel with
 |zero=>
  intro t listed R hl;have rC:((List.range ops.size).filter λi=> !listed.getD i true)=[]:=List.length_eq_zero_iff.1 (le_zero.1 hl);refine⟨by simp[Region.linearise.go],λi=>?_,λu i v h=>by simp[Region.linearise.go]at h⟩;simp only[Region.linearise.go,List.reverse_nil,List.not_mem_nil,false_iff,not_and];intro aC bq;have:i∈((List.range ops.size).filter λi=> !listed.getD i true):=List.mem_filter.2 ⟨List.mem_range.2 aC,by rw[bq];rfl⟩;rw[rC]at this;cases this
 |succ fuel ih=>
  intro t listed R hl;have BN:∀i,i∈Region.ready .any ops listed↔(i<ops.size/\listed.getD i true=false/\∀e∈((kr ops)[i]?).getD [],listed.getD e false=true):=by
   intro i;simp only[Region.ready,List.mem_filter,List.mem_range,Bool.and_eq_true,Bool.not_eq_true'];constructor
   .rintro⟨U,ab,ay⟩;refine⟨U,ab,?_⟩;rw[Array.getElem?_eq_getElem U]at ay;simp only[Option.map_some,Option.getD_some,Array.all_eq_true_iff_forall_mem]at ay;simp only[kr,List.getElem?_map,Array.getElem?_toList,Array.getElem?_eq_getElem U,Option.map_some,Option.getD_some,List.mem_map,List.mem_filter];rintro e ⟨x,⟨ak,jN⟩,rfl⟩;have:=ay x (by simpa using ak);simpa [jN]using this
   .rintro⟨U,ab,ay⟩;refine⟨U,ab,?_⟩;rw[Array.getElem?_eq_getElem U];simp only[Option.map_some,Option.getD_some,Array.all_eq_true_iff_forall_mem];simp only[kr,List.getElem?_map,Array.getElem?_toList,Array.getElem?_eq_getElem U,Option.map_some,Option.getD_some,List.mem_map,List.mem_filter]at ay;intro x ak;cases jN:Region.binds .any x with
    |false=>simp
    |true=>simpa using ay x.on ⟨x,⟨by simpa using ak,jN⟩,rfl⟩
  have hex:(∃i,i<ops.size/\listed.getD i true=false)->Region.ready .any ops listed≠[]:=by
   rintro⟨i,U,ab⟩;have:∃i,(i<ops.size/\listed.getD i true=false)/\∀j,j<i->¬(j<ops.size/\listed.getD j true=false):=by
    induction i using Nat.strongRecOn with
    |_ i IM=>
     by_cases bE:∃j,j<i/\(j<ops.size/\listed.getD j true=false)
     .obtain⟨j,IP,IQ,IU⟩:=bE;exact IM j IP IQ IU
     .exact⟨i,⟨U,ab⟩,λj IV ae=>bE ⟨j,IV,ae⟩⟩
   obtain⟨k,⟨bA,bN⟩,bO⟩:=this;have:k∈Region.ready .any ops listed:=(BN k).2 ⟨bA,bN,λe he=>by
    cases a1:(kr ops)[k]? with
    |none=>rw[a1]at he;simp at he
    |some l=>
     rw[a1]at he;have cq:=IK J a1 e he;have:=bO e cq;rw[not_and]at this;have:=this (by omega);have xB:e<listed.size:=by omega
     simp only[Array.getD_eq_getD_getElem?,Array.getElem?_eq_getElem xB,Option.getD_some]at this⊢;simpa using this⟩
   intro e;rw[e]at this;cases this
  have nL:Region.linearise.go .any ops (fuel+1) t listed []=(match(Region.ready .any ops listed)[t%(Region.ready .any ops listed).length]? with
   |some i=>Region.linearise.go .any ops fuel (t/(Region.ready .any ops listed).length) (listed.setIfInBounds i true) [i]
   |none=>[]):=rfl
  cases rX:(Region.ready .any ops listed)[t%(Region.ready .any ops listed).length]? with
  |none=>
   have rC:Region.ready .any ops listed=[]:=by
    cases ax:Region.ready .any ops listed with
    |nil=>rfl
    |cons a l=>
     rw[ax]at rX;have:=List.getElem?_eq_none_iff.1 rX;have ab:=mod_lt t (show 0<(a::l).length by simp);omega
   rw[nL,rX];refine⟨by simp,λi=>?_,λu i v h=>by simp at h⟩;simp only[List.not_mem_nil,false_iff];intro aC;exact hex ⟨i,aC⟩ rC
  |some i=>
   have aC:=(BN i).1 (List.mem_of_getElem? rX);obtain⟨rY,ui,IW⟩:=aC;rw[nL,rX];simp only;rw[linearise_go_acc];simp only[List.reverse_singleton,List.singleton_append];have kc:∀j d,(listed.setIfInBounds i true).getD j d=if j=i then true else listed.getD j d:=by
    intro j d;split
    .rename_i e;subst e;simp[Array.getD_eq_getD_getElem?,Array.getElem?_setIfInBounds_self_of_lt (show j<listed.size by omega)]
    .rename_i e;simp[Array.getD_eq_getD_getElem?,Array.getElem?_setIfInBounds_ne (λh=>e h.symm)]
   obtain⟨g1,g2,g3⟩:=ih (t/(Region.ready .any ops listed).length) (listed.setIfInBounds i true) (by simpa using R) (by
    have cZ:((List.range ops.size).filter λj=> !(listed.setIfInBounds i true).getD j true)=((List.range ops.size).filter λi=> !listed.getD i true).filter λj=>decide (j≠i):=by
     rw[List.filter_filter];apply List.filter_congr;intro j _;rw[kc];by_cases e:j=i<;>simp[e]
    rw[cZ];have cq:(((List.range ops.size).filter λi=> !listed.getD i true).filter λj=>decide (j≠i)).length<((List.range ops.size).filter λi=> !listed.getD i true).length:=by
     rw[List.length_filter_lt_length_iff_exists];exact⟨i,List.mem_filter.2 ⟨List.mem_range.2 rY,by rw[ui];rfl⟩,by simp⟩
    omega)
   refine⟨?_,λj=>?_,?_⟩
   .rw[List.nodup_cons];refine⟨λhm=>?_,g1⟩;have:=((g2 i).1 hm).2;rw[kc,if_pos rfl]at this;cases this
   .rw[List.mem_cons,g2,kc];by_cases e:j=i
    .subst e;simp[rY,ui]
    .simp[e]
   .intro u j v h e he;cases u with
    |nil=>
     simp only[List.nil_append,List.cons.injEq]at h;obtain⟨rfl,rfl⟩:=h;exact .inl (IW e he)
    |cons xC u=>
     simp only[List.cons_append,List.cons.injEq]at h;obtain⟨rfl,h⟩:=h;rcases g3 u j v h e he with aN|aN
     .rw[kc]at aN;split at aN
      .rename_i ej;subst ej;exact .inr (by simp)
      .exact .inl aN
     .exact .inr (by simp[aN])
theorem IX {ops:Array Oper} (J:rW (kr ops)=true) (t:Nat):xA (kr ops) (Region.linearise .any ops t):=by
 have BO:∀i d,i<ops.size->(Array.replicate ops.size false).getD i d=false:=by
  intro i d aC;simp[Array.getD_eq_getD_getElem?,aC]
 obtain⟨g1,g2,g3⟩:=IL J ops.size t (Array.replicate ops.size false) (by simp) (by
  have:=List.length_filter_le (λi=> !(Array.replicate ops.size false).getD i true) (List.range ops.size);simpa using this)
 have hlen:(kr ops).length=ops.size:=by simp[kr]
 refine⟨g1,λi=>?_,λu i v h e he=>?_⟩
 .rw[hlen];rw[show Region.linearise .any ops t=Region.linearise.go .any ops ops.size t (Array.replicate ops.size false) []from rfl,g2];exact⟨λh=>h.1,λh=>⟨h,BO i true h⟩⟩
 .rcases g3 u i v h e he with aN|aN
  .exfalso;by_cases BP:e<ops.size
   .rw[BO e false BP]at aN;cases aN
   .simp[Array.getD_eq_getD_getElem?,BP]at aN
  .exact aN
def au:RK->aj
 |[],_=>.hole
 |(u,d)::l,t=>if t=u then d else au l t
mutual
inductive dc:I->I->Prop
 |refl (d:I):dc d d
 |h5 (sz:Nat):dc .bz (.aE sz [])
 |p4:dc .bz (.slice [])
 |any (b:Bool):dc (.bool b) .dB
 |share (d:I):d.tree=true->(∀vs,d≠.tuple vs)->(∀o,d≠.cf o)->(∀f c,d≠.dE f c)->dc d d.share
 |agg {ds es:RL}:hi ds es->dc (.agg ds) (.agg es)
 |bC {d e:I}:dc d e->dc (.bC d) (.bC e)
 |aE {sz:Nat} {ds es:RL}:hi ds es->dc (.aE sz ds) (.aE sz es)
 |tuple {ds es:RL}:hi ds es->dc (.tuple ds) (.tuple es)
 |ref {d e:I}:dc d e->dc (.ref d) (.ref e)
 |trans {d e f:I}:dc d e->dc e f->dc d f
inductive hi:RL->RL->Prop
 |nil:hi [] []
 |cons {d e:I} {ds es:RL}:dc d e->hi ds es->hi (d::ds) (e::es)
end
mutual
theorem dc.wd:∀{d e:I},dc d e->e.wd=d.wd
 |_,_,.refl _=>rfl
 |_,_,.h5 _=>rfl
 |_,_,.p4=>rfl
 |_,_,.any _=>rfl
 |_,_,.share d _ _ _ _=>I.ts d
 |_,_,.agg h=>by simp only[I.wd];exact hi.wd h
 |_,_,.bC _=>rfl
 |_,_,.aE _=>rfl
 |_,_,.tuple h=>by simp only[I.wd];exact hi.wd h
 |_,_,.ref _=>rfl
 |_,_,.trans h k=>(dc.wd k).trans (dc.wd h)
theorem hi.wd:∀{ds es:RL},hi ds es->I.cp es=I.cp ds
 |_,_,.nil=>rfl
 |_,_,.cons h R=>by simp only[I.cp];rw[dc.wd h,hi.wd R]
end
theorem hi.len {ds es:RL} (h:hi ds es):es.length=ds.length:=by
 induction ds generalizing es with
 |nil=>cases h;rfl
 |cons d ds ih=>cases h with|cons h R=>simp[ih R]
theorem hi.all {sz:Nat} {ds es:RL} (h:hi ds es) (ad:∀d∈ds,d.wd=sz):∀d∈es,d.wd=sz:=by
 induction ds generalizing es with
 |nil=>cases h;intro d ad;cases ad
 |cons d ds ih=>
  cases h with
  |cons h R=>
   intro x ak;rcases List.mem_cons.1 ak with rfl|ak
   .rw[h.wd];exact ad d (by simp)
   .exact ih R (λd hm=>ad d (by simp[hm])) x ak
section
variable {w0 w:World} {F0 X F:Nat->Prop} {S:Nat->Nat->Prop} {s aq:aj} {ao:Nat->Value}
def IY (w:World) (F:Nat->Prop) (_d e:I) (cs:RJ) (S:Nat->Prop):Prop:=
 ∃fb fc:Nat->Prop,(∀b,fb b->S b)/\(∀b,fc b->S b)/\(∀b,fc b->¬fb b)/\∀a8,(∀b,F b\/fb b->a8 b)->ah w a8 e cs fc
mutual
theorem ah.wider:∀{d e:I},dc d e->∀{F:Nat->Prop} {cs:RJ} {S:Nat->Prop},ah w F d cs S->IY w F d e cs S
 |_,_,.refl _,F,cs,S,h=>⟨λ_=>False,S,λ_ h=>h.elim,λ_ h=>h,λ_ _ h=>h,λa8 aL=>ah.mono (λb J=>aL b (.inl J)) _ _ _ _ (λ_ h=>h) h⟩
 | .bz,_,.h5 sz,F,cs,S,h=>⟨λ_=>False,S,λ_ h=>h.elim,λ_ h=>h,λ_ _ h=>h,λa8 aL=>by simp only[ah]at h⊢;exact .inl ⟨trivial,_,h⟩⟩
 | .bz,_,.p4,F,cs,S,h=>⟨λ_=>False,S,λ_ h=>h.elim,λ_ h=>h,λ_ _ h=>h,λa8 aL=>by simp only[ah]at h⊢;exact .inl ⟨trivial,none,0,h,zero_le _,λ_=>rfl⟩⟩
 | .bool _,_,.any b,F,cs,S,h=>⟨λ_=>False,S,λ_ h=>h.elim,λ_ h=>h,λ_ _ h=>h,λa8 aL=>by simp only[ah]at h⊢;exact⟨b,h⟩⟩
 |_,_,.share d _ _ _ _,F,cs,S,h=>⟨S,λ_=>False,λ_ h=>h,λ_ h=>h.elim,λ_ h=>h.elim,λa8 aL=>ah.shared (λb J=>aL b (.inl J)) d cs S (λb J=>aL b (.inr J)) h⟩
 |_,_,.agg gg,F,cs,S,h=>by
  rw[ah]at h;obtain⟨fb,fc,U,ab,ay,aQ⟩:=aH.wider gg h;exact⟨fb,fc,U,ab,ay,λa8 aL=>by rw[ah];exact aQ a8 aL⟩
 |_,_,.bC ad,F,cs,S,h=>by
  rw[ah]at h;obtain⟨b,cur,ty,fr,aB,bA,bN,bO,bL,cz,db,fV⟩:=h;obtain⟨fb,fc,U,ab,ay,aQ⟩:=ah.wider ad cz;refine⟨fb,λc=>c=b\/fc c,λc ae=>db c (U c ae),?_,?_,λa8 aL=>?_⟩
  .rintro c (rfl|ae)
   .exact bN
   .exact db c (ab c ae)
  .rintro c (rfl|ae) bq
   .exact fV (U _ bq)
   .exact ay c ae bq
  .rw[ah];exact⟨b,cur,ty,fr,fc,bA,.inl rfl,bO,bL,aQ a8 aL,λc ae=>.inr ae,λae=>fV (ab _ ae)⟩
 | .aE sz ds,.aE _ es,.aE gg,F,cs,S,h=>by
   rw[ah]at h;have hl:=gg.len;rcases h with⟨U,ab⟩|⟨b,cap,cur,ty,fr,aB,bA,bN,bO,bL,cz,db,fV,hd,iU,jL,BQ⟩
   .refine⟨λ_=>False,S,λ_ h=>h.elim,λ_ h=>h,λ_ _ h=>h,λa8 _=>?_⟩;rw[ah];subst U;exact .inl ⟨List.length_eq_zero_iff.1 (by simpa using hl),ab⟩
   .obtain⟨fb,fc,U,ab,ay,aQ⟩:=aH.wider gg iU;refine⟨fb,λc=>c=b\/fc c,λc ae=>jL c (U c ae),?_,?_,λa8 aL=>?_⟩
    .rintro c (rfl|ae)
     .exact bN
     .exact jL c (ab c ae)
    .rintro c (rfl|ae) bq
     .exact BQ (U _ bq)
     .exact ay c ae bq
    .rw[ah];refine .inr ⟨b,cap,cur,ty,fr,fc,by rw[hl];exact bA,.inl rfl,bO,bL,by rw[hl];exact cz,db,fV,gg.all hd,by rw[hl];exact aQ a8 aL,λc ae=>.inr ae,λae=>BQ (ab _ ae)⟩
 |_,_,.tuple gg,F,cs,S,h=>by
  rw[ah]at h;obtain⟨fb,fc,U,ab,ay,aQ⟩:=aH.wider gg h;exact⟨fb,fc,U,ab,ay,λa8 aL=>by rw[ah];exact aQ a8 aL⟩
 |_,_,.ref ad,F,cs,S,h=>by
  rw[ah]at h;obtain⟨b,o,cV,U,ab,ay,aQ⟩:=h;obtain⟨fb,fc,bA,bN,bO,bL⟩:=ah.wider ad aQ;refine⟨λ_=>False,S,λ_ h=>h.elim,λ_ h=>h,λ_ _ h=>h,λa8 aL=>?_⟩;rw[ah];exact⟨b,o,cV,U,aL _ (.inl ab),ay,ah.mono (λ_ h=>h) _ _ _ _ (λb J=>bN b J) (bL a8 λb J=>aL b (J.imp id λh=>(bA b h).elim))⟩
 |_,_,.trans ad he,F,cs,S,h=>by
  obtain⟨fb,fc,U,ab,ay,aQ⟩:=ah.wider ad h;obtain⟨xD,uj,bA,bN,bO,bL⟩:=ah.wider he (F:=λb=>F b\/fb b) (aQ _ λ_ h=>h);refine⟨λb=>fb b\/xD b,uj,?_,λb J=>ab b (bN b J),?_,λa8 aL=>bL a8 λb J=>?_⟩
  .rintro b (h|h)
   .exact U b h
   .exact ab b (bA b h)
  .rintro b J (h|h)
   .exact ay b (bN b J) h
   .exact bO b J h
  .rcases J with(J|J)|J
   .exact aL b (.inl J)
   .exact aL b (.inr (.inl J))
   .exact aL b (.inr (.inr J))
theorem aH.wider:∀{ds es:RL},hi ds es->∀{F:Nat->Prop} {cs:RJ} {S:Nat->Prop},aH w F ds cs S->
  ∃fb fc:Nat->Prop,(∀b,fb b->S b)/\(∀b,fc b->S b)/\(∀b,fc b->¬fb b)/\∀a8,(∀b,F b\/fb b->a8 b)->aH w a8 es cs fc
 |_,_,.nil,F,cs,S,h=>⟨λ_=>False,λ_=>False,λ_ h=>h.elim,λ_ h=>h.elim,λ_ h=>h.elim,λa8 aL=>by rw[aH]at h⊢;exact h⟩
 |_,_,.cons ad gg,F,cs,S,h=>by
  rw[aH]at h;obtain⟨bb,c2,bg,b0,rfl,g2,g3,g4,g5,g6⟩:=h;obtain⟨IZ,BR,aw,a2,a3,a4⟩:=ah.wider ad g2;obtain⟨xD,uj,e0,dW,iw,b3⟩:=aH.wider gg g3;refine⟨λb=>IZ b\/xD b,λb=>BR b\/uj b,?_,?_,?_,λa8 aL=>?_⟩
  .rintro b (h|h)
   .exact g4 b (aw b h)
   .exact g5 b (e0 b h)
  .rintro b (h|h)
   .exact g4 b (a2 b h)
   .exact g5 b (dW b h)
  .rintro b (h|h) (aN|aN)
   .exact a3 b h aN
   .exact g6 b (a2 b h) (e0 b aN)
   .exact g6 b (aw b aN) (dW b h)
   .exact iw b h aN
  .rw[aH];refine⟨bb,c2,BR,uj,rfl,a4 a8 (λb J=>aL b (J.imp id .inl)),b3 a8 (λb J=>aL b (J.imp id .inr)),λb J=>.inl J,λb J=>.inr J,λb U ab=>g6 b (a2 b U) (dW b ab)⟩
end
theorem dc.uk:∀{d e:I},dc d e->(∀vs,d≠.tuple vs)->∀vs,e≠.tuple vs
 |_,_,.refl _,h=>h
 |_,_,.h5 _,_=>λ_ h=>by cases h
 |_,_,.p4,_=>λ_ h=>by cases h
 |_,_,.any _,_=>λ_ h=>by cases h
 |_,_,.share d _ _ _ _,h=>λvs he=>by cases d<;>first|(cases he;done)|exact h _ rfl
 |_,_,.agg _,_=>λ_ h=>by cases h
 |_,_,.bC _,_=>λ_ h=>by cases h
 |_,_,.aE _,_=>λ_ h=>by cases h
 |_,_,.tuple _,h=>λ_ _=>h _ rfl
 |_,_,.ref _,_=>λ_ h=>by cases h
 |_,_,.trans h k,aT=>dc.uk k (dc.uk h aT)
theorem dc.eS:∀{d e:I} {v:Value},dc d e->(∀vs,d≠.tuple vs)->ca.eS d v->ca.eS e v
 |_,_,_,.refl _,_,h=>h
 |_,_,_,.h5 _,_,h=>h
 |_,_,_,.p4,_,h=>h
 |_,_,_,.any _,_,h=>h
 |_,_,_,.share d _ aT _ _,_,h=>by cases d<;>first|exact h|exact(aT _ rfl).elim
 |_,_,_,.agg _,_,h=>h
 |_,_,_,.bC _,_,h=>h
 |_,_,_,.aE _,_,h=>h
 |_,_,_,.tuple _,aT,_=>(aT _ rfl).elim
 |_,_,_,.ref _,_,h=>h
 |_,_,_,.trans h k,aT,R=>dc.eS k (dc.uk h aT) (dc.eS h aT R)
theorem hi.get:∀{ds es:RL},hi ds es->∀(k:Nat) (e:I),es[k]? =some e->∃d,ds[k]? =some d/\dc d e
 |_,_,.nil,k,e,h=>by simp at h
 |_,_,.cons ad R,0,e,h=>by simp at h;subst h;exact⟨_,rfl,ad⟩
 |_,_,.cons ad R,k+1,e,h=>hi.get R k e (by simpa using h)
theorem dc.b7:∀{d e:I} {v:Value},dc d e->ca.b7 d v->ca.b7 e v
 |_,_,_,.refl _,R=>R
 |_,_,_,.h5 _,R=>R
 |_,_,_,.p4,R=>R
 |_,_,_,.any _,R=>R
 |_,_,_,.share _ _ jl _ _,R=>xj jl R
 |_,_,_,.agg _,R=>R
 |_,_,_,.bC _,R=>R
 |_,_,_,.aE _,R=>R
 |_,_,_,.ref _,R=>R
 |_,_,_,.tuple ad,R=>by
  obtain⟨arr,U,ab,ay⟩:=R;refine⟨arr,U,ab.trans ad.len.symm,λk e x he ak=>?_⟩;obtain⟨d,ag,hw⟩:=ad.get k e he;obtain⟨aw,a2,a3⟩:=ay k d x ag ak;exact⟨hw.eS a2 aw,hw.uk a2,a3.trans hw.wd.symm⟩
 |_,_,_,.trans h k,R=>dc.b7 k (dc.b7 h R)
theorem dc.tree:∀{d e:I},dc d e->d.tree=true->e.tree=true
 |_,_,.refl _,ad=>ad
 |_,_,.h5 _,_=>rfl
 |_,_,.p4,_=>rfl
 |_,_,.any _,_=>rfl
 |_,_,.share d _ _ hx xk,ad=>by cases d<;>first|exact ad|rfl|exact(hx _ rfl).elim|exact(xk _ _ rfl).elim
 |_,_,.agg _,_=>rfl
 |_,_,.bC _,_=>rfl
 |_,_,.aE _,_=>rfl
 |_,_,.tuple _,_=>rfl
 |_,_,.ref _,_=>rfl
 |_,_,.trans h k,ad=>dc.tree k (dc.tree h ad)
mutual
def I.oU:I->RG
 | .h x q=>if q.isEmpty then []else [x]
 | .af x _=>[x]
 | .J x _=>[x]
 | .fn _ cap=>I.rZ cap
 |_=>[]
def I.rZ:RL->RG
 |[]=>[]
 |d::ds=>d.oU++I.rZ ds
end
def r0 (s aq:aj) (x:Nat) (D:RG):Prop:=aq x=s x\/aq x= .hole\/((s x).own=true/\(aq x).own=true/\x∉D)
theorem r0.less {s aq:aj} {x:Nat} {D E:RG} (h:r0 s aq x D) (mF:∀u∈E,u∈D):r0 s aq x E:=by
 rcases h with h|h|⟨U,ab,ay⟩
 .exact .inl h
 .exact .inr (.inl h)
 .exact .inr (.inr ⟨U,ab,λak=>ay (mF x ak)⟩)
theorem ar.keep {a8:Nat->Prop} (aL:∀b,F b->a8 b):∀n,(∀(d:I) (v:Value) (ck:Nat->Prop),SizeOf.sizeOf d<=n->(∀x∈d.R,r0 s aq x d.oU)->ar w F s ao d v ck->ar w a8 aq ao d v ck)/\
  (∀(ds:RL) (vs:RJ),SizeOf.sizeOf ds<=n->(∀x∈I.cn ds,r0 s aq x (I.rZ ds))->cE w F s ao ds vs->cE w a8 aq ao ds vs):=by
 intro n;induction n with
 |zero=>
  refine⟨λd v ck bt=>?_,λds vs bt=>?_⟩
  .cases d<;>simp at bt<;>omega
  .cases ds<;>simp at bt<;>omega
 |succ n ih=>
  refine⟨λd v ck bt ag h=>?_,λds vs bt ag h=>?_⟩
  .cases d with
   |hole=>rw[ar];trivial
   |h x q=>
    rw[ar]at h⊢;intro e cZ af;rcases ag x (by simp[I.R])with he|he|⟨BS,I0,r1⟩
    .rw[he]at cZ⊢;exact h e cZ af
    .rw[he]at cZ;cases q with
     |nil=>simp only[I.sub,Option.some.injEq]at cZ;subst cZ;simp[I.plain]at af
     |cons k q=>simp[I.sub]at cZ
    .cases q with
     |nil=>
      simp only[I.sub,Option.some.injEq]at cZ;subst cZ;obtain⟨bF,a0,eo,eF,fj⟩:=h (s x) (by simp only[I.sub]) (tZ BS).1;simp only[b6,Option.some.injEq,Prod.mk.injEq,true_and]at eo;exact⟨bn (ao x),none,by simp only[b6],by rw[eF,<-eo.1],((tZ I0).2.2.2.2.2 _).2 (((tZ BS).2.2.2.2.2 _).1 fj)⟩
     |cons k q=>exact(r1 (by simp[I.oU])).elim
   |af x q=>
    rw[ar]at h⊢;intro e cZ ae;rcases ag x (by simp[I.R])with he|he|⟨_,_,r1⟩
    .rw[he]at cZ ae⊢;exact h e cZ ae
    .rw[he]at ae;cases q<;>simp[I.dt]at ae
    .exact(r1 (by simp[I.oU])).elim
   |J x k=>
    rw[ar]at h⊢;intro af;rcases ag x (by simp[I.R])with he|he|⟨_,_,r1⟩
    rotate_left 2
    .exact(r1 (by simp[I.oU])).elim
    .rw[he]at af;obtain⟨b,cur,e,fr,U,ab,ay,aQ⟩:=h af;exact⟨b,cur,e,fr,U,aL b ab,ay,aQ⟩
    .rw[he]at af;simp[I.plain]at af
   |fn f cap=>
    rw[ar]at h⊢;obtain⟨arr,rfl,ae⟩:=h;exact⟨arr,rfl,ih.2 _ _ (by simp at bt;omega) (by simpa [I.R,I.oU]using ag) ae⟩
   |_=>
    have aN:=(ar.bx rfl).1 h;exact(ar.bx rfl).2 ⟨aN.1,ah.mono aL _ _ _ _ (λ_ h=>h) aN.2⟩
  .cases ds with
   |nil=>rw[cE]at h⊢;exact h
   |cons d ds=>
    rw[cE]at h⊢;obtain⟨v,hV,rfl,U,ab⟩:=h;simp at bt;simp only[I.cn,List.mem_append]at ag;exact⟨v,hV,rfl,ih.1 _ _ _ (by omega) (λx ak=>(ag x (.inl ak)).less λu hu=>by simp[I.rZ,hu]) U,ih.2 _ _ (by omega) (λx ak=>(ag x (.inr ak)).less λu hu=>by simp[I.rZ,hu]) ab⟩
def p5 (s:aj) (l:RK):Prop:=
 ∀p∈l,p.2=s p.1\/((s p.1).tree=true/\dc (s p.1) p.2/\∀bw∈l,p.1∉bw.2.R\/((s p.1).own=true/\p.2.own=true/\p.1∉bw.2.oU))
theorem BT:∀(l:RK) (t:Nat),au l t= .hole\/∃p∈l,p.1=t/\au l t=p.2:=by
 intro l;induction l with
 |nil=>intro t;exact .inl rfl
 |cons p l ih=>
  intro t;obtain⟨u,d⟩:=p;simp only[au];split
  .rename_i e;exact .inr ⟨(u,d),by simp,e.symm,rfl⟩
  .rcases ih t with h|⟨p,af,h⟩
   .exact .inl h
   .exact .inr ⟨p,by simp[af],h⟩
theorem aZ.BU (h:aZ w0 F0 X F S s ao w) {l:RK} (hw:p5 s l):∃a8 aB,aZ w0 F0 X a8 aB (au l) ao w:=by
 have each:∀t,∃fb fc:Nat->Prop,(∀b,fb b->S t b)/\(∀b,fc b->S t b)/\(∀b,fc b->¬fb b)/\∀a8,(∀b,F b\/fb b->a8 b)->ar w a8 (au l) ao (au l t) (ao t) fc:=by
  intro t;rcases BT l t with e|⟨p,af,rfl,e⟩
  .exact⟨λ_=>False,λ_=>False,λ_ h=>h.elim,λ_ h=>h.elim,λ_ h=>h.elim,λa8 _=>by rw[e,ar];trivial⟩
  .rw[e];rcases hw p af with ag|⟨aI,g_,_⟩
   .refine⟨λ_=>False,S p.1,λ_ h=>h.elim,λ_ h=>h,λ_ _ h=>h,λa8 aL=>?_⟩;rw[ag];refine(ar.keep (λb J=>aL b (.inl J)) (SizeOf.sizeOf (s p.1))).1 _ _ _ (Nat.le_refl _) ?_ (h.b9 p.1);intro x ak;rcases BT l x with ej|⟨bw,cD,rfl,ej⟩
    .exact .inr (.inl ej)
    .rcases hw bw cD with h0|⟨_,_,hx⟩
     .exact .inl (ej.trans h0)
     .rcases hx p af with hx|⟨iy,jm,t_⟩
      .exact(hx (by rw[ag];exact ak)).elim
      .exact .inr (.inr ⟨iy,by rw[ej];exact jm,by rw[ag]at t_;exact t_⟩)
   .obtain⟨g1,g2⟩:=(ar.bx aI).1 (h.b9 p.1);obtain⟨fb,fc,bA,bN,bO,bL⟩:=ah.wider g_ g2;exact⟨fb,fc,bA,bN,bO,λa8 aL=>(ar.bx (g_.tree aI)).2 ⟨g_.b7 g1,bL a8 aL⟩⟩
 have bb:=λt=>(each t).choose_spec;let fb:=λt=>(each t).choose
 have c2:=λt=>(bb t).choose_spec;let fc:=λt=>(bb t).choose
 have ek:∀t b,fb t b->S t b:=λt=>(c2 t).1;have dx:∀t b,fc t b->S t b:=λt=>(c2 t).2.1;have fU:∀t b,fc t b->¬fb t b:=λt=>(c2 t).2.2.1;have hF:=λt=>(c2 t).2.2.2;refine⟨λb=>F b\/∃t,fb t b,fc,λb J=>.inl (h.eK b J),?_,?_,λt b J=>h.c1 t b (dx t b J),?_,λt u b bT J hu=>h.du t u b bT (dx t b J) (dx u b hu),λt b J=>h.ck t b (dx t b J),?_,h.old,h.size,h.os,h.tape,h.output,h.ef⟩
 .rintro b (J|⟨t,J⟩)
  .exact h.eY b J
  .exact .inr (h.ck t b (ek t b J))
 .rintro b (J|⟨t,J⟩)
  .exact h.dk b J
  .exact h.c1 t b (ek t b J)
 .rintro t b J (bq|⟨u,hu⟩)
  .exact h.dN t b (dx t b J) bq
  .by_cases e:t=u
   .subst e;exact fU t b J hu
   .exact h.du t u b e (dx t b J) (ek u b hu)
 .intro t;exact hF t _ (λb J=>J.imp id λh=>⟨t,h⟩)
end
inductive aK where
 |skip
 |dX (ros:List bs) (keep:Option RG)
 |hj (ros:List bs) (k8:RE) (keep:Option RG)
 |seq (a b:aK)
 |cond (c:aR) (a b:aK)
 |block (id:Nat) (b:aK)
 |loop (b:aK)
 |exit (id:Nat)
 |ret
 |gq (T:(Exit->aj->Prop)->aj->Prop) (b:aK)
 |raw (c:Code)
def el (n:Fr):Code->Option aK
 | .skip=>some .skip
 | .region id ops false=>match lS n ops ops.toList with
   |some r=>some (.dX r none)
   |none=>some (.raw (.region id ops false))
 | .region _ ops true=>if rW (kr ops)=true then(lS n ops ops.toList).map λr=>.hj r (kr ops) none else none
 | .seq a b=>match el n a,el n b with
   |some a,some b=>some (.seq a b)
   |_,_=>none
 | .cond c a b=>match ch c,el n a,el n b with
   |some c,some a,some b=>some (.cond c a b)
   |_,_,_=>none
 | .block id b=>(el n b).map (.block id)
 | .loop b=>(el n b).map .loop
 | .exit id=>some (.exit id)
 | .ret=>some .ret
 |_=>none
def aK.h6:aK->aK
 | .dX ros _=>.dX ros none
 | .hj ros dn _=>.hj ros dn none
 | .seq a b=>.seq a.h6 b.h6
 | .cond c a b=>.cond c a.h6 b.h6
 | .block id b=>.block id b.h6
 | .loop b=>.loop b.h6
 | .gq T b=>.gq T b.h6
 |c=>c
def aK.strip:aK->aK
 | .dX ros _=>.dX (ros.map bs.un) none
 | .hj ros dn _=>.hj (ros.map bs.un) dn none
 | .seq a b=>.seq a.strip b.strip
 | .cond c a b=>.cond c a.strip b.strip
 | .block id b=>.block id b.strip
 | .loop b=>.loop b.strip
 | .gq _ b=>b.strip
 |c=>c
theorem aK.BV:∀c:aK,c.h6.strip=c.strip:=by
 intro c;induction c with
 |seq a b gD gE=>simp only[aK.h6,aK.strip,gD,gE]
 |cond c a b gD gE=>simp only[aK.h6,aK.strip,gD,gE]
 |block id b ih=>simp only[aK.h6,aK.strip,ih]
 |loop b ih=>simp only[aK.h6,aK.strip,ih]
 |gq T b ih=>simp only[aK.h6,aK.strip,ih]
 |_=>rfl
def aK.bare (H:((Exit->aj->Prop)->aj->Prop)->aK->Prop):aK->Prop
 | .dX _ k=>k=none
 | .hj _ _ k=>k=none
 | .seq a b=>a.bare H/\b.bare H
 | .cond _ a b=>a.bare H/\b.bare H
 | .block _ b=>b.bare H
 | .loop b=>b.bare H
 | .gq T b=>H T b
 |_=>True
def aK.lU (H:((Exit->aj->Prop)->aj->Prop)->aK->Prop):aK->Prop
 | .seq a b=>a.lU H/\b.lU H
 | .cond _ a b=>a.lU H/\b.lU H
 | .block _ b=>b.lU H
 | .loop b=>b.lU H
 | .gq T b=>H T b.h6
 |_=>True
theorem aK.BW {H:((Exit->aj->Prop)->aj->Prop)->aK->Prop}:∀c:aK,c.lU H->c.h6.bare H:=by
 intro c;induction c with
 |seq a b gD gE=>intro h;exact⟨gD h.1,gE h.2⟩
 |cond c a b gD gE=>intro h;exact⟨gD h.1,gE h.2⟩
 |block id b ih=>intro h;exact ih h
 |loop b ih=>intro h;exact ih h
 |dX=>intro _;rfl
 |hj=>intro _;rfl
 |gq T b _=>intro h;exact h
 |_=>intro _;trivial
def aK.plain:aK->Bool
 | .seq a b=>a.plain&&b.plain
 | .cond _ a b=>a.plain&&b.plain
 | .block _ b=>b.plain
 | .loop b=>b.plain
 | .gq _ _=>false
 |_=>true
theorem aK.I1 {H:((Exit->aj->Prop)->aj->Prop)->aK->Prop}:∀c:aK,c.plain=true->c.lU H:=by
 intro c;induction c with
 |seq a b gD gE=>intro h;simp only[aK.plain,Bool.and_eq_true]at h;exact⟨gD h.1,gE h.2⟩
 |cond c a b gD gE=>intro h;simp only[aK.plain,Bool.and_eq_true]at h;exact⟨gD h.1,gE h.2⟩
 |block id b ih=>intro h;exact ih h
 |loop b ih=>intro h;exact ih h
 |gq T b _=>intro h;cases h
 |_=>intro _;trivial
def andThen (K:aj->Prop) (Q:Exit->aj->Prop):Exit->aj->Prop
 | .normal,s=>K s
 |e,s=>Q e s
def p6 (id:Nat) (Q:Exit->aj->Prop):Exit->aj->Prop
 | .exit i,s=>if i=id then Q .normal s else Q (.exit i) s
 |e,s=>Q e s
def dY (K:aj->Prop) (s:aj):Prop:=K s\/∃l,p5 s l/\K (au l)
def r2:Option RG->(aj->Prop)->aj->Prop
 |none,K,s=>dY K s
 |some k,K,s=>K (au (k.map λt=>(t,s t)))
def bd (C:bl):aK->(Exit->aj->Prop)->aj->Prop
 | .skip,Q,s=>Q .normal s
 | .dX ros keep,Q,s=>h4 C s ros (r2 keep (Q .normal))
 | .hj ros k8 keep,Q,s=>∀l,xA k8 l->gC C ros s l (r2 keep (Q .normal))
 | .seq a b,Q,s=>bd C a (andThen (dY (bd C b Q)) Q) s
 | .cond c a b,Q,s=>match aP s c with
   | .bool dw=>if dw=true then bd C a Q s else bd C b Q s
   | .dB=>bd C a Q s/\bd C b Q s
   |_=>False
 | .block id b,Q,s=>bd C b (p6 id Q) s
 | .loop b,Q,s=>dY (λs=>∀Z:aj->Prop,(∀aq,bd C b (andThen (dY Z) Q) aq->Z aq)->Z s) s
 | .exit id,Q,s=>Q (.exit id) s
 | .ret,Q,s=>Q .ret s
 | .gq T _,Q,s=>∀cG:Exit->aj->Prop,(∀e s,Q e s->cG e s)->T cG s
 | .raw _,_,_=>False
section
variable {C:bl}
theorem xE {s:aj} {o:bs} {K b_:aj->Prop} (h:iz C s o K) (ag:∀s,K s->b_ s):iz C s o b_:=by
 unfold iz at h⊢;split
 .rename_i hg;rw[hg]at h;exact ue h λav s1=>ag _
 .rename_i t b hg;rw[hg]at h;simp only at h;split
  .rename_i dw R;rw[R]at h;simp only at h;split
   .rename_i J;rw[if_pos J]at h;exact ue h λav s1=>ag _
   .rename_i J;rw[if_neg J]at h;exact ag _ h
  .rename_i R;rw[R]at h;exact ag _ h
  .rename_i U ab;split at h
   .exact U _ (by assumption)
   .exact ab (by assumption)
   .exact h
theorem BX {K b_:aj->Prop} (ag:∀s,K s->b_ s):∀{ros:List bs} {s:aj},h4 C s ros K->h4 C s ros b_:=by
 intro ros;induction ros with
 |nil=>intro s h;exact ag s h
 |cons o ros ih=>intro s h;exact xE h λs h=>ih h
theorem BZ {ros:List bs} {K b_:aj->Prop} (ag:∀s,K s->b_ s):∀{l:RG} {s:aj},gC C ros s l K->gC C ros s l b_:=by
 intro l;induction l with
 |nil=>intro s h;exact ag s h
 |cons i l ih=>
  intro s h;simp only[gC]at h⊢;split
  .rename_i ba;rw[ba]at h;exact ih h
  .rename_i o ba;rw[ba]at h;exact xE h λs h=>ih h
theorem p7 {K b_:aj->Prop} (ag:∀s,K s->b_ s) (s:aj) (h:dY K s):dY b_ s:=
 h.imp (ag s) λ⟨l,U,ab⟩=>⟨l,U,ag _ ab⟩
theorem B0 {keep:Option RG} {K b_:aj->Prop} (ag:∀s,K s->b_ s) (s:aj) (h:r2 keep K s):r2 keep b_ s:=by
 cases keep with
 |none=>exact p7 ag s h
 |some k=>exact ag _ h
theorem B1 {keep:Option RG} {K:aj->Prop} {s:aj} (h:r2 keep K s):dY K s:=by
 cases keep with
 |none=>exact h
 |some k=>
  refine .inr ⟨_,?_,h⟩;intro p af;obtain⟨t,_,rfl⟩:=List.mem_map.1 af;exact .inl rfl
theorem xF {K b_:aj->Prop} {Q cG:Exit->aj->Prop} (ag:∀s,K s->b_ s) (b2:∀e s,Q e s->cG e s):∀e s,andThen K Q e s->andThen b_ cG e s:=by
 intro e s h;cases e with
 |normal=>exact ag s h
 |_=>exact b2 _ s h
theorem B2:∀(c:aK) {Q cG:Exit->aj->Prop} {s:aj},(∀e s,Q e s->cG e s)->bd C c Q s->bd C c cG s:=by
 intro c;induction c with
 |skip=>intro Q cG s b2 h;exact b2 _ _ h
 |dX ros keep=>intro Q cG s b2 h;exact BX (B0 (b2 _)) h
 |hj ros k8 keep=>intro Q cG s b2 h l hl;exact BZ (B0 (b2 _)) (h l hl)
 |seq a b gD gE=>
  intro Q cG s b2 h;exact gD (xF (λs h=>p7 (λ_ h=>gE b2 h) s h) b2) h
 |cond c a b gD gE=>
  intro Q cG s b2 h;simp only[bd]at h⊢;split
  .rename_i dw J;rw[J]at h;simp only at h;split
   .rename_i e;rw[if_pos e]at h;exact gD b2 h
   .rename_i e;rw[if_neg e]at h;exact gE b2 h
  .rename_i J;rw[J]at h;exact⟨gD b2 h.1,gE b2 h.2⟩
  .rename_i U ab;split at h
   .exact U _ (by assumption)
   .exact ab (by assumption)
   .exact h
 |block id b ih=>
  intro Q cG s b2 h;refine ih ?_ h;intro e s h;cases e with
  |exit i=>
   simp only[p6]at h⊢;split
   .rename_i e;rw[if_pos e]at h;exact b2 _ _ h
   .rename_i e;rw[if_neg e]at h;exact b2 _ _ h
  |_=>exact b2 _ _ h
 |loop b ih=>
  intro Q cG s b2 h;refine p7 (λs h Z p8=>?_) s h;exact h Z λaq eu=>p8 aq (ih (xF (λ_ h=>h) b2) eu)
 |exit id=>intro Q cG s b2 h;exact b2 _ _ h
 |ret=>intro Q cG s b2 h;exact b2 _ _ h
 |gq T b _=>intro Q cG s b2 h I2 ab;exact h I2 λe s he=>ab e s (b2 e s he)
 |raw c=>intro Q cG s b2 h;exact h
theorem B3:∀(c:aK) {Q:Exit->aj->Prop} {s:aj},bd C c Q s->bd C c.h6 Q s:=by
 intro c;induction c with
 |dX ros keep=>intro Q s h;exact BX (λs h=>B1 h) h
 |hj ros dn keep=>intro Q s h l hl;exact BZ (λs h=>B1 h) (h l hl)
 |seq a b gD gE=>intro Q s h;exact gD (B2 a (xF (λs h=>p7 (λ_ h=>gE h) s h) (λ_ _ h=>h)) h)
 |cond c a b gD gE=>
  intro Q s h;simp only[aK.h6,bd]at h⊢;split
  .rename_i dw J;rw[J]at h;simp only at h;split
   .rename_i e;rw[if_pos e]at h;exact gD h
   .rename_i e;rw[if_neg e]at h;exact gE h
  .rename_i J;rw[J]at h;exact⟨gD h.1,gE h.2⟩
  .rename_i U ab;split at h
   .exact U _ (by assumption)
   .exact ab (by assumption)
   .exact h
 |block id b ih=>intro Q s h;exact ih h
 |loop b ih=>
  intro Q s h;refine p7 (λs h Z p8=>?_) s h;exact h Z λaq eu=>p8 aq (ih eu)
 |gq T b _=>intro Q s h;exact h
 |_=>intro Q s h;exact h
variable {w0 w:World} {F0 X:Nat->Prop} {n:Fr} {ρ:Nat->Value} {s:aj} {a:Act}
def nM (w0:World) (F0 X:Nat->Prop) (n:Fr) (ρ:Nat->Value) (Q:Exit->aj->Prop):Exit->Act->World->Prop:=λe a w=>∃s,Q e s/\Rel w0 F0 X n ρ s a w
theorem Rel.dY {K:aj->Prop} {s:aj} {a:Act} {w:World} (ax:Rel w0 F0 X n ρ s a w) (h:dY K s):∃aq,K aq/\Rel w0 F0 X n ρ aq a w:=by
 rcases h with h|⟨l,U,ab⟩
 .exact⟨s,h,ax⟩
 .obtain⟨g1,g2,g3,F,S,g4⟩:=ax;obtain⟨a8,aB,g5⟩:=g4.BU U;exact⟨au l,ab,g1,g2,g3,a8,aB,g5⟩
theorem aK.I3 {c:aK} (h:c.strip= .skip):c= .skip\/∃T b,c= .gq T b:=by cases c<;>first|exact .inl rfl|exact .inr ⟨_,_,rfl⟩|cases h
theorem aK.I4 {c:aK} (h:c.strip= .ret):c= .ret\/∃T b,c= .gq T b:=by cases c<;>first|exact .inl rfl|exact .inr ⟨_,_,rfl⟩|cases h
theorem aK.I5 {c:aK} {i:Nat} (h:c.strip= .exit i):c= .exit i\/∃T b,c= .gq T b:=by cases c<;>first|exact .inl h|exact .inr ⟨_,_,rfl⟩|cases h
theorem aK.I6 {c:aK} {x:Code} (h:c.strip= .raw x):c= .raw x\/∃T b,c= .gq T b:=by cases c<;>first|exact .inl h|exact .inr ⟨_,_,rfl⟩|cases h
theorem aK.I7 {c:aK} {r:List bs} {k:Option RG} (h:c.strip= .dX r k):(∃ros b5,c= .dX ros b5/\ros.map bs.un=r)\/∃T b,c= .gq T b:=by
 cases c<;>first|(cases h;exact .inl ⟨_,_,rfl,rfl⟩)|exact .inr ⟨_,_,rfl⟩|cases h
theorem aK.I8 {c:aK} {r:List bs} {dn:RE} {k:Option RG} (h:c.strip= .hj r dn k):(∃ros B4 b5,c= .hj ros B4 b5/\ros.map bs.un=r/\B4=dn)\/∃T b,c= .gq T b:=by
 cases c<;>first|(cases h;exact .inl ⟨_,_,_,rfl,rfl,rfl⟩)|exact .inr ⟨_,_,rfl⟩|cases h
theorem aK.I9 {c x y:aK} (h:c.strip= .seq x y):(∃a b,c= .seq a b/\a.strip=x/\b.strip=y)\/∃T b,c= .gq T b:=by
 cases c<;>first|(cases h;exact .inl ⟨_,_,rfl,rfl,rfl⟩)|exact .inr ⟨_,_,rfl⟩|cases h
theorem aK.I_ {c x y:aK} {o:aR} (h:c.strip= .cond o x y):(∃jP a b,c= .cond jP a b/\jP=o/\a.strip=x/\b.strip=y)\/∃T b,c= .gq T b:=by
 cases c<;>first|(cases h;exact .inl ⟨_,_,_,rfl,rfl,rfl,rfl⟩)|exact .inr ⟨_,_,rfl⟩|cases h
theorem aK.Ja {c x:aK} {i:Nat} (h:c.strip= .block i x):(∃a,c= .block i a/\a.strip=x)\/∃T b,c= .gq T b:=by
 cases c<;>first|(cases h;exact .inl ⟨_,rfl,rfl⟩)|exact .inr ⟨_,_,rfl⟩|cases h
theorem aK.Jb {c x:aK} (h:c.strip= .loop x):(∃a,c= .loop a/\a.strip=x)\/∃T b,c= .gq T b:=by
 cases c<;>first|(cases h;exact .inl ⟨_,rfl,rfl⟩)|exact .inr ⟨_,_,rfl⟩|cases h
def nN:Code->List (Array Oper)
 | .region _ ops _=>[ops]
 | .seq a b=>nN a++nN b
 | .cond _ a b=>nN a++nN b
 | .block _ b=>nN b
 | .loop b=>nN b
 |_=>[]
theorem Jc (aS:C.cS) {H:((Exit->aj->Prop)->aj->Prop)->aK->Prop} {h3:List (Array Oper)}
  (iA:∀(c:Code) (T:(Exit->aj->Prop)->aj->Prop) (b:aK) (Q:Exit->aj->Prop) (s:aj) (a:Act) (w:World),(∀r∈nN c,r∈h3)->H T b->el n c=some b.strip->T Q s->Rel w0 F0 X n ρ s a w->c.wp C.P (nM w0 F0 X n ρ Q) a w):
  ∀(c:Code) {c_:aK} {Q:Exit->aj->Prop} {s:aj} {a:Act} {w:World},(∀r∈nN c,r∈h3)->el n c=some c_.strip->c_.bare H->bd C c_ Q s->Rel w0 F0 X n ρ s a w->c.wp C.P (nM w0 F0 X n ρ Q) a w:=by
 intro c;induction c with
 |skip=>
  intro c_ Q s a w dh R eU h ax;have fL:=R;simp only[el,Option.some.injEq]at R;rcases aK.I3 R.symm with rfl|⟨T,b,rfl⟩
  .exact wp_skip ⟨s,h,ax⟩
  .exact iA _ T b Q s a w dh eU (by simpa only[aK.strip]using fL) (h Q λ_ _ h=>h) ax
 |region id ops draw=>
  intro c_ Q s a w dh R eU h ax;have fL:=R;cases draw with
  |false=>
   simp only[el]at R;split at R
   rotate_left
   .have eu:=(Option.some.injEq _ _▸R).symm;rcases aK.I6 eu with rfl|⟨T,b,rfl⟩
    .exact h.elim
    .exact iA _ T b Q s a w dh eU (by simpa only[aK.strip]using fL) (h Q λ_ _ h=>h) ax
   rename_i Jd r3;simp only[Option.some.injEq]at R;rcases aK.I7 R.symm with⟨ros,k,rfl,rfl⟩|⟨T,b,rfl⟩
   rotate_left
   .exact iA _ T b Q s a w dh eU (by simpa only[aK.strip]using fL) (h Q λ_ _ h=>h) ax
   cases eU;exact IJ aS r3 (λaq bI an ag cI=>cI.dY ag) h ax
  |true=>
   simp only[el]at R;split at R
   .rename_i J;simp only[Option.map_eq_some_iff]at R;obtain⟨Jd,r3,R⟩:=R;rcases aK.I8 R.symm with⟨ros,dn,k,rfl,rfl,rfl⟩|⟨T,b,rfl⟩
    rotate_left
    .exact iA _ T b Q s a w dh eU (by simpa only[aK.strip]using fL) (h Q λ_ _ h=>h) ax
    cases eU;refine wp_region_draw λt=>?_;rw[show Region.schedule (C.P.follows .mixedOrders) ops t=Region.linearise .any ops t by simp[Region.schedule,aS.mixed]];exact BM aS r3 (λaq bI an ag cI=>cI.dY ag) _ s a _ (h _ (IX J t)) (ax.drawn _ (by first|exact le_succ _|exact le_add_right _ _|omega))
   .cases R
 |seq x y Je um=>
  intro c_ Q s a w dh R eU h ax;have fL:=R;simp only[el]at R;split at R
  .rename_i pW Jf ak hy;simp only[Option.some.injEq]at R;rcases aK.I9 R.symm with⟨ct,iP,rfl,rfl,rfl⟩|⟨T,b,rfl⟩
   rotate_left
   .exact iA _ T b Q s a w dh eU (by simpa only[aK.strip]using fL) (h Q λ_ _ h=>h) ax
   refine wp_seq (wp_mono (Je (λr ax=>dh r (List.mem_append.2 (.inl ax))) ak eU.1 h ax) ?_);rintro e bI an ⟨aq,aN,cI⟩;cases e with
   |normal=>
    obtain⟨aq,aN,cI⟩:=cI.dY aN;exact um (λr ax=>dh r (List.mem_append.2 (.inr ax))) hy eU.2 aN cI
   |_=>exact⟨aq,aN,cI⟩
  .cases R
 |cond x y z um B5=>
  intro c_ Q s a w dh R eU h ax;have fL:=R;simp only[el]at R;split at R
  .rename_i pW Jf sz ak hy bt;simp only[Option.some.injEq]at R;rcases aK.I_ R.symm with⟨ct,iP,iu,rfl,rfl,rfl,rfl⟩|⟨T,b,rfl⟩
   rotate_left
   .exact iA _ T b Q s a w dh eU (by simpa only[aK.strip]using fL) (h Q λ_ _ h=>h) ax
   have cI:=ax;obtain⟨ad,dm,bq,F,S,hrel⟩:=cI;have az:=(dC (a:=a) hrel (λ_=>rfl) ak).2;simp only[bd]at h;split at h
   .rename_i dw J;rw[J]at az;have:=ny az;refine wp_cond this ?_;split
    .rename_i e;rw[if_pos e]at h;exact um (λr ax=>dh r (List.mem_append.2 (.inl ax))) hy eU.1 h ax
    .rename_i e;rw[if_neg e]at h;exact B5 (λr ax=>dh r (List.mem_append.2 (.inr ax))) bt eU.2 h ax
   .rename_i J;rw[J]at az;obtain⟨dw,iO⟩:=As az;refine wp_cond iO ?_;split
    .exact um (λr ax=>dh r (List.mem_append.2 (.inl ax))) hy eU.1 h.1 ax
    .exact B5 (λr ax=>dh r (List.mem_append.2 (.inr ax))) bt eU.2 h.2 ax
   .exact h.elim
  .cases R
 |block id b ih=>
  intro c_ Q s a w dh R eU h ax;have fL:=R;simp only[el,Option.map_eq_some_iff]at R;obtain⟨tR,J,R⟩:=R;rcases aK.Ja R.symm with⟨dw,rfl,rfl⟩|⟨T,b,rfl⟩
  rotate_left
  .exact iA _ T b Q s a w dh eU (by simpa only[aK.strip]using fL) (h Q λ_ _ h=>h) ax
  refine wp_block (wp_mono (ih dh J eU h ax) ?_);rintro e bI an ⟨aq,aN,cI⟩;cases e with
  |exit i=>
   simp only[p6]at aN;simp only[Exit.inBlock];split
   .rename_i e;rw[if_pos e]at aN;exact⟨aq,aN,cI⟩
   .rename_i e;rw[if_neg e]at aN;exact⟨aq,aN,cI⟩
  |_=>exact⟨aq,aN,cI⟩
 |loop b ih=>
  intro c_ Q s a w dh R eU h ax;have fL:=R;simp only[el,Option.map_eq_some_iff]at R;obtain⟨tR,J,R⟩:=R;rcases aK.Jb R.symm with⟨dw,rfl,rfl⟩|⟨T,b,rfl⟩
  rotate_left
  .exact iA _ T b Q s a w dh eU (by simpa only[aK.strip]using fL) (h Q λ_ _ h=>h) ax
  obtain⟨s,h,ax⟩:=ax.dY h;have key:=h (λs=>∀a w,Rel w0 F0 X n ρ s a w->∀(f:Frame) (k:List Item) (cs:List Frame),∃e bI an,nM w0 F0 X n ρ Q e bI an/\Arrives C.P (lone (f.at a (.code b:: .inLoop b::k)) cs w) f k cs e bI an) ?_
  .intro f k cs;obtain⟨e,bI,an,b2,nO⟩:=key a w ax f k cs;exact⟨e,bI,an,b2,.of_steps (.one step_loop) nO⟩
  .intro aq eu a w ax f k cs;obtain⟨e,a₁,w₁,⟨s1,b2,nP⟩,nO⟩:=ih dh J eU eu ax f (.inLoop b::k) cs;cases e with
   |normal=>
    simp only[andThen]at b2;obtain⟨s1,b2,nP⟩:=nP.dY b2;obtain⟨e₂,a₂,w₂,hq₂,harr₂⟩:=b2 a₁ w₁ nP f k cs;exact⟨e₂,a₂,w₂,hq₂,.of_steps (Steps.trans nO (.one step_inLoop)) harr₂⟩
   |exit id=>exact⟨_,a₁,w₁,⟨s1,b2,nP⟩,.pass (x:=.inLoop b) rfl (λ_ _=>.inl (by simp)) nO⟩
   |goto l=>exact⟨_,a₁,w₁,⟨s1,b2,nP⟩,.pass (x:=.inLoop b) rfl (λ_ _=>.inl (by simp)) nO⟩
   |ret=>exact⟨_,a₁,w₁,⟨s1,b2,nP⟩,.pass (x:=.inLoop b) rfl (λ_ _=>.inl (by simp)) nO⟩
   |panic Jg=>exact⟨_,a₁,w₁,⟨s1,b2,nP⟩,.pass (x:=.inLoop b) rfl (λ_ _=>.inl (by simp)) nO⟩
   |outgrown=>exact⟨_,a₁,w₁,⟨s1,b2,nP⟩,.pass (x:=.inLoop b) rfl (λ_ _=>.inl (by simp)) nO⟩
 |exit id=>
  intro c_ Q s a w dh R eU h ax;have fL:=R;simp only[el,Option.some.injEq]at R;rcases aK.I5 R.symm with rfl|⟨T,b,rfl⟩
  .exact wp_exit ⟨s,h,ax⟩
  .exact iA _ T b Q s a w dh eU (by simpa only[aK.strip]using fL) (h Q λ_ _ h=>h) ax
 |ret=>
  intro c_ Q s a w dh R eU h ax;have fL:=R;simp only[el,Option.some.injEq]at R;rcases aK.I4 R.symm with rfl|⟨T,b,rfl⟩
  .exact wp_ret ⟨s,h,ax⟩
  .exact iA _ T b Q s a w dh eU (by simpa only[aK.strip]using fL) (h Q λ_ _ h=>h) ax
 |_=>intro c_ Q s a w dh R;simp[el]at R
theorem B6 (aS:C.cS) {H:((Exit->aj->Prop)->aj->Prop)->aK->Prop}
  (iA:∀(c:Code) (T:(Exit->aj->Prop)->aj->Prop) (b:aK) (Q:Exit->aj->Prop) (s:aj) (a:Act) (w:World),H T b->el n c=some b.strip->T Q s->Rel w0 F0 X n ρ s a w->c.wp C.P (nM w0 F0 X n ρ Q) a w):
  ∀(c:Code) {c_:aK} {Q:Exit->aj->Prop} {s:aj} {a:Act} {w:World},el n c=some c_.strip->c_.bare H->bd C c_ Q s->Rel w0 F0 X n ρ s a w->c.wp C.P (nM w0 F0 X n ρ Q) a w:=
 λc _ _ _ _ _ R J h ax=>Jc aS (λc T b Q s a w _ gP R h ax=>iA c T b Q s a w gP R h ax) c (λ_ ax=>ax) R J h ax
theorem Jh (aS:C.cS) (c:Code) {c_:aK} {Q:Exit->aj->Prop} {s:aj} {a:Act} {w:World} (R:el n c=some c_.strip) (J:c_.bare (λ_ _=>False)) (h:bd C c_ Q s) (ax:Rel w0 F0 X n ρ s a w):c.wp C.P (nM w0 F0 X n ρ Q) a w:=
 B6 aS (λ_ _ _ _ _ _ _ bq=>bq.elim) c R J h ax
end
def fW:ResultVar->Nat
 | .tmp t=>t
 | .cell a _=>a
def k9 (C:bl) (s:aj):ResultVar->Option I
 | .tmp t=>if(s t).tree=true then(match s t with| .tuple _=>none|d=>some d)else none
 | .cell a T=>match s a with
   | .bC d=>if fits C T d=true/\d.tree=true then some d else none
   |_=>none
def xG (C:bl) (fx:RG) (cT:List ResultVar) (r:I) (outs:RL) (s:aj):Prop:=
 ∃ds,cT.map (k9 C s)=ds.map some/\r=(match ds with|[d]=>d|ds=>.tuple ds)/\(cT.map fW).Nodup/\
  ∀(i:Nat) (o:I),outs[i]? =some o->o= .hole\/(o=s i/\o.ed=true/\i∈fx/\i∉cT.map fW)
def Ends (C:bl) (fx:RG) (cT:List ResultVar) (r:I) (outs:RL) (s:aj):Prop:=
 xG C fx cT r outs s\/∃t y q d s1,s t= .h y q/\bK s (.h y q)=some (d,s1)/\xG C fx cT r outs (fin s1 (some t) d)
theorem aZ.takes {w0 w:World} {F0 X F:Nat->Prop} {S:Nat->Nat->Prop} {s s1:aj} {ao:Nat->Value} {t y:Nat} {q:RG} {d:I} (ax:aZ w0 F0 X F S s ao w) (U:s t= .h y q) (ab:bK s (.h y q)=some (d,s1)):
  ∃aB,aZ w0 F0 X F aB (ca.fin s1 (some t) d) ao w:=by
 have R:=ax.b9 t;rw[U,ar]at R;obtain⟨bg,k0,bA,bN,Sn,bO,bL,cz,db,fV,_⟩:=lE ax (av:=.h y q) (v:=ao t) rfl (by rw[ar];exact R) ab;obtain⟨aB,aN⟩:=k0.fin (.inr ⟨bA,bN,Sn,bO,bL,cz,db,fV⟩) (some t);refine⟨aB,?_⟩;have e:mu ao (some t) (ao t)=ao:=by
  funext u;simp only[mu,cd];split
  .rename_i h;rw[h]
  .rfl
 rwa [e]at aN
section
variable {C:bl} {w0 w:World} {F0 X F:Nat->Prop} {S:Nat->Nat->Prop} {s:aj} {tmps:Array Value}
theorem B7 {d:I} {x:Value} (ad:∀vs,d≠.tuple vs) (h:b7 d x):bn x=eG x/\eS d x:=by
 have:eS d x:=by cases d<;>first|exact h|exact(ad _ rfl).elim
 refine⟨?_,this⟩;cases d<;>first
  |(obtain⟨a,rfl⟩:=this;rfl)
  |(simp only[eS]at this
    rw[eb this];cases x<;>first|rfl|(simp[Value.eh]at this))
def r4 (tmps:Array Value):ResultVar->Sem Value
 | .tmp t=>pure (tmps.getD t undef)
 | .cell a t=>do loadVar t (<-asAddr (tmps.getD a undef))
theorem Ji (aS:C.cS) (h:aZ w0 F0 X F S s (λt=>tmps.getD t undef) w) {v:ResultVar} {d:I} (az:k9 C s v=some d):
  ∃x,(r4 tmps v).run C.P w= .ok x w/\d.tree=true/\(∀vs,d≠.tuple vs)/\b7 d x/\ah w F d (bn x) (S (fW v)):=by
 cases v with
 |tmp t=>
  simp only[k9]at az;split at az
  .rename_i aI;have jl:(∀vs,s t≠.tuple vs)/\d=s t:=by
    cases R:s t<;>rw[R]at az<;>simp only at az<;>first
     |(cases az;done)
     |(simp only[Option.some.injEq]at az;exact⟨(λ_ h=>by cases h),az.symm⟩)
   obtain⟨jl,rfl⟩:=jl;obtain⟨g1,g2⟩:=(ar.bx aI).1 (h.b9 t);exact⟨_,by simp[r4],aI,jl,g1,g2⟩
  .cases az
 |cell a T=>
  simp only[k9]at az;split at az
  .rename_i e R;split at az
   .rename_i Jj;obtain⟨fp,Jk⟩:=Jj;simp only[Option.some.injEq]at az;subst az;have fo:=h.b9 a;rw[R]at fo;obtain⟨g1,g2⟩:=(ar.bx (d:=.bC e) rfl).1 fo;rw[eb g1,ah]at g2;obtain⟨b,cur,ty,fr,aB,bA,bN,bO,bL,cz,db,fV⟩:=g2;simp only[List.cons.injEq,and_true]at bA;have gx:e_ w b 0 cur.toList:=by
     have:=pH bO cur.size
     rwa [List.take_of_length_le (by simp)]at this
    obtain⟨x,ei,b8,ga⟩:=tE (C:=C) aS gx cz fp;refine⟨x,?_,Jk,?_,ga,?_⟩
    .simp only[r4];rw[bA];simpa [asAddr]using ei
    .intro vs ej;subst ej;unfold fits at fp;split at fp<;>simp_all
    .rw[b8];exact ah.mono (λ_ h=>h) _ _ _ _ db cz
   .cases az
  .cases az
theorem Jl (aS:C.cS) (h:aZ w0 F0 X F S s (λt=>tmps.getD t undef) w):∀(cT:List ResultVar) (ds:RL),cT.map (k9 C s)=ds.map some->(cT.map fW).Nodup->
  ∃xs,(cT.mapM (r4 tmps)).run C.P w= .ok xs w/\xs.length=ds.length/\aH w F ds (xs.flatMap eG) (λb=>∃t∈cT.map fW,S t b)/\
   ∀(k:Nat) (d:I) (x:Value),ds[k]? =some d->xs[k]? =some x->b7 d x/\(∀vs,d≠.tuple vs)/\(eG x).length=d.wd/\bn x=eG x/\d.tree=true:=by
 intro cT;induction cT with
 |nil=>
  intro ds he _;have:ds=[]:=by simpa using he.symm
  subst this;exact⟨[],by simp,rfl,by simp only[List.flatMap_nil];rw[aH],λk d x ad=>by simp at ad⟩
 |cons v cT ih=>
  intro ds he p9;cases ds with
  |nil=>simp at he
  |cons d ds=>
   simp only[List.map_cons,List.cons.injEq]at he;simp only[List.map_cons,List.nodup_cons]at p9;obtain⟨x,ei,rt,b8,ga,dy⟩:=Ji aS h he.1;obtain⟨xs,ek,dx,fU,hF⟩:=ih ds he.2 p9.2;obtain⟨aD,aG⟩:=B7 b8 ga;refine⟨x::xs,by simp[List.mapM_cons,ei,ek],by simp[dx],?_,?_⟩
   .simp only[List.flatMap_cons];rw[aH];rw[aD]at dy;refine⟨eG x,xs.flatMap eG,S (fW v),λb=>∃t∈cT.map fW,S t b,rfl,dy,fU,λb J=>⟨fW v,by simp,J⟩,?_,?_⟩
    .rintro b ⟨t,aI,J⟩;exact⟨t,by simp[aI],J⟩
    .rintro b J ⟨t,aI,iO⟩;have:t≠fW v:=λe=>p9.1 (e▸aI);exact h.du t (fW v) b this iO J
   .intro k aV ct ad ak;cases k with
    |zero=>
     simp at ad ak;subst ad ak;refine⟨ga,b8,?_,aD,rt⟩;rw[<-aD];exact ah.length _ _ _ dy
    |succ k=>exact hF k aV ct (by simpa using ad) (by simpa using ak)
theorem B8 (aS:C.cS) {f:FuncId} {fn:Func} {c:Code} {fx:RG} {as outs:RL} {r:I} (bq:C.P.funcs[f]? =some fn) (J:fn.body=some c)
  (h7:(fn.name== "runtime.NumGoroutine")=false) (aT:as.length<=fn.ntmps)
  {w:World} {F X:Nat->Prop} {S:Nat->Nat->Prop} {vs:RJ} (hl:vs.length=as.length) (ax:aZ w F X F S (cM as) (dJ vs) w)
  (xH:∀a,Rel w F X ⟨fn.ntmps,fx⟩ (dJ vs) (cM as) a w->(∀t,a.tmps.getD t undef=dJ vs t)->c.wp C.P (nM w F X ⟨fn.ntmps,fx⟩ (dJ vs) (λe s=>(e= .normal\/e= .ret)/\dY (Ends C fx fn.results.toList r outs) s)) a w):
  jn C.P f vs.toArray w λv an=>∃a8 aB,aZ w F X a8 aB (cM (r::outs)) (dJ (v::vs)) an:=by
 have kl:(vs.toArray++Array.replicate (fn.ntmps-vs.toArray.size) undef).size=fn.ntmps:=by simp;omega
 have cC:(λt=>(vs.toArray++Array.replicate (fn.ntmps-vs.toArray.size) undef).getD t undef)=dJ vs:=by
  funext t;simp only[dJ,Array.getD_eq_getD_getElem?,List.getD_eq_getElem?_getD];by_cases aI:t<vs.length
  .rw[Array.getElem?_append_left (by simpa using aI)];simp
  .rw[Array.getElem?_append_right (by simpa using aI)];rw[List.getElem?_eq_none (by omega)];simp only[Array.getElem?_replicate];split<;>rfl
 have hrel:Rel w F X ⟨fn.ntmps,fx⟩ (dJ vs) (cM as) {tmps:=vs.toArray++Array.replicate (fn.ntmps-vs.toArray.size) undef,defers:=[]} w:=
  ⟨rfl,kl,λi _=>congrFun cC i,F,S,by rw[cC];exact ax⟩
 have xI:fn.name≠ "runtime.NumGoroutine" :=by simpa using h7
 refine .inl ⟨by simp[callFunc,bq,xI,J],calls_of_wp bq J (wp_mono (xH _ hrel (congrFun cC)) ?_)⟩;rintro e bI an ⟨aq,⟨he,Jm⟩,Jn⟩;obtain⟨aq,⟨ds,gg,lV,p9,ou⟩,ad,dm,gU,a8,aB,cI⟩:∃aq,xG C fx fn.results.toList r outs aq/\Rel w F X ⟨fn.ntmps,fx⟩ (dJ vs) aq bI an:=by
  obtain⟨aq,he,c6⟩:=Jn.dY Jm;rcases he with he|⟨t,y,q,d,s1,U,ab,he⟩
  .exact⟨aq,he,c6⟩
  .obtain⟨g1,g2,g3,F,S,g4⟩:=c6;obtain⟨aB,g5⟩:=g4.takes U ab;exact⟨_,he,g1,g2,g3,F,aB,g5⟩
 obtain⟨xs,ek,dx,fU,hF⟩:=Jl aS cI _ ds gg p9;have Jo:(results fn bI.tmps)=(do let vs<-fn.results.mapM (r4 bI.tmps);pure (if h:vs.size=1 then vs[0]else .tuple vs)):=by
  unfold results;congr 1
 have oz:(results fn bI.tmps).run C.P an= .ok (if h:xs.toArray.size=1 then xs.toArray[0]else .tuple xs.toArray) an:=by
  rw[Jo,Array.mapM_eq_mapM_toList];simp[ek]
 have oV:(r.tree=true/\b7 r (if h:xs.toArray.size=1 then xs.toArray[0]else .tuple xs.toArray)/\
   ah an a8 r (bn (if h:xs.toArray.size=1 then xs.toArray[0]else .tuple xs.toArray)) (λb=>∃t∈fn.results.toList.map fW,aB t b)):=by
  by_cases U:∃d,ds=[d]
  .obtain⟨d,rfl⟩:=U;obtain⟨x,rfl⟩:∃x,xs=[x]:=by
    cases xs with
    |nil=>simp at dx
    |cons x xs=>cases xs with
     |nil=>exact⟨x,rfl⟩
     |cons y bM=>simp at dx
   obtain⟨bA,bN,bO,bL,cz⟩:=hF 0 d x rfl rfl;have Jp:d=r:=lV.symm;subst Jp;simp only[List.flatMap_cons,List.flatMap_nil,List.append_nil]at fU;rw[aH]at fU;obtain⟨bb,c2,bg,b0,aD,aG,aJ,bp,bJ,bk⟩:=fU;rw[aH]at aJ;subst aJ;simp only[List.append_nil]at aD;subst aD;have ak:(if h:([x]:RJ).toArray.size=1 then([x]:RJ).toArray[0]else .tuple ([x]:RJ).toArray)=x:=by simp
   rw[ak,bL];exact⟨cz,bA,ah.mono (λ_ h=>h) _ _ _ _ bp aG⟩
  .have Jq:r= .tuple ds:=by
    rw[lV];cases ds with
    |nil=>rfl
    |cons d ds=>cases ds with
     |nil=>exact(U ⟨d,rfl⟩).elim
     |cons e ds=>rfl
   have ak:(if h:xs.toArray.size=1 then xs.toArray[0]else Value.tuple xs.toArray)= .tuple xs.toArray:=by
    rw[dif_neg];intro dm;have:ds.length=1:=by rw[<-dx];simpa using dm
    obtain⟨d,ad⟩:=List.length_eq_one_iff.1 this;exact U ⟨d,ad⟩
   rw[ak,Jq];refine⟨rfl,⟨xs.toArray,rfl,by simpa using dx,λk d x ad ak=>?_⟩,?_⟩
   .obtain⟨bA,bN,bO,bL,_⟩:=hF k d x ad (by simpa using ak);exact⟨(B7 bN bA).2,bN,bO⟩
   .rw[ah];simpa [bn]using fU
 have post:∀(v:Value),(r.tree=true/\b7 r v/\ah an a8 r (bn v) (λb=>∃t∈fn.results.toList.map fW,aB t b))->∃oT bg,aZ w F X oT bg (cM (r::outs)) (dJ (v::vs)) an:=by
  rintro v ⟨v1,v2,v3⟩;have xJ:∀i,(outs.getD i .hole).ed=true->outs.getD i .hole=aq i/\i∈fx/\i∉fn.results.toList.map fW:=by
   intro i aC;cases ba:outs[i]? with
   |none=>simp[List.getD,ba,I.ed]at aC
   |some o=>
    have e:outs.getD i .hole=o:=by simp[List.getD,ba]
    rw[e]at aC⊢;rcases ou i o ba with h|h
    .subst h;simp[I.ed]at aC
    .exact⟨h.1,h.2.2⟩
  refine⟨a8,λt b=>match t with|0=>∃t∈fn.results.toList.map fW,aB t b|i+1=>(outs.getD i .hole).ed=true/\aB i b,cI.eK,cI.eY,cI.dk,?_,?_,?_,?_,?_,cI.old,cI.size,cI.os,cI.tape,cI.output,ax.ef⟩
  .intro t b J;cases t with
   |zero=>obtain⟨t,_,J⟩:=J;exact cI.c1 t b J
   |succ i=>exact cI.c1 i b J.2
  .intro t b J;cases t with
   |zero=>obtain⟨t,_,J⟩:=J;exact cI.dN t b J
   |succ i=>exact cI.dN i b J.2
  .intro t u b bT J hu;cases t with
   |zero=>
    obtain⟨t,aI,J⟩:=J;cases u with
    |zero=>exact bT rfl
    |succ j=>
     refine cI.du t j b (λe=>?_) J hu.2;subst e;exact(xJ t hu.1).2.2 aI
   |succ i=>
    cases u with
    |zero=>
     obtain⟨t,aI,hu⟩:=hu;refine cI.du t i b (λe=>?_) hu J.2;subst e;exact(xJ t J.1).2.2 aI
    |succ j=>exact cI.du i j b (by omega) J.2 hu.2
  .intro t b J;cases t with
   |zero=>obtain⟨t,_,J⟩:=J;exact cI.ck t b J
   |succ i=>exact cI.ck i b J.2
  .intro t;cases t with
   |zero=>exact(ar.bx v1).2 ⟨v2,v3⟩
   |succ i=>
    show ar an a8 (cM (r::outs)) (dJ (v::vs)) (outs.getD i .hole) (vs.getD i undef) (λb=>(outs.getD i .hole).ed=true/\aB i b);cases aC:(outs.getD i .hole).ed with
    |false=>
     have:outs.getD i .hole= .hole:=by
      cases ba:outs[i]? with
      |none=>simp[List.getD,ba]
      |some o=>
       have e:outs.getD i .hole=o:=by simp[List.getD,ba]
       rw[e]at aC⊢;rcases ou i o ba with h|h
       .exact h
       .rw[h.2.1]at aC;cases aC
     rw[this,ar];trivial
    |true=>
     obtain⟨iy,jm,t_⟩:=xJ i aC;have aI:=(mD aC).2.1;have fo:=cI.b9 i;rw[<-iy]at fo;obtain⟨g1,g2⟩:=(ar.bx aI).1 fo;have az:bI.tmps.getD i undef=vs.getD i undef:=gU i jm;rw[az]at g1 g2;exact(ar.bx aI).2 ⟨g1,ah.mono (λ_ h=>h) _ _ _ _ (λb J=>⟨rfl,J⟩) g2⟩
 rcases he with rfl|rfl
 .exact⟨ad,_,oz,_,rfl,post _ oV⟩
 .exact⟨ad,_,oz,_,rfl,post _ oV⟩
theorem bf.of_wp (aS:C.cS) {f:FuncId} {fn:Func} {c:Code} {c_:aK} {fx:RG} {as outs:RL} {r:I} (bq:C.P.funcs[f]? =some fn) (J:fn.body=some c)
  (h7:(fn.name== "runtime.NumGoroutine")=false) (R:el ⟨fn.ntmps,fx⟩ c=some c_.strip) (aT:as.length<=fn.ntmps)
  (h:bd C c_ (λe s=>(e= .normal\/e= .ret)/\dY (Ends C fx fn.results.toList r outs) s) (cM as)) (af:c_.plain=true:=by kernel_rfl):bf C f as r outs:=
 λw F X S vs hl ax=>B8 aS bq J h7 aT hl ax λa hrel _=>Jh aS c (by rw[aK.BV];exact R) (aK.BW c_ (aK.I1 c_ af)) (B3 c_ h) hrel
end
def num:Nat->RL->RK
 |_,[]=>[]
 |k,a::as=>(k,a)::num (k+1) as
theorem Jr:∀(as:RL) (k t:Nat),au (num k as) (k+t)=as.getD t .hole:=by
 intro as;induction as with
 |nil=>intro k t;simp[num,au]
 |cons a as ih=>
  intro k t;cases t with
  |zero=>simp[num,au]
  |succ t=>
   have:=ih (k+1) t;simp only[num,au];rw[if_neg (by omega)];rw[show k+(t+1)=k+1+t by omega,this];simp
theorem xK (as:RL):cM as=au (num 0 as):=by
 funext t;have:=Jr as 0 t;rw[Nat.zero_add]at this;rw[this];rfl
theorem uo (l:RK) (t:Nat) (d:I):cd (au l) t d=au ((t,d)::l):=by
 funext u;simp only[cd,au]
def mG (t:Nat):RK->RK
 |[]=>[]
 |(u,d)::l=>(u,bG t d)::mG t l
def oW (t:Nat):RK->RK
 |[]=>[]
 |(u,d)::l=>(u,bm t d)::oW t l
theorem xL (t:Nat):∀l:RK,im t (au l)=au (mG t l):=by
 intro l;funext u;induction l with
 |nil=>rfl
 |cons p l ih=>
  obtain⟨v,d⟩:=p;simp only[im,au,mG]at ih⊢;split
  .rfl
  .exact ih
theorem Js (t:Nat):∀l:RK,fa t (au l)=au (oW t l):=by
 intro l;funext u;induction l with
 |nil=>rfl
 |cons p l ih=>
  obtain⟨v,d⟩:=p;simp only[fa,au,oW]at ih⊢;split
  .rfl
  .exact ih
def eO (k:RG) (s:aj):RK:=k.map λt=>(t,s t)
section
variable {C:bl} {l:RK}
def cw.fe:cw->Bool
 | .call _ _=>true
 | .jk _=>false
 | .fI _=>false
 | .pick _ _ _=>false
 | .iR _=>false
 | .fF _ _=>false
 | .ey _ _=>false
 | .dH _ _ _=>false
 | .eL _ _=>false
 | .gS _ _ _=>false
 | .hG _=>false
 | .cW _ _ _ _=>false
 | .un _ _=>false
 | .fG _ _ _=>false
 | .nF _ _=>false
 | .cQ _ _ _=>false
 | .eD _ _ _ _=>false
 | .hC _ _ _=>false
 | .fE _ _ _=>false
 | .idx _ _ _=>false
 | .ex _ _=>false
 | .iS _ _ _=>false
 | .len _ _=>false
 | .app _ _ _ _=>false
 | .shr _=>true
 | .cap _ _=>false
 | .fJ _ _ _=>false
 | .bad=>false
 | .rH=>false
 | .ki _ _ _=>false
 | .jj _ _ _ _=>false
variable {Q:Exit->aj->Prop}
def I.B9:I->Bool
 | .tuple _=>true
 |_=>false
theorem Ends.one {fx:RG} {t:Nat} {r:I} {s:aj} (U:s t=r) (ab:(r.tree&& !r.B9)=true):Ends C fx [.tmp t] r [] s:=by
 simp only[Bool.and_eq_true,Bool.not_eq_true']at ab;obtain⟨ab,uq⟩:=ab;have ay:∀vs,r≠.tuple vs:=λvs e=>by subst e;simp[I.B9]at uq
 refine .inl ⟨[r],?_,rfl,by simp,λi o h=>by simp at h⟩;have:k9 C s (.tmp t)=some r:=by
  simp only[k9,U,ab,if_true];try (cases r<;>first|rfl|exact(ay _ rfl).elim)
 simp only[List.map_cons,List.map_nil,this]
end
section
variable {C:bl} {l:RK} {Q:Exit->aj->Prop}
theorem bf.outs {f:FuncId} {as:RL} {r:I} {iy jm:RL} (h:bf C f as r iy) (he:cM iy=cM jm):bf C f as r jm:=by
 intro w F X S vs hl ax;refine jn.mono (h w F X S vs hl ax) ?_;rintro v an ⟨a8,aB,aN⟩;refine⟨a8,aB,?_⟩;have:cM (r::jm)=cM (r::iy):=by
  funext t;cases t with
  |zero=>rfl
  |succ t=>exact(congrFun he t).symm
 rw[this];exact aN
def iZ:RL->RL->List bB
 |a::as,d::ds=>⟨a,false,d,.hole⟩::iZ as ds
 |_,_=>[]
theorem Jt {s:aj}:∀(as ds:RL),views s as=some ds->(iZ as ds).map (·.a)=as/\(iZ as ds).map (·.d)=ds/\(∀p∈iZ as ds,p.ok s/\p.g=false/\p.o= .hole/\p.a∈as)/\fw (iZ as ds)=true/\
  cM ((iZ as ds).map (·.o))=cM []/\(∀mH,dj mH (iZ as ds)=mH)/\(∀mH,fm mH (iZ as ds)=mH):=by
 intro as;induction as with
 |nil=>
  intro ds h;simp only[views,Option.some.injEq]at h;subst h;exact⟨rfl,rfl,(λp af=>by cases af),rfl,rfl,λ_=>rfl,λ_=>rfl⟩
 |cons a as ih=>
  intro ds h;simp only[views]at h;split at h
  .rename_i d Ju U ab;simp only[Option.some.injEq]at h;subst h;obtain⟨aD,aG,aJ,bp,bJ,bk,a7⟩:=ih Ju ab;refine⟨by simp only[iZ,List.map_cons,aD],by simp only[iZ,List.map_cons,aG],?_,?_,?_,?_,?_⟩
   .intro p af;simp only[iZ,List.mem_cons]at af;rcases af with rfl|af
    .exact⟨by simp only[bB.ok];exact U,rfl,rfl,by simp⟩
    .obtain⟨g1,g2,g3,g4⟩:=aJ p af;exact⟨g1,g2,g3,by simp[g4]⟩
   .simp only[iZ,fw,bp,Bool.and_true,List.all_eq_true];intro p af;simp[(aJ p af).2.1]
   .funext t;cases t with
    |zero=>rfl
    |succ t=>exact(congrFun bJ t).trans (by simp[cM])
   .intro mH;exact bk mH
   .intro mH;exact a7 mH
  .cases h
end
structure dp where
 bQ:RG
 H:RG
 T:RG
 c:Bool
mutual
def I.clean:I->Bool
 | .hole=>false
 | .fn _ cap=>I.p_ cap
 |_=>true
def I.p_:RL->Bool
 |[]=>true
 |d::ds=>d.clean&&I.p_ ds
end
mutual
theorem B_ {x:Nat}:∀a:I,(bm x a).clean=true->bm x a=a
 | .h y q,h=>by
   simp only[bm]at h⊢;split
   .rename_i e;rw[if_pos e]at h;split
    .rfl
    .rename_i ej;rw[if_neg ej]at h;simp[I.clean]at h
   .rfl
 | .af y q,h=>by
   simp only[bm]at h⊢;split
   .rename_i e;rw[if_pos e]at h;simp[I.clean]at h
   .rfl
 | .J y q,h=>rfl
 | .fn f cap,h=>by simp only[bm,I.clean]at h⊢;rw[Ca cap h]
 | .hole,_=>rfl
 | .bool _,_=>rfl
 | .dB,_=>rfl
 | .int _ _,_=>rfl
 | .str _,_=>rfl
 | .cu,_=>rfl
 | .bz,_=>rfl
 | .slice _,_=>rfl
 | .aE _ _,_=>rfl
 | .ref _,_=>rfl
 | .bC _,_=>rfl
 | .agg _,_=>rfl
 | .tuple _,_=>rfl
 | .cf _,_=>rfl
 | .dE _ _,_=>rfl
theorem Ca {x:Nat}:∀ds:RL,I.p_ (ft x ds)=true->ft x ds=ds
 |[],_=>rfl
 |d::ds,h=>by
  simp only[ft,I.p_,Bool.and_eq_true]at h⊢;rw[B_ d h.1,Ca ds h.2]
end
mutual
theorem Cb {x:Nat}:∀a:I,(bG x a).clean=true->bG x a=a
 | .h y q,h=>by
   simp only[bG]at h⊢;split
   .rename_i e;rw[if_pos e]at h;simp[I.clean]at h
   .rfl
 | .af y q,h=>by
   simp only[bG]at h⊢;split
   .rename_i e;rw[if_pos e]at h;simp[I.clean]at h
   .rfl
 | .J y q,h=>by
   simp only[bG]at h⊢;split
   .rename_i e;rw[if_pos e]at h;simp[I.clean]at h
   .rfl
 | .fn f cap,h=>by simp only[bG,I.clean]at h⊢;rw[Cc cap h]
 | .hole,_=>rfl
 | .bool _,_=>rfl
 | .dB,_=>rfl
 | .int _ _,_=>rfl
 | .str _,_=>rfl
 | .cu,_=>rfl
 | .bz,_=>rfl
 | .slice _,_=>rfl
 | .aE _ _,_=>rfl
 | .ref _,_=>rfl
 | .bC _,_=>rfl
 | .agg _,_=>rfl
 | .tuple _,_=>rfl
 | .cf _,_=>rfl
 | .dE _ _,_=>rfl
theorem Cc {x:Nat}:∀ds:RL,I.p_ (fS x ds)=true->fS x ds=ds
 |[],_=>rfl
 |d::ds,h=>by
  simp only[fS,I.p_,Bool.and_eq_true]at h⊢;rw[Cb d h.1,Cc ds h.2]
end
theorem Jv {k:lN} {x:Nat} {a:I} (h:(k.app x a).clean=true):k.app x a=a:=by
 cases k with
 |no=>rfl
 |bm=>exact B_ a h
 |bG=>exact Cb a h
theorem Jw:∀(ms:List et) (u:Nat) (a:I),(∀m∈ms,m.x≠u)->(gB ms u a).clean=true->gB ms u a=a:=by
 intro ms;induction ms with
 |nil=>intros;rfl
 |cons m ms ih=>
  intro u a ak ae;simp only[gB]at ae⊢;have e:=ih u _ (λgA oX=>ak gA (by simp[oX])) ae;have hm:m.at u a=m.k.app m.x a:=by
   simp only[et.at];rw[if_neg (λe=>ak m (by simp) e.symm)]
  rw[e,hm];rw[e,hm]at ae;exact Jv ae
theorem Jx:∀(ms:List et) (u:Nat) (a:I),(∀m∈ms,m.x≠u/\m.x∉a.R)->gB ms u a=a:=by
 intro ms;induction ms with
 |nil=>intros;rfl
 |cons m ms ih=>
  intro u a ak;simp only[gB];have hm:m.at u a=a:=by
   simp only[et.at];rw[if_neg (λe=>(ak m (by simp)).1 e.symm)];exact rN (.inr (ak m (by simp)).2)
  rw[hm];exact ih u a λgA oX=>ak gA (by simp[oX])
theorem Jy (m:et):∀(ms:List et) (u:Nat) (a:I),(∀gA∈ms,gA.x≠m.x/\gA.x∉m.d.R/\m.x∉gA.d.R)->gB ms u (m.at u a)=m.at u (gB ms u a):=by
 intro ms;induction ms with
 |nil=>intros;rfl
 |cons n ms ih=>
  intro u a ak;simp only[gB];have aT:=ak n (by simp);have ae:n.at u (m.at u a)=m.at u (n.at u a):=by
   simp only[et.at];by_cases aD:u=n.x
   .subst aD;rw[if_pos rfl,if_neg aT.1,if_pos rfl];exact(rN (.inr aT.2.2)).symm
   .rw[if_neg aD];by_cases aG:u=m.x
    .subst aG;rw[if_pos rfl,if_pos rfl];exact rN (.inr aT.2.1)
    .rw[if_neg aG,if_neg aD,if_neg aG];exact HS _ _ _ _ _
  rw[ae];exact ih u _ λgA oX=>ak gA (by simp[oX])
theorem Jz:∀(ms hH:List et) (s:aj),(∀m∈ms,∀n∈hH,n.x≠m.x/\n.x∉m.d.R/\m.x∉n.d.R)->cg hH (cg ms s)=cg ms (cg hH s):=by
 intro ms;induction ms with
 |nil=>intros;rfl
 |cons m ms ih=>
  intro hH s h;have e:∀s,cg (m::ms) s=cg ms (cg [m] s):=λs=>jQ [m] ms s;rw[e,e,ih hH _ (λgA oX=>h gA (by simp[oX]))];congr 1;funext u;simp only[cg,gB];exact Jy m hH u _ (h m (by simp))
def JA (C:bl) (s:aj) (f:aR) (args:List aR) (K:RG->I->aj->Prop):Prop:=
 ∃(g:FuncId) (caps:RL) (ps:List bB) (r:I),aP s f= .fn g caps/\I.ee caps=true/\ps.map (·.a)=args.map (aP s)++caps/\(∀p∈ps,p.ok s)/\fw ps=true/\
   bf C g (ps.map (·.d)) r (ps.map (·.o))/\r.res=true/\(hf ps=true->r.cK=true/\∀p∈ps,p.o.cK=true)/\K (I.cn ((ps.filter (·.g)).map (·.a))) r (fm (dj s ps) ps)
def k_ (C:bl) (s:aj) (a6:cw) (K:RG->I->aj->Prop):Prop:=
 match a6 with
 | .call f args=>∃(g:FuncId) (caps:RL) (ps:List bB) (r:I),aP s f= .fn g caps/\I.ee caps=true/\ps.map (·.a)=args.map (aP s)++caps/\(∀p∈ps,p.ok s)/\fw ps=true/\
   bf C g (ps.map (·.d)) r (ps.map (·.o))/\r.res=true/\(hf ps=true->r.cK=true/\∀p∈ps,p.o.cK=true)/\K (I.cn ((ps.filter (·.g)).map (·.a))) r (fm (dj s ps) ps)
 | .shr a6=>∃av s1,bh C s a6=some (av,s1)/\av.tree=true/\(∀vs,av≠.tuple vs)/\K (km s a6) av.share s1
 |a6=>∃av s1,bh C s a6=some (av,s1)/\K (km s a6) av s1
def fM (s:aj) (bQ:RG) (dst:Option Nat) (bK:RG) (av:I):dp:=
 ⟨bQ,bQ.flatMap (λu=>(s u).R)++av.R,dst.toList++bK,bQ.all λu=>(s u).clean⟩
def ks (C:bl) (s:aj) (o:bs) (K:dp->aj->Prop):Prop:=
 match o.guard with
 |none=>k_ C s o.a6 λbK av s1=>K (fM s (use s o.a6) o.dst bK av) (fin s1 o.dst av)
 |some (t,b)=>match s t with
  | .bool dw=>if dw=b then k_ C s o.a6 (λbK av s1=>K (fM s (t::use s o.a6) o.dst bK av) (fin s1 o.dst av))else K (fM s [t] o.dst [] (.tuple [])) (fin s o.dst (.tuple []))
  | .tuple []=>K (fM s [t] o.dst [] (.tuple [])) (fin s o.dst (.tuple []))
  |_=>False
def mI:Option (List dp)->dp->Option (List dp)
 |none,_=>none
 |some l,f=>some (f::l)
def cm (C:bl) (s:aj):List bs->Option (List dp)->(Option (List dp)->aj->Prop)->Prop
 |[],acc,K=>K acc s
 |o::os,acc,K=>ks C s o λf s1=>cm C s1 os (mI acc f) K
section
variable {C:bl}
theorem Cd {s:aj} {a6:cw} {K:RG->I->aj->Prop} {b_:I->aj->Prop} (ag:∀bK av s,K bK av s->b_ av s) (h:k_ C s a6 K):kq C s a6 b_:=by
 cases a6 with
 |call f args=>
  obtain⟨g,caps,ps,r,U,fK,ab,ay,aQ,bc,bW,b4,cP⟩:=h;exact⟨g,caps,ps,r,U,fK,ab,ay,aQ,bc,bW,b4,ag _ _ _ cP⟩
 |shr a6=>
  obtain⟨av,s1,U,ab,ay,aQ⟩:=h;exact⟨av,s1,U,ab,ay,ag _ _ _ aQ⟩
 |_=>
  obtain⟨av,s1,U,ab⟩:=h;exact⟨av,s1,U,ag _ _ _ ab⟩
theorem JB {s:aj} {o:bs} {K:dp->aj->Prop} {b_:aj->Prop} (ag:∀f s,K f s->b_ s) (h:ks C s o K):iz C s o b_:=by
 unfold ks at h;unfold iz;split
 .rename_i hg;rw[hg]at h;exact Cd (λ_ _ _=>ag _ _) h
 .rename_i t b hg;rw[hg]at h;simp only at h;split
  .rename_i dw R;rw[R]at h;simp only at h;split
   .rename_i J;rw[if_pos J]at h;exact Cd (λ_ _ _=>ag _ _) h
   .rename_i J;rw[if_neg J]at h;exact ag _ _ h
  .rename_i R;rw[R]at h;exact ag _ _ h
  .rename_i U ab;split at h
   .exact U _ (by assumption)
   .exact ab (by assumption)
   .exact h
theorem ur {K:aj->Prop}:∀{ros:List bs} {s:aj} {acc:Option (List dp)} {b_:Option (List dp)->aj->Prop},(∀a s,b_ a s->K s)->cm C s ros acc b_->h4 C s ros K:=by
 intro ros;induction ros with
 |nil=>intro s acc b_ ag h;exact ag _ _ h
 |cons o ros ih=>intro s acc b_ ag h;exact JB (λf s h=>ih ag h) h
theorem Ce {q:RG} {a d:I} (h:I.sub q a=some d) (b2:q≠[]\/d.R=[]):a.R=[]:=by
 cases q with
 |nil=>
  simp only[I.sub,Option.some.injEq]at h;subst h;exact b2.resolve_left (λe=>e rfl)
 |cons k q=>cases a<;>first|rfl|(simp[I.sub]at h)
def uu (s:aj) (p:bB) (e:I->Prop):Prop:=p.g=true->∃x q d,p.a= .h x q/\I.sub q (s x)=some d/\e d/\(p.o= .hole\/p.o.ed=true)
theorem Cf {d:I} (h:d.ed=true):d.R=[]:=xo (mD h).2.1
theorem Cg {d:I} (h:d.ed=true):d.bU.R=[]:=by cases d<;>first|rfl|(simp[I.ed]at h)
theorem Ch {p:bB} {ps:List bB} (h:fw (p::ps)=true):fw ps=true/\∀bw∈ps,(p.g=true\/bw.g=true)->∀u∈p.a.R,u∉bw.a.R:=by
 simp only[fw,Bool.and_eq_true,List.all_eq_true,Bool.or_eq_true,Bool.not_eq_true']at h;refine⟨h.2,λbw cD hg u hu=>?_⟩;rcases h.1 bw cD with e|e
 .rcases hg with hg|hg<;>simp[hg]at e
 .simpa using e u hu
def nQ (ps:List bB):RG:=I.cn ((ps.filter (·.g)).map (·.a))
theorem qa (p:bB) (ps:List bB):(∀u∈nQ ps,u∈nQ (p::ps))/\(p.g=true->∀u∈p.a.R,u∈nQ (p::ps)):=by
 unfold nQ;by_cases hg:p.g=true
 .simp only[List.filter_cons,hg,if_true,List.map_cons,I.cn,List.mem_append];exact⟨λu h=>.inr h,λ_ u h=>.inl h⟩
 .simp only[List.filter_cons,hg];exact⟨λu h=>h,λh=>by simp at h⟩
theorem JC {p:bB} {ps:List bB} (h:p∈ps):∀u∈p.a.R,u∈I.cn (ps.map (·.a)):=by
 induction ps with
 |nil=>cases h
 |cons bw ps ih=>
  intro u hu;simp only[List.map_cons,I.cn,List.mem_append];rcases List.mem_cons.1 h with rfl|h
  .exact .inl hu
  .exact .inr (ih h u hu)
theorem JD:∀(ps:List bB) (s:aj),(∀p∈ps,uu s p (λd=>d=p.d/\p.d.ed=true))->fw ps=true->
  (∃ms:List et,(∀m∈ms,m.x∈nQ ps/\m.d.R=[])/\∀aq,cl (I.cn (ps.map (·.a))) aq s->dj aq ps=cg ms aq)/\∀p∈ps,uu (dj s ps) p (λd=>d=p.d.bU/\p.d.ed=true):=by
 intro ps;induction ps with
 |nil=>intro s _ _;exact⟨⟨[],by simp,λaq _=>rfl⟩,λp af=>by cases af⟩
 |cons p ps ih=>
  intro s hg gT;obtain⟨k5,kn⟩:=Ch gT;by_cases i1:p.g=true
  .obtain⟨x,q,d,a1,R,⟨rfl,ad⟩,ba⟩:=hg p (by simp) i1;have gN:(I.put q p.d.bU (s x)).R=[]:=p0 q _ _ _ R (.inl (mD ad).1) λ_=>Cg ad;have r5:∀aq:aj,aq x=s x->p.take aq=cg [⟨.bm,x,I.put q p.d.bU (s x)⟩] aq:=by
    intro aq e;simp only[bB.take,i1,if_true,a1,e,oQ]
   have bT:∀bw∈ps,∀ct fu,bw.a= .h ct fu->ct≠x:=by
    intro bw cD ct fu e ej;have:=kn bw cD (.inl i1) x (by simp[a1,I.R]);rw[e,ej]at this;simp[I.R]at this
   have nI:∀ct,ct≠x->(s ct).R=[]->cg [⟨.bm,x,I.put q p.d.bU (s x)⟩] s ct=s ct:=by
    intro ct pP bj;simp only[cg,gB,et.at];rw[if_neg pP];exact rN (.inr (by rw[bj];simp))
   obtain⟨⟨ms,m1,m2⟩,m3⟩:=ih (cg [⟨.bm,x,I.put q p.d.bU (s x)⟩] s) (λbw cD xM=>by
    obtain⟨ct,fu,aV,mE,eu,eP,r6⟩:=hg bw (by simp[cD]) xM;refine⟨ct,fu,aV,mE,?_,eP,r6⟩;rw[nI ct (bT bw cD ct fu mE) (Ce eu (.inr (by rw[eP.1];exact Cf eP.2)))];exact eu) k5
   refine⟨⟨[⟨.bm,x,I.put q p.d.bU (s x)⟩]++ms,?_,?_⟩,?_⟩
   .intro m hm;rcases List.mem_append.1 hm with hm|hm
    .simp only[List.mem_singleton]at hm;subst hm;exact⟨(qa p ps).2 i1 x (by simp[a1,I.R]),gN⟩
    .exact⟨(qa p ps).1 _ (m1 m hm).1,(m1 m hm).2⟩
   .intro aq eu;simp only[List.map_cons,I.cn]at eu;have e:aq x=s x:=eu x (by simp[a1,I.R]);rw[jQ];show dj (p.take aq) ps=_;rw[r5 aq e];exact m2 _ (cl.cg eu.right _)
   .have aD:dj s (p::ps)=dj (cg [⟨.bm,x,I.put q p.d.bU (s x)⟩] s) ps:=by
     show dj (p.take s) ps=_;rw[r5 s rfl]
    rw[aD];intro bw cD;rcases List.mem_cons.1 cD with rfl|cD
    .intro _;refine⟨x,q,bw.d.bU,a1,?_,⟨rfl,ad⟩,ba⟩;have az:cg [⟨.bm,x,I.put q bw.d.bU (s x)⟩] s x=I.put q bw.d.bU (s x):=by
      simp only[cg,gB,et.at,if_true]
     rw[xl (by rw[az];exact gN) (λJE JF Q0=>?_),az]
     .exact Bs q _ _ _ R
     .exact kn JE JF (.inl i1) x (by simp[a1,I.R])
    .exact m3 bw cD
  .have r5:∀aq:aj,p.take aq=aq:=by intro aq;simp only[bB.take,i1];rfl
   obtain⟨⟨ms,m1,m2⟩,m3⟩:=ih s (λbw cD=>hg bw (by simp[cD])) k5;refine⟨⟨ms,λm hm=>⟨(qa p ps).1 _ (m1 m hm).1,(m1 m hm).2⟩,?_⟩,?_⟩
   .intro aq eu;simp only[List.map_cons,I.cn]at eu;show dj (p.take aq) ps=_;rw[r5];exact m2 aq eu.right
   .intro bw cD;have aD:dj s (p::ps)=dj s ps:=by show dj (p.take s) ps=_;rw[r5]
    rw[aD];rcases List.mem_cons.1 cD with rfl|cD
    .intro h;exact(i1 h).elim
    .exact m3 bw cD
theorem JG:∀(ps:List bB) (s:aj),(∀p∈ps,uu s p (λd=>d=p.d.bU/\p.d.ed=true))->fw ps=true->
  (∃ms:List et,(∀m∈ms,m.x∈nQ ps/\m.d.R=[])/\∀aq,cl (I.cn (ps.map (·.a))) aq s->fm aq ps=cg ms aq):=by
 intro ps;induction ps with
 |nil=>intro s _ _;exact⟨[],by simp,λaq _=>rfl⟩
 |cons p ps ih=>
  intro s hg gT;obtain⟨k5,kn⟩:=Ch gT;by_cases i1:p.g=true/\p.o≠.hole
  .obtain⟨i1,JH⟩:=i1;obtain⟨x,q,d,a1,R,⟨rfl,ad⟩,ba⟩:=hg p (by simp) i1;have ba:p.o.ed=true:=ba.resolve_left JH;have gN:(I.put q p.o (s x)).R=[]:=by
    cases q with
    |nil=>simp only[I.put];exact Cf ba
    |cons k q=>exact p0 _ _ _ _ R (.inr (by simp)) (by simp)
   have xN:∀aq:aj,aq x=s x->p.fv aq=cg [⟨.bG,x,I.put q p.o (s x)⟩] aq:=by
    intro aq e;simp only[bB.fv,i1,if_true,a1];rw[e,Bb]
   have bT:∀bw∈ps,∀ct fu,bw.a= .h ct fu->ct≠x:=by
    intro bw cD ct fu e ej;have:=kn bw cD (.inl i1) x (by simp[a1,I.R]);rw[e,ej]at this;simp[I.R]at this
   obtain⟨ms,m1,m2⟩:=ih (cg [⟨.bG,x,I.put q p.o (s x)⟩] s) (λbw cD xM=>by
    obtain⟨ct,fu,aV,mE,eu,eP,r6⟩:=hg bw (by simp[cD]) xM;refine⟨ct,fu,aV,mE,?_,eP,r6⟩;have bj:=Ce eu (.inr (by rw[eP.1];exact Cg eP.2));have nI:cg [⟨.bG,x,I.put q p.o (s x)⟩] s ct=s ct:=by
     simp only[cg,gB,et.at];rw[if_neg (bT bw cD ct fu mE)];exact rN (.inr (by rw[bj];simp))
    rw[nI];exact eu) k5
   refine⟨[⟨.bG,x,I.put q p.o (s x)⟩]++ms,?_,?_⟩
   .intro m hm;rcases List.mem_append.1 hm with hm|hm
    .simp only[List.mem_singleton]at hm;subst hm;exact⟨(qa p ps).2 i1 x (by simp[a1,I.R]),gN⟩
    .exact⟨(qa p ps).1 _ (m1 m hm).1,(m1 m hm).2⟩
   .intro aq eu;simp only[List.map_cons,I.cn]at eu;have e:aq x=s x:=eu x (by simp[a1,I.R]);rw[jQ];show fm (p.fv aq) ps=_;rw[xN aq e];exact m2 _ (cl.cg eu.right _)
  .have xN:∀aq:aj,p.fv aq=aq:=by
    intro aq;unfold bB.fv;split
    .rename_i er;have:p.o= .hole:=by
      by_cases h:p.o= .hole
      .exact h
      .exact(i1 ⟨er,h⟩).elim
     rw[this]
    .rfl
   obtain⟨ms,m1,m2⟩:=ih s (λbw cD=>hg bw (by simp[cD])) k5;refine⟨ms,λm hm=>⟨(qa p ps).1 _ (m1 m hm).1,(m1 m hm).2⟩,?_⟩;intro aq eu;simp only[List.map_cons,I.cn]at eu;show fm (p.fv aq) ps=_;rw[xN];exact m2 aq eu.right
theorem JI {s aq:aj}:∀(a:I) (d:I),cl a.R aq s->view s a=some d->view aq a=some d:=by
 intro a d h;have:=xp (s:=s) (aq:=aq) a d;intro az;cases a with
 |h x q=>simp only[view]at az⊢;rw[h x (by simp[I.R])];exact az
 |af x q=>simp only[view]at az⊢;rw[h x (by simp[I.R])];exact az
 |fn f cap=>
  refine this (λu hu _=>h u hu) az
 |_=>exact az
theorem JJ {p:bB} {s aq:aj} (h:cl p.a.R aq s) (dI:p.ok s):p.ok aq:=by
 unfold bB.ok at dI⊢;split
 .rename_i hg;rw[if_pos hg]at dI;cases a1:p.a with
  |h x q=>
   rw[a1]at dI;simp only at dI⊢;rw[h x (by simp[a1,I.R])];exact dI
  |_=>rw[a1]at dI;exact dI.elim
 .rename_i hg;rw[if_neg hg]at dI;exact JI _ _ h dI
def uv (C:bl) (o:bs) (s:aj) (hk:dp) (ms:List et):Prop:=
 (∀aq,cl hk.bQ aq s->∀K:aj->Prop,K (cg ms aq)->iz C aq o K)/\(∀m∈ms,m.x∈hk.T/\∀u∈m.d.R,u∈hk.H)/\(∀u∈hk.bQ,∀x∈(s u).R,x∈hk.H)/\(hk.c=true->∀u∈hk.bQ,(s u).clean=true)
theorem Ci (dst:Option Nat) (av:I):∃ms:List et,(∀m∈ms,m.x∈dst.toList/\m.d=av)/\∀s1:aj,fin s1 dst av=cg ms s1:=by
 cases dst with
 |none=>exact⟨[],by simp,λs=>rfl⟩
 |some t=>
  simp only[fin];by_cases h:av.plain=true
  .exact⟨[⟨.no,t,av⟩],by simp,λs=>by rw[if_pos h,HR]⟩
  .exact⟨[⟨.bG,t,av⟩],by simp,λs=>by rw[if_neg h,Bb]⟩
theorem uw {s:aj} {bQ:RG} {dst:Option Nat} {bK:RG} {av:I}:(∀u∈(fM s bQ dst bK av).bQ,∀x∈(s u).R,x∈(fM s bQ dst bK av).H)/\((fM s bQ dst bK av).c=true->∀u∈(fM s bQ dst bK av).bQ,(s u).clean=true):=by
 refine⟨λu hu x ak=>?_,λae=>?_⟩
 .simp only[fM,List.mem_append,List.mem_flatMap];exact .inl ⟨u,hu,ak⟩
 .simp only[fM,List.all_eq_true]at ae;exact ae
theorem JK {s:aj} {f:aR} {args:List aR} {K:RG->I->aj->Prop} (h:JA C s f args K):
  ∃bK av ms,K bK av (cg ms s)/\(∀m∈ms,m.x∈bK/\m.d.R=[])/\∀aq,cl (use s (.call f args)) aq s->∀b_:I->aj->Prop,b_ av (cg ms aq)->BH C aq f args b_:=by
 obtain⟨g,caps,ps,r,U,fK,ab,ay,aQ,bc,bW,b4,cP⟩:=h;have JL:∀p∈ps,uu s p (λd=>d=p.d/\p.d.ed=true):=by
  intro p af hg;have:=ay p af;simp only[bB.ok,hg,if_true]at this;cases a1:p.a with
  |h x q=>rw[a1]at this;exact⟨x,q,p.d,rfl,this.1,⟨rfl,this.2.1⟩,this.2.2.imp id λh=>h.1⟩
  |_=>rw[a1]at this;exact this.elim
 obtain⟨⟨k4,aw,a2⟩,a3⟩:=JD ps s JL aQ;obtain⟨nE,e0,dW⟩:=JG ps (dj s ps) a3 aQ;have lL:∀u∈I.cn (ps.map (·.a)),u∈use s (.call f args):=by
  rw[ab];intro u hu;simp only[use,List.mem_append];have key:∀(eA l2:RL),u∈I.cn (eA++l2)->u∈I.cn eA\/u∈I.cn l2:=by
   intro eA;induction eA with
   |nil=>intro l2 h;exact .inr h
   |cons a eA ih=>
    intro l2 h;simp only[List.cons_append,I.cn,List.mem_append]at h⊢;rcases h with h|h
    .exact .inl (.inl h)
    .exact(ih l2 h).imp .inr id
  rcases key _ _ hu with hu|hu
  .exact .inr (aR.tY u hu)
  .refine .inl (aR.oR u ?_);rw[U];exact hu
 have ez:fm (dj s ps) ps=cg (k4++nE) s:=by
  rw[jQ,<-a2 s (λ_ _=>rfl),dW _ (λ_ _=>rfl)]
 refine⟨nQ ps,r,k4++nE,by rw[<-ez];exact cP,?_,?_⟩
 .intro m hm;rcases List.mem_append.1 hm with hm|hm
  .exact aw m hm
  .exact e0 m hm
 .intro aq R b_ ag;have oS:cl (I.cn (ps.map (·.a))) aq s:=R.sub lL;have bq:cl (f.use s) aq s:=by simp only[use]at R;exact R.left
  have ak:cl (aR.lO s args) aq s:=by simp only[use]at R;exact R.right
  have aD:fm (dj aq ps) ps=cg (k4++nE) aq:=by
   rw[jQ,<-a2 aq oS,dW];rw[a2 aq oS,a2 s (λ_ _=>rfl)];exact cl.cg oS _
  exact⟨g,caps,ps,r,by rw[aR.dQ bq];exact U,fK,by rw[aR.xb ak];exact ab,λp af=>JJ (oS.sub (JC af)) (ay p af),aQ,bc,bW,b4,by rw[aD];exact ag⟩
theorem JM {s:aj} {a6:cw} {K:RG->I->aj->Prop} (h:k_ C s a6 K):
  ∃bK av ms,K bK av (cg ms s)/\(∀m∈ms,m.x∈bK/\∀v∈m.d.R,∃u∈use s a6,v∈(s u).R)/\∀aq,cl (use s a6) aq s->∀b_:I->aj->Prop,b_ av (cg ms aq)->kq C aq a6 b_:=by
 have plain:(∃av s1,bh C s a6=some (av,s1)/\K (km s a6) av s1)->(∀aq (b_:I->aj->Prop) av s1,bh C aq a6=some (av,s1)->b_ av s1->kq C aq a6 b_)->
   ∃bK av ms,K bK av (cg ms s)/\(∀m∈ms,m.x∈bK/\∀v∈m.d.R,∃u∈use s a6,v∈(s u).R)/\∀aq,cl (use s a6) aq s->∀b_:I->aj->Prop,b_ av (cg ms aq)->kq C aq a6 b_:=by
  rintro⟨av,s1,U,ab⟩ hw;obtain⟨ms,aD,aG,aJ⟩:=Br U;subst aD;exact⟨_,av,ms,ab,λm hm=>⟨(aG m hm).1,λv az=>by rw[(aG m hm).2]at az;cases az⟩,λaq R b_ ag=>hw aq b_ av _ (aJ aq R) ag⟩
 cases a6 with
 |call f args=>
  obtain⟨bK,av,ms,aw,a2,a3⟩:=JK h;exact⟨bK,av,ms,aw,λm hm=>⟨(a2 m hm).1,λv az=>by rw[(a2 m hm).2]at az;cases az⟩,λaq R b_ ag=>a3 aq R b_ ag⟩
 |shr a6=>
  obtain⟨av,s1,U,ab,ay,aQ⟩:=h;obtain⟨ms,aD,aG,aJ⟩:=Br U;subst aD;exact⟨_,av.share,ms,aQ,λm hm=>⟨(aG m hm).1,λv az=>by rw[(aG m hm).2]at az;cases az⟩,λaq R b_ ag=>⟨av,_,aJ aq R,ab,ay,ag⟩⟩
 |_=>exact plain h (λaq b_ av s1 U ab=>⟨av,s1,U,ab⟩)
theorem JN {s:aj} {o:bs} {K:dp->aj->Prop} (h:ks C s o K):∃hk ms,K hk (cg ms s)/\uv C o s hk ms:=by
 have op:∀(bQ:RG),(∀u∈use s o.a6,u∈bQ)->(∀aq,cl bQ aq s->∀b_:aj->Prop,kq C aq o.a6 (λav s1=>b_ (fin s1 o.dst av))->iz C aq o b_)->
   k_ C s o.a6 (λbK av s1=>K (fM s bQ o.dst bK av) (fin s1 o.dst av))->∃hk ms,K hk (cg ms s)/\uv C o s hk ms:=by
  intro bQ lL dh hw;obtain⟨bK,av,ms,U,ab,ay⟩:=JM hw;obtain⟨hH,kt,dv⟩:=Ci o.dst av;refine⟨fM s bQ o.dst bK av,ms++hH,?_,?_,?_,uw.1,uw.2⟩
  .rw[jQ,<-dv];exact U
  .intro aq R b_ ag;refine dh aq R b_ (ay aq (R.sub lL) _ ?_);rw[dv,<-jQ];exact ag
  .intro m hm;simp only[fM,List.mem_append];rcases List.mem_append.1 hm with hm|hm
   .refine⟨.inr (ab m hm).1,λv az=>.inl ?_⟩;obtain⟨u,hu,hX⟩:=(ab m hm).2 v az;exact List.mem_flatMap.2 ⟨u,lL u hu,hX⟩
   .exact⟨.inl (kt m hm).1,λu hu=>.inr (by rw[(kt m hm).2]at hu;exact hu)⟩
 have skip:∀t,(∀aq,cl [t] aq s->∀b_:aj->Prop,b_ (fin aq o.dst (.tuple []))->iz C aq o b_)->K (fM s [t] o.dst [] (.tuple [])) (fin s o.dst (.tuple []))->∃hk ms,K hk (cg ms s)/\uv C o s hk ms:=by
  intro t dh ag;obtain⟨hH,kt,dv⟩:=Ci o.dst (.tuple []);refine⟨_,hH,by rw[<-dv];exact ag,?_,?_,uw.1,uw.2⟩
  .intro aq R b_ h0;exact dh aq R b_ (by rw[dv];exact h0)
  .intro m hm;simp only[fM,List.mem_append];exact⟨.inl (kt m hm).1,λu hu=>by rw[(kt m hm).2]at hu;simp[I.R]at hu⟩
 unfold ks at h;split at h
 .rename_i hg;exact op _ (λ_ h=>h) (λaq _ b_ hw=>by unfold iz;rw[hg];exact hw) h
 .rename_i t b hg;split at h
  .rename_i dw J;split at h
   .rename_i e;refine op (t::use s o.a6) (λu hu=>by simp[hu]) (λaq R b_ hw=>?_) h;have:aq t=s t:=R t (by simp);unfold iz;rw[hg];simp only[this,J,if_pos e];exact hw
   .rename_i e;refine skip t (λaq R b_ ag=>?_) h;have:aq t=s t:=R t (by simp);unfold iz;rw[hg];simp only[this,J,if_neg e];exact ag
  .rename_i J;refine skip t (λaq R b_ ag=>?_) h;have:aq t=s t:=R t (by simp);unfold iz;rw[hg];simp only[this,J];exact ag
  .exact h.elim
def nR (C:bl) (ros:List bs):aj->List (Nat×dp×List et)->Prop
 |_,[]=>True
 |s,e::r=>(∃o,ros[e.1]? =some o/\uv C o s e.2.1 e.2.2)/\nR C ros (cg e.2.2 s) r
def la (s:aj) (r:List (Nat×dp×List et)):aj:=r.foldl (λs e=>cg e.2.2 s) s
def kh (a b:RG):Bool:=a.all λx=> !b.contains x
theorem qb {a b:RG} (h:kh a b=true):∀x∈a,x∉b:=by
 intro x ak;simp only[kh,List.all_eq_true]at h;simpa using h x ak
def oY (a b:dp):Bool:=kh b.T a.bQ&&kh b.T a.H&&kh b.T a.T&&kh a.T b.bQ&&kh a.T b.H&&b.c
theorem JO {ros:List bs} {s:aj} {a b:Nat×dp×List et} {r:List (Nat×dp×List et)} (h:nR C ros s (a::b::r)) (aC:oY a.2.1 b.2.1=true):
  nR C ros s (b::a::r)/\la s (b::a::r)=la s (a::b::r):=by
 obtain⟨⟨JP,a1,aw,a2,a3,a4⟩,⟨cf,J,e0,dW,iw,b3⟩,ax⟩:=h;simp only[oY,Bool.and_eq_true]at aC;obtain⟨⟨⟨⟨⟨j8,i2⟩,i3⟩,i4⟩,i5⟩,v_⟩:=aC;have xO:∀u∈b.2.1.bQ,cg a.2.2 s u=s u:=by
  intro u hu;refine Jw _ _ _ (λm hm e=>?_) (b3 v_ u hu);exact qb i4 m.x (a2 m hm).1 (e▸hu)
 have xP:∀u∈a.2.1.bQ,cg b.2.2 s u=s u:=by
  intro u hu;refine Jx _ _ _ λm hm=>⟨λe=>?_,λak=>?_⟩
  .exact qb j8 m.x (dW m hm).1 (e▸hu)
  .exact qb i2 m.x (dW m hm).1 (a3 u hu _ ak)
 have Cj:cg b.2.2 (cg a.2.2 s)=cg a.2.2 (cg b.2.2 s):=by
  refine Jz _ _ _ λm hm n aT=>⟨λe=>?_,λh=>?_,λh=>?_⟩
  .exact qb i3 n.x (dW n aT).1 (e▸(a2 m hm).1)
  .exact qb i2 n.x (dW n aT).1 ((a2 m hm).2 _ h)
  .exact qb i5 m.x (a2 m hm).1 ((dW n aT).2 _ h)
 refine⟨⟨⟨cf,J,?_,dW,?_,?_⟩,⟨JP,a1,?_,a2,?_,?_⟩,?_⟩,?_⟩
 .intro aq R K ag;exact e0 aq (λu hu=>(R u hu).trans (xO u hu).symm) K ag
 .intro u hu x ak;exact iw u hu x (by rw[xO u hu];exact ak)
 .intro ae u hu;have:=b3 ae u hu
  rwa [xO u hu]at this
 .intro aq R K ag;exact aw aq (λu hu=>(R u hu).trans (xP u hu)) K ag
 .intro u hu x ak;rw[xP u hu]at ak;exact a3 u hu x ak
 .intro ae u hu;rw[xP u hu];exact a4 ae u hu
 .rw[<-Cj];exact ax
 .simp only[la,List.foldl_cons];rw[Cj]
theorem JQ {ros:List bs} {e:Nat×dp×List et} {post:List (Nat×dp×List et)}:∀(pre:List (Nat×dp×List et)) (s:aj),nR C ros s (pre++e::post)->(∀a∈pre,oY a.2.1 e.2.1=true)->
  nR C ros s (e::(pre++post))/\la s (e::(pre++post))=la s (pre++e::post):=by
 intro pre;induction pre with
 |nil=>intro s h _;exact⟨h,rfl⟩
 |cons a pre ih=>
  intro s h aC;obtain⟨U,ab⟩:=h;obtain⟨g1,g2⟩:=ih _ ab λb J=>aC b (by simp[J]);have ae:nR C ros s (a::e::(pre++post)):=⟨U,g1⟩
  obtain⟨bA,bN⟩:=JO ae (aC a (by simp));refine⟨bA,bN.trans ?_⟩;simp only[la,List.foldl_cons,List.cons_append]at g2⊢;exact g2
end
def r7:RE->RE->RE
 |done,[]=>done
 |done,a::r=>r7 (done++[a++a.flatMap λe=>(done[e]?).getD []]) r
def mJ (dn:RE):RE:=r7 [] dn
theorem JR {dn:RE} {l:RG} (hl:∀u i v,l=u++i::v->∀e∈(dn[i]?).getD [],e∈u):∀(rest pre done:RE),dn=pre++rest->done.length=pre.length->
  (∀u i v,l=u++i::v->∀e∈(done[i]?).getD [],e∈u)->∀u i v,l=u++i::v->∀e∈((r7 done rest)[i]?).getD [],e∈u:=by
 intro rest;induction rest with
 |nil=>intro pre done _ _ h;exact h
 |cons a rest ih=>
  intro pre done Ck hlen h;simp only[r7];refine ih (pre++[a]) _ (by simp[Ck]) (by simp[hlen]) ?_;intro u i v hu e he;by_cases aC:i<done.length
  .rw[List.getElem?_append_left aC]at he;exact h u i v hu e he
  .rw[List.getElem?_append_right (by omega)]at he;by_cases A_:i-done.length=0
   .rw[A_]at he;simp only[List.getElem?_cons_zero,Option.getD_some,List.mem_append,List.mem_flatMap]at he;have Cl:(dn[i]?).getD []=a:=by
     have:i=pre.length:=by omega
     rw[Ck,this,List.getElem?_append_right (Nat.le_refl _)];simp
    rcases he with he|⟨ej,xB,he⟩
    .exact hl u i v hu e (by rw[Cl];exact he)
    .have rQ:=hl u i v hu ej (by rw[Cl];exact xB);obtain⟨JS,JT,rfl⟩:=List.append_of_mem rQ;have:=h JS ej (JT++i::v) (by rw[hu];simp) e he;simp[this]
   .rw[List.getElem?_eq_none (by simp;omega)]at he;simp at he
theorem JU {dn:RE} {l:RG} (hl:∀u i v,l=u++i::v->∀e∈(dn[i]?).getD [],e∈u):∀u i v,l=u++i::v->∀e∈((mJ dn)[i]?).getD [],e∈u:=
 JR hl dn [] [] rfl rfl λu i v _ e he=>by simp at he
def h8 (jr:RE):Nat->List (Nat×dp)->List dp->Bool
 |_,_,[]=>true
 |j,es,f::al=>(es.all λe=>((jr[j]?).getD []).contains e.1||oY e.2 f)&&h8 jr (j+1) ((j,f)::es) al
def xQ (jr:RE) (a b:Nat×dp×List et):Prop:=a.1∈(jr[b.1]?).getD []\/oY a.2.1 b.2.1=true
theorem JV {jr:RE}:∀(eI:List (Nat×dp×List et)) (j:Nat) (es:List (Nat×dp)),eI.map (·.1)=(List.range eI.length).map (·+j)->h8 jr j es (eI.map (·.2.1))=true->
  eI.Pairwise (xQ jr)/\∀e∈es,∀b∈eI,e.1∈(jr[b.1]?).getD []\/oY e.2 b.2.1=true:=by
 intro eI;induction eI with
 |nil=>intro j es _ _;exact⟨.nil,λe _ b J=>by cases J⟩
 |cons a eI ih=>
  intro j es ku dI;rw[List.length_cons,List.range_succ_eq_map,List.map_cons,List.map_cons,List.map_map]at ku;simp only[List.cons.injEq,Nat.zero_add]at ku;obtain⟨bE,ku⟩:=ku;simp only[List.map_cons,h8,Bool.and_eq_true,List.all_eq_true,Bool.or_eq_true]at dI;obtain⟨U,ab⟩:=dI;obtain⟨g1,g2⟩:=ih (j+1) _ (by rw[ku];congr 1;funext x;simp;omega) ab;refine⟨.cons (λb J=>?_) g1,λe he b J=>?_⟩
  .have:=g2 (j,a.2.1) (by simp) b J;simp only[xQ,bE];exact this
  .rcases List.mem_cons.1 J with rfl|J
   .rw[bE];exact(U e he).imp (λh=>by simpa using h) id
   .exact g2 e (by simp[he]) b J
section
variable {C:bl}
theorem JW {K:Option (List dp)->aj->Prop}:∀(os pre:List bs) (s:aj) (acc:List dp),cm C s os (some acc) K->
  ∃eI,nR C (pre++os) s eI/\eI.map (·.1)=(List.range os.length).map (·+pre.length)/\K (some ((eI.map (·.2.1)).reverse++acc)) (la s eI):=by
 intro os;induction os with
 |nil=>intro pre s acc h;exact⟨[],trivial,rfl,h⟩
 |cons o os ih=>
  intro pre s acc h;obtain⟨hk,ms,U,ab⟩:=JN h;obtain⟨eI,g1,g2,g3⟩:=ih (pre++[o]) _ (hk::acc) U;refine⟨(pre.length,hk,ms)::eI,⟨⟨o,?_,ab⟩,?_⟩,?_,?_⟩
  .rw[List.getElem?_append_right (Nat.le_refl _)];simp
  .simpa using g1
  .rw[List.length_cons,List.range_succ_eq_map,List.map_cons,List.map_cons,List.map_map,g2];simp only[List.cons.injEq,Nat.zero_add,true_and];congr 1;funext x;simp;omega
  .simpa [la]using g3
theorem JX {ros:List bs} {jr:RE} {K:aj->Prop}:∀(l:RG) (eI:List (Nat×dp×List et)) (s:aj),nR C ros s eI->eI.Pairwise (xQ jr)->l.Nodup->(eI.map (·.1)).Nodup->
  (∀i,i∈l↔i∈eI.map (·.1))->(∀u i v,l=u++i::v->∀e∈(jr[i]?).getD [],e∈eI.map (·.1)->e∈u)->K (la s eI)->gC C ros s l K:=by
 intro l;induction l with
 |nil=>
  intro eI s _ _ _ _ hm _ ag;cases eI with
  |nil=>exact ag
  |cons e eI=>have:=(hm e.1).2 (by simp);cases this
 |cons i l ih=>
  intro eI s ae af aT ix hm ba ag;obtain⟨e,he,aC⟩:=List.mem_map.1 ((hm i).1 (by simp));obtain⟨pre,post,rfl⟩:=List.append_of_mem he;have JY:∀a∈pre,oY a.2.1 e.2.1=true:=by
   intro a a1;have ax:=(List.pairwise_append.1 af).2.2 a a1 e (by simp);rcases ax with ax|ax
   .rw[aC]at ax;have:=ba [] i l rfl a.1 ax (by simp only[List.map_append,List.mem_append,List.mem_map];exact .inl ⟨a,a1,rfl⟩);cases this
   .exact ax
  obtain⟨g1,g2⟩:=JQ pre s ae JY;obtain⟨⟨o,JZ,ug⟩,g3⟩:=g1;have Cm:i∉(pre++post).map (·.1):=by
   have:(pre.map (·.1)++e.1::post.map (·.1)).Nodup:=by simpa using ix
   have aN:=(List.perm_middle.nodup_iff.1 this)
   rw[List.nodup_cons]at aN;rw[<-aC];simpa using aN.1
  simp only[gC];rw[<-aC,JZ];refine ug.1 s (λ_ _=>rfl) _ ?_;rw[List.nodup_cons]at aT;refine ih (pre++post) _ g3 ?_ aT.2 ?_ ?_ ?_ ?_
  .exact af.sublist ((List.Sublist.refl pre).append (List.sublist_cons_self e post))
  .have:(pre.map (·.1)++e.1::post.map (·.1)).Nodup:=by simpa using ix
   have aN:=(List.perm_middle.nodup_iff.1 this)
   rw[List.nodup_cons]at aN;simpa using aN.2
  .intro j;constructor
   .intro bE;have U:=(hm j).1 (by simp[bE]);simp only[List.map_append,List.map_cons,List.mem_append,List.mem_cons]at U⊢;rcases U with U|rfl|U
    .exact .inl U
    .exact(aT.1 (aC▸bE)).elim
    .exact .inr U
   .intro bE;have U:=(hm j).2 (by
     simp only[List.map_append,List.map_cons,List.mem_append,List.mem_cons]at bE⊢;exact bE.imp id .inr)
    rcases List.mem_cons.1 U with rfl|U
    .exact(Cm bE).elim
    .exact U
  .intro u j v hu x ak xR;have U:=ba (i::u) j v (by rw[hu];rfl) x ak (by
    simp only[List.map_append,List.map_cons,List.mem_append,List.mem_cons]at xR⊢;exact xR.imp id .inr)
   rcases List.mem_cons.1 U with rfl|U
   .exact(Cm xR).elim
   .exact U
  .have:la s (e::(pre++post))=la (cg e.2.2 s) (pre++post):=rfl;rw[<-this,g2];exact ag
theorem J0 {ros:List bs} {dn:RE} {s:aj} {K:aj->Prop} (hlen:dn.length=ros.length)
  (h:cm C s ros (some []) (λacc s=>h8 (mJ dn) 0 [] (acc.getD []).reverse=true/\K s)):∀l,xA dn l->gC C ros s l K:=by
 intro l ⟨eA,l2,xr⟩;obtain⟨eI,g1,g2,g3,g4⟩:=JW ros [] s [] h;simp only[List.nil_append,List.append_nil,List.length_nil,Option.getD_some,List.reverse_reverse]at g1 g2 g3;have hl:eI.length=ros.length:=by have:=congrArg List.length g2;simpa using this
 have ku:eI.map (·.1)=(List.range eI.length).map (·+0):=by rw[g2,hl]
 have ax:eI.map (·.1)=List.range ros.length:=by rw[g2];simp
 obtain⟨eo,_⟩:=JV eI 0 [] ku g3;refine JX l eI s g1 eo eA (by rw[ax];exact List.nodup_range) (λi=>?_) (λu i v hu e he _=>JU xr u i v hu e he) g4;rw[ax,l2,hlen,List.mem_range]
end
def r8 (C:bl) (dst:Option Nat) (os:List bs) (K:Option (List dp)->aj->Prop):Option (I×aj)->Prop
 |some (av,s1)=>cm C (fin s1 dst av) os none K
 |none=>False
def r9 (C:bl) (l:RK) (bQ bK:RG) (dst:Option Nat) (os:List bs) (a:List dp) (K:Option (List dp)->aj->Prop):Option (I×aj)->Prop
 |some (av,s1)=>cm C (fin s1 dst av) os (some (fM (au l) bQ dst bK av::a)) K
 |none=>False
def h9 (C:bl) (l:RK) (dst:Option Nat) (a6:cw) (t:Nat) (b:Bool) (os:List bs) (acc:Option (List dp)) (K:Option (List dp)->aj->Prop):I->Prop
 | .bool dw=>if dw=b then k_ C (au l) a6 (λbK av s1=>cm C (fin s1 dst av) os (mI acc (fM (au l) (t::use (au l) a6) dst bK av)) K)else cm C (fin (au l) dst (.tuple [])) os (mI acc (fM (au l) [t] dst [] (.tuple []))) K
 | .tuple []=>cm C (fin (au l) dst (.tuple [])) os (mI acc (fM (au l) [t] dst [] (.tuple []))) K
 |_=>False
section
variable {C:bl} {l:RK} {os:List bs} {K:Option (List dp)->aj->Prop} {dst:Option Nat} {a:List dp} {acc:Option (List dp)}
theorem ux {s:aj} {a6:cw} {K:RG->I->aj->Prop} (aT:a6.fe=false):k_ C s a6 K=(match bh C s a6 with
  |some (av,s1)=>K (km s a6) av s1
  |none=>False):=by
 apply propext;constructor
 .intro h;cases a6<;>first
   |(simp[cw.fe]at aT;done)
   |(obtain⟨av,s1,U,ab⟩:=h;rw[U];exact ab)
 .intro h;split at h
  .rename_i av s1 he;cases a6<;>first
    |(simp[cw.fe]at aT;done)
    |exact⟨av,s1,he,h⟩
  .exact h.elim
theorem Cn:cm C (au l) [] acc K=K acc (au l):=rfl
theorem Co {a6:cw} (aT:a6.fe=false):cm C (au l) (⟨dst,a6,none⟩::os) none K=r8 C dst os K (bh C (au l) a6):=by
 simp only[cm,ks,mI];rw[ux aT];cases bh C (au l) a6 with
 |none=>rfl
 |some p=>rfl
theorem Cp {a6:cw} (aT:a6.fe=false):cm C (au l) (⟨dst,a6,none⟩::os) (some a) K=r9 C l (use (au l) a6) (km (au l) a6) dst os a K (bh C (au l) a6):=by
 simp only[cm,ks,mI];rw[ux aT];cases bh C (au l) a6 with
 |none=>rfl
 |some p=>rfl
theorem Cq {a6:cw} {t:Nat} {b:Bool}:cm C (au l) (⟨dst,a6,some (t,b)⟩::os) acc K=h9 C l dst a6 t b os acc K (au l t):=by
 simp only[cm,ks];generalize au l t=v;cases v<;>first|rfl|(rename_i vs;cases vs<;>rfl)
theorem Cr {a6:cw} {t:Nat} {b:Bool} (aT:a6.fe=false):h9 C l dst a6 t b os none K (.bool b)=r8 C dst os K (bh C (au l) a6):=by
 simp only[h9,if_true];rw[ux aT];cases bh C (au l) a6 with
 |none=>rfl
 |some p=>rfl
theorem Cs {a6:cw} {t:Nat} {b:Bool} (aT:a6.fe=false):h9 C l dst a6 t b os (some a) K (.bool b)=r9 C l (t::use (au l) a6) (km (au l) a6) dst os a K (bh C (au l) a6):=by
 simp only[h9,if_true];rw[ux aT];cases bh C (au l) a6 with
 |none=>rfl
 |some p=>rfl
theorem J1 {a6:cw} {t:Nat}:h9 C l dst a6 t true os none K (.bool false)=cm C (fin (au l) dst (.tuple [])) os none K/\h9 C l dst a6 t false os none K (.bool true)=cm C (fin (au l) dst (.tuple [])) os none K/\
  (∀b,h9 C l dst a6 t b os none K (.tuple [])=cm C (fin (au l) dst (.tuple [])) os none K):=⟨rfl,rfl,λ_=>rfl⟩
theorem J2 {a6:cw} {t:Nat}:h9 C l dst a6 t true os (some a) K (.bool false)=cm C (fin (au l) dst (.tuple [])) os (some (fM (au l) [t] dst [] (.tuple [])::a)) K/\
  h9 C l dst a6 t false os (some a) K (.bool true)=cm C (fin (au l) dst (.tuple [])) os (some (fM (au l) [t] dst [] (.tuple [])::a)) K/\
  (∀b,h9 C l dst a6 t b os (some a) K (.tuple [])=cm C (fin (au l) dst (.tuple [])) os (some (fM (au l) [t] dst [] (.tuple [])::a)) K):=⟨rfl,rfl,λ_=>rfl⟩
theorem J3 (av:I) (s1:aj):r8 C dst os K (some (av,s1))=cm C (fin s1 dst av) os none K:=rfl
theorem J4 (bQ bK:RG) (av:I) (s1:aj):r9 C l bQ bK dst os a K (some (av,s1))=cm C (fin s1 dst av) os (some (fM (au l) bQ dst bK av::a)) K:=rfl
def xS (s:aj):I->Option (I×aj)
 | .h y q=>bK s (.h y q)
 |d=>some (d,s)
def Ct (s:aj):I->I->I->Option (I×aj)
 | .bool dw,x,y=>some (if dw then x else y,s)
 |_,_,_=>none
def hn (s:aj):Option I->Option (I×aj)
 |some d=>some (d,s)
 |none=>none
def cO:Option aj->Option (I×aj)
 |some s1=>some (.hole,s1)
 |none=>none
def gV (s:aj):List aR->RL
 |[]=>[]
 |x::xs=>aP s x::gV s xs
def nS (s:aj):List (Nat×aR)->RK
 |[]=>[]
 |(k,x)::xs=>(k,aP s x)::nS s xs
def r_ (s:aj):Option aR->Option I
 |none=>none
 |some x=>some (aP s x)
theorem Cu (s:aj) (x:Option I):(x.map λd=>(d,s))=hn s x:=by cases x<;>rfl
theorem J5 (x:Option aj):(x.map λs1=>(I.hole,s1))=cO x:=by cases x<;>rfl
theorem uy (s:aj):∀xs:List aR,xs.map (aP s)=gV s xs
 |[]=>rfl
 |x::xs=>by simp only[List.map_cons,gV,uy s xs]
theorem Cv (s:aj):∀xs:List (Nat×aR),(xs.map λp=>(p.1,aP s p.2))=nS s xs
 |[]=>rfl
 |(k,x)::xs=>by simp only[List.map_cons,nS,Cv s xs]
theorem J6 (s:aj) (x:Option aR):x.map (aP s)=r_ s x:=by cases x<;>rfl
theorem Cw:(∀x,cw.fe (.jk x)=false)/\
  (∀x,cw.fe (.fI x)=false)/\
  (∀c x y,cw.fe (.pick c x y)=false)/\
  (∀T,cw.fe (.iR T)=false)/\
  (∀T x,cw.fe (.fF T x)=false)/\
  (∀T ps,cw.fe (.ey T ps)=false)/\
  (∀T n ps,cw.fe (.dH T n ps)=false)/\
  (∀T x,cw.fe (.eL T x)=false)/\
  (∀T x y,cw.fe (.gS T x y)=false)/\
  (∀x,cw.fe (.hG x)=false)/\
  (∀op T x y,cw.fe (.cW op T x y)=false)/\
  (∀op x,cw.fe (.un op x)=false)/\
  (∀A B x,cw.fe (.fG A B x)=false)/\
  (∀f cs,cw.fe (.nF f cs)=false)/\
  (∀T x y,cw.fe (.cQ T x y)=false)/\
  (∀T x di aC,cw.fe (.eD T x di aC)=false)/\
  (∀T x k,cw.fe (.hC T x k)=false)/\
  (∀T x y,cw.fe (.fE T x y)=false)/\
  (∀T x y,cw.fe (.idx T x y)=false)/\
  (∀x k,cw.fe (.ex x k)=false)/\
  (∀T x,cw.fe (.len T x)=false)/\
  (∀T bQ x y,cw.fe (.app T bQ x y)=false):=by
 and_intros<;>intros<;>rfl
theorem Cx:(∀x,bh C (au l) (.jk x)=some (aP (au l) x,au l))/\
  (∀x,bh C (au l) (.fI x)=xS (au l) (aP (au l) x))/\
  (∀c x y,bh C (au l) (.pick c x y)=Ct (au l) (aP (au l) c) (aP (au l) x) (aP (au l) y))/\
  (∀T,bh C (au l) (.iR T)=hn (au l) (iR C T))/\
  (∀T x,bh C (au l) (.fF T x)=fF (au l) (aP (au l) x))/\
  (∀T ps,bh C (au l) (.ey T ps)=ey C (au l) T (nS (au l) ps))/\
  (∀T n ps,bh C (au l) (.dH T n ps)=dH C (au l) T n (nS (au l) ps))/\
  (∀T x,bh C (au l) (.eL T x)=hn (au l) (eL C (au l) T (aP (au l) x)))/\
  (∀T x y,bh C (au l) (.gS T x y)=cO (gS C (au l) T (aP (au l) x) (aP (au l) y)))/\
  (∀x,bh C (au l) (.hG x)=hn (au l) (hG (au l) (aP (au l) x)))/\
  (∀op T x y,bh C (au l) (.cW op T x y)=hn (au l) (cW C (au l) op T (aP (au l) x) (aP (au l) y)))/\
  (∀op x,bh C (au l) (.un op x)=hn (au l) (un op (aP (au l) x)))/\
  (∀A B x,bh C (au l) (.fG A B x)=hn (au l) (fG C (au l) A B (aP (au l) x)))/\
  (∀f cs,bh C (au l) (.nF f cs)=some (.fn f (gV (au l) cs),au l))/\
  (∀T x y,bh C (au l) (.cQ T x y)=hn (au l) (cQ C T (aP (au l) x) (aP (au l) y)))/\
  (∀T x di aC,bh C (au l) (.eD T x di aC)=eD C (au l) T (aP (au l) x) (r_ (au l) di) (r_ (au l) aC))/\
  (∀T x k,bh C (au l) (.hC T x k)=hn (au l) (hC C (au l) T (aP (au l) x) k))/\
  (∀T x y,bh C (au l) (.fE T x y)=hn (au l) (fE C (au l) T (aP (au l) x) (aP (au l) y)))/\
  (∀T x y,bh C (au l) (.idx T x y)=hn (au l) (idx C T (aP (au l) x) (aP (au l) y)))/\
  (∀x k,bh C (au l) (.ex x k)=hn (au l) (ex (au l) (aP (au l) x) k))/\
  (∀T x,bh C (au l) (.len T x)=hn (au l) (iT C (au l) T (aP (au l) x)))/\
  (∀T bQ x y,bh C (au l) (.app T bQ x y)=mC C (au l) T bQ (aP (au l) x) (aP (au l) y)):=by
 and_intros<;>intros<;>first|rfl|(simp only[bh,Cu,J5,Cv,uy,J6];done)|(simp only[bh];cases aP (au l) _<;>first|rfl|(rename_i b;cases b<;>rfl))
end
theorem Cy:∀t d,mr t d=if I.plain d=true then d else .h t []:=λ_ _=>rfl
theorem Cz:(∀l av,fin (au l) none av=au l)/\(∀l t av,fin (au l) (some t) av=au ((t,av)::if I.plain av=true then l else mG t l)):=
 ⟨λ_ _=>rfl,λl t av=>by
  simp only[fin];split
  .rw[uo]
  .rw[xL,uo]⟩
theorem CA:
  (∀k n,I.plain (.int k n)=true)/\
  (∀b,I.plain (.bool b)=true)/\
  (∀x,I.plain (.str x)=true)/\
  (∀xs,I.plain (.slice xs)=true)/\
  (∀d,I.plain (.ref d)=true)/\
  (∀f cap,I.plain (.fn f cap)=true)/\
  (∀x q,I.plain (.h x q)=true)/\
  (∀x q,I.plain (.af x q)=true)/\
  (I.plain .cu=true)/\
  (I.plain .bz=true)/\
  (I.plain .dB=true)/\
  (I.plain .hole=true)/\
  (∀sz xs,I.plain (.aE sz xs)=false)/\
  (∀d,I.plain (.bC d)=false)/\
  (∀al,I.plain (.agg al)=I.ee al)/\
  (∀al,I.plain (.tuple al)=I.ee al)/\
  (I.ee []=true)/\
  (∀d ds,I.ee (d::ds)=(d.plain&&I.ee ds)):=
 ⟨λ_ _=>rfl,λ_=>rfl,λ_=>rfl,λ_=>rfl,λ_=>rfl,λ_ _=>rfl,λ_ _=>rfl,λ_ _=>rfl,rfl,rfl,rfl,rfl,λ_ _=>rfl,λ_=>rfl,λ_=>rfl,λ_=>rfl,rfl,λ_ _=>rfl⟩
theorem CB:∀s d,xS s d=match d with| .h y q=>bK s (.h y q)|d=>some (d,s):=λ_ _=>by unfold xS;rfl
theorem CC:
  (∀t k n,bG t (.int k n)=(.int k n))/\
  (∀t b,bG t (.bool b)=(.bool b))/\
  (∀t x,bG t (.str x)=(.str x))/\
  (∀t xs,bG t (.slice xs)=(.slice xs))/\
  (∀t d,bG t (.ref d)=(.ref d))/\
  (∀t,bG t .cu= .cu)/\
  (∀t,bG t .bz= .bz)/\
  (∀t,bG t .dB= .dB)/\
  (∀t,bG t .hole= .hole)/\
  (∀t sz xs,bG t (.aE sz xs)=(.aE sz xs))/\
  (∀t d,bG t (.bC d)=(.bC d))/\
  (∀t al,bG t (.agg al)=(.agg al))/\
  (∀t al,bG t (.tuple al)=(.tuple al))/\
  (∀t y q,bG t (.h y q)=if y=t then .hole else .h y q)/\
  (∀t y q,bG t (.af y q)=if y=t then .hole else .af y q)/\
  (∀t f c,bG t (.fn f c)= .fn f (fS t c))/\
  (∀t,fS t []=[])/\
  (∀t d ds,fS t (d::ds)=bG t d::fS t ds)/\
  (∀t,mG t []=[])/\
  (∀t u d l,mG t ((u,d)::l)=(u,bG t d)::mG t l)/\
  (∀t l,im t (au l)=au (mG t l)):=
 ⟨λ_ _ _=>by unfold bG;rfl,λ_ _=>by unfold bG;rfl,λ_ _=>by unfold bG;rfl,λ_ _=>by unfold bG;rfl,λ_ _=>by unfold bG;rfl,λ_=>by unfold bG;rfl,λ_=>by unfold bG;rfl,λ_=>by unfold bG;rfl,λ_=>by unfold bG;rfl,λ_ _ _=>by unfold bG;rfl,λ_ _=>by unfold bG;rfl,λ_ _=>by unfold bG;rfl,λ_ _=>by unfold bG;rfl,λ_ _ _=>by unfold bG;rfl,λ_ _ _=>by unfold bG;rfl,λ_ _ _=>by simp only[bG],λ_=>by simp only[fS],λ_ _ _=>by simp only[fS],λ_=>rfl,λ_ _ _ _=>rfl,λt l=>xL t l⟩
theorem CD:
  (∀t k n,bm t (.int k n)=(.int k n))/\
  (∀t b,bm t (.bool b)=(.bool b))/\
  (∀t x,bm t (.str x)=(.str x))/\
  (∀t xs,bm t (.slice xs)=(.slice xs))/\
  (∀t d,bm t (.ref d)=(.ref d))/\
  (∀t,bm t .cu= .cu)/\
  (∀t,bm t .bz= .bz)/\
  (∀t,bm t .dB= .dB)/\
  (∀t,bm t .hole= .hole)/\
  (∀t sz xs,bm t (.aE sz xs)=(.aE sz xs))/\
  (∀t d,bm t (.bC d)=(.bC d))/\
  (∀t al,bm t (.agg al)=(.agg al))/\
  (∀t al,bm t (.tuple al)=(.tuple al))/\
  (∀t y,bm t (.h y [])= .h y [])/\
  (∀t y k q,bm t (.h y (k::q))=if y=t then .hole else .h y (k::q))/\
  (∀t y q,bm t (.af y q)=if y=t then .hole else .af y q)/\
  (∀t f c,bm t (.fn f c)= .fn f (ft t c))/\
  (∀t,ft t []=[])/\
  (∀t d ds,ft t (d::ds)=bm t d::ft t ds)/\
  (∀t,oW t []=[])/\
  (∀t u d l,oW t ((u,d)::l)=(u,bm t d)::oW t l)/\
  (∀t l,fa t (au l)=au (oW t l)):=
 ⟨λ_ _ _=>by unfold bm;rfl,λ_ _=>by unfold bm;rfl,λ_ _=>by unfold bm;rfl,λ_ _=>by unfold bm;rfl,λ_ _=>by unfold bm;rfl,λ_=>by unfold bm;rfl,λ_=>by unfold bm;rfl,λ_=>by unfold bm;rfl,λ_=>by unfold bm;rfl,λ_ _ _=>by unfold bm;rfl,λ_ _=>by unfold bm;rfl,λ_ _=>by unfold bm;rfl,λ_ _=>by unfold bm;rfl,λ_ _=>by simp[bm],λ_ _ _ _=>by simp[bm],λ_ _ _=>by unfold bm;rfl,λ_ _ _=>by simp only[bm],λ_=>by simp only[ft],λ_ _ _=>by simp only[ft],λ_=>rfl,λ_ _ _ _=>rfl,λt l=>Js t l⟩
def xT:jI->Bool->Option I
 | .bool,b=>some (.bool b)
 |_,_=>none
def oZ (neg:Bool):jI->Option RH->Option I
 | .slice _,some r=>some (rq neg r)
 |_,_=>none
def o0 (neg:Bool):jI->RH->Option I
 | .ptr _,some b=>some (.bool (b !=neg))
 |_,_=>none
theorem CE (C:bl) (s:aj) (T:TypeId):
  (∀op k a b5 b,cW C s op T (.int k a) (.int b5 b)=fl op k a b5 b)/\
  (∀op a b,cW C s op T (.str a) (.str b)=jK op a b)/\
  (∀a b,cW C s .eql T (.bool a) (.bool b)=xT (C.T T).k (a==b))/\
  (∀a b,cW C s .neq T (.bool a) (.bool b)=xT (C.T T).k (!(a==b)))/\
  (∀xs,cW C s .eql T (.slice xs) .bz=oZ false (C.T T).k (hY s (.slice xs)))/\
  (∀xs,cW C s .neq T (.slice xs) .bz=oZ true (C.T T).k (hY s (.slice xs)))/\
  (cW C s .eql T .bz .bz=oZ false (C.T T).k (hY s .bz))/\
  (cW C s .neq T .bz .bz=oZ true (C.T T).k (hY s .bz))/\
  (∀x q,cW C s .eql T (.h x q) .bz=oZ false (C.T T).k (hY s (.h x q)))/\
  (∀x q,cW C s .neq T (.h x q) .bz=oZ true (C.T T).k (hY s (.h x q)))/\
  (∀x q,cW C s .eql T (.h x q) .cu=o0 false (C.T T).k (hZ s (.h x q)))/\
  (∀x q,cW C s .neq T (.h x q) .cu=o0 true (C.T T).k (hZ s (.h x q)))/\
  (∀d,cW C s .eql T (.ref d) .cu=o0 false (C.T T).k (hZ s (.ref d)))/\
  (∀d,cW C s .neq T (.ref d) .cu=o0 true (C.T T).k (hZ s (.ref d)))/\
  (cW C s .eql T .cu .cu=o0 false (C.T T).k (hZ s .cu))/\
  (cW C s .neq T .cu .cu=o0 true (C.T T).k (hZ s .cu)):=by
 refine⟨?_,?_,?_,?_,?_,?_,?_,?_,?_,?_,?_,?_,?_,?_,?_,?_⟩<;>intros<;>first
  |rfl
  |(simp only[cW]
    generalize (C.T T).k=hb;cases hb<;>first|rfl|(simp only[oZ];generalize hY s _=v;cases v<;>rfl)|(simp only[o0];generalize hZ s _=v;cases v<;>(try (rename_i b;cases b))<;>rfl))
theorem CF (k:IntKind) (a b:Int):
  fl .add k a k b=some (.int k (k.wrap (a+b)))/\fl .sub k a k b=some (.int k (k.wrap (a-b)))/\fl .mul k a k b=some (.int k (k.wrap (a*b)))/\
  fl .eql k a k b=some (.bool (a==b))/\fl .neq k a k b=some (.bool (a !=b))/\fl .lss k a k b=some (.bool (decide (a<b)))/\fl .leq k a k b=some (.bool (decide (a<=b)))/\
  fl .gtr k a k b=some (.bool (decide (b<a)))/\fl .geq k a k b=some (.bool (decide (b<=a)))/\
  fl .and k a k b=some (.int k (bitsOf .and k a b))/\fl .or k a k b=some (.int k (bitsOf .or k a b))/\fl .xor k a k b=some (.int k (bitsOf .xor k a b))/\fl .andNot k a k b=some (.int k (bitsOf .andNot k a b)):=by
 simp[fl]
theorem J7 {k:IntKind} {a b:Int} (h:b≠0):fl .quo k a k b=some (.int k (k.wrap (a.tdiv b))):=by simp[fl,h]
theorem J8 {k:IntKind} {a b:Int} (h:b≠0):fl .rem k a k b=some (.int k (a.tmod b)):=by simp[fl,h]
theorem J9 {k b5:IntKind} {a b:Int} (h:¬b<0):fl .shl k a b5 b=some (.int k (k.wrap (a*2^(min b.toNat k.bits)))):=by simp[fl,h]
theorem CG (a b:RD):
  jK .eql a b=some (.bool (a==b))/\jK .neq a b=some (.bool !(a==b))/\jK .lss a b=some (.bool (Op.bytesLess a b))/\
  jK .leq a b=some (.bool (Op.bytesLess a b||a==b))/\jK .gtr a b=some (.bool !(Op.bytesLess a b||a==b))/\jK .geq a b=some (.bool !(Op.bytesLess a b)):=by
 refine⟨rfl,rfl,rfl,rfl,rfl,rfl⟩
theorem CH:(∀b,un .not (.bool b)=some (.bool !b))/\(un .not .dB=some .dB)/\(∀k n,un .neg (.int k n)=some (.int k (k.wrap (0-n)))):=⟨λ_=>rfl,rfl,λ_ _=>rfl⟩
def xU:jI->Option UInt8->Option I
 | .str,some c=>some (.int .u8 c.toNat)
 |_,_=>none
theorem CI (C:bl) (T:TypeId) (l:RD) (k:IntKind) (n:Int):idx C T (.str l) (.int k n)=xU (C.T T).k (cj l n):=by
 simp only[idx,cj];generalize (C.T T).k=hb;cases hb<;>first|rfl|(simp only[xU];split<;>first|rfl|(cases l[n.toNat]? <;>rfl))
def xV (C:bl):jI->Option I->Option I
 | .slice e,some d=>if(C.T e).ok=true/\d.wd=(C.T e).sz then some (.ref d)else none
 |_,_=>none
theorem CJ (C:bl) (s:aj) (T:TypeId) (xs:RL) (k:IntKind) (n:Int):fE C s T (.slice xs) (.int k n)=xV C (C.T T).k (cj xs n):=by
 simp only[fE,cj];generalize (C.T T).k=hb;cases hb<;>first|rfl|skip
 simp only[xV];by_cases bj:0<=n
 .simp only[bj,true_and,if_true];split
  .cases xs[n.toNat]? <;>simp[*]
  .cases xs[n.toNat]? <;>simp[*]
 .simp only[bj,false_and,if_false]
def sa (C:bl) (y:Nat) (q:RG) (n:Int):jI->Option I->Option I
 | .slice e,some (.aE sz xs)=>if(cj xs n).isSome=true/\(C.T e).ok=true/\sz=(C.T e).sz then some (.af y (q++[n.toNat]))else none
 |_,_=>none
theorem CK (C:bl) (s:aj) (T:TypeId) (y:Nat) (q:RG) (k:IntKind) (n:Int):fE C s T (.h y q) (.int k n)=sa C y q n (C.T T).k (I.sub q (s y)):=by
 simp only[fE];generalize (C.T T).k=hb;cases hb<;>first|rfl|skip
 rename_i e;cases R:I.sub q (s y)with
 |none=>simp[sa]
 |some d=>
  cases d<;>first
   |(simp[sa];done)
   |skip
  rename_i sz xs;have hg:(cj xs n).isSome=true↔0<=n/\n.toNat<xs.length:=by
   unfold cj;split<;>simp_all<;>omega
  simp only[sa,hg];by_cases bj:0<=n<;>by_cases U:(C.T e).ok=true<;>simp[bj,U]
def qc:jI->aj->Option RD->Option (I×aj)
 | .str,s,some t=>some (.str t,s)
 |_,_,_=>none
def qd (C:bl):jI->aj->RL->Option RL->Option (I×aj)
 | .slice e,s,xs,some t=>if(C.T e).ok=true/\∀d∈xs,d.wd=(C.T e).sz then some (.slice t,s)else none
 |_,_,_,_=>none
theorem CL (C:bl) (s:aj) (T:TypeId) (l:RD):
  (∀k a b5 b,eD C s T (.str l) (some (.int k a)) (some (.int b5 b))=qc (C.T T).k s (c8 l a b))/\
  (∀b5 b,eD C s T (.str l) none (some (.int b5 b))=qc (C.T T).k s (c8 l 0 b))/\
  (∀k a,eD C s T (.str l) (some (.int k a)) none=qc (C.T T).k s (c8 l a l.length)):=by
 have e:∀(di aC:Option I) (a b:Int),(e9 0 di=if 0<=a then some a.toNat else none)->(e9 l.length aC=if 0<=b then some b.toNat else none)->eD C s T (.str l) di aC=qc (C.T T).k s (c8 l a b):=by
  intro di aC a b U ab;simp only[eD];generalize (C.T T).k=hb;cases hb<;>first|rfl|skip
  simp only[U,ab,c8];by_cases a1:0<=a<;>by_cases J:0<=b<;>simp only[a1,J,if_true,if_false,qc,true_and,false_and]
  .by_cases ae:a<=b/\b<=l.length
   .rw[if_pos ⟨by omega,by omega⟩,if_pos ae]
   .rw[if_neg (λh=>ae ⟨by omega,by omega⟩),if_neg ae]
  .rw[if_neg (by omega)]
 exact⟨λk a b5 b=>e _ _ a b rfl rfl,λb5 b=>e _ _ 0 b rfl rfl,λk a=>e _ _ a l.length rfl (by simp[e9])⟩
theorem CM (C:bl) (s:aj) (T:TypeId) (xs:RL):
  (∀k a b5 b,eD C s T (.slice xs) (some (.int k a)) (some (.int b5 b))=qd C (C.T T).k s xs (c8 xs a b))/\
  (∀b5 b,eD C s T (.slice xs) none (some (.int b5 b))=qd C (C.T T).k s xs (c8 xs 0 b))/\
  (∀k a,eD C s T (.slice xs) (some (.int k a)) none=qd C (C.T T).k s xs (c8 xs a xs.length)):=by
 have e:∀(di aC:Option I) (a b:Int),(e9 0 di=if 0<=a then some a.toNat else none)->(e9 xs.length aC=if 0<=b then some b.toNat else none)->eD C s T (.slice xs) di aC=qd C (C.T T).k s xs (c8 xs a b):=by
  intro di aC a b U ab;simp only[eD];generalize (C.T T).k=hb;cases hb<;>first|rfl|skip
  simp only[U,ab,c8];by_cases a1:0<=a<;>by_cases J:0<=b<;>simp only[a1,J,if_true,if_false,qd,true_and,false_and]
  .by_cases ae:a<=b/\b<=xs.length
   .rw[if_pos ae];have U:a.toNat<=b.toNat:=by omega
    have ab:b.toNat<=xs.length:=by omega
    simp only[U,ab,true_and]
   .rw[if_neg (λh=>ae ⟨by omega,by omega⟩),if_neg ae]
  .rw[if_neg (by omega)]
 exact⟨λk a b5 b=>e _ _ a b rfl rfl,λb5 b=>e _ _ 0 b rfl rfl,λk a=>e _ _ a xs.length rfl (by simp[e9])⟩
def sb (q:RG):Option I->Option I
 |some d=>I.sub q d
 |none=>none
theorem CN:(∀d,I.sub [] d=some d)/\(∀k q al,I.sub (k::q) (.agg al)=sb q al[k]?)/\(∀k q al,I.sub (k::q) (.tuple al)=sb q al[k]?)/\(∀k q sz xs,I.sub (k::q) (.aE sz xs)=sb q xs[k]?)/\
  (∀q d,I.sub (0::q) (.bC d)=I.sub q d)/\(∀q d,sb q (some d)=I.sub q d)/\
  (∀k q a b,I.sub (k::q) (.int a b)=none):=by
 refine⟨λd=>by simp[I.sub],?_,?_,?_,λq d=>by simp[I.sub],λ_ _=>rfl,λ_ _ _ _=>by simp[I.sub]⟩
 .intro k q al;simp only[I.sub];cases al[k]? <;>rfl
 .intro k q al;simp only[I.sub];cases al[k]? <;>rfl
 .intro k q sz al;simp only[I.sub];cases al[k]? <;>rfl
def CO (k:Nat) (q:RG) (n:I) (al:RL):Option I->I
 |some d=>.agg (al.set k (I.put q n d))
 |none=>.agg al
def CP (k:Nat) (q:RG) (n:I) (al:RL):Option I->I
 |some d=>.tuple (al.set k (I.put q n d))
 |none=>.tuple al
def CQ (k:Nat) (q:RG) (n:I) (sz:Nat) (xs:RL):Option I->I
 |some d=>.aE sz (xs.set k (I.put q n d))
 |none=>.aE sz xs
theorem CR:(∀n d,I.put [] n d=n)/\(∀k q n al,I.put (k::q) n (.agg al)=CO k q n al al[k]?)/\(∀k q n al,I.put (k::q) n (.tuple al)=CP k q n al al[k]?)/\
  (∀k q n sz xs,I.put (k::q) n (.aE sz xs)=CQ k q n sz xs xs[k]?)/\(∀q n d,I.put (0::q) n (.bC d)= .bC (I.put q n d))/\
  (∀k q n al d,CO k q n al (some d)= .agg (al.set k (I.put q n d)))/\(∀k q n al d,CP k q n al (some d)= .tuple (al.set k (I.put q n d)))/\
  (∀k q n sz xs d,CQ k q n sz xs (some d)= .aE sz (xs.set k (I.put q n d))):=by
 refine⟨λn d=>by simp[I.put],?_,?_,?_,λq n d=>by simp[I.put],λ_ _ _ _ _=>rfl,λ_ _ _ _ _=>rfl,λ_ _ _ _ _ _=>rfl⟩
 .intro k q n al;simp only[I.put];cases al[k]? <;>rfl
 .intro k q n al;simp only[I.put];cases al[k]? <;>rfl
 .intro k q n sz al;simp only[I.put];cases al[k]? <;>rfl
theorem xW:(∀k n,I.wd (.int k n)=1)/\(∀b,I.wd (.bool b)=1)/\(∀x,I.wd (.str x)=1)/\(∀x,I.wd (.slice x)=1)/\(∀n x,I.wd (.aE n x)=1)/\(∀x,I.wd (.ref x)=1)/\(∀x,I.wd (.bC x)=1)/\
  I.wd .bz=1/\I.wd .cu=1/\I.wd .hole=1/\I.wd .dB=1/\(∀x y,I.wd (.h x y)=1)/\(∀x y,I.wd (.af x y)=1)/\(∀x y,I.wd (.fn x y)=1)/\(∀al,I.wd (.agg al)=I.cp al)/\(∀al,I.wd (.tuple al)=I.cp al)/\I.cp []=0/\(∀d ds,I.cp (d::ds)=d.wd+I.cp ds):=by
 simp[I.wd,I.cp]
theorem xX (l:RD):(∀d∈l.map eN,d.wd=1)=True:=by simp[eN,I.wd]
theorem J_ {α:Type} {e:α->I} {n:Nat} (h:∀x,(e x).wd=n) (xs:List α):(∀d∈xs.map e,d.wd=n)=True:=by
 simp only[List.mem_map,eq_iff_iff,iff_true];rintro d ⟨x,_,rfl⟩;exact h x
theorem Ka (C:bl) (s:aj) (A B:TypeId) (k b5:IntKind) (n:Int) (fH:(C.T A).ok=true) (eJ:(C.T B).k= .int b5):fG C s A B (.int k n)=some (.int b5 (b5.wrap n)):=by
 simp only[fG,fH,eJ,if_true]
theorem CS (m:Int):eN (hT m)= .int .u8 (IntKind.u8.wrap m):=by
 have h:0<=IntKind.u8.wrap m/\IntKind.u8.wrap m<256:=by rw[IntKind.wrap_u8];omega
 simp only[eN,hT,UInt8.toNat_ofNat'];congr 1;omega
theorem xY (m:Int):((hT m).toNat:Int)=IntKind.u8.wrap m:=by
 have h:=CS m;simpa [eN]using h
section
variable {C:bl} {l:RK} {Q:Exit->aj->Prop} {s:aj}
theorem qe {ros:List bs} {k:RG} (h:cm C (au l) ros none (λ_ s=>Q .normal (au (eO k s)))):bd C (.dX ros (some k)) Q (au l):=ur (λ_ _ h=>h) h
theorem Kb {a b:aK} (h:∀cG:Exit->aj->Prop,(∀s,dY (bd C b Q) s->cG .normal s)->(∀s,Q .ret s->cG .ret s)->(∀i s,Q (.exit i) s->cG (.exit i) s)->bd C a cG s):bd C (.seq a b) Q s:=
 h _ (λ_ h=>h) (λ_ h=>h) (λ_ _ h=>h)
theorem eB {ros:List bs} {k:RG} {b:aK} (h:cm C (au l) ros none (λ_ s=>bd C b Q (au (eO k s)))):bd C (.seq (.dX ros (some k)) b) Q (au l):=ur (λ_ _ h=>.inl h) h
theorem sc {ros:List bs} {dn:RE} {k:RG} {b:aK} (hlen:dn.length=ros.length) (h:cm C (au l) ros (some []) (λacc s=>h8 (mJ dn) 0 [] (acc.getD []).reverse=true/\bd C b Q (au (eO k s)))):
  bd C (.seq (.hj ros dn (some k)) b) Q (au l):=J0 (K:=λs=>dY (bd C b Q) (au (eO k s))) hlen (by
   have key:∀(os:List bs) (s:aj) (acc:Option (List dp)),cm C s os acc (λacc s=>h8 (mJ dn) 0 [] (acc.getD []).reverse=true/\bd C b Q (au (eO k s)))->
     cm C s os acc (λacc s=>h8 (mJ dn) 0 [] (acc.getD []).reverse=true/\dY (bd C b Q) (au (eO k s))):=by
    intro os;induction os with
    |nil=>intro s acc h;exact⟨h.1,.inl h.2⟩
    |cons o os ih=>
     intro s acc h;have mono:∀{s:aj} {a6:cw} {K b_:RG->I->aj->Prop},(∀a b c,K a b c->b_ a b c)->k_ C s a6 K->k_ C s a6 b_:=by
      intro s a6 K b_ ag h;cases a6 with
      |call f args=>
       obtain⟨g,caps,ps,r,U,fK,ab,ay,aQ,bc,bW,b4,cP⟩:=h;exact⟨g,caps,ps,r,U,fK,ab,ay,aQ,bc,bW,b4,ag _ _ _ cP⟩
      |shr a6=>obtain⟨av,s1,U,ab,ay,aQ⟩:=h;exact⟨av,s1,U,ab,ay,ag _ _ _ aQ⟩
      |_=>obtain⟨av,s1,U,ab⟩:=h;exact⟨av,s1,U,ag _ _ _ ab⟩
     simp only[cm,ks]at h⊢;split
     .rename_i hg;rw[hg]at h;exact mono (λ_ _ _=>ih _ _) h
     .rename_i t dw hg;rw[hg]at h;simp only at h;split
      .rename_i Q1 R;rw[R]at h;simp only at h;split
       .rename_i J;rw[if_pos J]at h;exact mono (λ_ _ _=>ih _ _) h
       .rename_i J;rw[if_neg J]at h;exact ih _ _ h
      .rename_i R;rw[R]at h;exact ih _ _ h
      .rename_i U ab;split at h
       .exact U _ (by assumption)
       .exact ab (by assumption)
       .exact h
   exact key _ _ _ h)
theorem jS {c:aR} {a b:aK} (ae:aP s c= .bool true) (h:bd C a Q s):bd C (.cond c a b) Q s:=by simp only[bd,ae,if_true];exact h
theorem sd {c:aR} {a b:aK} (ae:aP s c= .bool false) (h:bd C b Q s):bd C (.cond c a b) Q s:=by simp only[bd,ae];exact h
theorem Kc {id:Nat} {b:aK} (h:∀cG:Exit->aj->Prop,(∀s,Q .normal s->cG .normal s)->(∀s,Q .ret s->cG .ret s)->(∀s,Q .normal s->cG (.exit id) s)->(∀i s,i≠id->Q (.exit i) s->cG (.exit i) s)->bd C b cG s):bd C (.block id b) Q s:=
 h (p6 id Q) (λ_ h=>h) (λ_ h=>h) (λs h=>by simp only[p6,if_true];exact h) (λi s aC h=>by simp only[p6,if_neg aC];exact h)
theorem fN {id:Nat} (h:Q (.exit id) s):bd C (.exit id) Q s:=h
theorem ld (h:Q .ret s):bd C .ret Q s:=h
theorem bV (h:Q .normal s):bd C .skip Q s:=h
def e1 (C:bl) (b:aK) (Q:Exit->aj->Prop) (s:aj):Prop:=∀Z:aj->Prop,(∀aq,bd C b (andThen (dY Z) Q) aq->Z aq)->Z s
theorem CT {b:aK} (h:dY (e1 C b Q) s):bd C (.loop b) Q s:=h
theorem Kd {b:aK} (h:∀cG:Exit->aj->Prop,(∀s,dY (e1 C b Q) s->cG .normal s)->(∀s,Q .ret s->cG .ret s)->(∀i s,Q (.exit i) s->cG (.exit i) s)->bd C b cG s):e1 C b Q s:=by
 intro Z p8;refine p8 s (B2 b ?_ (h (andThen (dY (e1 C b Q)) Q) (λ_ h=>h) (λ_ h=>h) (λ_ _ h=>h)));intro e aq aN;cases e with
 |normal=>exact p7 (λs h=>h Z p8) aq aN
 |_=>exact aN
theorem cU {bH:RK} (h:bH.map (·.2)=bH.map λp=>s p.1):p5 s bH:=by
 intro p af;left;induction bH with
 |nil=>cases af
 |cons a bH ih=>
  simp only[List.map_cons,List.cons.injEq]at h;rcases List.mem_cons.1 af with rfl|af
  .exact h.1
  .exact ih h.2 af
end
section
variable {C:bl} {l:RK} {Q:Exit->aj->Prop} {s:aj} {os ros:List bs} {K:Option (List dp)->aj->Prop} {dst:Option Nat}
theorem CU (l:RK):(∀n,aP (au l) (.t n)=mr n (au l n))/\(∀av,aP (au l) (.c av)=av)/\(∀g,aP (au l) (.f g)= .fn g []):=⟨λ_=>rfl,λ_=>rfl,λ_=>rfl⟩
theorem CV:(∀t,au [] t= .hole)/\(∀u d (l:RK) t,au ((u,d)::l) t=if t=u then d else au l t):=⟨λ_=>rfl,λ_ _ _ _=>rfl⟩
theorem CW (s:aj):eO [] s=[]/\(∀t k,eO (t::k) s=(t,s t)::eO k s):=⟨rfl,λ_ _=>rfl⟩
theorem CX (s:aj):(∀d,hn s (some d)=some (d,s))/\(∀s1,cO (some s1)=some (.hole,s1))/\gV s []=[]/\(∀x xs,gV s (x::xs)=aP s x::gV s xs)/\nS s []=[]/\(∀k x xs,nS s ((k,x)::xs)=(k,aP s x)::nS s xs)/\
  r_ s none=none/\(∀x,r_ s (some x)=some (aP s x))/\(∀b x y,Ct s (.bool b) x y=some (if b=true then x else y,s)):=
 ⟨λ_=>rfl,λ_=>rfl,rfl,λ_ _=>rfl,rfl,λ_ _ _=>rfl,rfl,λ_=>rfl,λb _ _=>by cases b<;>rfl⟩
theorem CY (C:bl):(∀e d,xV C (.slice e) (some d)=if(C.T e).ok=true/\d.wd=(C.T e).sz then some (.ref d)else none)/\
  (∀y q n e sz xs,sa C y q n (.slice e) (some (.aE sz xs))=if(cj xs n).isSome=true/\(C.T e).ok=true/\sz=(C.T e).sz then some (.af y (q++[n.toNat]))else none)/\
  (∀e s xs t,qd C (.slice e) s xs (some t)=if(C.T e).ok=true/\∀d∈xs,d.wd=(C.T e).sz then some (.slice t,s)else none):=
 ⟨λ_ _=>rfl,λ_ _ _ _ _ _=>rfl,λ_ _ _ _=>rfl⟩
theorem CZ:(∀b,xT .bool b=some (.bool b))/\(∀c,xU .str (some c)=some (.int .u8 c.toNat))/\(∀s t,qc .str s (some t)=some (.str t,s))/\(∀q d,sb q (some d)=I.sub q d):=
 ⟨λ_=>rfl,λ_=>rfl,λ_ _=>rfl,λ_ _=>rfl⟩
theorem C0 (sz bytes:Nat) (z:I):(∀k,ea.ok ⟨.int k,sz,bytes,z⟩=true)/\ea.ok ⟨.bool,sz,bytes,z⟩=true/\ea.ok ⟨.str,sz,bytes,z⟩=true/\(∀e,ea.ok ⟨.ptr e,sz,bytes,z⟩=true)/\(∀e,ea.ok ⟨.slice e,sz,bytes,z⟩=true)/\(∀e,ea.ok ⟨.struct e,sz,bytes,z⟩=true)/\ea.ok ⟨.fn,sz,bytes,z⟩=true:=by
 simp[ea.ok]
theorem C1 (sz bytes:Nat) (z:I):(∀k,ea.flat ⟨.int k,sz,bytes,z⟩=true)/\ea.flat ⟨.bool,sz,bytes,z⟩=true/\ea.flat ⟨.str,sz,bytes,z⟩=true/\(∀e,ea.flat ⟨.ptr e,sz,bytes,z⟩=true)/\(∀e,ea.flat ⟨.slice e,sz,bytes,z⟩=true)/\(∀e,ea.flat ⟨.struct e,sz,bytes,z⟩=false)/\ea.flat ⟨.fn,sz,bytes,z⟩=true:=by
 simp[ea.flat]
theorem se (c:UInt8) (k:IntKind) (ag:k≠.i8):k.wrap (c.toNat:Int)=(c.toNat:Int):=by
 have:=c.toNat_lt;cases k<;>first|(exact(ag rfl).elim)|(simp[IntKind.wrap,IntKind.bits,IntKind.signed];try omega)
theorem xZ (c:UInt8):IntKind.i64.wrap (c.toNat:Int)=(c.toNat:Int)/\IntKind.u64.wrap (c.toNat:Int)=(c.toNat:Int)/\IntKind.u8.wrap (c.toNat:Int)=(c.toNat:Int)/\IntKind.i32.wrap (c.toNat:Int)=(c.toNat:Int)/\IntKind.u32.wrap (c.toNat:Int)=(c.toNat:Int):=
 ⟨se c _ (by simp),se c _ (by simp),se c _ (by simp),se c _ (by simp),se c _ (by simp)⟩
theorem dR {k:RG} {K:aj->Prop} (bH:RK) (h:∀P:RK->Prop,P bH->cm C (au l) ros none (λ_ s=>P (eO k s))) (ag:K (au bH)):cm C (au l) ros none (λ_ s=>K (au (eO k s))):=
 h (λl=>K (au l)) ag
theorem sf {k:RG} {jr:RE} {K:aj->Prop} (bH:RK) (h:∀P:RK->Prop,P bH->cm C (au l) ros (some []) (λacc s=>h8 jr 0 [] (acc.getD []).reverse=true/\P (eO k s))) (ag:K (au bH)):
  cm C (au l) ros (some []) (λacc s=>h8 jr 0 [] (acc.getD []).reverse=true/\K (au (eO k s))):=
 h (λl=>K (au l)) ag
theorem bf.Ke (aS:C.cS) {f:FuncId} {fn:Func} {c:Code} {c_:aK} {fx:RG} {as outs:RL} {r:I} (bq:C.P.funcs[f]? =some fn) (J:fn.body=some c)
  (h7:(fn.name== "runtime.NumGoroutine")=false) (R:el ⟨fn.ntmps,fx⟩ c=some c_.strip) (aT:as.length<=fn.ntmps)
  (h:∀Q:Exit->aj->Prop,(∀s,dY (Ends C fx fn.results.toList r outs) s->Q .ret s)->(∀s,dY (Ends C fx fn.results.toList r outs) s->Q .normal s)->bd C c_ Q (au (num 0 as))) (af:c_.plain=true:=by kernel_rfl):bf C f as r outs:=by
 refine bf.of_wp aS bq J h7 R aT ?_ af;rw[xK];exact h _ (λs h=>⟨.inr rfl,h⟩) (λs h=>⟨.inl rfl,h⟩)
def uz:RL->I
 |[d]=>d
 |ds=>.tuple ds
theorem C2 {fx:RG} {cT:List ResultVar} {r:I} {outs:RL} (ds:RL) (U:cT.map (k9 C s)=ds.map some) (ab:r=uz ds) (ay:(cT.map fW).Nodup)
  (aQ:∀(i:Nat) (o:I),outs[i]? =some o->o= .hole\/(o=s i/\o.ed=true/\i∈fx/\i∉cT.map fW)):Ends C fx cT r outs s:=.inl ⟨ds,U,by subst ab;cases ds with|nil=>rfl|cons a t=>cases t<;>rfl,ay,aQ⟩
theorem Kf {fx:RG} {cT:List ResultVar}:∀(i:Nat) (o:I),([]:RL)[i]? =some o->o= .hole\/(o=s i/\o.ed=true/\i∈fx/\i∉cT.map fW):=λi o h=>by simp at h
theorem C3:∀(as ds:RL),(iZ as ds).filter (·.g)=[]
 |[],_=>rfl
 |_::_,[]=>rfl
 |a::as,d::ds=>by simp only[iZ,List.filter_cons];exact C3 as ds
theorem uA {f:aR} {args:List aR} {g:FuncId} {caps:RL} {K:RG->I->aj->Prop} (ds:RL) (r:I)
  (U:aP (au l) f= .fn g caps) (fK:I.ee caps=true) (gg:views (au l) (gV (au l) args++caps)=some ds)
  (bc:bf C g ds r []) (bW:r.res=true) (b4:I.cn (gV (au l) args++caps)=[]\/r.cK=true) (hK:K [] r (au l)):k_ C (au l) (.call f args) K:=by
 obtain⟨aD,aG,aJ,bp,bJ,bk,a7⟩:=Jt _ _ gg;refine⟨g,caps,iZ (gV (au l) args++caps) ds,r,U,fK,by rw[aD,uy],λp af=>(aJ p af).1,bp,by rw[aG];exact bc.outs bJ.symm,bW,?_,by rw[bk,a7,C3];exact hK⟩;intro hl;refine⟨?_,λp af=>by rw[(aJ p af).2.2.1];rfl⟩;rcases b4 with b4|b4
 .exfalso;simp only[hf,List.any_eq_true]at hl;obtain⟨p,af,dZ⟩:=hl;have hm:=(aJ p af).2.2.2;have:p.a.R=[]:=by
   have key:∀(as:RL) (a:I),a∈as->I.cn as=[]->a.R=[]:=by
    intro as;induction as with
    |nil=>intro a h;cases h
    |cons b as ih=>
     intro a h he;simp only[I.cn,List.append_eq_nil_iff]at he;rcases List.mem_cons.1 h with rfl|h
     .exact he.1
     .exact ih a h he.2
   exact key _ _ hm b4
  rw[this]at dZ;simp at dZ
 .exact b4
theorem e2 {f:aR} {args:List aR} {g:FuncId} {caps:RL} {ds:RL} {r:I} (bc:bf C g ds r [])
  (U:aP (au l) f= .fn g caps:=by rfl) (fK:I.ee caps=true:=by rfl) (gg:views (au l) (gV (au l) args++caps)=some ds:=by rfl)
  (bW:r.res=true:=by rfl) (b4:I.cn (gV (au l) args++caps)=[]\/r.cK=true:=by exact .inl (by rfl))
  (hK:cm C (fin (au l) dst r) os none K):cm C (au l) (⟨dst,.call f args,none⟩::os) none K:=by
 simp only[cm,ks,mI];exact uA ds r U fK gg bc bW b4 hK
theorem qf {a:List dp} {f:aR} {args:List aR} {g:FuncId} {caps:RL} {ds:RL} {r:I} (bc:bf C g ds r [])
  (U:aP (au l) f= .fn g caps:=by rfl) (fK:I.ee caps=true:=by rfl) (gg:views (au l) (gV (au l) args++caps)=some ds:=by rfl)
  (bW:r.res=true:=by rfl) (b4:I.cn (gV (au l) args++caps)=[]\/r.cK=true:=by exact .inl (by rfl))
  (hK:cm C (fin (au l) dst r) os (some (fM (au l) (use (au l) (.call f args)) dst [] r::a)) K):cm C (au l) (⟨dst,.call f args,none⟩::os) (some a) K:=by
 simp only[cm,ks,mI];exact uA ds r U fK gg bc bW b4 hK
theorem ho {t:Nat} {b:Bool} {f:aR} {args:List aR} {g:FuncId} {caps:RL} {ds:RL} {r:I} (bc:bf C g ds r [])
  (U:aP (au l) f= .fn g caps:=by rfl) (fK:I.ee caps=true:=by rfl) (gg:views (au l) (gV (au l) args++caps)=some ds:=by rfl)
  (bW:r.res=true:=by rfl) (b4:I.cn (gV (au l) args++caps)=[]\/r.cK=true:=by exact .inl (by rfl))
  (hK:cm C (fin (au l) dst r) os none K):h9 C l dst (.call f args) t b os none K (.bool b):=by
 simp only[h9,if_true];exact uA ds r U fK gg bc bW b4 hK
theorem C4 {a:List dp} {t:Nat} {b:Bool} {f:aR} {args:List aR} {g:FuncId} {caps:RL} {ds:RL} {r:I} (bc:bf C g ds r [])
  (U:aP (au l) f= .fn g caps:=by rfl) (fK:I.ee caps=true:=by rfl) (gg:views (au l) (gV (au l) args++caps)=some ds:=by rfl)
  (bW:r.res=true:=by rfl) (b4:I.cn (gV (au l) args++caps)=[]\/r.cK=true:=by exact .inl (by rfl))
  (hK:cm C (fin (au l) dst r) os (some (fM (au l) (t::use (au l) (.call f args)) dst [] r::a)) K):h9 C l dst (.call f args) t b os (some a) K (.bool b):=by
 simp only[h9,if_true];exact uA ds r U fK gg bc bW b4 hK
theorem nT (s:aj):views s []=some []/\(∀d ds,views s (d::ds)=(match view s d,views s ds with|some a,some b=>some (a::b)|_,_=>none))/\
  (∀k n,view s (.int k n)=some (.int k n))/\(∀b,view s (.bool b)=some (.bool b))/\(∀x,view s (.str x)=some (.str x))/\(∀x,view s (.slice x)=some (.slice x))/\(∀x,view s (.ref x)=some (.ref x))/\
  view s .bz=some .bz/\view s .cu=some .cu/\(∀al,view s (.agg al)=some (.agg al))/\(∀f cap,view s (.fn f cap)=(views s cap).map (.fn f)):=by
 refine⟨rfl,λd ds=>?_,λ_ _=>rfl,λ_=>rfl,λ_=>rfl,λ_=>rfl,λ_=>rfl,rfl,rfl,λ_=>rfl,λ_ _=>by simp only[view]⟩;simp only[views];rfl
theorem nU {α:Type} {u e:α->I} (h:∀x,(u x).share=e x) (xs:List α):I.shares (xs.map u)=xs.map e:=by
 rw[I.oj];simp[h]
theorem Kg {α:Type} {u:α->I} (h:∀x,(u x).cK=true) (xs:List α):I.jR (xs.map u)=true:=by
 induction xs with
 |nil=>rfl
 |cons x xs ih=>simp only[List.map_cons,I.jR,h,ih,Bool.and_self]
def nV (s:aj) (H:RG):RK->Prop
 |[]=>True
 |p::l=>(p.2=s p.1\/((s p.1).tree=true/\dc (s p.1) p.2/\p.1∉H))/\nV s H l
theorem kv {bH:RK} (H:RG) (iA:I.cn (bH.map (·.2))=H) (h:nV s H bH):p5 s bH:=by
 have key:∀(eA:RK),nV s H eA->∀p∈eA,p.2=s p.1\/((s p.1).tree=true/\dc (s p.1) p.2/\p.1∉H):=by
  intro eA;induction eA with
  |nil=>intro _ p af;cases af
  |cons a eA ih=>
   intro h p af;rcases List.mem_cons.1 af with rfl|af
   .exact h.1
   .exact ih h.2 p af
 have R:∀(eA:RK),∀bw∈eA,∀u∈bw.2.R,u∈I.cn (eA.map (·.2)):=by
  intro eA;induction eA with
  |nil=>intro p af;cases af
  |cons a eA ih=>
   intro p af u hu;simp only[List.map_cons,I.cn,List.mem_append];rcases List.mem_cons.1 af with rfl|af
   .exact .inl hu
   .exact .inr (ih p af u hu)
 intro p af;rcases key _ h p af with U|⟨U,ab,ay⟩
 .exact .inl U
 .refine .inr ⟨U,ab,λbw cD=>.inl λhm=>ay ?_⟩;rw[<-iA];exact R bH bw cD _ hm
theorem kx {H:RG}:nV s H []:=trivial
theorem h_ {H:RG} {t:Nat} {d:I} {bH:RK} (h:d=s t) (hl:nV s H bH):nV s H ((t,d)::bH):=⟨.inl h,hl⟩
theorem ky {H:RG} {t:Nat} {d aV:I} {bH:RK} (e:s t=d) (aI:d.tree=true) (ad:dc d aV) (iA:t∉H) (hl:nV s H bH):nV s H ((t,aV)::bH):=⟨.inr ⟨by rw[e];exact aI,by rw[e];exact ad,iA⟩,hl⟩
end
theorem qg {C:bl} {A B:TypeId} {b5:IntKind} (fH:(C.T A).ok=true) (eJ:(C.T B).k= .int b5):∀s k n,fG C s A B (.int k n)=some (.int b5 (b5.wrap n)):=λs k n=>Ka C s A B k b5 n fH eJ
def C5:Option I->Option I
 |some (.aE 1 xs)=>(bytesOf xs).map .str
 |_=>none
theorem C6 {C:bl} {A B e:TypeId} (fH:(C.T A).k= .slice e) (eJ:(C.T B).k= .str) (he:(C.T e).k= .int .u8):
  (∀s xs,fG C s A B (.slice xs)=(bytesOf xs).map .str)/\(∀s,fG C s A B .bz=some (.str []))/\(∀s x q,fG C s A B (.h x q)=C5 (I.sub q (s x))):=by
 have rF:(C.T A).ok=true:=by simp[ea.ok,fH]
 refine⟨λs xs=>?_,λs=>?_,λs x q=>?_⟩
 .simp only[fG,rF,fH,eJ,he,if_true]
 .simp only[fG,rF,fH,eJ,he,if_true]
 .simp only[fG,rF,fH,eJ,he,if_true];rfl
theorem C7 (xs:RL):C5 (some (.aE 1 xs))=(bytesOf xs).map .str:=rfl
theorem C8 (c:UInt8) (r:RL):bytesOf (eN c::r)=(bytesOf r).map (c::·):=by
 have:=c.toNat_lt;simp only[eN,bytesOf];rw[if_pos (by omega)];simp
theorem C9:bytesOf []=some []/\
  (∀l:RD,bytesOf (l.map eN)=some l)/\
  (∀c r,bytesOf (.int .u8 (c.toNat:Int)::r)=(bytesOf r).map (c::·))/\
  (∀m r,bytesOf (.int .u8 (IntKind.u8.wrap m)::r)=(bytesOf r).map (hT m::·)):=
 ⟨rfl,G3,λc r=>C8 c r,λm r=>by rw[<-CS];exact C8 _ r⟩
theorem C_ {k:IntKind} {b:Int} (h:b≠0):∀a,fl .quo k a k b=some (.int k (k.wrap (a.tdiv b))):=λ_=>J7 h
theorem Da {k:IntKind} {b:Int} (h:b≠0):∀a,fl .rem k a k b=some (.int k (a.tmod b)):=λ_=>J8 h
theorem qh {α:Type} {e:α->I} {n:Nat} (h:∀x,(e x).wd=n):∀xs:List α,(∀d∈xs.map e,d.wd=n)=True:=J_ h
theorem nW {P:I->Prop} (d:I) (ds:RL):(∀x∈d::ds,P x)=(P d/\∀x∈ds,P x):=by simp
theorem all_nil {P:I->Prop}:(∀x∈([]:RL),P x)=True:=by simp
def Db (a b:RD):Option Unit->Option I
 |some _=>some (.str (a++b))
 |none=>none
theorem js (a b:RD):jK .add a b=Db a b (ev (a.length+b.length)):=by
 simp only[jK,ev];split<;>rfl
theorem jt (a b:RD) (u:Unit):Db a b (some u)=some (.str (a++b)):=rfl
theorem Dc:(∀l:RG,[]++l=l)/\(∀a (l m:RG),(a::l)++m=a::(l++m)):=⟨λ_=>rfl,λ_ _ _=>rfl⟩
def Dd (C:bl) (e bQ:TypeId):Bool:=(C.T e).ok&&((C.T e).zero.wd==(C.T e).sz)&&(flat (C.T e).zero).isSome&&tQ C e bQ
def uB (C:bl) (e:TypeId) (xs:RL):Option (RL×aj)->Option (I×aj)
 |some (bM,s2)=>if(∀d∈bM,d.wd=(C.T e).sz)/\(room (C.T e).bytes (xs.length+bM.length)).isSome=true then some (.aE (C.T e).sz (xs++bM),s2)else none
 |none=>none
def x0 (C:bl) (e:TypeId) (y:I) (o:Option Nat):Option (I×aj)->Option (I×aj)
 |some (.aE sz xs,s1)=>if sz=(C.T e).sz then uB C e xs (h1 s1 (hA o y))else none
 |_=>none
theorem Kh (b n:Nat):(room b n).isSome=true↔n*b<=140737488355328/\n<=9223372036854775807:=by unfold room;split<;>simp_all
theorem nX {C:bl} {T bQ e:TypeId} (gP:(C.T T).k= .slice e) (dI:Dd C e bQ=true):∀s x y,mC C s T bQ x y=x0 C e y x.owner (lP C e s x):=by
 intro s x y;simp only[Dd,Bool.and_eq_true,beq_iff_eq]at dI;rw[xg,gP];simp only;rw[if_pos ⟨dI.1.1.1,dI.1.1.2,dI.1.2,dI.2⟩];generalize x.owner=o;cases lP C e s x with
 |none=>rfl
 |some p=>
  obtain⟨d,s1⟩:=p;cases d<;>first
   |rfl
   |(simp only[x0]
     split
     .rename_i h;subst h;generalize h1 s1 (hA o y)=z;cases z with
      |none=>rfl
      |some p=>simp only[uB,Kh]
     .rfl)
def De:Option (I×aj)->Option (RL×aj)
 |some (.aE _ bM,s2)=>some (bM,s2)
 |_=>none
theorem nY (s:aj):h1 s .bz=some ([],s)/\(∀bM,h1 s (.slice bM)=some (bM,s))/\(∀l,h1 s (.str l)=some (l.map eN,s))/\
  (∀a q,h1 s (.h a q)=De (bK s (.h a q)))/\(∀n bM,De (some (.aE n bM,s))=some (bM,s)):=
 ⟨rfl,λ_=>rfl,λ_=>rfl,λ_ _=>by simp only[h1];rfl,λ_ _=>rfl⟩
theorem nZ (C:bl) (e:TypeId):(∀s,lP C e s .bz=some (.aE (C.T e).sz [],s))/\(∀s a q,lP C e s (.h a q)=bK s (.h a q))/\
  (∀y o sz xs s1,x0 C e y o (some (.aE sz xs,s1))=if sz=(C.T e).sz then uB C e xs (h1 s1 (hA o y))else none)/\
  (∀xs bM s2,uB C e xs (some (bM,s2))=if(∀d∈bM,d.wd=(C.T e).sz)/\(room (C.T e).bytes (xs.length+bM.length)).isSome=true then some (.aE (C.T e).sz (xs++bM),s2)else none):=
 ⟨λ_=>rfl,λ_ _ _=>rfl,λ_ _ _ _ _=>rfl,λ_ _ _=>rfl⟩
theorem n0:(∀d,hA none d=d)/\(∀x d,hA (some x) d=bm x d)/\(∀x q,I.owner (.h x q)=some x)/\I.owner .bz=none:=
 ⟨λ_=>rfl,λ_ _=>rfl,λ_ _=>rfl,rfl⟩
def Df (s:aj) (x:Nat) (q:RG):Option I->Option (I×aj)
 |some d=>if d.plain=true then none else some (d,cd (fa x s) x (I.put q d.bU (s x)))
 |none=>none
theorem Dg (s:aj) (x:Nat) (q:RG):bK s (.h x q)=Df s x q (I.sub q (s x)):=by
 simp only[bK];cases I.sub q (s x)<;>rfl
theorem Dh (s:aj):(∀x q d,Df s x q (some d)=if d.plain=true then none else some (d,cd (fa x s) x (I.put q d.bU (s x))))/\(∀k n,bK s (.int k n)=some (.int k n,s))/\(∀b,bK s (.bool b)=some (.bool b,s))/\(∀x,bK s (.str x)=some (.str x,s))/\
  (∀x,bK s (.slice x)=some (.slice x,s))/\(∀x,bK s (.ref x)=some (.ref x,s))/\(∀x,bK s (.agg x)=some (.agg x,s))/\bK s .bz=some (.bz,s)/\bK s .cu=some (.cu,s):=
 ⟨λ_ _ _=>rfl,λ_ _=>rfl,λ_=>rfl,λ_=>rfl,λ_=>rfl,λ_=>rfl,λ_=>rfl,rfl,rfl⟩
theorem Di (l:RK) (t:Nat) (d:I):cd (au l) t d=au ((t,d)::l):=uo l t d
theorem Dj:(∀n x,I.bU (.aE n x)= .hole)/\(∀x,I.bU (.bC x)= .hole)/\(∀al,I.bU (.agg al)= .agg (I.hU al))/\(∀al,I.bU (.tuple al)= .tuple (I.hU al))/\I.hU []=[]/\(∀d ds,I.hU (d::ds)=d.bU::I.hU ds)/\
  (∀k n,I.bU (.int k n)= .int k n)/\(∀b,I.bU (.bool b)= .bool b)/\(∀x,I.bU (.str x)= .str x)/\(∀x,I.bU (.slice x)= .slice x)/\(∀x,I.bU (.ref x)= .ref x)/\I.bU .bz= .bz/\I.bU .cu= .cu/\I.bU .hole= .hole:=by
 simp[I.bU,I.hU]
def o1:Option I->Option I
 |some d=>(match d with| .tuple _=>none| .cf _=>none| .dE _ _=>none|d=>if d.plain=true then none else some d.share)
 |none=>none
def o2:Option I->Option I
 |some d=>(match d with| .tuple _=>none|d=>some (.ref d.share))
 |none=>none
theorem n1 (s:aj) (x:Nat) (q:RG):view s (.h x q)=o1 (I.sub q (s x))/\view s (.af x q)=(if I.dt q (s x)=true then o2 (I.sub q (s x))else none):=by
 constructor
 .simp only[view];rfl
 .simp only[view];rfl
theorem n2:(∀n xs,o1 (some (.aE n xs))=some (.slice (I.shares xs)))/\(∀d,o1 (some (.bC d))=some (.ref d.share))/\(∀al,o1 (some (.agg al))=if I.ee al=true then none else some (.agg (I.shares al)))/\
  (∀al,o2 (some (.agg al))=some (.ref (.agg (I.shares al))))/\(∀k n,o2 (some (.int k n))=some (.ref (.int k n)))/\(∀x,o2 (some (.str x))=some (.ref (.str x))):=
 ⟨λ_ _=>by simp[o1,I.plain,I.share],λ_=>by simp[o1,I.plain,I.share],λal=>by cases h:I.ee al<;>simp[o1,I.plain,I.share,h],λ_=>by simp[o2,I.share],λ_ _=>by simp[o2,I.share],λ_=>by simp[o2,I.share]⟩
theorem kz:(∀n xs,I.share (.aE n xs)= .slice (I.shares xs))/\(∀d,I.share (.bC d)= .ref d.share)/\(∀xs,I.share (.slice xs)= .slice (I.shares xs))/\(∀d,I.share (.ref d)= .ref d.share)/\(∀al,I.share (.agg al)= .agg (I.shares al))/\(∀al,I.share (.tuple al)= .tuple (I.shares al))/\
  (∀k n,I.share (.int k n)= .int k n)/\(∀b,I.share (.bool b)= .bool b)/\(∀x,I.share (.str x)= .str x)/\I.share .bz= .bz/\I.share .cu= .cu/\I.shares []=[]/\(∀d ds,I.shares (d::ds)=d.share::I.shares ds):=by
 simp[I.share,I.shares]
def dS:Option (RL×aj)->Option (I×aj)
 |some (ds,s1)=>some (.agg ds,s1)
 |none=>none
def dT (place:Nat->Option (Nat×Nat)) (k:Nat) (dP:RL) (os:List (Option Nat)) (r:RK) (o:Option Nat):Option (Nat×Nat)->Option I->Option (I×aj)->Option (RL×aj)
 |some (off,n),some z,some (d,s1)=>(match d with
  | .tuple _=>none
  |d=>if d.wd=n/\z.wd=n/\I.cp (dP.take k)=off then jO place s1 (dP.set k d) (os++[o]) r else none)
 |_,_,_=>none
theorem iB:(∀k n,I.owner (.int k n)=none)/\(∀b,I.owner (.bool b)=none)/\(∀x,I.owner (.str x)=none)/\(∀x,I.owner (.slice x)=none)/\(∀x,I.owner (.ref x)=none)/\(∀x,I.owner (.agg x)=none)/\I.owner .cu=none/\I.owner .bz=none/\(∀x q,I.owner (.h x q)=some x):=
 ⟨λ_ _=>rfl,λ_=>rfl,λ_=>rfl,λ_=>rfl,λ_=>rfl,λ_=>rfl,rfl,rfl,λ_ _=>rfl⟩
end Go.ca
