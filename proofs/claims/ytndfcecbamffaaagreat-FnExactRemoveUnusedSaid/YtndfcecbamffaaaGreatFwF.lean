/- Part of a proof that a law returns true for every input. No condition. -/
import Derived.Test.YtndfcecbamffaaaGreatFwE
import Derived.Orders
import Derived.KernelRfl
import Derived.Test.YtndfcecbamffaaaGreatFwA
namespace Go.cW
open Go.IntKind Nat Or
section
variable {C:bI} {w0 w:World} {F0 X:Nat->Prop} {n:Fr} {ρ:Nat->Value} {s s1:ah} {a:Act} {av:j} {Q:Exit->Act->World->Prop}
def bG.un (o:bG):bG:=⟨o.dst,o.bp.base,o.guard⟩
theorem zc {ops:Array Oper}:∀{os:List Oper} {rs:List bG},nY n ops os=some rs->os.length=rs.length/\∀(i:Nat) (o:Oper),os[i]? =some o->∃r,rs[i]? =some r/\kz n ops o=some r:=by
 intro os;induction os with
 |nil=>intro rs h;simp only[nY,Option.some.injEq]at h;subst h;exact⟨rfl,λi o h=>by simp at h⟩
 |cons o os ih=>
  intro rs h;simp only[nY]at h;split at h
  .rename_i r aaG R U;simp only[Option.some.injEq]at h;subst h;obtain⟨bU,cc⟩:=ih U;refine⟨by simp[bU],λi mg br=>?_⟩;cases i with
   |zero=>simp at br;subst br;exact⟨r,rfl,R⟩
   |succ i=>simpa using cc i mg (by simpa using br)
  .cases h
theorem zd {o:Oper} {y:Nat->abJ} (h:o.guard=none):Region.wanted o y=true:=by simp[Region.wanted,h]
theorem Qm (h:Rel w0 F0 X n ρ s a w) {ops:Array Oper} {au t:Nat} (bN:(ops[au]?).bind (·.dst)=some t):
  (∀b,s t= .bool b->yielded ops a.tmps au=some b)/\(s t= .tuple []->yielded ops a.tmps au=none):=by
 obtain⟨ae,I,a6,F,S,aN⟩:=h;have hz:=aN.cK t;refine⟨λb J=>?_,λJ=>?_⟩
 .rw[J]at hz;have ay:=qG hz;simp only[yielded,bN,Option.bind_some];rw[Array.getD_eq_getD_getElem?]at ay;cases bm:a.tmps[t]? with
  |none=>rw[bm]at ay;simp[undef]at ay
  |some v=>rw[bm]at ay;simp at ay;subst ay;rfl
 .rw[J]at hz;obtain⟨⟨arr,R,U⟩,_⟩:=(aB.b4 (d:=.tuple []) rfl).1 hz;simp only[yielded,bN,Option.bind_some];rw[Array.getD_eq_getD_getElem?]at R;cases bm:a.tmps[t]? with
  |none=>rfl
  |some v=>rw[bm]at R;simp at R;subst R;rfl
theorem wN (a_:C.Ok) {ops:Array Oper} {ros:List bG} {l2:abI} {K:ah->Prop} (a7:∀aq b3 ax,K aq->Rel w0 F0 X n ρ aq b3 ax->wpOps C.P ops Q l2 b3 ax):
  ∀(l:abI),(∀i∈l,(ops[i]? =none->ros[i]? =none)/\∀o,ops[i]? =some o->∃r,ros[i]? =some r/\kz n ops o=some r.un)->
  ∀(s:ah) (a:Act) (w:World),iV C ros s l K->Rel w0 F0 X n ρ s a w->wpOps C.P ops Q (l++l2) a w:=by
 intro l;induction l with
 |nil=>intro _ s a w h aN;exact a7 s a w h aN
 |cons i l ih=>
  intro n0 s a w h aN;replace ih:=ih λi aw=>n0 i (List.mem_cons_of_mem _ aw);rw[List.cons_append];simp only[wpOps];cases br:ops[i]? with
  |none=>
   simp only[iV,(n0 i (by simp)).1 br]at h;exact ih s a w h aN
  |some o=>
   obtain⟨r,R,U⟩:=(n0 i (by simp)).2 o br;simp only[iV,R]at h;show(if Region.wanted o (yielded ops a.tmps)=true then o.wp C.P a w (wpOps C.P ops Q (l++l2)) Q\/(o.asks C.P a w/\LetsOut Q)else wpOps C.P ops Q (l++l2) (a.put o.dst undef) w);simp only[kz]at U;split at U
   .rename_i ze;split at U
    .rename_i g bm;obtain⟨rd,bp,rg⟩:=r;simp only[bG.un,Option.some.injEq,bG.mk.injEq]at U;obtain⟨rfl,bX,rfl⟩:=U;simp only[kB]at h;have run:∀(cR:ah->Prop),(∀aq,cR aq->iV C ros aq l K)->nb C s bp (λav s1=>cR (fin s1 o.dst av))->o.wp C.P a w (wpOps C.P ops Q (l++l2)) Q:=
      λcR hK hw=>Qj a_ aN bX ze hw (λaq b3 ax ak dA=>ih aq b3 ax (hK aq ak) dA)
     cases n1:o.guard with
     |none=>
      rw[n1]at bm;simp only[tZ,Option.some.injEq]at bm;subst bm;simp only at h;rw[if_pos (zd n1)];exact .inl (run _ (λ_ h=>h) h)
     |some zf=>
      obtain⟨au,b⟩:=zf;rw[n1]at bm;simp only[tZ]at bm;split at bm
      .rename_i t aL;simp only[Option.some.injEq]at bm;subst bm;simp only at h;obtain⟨e7,ia⟩:=Qm aN aL;have II:∀(cR:iV C ros (fin s o.dst (.tuple [])) l K),wpOps C.P ops Q (l++l2) (a.put o.dst undef) w:=λcR=>ih _ _ _ cR (Rel.skip aN ze);split at h
       .rename_i eI I;have bh:=e7 eI I;split at h
        .rename_i J;subst J;rw[if_pos (by simp[Region.wanted,n1,bh])];exact .inl (run _ (λ_ h=>h) h)
        .rename_i J;rw[if_neg (by simp[Region.wanted,n1,bh,J])];exact II h
       .rename_i I;have bh:=ia I;rw[if_neg (by simp[Region.wanted,n1,bh])];exact II h
       .exact h.elim
      .cases bm
    .cases U
   .cases U
theorem IJ (a_:C.Ok) {ops:Array Oper} {ros:List bG} (nc:nY n ops ops.toList=some (ros.map bG.un)) {K:ah->Prop} (a7:∀aq b3 ax,K aq->Rel w0 F0 X n ρ aq b3 ax->Q .normal b3 ax):
  ∀(l:abI) (s:ah) (a:Act) (w:World),iV C ros s l K->Rel w0 F0 X n ρ s a w->wpOps C.P ops Q l a w:=by
 obtain⟨hl,n0⟩:=zc nc;intro l s a w h aN;have:=wN (Q:=Q) a_ (ros:=ros) (ops:=ops) (l2:=[]) (K:=K) (n:=n) (ρ:=ρ) (w0:=w0) (F0:=F0) (X:=X) (λaq b3 ax ak dA=>a7 aq b3 ax ak dA) l (λi _=>⟨λbr=>by
   rw[List.getElem?_eq_none_iff,<-List.length_map (f:=bG.un),<-hl];have:=Array.getElem?_eq_none_iff.1 br;simpa using this,λo br=>by
   obtain⟨aE,gx,U⟩:=n0 i o (by simpa using br);obtain⟨r,R,rfl⟩:∃r,ros[i]? =some r/\r.un=aE:=by simpa using gx
   exact⟨r,R,U⟩⟩) s a w h aN
 rwa [List.append_nil]at this
theorem Rel.drawn (h:Rel w0 F0 X n ρ s a w) (k:Nat) (ak:w.drawn<=k):Rel w0 F0 X n ρ s a {w with drawn:=k}:=by
 obtain⟨R,U,a6,F,S,aA⟩:=h;exact⟨R,U,a6,F,S,aA.grow (λ_ _=>rfl) (Nat.le_refl _) rfl rfl ⟨rfl,λ_=>ak⟩⟩
theorem Qn (a_:C.Ok) {id:Nat} {ops:Array Oper} {ros:List bG} (nc:nY n ops ops.toList=some (ros.map bG.un)) {K:ah->Prop} (a7:∀aq b3 ax,K aq->Rel w0 F0 X n ρ aq b3 ax->Q .normal b3 ax)
  (h:ic C s ros K) (aN:Rel w0 F0 X n ρ s a w):(Code.region id ops false).wp C.P Q a w:=by
 refine wp_region (IJ a_ nc a7 _ s a w ?_ aN);have:=P4 C K ros [] s h;have hl:=(zc nc).1;simp only[List.nil_append,List.length_nil,Nat.add_zero,List.map_id']at this;rw[List.length_map]at hl;rw[<-hl]at this;simpa using this
end
def CB (n2:abG) (l:abI):Prop:=
 l.Nodup/\(∀i,i∈l↔i<n2.length)/\∀u i v,l=u++i::v->∀e∈(n2[i]?).getD [],e∈u
def nd (ops:Array Oper):abG:=ops.toList.map λo=>(o.after.toList.filter λe=>Region.binds .any e).map (·.on)
def wO (n2:abG):Bool:=n2.zipIdx.all λp=>p.1.all λe=>decide (e<p.2)
theorem Qo {n2:abG} (h:wO n2=true) {i:Nat} {l:abI} (aw:n2[i]? =some l):∀e∈l,e<i:=by
 intro e he;simp only[wO,List.all_eq_true]at h;have:=h (l,i) (by rw[List.mem_zipIdx_iff_getElem?];exact aw) e he;simpa using this
theorem Qp {ops:Array Oper} (J:wO (nd ops)=true):∀(fuel t:Nat) (fw:Array Bool),fw.size=ops.size->((List.range ops.size).filter λi=> !fw.getD i true).length<=fuel->
  (Region.linearise.go .any ops fuel t fw []).Nodup/\(∀i,i∈Region.linearise.go .any ops fuel t fw []↔(i<ops.size/\fw.getD i true=false))/\
   ∀u i v,Region.linearise.go .any ops fuel t fw []=u++i::v->∀e∈((nd ops)[i]?).getD [],fw.getD e false=true\/e∈u:=by
 intro fuel;induction fuel with
 |zero=>
  intro t fw I hl;have wq:((List.range ops.size).filter λi=> !fw.getD i true)=[]:=List.length_eq_zero_iff.1 (le_zero.1 hl);refine⟨by simp[Region.linearise.go],λi=>?_,λu i v h=>by simp[Region.linearise.go]at h⟩;simp only[Region.linearise.go,List.reverse_nil,List.not_mem_nil,false_iff,not_and];intro aw a6;have:i∈((List.range ops.size).filter λi=> !fw.getD i true):=List.mem_filter.2 ⟨List.mem_range.2 aw,by rw[a6];rfl⟩;rw[wq]at this;cases this
 |succ fuel ih=>
  intro t fw I hl;have IK:∀i,i∈Region.ready .any ops fw↔(i<ops.size/\fw.getD i true=false/\∀e∈((nd ops)[i]?).getD [],fw.getD e false=true):=by
   intro i;simp only[Region.ready,List.mem_filter,List.mem_range,Bool.and_eq_true,Bool.not_eq_true'];constructor
   .rintro⟨R,U,aA⟩;refine⟨R,U,?_⟩;rw[Array.getElem?_eq_getElem R]at aA;simp only[Option.map_some,Option.getD_some,Array.all_eq_true_iff_forall_mem]at aA;simp only[nd,List.getElem?_map,Array.getElem?_toList,Array.getElem?_eq_getElem R,Option.map_some,Option.getD_some,List.mem_map,List.mem_filter];rintro e ⟨x,⟨ag,r3⟩,rfl⟩;have:=aA x (by simpa using ag);simpa [r3]using this
   .rintro⟨R,U,aA⟩;refine⟨R,U,?_⟩;rw[Array.getElem?_eq_getElem R];simp only[Option.map_some,Option.getD_some,Array.all_eq_true_iff_forall_mem];simp only[nd,List.getElem?_map,Array.getElem?_toList,Array.getElem?_eq_getElem R,Option.map_some,Option.getD_some,List.mem_map,List.mem_filter]at aA;intro x ag;cases r3:Region.binds .any x with
    |false=>simp
    |true=>simpa using aA x.on ⟨x,⟨by simpa using ag,r3⟩,rfl⟩
  have hex:(∃i,i<ops.size/\fw.getD i true=false)->Region.ready .any ops fw≠[]:=by
   rintro⟨i,R,U⟩;have:∃i,(i<ops.size/\fw.getD i true=false)/\∀au,au<i->¬(au<ops.size/\fw.getD au true=false):=by
    induction i using Nat.strongRecOn with
    |_ i Qq=>
     by_cases bN:∃au,au<i/\(au<ops.size/\fw.getD au true=false)
     .obtain⟨au,Qr,Qs,Qt⟩:=bN;exact Qq au Qr Qs Qt
     .exact⟨i,⟨R,U⟩,λau CC aj=>bN ⟨au,CC,aj⟩⟩
   obtain⟨k,⟨bU,cc⟩,de⟩:=this;have:k∈Region.ready .any ops fw:=(IK k).2 ⟨bU,cc,λe he=>by
    cases b8:(nd ops)[k]? with
    |none=>rw[b8]at he;simp at he
    |some l=>
     rw[b8]at he;have cB:=Qo J b8 e he;have:=de e cB;rw[not_and]at this;have:=this (by omega);have CD:e<fw.size:=by omega
     simp only[Array.getD_eq_getD_getElem?,Array.getElem?_eq_getElem CD,Option.getD_some]at this⊢;simpa using this⟩
   intro e;rw[e]at this;cases this
  have IL:Region.linearise.go .any ops (fuel+1) t fw []=(match(Region.ready .any ops fw)[t%(Region.ready .any ops fw).length]? with
   |some i=>Region.linearise.go .any ops fuel (t/(Region.ready .any ops fw).length) (fw.setIfInBounds i true) [i]
   |none=>[]):=rfl
  cases wP:(Region.ready .any ops fw)[t%(Region.ready .any ops fw).length]? with
  |none=>
   have wq:Region.ready .any ops fw=[]:=by
    cases aN:Region.ready .any ops fw with
    |nil=>rfl
    |cons a l=>
     rw[aN]at wP;have:=List.getElem?_eq_none_iff.1 wP;have U:=mod_lt t (show 0<(a::l).length by simp);omega
   rw[IL,wP];refine⟨by simp,λi=>?_,λu i v h=>by simp at h⟩;simp only[List.not_mem_nil,false_iff];intro aw;exact hex ⟨i,aw⟩ wq
  |some i=>
   have aw:=(IK i).1 (List.mem_of_getElem? wP);obtain⟨CE,IM,Qu⟩:=aw;rw[IL,wP];simp only;rw[linearise_go_acc];simp only[List.reverse_singleton,List.singleton_append];have qF:∀au d,(fw.setIfInBounds i true).getD au d=if au=i then true else fw.getD au d:=by
    intro au d;split
    .rename_i e;subst e;simp[Array.getD_eq_getD_getElem?,Array.getElem?_setIfInBounds_self_of_lt (show au<fw.size by omega)]
    .rename_i e;simp[Array.getD_eq_getD_getElem?,Array.getElem?_setIfInBounds_ne (λh=>e h.symm)]
   obtain⟨aQ,a2,bQ⟩:=ih (t/(Region.ready .any ops fw).length) (fw.setIfInBounds i true) (by simpa using I) (by
    have eH:((List.range ops.size).filter λau=> !(fw.setIfInBounds i true).getD au true)=((List.range ops.size).filter λi=> !fw.getD i true).filter λau=>decide (au≠i):=by
     rw[List.filter_filter];apply List.filter_congr;intro au _;rw[qF];by_cases e:au=i<;>simp[e]
    rw[eH];have cB:(((List.range ops.size).filter λi=> !fw.getD i true).filter λau=>decide (au≠i)).length<((List.range ops.size).filter λi=> !fw.getD i true).length:=by
     rw[List.length_filter_lt_length_iff_exists];exact⟨i,List.mem_filter.2 ⟨List.mem_range.2 CE,by rw[IM];rfl⟩,by simp⟩
    omega)
   refine⟨?_,λau=>?_,?_⟩
   .rw[List.nodup_cons];refine⟨λhm=>?_,aQ⟩;have:=((a2 i).1 hm).2;rw[qF,if_pos rfl]at this;cases this
   .rw[List.mem_cons,a2,qF];by_cases e:au=i
    .subst e;simp[CE,IM]
    .simp[e]
   .intro u au v h e he;cases u with
    |nil=>
     simp only[List.nil_append,List.cons.injEq]at h;obtain⟨rfl,rfl⟩:=h;exact .inl (Qu e he)
    |cons wQ u=>
     simp only[List.cons_append,List.cons.injEq]at h;obtain⟨rfl,h⟩:=h;rcases bQ u au v h e he with bz|bz
     .rw[qF]at bz;split at bz
      .rename_i dY;subst dY;exact .inr (by simp)
      .exact .inl bz
     .exact .inr (by simp[bz])
theorem Qv {ops:Array Oper} (J:wO (nd ops)=true) (t:Nat):CB (nd ops) (Region.linearise .any ops t):=by
 have IP:∀i d,i<ops.size->(Array.replicate ops.size false).getD i d=false:=by
  intro i d aw;simp[Array.getD_eq_getD_getElem?,aw]
 obtain⟨aQ,a2,bQ⟩:=Qp J ops.size t (Array.replicate ops.size false) (by simp) (by
  have:=List.length_filter_le (λi=> !(Array.replicate ops.size false).getD i true) (List.range ops.size);simpa using this)
 have hlen:(nd ops).length=ops.size:=by simp[nd]
 refine⟨aQ,λi=>?_,λu i v h e he=>?_⟩
 .rw[hlen];rw[show Region.linearise .any ops t=Region.linearise.go .any ops ops.size t (Array.replicate ops.size false) []from rfl,a2];exact⟨λh=>h.1,λh=>⟨h,IP i true h⟩⟩
 .rcases bQ u i v h e he with bz|bz
  .exfalso;by_cases IQ:e<ops.size
   .rw[IP e false IQ]at bz;cases bz
   .simp[Array.getD_eq_getD_getElem?,IQ]at bz
  .exact bz
def an:abM->ah
 |[],_=>.hole
 |(u,d)::l,t=>if t=u then d else an l t
mutual
inductive dW:j->j->Prop
 |refl (d:j):dW d d
 |gL (sz:Nat):dW .aJ (.ad sz [])
 |ub:dW .aJ (.slice [])
 |any (b:Bool):dW (.bool b) .eF
 |share (d:j):d.tree=true->(∀vs,d≠.tuple vs)->(∀o,d≠.dc o)->(∀f c,d≠.eU f c)->(∀c,d≠.fB c)->dW d d.share
 |agg {ds es:abN}:jd ds es->dW (.agg ds) (.agg es)
 |aD {d e:j}:dW d e->dW (.aD d) (.aD e)
 |ad {sz:Nat} {ds es:abN}:jd ds es->dW (.ad sz ds) (.ad sz es)
 |tuple {ds es:abN}:jd ds es->dW (.tuple ds) (.tuple es)
 |ref {d e:j}:dW d e->dW (.ref d) (.ref e)
 |trans {d e f:j}:dW d e->dW e f->dW d f
inductive jd:abN->abN->Prop
 |nil:jd [] []
 |cons {d e:j} {ds es:abN}:dW d e->jd ds es->jd (d::ds) (e::es)
end
mutual
theorem dW.wd:∀{d e:j},dW d e->e.wd=d.wd
 |_,_,.refl _=>rfl
 |_,_,.gL _=>rfl
 |_,_,.ub=>rfl
 |_,_,.any _=>rfl
 |_,_,.share d _ _ _ _ _=>j.yx d
 |_,_,.agg h=>by simp only[j.wd];exact jd.wd h
 |_,_,.aD _=>rfl
 |_,_,.ad _=>rfl
 |_,_,.tuple h=>by simp only[j.wd];exact jd.wd h
 |_,_,.ref _=>rfl
 |_,_,.trans h k=>(dW.wd k).trans (dW.wd h)
theorem jd.wd:∀{ds es:abN},jd ds es->j.c6 es=j.c6 ds
 |_,_,.nil=>rfl
 |_,_,.cons h I=>by simp only[j.c6];rw[dW.wd h,jd.wd I]
end
theorem jd.len {ds es:abN} (h:jd ds es):es.length=ds.length:=by
 induction ds generalizing es with
 |nil=>cases h;rfl
 |cons d ds ih=>cases h with|cons h I=>simp[ih I]
theorem jd.all {sz:Nat} {ds es:abN} (h:jd ds es) (ae:∀d∈ds,d.wd=sz):∀d∈es,d.wd=sz:=by
 induction ds generalizing es with
 |nil=>cases h;intro d ae;cases ae
 |cons d ds ih=>
  cases h with
  |cons h I=>
   intro x ag;rcases List.mem_cons.1 ag with rfl|ag
   .rw[h.wd];exact ae d (by simp)
   .exact ih I (λd hm=>ae d (by simp[hm])) x ag
section
variable {w0 w:World} {F0 X F:Nat->Prop} {S:Nat->Nat->Prop} {s aq:ah} {ao:Nat->Value}
def Qw (w:World) (F:Nat->Prop) (_d e:j) (cs:abL) (S:Nat->Prop):Prop:=
 ∃gZ g0:Nat->Prop,(∀b,gZ b->S b)/\(∀b,g0 b->S b)/\(∀b,g0 b->¬gZ b)/\∀bC,(∀b,F b\/gZ b->bC b)->ai w bC e cs g0
mutual
theorem ai.wider:∀{d e:j},dW d e->∀{F:Nat->Prop} {cs:abL} {S:Nat->Prop},ai w F d cs S->Qw w F d e cs S
 |_,_,.refl _,F,cs,S,h=>⟨λ_=>False,S,λ_ h=>h.elim,λ_ h=>h,λ_ _ h=>h,λbC aY=>ai.mono (λb J=>aY b (.inl J)) _ _ _ _ (λ_ h=>h) h⟩
 | .aJ,_,.gL sz,F,cs,S,h=>⟨λ_=>False,S,λ_ h=>h.elim,λ_ h=>h,λ_ _ h=>h,λbC aY=>by simp only[ai]at h⊢;exact .inl ⟨trivial,_,h⟩⟩
 | .aJ,_,.ub,F,cs,S,h=>⟨λ_=>False,S,λ_ h=>h.elim,λ_ h=>h,λ_ _ h=>h,λbC aY=>by simp only[ai]at h⊢;exact .inl ⟨trivial,none,0,h,zero_le _,λ_=>rfl⟩⟩
 | .bool _,_,.any b,F,cs,S,h=>⟨λ_=>False,S,λ_ h=>h.elim,λ_ h=>h,λ_ _ h=>h,λbC aY=>by simp only[ai]at h⊢;exact⟨b,h⟩⟩
 |_,_,.share d _ _ _ _ _,F,cs,S,h=>⟨S,λ_=>False,λ_ h=>h,λ_ h=>h.elim,λ_ h=>h.elim,λbC aY=>ai.shared (λb J=>aY b (.inl J)) d cs S (λb J=>aY b (.inr J)) h⟩
 |_,_,.agg ib,F,cs,S,h=>by
  rw[ai]at h;obtain⟨gZ,g0,R,U,aA,aU⟩:=aS.wider ib h;exact⟨gZ,g0,R,U,aA,λbC aY=>by rw[ai];exact aU bC aY⟩
 |_,_,.aD ae,F,cs,S,h=>by
  rw[ai]at h;obtain⟨b,cur,ty,fr,aF,bU,cc,de,cQ,dT,dH,hx⟩:=h;obtain⟨gZ,g0,R,U,aA,aU⟩:=ai.wider ae dT;refine⟨gZ,λc=>c=b\/g0 c,λc aj=>dH c (R c aj),?_,?_,λbC aY=>?_⟩
  .rintro c (rfl|aj)
   .exact cc
   .exact dH c (U c aj)
  .rintro c (rfl|aj) a6
   .exact hx (R _ a6)
   .exact aA c aj a6
  .rw[ai];exact⟨b,cur,ty,fr,g0,bU,.inl rfl,de,cQ,aU bC aY,λc aj=>.inr aj,λaj=>hx (U _ aj)⟩
 | .ad sz ds,.ad _ es,.ad ib,F,cs,S,h=>by
   rw[ai]at h;have hl:=ib.len;rcases h with⟨R,U⟩|⟨b,cap,cur,ty,fr,aF,bU,cc,de,cQ,dT,dH,hx,cE,kY,kb,IU⟩
   .refine⟨λ_=>False,S,λ_ h=>h.elim,λ_ h=>h,λ_ _ h=>h,λbC _=>?_⟩;rw[ai];subst R;exact .inl ⟨List.length_eq_zero_iff.1 (by simpa using hl),U⟩
   .obtain⟨gZ,g0,R,U,aA,aU⟩:=aS.wider ib kY;refine⟨gZ,λc=>c=b\/g0 c,λc aj=>kb c (R c aj),?_,?_,λbC aY=>?_⟩
    .rintro c (rfl|aj)
     .exact cc
     .exact kb c (U c aj)
    .rintro c (rfl|aj) a6
     .exact IU (R _ a6)
     .exact aA c aj a6
    .rw[ai];refine .inr ⟨b,cap,cur,ty,fr,g0,by rw[hl];exact bU,.inl rfl,de,cQ,by rw[hl];exact dT,dH,hx,ib.all cE,by rw[hl];exact aU bC aY,λc aj=>.inr aj,λaj=>IU (U _ aj)⟩
 |_,_,.tuple ib,F,cs,S,h=>by
  rw[ai]at h;obtain⟨gZ,g0,R,U,aA,aU⟩:=aS.wider ib h;exact⟨gZ,g0,R,U,aA,λbC aY=>by rw[ai];exact aU bC aY⟩
 |_,_,.ref ae,F,cs,S,h=>by
  rw[ai]at h;obtain⟨b,o,cX,R,U,aA,aU⟩:=h;obtain⟨gZ,g0,bU,cc,de,cQ⟩:=ai.wider ae aU;refine⟨λ_=>False,S,λ_ h=>h.elim,λ_ h=>h,λ_ _ h=>h,λbC aY=>?_⟩;rw[ai];exact⟨b,o,cX,R,aY _ (.inl U),aA,ai.mono (λ_ h=>h) _ _ _ _ (λb J=>cc b J) (cQ bC λb J=>aY b (J.imp id λh=>(bU b h).elim))⟩
 |_,_,.trans ae he,F,cs,S,h=>by
  obtain⟨gZ,g0,R,U,aA,aU⟩:=ai.wider ae h;obtain⟨CF,zg,bU,cc,de,cQ⟩:=ai.wider he (F:=λb=>F b\/gZ b) (aU _ λ_ h=>h);refine⟨λb=>gZ b\/CF b,zg,?_,λb J=>U b (cc b J),?_,λbC aY=>cQ bC λb J=>?_⟩
  .rintro b (h|h)
   .exact R b h
   .exact U b (bU b h)
  .rintro b J (h|h)
   .exact aA b (cc b J) h
   .exact de b J h
  .rcases J with(J|J)|J
   .exact aY b (.inl J)
   .exact aY b (.inr (.inl J))
   .exact aY b (.inr (.inr J))
theorem aS.wider:∀{ds es:abN},jd ds es->∀{F:Nat->Prop} {cs:abL} {S:Nat->Prop},aS w F ds cs S->
  ∃gZ g0:Nat->Prop,(∀b,gZ b->S b)/\(∀b,g0 b->S b)/\(∀b,g0 b->¬gZ b)/\∀bC,(∀b,F b\/gZ b->bC b)->aS w bC es cs g0
 |_,_,.nil,F,cs,S,h=>⟨λ_=>False,λ_=>False,λ_ h=>h.elim,λ_ h=>h.elim,λ_ h=>h.elim,λbC aY=>by rw[aS]at h⊢;exact h⟩
 |_,_,.cons ae ib,F,cs,S,h=>by
  rw[aS]at h;obtain⟨bD,bH,bJ,cS,rfl,a2,bQ,c4,dR,gn⟩:=h;obtain⟨Qx,IV,ab,bF,a3,a4⟩:=ai.wider ae a2;obtain⟨CF,zg,i7,gz,i9,c1⟩:=aS.wider ib bQ;refine⟨λb=>Qx b\/CF b,λb=>IV b\/zg b,?_,?_,?_,λbC aY=>?_⟩
  .rintro b (h|h)
   .exact c4 b (ab b h)
   .exact dR b (i7 b h)
  .rintro b (h|h)
   .exact c4 b (bF b h)
   .exact dR b (gz b h)
  .rintro b (h|h) (bz|bz)
   .exact a3 b h bz
   .exact gn b (bF b h) (i7 b bz)
   .exact gn b (ab b bz) (gz b h)
   .exact i9 b h bz
  .rw[aS];refine⟨bD,bH,IV,zg,rfl,a4 bC (λb J=>aY b (J.imp id .inl)),c1 bC (λb J=>aY b (J.imp id .inr)),λb J=>.inl J,λb J=>.inr J,λb R U=>gn b (bF b R) (gz b U)⟩
end
theorem dW.zh:∀{d e:j},dW d e->(∀vs,d≠.tuple vs)->∀vs,e≠.tuple vs
 |_,_,.refl _,h=>h
 |_,_,.gL _,_=>λ_ h=>by cases h
 |_,_,.ub,_=>λ_ h=>by cases h
 |_,_,.any _,_=>λ_ h=>by cases h
 |_,_,.share d _ _ _ _ _,h=>λvs he=>by cases d<;>first|(cases he;done)|exact h _ rfl
 |_,_,.agg _,_=>λ_ h=>by cases h
 |_,_,.aD _,_=>λ_ h=>by cases h
 |_,_,.ad _,_=>λ_ h=>by cases h
 |_,_,.tuple _,h=>λ_ _=>h _ rfl
 |_,_,.ref _,_=>λ_ h=>by cases h
 |_,_,.trans h k,a7=>dW.zh k (dW.zh h a7)
theorem dW.g_:∀{d e:j} {v:Value},dW d e->(∀vs,d≠.tuple vs)->cW.g_ d v->cW.g_ e v
 |_,_,_,.refl _,_,h=>h
 |_,_,_,.gL _,_,h=>h
 |_,_,_,.ub,_,h=>h
 |_,_,_,.any _,_,h=>h
 |_,_,_,.share d _ a7 _ _ _,_,h=>by cases d<;>first|exact h|exact(a7 _ rfl).elim
 |_,_,_,.agg _,_,h=>h
 |_,_,_,.aD _,_,h=>h
 |_,_,_,.ad _,_,h=>h
 |_,_,_,.tuple _,a7,_=>(a7 _ rfl).elim
 |_,_,_,.ref _,_,h=>h
 |_,_,_,.trans h k,a7,I=>dW.g_ k (dW.zh h a7) (dW.g_ h a7 I)
theorem jd.get:∀{ds es:abN},jd ds es->∀(k:Nat) (e:j),es[k]? =some e->∃d,ds[k]? =some d/\dW d e
 |_,_,.nil,k,e,h=>by simp at h
 |_,_,.cons ae I,0,e,h=>by simp at h;subst h;exact⟨_,rfl,ae⟩
 |_,_,.cons ae I,k+1,e,h=>jd.get I k e (by simpa using h)
theorem dW.c0:∀{d e:j} {v:Value},dW d e->cW.c0 d v->cW.c0 e v
 |_,_,_,.refl _,I=>I
 |_,_,_,.gL _,I=>I
 |_,_,_,.ub,I=>I
 |_,_,_,.any _,I=>I
 |_,_,_,.share _ _ lK _ _ _,I=>Cm lK I
 |_,_,_,.agg _,I=>I
 |_,_,_,.aD _,I=>I
 |_,_,_,.ad _,I=>I
 |_,_,_,.ref _,I=>I
 |_,_,_,.tuple ae,I=>by
  obtain⟨arr,R,U,aA⟩:=I;refine⟨arr,R,U.trans ae.len.symm,λk e x he ag=>?_⟩;obtain⟨d,ak,hw⟩:=ae.get k e he;obtain⟨ab,bF,a3⟩:=aA k d x ak ag;exact⟨hw.g_ bF ab,hw.zh bF,a3.trans hw.wd.symm⟩
 |_,_,_,.trans h k,I=>dW.c0 k (dW.c0 h I)
theorem dW.tree:∀{d e:j},dW d e->d.tree=true->e.tree=true
 |_,_,.refl _,ae=>ae
 |_,_,.gL _,_=>rfl
 |_,_,.ub,_=>rfl
 |_,_,.any _,_=>rfl
 |_,_,.share d _ _ i4 Co Cp,ae=>by cases d<;>first|exact ae|rfl|exact(i4 _ rfl).elim|exact(Co _ _ rfl).elim|exact(Cp _ rfl).elim
 |_,_,.agg _,_=>rfl
 |_,_,.aD _,_=>rfl
 |_,_,.ad _,_=>rfl
 |_,_,.tuple _,_=>rfl
 |_,_,.ref _,_=>rfl
 |_,_,.trans h k,ae=>dW.tree k (dW.tree h ae)
mutual
def j.qQ:j->abI
 | .h x q=>if q.isEmpty then []else [x]
 | .al x _=>[x]
 | .J x _=>[x]
 | .fn _ cap=>j.qR cap
 |_=>[]
def j.qR:abN->abI
 |[]=>[]
 |d::ds=>d.qQ++j.qR ds
end
def wR (s aq:ah) (x:Nat) (D:abI):Prop:=aq x=s x\/aq x= .hole\/((s x).own=true/\(aq x).own=true/\x∉D)
theorem wR.less {s aq:ah} {x:Nat} {D E:abI} (h:wR s aq x D) (CG:∀u∈E,u∈D):wR s aq x E:=by
 rcases h with h|h|⟨R,U,aA⟩
 .exact .inl h
 .exact .inr (.inl h)
 .exact .inr (.inr ⟨R,U,λag=>aA (CG x ag)⟩)
theorem aB.keep {bC:Nat->Prop} (aY:∀b,F b->bC b):∀n,(∀(d:j) (v:Value) (cN:Nat->Prop),SizeOf.sizeOf d<=n->(∀x∈d.I,wR s aq x d.qQ)->aB w F s ao d v cN->aB w bC aq ao d v cN)/\
  (∀(ds:abN) (vs:abL),SizeOf.sizeOf ds<=n->(∀x∈j.dv ds,wR s aq x (j.qR ds))->dk w F s ao ds vs->dk w bC aq ao ds vs):=by
 intro n;induction n with
 |zero=>
  refine⟨λd v cN bA=>?_,λds vs bA=>?_⟩
  .cases d<;>simp at bA<;>omega
  .cases ds<;>simp at bA<;>omega
 |succ n ih=>
  refine⟨λd v cN bA ak h=>?_,λds vs bA ak h=>?_⟩
  .cases d with
   |hole=>rw[aB];trivial
   |h x q=>
    rw[aB]at h⊢;intro e eH al;rcases ak x (by simp[j.I])with he|he|⟨k4,Qy,wS⟩
    .rw[he]at eH⊢;exact h e eH al
    .rw[he]at eH;cases q with
     |nil=>simp only[j.sub,Option.some.injEq]at eH;subst eH;simp[j.plain]at al
     |cons k q=>simp[j.sub]at eH
    .cases q with
     |nil=>
      simp only[j.sub,Option.some.injEq]at eH;subst eH;obtain⟨b0,a0,dX,eG,fY⟩:=h (s x) (by simp only[j.sub]) (sb k4).1;simp only[cb,Option.some.injEq,Prod.mk.injEq,true_and]at dX;exact⟨bR (ao x),none,by simp only[cb],by rw[eG,<-dX.1],((sb Qy).2.2.2.2.2 _).2 (((sb k4).2.2.2.2.2 _).1 fY)⟩
     |cons k q=>exact(wS (by simp[j.qQ])).elim
   |al x q=>
    rw[aB]at h⊢;intro e eH aj;rcases ak x (by simp[j.I])with he|he|⟨_,_,wS⟩
    .rw[he]at eH aj⊢;exact h e eH aj
    .rw[he]at aj;cases q<;>simp[j.dG]at aj
    .exact(wS (by simp[j.qQ])).elim
   |J x k=>
    rw[aB]at h⊢;intro al;rcases ak x (by simp[j.I])with he|he|⟨_,_,wS⟩
    rotate_left 2
    .exact(wS (by simp[j.qQ])).elim
    .rw[he]at al;obtain⟨b,cur,e,fr,R,U,aA,aU⟩:=h al;exact⟨b,cur,e,fr,R,aY b U,aA,aU⟩
    .rw[he]at al;simp[j.plain]at al
   |fn f cap=>
    rw[aB]at h⊢;obtain⟨arr,rfl,aj⟩:=h;exact⟨arr,rfl,ih.2 _ _ (by simp at bA;omega) (by simpa [j.I,j.qQ]using ak) aj⟩
   |_=>
    have bz:=(aB.b4 rfl).1 h;exact(aB.b4 rfl).2 ⟨bz.1,ai.mono aY _ _ _ _ (λ_ h=>h) bz.2⟩
  .cases ds with
   |nil=>rw[dk]at h⊢;exact h
   |cons d ds=>
    rw[dk]at h⊢;obtain⟨v,iw,rfl,R,U⟩:=h;simp at bA;simp only[j.dv,List.mem_append]at ak;exact⟨v,iw,rfl,ih.1 _ _ _ (by omega) (λx ag=>(ak x (.inl ag)).less λu hu=>by simp[j.qR,hu]) R,ih.2 _ _ (by omega) (λx ag=>(ak x (.inr ag)).less λu hu=>by simp[j.qR,hu]) U⟩
def uc (s:ah) (l:abM):Prop:=
 ∀p∈l,p.2=s p.1\/((s p.1).tree=true/\dW (s p.1) p.2/\∀b7∈l,p.1∉b7.2.I\/((s p.1).own=true/\p.2.own=true/\p.1∉b7.2.qQ))
theorem IW:∀(l:abM) (t:Nat),an l t= .hole\/∃p∈l,p.1=t/\an l t=p.2:=by
 intro l;induction l with
 |nil=>intro t;exact .inl rfl
 |cons p l ih=>
  intro t;obtain⟨u,d⟩:=p;simp only[an];split
  .rename_i e;exact .inr ⟨(u,d),by simp,e.symm,rfl⟩
  .rcases ih t with h|⟨p,al,h⟩
   .exact .inl h
   .exact .inr ⟨p,by simp[al],h⟩
theorem bu.Qz (h:bu w0 F0 X F S s ao w) {l:abM} (hw:uc s l):∃bC aF,bu w0 F0 X bC aF (an l) ao w:=by
 have each:∀t,∃gZ g0:Nat->Prop,(∀b,gZ b->S t b)/\(∀b,g0 b->S t b)/\(∀b,g0 b->¬gZ b)/\∀bC,(∀b,F b\/gZ b->bC b)->aB w bC (an l) ao (an l t) (ao t) g0:=by
  intro t;rcases IW l t with e|⟨p,al,rfl,e⟩
  .exact⟨λ_=>False,λ_=>False,λ_ h=>h.elim,λ_ h=>h.elim,λ_ h=>h.elim,λbC _=>by rw[e,aB];trivial⟩
  .rw[e];rcases hw p al with ak|⟨aL,jk,_⟩
   .refine⟨λ_=>False,S p.1,λ_ h=>h.elim,λ_ h=>h,λ_ _ h=>h,λbC aY=>?_⟩;rw[ak];refine(aB.keep (λb J=>aY b (.inl J)) (SizeOf.sizeOf (s p.1))).1 _ _ _ (Nat.le_refl _) ?_ (h.cK p.1);intro x ag;rcases IW l x with dY|⟨b7,dp,rfl,dY⟩
    .exact .inr (.inl dY)
    .rcases hw b7 dp with hd|⟨_,_,i4⟩
     .exact .inl (dY.trans hd)
     .rcases i4 p al with i4|⟨jV,kx,tX⟩
      .exact(i4 (by rw[ak];exact ag)).elim
      .exact .inr (.inr ⟨jV,by rw[dY];exact kx,by rw[ak]at tX;exact tX⟩)
   .obtain⟨aQ,a2⟩:=(aB.b4 aL).1 (h.cK p.1);obtain⟨gZ,g0,bU,cc,de,cQ⟩:=ai.wider jk a2;exact⟨gZ,g0,bU,cc,de,λbC aY=>(aB.b4 (jk.tree aL)).2 ⟨jk.c0 aQ,cQ bC aY⟩⟩
 have bD:=λt=>(each t).choose_spec;let gZ:=λt=>(each t).choose
 have bH:=λt=>(bD t).choose_spec;let g0:=λt=>(bD t).choose
 have gb:∀t b,gZ t b->S t b:=λt=>(bH t).1;have fC:∀t b,g0 t b->S t b:=λt=>(bH t).2.1;have iR:∀t b,g0 t b->¬gZ t b:=λt=>(bH t).2.2.1;have hI:=λt=>(bH t).2.2.2;refine⟨λb=>F b\/∃t,gZ t b,g0,λb J=>.inl (h.fR b J),?_,?_,λt b J=>h.dD t b (fC t b J),?_,λt u b cO J hu=>h.ev t u b cO (fC t b J) (fC u b hu),λt b J=>h.cN t b (fC t b J),?_,h.old,h.size,h.os,h.tape,h.output,h.fL⟩
 .rintro b (J|⟨t,J⟩)
  .exact h.gl b J
  .exact .inr (h.cN t b (gb t b J))
 .rintro b (J|⟨t,J⟩)
  .exact h.eu b J
  .exact h.dD t b (gb t b J)
 .rintro t b J (a6|⟨u,hu⟩)
  .exact h.eW t b (fC t b J) a6
  .by_cases e:t=u
   .subst e;exact iR t b J hu
   .exact h.ev t u b e (fC t b J) (gb u b hu)
 .intro t;exact hI t _ (λb J=>J.imp id λh=>⟨t,h⟩)
end
inductive aP where
 |skip
 |eK (ros:List bG) (keep:Option abI)
 |ie (ros:List bG) (n2:abG) (keep:Option abI)
 |seq (a b:aP)
 |cond (c:aZ) (a b:aP)
 |block (id:Nat) (b:aP)
 |loop (b:aP)
 |exit (id:Nat)
 |ret
 |hA (T:(Exit->ah->Prop)->ah->Prop) (b:aP)
 |raw (c:Code)
def fm (n:Fr):Code->Option aP
 | .skip=>some .skip
 | .region id ops false=>match nY n ops ops.toList with
   |some r=>some (.eK r none)
   |none=>some (.raw (.region id ops false))
 | .region _ ops true=>if wO (nd ops)=true then(nY n ops ops.toList).map λr=>.ie r (nd ops) none else none
 | .seq a b=>match fm n a,fm n b with
   |some a,some b=>some (.seq a b)
   |_,_=>none
 | .cond c a b=>match cZ c,fm n a,fm n b with
   |some c,some a,some b=>some (.cond c a b)
   |_,_,_=>none
 | .block id b=>(fm n b).map (.block id)
 | .loop b=>(fm n b).map .loop
 | .exit id=>some (.exit id)
 | .ret=>some .ret
 |_=>none
def aP.kf:aP->aP
 | .eK ros _=>.eK ros none
 | .ie ros eo _=>.ie ros eo none
 | .seq a b=>.seq a.kf b.kf
 | .cond c a b=>.cond c a.kf b.kf
 | .block id b=>.block id b.kf
 | .loop b=>.loop b.kf
 | .hA T b=>.hA T b.kf
 |c=>c
def aP.strip:aP->aP
 | .eK ros _=>.eK (ros.map bG.un) none
 | .ie ros eo _=>.ie (ros.map bG.un) eo none
 | .seq a b=>.seq a.strip b.strip
 | .cond c a b=>.cond c a.strip b.strip
 | .block id b=>.block id b.strip
 | .loop b=>.loop b.strip
 | .hA _ b=>b.strip
 |c=>c
theorem aP.CH:∀c:aP,c.kf.strip=c.strip:=by
 intro c;induction c with
 |seq a b iW iX=>simp only[aP.kf,aP.strip,iW,iX]
 |cond c a b iW iX=>simp only[aP.kf,aP.strip,iW,iX]
 |block id b ih=>simp only[aP.kf,aP.strip,ih]
 |loop b ih=>simp only[aP.kf,aP.strip,ih]
 |hA T b ih=>simp only[aP.kf,aP.strip,ih]
 |_=>rfl
def aP.bare (H:((Exit->ah->Prop)->ah->Prop)->aP->Prop):aP->Prop
 | .eK _ k=>k=none
 | .ie _ _ k=>k=none
 | .seq a b=>a.bare H/\b.bare H
 | .cond _ a b=>a.bare H/\b.bare H
 | .block _ b=>b.bare H
 | .loop b=>b.bare H
 | .hA T b=>H T b
 |_=>True
def aP.nf (H:((Exit->ah->Prop)->ah->Prop)->aP->Prop):aP->Prop
 | .seq a b=>a.nf H/\b.nf H
 | .cond _ a b=>a.nf H/\b.nf H
 | .block _ b=>b.nf H
 | .loop b=>b.nf H
 | .hA T b=>H T b.kf
 |_=>True
theorem aP.CI {H:((Exit->ah->Prop)->ah->Prop)->aP->Prop}:∀c:aP,c.nf H->c.kf.bare H:=by
 intro c;induction c with
 |seq a b iW iX=>intro h;exact⟨iW h.1,iX h.2⟩
 |cond c a b iW iX=>intro h;exact⟨iW h.1,iX h.2⟩
 |block id b ih=>intro h;exact ih h
 |loop b ih=>intro h;exact ih h
 |eK=>intro _;rfl
 |ie=>intro _;rfl
 |hA T b _=>intro h;exact h
 |_=>intro _;trivial
def aP.plain:aP->Bool
 | .seq a b=>a.plain&&b.plain
 | .cond _ a b=>a.plain&&b.plain
 | .block _ b=>b.plain
 | .loop b=>b.plain
 | .hA _ _=>false
 |_=>true
theorem aP.QA {H:((Exit->ah->Prop)->ah->Prop)->aP->Prop}:∀c:aP,c.plain=true->c.nf H:=by
 intro c;induction c with
 |seq a b iW iX=>intro h;simp only[aP.plain,Bool.and_eq_true]at h;exact⟨iW h.1,iX h.2⟩
 |cond c a b iW iX=>intro h;simp only[aP.plain,Bool.and_eq_true]at h;exact⟨iW h.1,iX h.2⟩
 |block id b ih=>intro h;exact ih h
 |loop b ih=>intro h;exact ih h
 |hA T b _=>intro h;cases h
 |_=>intro _;trivial
def andThen (K:ah->Prop) (Q:Exit->ah->Prop):Exit->ah->Prop
 | .normal,s=>K s
 |e,s=>Q e s
def ud (id:Nat) (Q:Exit->ah->Prop):Exit->ah->Prop
 | .exit i,s=>if i=id then Q .normal s else Q (.exit i) s
 |e,s=>Q e s
def eg (K:ah->Prop) (s:ah):Prop:=K s\/∃l,uc s l/\K (an l)
def wT:Option abI->(ah->Prop)->ah->Prop
 |none,K,s=>eg K s
 |some k,K,s=>K (an (k.map λt=>(t,s t)))
def bk (C:bI):aP->(Exit->ah->Prop)->ah->Prop
 | .skip,Q,s=>Q .normal s
 | .eK ros keep,Q,s=>ic C s ros (wT keep (Q .normal))
 | .ie ros n2 keep,Q,s=>∀l,CB n2 l->iV C ros s l (wT keep (Q .normal))
 | .seq a b,Q,s=>bk C a (andThen (eg (bk C b Q)) Q) s
 | .cond c a b,Q,s=>match aX s c with
   | .bool eI=>if eI=true then bk C a Q s else bk C b Q s
   | .eF=>bk C a Q s/\bk C b Q s
   |_=>False
 | .block id b,Q,s=>bk C b (ud id Q) s
 | .loop b,Q,s=>eg (λs=>∀Z:ah->Prop,(∀aq,bk C b (andThen (eg Z) Q) aq->Z aq)->Z s) s
 | .exit id,Q,s=>Q (.exit id) s
 | .ret,Q,s=>Q .ret s
 | .hA T _,Q,s=>∀dE:Exit->ah->Prop,(∀e s,Q e s->dE e s)->T dE s
 | .raw _,_,_=>False
section
variable {C:bI}
theorem CJ {s:ah} {o:bG} {K cR:ah->Prop} (h:kB C s o K) (ak:∀s,K s->cR s):kB C s o cR:=by
 unfold kB at h⊢;split
 .rename_i bm;rw[bm]at h;exact y_ h λav s1=>ak _
 .rename_i t b bm;rw[bm]at h;simp only at h;split
  .rename_i eI I;rw[I]at h;simp only at h;split
   .rename_i J;rw[if_pos J]at h;exact y_ h λav s1=>ak _
   .rename_i J;rw[if_neg J]at h;exact ak _ h
  .rename_i I;rw[I]at h;exact ak _ h
  .rename_i R U;split at h
   .exact R _ (by assumption)
   .exact U (by assumption)
   .exact h
theorem IX {K cR:ah->Prop} (ak:∀s,K s->cR s):∀{ros:List bG} {s:ah},ic C s ros K->ic C s ros cR:=by
 intro ros;induction ros with
 |nil=>intro s h;exact ak s h
 |cons o ros ih=>intro s h;exact CJ h λs h=>ih h
theorem IY {ros:List bG} {K cR:ah->Prop} (ak:∀s,K s->cR s):∀{l:abI} {s:ah},iV C ros s l K->iV C ros s l cR:=by
 intro l;induction l with
 |nil=>intro s h;exact ak s h
 |cons i l ih=>
  intro s h;simp only[iV]at h⊢;split
  .rename_i br;rw[br]at h;exact ih h
  .rename_i o br;rw[br]at h;exact CJ h λs h=>ih h
theorem si {K cR:ah->Prop} (ak:∀s,K s->cR s) (s:ah) (h:eg K s):eg cR s:=
 h.imp (ak s) λ⟨l,R,U⟩=>⟨l,R,ak _ U⟩
theorem IZ {keep:Option abI} {K cR:ah->Prop} (ak:∀s,K s->cR s) (s:ah) (h:wT keep K s):wT keep cR s:=by
 cases keep with
 |none=>exact si ak s h
 |some k=>exact ak _ h
theorem I0 {keep:Option abI} {K:ah->Prop} {s:ah} (h:wT keep K s):eg K s:=by
 cases keep with
 |none=>exact h
 |some k=>
  refine .inr ⟨_,?_,h⟩;intro p al;obtain⟨t,_,rfl⟩:=List.mem_map.1 al;exact .inl rfl
theorem CK {K cR:ah->Prop} {Q dE:Exit->ah->Prop} (ak:∀s,K s->cR s) (cp:∀e s,Q e s->dE e s):∀e s,andThen K Q e s->andThen cR dE e s:=by
 intro e s h;cases e with
 |normal=>exact ak s h
 |_=>exact cp _ s h
theorem I1:∀(c:aP) {Q dE:Exit->ah->Prop} {s:ah},(∀e s,Q e s->dE e s)->bk C c Q s->bk C c dE s:=by
 intro c;induction c with
 |skip=>intro Q dE s cp h;exact cp _ _ h
 |eK ros keep=>intro Q dE s cp h;exact IX (IZ (cp _)) h
 |ie ros n2 keep=>intro Q dE s cp h l hl;exact IY (IZ (cp _)) (h l hl)
 |seq a b iW iX=>
  intro Q dE s cp h;exact iW (CK (λs h=>si (λ_ h=>iX cp h) s h) cp) h
 |cond c a b iW iX=>
  intro Q dE s cp h;simp only[bk]at h⊢;split
  .rename_i eI J;rw[J]at h;simp only at h;split
   .rename_i e;rw[if_pos e]at h;exact iW cp h
   .rename_i e;rw[if_neg e]at h;exact iX cp h
  .rename_i J;rw[J]at h;exact⟨iW cp h.1,iX cp h.2⟩
  .rename_i R U;split at h
   .exact R _ (by assumption)
   .exact U (by assumption)
   .exact h
 |block id b ih=>
  intro Q dE s cp h;refine ih ?_ h;intro e s h;cases e with
  |exit i=>
   simp only[ud]at h⊢;split
   .rename_i e;rw[if_pos e]at h;exact cp _ _ h
   .rename_i e;rw[if_neg e]at h;exact cp _ _ h
  |_=>exact cp _ _ h
 |loop b ih=>
  intro Q dE s cp h;refine si (λs h Z ue=>?_) s h;exact h Z λaq fe=>ue aq (ih (CK (λ_ h=>h) cp) fe)
 |exit id=>intro Q dE s cp h;exact cp _ _ h
 |ret=>intro Q dE s cp h;exact cp _ _ h
 |hA T b _=>intro Q dE s cp h CL U;exact h CL λe s he=>U e s (cp e s he)
 |raw c=>intro Q dE s cp h;exact h
theorem CM:∀(c:aP) {Q:Exit->ah->Prop} {s:ah},bk C c Q s->bk C c.kf Q s:=by
 intro c;induction c with
 |eK ros keep=>intro Q s h;exact IX (λs h=>I0 h) h
 |ie ros eo keep=>intro Q s h l hl;exact IY (λs h=>I0 h) (h l hl)
 |seq a b iW iX=>intro Q s h;exact iW (I1 a (CK (λs h=>si (λ_ h=>iX h) s h) (λ_ _ h=>h)) h)
 |cond c a b iW iX=>
  intro Q s h;simp only[aP.kf,bk]at h⊢;split
  .rename_i eI J;rw[J]at h;simp only at h;split
   .rename_i e;rw[if_pos e]at h;exact iW h
   .rename_i e;rw[if_neg e]at h;exact iX h
  .rename_i J;rw[J]at h;exact⟨iW h.1,iX h.2⟩
  .rename_i R U;split at h
   .exact R _ (by assumption)
   .exact U (by assumption)
   .exact h
 |block id b ih=>intro Q s h;exact ih h
 |loop b ih=>
  intro Q s h;refine si (λs h Z ue=>?_) s h;exact h Z λaq fe=>ue aq (ih fe)
 |hA T b _=>intro Q s h;exact h
 |_=>intro Q s h;exact h
variable {w0 w:World} {F0 X:Nat->Prop} {n:Fr} {ρ:Nat->Value} {s:ah} {a:Act}
def o4 (w0:World) (F0 X:Nat->Prop) (n:Fr) (ρ:Nat->Value) (Q:Exit->ah->Prop):Exit->Act->World->Prop:=λe a w=>∃s,Q e s/\Rel w0 F0 X n ρ s a w
theorem Rel.eg {K:ah->Prop} {s:ah} {a:Act} {w:World} (aN:Rel w0 F0 X n ρ s a w) (h:eg K s):∃aq,K aq/\Rel w0 F0 X n ρ aq a w:=by
 rcases h with h|⟨l,R,U⟩
 .exact⟨s,h,aN⟩
 .obtain⟨aQ,a2,bQ,F,S,c4⟩:=aN;obtain⟨bC,aF,dR⟩:=c4.Qz R;exact⟨an l,U,aQ,a2,bQ,bC,aF,dR⟩
theorem aP.QB {c:aP} (h:c.strip= .skip):c= .skip\/∃T b,c= .hA T b:=by cases c<;>first|exact .inl rfl|exact .inr ⟨_,_,rfl⟩|cases h
theorem aP.QC {c:aP} (h:c.strip= .ret):c= .ret\/∃T b,c= .hA T b:=by cases c<;>first|exact .inl rfl|exact .inr ⟨_,_,rfl⟩|cases h
theorem aP.QD {c:aP} {i:Nat} (h:c.strip= .exit i):c= .exit i\/∃T b,c= .hA T b:=by cases c<;>first|exact .inl h|exact .inr ⟨_,_,rfl⟩|cases h
theorem aP.QE {c:aP} {x:Code} (h:c.strip= .raw x):c= .raw x\/∃T b,c= .hA T b:=by cases c<;>first|exact .inl h|exact .inr ⟨_,_,rfl⟩|cases h
theorem aP.QF {c:aP} {r:List bG} {k:Option abI} (h:c.strip= .eK r k):(∃ros cY,c= .eK ros cY/\ros.map bG.un=r)\/∃T b,c= .hA T b:=by
 cases c<;>first|(cases h;exact .inl ⟨_,_,rfl,rfl⟩)|exact .inr ⟨_,_,rfl⟩|cases h
theorem aP.QG {c:aP} {r:List bG} {eo:abG} {k:Option abI} (h:c.strip= .ie r eo k):(∃ros I2 cY,c= .ie ros I2 cY/\ros.map bG.un=r/\I2=eo)\/∃T b,c= .hA T b:=by
 cases c<;>first|(cases h;exact .inl ⟨_,_,_,rfl,rfl,rfl⟩)|exact .inr ⟨_,_,rfl⟩|cases h
theorem aP.QH {c x y:aP} (h:c.strip= .seq x y):(∃a b,c= .seq a b/\a.strip=x/\b.strip=y)\/∃T b,c= .hA T b:=by
 cases c<;>first|(cases h;exact .inl ⟨_,_,rfl,rfl,rfl⟩)|exact .inr ⟨_,_,rfl⟩|cases h
theorem aP.QI {c x y:aP} {o:aZ} (h:c.strip= .cond o x y):(∃mg a b,c= .cond mg a b/\mg=o/\a.strip=x/\b.strip=y)\/∃T b,c= .hA T b:=by
 cases c<;>first|(cases h;exact .inl ⟨_,_,_,rfl,rfl,rfl,rfl⟩)|exact .inr ⟨_,_,rfl⟩|cases h
theorem aP.QJ {c x:aP} {i:Nat} (h:c.strip= .block i x):(∃a,c= .block i a/\a.strip=x)\/∃T b,c= .hA T b:=by
 cases c<;>first|(cases h;exact .inl ⟨_,rfl,rfl⟩)|exact .inr ⟨_,_,rfl⟩|cases h
theorem aP.QK {c x:aP} (h:c.strip= .loop x):(∃a,c= .loop a/\a.strip=x)\/∃T b,c= .hA T b:=by
 cases c<;>first|(cases h;exact .inl ⟨_,rfl,rfl⟩)|exact .inr ⟨_,_,rfl⟩|cases h
def qS:Code->List (Array Oper)
 | .region _ ops _=>[ops]
 | .seq a b=>qS a++qS b
 | .cond _ a b=>qS a++qS b
 | .block _ b=>qS b
 | .loop b=>qS b
 |_=>[]
theorem QL (a_:C.Ok) {H:((Exit->ah->Prop)->ah->Prop)->aP->Prop} {ke:List (Array Oper)}
  (hB:∀(c:Code) (T:(Exit->ah->Prop)->ah->Prop) (b:aP) (Q:Exit->ah->Prop) (s:ah) (a:Act) (w:World),(∀r∈qS c,r∈ke)->H T b->fm n c=some b.strip->T Q s->Rel w0 F0 X n ρ s a w->c.wp C.P (o4 w0 F0 X n ρ Q) a w):
  ∀(c:Code) {dO:aP} {Q:Exit->ah->Prop} {s:ah} {a:Act} {w:World},(∀r∈qS c,r∈ke)->fm n c=some dO.strip->dO.bare H->bk C dO Q s->Rel w0 F0 X n ρ s a w->c.wp C.P (o4 w0 F0 X n ρ Q) a w:=by
 intro c;induction c with
 |skip=>
  intro dO Q s a w eV I gD h aN;have jr:=I;simp only[fm,Option.some.injEq]at I;rcases aP.QB I.symm with rfl|⟨T,b,rfl⟩
  .exact wp_skip ⟨s,h,aN⟩
  .exact hB _ T b Q s a w eV gD (by simpa only[aP.strip]using jr) (h Q λ_ _ h=>h) aN
 |region id ops draw=>
  intro dO Q s a w eV I gD h aN;have jr:=I;cases draw with
  |false=>
   simp only[fm]at I;split at I
   rotate_left
   .have fe:=(Option.some.injEq _ _▸I).symm;rcases aP.QE fe with rfl|⟨T,b,rfl⟩
    .exact h.elim
    .exact hB _ T b Q s a w eV gD (by simpa only[aP.strip]using jr) (h Q λ_ _ h=>h) aN
   rename_i QM sj;simp only[Option.some.injEq]at I;rcases aP.QF I.symm with⟨ros,k,rfl,rfl⟩|⟨T,b,rfl⟩
   rotate_left
   .exact hB _ T b Q s a w eV gD (by simpa only[aP.strip]using jr) (h Q λ_ _ h=>h) aN
   cases gD;exact Qn a_ sj (λaq b3 ax ak dA=>dA.eg ak) h aN
  |true=>
   simp only[fm]at I;split at I
   .rename_i J;simp only[Option.map_eq_some_iff]at I;obtain⟨QM,sj,I⟩:=I;rcases aP.QG I.symm with⟨ros,eo,k,rfl,rfl,rfl⟩|⟨T,b,rfl⟩
    rotate_left
    .exact hB _ T b Q s a w eV gD (by simpa only[aP.strip]using jr) (h Q λ_ _ h=>h) aN
    cases gD;refine wp_region_draw λt=>?_;rw[show Region.schedule (C.P.follows .mixedOrders) ops t=Region.linearise .any ops t by simp[Region.schedule,a_.mixed]];exact IJ a_ sj (λaq b3 ax ak dA=>dA.eg ak) _ s a _ (h _ (Qv J t)) (aN.drawn _ (by first|exact le_succ _|exact le_add_right _ _|omega))
   .cases I
 |seq x y QN zi=>
  intro dO Q s a w eV I gD h aN;have jr:=I;simp only[fm]at I;split at I
  .rename_i wy QO ag bh;simp only[Option.some.injEq]at I;rcases aP.QH I.symm with⟨cq,iy,rfl,rfl,rfl⟩|⟨T,b,rfl⟩
   rotate_left
   .exact hB _ T b Q s a w eV gD (by simpa only[aP.strip]using jr) (h Q λ_ _ h=>h) aN
   refine wp_seq (wp_mono (QN (λr aN=>eV r (List.mem_append.2 (.inl aN))) ag gD.1 h aN) ?_);rintro e b3 ax ⟨aq,bz,dA⟩;cases e with
   |normal=>
    obtain⟨aq,bz,dA⟩:=dA.eg bz;exact zi (λr aN=>eV r (List.mem_append.2 (.inr aN))) bh gD.2 bz dA
   |_=>exact⟨aq,bz,dA⟩
  .cases I
 |cond x y z zi I3=>
  intro dO Q s a w eV I gD h aN;have jr:=I;simp only[fm]at I;split at I
  .rename_i wy QO sz ag bh bA;simp only[Option.some.injEq]at I;rcases aP.QI I.symm with⟨cq,iy,mV,rfl,rfl,rfl,rfl⟩|⟨T,b,rfl⟩
   rotate_left
   .exact hB _ T b Q s a w eV gD (by simpa only[aP.strip]using jr) (h Q λ_ _ h=>h) aN
   have dA:=aN;obtain⟨ae,cT,a6,F,S,hrel⟩:=dA;have ay:=(dZ (a:=a) hrel (λ_=>rfl) ag).2;simp only[bk]at h;split at h
   .rename_i eI J;rw[J]at ay;have:=qG ay;refine wp_cond this ?_;split
    .rename_i e;rw[if_pos e]at h;exact zi (λr aN=>eV r (List.mem_append.2 (.inl aN))) bh gD.1 h aN
    .rename_i e;rw[if_neg e]at h;exact I3 (λr aN=>eV r (List.mem_append.2 (.inr aN))) bA gD.2 h aN
   .rename_i J;rw[J]at ay;obtain⟨eI,kS⟩:=He ay;refine wp_cond kS ?_;split
    .exact zi (λr aN=>eV r (List.mem_append.2 (.inl aN))) bh gD.1 h.1 aN
    .exact I3 (λr aN=>eV r (List.mem_append.2 (.inr aN))) bA gD.2 h.2 aN
   .exact h.elim
  .cases I
 |block id b ih=>
  intro dO Q s a w eV I gD h aN;have jr:=I;simp only[fm,Option.map_eq_some_iff]at I;obtain⟨yR,J,I⟩:=I;rcases aP.QJ I.symm with⟨eI,rfl,rfl⟩|⟨T,b,rfl⟩
  rotate_left
  .exact hB _ T b Q s a w eV gD (by simpa only[aP.strip]using jr) (h Q λ_ _ h=>h) aN
  refine wp_block (wp_mono (ih eV J gD h aN) ?_);rintro e b3 ax ⟨aq,bz,dA⟩;cases e with
  |exit i=>
   simp only[ud]at bz;simp only[Exit.inBlock];split
   .rename_i e;rw[if_pos e]at bz;exact⟨aq,bz,dA⟩
   .rename_i e;rw[if_neg e]at bz;exact⟨aq,bz,dA⟩
  |_=>exact⟨aq,bz,dA⟩
 |loop b ih=>
  intro dO Q s a w eV I gD h aN;have jr:=I;simp only[fm,Option.map_eq_some_iff]at I;obtain⟨yR,J,I⟩:=I;rcases aP.QK I.symm with⟨eI,rfl,rfl⟩|⟨T,b,rfl⟩
  rotate_left
  .exact hB _ T b Q s a w eV gD (by simpa only[aP.strip]using jr) (h Q λ_ _ h=>h) aN
  obtain⟨s,h,aN⟩:=aN.eg h;have key:=h (λs=>∀a w,Rel w0 F0 X n ρ s a w->∀(f:Frame) (k:List Item) (cs:List Frame),∃e b3 ax,o4 w0 F0 X n ρ Q e b3 ax/\Arrives C.P (lone (f.at a (.code b:: .inLoop b::k)) cs w) f k cs e b3 ax) ?_
  .intro f k cs;obtain⟨e,b3,ax,cp,qT⟩:=key a w aN f k cs;exact⟨e,b3,ax,cp,.of_steps (.one step_loop) qT⟩
  .intro aq fe a w aN f k cs;obtain⟨e,a₁,w₁,⟨s1,cp,ng⟩,qT⟩:=ih eV J gD fe aN f (.inLoop b::k) cs;cases e with
   |normal=>
    simp only[andThen]at cp;obtain⟨s1,cp,ng⟩:=ng.eg cp;obtain⟨e₂,a₂,w₂,hq₂,harr₂⟩:=cp a₁ w₁ ng f k cs;exact⟨e₂,a₂,w₂,hq₂,.of_steps (Steps.trans qT (.one step_inLoop)) harr₂⟩
   |exit id=>exact⟨_,a₁,w₁,⟨s1,cp,ng⟩,.pass (x:=.inLoop b) rfl (λ_ _=>.inl (by simp)) qT⟩
   |goto l=>exact⟨_,a₁,w₁,⟨s1,cp,ng⟩,.pass (x:=.inLoop b) rfl (λ_ _=>.inl (by simp)) qT⟩
   |ret=>exact⟨_,a₁,w₁,⟨s1,cp,ng⟩,.pass (x:=.inLoop b) rfl (λ_ _=>.inl (by simp)) qT⟩
   |panic aaH=>exact⟨_,a₁,w₁,⟨s1,cp,ng⟩,.pass (x:=.inLoop b) rfl (λ_ _=>.inl (by simp)) qT⟩
   |outgrown=>exact⟨_,a₁,w₁,⟨s1,cp,ng⟩,.pass (x:=.inLoop b) rfl (λ_ _=>.inl (by simp)) qT⟩
 |exit id=>
  intro dO Q s a w eV I gD h aN;have jr:=I;simp only[fm,Option.some.injEq]at I;rcases aP.QD I.symm with rfl|⟨T,b,rfl⟩
  .exact wp_exit ⟨s,h,aN⟩
  .exact hB _ T b Q s a w eV gD (by simpa only[aP.strip]using jr) (h Q λ_ _ h=>h) aN
 |ret=>
  intro dO Q s a w eV I gD h aN;have jr:=I;simp only[fm,Option.some.injEq]at I;rcases aP.QC I.symm with rfl|⟨T,b,rfl⟩
  .exact wp_ret ⟨s,h,aN⟩
  .exact hB _ T b Q s a w eV gD (by simpa only[aP.strip]using jr) (h Q λ_ _ h=>h) aN
 |_=>intro dO Q s a w eV I;simp[fm]at I
theorem CN (a_:C.Ok) {H:((Exit->ah->Prop)->ah->Prop)->aP->Prop}
  (hB:∀(c:Code) (T:(Exit->ah->Prop)->ah->Prop) (b:aP) (Q:Exit->ah->Prop) (s:ah) (a:Act) (w:World),H T b->fm n c=some b.strip->T Q s->Rel w0 F0 X n ρ s a w->c.wp C.P (o4 w0 F0 X n ρ Q) a w):
  ∀(c:Code) {dO:aP} {Q:Exit->ah->Prop} {s:ah} {a:Act} {w:World},fm n c=some dO.strip->dO.bare H->bk C dO Q s->Rel w0 F0 X n ρ s a w->c.wp C.P (o4 w0 F0 X n ρ Q) a w:=
 λc _ _ _ _ _ I J h aN=>QL a_ (λc T b Q s a w _ fg I h aN=>hB c T b Q s a w fg I h aN) c (λ_ aN=>aN) I J h aN
theorem QP (a_:C.Ok) (c:Code) {dO:aP} {Q:Exit->ah->Prop} {s:ah} {a:Act} {w:World} (I:fm n c=some dO.strip) (J:dO.bare (λ_ _=>False)) (h:bk C dO Q s) (aN:Rel w0 F0 X n ρ s a w):c.wp C.P (o4 w0 F0 X n ρ Q) a w:=
 CN a_ (λ_ _ _ _ _ _ _ a6=>a6.elim) c I J h aN
end
def h2:ResultVar->Nat
 | .tmp t=>t
 | .cell a _=>a
def n3 (C:bI) (s:ah):ResultVar->Option j
 | .tmp t=>if(s t).tree=true then(match s t with| .tuple _=>none|d=>some d)else none
 | .cell a T=>match s a with
   | .aD d=>if fits C T d=true/\d.tree=true then some d else none
   |_=>none
def CO (C:bI) (fx:abI) (dM:List ResultVar) (r:j) (outs:abN) (s:ah):Prop:=
 ∃ds,dM.map (n3 C s)=ds.map some/\r=(match ds with|[d]=>d|ds=>.tuple ds)/\(dM.map h2).Nodup/\
  ∀(i:Nat) (o:j),outs[i]? =some o->o= .hole\/(o=s i/\o.fv=true/\i∈fx/\i∉dM.map h2)
def Ends (C:bI) (fx:abI) (dM:List ResultVar) (r:j) (outs:abN) (s:ah):Prop:=
 CO C fx dM r outs s\/∃t y q d s1,s t= .h y q/\cg s (.h y q)=some (d,s1)/\CO C fx dM r outs (fin s1 (some t) d)
theorem bu.takes {w0 w:World} {F0 X F:Nat->Prop} {S:Nat->Nat->Prop} {s s1:ah} {ao:Nat->Value} {t y:Nat} {q:abI} {d:j} (aN:bu w0 F0 X F S s ao w) (R:s t= .h y q) (U:cg s (.h y q)=some (d,s1)):
  ∃aF,bu w0 F0 X F aF (cW.fin s1 (some t) d) ao w:=by
 have I:=aN.cK t;rw[R,aB]at I;obtain⟨bJ,k0,bU,cc,Sn,de,cQ,dT,dH,hx,_⟩:=mU aN (av:=.h y q) (v:=ao t) rfl (by rw[aB];exact I) U;obtain⟨aF,bz⟩:=k0.fin (.inr ⟨bU,cc,Sn,de,cQ,dT,dH,hx⟩) (some t);refine⟨aF,?_⟩;have e:pS ao (some t) (ao t)=ao:=by
  funext u;simp only[pS,ck];split
  .rename_i h;rw[h]
  .rfl
 rwa [e]at bz
section
variable {C:bI} {w0 w:World} {F0 X F:Nat->Prop} {S:Nat->Nat->Prop} {s:ah} {tmps:Array Value}
theorem I4 {d:j} {x:Value} (ae:∀vs,d≠.tuple vs) (h:c0 d x):bR x=gS x/\g_ d x:=by
 have:g_ d x:=by cases d<;>first|exact h|exact(ae _ rfl).elim
 refine⟨?_,this⟩;cases d<;>first
  |(obtain⟨a,rfl⟩:=this;rfl)
  |(simp only[g_]at this
    rw[fM this];cases x<;>first|rfl|(simp[Value.ft]at this))
def wU (tmps:Array Value):ResultVar->Sem Value
 | .tmp t=>pure (tmps.getD t undef)
 | .cell a t=>do loadVar t (<-asAddr (tmps.getD a undef))
theorem QQ (a_:C.Ok) (h:bu w0 F0 X F S s (λt=>tmps.getD t undef) w) {v:ResultVar} {d:j} (ay:n3 C s v=some d):
  ∃x,(wU tmps v).run C.P w= .ok x w/\d.tree=true/\(∀vs,d≠.tuple vs)/\c0 d x/\ai w F d (bR x) (S (h2 v)):=by
 cases v with
 |tmp t=>
  simp only[n3]at ay;split at ay
  .rename_i aL;have lK:(∀vs,s t≠.tuple vs)/\d=s t:=by
    cases I:s t<;>rw[I]at ay<;>simp only at ay<;>first
     |(cases ay;done)
     |(simp only[Option.some.injEq]at ay;exact⟨(λ_ h=>by cases h),ay.symm⟩)
   obtain⟨lK,rfl⟩:=lK;obtain⟨aQ,a2⟩:=(aB.b4 aL).1 (h.cK t);exact⟨_,by simp[wU],aL,lK,aQ,a2⟩
  .cases ay
 |cell a T=>
  simp only[n3]at ay;split at ay
  .rename_i e I;split at ay
   .rename_i QR;obtain⟨gV,QS⟩:=QR;simp only[Option.some.injEq]at ay;subst ay;have hz:=h.cK a;rw[I]at hz;obtain⟨aQ,a2⟩:=(aB.b4 (d:=.aD e) rfl).1 hz;rw[fM aQ,ai]at a2;obtain⟨b,cur,ty,fr,aF,bU,cc,de,cQ,dT,dH,hx⟩:=a2;simp only[List.cons.injEq,and_true]at bU;have gR:Rd w b 0 cur.toList:=by
     have:=tE de cur.size
     rwa [List.take_of_length_le (by simp)]at this
    obtain⟨x,dK,bL,eZ⟩:=yH (C:=C) a_ gR dT gV;refine⟨x,?_,QS,?_,eZ,?_⟩
    .simp only[wU];rw[bU];simpa [asAddr]using dK
    .intro vs dY;subst dY;unfold fits at gV;split at gV<;>simp_all
    .rw[bL];exact ai.mono (λ_ h=>h) _ _ _ _ dH dT
   .cases ay
  .cases ay
theorem QT (a_:C.Ok) (h:bu w0 F0 X F S s (λt=>tmps.getD t undef) w):∀(dM:List ResultVar) (ds:abN),dM.map (n3 C s)=ds.map some->(dM.map h2).Nodup->
  ∃xs,(dM.mapM (wU tmps)).run C.P w= .ok xs w/\xs.length=ds.length/\aS w F ds (xs.flatMap gS) (λb=>∃t∈dM.map h2,S t b)/\
   ∀(k:Nat) (d:j) (x:Value),ds[k]? =some d->xs[k]? =some x->c0 d x/\(∀vs,d≠.tuple vs)/\(gS x).length=d.wd/\bR x=gS x/\d.tree=true:=by
 intro dM;induction dM with
 |nil=>
  intro ds he _;have:ds=[]:=by simpa using he.symm
  subst this;exact⟨[],by simp,rfl,by simp only[List.flatMap_nil];rw[aS],λk d x ae=>by simp at ae⟩
 |cons v dM ih=>
  intro ds he o5;cases ds with
  |nil=>simp at he
  |cons d ds=>
   simp only[List.map_cons,List.cons.injEq]at he;simp only[List.map_cons,List.nodup_cons]at o5;obtain⟨x,dK,rt,bL,eZ,cy⟩:=QQ a_ h he.1;obtain⟨xs,gb,fC,iR,hI⟩:=ih ds he.2 o5.2;obtain⟨aK,aV⟩:=I4 bL eZ;refine⟨x::xs,by simp[List.mapM_cons,dK,gb],by simp[fC],?_,?_⟩
   .simp only[List.flatMap_cons];rw[aS];rw[aK]at cy;refine⟨gS x,xs.flatMap gS,S (h2 v),λb=>∃t∈dM.map h2,S t b,rfl,cy,iR,λb J=>⟨h2 v,by simp,J⟩,?_,?_⟩
    .rintro b ⟨t,aL,J⟩;exact⟨t,by simp[aL],J⟩
    .rintro b J ⟨t,aL,kS⟩;have:t≠h2 v:=λe=>o5.1 (e▸aL);exact h.ev t (h2 v) b this kS J
   .intro k bb cq ae ag;cases k with
    |zero=>
     simp at ae ag;subst ae ag;refine⟨eZ,bL,?_,aK,rt⟩;rw[<-aK];exact ai.length _ _ _ cy
    |succ k=>exact hI k bb cq (by simpa using ae) (by simpa using ag)
theorem CP (a_:C.Ok) {f:FuncId} {fn:Func} {c:Code} {fx:abI} {as outs:abN} {r:j} (a6:C.P.funcs[f]? =some fn) (J:fn.body=some c)
  (je:(fn.name== "runtime.NumGoroutine")=false) (a7:as.length<=fn.ntmps)
  {w:World} {F X:Nat->Prop} {S:Nat->Nat->Prop} {vs:abL} (hl:vs.length=as.length) (aN:bu w F X F S (fc as) (fU vs) w)
  (CQ:∀a,Rel w F X ⟨fn.ntmps,fx⟩ (fU vs) (fc as) a w->(∀t,a.tmps.getD t undef=fU vs t)->c.wp C.P (o4 w F X ⟨fn.ntmps,fx⟩ (fU vs) (λe s=>(e= .normal\/e= .ret)/\eg (Ends C fx fn.results.toList r outs) s)) a w):
  mh C.P f vs.toArray w λv ax=>∃bC aF,bu w F X bC aF (fc (r::outs)) (fU (v::vs)) ax:=by
 have lJ:(vs.toArray++Array.replicate (fn.ntmps-vs.toArray.size) undef).size=fn.ntmps:=by simp;omega
 have du:(λt=>(vs.toArray++Array.replicate (fn.ntmps-vs.toArray.size) undef).getD t undef)=fU vs:=by
  funext t;simp only[fU,Array.getD_eq_getD_getElem?,List.getD_eq_getElem?_getD];by_cases aL:t<vs.length
  .rw[Array.getElem?_append_left (by simpa using aL)];simp
  .rw[Array.getElem?_append_right (by simpa using aL)];rw[List.getElem?_eq_none (by omega)];simp only[Array.getElem?_replicate];split<;>rfl
 have hrel:Rel w F X ⟨fn.ntmps,fx⟩ (fU vs) (fc as) {tmps:=vs.toArray++Array.replicate (fn.ntmps-vs.toArray.size) undef,defers:=[]} w:=
  ⟨rfl,lJ,λi _=>congrFun du i,F,S,by rw[du];exact aN⟩
 have CR:fn.name≠ "runtime.NumGoroutine" :=by simpa using je
 refine .inl ⟨by simp[callFunc,a6,CR,J],calls_of_wp a6 J (wp_mono (CQ _ hrel (congrFun du)) ?_)⟩;rintro e b3 ax ⟨aq,⟨he,QU⟩,QV⟩;obtain⟨aq,⟨ds,ib,I5,o5,rK⟩,ae,cT,gq,bC,aF,dA⟩:∃aq,CO C fx fn.results.toList r outs aq/\Rel w F X ⟨fn.ntmps,fx⟩ (fU vs) aq b3 ax:=by
  obtain⟨aq,he,I6⟩:=QV.eg QU;rcases he with he|⟨t,y,q,d,s1,R,U,he⟩
  .exact⟨aq,he,I6⟩
  .obtain⟨aQ,a2,bQ,F,S,c4⟩:=I6;obtain⟨aF,dR⟩:=c4.takes R U;exact⟨_,he,aQ,a2,bQ,F,aF,dR⟩
 obtain⟨xs,gb,fC,iR,hI⟩:=QT a_ dA _ ds ib o5;have QW:(results fn b3.tmps)=(do let vs<-fn.results.mapM (wU b3.tmps);pure (if h:vs.size=1 then vs[0]else .tuple vs)):=by
  unfold results;congr 1
 have rQ:(results fn b3.tmps).run C.P ax= .ok (if h:xs.toArray.size=1 then xs.toArray[0]else .tuple xs.toArray) ax:=by
  rw[QW,Array.mapM_eq_mapM_toList];simp[gb]
 have sk:(r.tree=true/\c0 r (if h:xs.toArray.size=1 then xs.toArray[0]else .tuple xs.toArray)/\
   ai ax bC r (bR (if h:xs.toArray.size=1 then xs.toArray[0]else .tuple xs.toArray)) (λb=>∃t∈fn.results.toList.map h2,aF t b)):=by
  by_cases R:∃d,ds=[d]
  .obtain⟨d,rfl⟩:=R;obtain⟨x,rfl⟩:∃x,xs=[x]:=by
    cases xs with
    |nil=>simp at fC
    |cons x xs=>cases xs with
     |nil=>exact⟨x,rfl⟩
     |cons y bO=>simp at fC
   obtain⟨bU,cc,de,cQ,dT⟩:=hI 0 d x rfl rfl;have QX:d=r:=I5.symm;subst QX;simp only[List.flatMap_cons,List.flatMap_nil,List.append_nil]at iR;rw[aS]at iR;obtain⟨bD,bH,bJ,cS,aK,aV,a1,b6,cH,bT⟩:=iR;rw[aS]at a1;subst a1;simp only[List.append_nil]at aK;subst aK;have ag:(if h:([x]:abL).toArray.size=1 then([x]:abL).toArray[0]else .tuple ([x]:abL).toArray)=x:=by simp
   rw[ag,cQ];exact⟨dT,bU,ai.mono (λ_ h=>h) _ _ _ _ b6 aV⟩
  .have CS:r= .tuple ds:=by
    rw[I5];cases ds with
    |nil=>rfl
    |cons d ds=>cases ds with
     |nil=>exact(R ⟨d,rfl⟩).elim
     |cons e ds=>rfl
   have ag:(if h:xs.toArray.size=1 then xs.toArray[0]else Value.tuple xs.toArray)= .tuple xs.toArray:=by
    rw[dif_neg];intro cT;have:ds.length=1:=by rw[<-fC];simpa using cT
    obtain⟨d,ae⟩:=List.length_eq_one_iff.1 this;exact R ⟨d,ae⟩
   rw[ag,CS];refine⟨rfl,⟨xs.toArray,rfl,by simpa using fC,λk d x ae ag=>?_⟩,?_⟩
   .obtain⟨bU,cc,de,cQ,_⟩:=hI k d x ae (by simpa using ag);exact⟨(I4 cc bU).2,cc,de⟩
   .rw[ai];simpa [bR]using iR
 have post:∀(v:Value),(r.tree=true/\c0 r v/\ai ax bC r (bR v) (λb=>∃t∈fn.results.toList.map h2,aF t b))->∃sd bJ,bu w F X sd bJ (fc (r::outs)) (fU (v::vs)) ax:=by
  rintro v ⟨v1,v2,v3⟩;have CT:∀i,(outs.getD i .hole).fv=true->outs.getD i .hole=aq i/\i∈fx/\i∉fn.results.toList.map h2:=by
   intro i aw;cases br:outs[i]? with
   |none=>simp[List.getD,br,j.fv]at aw
   |some o=>
    have e:outs.getD i .hole=o:=by simp[List.getD,br]
    rw[e]at aw⊢;rcases rK i o br with h|h
    .subst h;simp[j.fv]at aw
    .exact⟨h.1,h.2.2⟩
  refine⟨bC,λt b=>match t with|0=>∃t∈fn.results.toList.map h2,aF t b|i+1=>(outs.getD i .hole).fv=true/\aF i b,dA.fR,dA.gl,dA.eu,?_,?_,?_,?_,?_,dA.old,dA.size,dA.os,dA.tape,dA.output,aN.fL⟩
  .intro t b J;cases t with
   |zero=>obtain⟨t,_,J⟩:=J;exact dA.dD t b J
   |succ i=>exact dA.dD i b J.2
  .intro t b J;cases t with
   |zero=>obtain⟨t,_,J⟩:=J;exact dA.eW t b J
   |succ i=>exact dA.eW i b J.2
  .intro t u b cO J hu;cases t with
   |zero=>
    obtain⟨t,aL,J⟩:=J;cases u with
    |zero=>exact cO rfl
    |succ au=>
     refine dA.ev t au b (λe=>?_) J hu.2;subst e;exact(CT t hu.1).2.2 aL
   |succ i=>
    cases u with
    |zero=>
     obtain⟨t,aL,hu⟩:=hu;refine dA.ev t i b (λe=>?_) hu J.2;subst e;exact(CT t J.1).2.2 aL
    |succ au=>exact dA.ev i au b (by omega) J.2 hu.2
  .intro t b J;cases t with
   |zero=>obtain⟨t,_,J⟩:=J;exact dA.cN t b J
   |succ i=>exact dA.cN i b J.2
  .intro t;cases t with
   |zero=>exact(aB.b4 v1).2 ⟨v2,v3⟩
   |succ i=>
    show aB ax bC (fc (r::outs)) (fU (v::vs)) (outs.getD i .hole) (vs.getD i undef) (λb=>(outs.getD i .hole).fv=true/\aF i b);cases aw:(outs.getD i .hole).fv with
    |false=>
     have:outs.getD i .hole= .hole:=by
      cases br:outs[i]? with
      |none=>simp[List.getD,br]
      |some o=>
       have e:outs.getD i .hole=o:=by simp[List.getD,br]
       rw[e]at aw⊢;rcases rK i o br with h|h
       .exact h
       .rw[h.2.1]at aw;cases aw
     rw[this,aB];trivial
    |true=>
     obtain⟨jV,kx,tX⟩:=CT i aw;have aL:=(p6 aw).2.1;have hz:=dA.cK i;rw[<-jV]at hz;obtain⟨aQ,a2⟩:=(aB.b4 aL).1 hz;have ay:b3.tmps.getD i undef=vs.getD i undef:=gq i kx;rw[ay]at aQ a2;exact(aB.b4 aL).2 ⟨aQ,ai.mono (λ_ h=>h) _ _ _ _ (λb J=>⟨rfl,J⟩) a2⟩
 rcases he with rfl|rfl
 .exact⟨ae,_,rQ,_,rfl,post _ sk⟩
 .exact⟨ae,_,rQ,_,rfl,post _ sk⟩
theorem bx.of_wp (a_:C.Ok) {f:FuncId} {fn:Func} {c:Code} {dO:aP} {fx:abI} {as outs:abN} {r:j} (a6:C.P.funcs[f]? =some fn) (J:fn.body=some c)
  (je:(fn.name== "runtime.NumGoroutine")=false) (I:fm ⟨fn.ntmps,fx⟩ c=some dO.strip) (a7:as.length<=fn.ntmps)
  (h:bk C dO (λe s=>(e= .normal\/e= .ret)/\eg (Ends C fx fn.results.toList r outs) s) (fc as)) (al:dO.plain=true:=by kernel_rfl):bx C f as r outs:=
 λw F X S vs hl aN=>CP a_ a6 J je a7 hl aN λa hrel _=>QP a_ c (by rw[aP.CH];exact I) (aP.CI dO (aP.QA dO al)) (CM dO h) hrel
end
def num:Nat->abN->abM
 |_,[]=>[]
 |k,a::as=>(k,a)::num (k+1) as
theorem QY:∀(as:abN) (k t:Nat),an (num k as) (k+t)=as.getD t .hole:=by
 intro as;induction as with
 |nil=>intro k t;simp[num,an]
 |cons a as ih=>
  intro k t;cases t with
  |zero=>simp[num,an]
  |succ t=>
   have:=ih (k+1) t;simp only[num,an];rw[if_neg (by omega)];rw[show k+(t+1)=k+1+t by omega,this];simp
theorem CU (as:abN):fc as=an (num 0 as):=by
 funext t;have:=QY as 0 t;rw[Nat.zero_add]at this;rw[this];rfl
theorem wV (l:abM) (t:Nat) (d:j):ck (an l) t d=an ((t,d)::l):=by
 funext u;simp only[ck,an]
def p8 (t:Nat):abM->abM
 |[]=>[]
 |(u,d)::l=>(u,ch t d)::p8 t l
def sl (t:Nat):abM->abM
 |[]=>[]
 |(u,d)::l=>(u,bV t d)::sl t l
theorem CV (t:Nat):∀l:abM,kr t (an l)=an (p8 t l):=by
 intro l;funext u;induction l with
 |nil=>rfl
 |cons p l ih=>
  obtain⟨v,d⟩:=p;simp only[kr,an,p8]at ih⊢;split
  .rfl
  .exact ih
theorem I7 (t:Nat):∀l:abM,e_ t (an l)=an (sl t l):=by
 intro l;funext u;induction l with
 |nil=>rfl
 |cons p l ih=>
  obtain⟨v,d⟩:=p;simp only[e_,an,sl]at ih⊢;split
  .rfl
  .exact ih
def fH (k:abI) (s:ah):abM:=k.map λt=>(t,s t)
section
variable {C:bI} {l:abM}
def c9.g1:c9->Bool
 | .call _ _=>true
 | .fT _=>false
 | .k1 _=>false
 | .pick _ _ _=>false
 | .kW _=>false
 | .gK _ _=>false
 | .gm _ _=>false
 | .ef _ _ _=>false
 | .e0 _ _=>false
 | .gp _ _ _=>false
 | .h1 _=>false
 | .el _ _ _ _=>false
 | .un _ _=>false
 | .hJ _ _ _=>false
 | .m6 _ _=>false
 | .d_ _ _ _=>false
 | .fl _ _ _ _=>false
 | .hb _ _ _=>false
 | .iP _ _ _=>false
 | .idx _ _ _=>false
 | .ex _ _=>false
 | .kX _ _ _=>false
 | .len _ _=>false
 | .app _ _ _ _=>false
 | .shr _=>true
 | .h_ _ _ _ _=>false
 | .cap _ _=>false
 | .oX _ _ _=>false
 | .bad=>false
 | .iT _ _ _=>true
 | .kt _ _ _ _=>true
 | .h0 _ _=>false
 | .ext _ _=>false
 | .wB=>false
 | .m5 _ _ _=>false
 | .lI _ _ _ _=>false
variable {Q:Exit->ah->Prop}
def j.wW:j->Bool
 | .tuple _=>true
 |_=>false
theorem Ends.one {fx:abI} {t:Nat} {r:j} {s:ah} (R:s t=r) (U:(r.tree&& !r.wW)=true):Ends C fx [.tmp t] r [] s:=by
 simp only[Bool.and_eq_true,Bool.not_eq_true']at U;obtain⟨U,sm⟩:=U;have aA:∀vs,r≠.tuple vs:=λvs e=>by subst e;simp[j.wW]at sm
 refine .inl ⟨[r],?_,rfl,by simp,λi o h=>by simp at h⟩;have:n3 C s (.tmp t)=some r:=by
  simp only[n3,R,U,if_true];try (cases r<;>first|rfl|exact(aA _ rfl).elim)
 simp only[List.map_cons,List.map_nil,this]
end
section
variable {C:bI} {l:abM} {Q:Exit->ah->Prop}
theorem bx.outs {f:FuncId} {as:abN} {r:j} {jV kx:abN} (h:bx C f as r jV) (he:fc jV=fc kx):bx C f as r kx:=by
 intro w F X S vs hl aN;refine mh.mono (h w F X S vs hl aN) ?_;rintro v ax ⟨bC,aF,bz⟩;refine⟨bC,aF,?_⟩;have:fc (r::kx)=fc (r::jV):=by
  funext t;cases t with
  |zero=>rfl
  |succ t=>exact(congrFun he t).symm
 rw[this];exact bz
def k5:abN->abN->List b_
 |a::as,d::ds=>⟨a,false,d,.hole⟩::k5 as ds
 |_,_=>[]
theorem QZ {s:ah}:∀(as ds:abN),views s as=some ds->(k5 as ds).map (·.a)=as/\(k5 as ds).map (·.d)=ds/\(∀p∈k5 as ds,p.ok s/\p.g=false/\p.o= .hole/\p.a∈as)/\gY (k5 as ds)=true/\
  fc ((k5 as ds).map (·.o))=fc []/\(∀p9,dV p9 (k5 as ds)=p9)/\(∀p9,gd p9 (k5 as ds)=p9):=by
 intro as;induction as with
 |nil=>
  intro ds h;simp only[views,Option.some.injEq]at h;subst h;exact⟨rfl,rfl,(λp al=>by cases al),rfl,rfl,λ_=>rfl,λ_=>rfl⟩
 |cons a as ih=>
  intro ds h;simp only[views]at h;split at h
  .rename_i d Q0 R U;simp only[Option.some.injEq]at h;subst h;obtain⟨aK,aV,a1,b6,cH,bT,bK⟩:=ih Q0 U;refine⟨by simp only[k5,List.map_cons,aK],by simp only[k5,List.map_cons,aV],?_,?_,?_,?_,?_⟩
   .intro p al;simp only[k5,List.mem_cons]at al;rcases al with rfl|al
    .exact⟨by simp only[b_.ok];exact R,rfl,rfl,by simp⟩
    .obtain⟨aQ,a2,bQ,c4⟩:=a1 p al;exact⟨aQ,a2,bQ,by simp[c4]⟩
   .simp only[k5,gY,b6,Bool.and_true,List.all_eq_true];intro p al;simp[(a1 p al).2.1]
   .funext t;cases t with
    |zero=>rfl
    |succ t=>exact(congrFun cH t).trans (by simp[fc])
   .intro p9;exact bT p9
   .intro p9;exact bK p9
  .cases h
end
structure ez where
 bM:abI
 H:abI
 T:abI
 c:Bool
mutual
def j.clean:j->Bool
 | .hole=>false
 | .fn _ cap=>j.uf cap
 |_=>true
def j.uf:abN->Bool
 |[]=>true
 |d::ds=>d.clean&&j.uf ds
end
mutual
theorem I8 {x:Nat}:∀a:j,(bV x a).clean=true->bV x a=a
 | .h y q,h=>by
   simp only[bV]at h⊢;split
   .rename_i e;rw[if_pos e]at h;split
    .rfl
    .rename_i dY;rw[if_neg dY]at h;simp[j.clean]at h
   .rfl
 | .al y q,h=>by
   simp only[bV]at h⊢;split
   .rename_i e;rw[if_pos e]at h;simp[j.clean]at h
   .rfl
 | .J y q,h=>rfl
 | .fn f cap,h=>by simp only[bV,j.clean]at h⊢;rw[I9 cap h]
 | .hole,_=>rfl
 | .bool _,_=>rfl
 | .eF,_=>rfl
 | .int _ _,_=>rfl
 | .str _,_=>rfl
 | .c8,_=>rfl
 | .aJ,_=>rfl
 | .slice _,_=>rfl
 | .ad _ _,_=>rfl
 | .ref _,_=>rfl
 | .aD _,_=>rfl
 | .agg _,_=>rfl
 | .tuple _,_=>rfl
 | .dc _,_=>rfl
 | .eU _ _,_=>rfl
 | .fB _,_=>rfl
theorem I9 {x:Nat}:∀ds:abN,j.uf (hv x ds)=true->hv x ds=ds
 |[],_=>rfl
 |d::ds,h=>by
  simp only[hv,j.uf,Bool.and_eq_true]at h⊢;rw[I8 d h.1,I9 ds h.2]
end
mutual
theorem I_ {x:Nat}:∀a:j,(ch x a).clean=true->ch x a=a
 | .h y q,h=>by
   simp only[ch]at h⊢;split
   .rename_i e;rw[if_pos e]at h;simp[j.clean]at h
   .rfl
 | .al y q,h=>by
   simp only[ch]at h⊢;split
   .rename_i e;rw[if_pos e]at h;simp[j.clean]at h
   .rfl
 | .J y q,h=>by
   simp only[ch]at h⊢;split
   .rename_i e;rw[if_pos e]at h;simp[j.clean]at h
   .rfl
 | .fn f cap,h=>by simp only[ch,j.clean]at h⊢;rw[Ja cap h]
 | .hole,_=>rfl
 | .bool _,_=>rfl
 | .eF,_=>rfl
 | .int _ _,_=>rfl
 | .str _,_=>rfl
 | .c8,_=>rfl
 | .aJ,_=>rfl
 | .slice _,_=>rfl
 | .ad _ _,_=>rfl
 | .ref _,_=>rfl
 | .aD _,_=>rfl
 | .agg _,_=>rfl
 | .tuple _,_=>rfl
 | .dc _,_=>rfl
 | .eU _ _,_=>rfl
 | .fB _,_=>rfl
theorem Ja {x:Nat}:∀ds:abN,j.uf (hW x ds)=true->hW x ds=ds
 |[],_=>rfl
 |d::ds,h=>by
  simp only[hW,j.uf,Bool.and_eq_true]at h⊢;rw[I_ d h.1,Ja ds h.2]
end
theorem Q1 {k:oZ} {x:Nat} {a:j} (h:(k.app x a).clean=true):k.app x a=a:=by
 cases k with
 |no=>rfl
 |bV=>exact I8 a h
 |ch=>exact I_ a h
theorem Q2:∀(ms:List fN) (u:Nat) (a:j),(∀m∈ms,m.x≠u)->(iU ms u a).clean=true->iU ms u a=a:=by
 intro ms;induction ms with
 |nil=>intros;rfl
 |cons m ms ih=>
  intro u a ag aj;simp only[iU]at aj⊢;have e:=ih u _ (λed n4=>ag ed (by simp[n4])) aj;have hm:m.at u a=m.k.app m.x a:=by
   simp only[fN.at];rw[if_neg (λe=>ag m (by simp) e.symm)]
  rw[e,hm];rw[e,hm]at aj;exact Q1 aj
theorem Q3:∀(ms:List fN) (u:Nat) (a:j),(∀m∈ms,m.x≠u/\m.x∉a.I)->iU ms u a=a:=by
 intro ms;induction ms with
 |nil=>intros;rfl
 |cons m ms ih=>
  intro u a ag;simp only[iU];have hm:m.at u a=a:=by
   simp only[fN.at];rw[if_neg (λe=>(ag m (by simp)).1 e.symm)];exact wF (.inr (ag m (by simp)).2)
  rw[hm];exact ih u a λed n4=>ag ed (by simp[n4])
theorem Q4 (m:fN):∀(ms:List fN) (u:Nat) (a:j),(∀ed∈ms,ed.x≠m.x/\ed.x∉m.d.I/\m.x∉ed.d.I)->iU ms u (m.at u a)=m.at u (iU ms u a):=by
 intro ms;induction ms with
 |nil=>intros;rfl
 |cons n ms ih=>
  intro u a ag;simp only[iU];have a7:=ag n (by simp);have aj:n.at u (m.at u a)=m.at u (n.at u a):=by
   simp only[fN.at];by_cases aK:u=n.x
   .subst aK;rw[if_pos rfl,if_neg a7.1,if_pos rfl];exact(wF (.inr a7.2.2)).symm
   .rw[if_neg aK];by_cases aV:u=m.x
    .subst aV;rw[if_pos rfl,if_pos rfl];exact wF (.inr a7.2.1)
    .rw[if_neg aV,if_neg aK,if_neg aV];exact Pk _ _ _ _ _
  rw[aj];exact ih u _ λed n4=>ag ed (by simp[n4])
theorem Q5:∀(ms jU:List fN) (s:ah),(∀m∈ms,∀n∈jU,n.x≠m.x/\n.x∉m.d.I/\m.x∉n.d.I)->cU jU (cU ms s)=cU ms (cU jU s):=by
 intro ms;induction ms with
 |nil=>intros;rfl
 |cons m ms ih=>
  intro jU s h;have e:∀s,cU (m::ms) s=cU ms (cU [m] s):=λs=>ku [m] ms s;rw[e,e,ih jU _ (λed n4=>h ed (by simp[n4]))];congr 1;funext u;simp only[cU,iU];exact Q4 m jU u _ (h m (by simp))
def Jb (C:bI) (s:ah) (f:aZ) (args:List aZ) (K:abI->j->ah->Prop):Prop:=
 ∃(g:FuncId) (caps:abN) (ps:List b_) (r:j),aX s f= .fn g caps/\j.dF caps=true/\ps.map (·.a)=args.map (aX s)++caps/\(∀p∈ps,p.ok s)/\gY ps=true/\
   bx C g (ps.map (·.d)) r (ps.map (·.o))/\r.res=true/\(iD ps=true->r.cL=true/\∀p∈ps,p.o.cL=true)/\K (j.dv ((ps.filter (·.g)).map (·.a))) r (gd (dV s ps) ps)
def kg (C:bI) (s:ah) (bp:c9) (K:abI->j->ah->Prop):Prop:=
 match bp with
 | .call f args=>∃(g:FuncId) (caps:abN) (ps:List b_) (r:j),aX s f= .fn g caps/\j.dF caps=true/\ps.map (·.a)=args.map (aX s)++caps/\(∀p∈ps,p.ok s)/\gY ps=true/\
   bx C g (ps.map (·.d)) r (ps.map (·.o))/\r.res=true/\(iD ps=true->r.cL=true/\∀p∈ps,p.o.cL=true)/\K (j.dv ((ps.filter (·.g)).map (·.a))) r (gd (dV s ps) ps)
 | .shr bp=>∃av s1,bE C s bp=some (av,s1)/\av.tree=true/\(∀vs,av≠.tuple vs)/\K (kc s bp) av.share s1
 | .iT f args us=>jq s (hj s us)=true/\Jb C s f args λcg av s1=>jq s1 (hj s us)=true/\K (us++cg) av (jc s1 (hj s us))
 | .kt T x y u=>k3 s (aX s x) (s u)=true/\∃s1,gp C s T (aX s x) (aX s y)=some s1/\K (u::((aX s x).I++(aX s y).I)) .hole (jc s1 [(u,s u)])
 |bp=>∃av s1,bE C s bp=some (av,s1)/\K (kc s bp) av s1
def hC (s:ah) (bM:abI) (dst:Option Nat) (cg:abI) (av:j):ez:=
 ⟨bM,bM.flatMap (λu=>(s u).I)++av.I,dst.toList++cg,bM.all λu=>(s u).clean⟩
def jf (C:bI) (s:ah) (o:bG) (K:ez->ah->Prop):Prop:=
 match o.guard with
 |none=>kg C s o.bp λcg av s1=>K (hC s (use s o.bp) o.dst cg av) (fin s1 o.dst av)
 |some (t,b)=>match s t with
  | .bool eI=>if eI=b then kg C s o.bp (λcg av s1=>K (hC s (t::use s o.bp) o.dst cg av) (fin s1 o.dst av))else K (hC s [t] o.dst [] (.tuple [])) (fin s o.dst (.tuple []))
  | .tuple []=>K (hC s [t] o.dst [] (.tuple [])) (fin s o.dst (.tuple []))
  |_=>False
def n5:Option (List ez)->ez->Option (List ez)
 |none,_=>none
 |some l,f=>some (f::l)
def cm (C:bI) (s:ah):List bG->Option (List ez)->(Option (List ez)->ah->Prop)->Prop
 |[],acc,K=>K acc s
 |o::os,acc,K=>jf C s o λf s1=>cm C s1 os (n5 acc f) K
section
variable {C:bI}
theorem Jc {s:ah} {bp:c9} {K:abI->j->ah->Prop} {cR:j->ah->Prop} (ak:∀cg av s,K cg av s->cR av s) (h:kg C s bp K):nb C s bp cR:=by
 cases bp with
 |call f args=>
  obtain⟨g,caps,ps,r,R,fG,U,aA,aU,bt,b5,cd,dQ⟩:=h;exact⟨g,caps,ps,r,R,fG,U,aA,aU,bt,b5,cd,ak _ _ _ dQ⟩
 |iT f args us=>
  obtain⟨cc,g,caps,ps,r,R,fG,U,aA,aU,bt,b5,cd,dQ,gQ⟩:=h;exact⟨cc,g,caps,ps,r,R,fG,U,aA,aU,bt,b5,cd,dQ,ak _ _ _ gQ⟩
 |kt T x y u=>obtain⟨bU,s1,R,U⟩:=h;exact⟨bU,s1,R,ak _ _ _ U⟩
 |shr bp=>
  obtain⟨av,s1,R,U,aA,aU⟩:=h;exact⟨av,s1,R,U,aA,ak _ _ _ aU⟩
 |_=>
  obtain⟨av,s1,R,U⟩:=h;exact⟨av,s1,R,ak _ _ _ U⟩
theorem Q6 {s:ah} {o:bG} {K:ez->ah->Prop} {cR:ah->Prop} (ak:∀f s,K f s->cR s) (h:jf C s o K):kB C s o cR:=by
 unfold jf at h;unfold kB;split
 .rename_i bm;rw[bm]at h;exact Jc (λ_ _ _=>ak _ _) h
 .rename_i t b bm;rw[bm]at h;simp only at h;split
  .rename_i eI I;rw[I]at h;simp only at h;split
   .rename_i J;rw[if_pos J]at h;exact Jc (λ_ _ _=>ak _ _) h
   .rename_i J;rw[if_neg J]at h;exact ak _ _ h
  .rename_i I;rw[I]at h;exact ak _ _ h
  .rename_i R U;split at h
   .exact R _ (by assumption)
   .exact U (by assumption)
   .exact h
theorem ug {K:ah->Prop}:∀{ros:List bG} {s:ah} {acc:Option (List ez)} {cR:Option (List ez)->ah->Prop},(∀a s,cR a s->K s)->cm C s ros acc cR->ic C s ros K:=by
 intro ros;induction ros with
 |nil=>intro s acc cR ak h;exact ak _ _ h
 |cons o ros ih=>intro s acc cR ak h;exact Q6 (λf s h=>ih ak h) h
theorem Jd {q:abI} {a d:j} (h:j.sub q a=some d) (cp:q≠[]\/d.I=[]):a.I=[]:=by
 cases q with
 |nil=>
  simp only[j.sub,Option.some.injEq]at h;subst h;exact cp.resolve_left (λe=>e rfl)
 |cons k q=>cases a<;>first|rfl|(simp[j.sub]at h)
def zj (s:ah) (p:b_) (e:j->Prop):Prop:=p.g=true->∃x q d,p.a= .h x q/\j.sub q (s x)=some d/\e d/\(p.o= .hole\/p.o.fv=true)
theorem Je {d:j} (h:d.fv=true):d.I=[]:=Is (p6 h).2.1
theorem Jf {d:j} (h:d.fv=true):d.cf.I=[]:=by cases d<;>first|rfl|(simp[j.fv]at h)
theorem Jg {p:b_} {ps:List b_} (h:gY (p::ps)=true):gY ps=true/\∀b7∈ps,(p.g=true\/b7.g=true)->∀u∈p.a.I,u∉b7.a.I:=by
 simp only[gY,Bool.and_eq_true,List.all_eq_true,Bool.or_eq_true,Bool.not_eq_true']at h;refine⟨h.2,λb7 dp bm u hu=>?_⟩;rcases h.1 b7 dp with e|e
 .rcases bm with bm|bm<;>simp[bm]at e
 .simpa using e u hu
def o6 (ps:List b_):abI:=j.dv ((ps.filter (·.g)).map (·.a))
theorem uh (p:b_) (ps:List b_):(∀u∈o6 ps,u∈o6 (p::ps))/\(p.g=true->∀u∈p.a.I,u∈o6 (p::ps)):=by
 unfold o6;by_cases bm:p.g=true
 .simp only[List.filter_cons,bm,if_true,List.map_cons,j.dv,List.mem_append];exact⟨λu h=>.inr h,λ_ u h=>.inl h⟩
 .simp only[List.filter_cons,bm];exact⟨λu h=>h,λh=>by simp at h⟩
theorem Q7 {p:b_} {ps:List b_} (h:p∈ps):∀u∈p.a.I,u∈j.dv (ps.map (·.a)):=by
 induction ps with
 |nil=>cases h
 |cons b7 ps ih=>
  intro u hu;simp only[List.map_cons,j.dv,List.mem_append];rcases List.mem_cons.1 h with rfl|h
  .exact .inl hu
  .exact .inr (ih h u hu)
theorem Q8:∀(ps:List b_) (s:ah),(∀p∈ps,zj s p (λd=>d=p.d/\p.d.fv=true))->gY ps=true->
  (∃ms:List fN,(∀m∈ms,m.x∈o6 ps/\m.d.I=[])/\∀aq,cP (j.dv (ps.map (·.a))) aq s->dV aq ps=cU ms aq)/\∀p∈ps,zj (dV s ps) p (λd=>d=p.d.cf/\p.d.fv=true):=by
 intro ps;induction ps with
 |nil=>intro s _ _;exact⟨⟨[],by simp,λaq _=>rfl⟩,λp al=>by cases al⟩
 |cons p ps ih=>
  intro s bm jb;obtain⟨nV,m8⟩:=Jg jb;by_cases k6:p.g=true
  .obtain⟨x,q,d,b8,I,⟨rfl,ae⟩,br⟩:=bm p (by simp) k6;have hV:(j.put q p.d.cf (s x)).I=[]:=tV q _ _ _ I (.inl (p6 ae).1) λ_=>Jf ae;have wX:∀aq:ah,aq x=s x->p.take aq=cU [⟨.bV,x,j.put q p.d.cf (s x)⟩] aq:=by
    intro aq e;simp only[b_.take,k6,if_true,b8,e,r9]
   have cO:∀b7∈ps,∀cq h9,b7.a= .h cq h9->cq≠x:=by
    intro b7 dp cq h9 e dY;have:=m8 b7 dp (.inl k6) x (by simp[b8,j.I]);rw[e,dY]at this;simp[j.I]at this
   have qP:∀cq,cq≠x->(s cq).I=[]->cU [⟨.bV,x,j.put q p.d.cf (s x)⟩] s cq=s cq:=by
    intro cq mZ bq;simp only[cU,iU,fN.at];rw[if_neg mZ];exact wF (.inr (by rw[bq];simp))
   obtain⟨⟨ms,ee,fb⟩,gy⟩:=ih (cU [⟨.bV,x,j.put q p.d.cf (s x)⟩] s) (λb7 dp CW=>by
    obtain⟨cq,h9,bb,sc,fe,gj,wY⟩:=bm b7 (by simp[dp]) CW;refine⟨cq,h9,bb,sc,?_,gj,wY⟩;rw[qP cq (cO b7 dp cq h9 sc) (Jd fe (.inr (by rw[gj.1];exact Je gj.2)))];exact fe) nV
   refine⟨⟨[⟨.bV,x,j.put q p.d.cf (s x)⟩]++ms,?_,?_⟩,?_⟩
   .intro m hm;rcases List.mem_append.1 hm with hm|hm
    .simp only[List.mem_singleton]at hm;subst hm;exact⟨(uh p ps).2 k6 x (by simp[b8,j.I]),hV⟩
    .exact⟨(uh p ps).1 _ (ee m hm).1,(ee m hm).2⟩
   .intro aq fe;simp only[List.map_cons,j.dv]at fe;have e:aq x=s x:=fe x (by simp[b8,j.I]);rw[ku];show dV (p.take aq) ps=_;rw[wX aq e];exact fb _ (cP.cU fe.right _)
   .have aK:dV s (p::ps)=dV (cU [⟨.bV,x,j.put q p.d.cf (s x)⟩] s) ps:=by
     show dV (p.take s) ps=_;rw[wX s rfl]
    rw[aK];intro b7 dp;rcases List.mem_cons.1 dp with rfl|dp
    .intro _;refine⟨x,q,b7.d.cf,b8,?_,⟨rfl,ae⟩,br⟩;have ay:cU [⟨.bV,x,j.put q b7.d.cf (s x)⟩] s x=j.put q b7.d.cf (s x):=by
      simp only[cU,iU,fN.at,if_true]
     rw[Cq (by rw[ay];exact hV) (λQ9 Q_ aaI=>?_),ay]
     .exact y3 q _ _ _ I
     .exact m8 Q9 Q_ (.inl k6) x (by simp[b8,j.I])
    .exact gy b7 dp
  .have wX:∀aq:ah,p.take aq=aq:=by intro aq;simp only[b_.take,k6];rfl
   obtain⟨⟨ms,ee,fb⟩,gy⟩:=ih s (λb7 dp=>bm b7 (by simp[dp])) nV;refine⟨⟨ms,λm hm=>⟨(uh p ps).1 _ (ee m hm).1,(ee m hm).2⟩,?_⟩,?_⟩
   .intro aq fe;simp only[List.map_cons,j.dv]at fe;show dV (p.take aq) ps=_;rw[wX];exact fb aq fe.right
   .intro b7 dp;have aK:dV s (p::ps)=dV s ps:=by show dV (p.take s) ps=_;rw[wX]
    rw[aK];rcases List.mem_cons.1 dp with rfl|dp
    .intro h;exact(k6 h).elim
    .exact gy b7 dp
theorem Ra:∀(ps:List b_) (s:ah),(∀p∈ps,zj s p (λd=>d=p.d.cf/\p.d.fv=true))->gY ps=true->
  (∃ms:List fN,(∀m∈ms,m.x∈o6 ps/\m.d.I=[])/\∀aq,cP (j.dv (ps.map (·.a))) aq s->gd aq ps=cU ms aq):=by
 intro ps;induction ps with
 |nil=>intro s _ _;exact⟨[],by simp,λaq _=>rfl⟩
 |cons p ps ih=>
  intro s bm jb;obtain⟨nV,m8⟩:=Jg jb;by_cases k6:p.g=true/\p.o≠.hole
  .obtain⟨k6,Rb⟩:=k6;obtain⟨x,q,d,b8,I,⟨rfl,ae⟩,br⟩:=bm p (by simp) k6;have br:p.o.fv=true:=br.resolve_left Rb;have hV:(j.put q p.o (s x)).I=[]:=by
    cases q with
    |nil=>simp only[j.put];exact Je br
    |cons k q=>exact tV _ _ _ _ I (.inr (by simp)) (by simp)
   have CX:∀aq:ah,aq x=s x->p.hy aq=cU [⟨.ch,x,j.put q p.o (s x)⟩] aq:=by
    intro aq e;simp only[b_.hy,k6,if_true,b8];rw[e,H2]
   have cO:∀b7∈ps,∀cq h9,b7.a= .h cq h9->cq≠x:=by
    intro b7 dp cq h9 e dY;have:=m8 b7 dp (.inl k6) x (by simp[b8,j.I]);rw[e,dY]at this;simp[j.I]at this
   obtain⟨ms,ee,fb⟩:=ih (cU [⟨.ch,x,j.put q p.o (s x)⟩] s) (λb7 dp CW=>by
    obtain⟨cq,h9,bb,sc,fe,gj,wY⟩:=bm b7 (by simp[dp]) CW;refine⟨cq,h9,bb,sc,?_,gj,wY⟩;have bq:=Jd fe (.inr (by rw[gj.1];exact Jf gj.2));have qP:cU [⟨.ch,x,j.put q p.o (s x)⟩] s cq=s cq:=by
     simp only[cU,iU,fN.at];rw[if_neg (cO b7 dp cq h9 sc)];exact wF (.inr (by rw[bq];simp))
    rw[qP];exact fe) nV
   refine⟨[⟨.ch,x,j.put q p.o (s x)⟩]++ms,?_,?_⟩
   .intro m hm;rcases List.mem_append.1 hm with hm|hm
    .simp only[List.mem_singleton]at hm;subst hm;exact⟨(uh p ps).2 k6 x (by simp[b8,j.I]),hV⟩
    .exact⟨(uh p ps).1 _ (ee m hm).1,(ee m hm).2⟩
   .intro aq fe;simp only[List.map_cons,j.dv]at fe;have e:aq x=s x:=fe x (by simp[b8,j.I]);rw[ku];show gd (p.hy aq) ps=_;rw[CX aq e];exact fb _ (cP.cU fe.right _)
  .have CX:∀aq:ah,p.hy aq=aq:=by
    intro aq;unfold b_.hy;split
    .rename_i fF;have:p.o= .hole:=by
      by_cases h:p.o= .hole
      .exact h
      .exact(k6 ⟨fF,h⟩).elim
     rw[this]
    .rfl
   obtain⟨ms,ee,fb⟩:=ih s (λb7 dp=>bm b7 (by simp[dp])) nV;refine⟨ms,λm hm=>⟨(uh p ps).1 _ (ee m hm).1,(ee m hm).2⟩,?_⟩;intro aq fe;simp only[List.map_cons,j.dv]at fe;show gd (p.hy aq) ps=_;rw[CX];exact fb aq fe.right
theorem Rc {s aq:ah}:∀(a:j) (d:j),cP a.I aq s->view s a=some d->view aq a=some d:=by
 intro a d h;have:=Cs (s:=s) (aq:=aq) a d;intro ay;cases a with
 |h x q=>simp only[view]at ay⊢;rw[h x (by simp[j.I])];exact ay
 |al x q=>simp only[view]at ay⊢;rw[h x (by simp[j.I])];exact ay
 |fn f cap=>
  refine this (λu hu _=>h u hu) ay
 |_=>exact ay
theorem Re {p:b_} {s aq:ah} (h:cP p.a.I aq s) (eP:p.ok s):p.ok aq:=by
 unfold b_.ok at eP⊢;split
 .rename_i bm;rw[if_pos bm]at eP;cases b8:p.a with
  |h x q=>
   rw[b8]at eP;simp only at eP⊢;rw[h x (by simp[b8,j.I])];exact eP
  |_=>rw[b8]at eP;exact eP.elim
 .rename_i bm;rw[if_neg bm]at eP;exact Rc _ _ h eP
def zk (C:bI) (o:bG) (s:ah) (js:ez) (ms:List fN):Prop:=
 (∀aq,cP js.bM aq s->∀K:ah->Prop,K (cU ms aq)->kB C aq o K)/\(∀m∈ms,m.x∈js.T/\∀u∈m.d.I,u∈js.H)/\(∀u∈js.bM,∀x∈(s u).I,x∈js.H)/\(js.c=true->∀u∈js.bM,(s u).clean=true)
theorem Jh (dst:Option Nat) (av:j):∃ms:List fN,(∀m∈ms,m.x∈dst.toList/\m.d=av)/\∀s1:ah,fin s1 dst av=cU ms s1:=by
 cases dst with
 |none=>exact⟨[],by simp,λs=>rfl⟩
 |some t=>
  simp only[fin];by_cases h:av.plain=true
  .exact⟨[⟨.no,t,av⟩],by simp,λs=>by rw[if_pos h,H3]⟩
  .exact⟨[⟨.ch,t,av⟩],by simp,λs=>by rw[if_neg h,H2]⟩
theorem zl {s:ah} {bM:abI} {dst:Option Nat} {cg:abI} {av:j}:(∀u∈(hC s bM dst cg av).bM,∀x∈(s u).I,x∈(hC s bM dst cg av).H)/\((hC s bM dst cg av).c=true->∀u∈(hC s bM dst cg av).bM,(s u).clean=true):=by
 refine⟨λu hu x ag=>?_,λaj=>?_⟩
 .simp only[hC,List.mem_append,List.mem_flatMap];exact .inl ⟨u,hu,ag⟩
 .simp only[hC,List.all_eq_true]at aj;exact aj
theorem Ji {s:ah} {f:aZ} {args:List aZ} {K:abI->j->ah->Prop} (h:Jb C s f args K):
  ∃cg av ms,K cg av (cU ms s)/\(∀m∈ms,m.x∈cg/\m.d.I=[])/\∀aq,cP (use s (.call f args)) aq s->∀cR:j->ah->Prop,cR av (cU ms aq)->Cv C aq f args cR:=by
 obtain⟨g,caps,ps,r,R,fG,U,aA,aU,bt,b5,cd,dQ⟩:=h;have Rf:∀p∈ps,zj s p (λd=>d=p.d/\p.d.fv=true):=by
  intro p al bm;have:=aA p al;simp only[b_.ok,bm,if_true]at this;cases b8:p.a with
  |h x q=>rw[b8]at this;exact⟨x,q,p.d,rfl,this.1,⟨rfl,this.2.1⟩,this.2.2.imp id λh=>h.1⟩
  |_=>rw[b8]at this;exact this.elim
 obtain⟨⟨nU,ab,bF⟩,a3⟩:=Q8 ps s Rf aU;obtain⟨qK,i7,gz⟩:=Ra ps (dV s ps) a3 aU;have oW:∀u∈j.dv (ps.map (·.a)),u∈use s (.call f args):=by
  rw[U];intro u hu;simp only[use,List.mem_append];have key:∀(en l2:abN),u∈j.dv (en++l2)->u∈j.dv en\/u∈j.dv l2:=by
   intro en;induction en with
   |nil=>intro l2 h;exact .inr h
   |cons a en ih=>
    intro l2 h;simp only[List.cons_append,j.dv,List.mem_append]at h⊢;rcases h with h|h
    .exact .inl (.inl h)
    .exact(ih l2 h).imp .inr id
  rcases key _ _ hu with hu|hu
  .exact .inr (aZ.y1 u hu)
  .refine .inl (aZ.r_ u ?_);rw[R];exact hu
 have fi:gd (dV s ps) ps=cU (nU++qK) s:=by
  rw[ku,<-bF s (λ_ _=>rfl),gz _ (λ_ _=>rfl)]
 refine⟨o6 ps,r,nU++qK,by rw[<-fi];exact dQ,?_,?_⟩
 .intro m hm;rcases List.mem_append.1 hm with hm|hm
  .exact ab m hm
  .exact i7 m hm
 .intro aq I cR ak;have p5:cP (j.dv (ps.map (·.a))) aq s:=I.sub oW;have a6:cP (f.use s) aq s:=by simp only[use]at I;exact I.left
  have ag:cP (aZ.nT s args) aq s:=by simp only[use]at I;exact I.right
  have aK:gd (dV aq ps) ps=cU (nU++qK) aq:=by
   rw[ku,<-bF aq p5,gz];rw[bF aq p5,bF s (λ_ _=>rfl)];exact cP.cU p5 _
  exact⟨g,caps,ps,r,by rw[aZ.eO a6];exact R,fG,by rw[aZ.Ce ag];exact U,λp al=>Re (p5.sub (Q7 al)) (aA p al),aU,bt,b5,cd,by rw[aK];exact ak⟩
mutual
theorem Jj {s aq:ah}:∀(d:j),cP d.I aq s->d.eQ aq=d.eQ s
 | .h x q,h=>by simp only[j.eQ];rw[h x (by simp[j.I])]
 | .J x q,h=>by simp only[j.eQ];rw[h x (by simp[j.I])]
 | .fn f cap,h=>by simp only[j.eQ];exact Jk cap (by simpa only[j.I]using h)
 | .al _ _,_=>by simp only[j.eQ]
 | .hole,_=>by simp only[j.eQ]
 | .bool _,_=>by simp only[j.eQ]
 | .eF,_=>by simp only[j.eQ]
 | .int _ _,_=>by simp only[j.eQ]
 | .str _,_=>by simp only[j.eQ]
 | .c8,_=>by simp only[j.eQ]
 | .aJ,_=>by simp only[j.eQ]
 | .slice _,_=>by simp only[j.eQ]
 | .ad _ _,_=>by simp only[j.eQ]
 | .ref _,_=>by simp only[j.eQ]
 | .aD _,_=>by simp only[j.eQ]
 | .agg _,_=>by simp only[j.eQ]
 | .tuple _,_=>by simp only[j.eQ]
 | .dc _,_=>by simp only[j.eQ]
 | .eU _ _,_=>by simp only[j.eQ]
 | .fB _,_=>by simp only[j.eQ]
theorem Jk {s aq:ah}:∀(ds:abN),cP (j.dv ds) aq s->j.na aq ds=j.na s ds
 |[],_=>rfl
 |d::ds,h=>by
  simp only[j.dv]at h;simp only[j.na];rw[Jj d h.left,Jk ds h.right]
end
theorem CY {s aq:ah} {us:abI} (h:cP (us.flatMap λu=>u::(s u).I) aq s):hj aq us=hj s us:=by
 unfold hj;refine List.map_congr_left λu hu=>?_;rw[h u (List.mem_flatMap.2 ⟨u,hu,by simp⟩)]
theorem CZ {s aq:ah}:∀(L:abM),(∀p∈L,cP p.2.I aq s)->jq aq L=jq s L
 |[],_=>rfl
 |p::L,h=>by
  simp only[jq];rw[Jj p.2 (h p (by simp)),CZ L (λq cp=>h q (by simp[cp]))]
theorem C0:∀(L:abM) (s:ah),jc s L=cU (L.map λp=>⟨.no,p.1,p.2⟩) s
 |[],s=>rfl
 |p::L,s=>by
  simp only[jc,List.map_cons];rw[C0 L,H3];exact(ku [⟨.no,p.1,p.2⟩] _ s).symm
theorem Rg {s:ah} {bp:c9} {K:abI->j->ah->Prop} (h:kg C s bp K):
  ∃cg av ms,K cg av (cU ms s)/\(∀m∈ms,m.x∈cg/\∀v∈m.d.I,∃u∈use s bp,v∈(s u).I)/\∀aq,cP (use s bp) aq s->∀cR:j->ah->Prop,cR av (cU ms aq)->nb C aq bp cR:=by
 have plain:(∃av s1,bE C s bp=some (av,s1)/\K (kc s bp) av s1)->(∀aq (cR:j->ah->Prop) av s1,bE C aq bp=some (av,s1)->cR av s1->nb C aq bp cR)->
   ∃cg av ms,K cg av (cU ms s)/\(∀m∈ms,m.x∈cg/\∀v∈m.d.I,∃u∈use s bp,v∈(s u).I)/\∀aq,cP (use s bp) aq s->∀cR:j->ah->Prop,cR av (cU ms aq)->nb C aq bp cR:=by
  rintro⟨av,s1,R,U⟩ hw;obtain⟨ms,aK,aV,a1⟩:=Il R;subst aK;exact⟨_,av,ms,U,λm hm=>⟨(aV m hm).1,λv ay=>by rw[(aV m hm).2]at ay;cases ay⟩,λaq I cR ak=>hw aq cR av _ (a1 aq I) ak⟩
 cases bp with
 |call f args=>
  obtain⟨cg,av,ms,ab,bF,a3⟩:=Ji h;exact⟨cg,av,ms,ab,λm hm=>⟨(bF m hm).1,λv ay=>by rw[(bF m hm).2]at ay;cases ay⟩,λaq I cR ak=>a3 aq I cR ak⟩
 |iT f args us=>
  obtain⟨cc,aj⟩:=h;obtain⟨cg,av,ms,⟨ab,Rh⟩,bF,a3⟩:=Ji aj;have e:∀aq:ah,jc (cU ms aq) (hj s us)=cU (ms++(hj s us).map λp=>⟨.no,p.1,p.2⟩) aq:=λaq=>by rw[ku,C0]
  have lD:∀{aq:ah},cP (us.flatMap λu=>u::(s u).I) aq s->∀p∈hj s us,cP p.2.I aq s:=λ{aq} I p al v ay=>by
   obtain⟨u,hu,rfl⟩:=List.mem_map.1 al;exact I v (List.mem_flatMap.2 ⟨u,hu,by simp[ay]⟩)
  refine⟨us++cg,av,ms++(hj s us).map λp=>⟨.no,p.1,p.2⟩,by rw[<-e];exact Rh,?_,?_⟩
  .intro m hm;rcases List.mem_append.1 hm with hm|hm
   .exact⟨by simp[(bF m hm).1],λv ay=>by rw[(bF m hm).2]at ay;cases ay⟩
   .obtain⟨p,al,rfl⟩:=List.mem_map.1 hm;obtain⟨u,hu,rfl⟩:=List.mem_map.1 al;exact⟨List.mem_append_left _ hu,λv ay=>⟨u,by simp only[use,List.mem_append,List.mem_flatMap];exact .inl ⟨u,hu,by simp⟩,ay⟩⟩
  .intro aq I cR ak;simp only[use]at I;refine⟨by rw[CY I.left,CZ _ (lD I.left)];exact cc,a3 aq I.right _ ⟨?_,?_⟩⟩
   .rw[CY I.left,CZ _ (λp al=>(lD I.left p al).cU ms)];exact ab
   .rw[CY I.left,e];exact ak
 |kt T x y u=>
  obtain⟨bU,s1,R,U⟩:=h;obtain⟨ms,aK,aV,a1⟩:=Ik R;subst aK;have e:∀aq:ah,jc (cU ms aq) [(u,s u)]=cU (ms++[⟨.no,u,s u⟩]) aq:=λaq=>by rw[ku,C0];rfl
  refine⟨_,.hole,ms++[⟨.no,u,s u⟩],by rw[<-e];exact U,?_,?_⟩
  .intro m hm;rcases List.mem_append.1 hm with hm|hm
   .exact⟨List.mem_cons_of_mem _ (aV m hm).1,λv ay=>by rw[(aV m hm).2]at ay;cases ay⟩
   .simp only[List.mem_singleton]at hm;subst hm;exact⟨by simp,λv ay=>⟨u,by simp[use],ay⟩⟩
  .intro aq I cR ak;simp only[use]at I;have hu:aq u=s u:=I u (by simp);have ag:aX aq x=aX s x:=aZ.eO I.right.left;have bh:aX aq y=aX s y:=aZ.eO I.right.right;have nJ:k3 aq (aX s x) (s u)=k3 s (aX s x) (s u):=by
    have C1:cP (s u).I aq s:=λv ay=>I v (by simp[ay]);revert C1;cases aX s x<;>cases s u<;>first|(intro _;rfl)|skip
    rename_i z q e7 p;intro C1;have a1:aq e7=s e7:=C1 e7 (by simp[j.I]);simp only[k3];by_cases bA:e7=z
    .rw[<-bA,a1]
    .simp[bA]
   have b6:=a1 aq (by
    intro v ay;rcases List.mem_append.1 ay with ay|ay
    .exact cP.aX I.right.left v ay
    .exact cP.aX I.right.right v ay)
   simp only[Option.map_eq_some_iff,Prod.mk.injEq,true_and]at b6;obtain⟨s2,aA,aU⟩:=b6;refine⟨by rw[ag,hu,nJ];exact bU,s2,by rw[ag,bh];exact aA,?_⟩;rw[hu,aU,e];exact ak
 |shr bp=>
  obtain⟨av,s1,R,U,aA,aU⟩:=h;obtain⟨ms,aK,aV,a1⟩:=Il R;subst aK;exact⟨_,av.share,ms,aU,λm hm=>⟨(aV m hm).1,λv ay=>by rw[(aV m hm).2]at ay;cases ay⟩,λaq I cR ak=>⟨av,_,a1 aq I,U,aA,ak⟩⟩
 |_=>exact plain h (λaq cR av s1 R U=>⟨av,s1,R,U⟩)
theorem Ri {s:ah} {o:bG} {K:ez->ah->Prop} (h:jf C s o K):∃js ms,K js (cU ms s)/\zk C o s js ms:=by
 have op:∀(bM:abI),(∀u∈use s o.bp,u∈bM)->(∀aq,cP bM aq s->∀cR:ah->Prop,nb C aq o.bp (λav s1=>cR (fin s1 o.dst av))->kB C aq o cR)->
   kg C s o.bp (λcg av s1=>K (hC s bM o.dst cg av) (fin s1 o.dst av))->∃js ms,K js (cU ms s)/\zk C o s js ms:=by
  intro bM oW eV hw;obtain⟨cg,av,ms,R,U,aA⟩:=Rg hw;obtain⟨jU,jW,cz⟩:=Jh o.dst av;refine⟨hC s bM o.dst cg av,ms++jU,?_,?_,?_,zl.1,zl.2⟩
  .rw[ku,<-cz];exact R
  .intro aq I cR ak;refine eV aq I cR (aA aq (I.sub oW) _ ?_);rw[cz,<-ku];exact ak
  .intro m hm;simp only[hC,List.mem_append];rcases List.mem_append.1 hm with hm|hm
   .refine⟨.inr (U m hm).1,λv ay=>.inl ?_⟩;obtain⟨u,hu,jO⟩:=(U m hm).2 v ay;exact List.mem_flatMap.2 ⟨u,oW u hu,jO⟩
   .exact⟨.inl (jW m hm).1,λu hu=>.inr (by rw[(jW m hm).2]at hu;exact hu)⟩
 have skip:∀t,(∀aq,cP [t] aq s->∀cR:ah->Prop,cR (fin aq o.dst (.tuple []))->kB C aq o cR)->K (hC s [t] o.dst [] (.tuple [])) (fin s o.dst (.tuple []))->∃js ms,K js (cU ms s)/\zk C o s js ms:=by
  intro t eV ak;obtain⟨jU,jW,cz⟩:=Jh o.dst (.tuple []);refine⟨_,jU,by rw[<-cz];exact ak,?_,?_,zl.1,zl.2⟩
  .intro aq I cR hd;exact eV aq I cR (by rw[cz];exact hd)
  .intro m hm;simp only[hC,List.mem_append];exact⟨.inl (jW m hm).1,λu hu=>by rw[(jW m hm).2]at hu;simp[j.I]at hu⟩
 unfold jf at h;split at h
 .rename_i bm;exact op _ (λ_ h=>h) (λaq _ cR hw=>by unfold kB;rw[bm];exact hw) h
 .rename_i t b bm;split at h
  .rename_i eI J;split at h
   .rename_i e;refine op (t::use s o.bp) (λu hu=>by simp[hu]) (λaq I cR hw=>?_) h;have:aq t=s t:=I t (by simp);unfold kB;rw[bm];simp only[this,J,if_pos e];exact hw
   .rename_i e;refine skip t (λaq I cR ak=>?_) h;have:aq t=s t:=I t (by simp);unfold kB;rw[bm];simp only[this,J,if_neg e];exact ak
  .rename_i J;refine skip t (λaq I cR ak=>?_) h;have:aq t=s t:=I t (by simp);unfold kB;rw[bm];simp only[this,J];exact ak
  .exact h.elim
def qU (C:bI) (ros:List bG):ah->List (Nat×ez×List fN)->Prop
 |_,[]=>True
 |s,e::r=>(∃o,ros[e.1]? =some o/\zk C o s e.2.1 e.2.2)/\qU C ros (cU e.2.2 s) r
def n6 (s:ah) (r:List (Nat×ez×List fN)):ah:=r.foldl (λs e=>cU e.2.2 s) s
def m4 (a b:abI):Bool:=a.all λx=> !b.contains x
theorem ui {a b:abI} (h:m4 a b=true):∀x∈a,x∉b:=by
 intro x ag;simp only[m4,List.all_eq_true]at h;simpa using h x ag
def sn (a b:ez):Bool:=m4 b.T a.bM&&m4 b.T a.H&&m4 b.T a.T&&m4 a.T b.bM&&m4 a.T b.H&&b.c
theorem Rj {ros:List bG} {s:ah} {a b:Nat×ez×List fN} {r:List (Nat×ez×List fN)} (h:qU C ros s (a::b::r)) (aw:sn a.2.1 b.2.1=true):
  qU C ros s (b::a::r)/\n6 s (b::a::r)=n6 s (a::b::r):=by
 obtain⟨⟨Rk,b8,ab,bF,a3,a4⟩,⟨dc,J,i7,gz,i9,c1⟩,aN⟩:=h;simp only[sn,Bool.and_eq_true]at aw;obtain⟨⟨⟨⟨⟨jL,hT⟩,rG⟩,Bh⟩,vQ⟩,Bj⟩:=aw;have C2:∀u∈b.2.1.bM,cU a.2.2 s u=s u:=by
  intro u hu;refine Q2 _ _ _ (λm hm e=>?_) (c1 Bj u hu);exact ui Bh m.x (bF m hm).1 (e▸hu)
 have C3:∀u∈a.2.1.bM,cU b.2.2 s u=s u:=by
  intro u hu;refine Q3 _ _ _ λm hm=>⟨λe=>?_,λag=>?_⟩
  .exact ui jL m.x (gz m hm).1 (e▸hu)
  .exact ui hT m.x (gz m hm).1 (a3 u hu _ ag)
 have Jl:cU b.2.2 (cU a.2.2 s)=cU a.2.2 (cU b.2.2 s):=by
  refine Q5 _ _ _ λm hm n a7=>⟨λe=>?_,λh=>?_,λh=>?_⟩
  .exact ui rG n.x (gz n a7).1 (e▸(bF m hm).1)
  .exact ui hT n.x (gz n a7).1 ((bF m hm).2 _ h)
  .exact ui vQ m.x (bF m hm).1 ((gz n a7).2 _ h)
 refine⟨⟨⟨dc,J,?_,gz,?_,?_⟩,⟨Rk,b8,?_,bF,?_,?_⟩,?_⟩,?_⟩
 .intro aq I K ak;exact i7 aq (λu hu=>(I u hu).trans (C2 u hu).symm) K ak
 .intro u hu x ag;exact i9 u hu x (by rw[C2 u hu];exact ag)
 .intro aj u hu;have:=c1 aj u hu
  rwa [C2 u hu]at this
 .intro aq I K ak;exact ab aq (λu hu=>(I u hu).trans (C3 u hu)) K ak
 .intro u hu x ag;rw[C3 u hu]at ag;exact a3 u hu x ag
 .intro aj u hu;rw[C3 u hu];exact a4 aj u hu
 .rw[<-Jl];exact aN
 .simp only[n6,List.foldl_cons];rw[Jl]
theorem Rl {ros:List bG} {e:Nat×ez×List fN} {post:List (Nat×ez×List fN)}:∀(pre:List (Nat×ez×List fN)) (s:ah),qU C ros s (pre++e::post)->(∀a∈pre,sn a.2.1 e.2.1=true)->
  qU C ros s (e::(pre++post))/\n6 s (e::(pre++post))=n6 s (pre++e::post):=by
 intro pre;induction pre with
 |nil=>intro s h _;exact⟨h,rfl⟩
 |cons a pre ih=>
  intro s h aw;obtain⟨R,U⟩:=h;obtain⟨aQ,a2⟩:=ih _ U λb J=>aw b (by simp[J]);have aj:qU C ros s (a::e::(pre++post)):=⟨R,aQ⟩
  obtain⟨bU,cc⟩:=Rj aj (aw a (by simp));refine⟨bU,cc.trans ?_⟩;simp only[n6,List.foldl_cons,List.cons_append]at a2⊢;exact a2
end
def wZ:abG->abG->abG
 |done,[]=>done
 |done,a::r=>wZ (done++[a++a.flatMap λe=>(done[e]?).getD []]) r
def o7 (eo:abG):abG:=wZ [] eo
theorem Rm {eo:abG} {l:abI} (hl:∀u i v,l=u++i::v->∀e∈(eo[i]?).getD [],e∈u):∀(rest pre done:abG),eo=pre++rest->done.length=pre.length->
  (∀u i v,l=u++i::v->∀e∈(done[i]?).getD [],e∈u)->∀u i v,l=u++i::v->∀e∈((wZ done rest)[i]?).getD [],e∈u:=by
 intro rest;induction rest with
 |nil=>intro pre done _ _ h;exact h
 |cons a rest ih=>
  intro pre done Jm hlen h;simp only[wZ];refine ih (pre++[a]) _ (by simp[Jm]) (by simp[hlen]) ?_;intro u i v hu e he;by_cases aw:i<done.length
  .rw[List.getElem?_append_left aw]at he;exact h u i v hu e he
  .rw[List.getElem?_append_right (by omega)]at he;by_cases oY:i-done.length=0
   .rw[oY]at he;simp only[List.getElem?_cons_zero,Option.getD_some,List.mem_append,List.mem_flatMap]at he;have Jn:(eo[i]?).getD []=a:=by
     have:i=pre.length:=by omega
     rw[Jm,this,List.getElem?_append_right (Nat.le_refl _)];simp
    rcases he with he|⟨dY,CD,he⟩
    .exact hl u i v hu e (by rw[Jn];exact he)
    .have wH:=hl u i v hu dY (by rw[Jn];exact CD);obtain⟨B3,B4,rfl⟩:=List.append_of_mem wH;have:=h B3 dY (B4++i::v) (by rw[hu];simp) e he;simp[this]
   .rw[List.getElem?_eq_none (by simp;omega)]at he;simp at he
theorem Rn {eo:abG} {l:abI} (hl:∀u i v,l=u++i::v->∀e∈(eo[i]?).getD [],e∈u):∀u i v,l=u++i::v->∀e∈((o7 eo)[i]?).getD [],e∈u:=
 Rm hl eo [] [] rfl rfl λu i v _ e he=>by simp at he
def jX (lM:abG):Nat->List (Nat×ez)->List ez->Bool
 |_,_,[]=>true
 |au,es,f::ar=>(es.all λe=>((lM[au]?).getD []).contains e.1||sn e.2 f)&&jX lM (au+1) ((au,f)::es) ar
def C4 (lM:abG) (a b:Nat×ez×List fN):Prop:=a.1∈(lM[b.1]?).getD []\/sn a.2.1 b.2.1=true
theorem Ro {lM:abG}:∀(gr:List (Nat×ez×List fN)) (au:Nat) (es:List (Nat×ez)),gr.map (·.1)=(List.range gr.length).map (·+au)->jX lM au es (gr.map (·.2.1))=true->
  gr.Pairwise (C4 lM)/\∀e∈es,∀b∈gr,e.1∈(lM[b.1]?).getD []\/sn e.2 b.2.1=true:=by
 intro gr;induction gr with
 |nil=>intro au es _ _;exact⟨.nil,λe _ b J=>by cases J⟩
 |cons a gr ih=>
  intro au es so eP;rw[List.length_cons,List.range_succ_eq_map,List.map_cons,List.map_cons,List.map_map]at so;simp only[List.cons.injEq,Nat.zero_add]at so;obtain⟨bN,so⟩:=so;simp only[List.map_cons,jX,Bool.and_eq_true,List.all_eq_true,Bool.or_eq_true]at eP;obtain⟨R,U⟩:=eP;obtain⟨aQ,a2⟩:=ih (au+1) _ (by rw[so];congr 1;funext x;simp;omega) U;refine⟨.cons (λb J=>?_) aQ,λe he b J=>?_⟩
  .have:=a2 (au,a.2.1) (by simp) b J;simp only[C4,bN];exact this
  .rcases List.mem_cons.1 J with rfl|J
   .rw[bN];exact(R e he).imp (λh=>by simpa using h) id
   .exact a2 e (by simp[he]) b J
section
variable {C:bI}
theorem Rp {K:Option (List ez)->ah->Prop}:∀(os pre:List bG) (s:ah) (acc:List ez),cm C s os (some acc) K->
  ∃gr,qU C (pre++os) s gr/\gr.map (·.1)=(List.range os.length).map (·+pre.length)/\K (some ((gr.map (·.2.1)).reverse++acc)) (n6 s gr):=by
 intro os;induction os with
 |nil=>intro pre s acc h;exact⟨[],trivial,rfl,h⟩
 |cons o os ih=>
  intro pre s acc h;obtain⟨js,ms,R,U⟩:=Ri h;obtain⟨gr,aQ,a2,bQ⟩:=ih (pre++[o]) _ (js::acc) R;refine⟨(pre.length,js,ms)::gr,⟨⟨o,?_,U⟩,?_⟩,?_,?_⟩
  .rw[List.getElem?_append_right (Nat.le_refl _)];simp
  .simpa using aQ
  .rw[List.length_cons,List.range_succ_eq_map,List.map_cons,List.map_cons,List.map_map,a2];simp only[List.cons.injEq,Nat.zero_add,true_and];congr 1;funext x;simp;omega
  .simpa [n6]using bQ
theorem Rq {ros:List bG} {lM:abG} {K:ah->Prop}:∀(l:abI) (gr:List (Nat×ez×List fN)) (s:ah),qU C ros s gr->gr.Pairwise (C4 lM)->l.Nodup->(gr.map (·.1)).Nodup->
  (∀i,i∈l↔i∈gr.map (·.1))->(∀u i v,l=u++i::v->∀e∈(lM[i]?).getD [],e∈gr.map (·.1)->e∈u)->K (n6 s gr)->iV C ros s l K:=by
 intro l;induction l with
 |nil=>
  intro gr s _ _ _ _ hm _ ak;cases gr with
  |nil=>exact ak
  |cons e gr=>have:=(hm e.1).2 (by simp);cases this
 |cons i l ih=>
  intro gr s aj al a7 wA hm br ak;obtain⟨e,he,aw⟩:=List.mem_map.1 ((hm i).1 (by simp));obtain⟨pre,post,rfl⟩:=List.append_of_mem he;have Rr:∀a∈pre,sn a.2.1 e.2.1=true:=by
   intro a b8;have aN:=(List.pairwise_append.1 al).2.2 a b8 e (by simp);rcases aN with aN|aN
   .rw[aw]at aN;have:=br [] i l rfl a.1 aN (by simp only[List.map_append,List.mem_append,List.mem_map];exact .inl ⟨a,b8,rfl⟩);cases this
   .exact aN
  obtain⟨aQ,a2⟩:=Rl pre s aj Rr;obtain⟨⟨o,Rs,zb⟩,bQ⟩:=aQ;have Jo:i∉(pre++post).map (·.1):=by
   have:(pre.map (·.1)++e.1::post.map (·.1)).Nodup:=by simpa using wA
   have bz:=(List.perm_middle.nodup_iff.1 this)
   rw[List.nodup_cons]at bz;rw[<-aw];simpa using bz.1
  simp only[iV];rw[<-aw,Rs];refine zb.1 s (λ_ _=>rfl) _ ?_;rw[List.nodup_cons]at a7;refine ih (pre++post) _ bQ ?_ a7.2 ?_ ?_ ?_ ?_
  .exact al.sublist ((List.Sublist.refl pre).append (List.sublist_cons_self e post))
  .have:(pre.map (·.1)++e.1::post.map (·.1)).Nodup:=by simpa using wA
   have bz:=(List.perm_middle.nodup_iff.1 this)
   rw[List.nodup_cons]at bz;simpa using bz.2
  .intro au;constructor
   .intro bN;have R:=(hm au).1 (by simp[bN]);simp only[List.map_append,List.map_cons,List.mem_append,List.mem_cons]at R⊢;rcases R with R|rfl|R
    .exact .inl R
    .exact(a7.1 (aw▸bN)).elim
    .exact .inr R
   .intro bN;have R:=(hm au).2 (by
     simp only[List.map_append,List.map_cons,List.mem_append,List.mem_cons]at bN⊢;exact bN.imp id .inr)
    rcases List.mem_cons.1 R with rfl|R
    .exact(Jo bN).elim
    .exact R
  .intro u au v hu x ag C5;have R:=br (i::u) au v (by rw[hu];rfl) x ag (by
    simp only[List.map_append,List.map_cons,List.mem_append,List.mem_cons]at C5⊢;exact C5.imp id .inr)
   rcases List.mem_cons.1 R with rfl|R
   .exact(Jo C5).elim
   .exact R
  .have:n6 s (e::(pre++post))=n6 (cU e.2.2 s) (pre++post):=rfl;rw[<-this,a2];exact ak
theorem Jp {ros:List bG} {eo:abG} {s:ah} {K:ah->Prop} (hlen:eo.length=ros.length)
  (h:cm C s ros (some []) (λacc s=>jX (o7 eo) 0 [] (acc.getD []).reverse=true/\K s)):∀l,CB eo l->iV C ros s l K:=by
 intro l ⟨en,l2,Cu⟩;obtain⟨gr,aQ,a2,bQ,c4⟩:=Rp ros [] s [] h;simp only[List.nil_append,List.append_nil,List.length_nil,Option.getD_some,List.reverse_reverse]at aQ a2 bQ;have hl:gr.length=ros.length:=by have:=congrArg List.length a2;simpa using this
 have so:gr.map (·.1)=(List.range gr.length).map (·+0):=by rw[a2,hl]
 have aN:gr.map (·.1)=List.range ros.length:=by rw[a2];simp
 obtain⟨dX,_⟩:=Ro gr 0 [] so bQ;refine Rq l gr s aQ dX en (by rw[aN];exact List.nodup_range) (λi=>?_) (λu i v hu e he _=>Rn Cu u i v hu e he) c4;rw[aN,l2,hlen,List.mem_range]
end
def nh (C:bI) (dst:Option Nat) (os:List bG) (K:Option (List ez)->ah->Prop):Option (j×ah)->Prop
 |some (av,s1)=>cm C (fin s1 dst av) os none K
 |none=>False
def qV (C:bI) (l:abM) (bM cg:abI) (dst:Option Nat) (os:List bG) (a:List ez) (K:Option (List ez)->ah->Prop):Option (j×ah)->Prop
 |some (av,s1)=>cm C (fin s1 dst av) os (some (hC (an l) bM dst cg av::a)) K
 |none=>False
def jt (C:bI) (l:abM) (dst:Option Nat) (bp:c9) (t:Nat) (b:Bool) (os:List bG) (acc:Option (List ez)) (K:Option (List ez)->ah->Prop):j->Prop
 | .bool eI=>if eI=b then kg C (an l) bp (λcg av s1=>cm C (fin s1 dst av) os (n5 acc (hC (an l) (t::use (an l) bp) dst cg av)) K)else cm C (fin (an l) dst (.tuple [])) os (n5 acc (hC (an l) [t] dst [] (.tuple []))) K
 | .tuple []=>cm C (fin (an l) dst (.tuple [])) os (n5 acc (hC (an l) [t] dst [] (.tuple []))) K
 |_=>False
section
variable {C:bI} {l:abM} {os:List bG} {K:Option (List ez)->ah->Prop} {dst:Option Nat} {a:List ez} {acc:Option (List ez)}
theorem zm {s:ah} {bp:c9} {K:abI->j->ah->Prop} (a7:bp.g1=false):kg C s bp K=(match bE C s bp with
  |some (av,s1)=>K (kc s bp) av s1
  |none=>False):=by
 apply propext;constructor
 .intro h;cases bp<;>first
   |(simp[c9.g1]at a7;done)
   |(obtain⟨av,s1,R,U⟩:=h;rw[R];exact U)
 .intro h;split at h
  .rename_i av s1 he;cases bp<;>first
    |(simp[c9.g1]at a7;done)
    |exact⟨av,s1,he,h⟩
  .exact h.elim
theorem Jq:cm C (an l) [] acc K=K acc (an l):=rfl
theorem w1 {bp:c9} (a7:bp.g1=false):cm C (an l) (⟨dst,bp,none⟩::os) none K=nh C dst os K (bE C (an l) bp):=by
 simp only[cm,jf,n5];rw[zm a7];cases bE C (an l) bp with
 |none=>rfl
 |some p=>rfl
theorem zn {bp:c9} (a7:bp.g1=false):cm C (an l) (⟨dst,bp,none⟩::os) (some a) K=qV C l (use (an l) bp) (kc (an l) bp) dst os a K (bE C (an l) bp):=by
 simp only[cm,jf,n5];rw[zm a7];cases bE C (an l) bp with
 |none=>rfl
 |some p=>rfl
theorem Jr {bp:c9} {t:Nat} {b:Bool}:cm C (an l) (⟨dst,bp,some (t,b)⟩::os) acc K=jt C l dst bp t b os acc K (an l t):=by
 simp only[cm,jf];generalize an l t=v;cases v<;>first|rfl|(rename_i vs;cases vs<;>rfl)
theorem Rt {bp:c9} {t:Nat} {b:Bool} (a7:bp.g1=false):jt C l dst bp t b os none K (.bool b)=nh C dst os K (bE C (an l) bp):=by
 simp only[jt,if_true];rw[zm a7];cases bE C (an l) bp with
 |none=>rfl
 |some p=>rfl
theorem Ru {bp:c9} {t:Nat} {b:Bool} (a7:bp.g1=false):jt C l dst bp t b os (some a) K (.bool b)=qV C l (t::use (an l) bp) (kc (an l) bp) dst os a K (bE C (an l) bp):=by
 simp only[jt,if_true];rw[zm a7];cases bE C (an l) bp with
 |none=>rfl
 |some p=>rfl
theorem Rv {bp:c9} {t:Nat}:jt C l dst bp t true os none K (.bool false)=cm C (fin (an l) dst (.tuple [])) os none K/\jt C l dst bp t false os none K (.bool true)=cm C (fin (an l) dst (.tuple [])) os none K/\
  (∀b,jt C l dst bp t b os none K (.tuple [])=cm C (fin (an l) dst (.tuple [])) os none K):=⟨rfl,rfl,λ_=>rfl⟩
theorem Rw {bp:c9} {t:Nat}:jt C l dst bp t true os (some a) K (.bool false)=cm C (fin (an l) dst (.tuple [])) os (some (hC (an l) [t] dst [] (.tuple [])::a)) K/\
  jt C l dst bp t false os (some a) K (.bool true)=cm C (fin (an l) dst (.tuple [])) os (some (hC (an l) [t] dst [] (.tuple [])::a)) K/\
  (∀b,jt C l dst bp t b os (some a) K (.tuple [])=cm C (fin (an l) dst (.tuple [])) os (some (hC (an l) [t] dst [] (.tuple [])::a)) K):=⟨rfl,rfl,λ_=>rfl⟩
theorem Rx (av:j) (s1:ah):nh C dst os K (some (av,s1))=cm C (fin s1 dst av) os none K:=rfl
theorem Ry (bM cg:abI) (av:j) (s1:ah):qV C l bM cg dst os a K (some (av,s1))=cm C (fin s1 dst av) os (some (hC (an l) bM dst cg av::a)) K:=rfl
def uj (s:ah):j->Option (j×ah)
 | .h y q=>cg s (.h y q)
 |d=>some (d,s)
def Js (s:ah):j->j->j->Option (j×ah)
 | .bool eI,x,y=>some (if eI then x else y,s)
 |_,_,_=>none
def jY (s:ah):Option j->Option (j×ah)
 |some d=>some (d,s)
 |none=>none
def dg:Option ah->Option (j×ah)
 |some s1=>some (.hole,s1)
 |none=>none
def ig (s:ah):List aZ->abN
 |[]=>[]
 |x::xs=>aX s x::ig s xs
def qW (s:ah):List (Nat×aZ)->abM
 |[]=>[]
 |(k,x)::xs=>(k,aX s x)::qW s xs
def w2 (s:ah):Option aZ->Option j
 |none=>none
 |some x=>some (aX s x)
theorem Jt (s:ah) (x:Option j):(x.map λd=>(d,s))=jY s x:=by cases x<;>rfl
theorem Rz (x:Option ah):(x.map λs1=>(j.hole,s1))=dg x:=by cases x<;>rfl
theorem w3 (s:ah):∀xs:List aZ,xs.map (aX s)=ig s xs
 |[]=>rfl
 |x::xs=>by simp only[List.map_cons,ig,w3 s xs]
theorem Ju (s:ah):∀xs:List (Nat×aZ),(xs.map λp=>(p.1,aX s p.2))=qW s xs
 |[]=>rfl
 |(k,x)::xs=>by simp only[List.map_cons,qW,Ju s xs]
theorem RA (s:ah) (x:Option aZ):x.map (aX s)=w2 s x:=by cases x<;>rfl
theorem Jv:(∀x,c9.g1 (.fT x)=false)/\
  (∀x,c9.g1 (.k1 x)=false)/\
  (∀c x y,c9.g1 (.pick c x y)=false)/\
  (∀T,c9.g1 (.kW T)=false)/\
  (∀T x,c9.g1 (.gK T x)=false)/\
  (∀T ps,c9.g1 (.gm T ps)=false)/\
  (∀T n ps,c9.g1 (.ef T n ps)=false)/\
  (∀T x,c9.g1 (.e0 T x)=false)/\
  (∀T x y,c9.g1 (.gp T x y)=false)/\
  (∀x,c9.g1 (.h1 x)=false)/\
  (∀op T x y,c9.g1 (.el op T x y)=false)/\
  (∀op x,c9.g1 (.un op x)=false)/\
  (∀A B x,c9.g1 (.hJ A B x)=false)/\
  (∀f cs,c9.g1 (.m6 f cs)=false)/\
  (∀T x y,c9.g1 (.d_ T x y)=false)/\
  (∀T x dU aw,c9.g1 (.fl T x dU aw)=false)/\
  (∀T x k,c9.g1 (.hb T x k)=false)/\
  (∀T x y,c9.g1 (.iP T x y)=false)/\
  (∀T x y,c9.g1 (.idx T x y)=false)/\
  (∀x k,c9.g1 (.ex x k)=false)/\
  (∀T x,c9.g1 (.len T x)=false)/\
  (∀T bM x y,c9.g1 (.app T bM x y)=false):=by
 and_intros<;>intros<;>rfl
theorem Jw:(∀x,bE C (an l) (.fT x)=some (aX (an l) x,an l))/\
  (∀x,bE C (an l) (.k1 x)=uj (an l) (aX (an l) x))/\
  (∀c x y,bE C (an l) (.pick c x y)=Js (an l) (aX (an l) c) (aX (an l) x) (aX (an l) y))/\
  (∀T,bE C (an l) (.kW T)=jY (an l) (kW C T))/\
  (∀T x,bE C (an l) (.gK T x)=gK (an l) (aX (an l) x))/\
  (∀T ps,bE C (an l) (.gm T ps)=gm C (an l) T (qW (an l) ps))/\
  (∀T n ps,bE C (an l) (.ef T n ps)=ef C (an l) T n (qW (an l) ps))/\
  (∀T x,bE C (an l) (.e0 T x)=jY (an l) (e0 C (an l) T (aX (an l) x)))/\
  (∀T x y,bE C (an l) (.gp T x y)=dg (gp C (an l) T (aX (an l) x) (aX (an l) y)))/\
  (∀x,bE C (an l) (.h1 x)=jY (an l) (h1 (an l) (aX (an l) x)))/\
  (∀op T x y,bE C (an l) (.el op T x y)=jY (an l) (el C (an l) op T (aX (an l) x) (aX (an l) y)))/\
  (∀op x,bE C (an l) (.un op x)=jY (an l) (un op (aX (an l) x)))/\
  (∀A B x,bE C (an l) (.hJ A B x)=jY (an l) (hJ C (an l) A B (aX (an l) x)))/\
  (∀f cs,bE C (an l) (.m6 f cs)=some (.fn f (ig (an l) cs),an l))/\
  (∀T x y,bE C (an l) (.d_ T x y)=jY (an l) (d_ C T (aX (an l) x) (aX (an l) y)))/\
  (∀T x dU aw,bE C (an l) (.fl T x dU aw)=fl C (an l) T (aX (an l) x) (w2 (an l) dU) (w2 (an l) aw))/\
  (∀T x k,bE C (an l) (.hb T x k)=jY (an l) (hb C (an l) T (aX (an l) x) k))/\
  (∀T x y,bE C (an l) (.iP T x y)=jY (an l) (iP C (an l) T (aX (an l) x) (aX (an l) y)))/\
  (∀T x y,bE C (an l) (.idx T x y)=jY (an l) (idx C T (aX (an l) x) (aX (an l) y)))/\
  (∀x k,bE C (an l) (.ex x k)=jY (an l) (ex (an l) (aX (an l) x) k))/\
  (∀T x,bE C (an l) (.len T x)=jY (an l) (pY C (an l) T (aX (an l) x)))/\
  (∀T bM x y,bE C (an l) (.app T bM x y)=p1 C (an l) T bM (aX (an l) x) (aX (an l) y)):=by
 and_intros<;>intros<;>first|rfl|(simp only[bE,Jt,Rz,Ju,w3,RA];done)|(simp only[bE];cases aX (an l) _<;>first|rfl|(rename_i b;cases b<;>rfl))
end
theorem Jx:∀t d,mT t d=if j.plain d=true then d else .h t []:=λ_ _=>rfl
theorem Jy:(∀l av,fin (an l) none av=an l)/\(∀l t av,fin (an l) (some t) av=an ((t,av)::if j.plain av=true then l else p8 t l)):=
 ⟨λ_ _=>rfl,λl t av=>by
  simp only[fin];split
  .rw[wV]
  .rw[CV,wV]⟩
theorem w4:
  (∀k n,j.plain (.int k n)=true)/\
  (∀b,j.plain (.bool b)=true)/\
  (∀x,j.plain (.str x)=true)/\
  (∀xs,j.plain (.slice xs)=true)/\
  (∀d,j.plain (.ref d)=true)/\
  (∀f cap,j.plain (.fn f cap)=true)/\
  (∀x q,j.plain (.h x q)=true)/\
  (∀x q,j.plain (.al x q)=true)/\
  (j.plain .c8=true)/\
  (j.plain .aJ=true)/\
  (j.plain .eF=true)/\
  (j.plain .hole=true)/\
  (∀sz xs,j.plain (.ad sz xs)=false)/\
  (∀d,j.plain (.aD d)=false)/\
  (∀ar,j.plain (.agg ar)=j.dF ar)/\
  (∀ar,j.plain (.tuple ar)=j.dF ar)/\
  (j.dF []=true)/\
  (∀d ds,j.dF (d::ds)=(d.plain&&j.dF ds)):=
 ⟨λ_ _=>rfl,λ_=>rfl,λ_=>rfl,λ_=>rfl,λ_=>rfl,λ_ _=>rfl,λ_ _=>rfl,λ_ _=>rfl,rfl,rfl,rfl,rfl,λ_ _=>rfl,λ_=>rfl,λ_=>rfl,λ_=>rfl,rfl,λ_ _=>rfl⟩
theorem Jz:∀s d,uj s d=match d with| .h y q=>cg s (.h y q)|d=>some (d,s):=λ_ _=>by unfold uj;rfl
theorem JA:
  (∀t k n,ch t (.int k n)=(.int k n))/\
  (∀t b,ch t (.bool b)=(.bool b))/\
  (∀t x,ch t (.str x)=(.str x))/\
  (∀t xs,ch t (.slice xs)=(.slice xs))/\
  (∀t d,ch t (.ref d)=(.ref d))/\
  (∀t,ch t .c8= .c8)/\
  (∀t,ch t .aJ= .aJ)/\
  (∀t,ch t .eF= .eF)/\
  (∀t,ch t .hole= .hole)/\
  (∀t sz xs,ch t (.ad sz xs)=(.ad sz xs))/\
  (∀t d,ch t (.aD d)=(.aD d))/\
  (∀t ar,ch t (.agg ar)=(.agg ar))/\
  (∀t ar,ch t (.tuple ar)=(.tuple ar))/\
  (∀t y q,ch t (.h y q)=if y=t then .hole else .h y q)/\
  (∀t y q,ch t (.al y q)=if y=t then .hole else .al y q)/\
  (∀t f c,ch t (.fn f c)= .fn f (hW t c))/\
  (∀t,hW t []=[])/\
  (∀t d ds,hW t (d::ds)=ch t d::hW t ds)/\
  (∀t,p8 t []=[])/\
  (∀t u d l,p8 t ((u,d)::l)=(u,ch t d)::p8 t l)/\
  (∀t l,kr t (an l)=an (p8 t l)):=
 ⟨λ_ _ _=>by unfold ch;rfl,λ_ _=>by unfold ch;rfl,λ_ _=>by unfold ch;rfl,λ_ _=>by unfold ch;rfl,λ_ _=>by unfold ch;rfl,λ_=>by unfold ch;rfl,λ_=>by unfold ch;rfl,λ_=>by unfold ch;rfl,λ_=>by unfold ch;rfl,λ_ _ _=>by unfold ch;rfl,λ_ _=>by unfold ch;rfl,λ_ _=>by unfold ch;rfl,λ_ _=>by unfold ch;rfl,λ_ _ _=>by unfold ch;rfl,λ_ _ _=>by unfold ch;rfl,λ_ _ _=>by simp only[ch],λ_=>by simp only[hW],λ_ _ _=>by simp only[hW],λ_=>rfl,λ_ _ _ _=>rfl,λt l=>CV t l⟩
theorem JB:
  (∀t k n,bV t (.int k n)=(.int k n))/\
  (∀t b,bV t (.bool b)=(.bool b))/\
  (∀t x,bV t (.str x)=(.str x))/\
  (∀t xs,bV t (.slice xs)=(.slice xs))/\
  (∀t d,bV t (.ref d)=(.ref d))/\
  (∀t,bV t .c8= .c8)/\
  (∀t,bV t .aJ= .aJ)/\
  (∀t,bV t .eF= .eF)/\
  (∀t,bV t .hole= .hole)/\
  (∀t sz xs,bV t (.ad sz xs)=(.ad sz xs))/\
  (∀t d,bV t (.aD d)=(.aD d))/\
  (∀t ar,bV t (.agg ar)=(.agg ar))/\
  (∀t ar,bV t (.tuple ar)=(.tuple ar))/\
  (∀t y,bV t (.h y [])= .h y [])/\
  (∀t y k q,bV t (.h y (k::q))=if y=t then .hole else .h y (k::q))/\
  (∀t y q,bV t (.al y q)=if y=t then .hole else .al y q)/\
  (∀t f c,bV t (.fn f c)= .fn f (hv t c))/\
  (∀t,hv t []=[])/\
  (∀t d ds,hv t (d::ds)=bV t d::hv t ds)/\
  (∀t,sl t []=[])/\
  (∀t u d l,sl t ((u,d)::l)=(u,bV t d)::sl t l)/\
  (∀t l,e_ t (an l)=an (sl t l)):=
 ⟨λ_ _ _=>by unfold bV;rfl,λ_ _=>by unfold bV;rfl,λ_ _=>by unfold bV;rfl,λ_ _=>by unfold bV;rfl,λ_ _=>by unfold bV;rfl,λ_=>by unfold bV;rfl,λ_=>by unfold bV;rfl,λ_=>by unfold bV;rfl,λ_=>by unfold bV;rfl,λ_ _ _=>by unfold bV;rfl,λ_ _=>by unfold bV;rfl,λ_ _=>by unfold bV;rfl,λ_ _=>by unfold bV;rfl,λ_ _=>by simp[bV],λ_ _ _ _=>by simp[bV],λ_ _ _=>by unfold bV;rfl,λ_ _ _=>by simp only[bV],λ_=>by simp only[hv],λ_ _ _=>by simp only[hv],λ_=>rfl,λ_ _ _ _=>rfl,λt l=>I7 t l⟩
def C6:lF->Bool->Option j
 | .bool,b=>some (.bool b)
 |_,_=>none
def qX (neg:Bool):lF->Option abJ->Option j
 | .slice _,some r=>some (nO neg r)
 |_,_=>none
def sq (neg:Bool):lF->abJ->Option j
 | .ptr _,some b=>some (.bool (b !=neg))
 |_,_=>none
theorem JC (C:bI) (s:ah) (T:TypeId):
  (∀op k a cY b,el C s op T (.int k a) (.int cY b)=hH op k a cY b)/\
  (∀op a b,el C s op T (.str a) (.str b)=mc op a b)/\
  (∀a b,el C s .eql T (.bool a) (.bool b)=C6 (C.T T).k (a==b))/\
  (∀a b,el C s .neq T (.bool a) (.bool b)=C6 (C.T T).k (!(a==b)))/\
  (∀xs,el C s .eql T (.slice xs) .aJ=qX false (C.T T).k (iB s (.slice xs)))/\
  (∀xs,el C s .neq T (.slice xs) .aJ=qX true (C.T T).k (iB s (.slice xs)))/\
  (el C s .eql T .aJ .aJ=qX false (C.T T).k (iB s .aJ))/\
  (el C s .neq T .aJ .aJ=qX true (C.T T).k (iB s .aJ))/\
  (∀x q,el C s .eql T (.h x q) .aJ=qX false (C.T T).k (iB s (.h x q)))/\
  (∀x q,el C s .neq T (.h x q) .aJ=qX true (C.T T).k (iB s (.h x q)))/\
  (∀x q,el C s .eql T (.h x q) .c8=sq false (C.T T).k (j_ s (.h x q)))/\
  (∀x q,el C s .neq T (.h x q) .c8=sq true (C.T T).k (j_ s (.h x q)))/\
  (∀d,el C s .eql T (.ref d) .c8=sq false (C.T T).k (j_ s (.ref d)))/\
  (∀d,el C s .neq T (.ref d) .c8=sq true (C.T T).k (j_ s (.ref d)))/\
  (el C s .eql T .c8 .c8=sq false (C.T T).k (j_ s .c8))/\
  (el C s .neq T .c8 .c8=sq true (C.T T).k (j_ s .c8)):=by
 refine⟨?_,?_,?_,?_,?_,?_,?_,?_,?_,?_,?_,?_,?_,?_,?_,?_⟩<;>intros<;>first
  |rfl
  |(simp only[el]
    generalize (C.T T).k=iQ;cases iQ<;>first|rfl|(simp only[qX];generalize iB s _=v;cases v<;>rfl)|(simp only[sq];generalize j_ s _=v;cases v<;>(try (rename_i b;cases b))<;>rfl))
theorem JD (k:IntKind) (a b:Int):
  hH .add k a k b=some (.int k (k.wrap (a+b)))/\hH .sub k a k b=some (.int k (k.wrap (a-b)))/\hH .mul k a k b=some (.int k (k.wrap (a*b)))/\
  hH .eql k a k b=some (.bool (a==b))/\hH .neq k a k b=some (.bool (a !=b))/\hH .lss k a k b=some (.bool (decide (a<b)))/\hH .leq k a k b=some (.bool (decide (a<=b)))/\
  hH .gtr k a k b=some (.bool (decide (b<a)))/\hH .geq k a k b=some (.bool (decide (b<=a)))/\
  hH .and k a k b=some (.int k (bitsOf .and k a b))/\hH .or k a k b=some (.int k (bitsOf .or k a b))/\hH .xor k a k b=some (.int k (bitsOf .xor k a b))/\hH .andNot k a k b=some (.int k (bitsOf .andNot k a b)):=by
 simp[hH]
theorem RB {k:IntKind} {a b:Int} (h:b≠0):hH .quo k a k b=some (.int k (k.wrap (a.tdiv b))):=by simp[hH,h]
theorem RC {k:IntKind} {a b:Int} (h:b≠0):hH .rem k a k b=some (.int k (a.tmod b)):=by simp[hH,h]
theorem JE (a b:nq):
  mc .eql a b=some (.bool (a==b))/\mc .neq a b=some (.bool !(a==b))/\mc .lss a b=some (.bool (Op.bytesLess a b))/\
  mc .leq a b=some (.bool (Op.bytesLess a b||a==b))/\mc .gtr a b=some (.bool !(Op.bytesLess a b||a==b))/\mc .geq a b=some (.bool !(Op.bytesLess a b)):=by
 refine⟨rfl,rfl,rfl,rfl,rfl,rfl⟩
theorem JF:(∀b,un .not (.bool b)=some (.bool !b))/\(un .not .eF=some .eF)/\(∀k n,un .neg (.int k n)=some (.int k (k.wrap (0-n)))):=⟨λ_=>rfl,rfl,λ_ _=>rfl⟩
def C7:lF->Option UInt8->Option j
 | .str,some c=>some (.int .u8 c.toNat)
 |_,_=>none
theorem JG (C:bI) (T:TypeId) (l:nq) (k:IntKind) (n:Int):idx C T (.str l) (.int k n)=C7 (C.T T).k (bS l n):=by
 simp only[idx,bS];generalize (C.T T).k=iQ;cases iQ<;>first|rfl|(simp only[C7];split<;>first|rfl|(cases l[n.toNat]? <;>rfl))
def C8 (C:bI):lF->Option j->Option j
 | .slice e,some d=>if(C.T e).ok=true/\d.wd=(C.T e).sz then some (.ref d)else none
 |_,_=>none
theorem JH (C:bI) (s:ah) (T:TypeId) (xs:abN) (k:IntKind) (n:Int):iP C s T (.slice xs) (.int k n)=C8 C (C.T T).k (bS xs n):=by
 simp only[iP,bS];generalize (C.T T).k=iQ;cases iQ<;>first|rfl|skip
 simp only[C8];by_cases bq:0<=n
 .simp only[bq,true_and,if_true];split
  .cases xs[n.toNat]? <;>simp[*]
  .cases xs[n.toNat]? <;>simp[*]
 .simp only[bq,false_and,if_false]
def w5 (C:bI) (y:Nat) (q:abI) (n:Int):lF->Option j->Option j
 | .slice e,some (.ad sz xs)=>if(bS xs n).isSome=true/\(C.T e).ok=true/\sz=(C.T e).sz then some (.al y (q++[n.toNat]))else none
 |_,_=>none
theorem JI (C:bI) (s:ah) (T:TypeId) (y:Nat) (q:abI) (k:IntKind) (n:Int):iP C s T (.h y q) (.int k n)=w5 C y q n (C.T T).k (j.sub q (s y)):=by
 simp only[iP];generalize (C.T T).k=iQ;cases iQ<;>first|rfl|skip
 rename_i e;cases I:j.sub q (s y)with
 |none=>simp[w5]
 |some d=>
  cases d<;>first
   |(simp[w5];done)
   |skip
  rename_i sz xs;have bm:(bS xs n).isSome=true↔0<=n/\n.toNat<xs.length:=by
   unfold bS;split<;>simp_all<;>omega
  simp only[w5,bm];by_cases bq:0<=n<;>by_cases R:(C.T e).ok=true<;>simp[bq,R]
def uk:lF->ah->Option nq->Option (j×ah)
 | .str,s,some t=>some (.str t,s)
 |_,_,_=>none
def um (C:bI):lF->ah->abN->Option abN->Option (j×ah)
 | .slice e,s,xs,some t=>if(C.T e).ok=true/\∀d∈xs,d.wd=(C.T e).sz then some (.slice t,s)else none
 |_,_,_,_=>none
theorem JJ (C:bI) (s:ah) (T:TypeId) (l:nq):
  (∀k a cY b,fl C s T (.str l) (some (.int k a)) (some (.int cY b))=uk (C.T T).k s (jJ l a b))/\
  (∀cY b,fl C s T (.str l) none (some (.int cY b))=uk (C.T T).k s (jJ l 0 b))/\
  (∀k a,fl C s T (.str l) (some (.int k a)) none=uk (C.T T).k s (jJ l a l.length)):=by
 have e:∀(dU aw:Option j) (a b:Int),(gP 0 dU=if 0<=a then some a.toNat else none)->(gP l.length aw=if 0<=b then some b.toNat else none)->fl C s T (.str l) dU aw=uk (C.T T).k s (jJ l a b):=by
  intro dU aw a b R U;simp only[fl];generalize (C.T T).k=iQ;cases iQ<;>first|rfl|skip
  simp only[R,U,jJ];by_cases b8:0<=a<;>by_cases J:0<=b<;>simp only[b8,J,if_true,if_false,uk,true_and,false_and]
  .by_cases aj:a<=b/\b<=l.length
   .rw[if_pos ⟨by omega,by omega⟩,if_pos aj]
   .rw[if_neg (λh=>aj ⟨by omega,by omega⟩),if_neg aj]
  .rw[if_neg (by omega)]
 exact⟨λk a cY b=>e _ _ a b rfl rfl,λcY b=>e _ _ 0 b rfl rfl,λk a=>e _ _ a l.length rfl (by simp[gP])⟩
theorem JK (C:bI) (s:ah) (T:TypeId) (xs:abN):
  (∀k a cY b,fl C s T (.slice xs) (some (.int k a)) (some (.int cY b))=um C (C.T T).k s xs (jJ xs a b))/\
  (∀cY b,fl C s T (.slice xs) none (some (.int cY b))=um C (C.T T).k s xs (jJ xs 0 b))/\
  (∀k a,fl C s T (.slice xs) (some (.int k a)) none=um C (C.T T).k s xs (jJ xs a xs.length)):=by
 have e:∀(dU aw:Option j) (a b:Int),(gP 0 dU=if 0<=a then some a.toNat else none)->(gP xs.length aw=if 0<=b then some b.toNat else none)->fl C s T (.slice xs) dU aw=um C (C.T T).k s xs (jJ xs a b):=by
  intro dU aw a b R U;simp only[fl];generalize (C.T T).k=iQ;cases iQ<;>first|rfl|skip
  simp only[R,U,jJ];by_cases b8:0<=a<;>by_cases J:0<=b<;>simp only[b8,J,if_true,if_false,um,true_and,false_and]
  .by_cases aj:a<=b/\b<=xs.length
   .rw[if_pos aj];have R:a.toNat<=b.toNat:=by omega
    have U:b.toNat<=xs.length:=by omega
    simp only[R,U,true_and]
   .rw[if_neg (λh=>aj ⟨by omega,by omega⟩),if_neg aj]
  .rw[if_neg (by omega)]
 exact⟨λk a cY b=>e _ _ a b rfl rfl,λcY b=>e _ _ 0 b rfl rfl,λk a=>e _ _ a xs.length rfl (by simp[gP])⟩
def w6 (q:abI):Option j->Option j
 |some d=>j.sub q d
 |none=>none
theorem JL:(∀d,j.sub [] d=some d)/\(∀k q ar,j.sub (k::q) (.agg ar)=w6 q ar[k]?)/\(∀k q ar,j.sub (k::q) (.tuple ar)=w6 q ar[k]?)/\(∀k q sz xs,j.sub (k::q) (.ad sz xs)=w6 q xs[k]?)/\
  (∀q d,j.sub (0::q) (.aD d)=j.sub q d)/\(∀q d,w6 q (some d)=j.sub q d)/\
  (∀k q a b,j.sub (k::q) (.int a b)=none):=by
 refine⟨λd=>by simp[j.sub],?_,?_,?_,λq d=>by simp[j.sub],λ_ _=>rfl,λ_ _ _ _=>by simp[j.sub]⟩
 .intro k q ar;simp only[j.sub];cases ar[k]? <;>rfl
 .intro k q ar;simp only[j.sub];cases ar[k]? <;>rfl
 .intro k q sz ar;simp only[j.sub];cases ar[k]? <;>rfl
def JM (k:Nat) (q:abI) (n:j) (ar:abN):Option j->j
 |some d=>.agg (ar.set k (j.put q n d))
 |none=>.agg ar
def JN (k:Nat) (q:abI) (n:j) (ar:abN):Option j->j
 |some d=>.tuple (ar.set k (j.put q n d))
 |none=>.tuple ar
def JO (k:Nat) (q:abI) (n:j) (sz:Nat) (xs:abN):Option j->j
 |some d=>.ad sz (xs.set k (j.put q n d))
 |none=>.ad sz xs
theorem JP:(∀n d,j.put [] n d=n)/\(∀k q n ar,j.put (k::q) n (.agg ar)=JM k q n ar ar[k]?)/\(∀k q n ar,j.put (k::q) n (.tuple ar)=JN k q n ar ar[k]?)/\
  (∀k q n sz xs,j.put (k::q) n (.ad sz xs)=JO k q n sz xs xs[k]?)/\(∀q n d,j.put (0::q) n (.aD d)= .aD (j.put q n d))/\
  (∀k q n ar d,JM k q n ar (some d)= .agg (ar.set k (j.put q n d)))/\(∀k q n ar d,JN k q n ar (some d)= .tuple (ar.set k (j.put q n d)))/\
  (∀k q n sz xs d,JO k q n sz xs (some d)= .ad sz (xs.set k (j.put q n d))):=by
 refine⟨λn d=>by simp[j.put],?_,?_,?_,λq n d=>by simp[j.put],λ_ _ _ _ _=>rfl,λ_ _ _ _ _=>rfl,λ_ _ _ _ _ _=>rfl⟩
 .intro k q n ar;simp only[j.put];cases ar[k]? <;>rfl
 .intro k q n ar;simp only[j.put];cases ar[k]? <;>rfl
 .intro k q n sz ar;simp only[j.put];cases ar[k]? <;>rfl
theorem C9:(∀k n,j.wd (.int k n)=1)/\(∀b,j.wd (.bool b)=1)/\(∀x,j.wd (.str x)=1)/\(∀x,j.wd (.slice x)=1)/\(∀n x,j.wd (.ad n x)=1)/\(∀x,j.wd (.ref x)=1)/\(∀x,j.wd (.aD x)=1)/\
  j.wd .aJ=1/\j.wd .c8=1/\j.wd .hole=1/\j.wd .eF=1/\(∀x y,j.wd (.h x y)=1)/\(∀x y,j.wd (.al x y)=1)/\(∀x y,j.wd (.fn x y)=1)/\(∀ar,j.wd (.agg ar)=j.c6 ar)/\(∀ar,j.wd (.tuple ar)=j.c6 ar)/\j.c6 []=0/\(∀d ds,j.c6 (d::ds)=d.wd+j.c6 ds):=by
 simp[j.wd,j.c6]
theorem RD {α:Type} {e:α->j} {n:Nat} (h:∀x,(e x).wd=n) (xs:List α):(∀d∈xs.map e,d.wd=n)=True:=by
 simp only[List.mem_map,eq_iff_iff,iff_true];rintro d ⟨x,_,rfl⟩;exact h x
theorem RE (C:bI) (s:ah) (A B:TypeId) (k cY:IntKind) (n:Int) (e5:(C.T A).ok=true) (fZ:(C.T B).k= .int cY):hJ C s A B (.int k n)=some (.int cY (cY.wrap n)):=by
 simp only[hJ,e5,fZ,if_true]
theorem JQ (m:Int):jR (pO m)= .int .u8 (u8.wrap m):=by
 have h:0<=u8.wrap m/\u8.wrap m<256:=by rw[wrap_u8];omega
 simp only[jR,pO,UInt8.toNat_ofNat'];congr 1;omega
theorem C_ (m:Int):((pO m).toNat:Int)=u8.wrap m:=by
 have h:=JQ m;simpa [jR]using h
section
variable {C:bI} {l:abM} {Q:Exit->ah->Prop} {s:ah}
theorem h3 {ros:List bG} {k:abI} (h:cm C (an l) ros none (λ_ s=>Q .normal (an (fH k s)))):bk C (.eK ros (some k)) Q (an l):=ug (λ_ _ h=>h) h
theorem w7 {ros:List bG} {eo:abG} {k:abI} (hlen:eo.length=ros.length) (h:cm C (an l) ros (some []) (λacc s=>jX (o7 eo) 0 [] (acc.getD []).reverse=true/\Q .normal (an (fH k s)))):
  bk C (.ie ros eo (some k)) Q (an l):=Jp hlen h
theorem RF {a b:aP} (h:∀dE:Exit->ah->Prop,(∀s,eg (bk C b Q) s->dE .normal s)->(∀s,Q .ret s->dE .ret s)->(∀i s,Q (.exit i) s->dE (.exit i) s)->bk C a dE s):bk C (.seq a b) Q s:=
 h _ (λ_ h=>h) (λ_ h=>h) (λ_ _ h=>h)
theorem dm {ros:List bG} {k:abI} {b:aP} (h:cm C (an l) ros none (λ_ s=>bk C b Q (an (fH k s)))):bk C (.seq (.eK ros (some k)) b) Q (an l):=ug (λ_ _ h=>.inl h) h
theorem w8 {ros:List bG} {eo:abG} {k:abI} {b:aP} (hlen:eo.length=ros.length) (h:cm C (an l) ros (some []) (λacc s=>jX (o7 eo) 0 [] (acc.getD []).reverse=true/\bk C b Q (an (fH k s)))):
  bk C (.seq (.ie ros eo (some k)) b) Q (an l):=Jp (K:=λs=>eg (bk C b Q) (an (fH k s))) hlen (by
   have key:∀(os:List bG) (s:ah) (acc:Option (List ez)),cm C s os acc (λacc s=>jX (o7 eo) 0 [] (acc.getD []).reverse=true/\bk C b Q (an (fH k s)))->
     cm C s os acc (λacc s=>jX (o7 eo) 0 [] (acc.getD []).reverse=true/\eg (bk C b Q) (an (fH k s))):=by
    intro os;induction os with
    |nil=>intro s acc h;exact⟨h.1,.inl h.2⟩
    |cons o os ih=>
     intro s acc h;have mono:∀{s:ah} {bp:c9} {K cR:abI->j->ah->Prop},(∀a b c,K a b c->cR a b c)->kg C s bp K->kg C s bp cR:=by
      intro s bp K cR ak h;cases bp with
      |call f args=>
       obtain⟨g,caps,ps,r,R,fG,U,aA,aU,bt,b5,cd,dQ⟩:=h;exact⟨g,caps,ps,r,R,fG,U,aA,aU,bt,b5,cd,ak _ _ _ dQ⟩
      |shr bp=>obtain⟨av,s1,R,U,aA,aU⟩:=h;exact⟨av,s1,R,U,aA,ak _ _ _ aU⟩
      |iT f args us=>
       obtain⟨cc,g,caps,ps,r,R,fG,U,aA,aU,bt,b5,cd,dQ,gQ⟩:=h;exact⟨cc,g,caps,ps,r,R,fG,U,aA,aU,bt,b5,cd,dQ,ak _ _ _ gQ⟩
      |kt T x y u=>obtain⟨bU,s1,R,U⟩:=h;exact⟨bU,s1,R,ak _ _ _ U⟩
      |_=>obtain⟨av,s1,R,U⟩:=h;exact⟨av,s1,R,ak _ _ _ U⟩
     simp only[cm,jf]at h⊢;split
     .rename_i bm;rw[bm]at h;exact mono (λ_ _ _=>ih _ _) h
     .rename_i t eI bm;rw[bm]at h;simp only at h;split
      .rename_i aaJ I;rw[I]at h;simp only at h;split
       .rename_i J;rw[if_pos J]at h;exact mono (λ_ _ _=>ih _ _) h
       .rename_i J;rw[if_neg J]at h;exact ih _ _ h
      .rename_i I;rw[I]at h;exact ih _ _ h
      .rename_i R U;split at h
       .exact R _ (by assumption)
       .exact U (by assumption)
       .exact h
   exact key _ _ _ h)
theorem jg {c:aZ} {a b:aP} (aj:aX s c= .bool true) (h:bk C a Q s):bk C (.cond c a b) Q s:=by simp only[bk,aj,if_true];exact h
theorem o8 {c:aZ} {a b:aP} (aj:aX s c= .bool false) (h:bk C b Q s):bk C (.cond c a b) Q s:=by simp only[bk,aj];exact h
theorem JR {c:aZ} {a b:aP} (aj:aX s c= .eF) (R:bk C a Q s) (U:bk C b Q s):bk C (.cond c a b) Q s:=by simp only[bk,aj];exact⟨R,U⟩
theorem RG {id:Nat} {b:aP} (h:∀dE:Exit->ah->Prop,(∀s,Q .normal s->dE .normal s)->(∀s,Q .ret s->dE .ret s)->(∀s,Q .normal s->dE (.exit id) s)->(∀i s,i≠id->Q (.exit i) s->dE (.exit i) s)->bk C b dE s):bk C (.block id b) Q s:=
 h (ud id Q) (λ_ h=>h) (λ_ h=>h) (λs h=>by simp only[ud,if_true];exact h) (λi s aw h=>by simp only[ud,if_neg aw];exact h)
theorem dq {id:Nat} (h:Q (.exit id) s):bk C (.exit id) Q s:=h
theorem o9 (h:Q .ret s):bk C .ret Q s:=h
theorem bn (h:Q .normal s):bk C .skip Q s:=h
def c_ (C:bI) (b:aP) (Q:Exit->ah->Prop) (s:ah):Prop:=∀Z:ah->Prop,(∀aq,bk C b (andThen (eg Z) Q) aq->Z aq)->Z s
theorem lN {b:aP} (h:eg (c_ C b Q) s):bk C (.loop b) Q s:=h
theorem RH {b:aP} (h:∀dE:Exit->ah->Prop,(∀s,eg (c_ C b Q) s->dE .normal s)->(∀s,Q .ret s->dE .ret s)->(∀i s,Q (.exit i) s->dE (.exit i) s)->bk C b dE s):c_ C b Q s:=by
 intro Z ue;refine ue s (I1 b ?_ (h (andThen (eg (c_ C b Q)) Q) (λ_ h=>h) (λ_ h=>h) (λ_ _ h=>h)));intro e aq bz;cases e with
 |normal=>exact si (λs h=>h Z ue) aq bz
 |_=>exact bz
theorem cr {bW:abM} (h:bW.map (·.2)=bW.map λp=>s p.1):uc s bW:=by
 intro p al;left;induction bW with
 |nil=>cases al
 |cons a bW ih=>
  simp only[List.map_cons,List.cons.injEq]at h;rcases List.mem_cons.1 al with rfl|al
  .exact h.1
  .exact ih h.2 al
end
section
variable {C:bI} {l:abM} {Q:Exit->ah->Prop} {s:ah} {os ros:List bG} {K:Option (List ez)->ah->Prop} {dst:Option Nat}
theorem JS (l:abM):(∀n,aX (an l) (.t n)=mT n (an l n))/\(∀av,aX (an l) (.c av)=av)/\(∀g,aX (an l) (.f g)= .fn g []):=⟨λ_=>rfl,λ_=>rfl,λ_=>rfl⟩
theorem JT:(∀t,an [] t= .hole)/\(∀u d (l:abM) t,an ((u,d)::l) t=if t=u then d else an l t):=⟨λ_=>rfl,λ_ _ _ _=>rfl⟩
theorem JU (s:ah):fH [] s=[]/\(∀t k,fH (t::k) s=(t,s t)::fH k s):=⟨rfl,λ_ _=>rfl⟩
theorem JV (s:ah):(∀d,jY s (some d)=some (d,s))/\(∀s1,dg (some s1)=some (.hole,s1))/\ig s []=[]/\(∀x xs,ig s (x::xs)=aX s x::ig s xs)/\qW s []=[]/\(∀k x xs,qW s ((k,x)::xs)=(k,aX s x)::qW s xs)/\
  w2 s none=none/\(∀x,w2 s (some x)=some (aX s x))/\(∀b x y,Js s (.bool b) x y=some (if b=true then x else y,s)):=
 ⟨λ_=>rfl,λ_=>rfl,rfl,λ_ _=>rfl,rfl,λ_ _ _=>rfl,rfl,λ_=>rfl,λb _ _=>by cases b<;>rfl⟩
theorem JW (C:bI):(∀e d,C8 C (.slice e) (some d)=if(C.T e).ok=true/\d.wd=(C.T e).sz then some (.ref d)else none)/\
  (∀y q n e sz xs,w5 C y q n (.slice e) (some (.ad sz xs))=if(bS xs n).isSome=true/\(C.T e).ok=true/\sz=(C.T e).sz then some (.al y (q++[n.toNat]))else none)/\
  (∀e s xs t,um C (.slice e) s xs (some t)=if(C.T e).ok=true/\∀d∈xs,d.wd=(C.T e).sz then some (.slice t,s)else none):=
 ⟨λ_ _=>rfl,λ_ _ _ _ _ _=>rfl,λ_ _ _ _=>rfl⟩
theorem JX:(∀b,C6 .bool b=some (.bool b))/\(∀c,C7 .str (some c)=some (.int .u8 c.toNat))/\(∀s t,uk .str s (some t)=some (.str t,s))/\(∀q d,w6 q (some d)=j.sub q d):=
 ⟨λ_=>rfl,λ_=>rfl,λ_ _=>rfl,λ_ _=>rfl⟩
theorem JY (sz bytes:Nat) (z:j):(∀k,fu.ok ⟨.int k,sz,bytes,z⟩=true)/\fu.ok ⟨.bool,sz,bytes,z⟩=true/\fu.ok ⟨.str,sz,bytes,z⟩=true/\(∀e,fu.ok ⟨.ptr e,sz,bytes,z⟩=true)/\(∀e,fu.ok ⟨.slice e,sz,bytes,z⟩=true)/\(∀e,fu.ok ⟨.struct e,sz,bytes,z⟩=true)/\fu.ok ⟨.fn,sz,bytes,z⟩=true:=by
 simp[fu.ok]
theorem JZ (sz bytes:Nat) (z:j):(∀k,fu.flat ⟨.int k,sz,bytes,z⟩=true)/\fu.flat ⟨.bool,sz,bytes,z⟩=true/\fu.flat ⟨.str,sz,bytes,z⟩=true/\(∀e,fu.flat ⟨.ptr e,sz,bytes,z⟩=true)/\(∀e,fu.flat ⟨.slice e,sz,bytes,z⟩=true)/\(∀e,fu.flat ⟨.struct e,sz,bytes,z⟩=false)/\fu.flat ⟨.fn,sz,bytes,z⟩=true:=by
 simp[fu.flat]
theorem w9 (c:UInt8) (k:IntKind) (ak:k≠.i8):k.wrap (c.toNat:Int)=(c.toNat:Int):=by
 have:=c.toNat_lt;cases k<;>first|(exact(ak rfl).elim)|(simp[wrap,IntKind.bits,signed];try omega)
theorem Da (c:UInt8):i64.wrap (c.toNat:Int)=(c.toNat:Int)/\u64.wrap (c.toNat:Int)=(c.toNat:Int)/\u8.wrap (c.toNat:Int)=(c.toNat:Int)/\i32.wrap (c.toNat:Int)=(c.toNat:Int)/\u32.wrap (c.toNat:Int)=(c.toNat:Int):=
 ⟨w9 c _ (by simp),w9 c _ (by simp),w9 c _ (by simp),w9 c _ (by simp),w9 c _ (by simp)⟩
theorem cA {k:abI} {K:ah->Prop} (bW:abM) (h:∀P:abM->Prop,P bW->cm C (an l) ros none (λ_ s=>P (fH k s))) (ak:K (an bW)):cm C (an l) ros none (λ_ s=>K (an (fH k s))):=
 h (λl=>K (an l)) ak
theorem o_ {k:abI} {lM:abG} {K:ah->Prop} (bW:abM) (h:∀P:abM->Prop,P bW->cm C (an l) ros (some []) (λacc s=>jX lM 0 [] (acc.getD []).reverse=true/\P (fH k s))) (ak:K (an bW)):
  cm C (an l) ros (some []) (λacc s=>jX lM 0 [] (acc.getD []).reverse=true/\K (an (fH k s))):=
 h (λl=>K (an l)) ak
theorem bx.RI (a_:C.Ok) {f:FuncId} {fn:Func} {c:Code} {dO:aP} {fx:abI} {as outs:abN} {r:j} (a6:C.P.funcs[f]? =some fn) (J:fn.body=some c)
  (je:(fn.name== "runtime.NumGoroutine")=false) (I:fm ⟨fn.ntmps,fx⟩ c=some dO.strip) (a7:as.length<=fn.ntmps)
  (h:∀Q:Exit->ah->Prop,(∀s,eg (Ends C fx fn.results.toList r outs) s->Q .ret s)->(∀s,eg (Ends C fx fn.results.toList r outs) s->Q .normal s)->bk C dO Q (an (num 0 as))) (al:dO.plain=true:=by kernel_rfl):bx C f as r outs:=by
 refine bx.of_wp a_ a6 J je I a7 ?_ al;rw[CU];exact h _ (λs h=>⟨.inr rfl,h⟩) (λs h=>⟨.inl rfl,h⟩)
def zo:abN->j
 |[d]=>d
 |ds=>.tuple ds
theorem qY {fx:abI} {dM:List ResultVar} {r:j} {outs:abN} (ds:abN) (R:dM.map (n3 C s)=ds.map some) (U:r=zo ds) (aA:(dM.map h2).Nodup)
  (aU:∀(i:Nat) (o:j),outs[i]? =some o->o= .hole\/(o=s i/\o.fv=true/\i∈fx/\i∉dM.map h2)):Ends C fx dM r outs s:=.inl ⟨ds,R,by subst U;cases ds with|nil=>rfl|cons a t=>cases t<;>rfl,aA,aU⟩
theorem RJ {fx:abI} {dM:List ResultVar}:∀(i:Nat) (o:j),([]:abN)[i]? =some o->o= .hole\/(o=s i/\o.fv=true/\i∈fx/\i∉dM.map h2):=λi o h=>by simp at h
theorem J0:∀(as ds:abN),(k5 as ds).filter (·.g)=[]
 |[],_=>rfl
 |_::_,[]=>rfl
 |a::as,d::ds=>by simp only[k5,List.filter_cons];exact J0 as ds
theorem zp {f:aZ} {args:List aZ} {g:FuncId} {caps:abN} {K:abI->j->ah->Prop} (ds:abN) (r:j)
  (R:aX (an l) f= .fn g caps) (fG:j.dF caps=true) (ib:views (an l) (ig (an l) args++caps)=some ds)
  (bt:bx C g ds r []) (b5:r.res=true) (cd:j.dv (ig (an l) args++caps)=[]\/r.cL=true) (hK:K [] r (an l)):kg C (an l) (.call f args) K:=by
 obtain⟨aK,aV,a1,b6,cH,bT,bK⟩:=QZ _ _ ib;refine⟨g,caps,k5 (ig (an l) args++caps) ds,r,R,fG,by rw[aK,w3],λp al=>(a1 p al).1,b6,by rw[aV];exact bt.outs cH.symm,b5,?_,by rw[bT,bK,J0];exact hK⟩;intro hl;refine⟨?_,λp al=>by rw[(a1 p al).2.2.1];rfl⟩;rcases cd with cd|cd
 .exfalso;simp only[iD,List.any_eq_true]at hl;obtain⟨p,al,f_⟩:=hl;have hm:=(a1 p al).2.2.2;have:p.a.I=[]:=by
   have key:∀(as:abN) (a:j),a∈as->j.dv as=[]->a.I=[]:=by
    intro as;induction as with
    |nil=>intro a h;cases h
    |cons b as ih=>
     intro a h he;simp only[j.dv,List.append_eq_nil_iff]at he;rcases List.mem_cons.1 h with rfl|h
     .exact he.1
     .exact ih a h he.2
   exact key _ _ hm cd
  rw[this]at f_;simp at f_
 .exact cd
theorem dS {f:aZ} {args:List aZ} {g:FuncId} {caps:abN} {ds:abN} {r:j} (bt:bx C g ds r [])
  (R:aX (an l) f= .fn g caps:=by rfl) (fG:j.dF caps=true:=by rfl) (ib:views (an l) (ig (an l) args++caps)=some ds:=by rfl)
  (b5:r.res=true:=by rfl) (cd:j.dv (ig (an l) args++caps)=[]\/r.cL=true:=by exact .inl (by rfl))
  (hK:cm C (fin (an l) dst r) os none K):cm C (an l) (⟨dst,.call f args,none⟩::os) none K:=by
 simp only[cm,jf,n5];exact zp ds r R fG ib bt b5 cd hK
theorem k7 {a:List ez} {f:aZ} {args:List aZ} {g:FuncId} {caps:abN} {ds:abN} {r:j} (bt:bx C g ds r [])
  (R:aX (an l) f= .fn g caps:=by rfl) (fG:j.dF caps=true:=by rfl) (ib:views (an l) (ig (an l) args++caps)=some ds:=by rfl)
  (b5:r.res=true:=by rfl) (cd:j.dv (ig (an l) args++caps)=[]\/r.cL=true:=by exact .inl (by rfl))
  (hK:cm C (fin (an l) dst r) os (some (hC (an l) (use (an l) (.call f args)) dst [] r::a)) K):cm C (an l) (⟨dst,.call f args,none⟩::os) (some a) K:=by
 simp only[cm,jf,n5];exact zp ds r R fG ib bt b5 cd hK
theorem iE {t:Nat} {b:Bool} {f:aZ} {args:List aZ} {g:FuncId} {caps:abN} {ds:abN} {r:j} (bt:bx C g ds r [])
  (R:aX (an l) f= .fn g caps:=by rfl) (fG:j.dF caps=true:=by rfl) (ib:views (an l) (ig (an l) args++caps)=some ds:=by rfl)
  (b5:r.res=true:=by rfl) (cd:j.dv (ig (an l) args++caps)=[]\/r.cL=true:=by exact .inl (by rfl))
  (hK:cm C (fin (an l) dst r) os none K):jt C l dst (.call f args) t b os none K (.bool b):=by
 simp only[jt,if_true];exact zp ds r R fG ib bt b5 cd hK
theorem Db {a:List ez} {t:Nat} {b:Bool} {f:aZ} {args:List aZ} {g:FuncId} {caps:abN} {ds:abN} {r:j} (bt:bx C g ds r [])
  (R:aX (an l) f= .fn g caps:=by rfl) (fG:j.dF caps=true:=by rfl) (ib:views (an l) (ig (an l) args++caps)=some ds:=by rfl)
  (b5:r.res=true:=by rfl) (cd:j.dv (ig (an l) args++caps)=[]\/r.cL=true:=by exact .inl (by rfl))
  (hK:cm C (fin (an l) dst r) os (some (hC (an l) (t::use (an l) (.call f args)) dst [] r::a)) K):jt C l dst (.call f args) t b os (some a) K (.bool b):=by
 simp only[jt,if_true];exact zp ds r R fG ib bt b5 cd hK
theorem iF (s:ah):views s []=some []/\(∀d ds,views s (d::ds)=(match view s d,views s ds with|some a,some b=>some (a::b)|_,_=>none))/\
  (∀k n,view s (.int k n)=some (.int k n))/\(∀b,view s (.bool b)=some (.bool b))/\(∀x,view s (.str x)=some (.str x))/\(∀x,view s (.slice x)=some (.slice x))/\(∀x,view s (.ref x)=some (.ref x))/\
  view s .aJ=some .aJ/\view s .c8=some .c8/\(∀ar,view s (.agg ar)=some (.agg ar))/\(∀f cap,view s (.fn f cap)=(views s cap).map (.fn f)):=by
 refine⟨rfl,λd ds=>?_,λ_ _=>rfl,λ_=>rfl,λ_=>rfl,λ_=>rfl,λ_=>rfl,rfl,rfl,λ_=>rfl,λ_ _=>by simp only[view]⟩;simp only[views];rfl
theorem c2 {α:Type} {u e:α->j} (h:∀x,(u x).share=e x) (xs:List α):j.shares (xs.map u)=xs.map e:=by
 rw[j.qB];simp[h]
theorem ju {α:Type} {u:α->j} (h:∀x,(u x).cL=true) (xs:List α):j.hN (xs.map u)=true:=by
 induction xs with
 |nil=>rfl
 |cons x xs ih=>simp only[List.map_cons,j.hN,h,ih,Bool.and_self]
def qZ (s:ah) (H:abI):abM->Prop
 |[]=>True
 |p::l=>(p.2=s p.1\/((s p.1).tree=true/\dW (s p.1) p.2/\p.1∉H))/\qZ s H l
theorem kD {bW:abM} (H:abI) (hB:j.dv (bW.map (·.2))=H) (h:qZ s H bW):uc s bW:=by
 have key:∀(en:abM),qZ s H en->∀p∈en,p.2=s p.1\/((s p.1).tree=true/\dW (s p.1) p.2/\p.1∉H):=by
  intro en;induction en with
  |nil=>intro _ p al;cases al
  |cons a en ih=>
   intro h p al;rcases List.mem_cons.1 al with rfl|al
   .exact h.1
   .exact ih h.2 p al
 have I:∀(en:abM),∀b7∈en,∀u∈b7.2.I,u∈j.dv (en.map (·.2)):=by
  intro en;induction en with
  |nil=>intro p al;cases al
  |cons a en ih=>
   intro p al u hu;simp only[List.map_cons,j.dv,List.mem_append];rcases List.mem_cons.1 al with rfl|al
   .exact .inl hu
   .exact .inr (ih p al u hu)
 intro p al;rcases key _ h p al with R|⟨R,U,aA⟩
 .exact .inl R
 .refine .inr ⟨R,U,λb7 dp=>.inl λhm=>aA ?_⟩;rw[<-hB];exact I bW b7 dp _ hm
def q0 (s:ah) (H D:abI):abM->Prop
 |[]=>True
 |p::l=>(p.2=s p.1\/((s p.1).tree=true/\dW (s p.1) p.2/\(p.1∉H\/((s p.1).own=true/\p.2.own=true/\p.1∉D))))/\q0 s H D l
theorem RK {bW:abM} (H D:abI) (hB:j.dv (bW.map (·.2))=H) (Dc:j.qR (bW.map (·.2))=D) (h:q0 s H D bW):uc s bW:=by
 have key:∀(en:abM),q0 s H D en->∀p∈en,p.2=s p.1\/((s p.1).tree=true/\dW (s p.1) p.2/\(p.1∉H\/((s p.1).own=true/\p.2.own=true/\p.1∉D))):=by
  intro en;induction en with
  |nil=>intro _ p al;cases al
  |cons a en ih=>
   intro h p al;rcases List.mem_cons.1 al with rfl|al
   .exact h.1
   .exact ih h.2 p al
 have I:∀(en:abM),∀b7∈en,(∀u∈b7.2.I,u∈j.dv (en.map (·.2)))/\∀u∈b7.2.qQ,u∈j.qR (en.map (·.2)):=by
  intro en;induction en with
  |nil=>intro p al;cases al
  |cons a en ih=>
   intro p al;simp only[List.map_cons,j.dv,j.qR,List.mem_append];rcases List.mem_cons.1 al with rfl|al
   .exact⟨λu hu=>.inl hu,λu hu=>.inl hu⟩
   .exact⟨λu hu=>.inr ((ih p al).1 u hu),λu hu=>.inr ((ih p al).2 u hu)⟩
 intro p al;rcases key _ h p al with R|⟨R,U,aA⟩
 .exact .inl R
 .refine .inr ⟨R,U,λb7 dp=>?_⟩;rcases aA with aA|⟨jV,kx,tX⟩
  .exact .inl λhm=>aA (by rw[<-hB];exact(I bW b7 dp).1 _ hm)
  .exact .inr ⟨jV,kx,λhm=>tX (by rw[<-Dc];exact(I bW b7 dp).2 _ hm)⟩
theorem RL {H D:abI}:q0 s H D []:=trivial
theorem w_ {H D:abI} {t:Nat} {d:j} {bW:abM} (h:d=s t) (hl:q0 s H D bW):q0 s H D ((t,d)::bW):=⟨.inl h,hl⟩
theorem RM {H D:abI} {t:Nat} {d bb:j} {bW:abM} (e:s t=d) (aL:d.tree=true) (ae:dW d bb) (R:d.own=true) (U:bb.own=true) (Dc:t∉D) (hl:q0 s H D bW):q0 s H D ((t,bb)::bW):=
 ⟨.inr ⟨by rw[e];exact aL,by rw[e];exact ae,.inr ⟨by rw[e];exact R,U,Dc⟩⟩,hl⟩
theorem kE {H:abI}:qZ s H []:=trivial
theorem dh {H:abI} {t:Nat} {d:j} {bW:abM} (h:d=s t) (hl:qZ s H bW):qZ s H ((t,d)::bW):=⟨.inl h,hl⟩
theorem jv {H:abI} {t:Nat} {d bb:j} {bW:abM} (e:s t=d) (aL:d.tree=true) (ae:dW d bb) (hB:t∉H) (hl:qZ s H bW):qZ s H ((t,bb)::bW):=⟨.inr ⟨by rw[e];exact aL,by rw[e];exact ae,hB⟩,hl⟩
theorem J1 {a b:j} (h:dW a b):∀n,jd (List.replicate n a) (List.replicate n b)
 |0=>.nil
 |n+1=>by simp only[List.replicate_succ];exact .cons h (J1 h n)
theorem J2 {α:Type} {sz:Nat} {u:α->j} {z:α} {a:j} (h:dW a (u z)) (n:Nat):dW (.ad sz (List.replicate n a)) (.ad sz ((List.replicate n z).map u)):=by
 rw[List.map_replicate];exact .ad (J1 h n)
end
theorem RN {C:bI} {A B:TypeId} {cY:IntKind} (e5:(C.T A).ok=true) (fZ:(C.T B).k= .int cY):∀s k n,hJ C s A B (.int k n)=some (.int cY (cY.wrap n)):=λs k n=>RE C s A B k cY n e5 fZ
def J3:Option j->Option j
 |some (.ad 1 xs)=>(bytesOf xs).map .str
 |_=>none
theorem RO {C:bI} {A B e:TypeId} (e5:(C.T A).k= .slice e) (fZ:(C.T B).k= .str) (he:(C.T e).k= .int .u8):
  (∀s xs,hJ C s A B (.slice xs)=(bytesOf xs).map .str)/\(∀s,hJ C s A B .aJ=some (.str []))/\(∀s x q,hJ C s A B (.h x q)=J3 (j.sub q (s x))):=by
 have wz:(C.T A).ok=true:=by simp[fu.ok,e5]
 refine⟨λs xs=>?_,λs=>?_,λs x q=>?_⟩
 .simp only[hJ,wz,e5,fZ,he,if_true]
 .simp only[hJ,wz,e5,fZ,he,if_true]
 .simp only[hJ,wz,e5,fZ,he,if_true];rfl
theorem RP (xs:abN):J3 (some (.ad 1 xs))=(bytesOf xs).map .str:=rfl
theorem J4 (c:UInt8) (r:abN):bytesOf (jR c::r)=(bytesOf r).map (c::·):=by
 have:=c.toNat_lt;simp only[jR,bytesOf];rw[if_pos (by omega)];simp
theorem RQ:bytesOf []=some []/\
  (∀l:nq,bytesOf (l.map jR)=some l)/\
  (∀c r,bytesOf (.int .u8 (c.toNat:Int)::r)=(bytesOf r).map (c::·))/\
  (∀m r,bytesOf (.int .u8 (u8.wrap m)::r)=(bytesOf r).map (pO m::·)):=
 ⟨rfl,Ow,λc r=>J4 c r,λm r=>by rw[<-JQ];exact J4 _ r⟩
theorem RR {k:IntKind} {b:Int} (h:b≠0):∀a,hH .quo k a k b=some (.int k (k.wrap (a.tdiv b))):=λ_=>RB h
theorem RS {k:IntKind} {b:Int} (h:b≠0):∀a,hH .rem k a k b=some (.int k (a.tmod b)):=λ_=>RC h
theorem jw {α:Type} {e:α->j} {n:Nat} (h:∀x,(e x).wd=n):∀xs:List α,(∀d∈xs.map e,d.wd=n)=True:=RD h
theorem jx {P:j->Prop} (d:j) (ds:abN):(∀x∈d::ds,P x)=(P d/\∀x∈ds,P x):=by simp
theorem all_nil {P:j->Prop}:(∀x∈([]:abN),P x)=True:=by simp
def J5 (a b:nq):Option Unit->Option j
 |some _=>some (.str (a++b))
 |none=>none
theorem J6 (a b:nq):mc .add a b=J5 a b (oK (a.length+b.length)):=by
 simp only[mc,oK];split<;>rfl
theorem J7 (a b:nq) (u:Unit):J5 a b (some u)=some (.str (a++b)):=rfl
theorem J8:(∀l:abI,[]++l=l)/\(∀a (l m:abI),(a::l)++m=a::(l++m)):=⟨λ_=>rfl,λ_ _ _=>rfl⟩
def J9 (C:bI) (e bM:TypeId):Bool:=(C.T e).ok&&((C.T e).zero.wd==(C.T e).sz)&&(flat (C.T e).zero).isSome&&yQ C e bM
def zq (C:bI) (e:TypeId) (xs:abN):Option (abN×ah)->Option (j×ah)
 |some (bO,s2)=>if(∀d∈bO,d.wd=(C.T e).sz)/\(room (C.T e).bytes (xs.length+bO.length)).isSome=true then some (.ad (C.T e).sz (xs++bO),s2)else none
 |none=>none
def Dd (C:bI) (e:TypeId) (y:j) (o:Option Nat):Option (j×ah)->Option (j×ah)
 |some (.ad sz xs,s1)=>if sz=(C.T e).sz then zq C e xs (kd s1 (jl o y))else none
 |_=>none
theorem RT (b n:Nat):(room b n).isSome=true↔n*b<=140737488355328/\n<=9223372036854775807:=by unfold room;split<;>simp_all
theorem jy {C:bI} {T bM e:TypeId} (fg:(C.T T).k= .slice e) (eP:J9 C e bM=true):∀s x y,p1 C s T bM x y=Dd C e y x.owner (o0 C e s x):=by
 intro s x y;simp only[J9,Bool.and_eq_true,beq_iff_eq]at eP;rw[Cj,fg];simp only;rw[if_pos ⟨eP.1.1.1,eP.1.1.2,eP.1.2,eP.2⟩];generalize x.owner=o;cases o0 C e s x with
 |none=>rfl
 |some p=>
  obtain⟨d,s1⟩:=p;cases d<;>first
   |rfl
   |(simp only[Dd]
     split
     .rename_i h;subst h;generalize kd s1 (jl o y)=z;cases z with
      |none=>rfl
      |some p=>simp only[zq,RT]
     .rfl)
def J_:Option (j×ah)->Option (abN×ah)
 |some (.ad _ bO,s2)=>some (bO,s2)
 |_=>none
theorem jz (s:ah):kd s .aJ=some ([],s)/\(∀bO,kd s (.slice bO)=some (bO,s))/\(∀l,kd s (.str l)=some (l.map jR,s))/\
  (∀a q,kd s (.h a q)=J_ (cg s (.h a q)))/\(∀n bO,J_ (some (.ad n bO,s))=some (bO,s)):=
 ⟨rfl,λ_=>rfl,λ_=>rfl,λ_ _=>by simp only[kd];rfl,λ_ _=>rfl⟩
theorem jA (C:bI) (e:TypeId):(∀s,o0 C e s .aJ=some (.ad (C.T e).sz [],s))/\(∀s a q,o0 C e s (.h a q)=cg s (.h a q))/\
  (∀y o sz xs s1,Dd C e y o (some (.ad sz xs,s1))=if sz=(C.T e).sz then zq C e xs (kd s1 (jl o y))else none)/\
  (∀xs bO s2,zq C e xs (some (bO,s2))=if(∀d∈bO,d.wd=(C.T e).sz)/\(room (C.T e).bytes (xs.length+bO.length)).isSome=true then some (.ad (C.T e).sz (xs++bO),s2)else none):=
 ⟨λ_=>rfl,λ_ _ _=>rfl,λ_ _ _ _ _=>rfl,λ_ _ _=>rfl⟩
theorem iY:(∀d,jl none d=d)/\(∀x d,jl (some x) d=bV x d)/\(∀x q,j.owner (.h x q)=some x)/\j.owner .aJ=none:=
 ⟨λ_=>rfl,λ_ _=>rfl,λ_ _=>rfl,rfl⟩
def Ka (s:ah) (x:Nat) (q:abI):Option j->Option (j×ah)
 |some d=>if d.plain=true then none else some (d,ck (e_ x s) x (j.put q d.cf (s x)))
 |none=>none
theorem Kb (s:ah) (x:Nat) (q:abI):cg s (.h x q)=Ka s x q (j.sub q (s x)):=by
 simp only[cg];cases j.sub q (s x)<;>rfl
theorem Kc (s:ah):(∀x q d,Ka s x q (some d)=if d.plain=true then none else some (d,ck (e_ x s) x (j.put q d.cf (s x))))/\(∀k n,cg s (.int k n)=some (.int k n,s))/\(∀b,cg s (.bool b)=some (.bool b,s))/\(∀x,cg s (.str x)=some (.str x,s))/\
  (∀x,cg s (.slice x)=some (.slice x,s))/\(∀x,cg s (.ref x)=some (.ref x,s))/\(∀x,cg s (.agg x)=some (.agg x,s))/\cg s .aJ=some (.aJ,s)/\cg s .c8=some (.c8,s):=
 ⟨λ_ _ _=>rfl,λ_ _=>rfl,λ_=>rfl,λ_=>rfl,λ_=>rfl,λ_=>rfl,λ_=>rfl,rfl,rfl⟩
theorem Kd (l:abM) (t:Nat) (d:j):ck (an l) t d=an ((t,d)::l):=wV l t d
theorem Ke:(∀n x,j.cf (.ad n x)= .hole)/\(∀x,j.cf (.aD x)= .hole)/\(∀ar,j.cf (.agg ar)= .agg (j.g9 ar))/\(∀ar,j.cf (.tuple ar)= .tuple (j.g9 ar))/\j.g9 []=[]/\(∀d ds,j.g9 (d::ds)=d.cf::j.g9 ds)/\
  (∀k n,j.cf (.int k n)= .int k n)/\(∀b,j.cf (.bool b)= .bool b)/\(∀x,j.cf (.str x)= .str x)/\(∀x,j.cf (.slice x)= .slice x)/\(∀x,j.cf (.ref x)= .ref x)/\j.cf .aJ= .aJ/\j.cf .c8= .c8/\j.cf .hole= .hole:=by
 simp[j.cf,j.g9]
def sr:Option j->Option j
 |some d=>(match d with| .tuple _=>none| .dc _=>none| .eU _ _=>none| .fB _=>none|d=>if d.plain=true then none else some d.share)
 |none=>none
def ss:Option j->Option j
 |some d=>(match d with| .tuple _=>none|d=>some (.ref d.share))
 |none=>none
theorem iG (s:ah) (x:Nat) (q:abI):view s (.h x q)=sr (j.sub q (s x))/\view s (.al x q)=(if j.dG q (s x)=true then ss (j.sub q (s x))else none):=by
 constructor
 .simp only[view];rfl
 .simp only[view];rfl
theorem iH:(∀n xs,sr (some (.ad n xs))=some (.slice (j.shares xs)))/\(∀d,sr (some (.aD d))=some (.ref d.share))/\(∀ar,sr (some (.agg ar))=if j.dF ar=true then none else some (.agg (j.shares ar)))/\
  (∀ar,ss (some (.agg ar))=some (.ref (.agg (j.shares ar))))/\(∀k n,ss (some (.int k n))=some (.ref (.int k n)))/\(∀x,ss (some (.str x))=some (.ref (.str x))):=
 ⟨λ_ _=>by simp[sr,j.plain,j.share],λ_=>by simp[sr,j.plain,j.share],λar=>by cases h:j.dF ar<;>simp[sr,j.plain,j.share,h],λ_=>by simp[ss,j.share],λ_ _=>by simp[ss,j.share],λ_=>by simp[ss,j.share]⟩
theorem e1:(∀n xs,j.share (.ad n xs)= .slice (j.shares xs))/\(∀d,j.share (.aD d)= .ref d.share)/\(∀xs,j.share (.slice xs)= .slice (j.shares xs))/\(∀d,j.share (.ref d)= .ref d.share)/\(∀ar,j.share (.agg ar)= .agg (j.shares ar))/\(∀ar,j.share (.tuple ar)= .tuple (j.shares ar))/\
  (∀k n,j.share (.int k n)= .int k n)/\(∀b,j.share (.bool b)= .bool b)/\(∀x,j.share (.str x)= .str x)/\j.share .aJ= .aJ/\j.share .c8= .c8/\j.shares []=[]/\(∀d ds,j.shares (d::ds)=d.share::j.shares ds):=by
 simp[j.share,j.shares]
def hD (sz:Nat):Option (abN×ah)->Option (j×ah)
 |some (ds,s1)=>some (.ad sz ds,s1)
 |none=>none
def eA:Option (abN×ah)->Option (j×ah)
 |some (ds,s1)=>some (.agg ds,s1)
 |none=>none
theorem uo {C:bI} {T e n sz:Nat} {zs:abN} (fg:(C.T T).k= .slice e) (cT:(C.T e).sz=sz) (bA:List.replicate n (C.T e).zero=zs)
  (eP:((C.T e).ok&&((C.T e).zero.wd==sz)&&(flat (C.T e).zero).isSome&&(sz !=0)&&decide (n*sz<=16777216))=true):∀s ps,ef C s T n ps=hD sz (ja (λk=>some (k*sz,sz)) s zs [] ps):=by
 intro s ps;subst cT;simp only[Bool.and_eq_true,beq_iff_eq,bne_iff_ne,decide_eq_true_eq]at eP;obtain⟨⟨⟨⟨R,U⟩,aA⟩,aU⟩,bt⟩:=eP;unfold ef;rw[fg];simp only;rw[if_pos ⟨R,U,aA,aU,bt⟩,bA];cases ja (λk=>some (k*(C.T e).sz,(C.T e).sz)) s zs [] ps<;>rfl
theorem zr {C:bI} {T:Nat} {ar:List (TypeId×Nat)} {zs:abN} (fg:(C.T T).k= .struct ar) (bA:(C.T T).zero= .agg zs)
  (eP:((flat (.agg zs)).isSome&&ar.all λf=>(C.T f.1).ok)=true):∀s ps,gm C s T ps=eA (ja (λk=>(ar[k]?).map λf=>(f.2,(C.T f.1).sz)) s zs [] ps):=by
 intro s ps;simp only[Bool.and_eq_true,List.all_eq_true]at eP;unfold gm;rw[fg,bA];simp only;rw[if_pos ⟨eP.1,eP.2⟩];cases ja (λk=>(ar[k]?).map λf=>(f.2,(C.T f.1).sz)) s zs [] ps<;>rfl
def dd (place:Nat->Option (Nat×Nat)) (k:Nat) (zs:abN) (os:List (Option Nat)) (r:abM) (o:Option Nat):Option (Nat×Nat)->Option j->Option (j×ah)->Option (abN×ah)
 |some (off,n),some z,some (d,s1)=>(match d with
  | .tuple _=>none
  |d=>if d.wd=n/\z.wd=n/\j.c6 (zs.take k)=off then ja place s1 (zs.set k d) (os++[o]) r else none)
 |_,_,_=>none
theorem q1 (place:Nat->Option (Nat×Nat)) (s:ah) (zs:abN) (os:List (Option Nat)):ja place s zs os []=some (zs,s)/\
  (∀k a r,ja place s zs os ((k,a)::r)=dd place k zs os r (jT os a).owner (place k) zs[k]? (cg s (jT os a))):=by
 refine⟨rfl,λk a r=>?_⟩;simp only[ja];cases cg s (jT os a)with
 |none=>cases place k<;>cases zs[k]? <;>rfl
 |some p=>
  obtain⟨d,s1⟩:=p;cases place k with
  |none=>cases zs[k]? <;>rfl
  |some q=>cases zs[k]? <;>(cases d<;>rfl)
theorem q2:(∀a,jT [] a=a)/\(∀o os a,jT (o::os) a=jT os (jl o a)):=⟨λ_=>rfl,λ_ _ _=>rfl⟩
theorem fj:(∀k n,j.owner (.int k n)=none)/\(∀b,j.owner (.bool b)=none)/\(∀x,j.owner (.str x)=none)/\(∀x,j.owner (.slice x)=none)/\(∀x,j.owner (.ref x)=none)/\(∀x,j.owner (.agg x)=none)/\j.owner .c8=none/\j.owner .aJ=none/\(∀x q,j.owner (.h x q)=some x):=
 ⟨λ_ _=>rfl,λ_=>rfl,λ_=>rfl,λ_=>rfl,λ_=>rfl,λ_=>rfl,rfl,rfl,λ_ _=>rfl⟩
end Go.cW
