/- Part of a proof that a law returns true for every input. No condition. -/
import Derived.Test.YtklcmlnabkfneaaGreatFwE
import Derived.Orders
import Derived.KernelRfl
import Derived.Test.YtklcmlnabkfneaaGreatFwA
namespace Go.cU
open Go.IntKind Nat Or
section
variable {C:bY} {w0 w:World} {F0 X:Nat->Prop} {n:Fr} {ρ:Nat->Value} {s s1:ax} {a:Act} {av:I} {Q:Exit->Act->World->Prop}
def bZ.un (o:bZ):bZ:=⟨o.dst,o.bC.base,o.guard⟩
theorem wo {ops:Array Oper}:∀{os:List Oper} {rs:List bZ},o5 n ops os=some rs->os.length=rs.length/\∀(i:Nat) (o:Oper),os[i]? =some o->∃r,rs[i]? =some r/\o4 n ops o=some r:=by
 intro os;induction os with
 |nil=>intro rs h;simp only[o5,Option.some.injEq]at h;subst h;exact⟨rfl,λi o h=>by simp at h⟩
 |cons o os ih=>
  intro rs h;simp only[o5]at h;split at h
  .rename_i r agJ ab ad;simp only[Option.some.injEq]at h;subst h;obtain⟨b1,cb⟩:=ih ad;refine⟨by simp[b1],λi lE bx=>?_⟩;cases i with
   |zero=>simp at bx;subst bx;exact⟨r,rfl,ab⟩
   |succ i=>simpa using cb i lE (by simpa using bx)
  .cases h
theorem zG {o:Oper} {y:Nat->aiB} (h:o.guard=none):Region.wanted o y=true:=by simp[Region.wanted,h]
theorem RD (h:Rel w0 F0 X n ρ s a w) {ops:Array Oper} {j t:Nat} (bd:(ops[j]?).bind (·.dst)=some t):
  (∀b,s t= .bool b->yielded ops a.tmps j=some b)/\(s t= .tuple []->yielded ops a.tmps j=none):=by
 obtain⟨ag,U,bn,F,S,aK⟩:=h;have hW:=aK.df t;refine⟨λb R=>?_,λR=>?_⟩
 .rw[R]at hW;have aH:=qS hW;simp only[yielded,bd,Option.bind_some];rw[Array.getD_eq_getD_getElem?]at aH;cases bB:a.tmps[t]? with
  |none=>rw[bB]at aH;simp[undef]at aH
  |some v=>rw[bB]at aH;simp at aH;subst aH;rfl
 .rw[R]at hW;obtain⟨⟨arr,ab,ad⟩,_⟩:=(aG.ca (d:=.tuple []) rfl).1 hW;simp only[yielded,bd,Option.bind_some];rw[Array.getD_eq_getD_getElem?]at ab;cases bB:a.tmps[t]? with
  |none=>rfl
  |some v=>rw[bB]at ab;simp at ab;subst ab;rfl
theorem DJ (bh:C.Ok) {ops:Array Oper} {ros:List bZ} {l2:aiA} {K:ax->Prop} (aP:∀aD cA aB,K aD->Rel w0 F0 X n ρ aD cA aB->wpOps C.P ops Q l2 cA aB):
  ∀(l:aiA),(∀i∈l,(ops[i]? =none->ros[i]? =none)/\∀o,ops[i]? =some o->∃r,ros[i]? =some r/\o4 n ops o=some r.un)->
  ∀(s:ax) (a:Act) (w:World),jB C ros s l K->Rel w0 F0 X n ρ s a w->wpOps C.P ops Q (l++l2) a w:=by
 intro l;induction l with
 |nil=>intro _ s a w h aK;exact aP s a w h aK
 |cons i l ih=>
  intro mx s a w h aK;replace ih:=ih λi ak=>mx i (List.mem_cons_of_mem _ ak);rw[List.cons_append];simp only[wpOps];cases bx:ops[i]? with
  |none=>
   simp only[jB,(mx i (by simp)).1 bx]at h;exact ih s a w h aK
  |some o=>
   obtain⟨r,ab,ad⟩:=(mx i (by simp)).2 o bx;simp only[jB,ab]at h;show(if Region.wanted o (yielded ops a.tmps)=true then o.wp C.P a w (wpOps C.P ops Q (l++l2)) Q\/(o.asks C.P a w/\LetsOut Q)else wpOps C.P ops Q (l++l2) (a.put o.dst undef) w);simp only[o4]at ad;split at ad
   .rename_i zH;split at ad
    .rename_i g bB;obtain⟨rd,bC,rg⟩:=r;simp only[bZ.un,Option.some.injEq,bZ.mk.injEq]at ad;obtain⟨rfl,cg,rfl⟩:=ad;simp only[ld]at h;have run:∀(c_:ax->Prop),(∀aD,c_ aD->jB C ros aD l K)->np C s bC (λav s1=>c_ (fin s1 o.dst av))->o.wp C.P a w (wpOps C.P ops Q (l++l2)) Q:=
      λc_ hK hw=>RC bh aK cg zH hw (λaD cA aB aw ef=>ih aD cA aB (hK aD aw) ef)
     cases tL:o.guard with
     |none=>
      rw[tL]at bB;simp only[wh,Option.some.injEq]at bB;subst bB;simp only at h;rw[if_pos (zG tL)];exact .inl (run _ (λ_ h=>h) h)
     |some DK=>
      obtain⟨j,b⟩:=DK;rw[tL]at bB;simp only[wh]at bB;split at bB
      .rename_i t aY;simp only[Option.some.injEq]at bB;subst bB;simp only at h;obtain⟨ez,gT⟩:=RD aK aY;have J5:∀(c_:jB C ros (fin s o.dst (.tuple [])) l K),wpOps C.P ops Q (l++l2) (a.put o.dst undef) w:=λc_=>ih _ _ _ c_ (Rel.skip aK zH);split at h
       .rename_i fk U;have a8:=ez fk U;split at h
        .rename_i R;subst R;rw[if_pos (by simp[Region.wanted,tL,a8])];exact .inl (run _ (λ_ h=>h) h)
        .rename_i R;rw[if_neg (by simp[Region.wanted,tL,a8,R])];exact J5 h
       .rename_i U;have a8:=gT U;rw[if_neg (by simp[Region.wanted,tL,a8])];exact J5 h
       .exact h.elim
      .cases bB
    .cases ad
   .cases ad
theorem J6 (bh:C.Ok) {ops:Array Oper} {ros:List bZ} (q7:o5 n ops ops.toList=some (ros.map bZ.un)) {K:ax->Prop} (aP:∀aD cA aB,K aD->Rel w0 F0 X n ρ aD cA aB->Q .normal cA aB):
  ∀(l:aiA) (s:ax) (a:Act) (w:World),jB C ros s l K->Rel w0 F0 X n ρ s a w->wpOps C.P ops Q l a w:=by
 obtain⟨aO,mx⟩:=wo q7;intro l s a w h aK;have:=DJ (Q:=Q) bh (ros:=ros) (ops:=ops) (l2:=[]) (K:=K) (n:=n) (ρ:=ρ) (w0:=w0) (F0:=F0) (X:=X) (λaD cA aB aw ef=>aP aD cA aB aw ef) l (λi _=>⟨λbx=>by
   rw[List.getElem?_eq_none_iff,<-List.length_map (f:=bZ.un),<-aO];have:=Array.getElem?_eq_none_iff.1 bx;simpa using this,λo bx=>by
   obtain⟨ai,ig,ad⟩:=mx i o (by simpa using bx);obtain⟨r,ab,rfl⟩:∃r,ros[i]? =some r/\r.un=ai:=by simpa using ig
   exact⟨r,ab,ad⟩⟩) s a w h aK
 rwa [List.append_nil]at this
theorem Rel.drawn (h:Rel w0 F0 X n ρ s a w) (k:Nat) (aw:w.drawn<=k):Rel w0 F0 X n ρ s a {w with drawn:=k}:=by
 obtain⟨ab,ad,bn,F,S,aA⟩:=h;exact⟨ab,ad,bn,F,S,aA.grow (λ_ _=>rfl) (Nat.le_refl _) rfl rfl ⟨rfl,λ_=>aw⟩⟩
theorem RE (bh:C.Ok) {id:Nat} {ops:Array Oper} {ros:List bZ} (q7:o5 n ops ops.toList=some (ros.map bZ.un)) {K:ax->Prop} (aP:∀aD cA aB,K aD->Rel w0 F0 X n ρ aD cA aB->Q .normal cA aB)
  (h:kV C s ros K) (aK:Rel w0 F0 X n ρ s a w):(Code.region id ops false).wp C.P Q a w:=by
 refine wp_region (J6 bh q7 aP _ s a w ?_ aK);have:=Ru C K ros [] s h;have aO:=(wo q7).1;simp only[List.nil_append,List.length_nil,Nat.add_zero,List.map_id']at this;rw[List.length_map]at aO;rw[<-aO]at this;simpa using this
end
def DL (n0:aiy) (l:aiA):Prop:=
 l.Nodup/\(∀i,i∈l↔i<n0.length)/\∀u i v,l=u++i::v->∀e∈(n0[i]?).getD [],e∈u
def nr (ops:Array Oper):aiy:=ops.toList.map λo=>(o.after.toList.filter λe=>Region.binds .any e).map (·.on)
def wq (n0:aiy):Bool:=n0.zipIdx.all λp=>p.1.all λe=>decide (e<p.2)
theorem RF {n0:aiy} (h:wq n0=true) {i:Nat} {l:aiA} (ak:n0[i]? =some l):∀e∈l,e<i:=by
 intro e he;simp only[wq,List.all_eq_true]at h;have:=h (l,i) (by rw[List.mem_zipIdx_iff_getElem?];exact ak) e he;simpa using this
theorem RG {ops:Array Oper} (R:wq (nr ops)=true):∀(fuel t:Nat) (fT:Array Bool),fT.size=ops.size->((List.range ops.size).filter λi=> !fT.getD i true).length<=fuel->
  (Region.linearise.go .any ops fuel t fT []).Nodup/\(∀i,i∈Region.linearise.go .any ops fuel t fT []↔(i<ops.size/\fT.getD i true=false))/\
   ∀u i v,Region.linearise.go .any ops fuel t fT []=u++i::v->∀e∈((nr ops)[i]?).getD [],fT.getD e false=true\/e∈u:=by
 intro fuel;induction fuel with
 |zero=>
  intro t fT U aO;have vR:((List.range ops.size).filter λi=> !fT.getD i true)=[]:=List.length_eq_zero_iff.1 (le_zero.1 aO);refine⟨by simp[Region.linearise.go],λi=>?_,λu i v h=>by simp[Region.linearise.go]at h⟩;simp only[Region.linearise.go,List.reverse_nil,List.not_mem_nil,false_iff,not_and];intro ak bn;have:i∈((List.range ops.size).filter λi=> !fT.getD i true):=List.mem_filter.2 ⟨List.mem_range.2 ak,by rw[bn];rfl⟩;rw[vR]at this;cases this
 |succ fuel ih=>
  intro t fT U aO;have J7:∀i,i∈Region.ready .any ops fT↔(i<ops.size/\fT.getD i true=false/\∀e∈((nr ops)[i]?).getD [],fT.getD e false=true):=by
   intro i;simp only[Region.ready,List.mem_filter,List.mem_range,Bool.and_eq_true,Bool.not_eq_true'];constructor
   .rintro⟨ab,ad,aA⟩;refine⟨ab,ad,?_⟩;rw[Array.getElem?_eq_getElem ab]at aA;simp only[Option.map_some,Option.getD_some,Array.all_eq_true_iff_forall_mem]at aA;simp only[nr,List.getElem?_map,Array.getElem?_toList,Array.getElem?_eq_getElem ab,Option.map_some,Option.getD_some,List.mem_map,List.mem_filter];rintro e ⟨x,⟨ar,sf⟩,rfl⟩;have:=aA x (by simpa using ar);simpa [sf]using this
   .rintro⟨ab,ad,aA⟩;refine⟨ab,ad,?_⟩;rw[Array.getElem?_eq_getElem ab];simp only[Option.map_some,Option.getD_some,Array.all_eq_true_iff_forall_mem];simp only[nr,List.getElem?_map,Array.getElem?_toList,Array.getElem?_eq_getElem ab,Option.map_some,Option.getD_some,List.mem_map,List.mem_filter]at aA;intro x ar;cases sf:Region.binds .any x with
    |false=>simp
    |true=>simpa using aA x.on ⟨x,⟨by simpa using ar,sf⟩,rfl⟩
  have hex:(∃i,i<ops.size/\fT.getD i true=false)->Region.ready .any ops fT≠[]:=by
   rintro⟨i,ab,ad⟩;have:∃i,(i<ops.size/\fT.getD i true=false)/\∀j,j<i->¬(j<ops.size/\fT.getD j true=false):=by
    induction i using Nat.strongRecOn with
    |_ i RH=>
     by_cases bd:∃j,j<i/\(j<ops.size/\fT.getD j true=false)
     .obtain⟨j,RI,zI,RJ⟩:=bd;exact RH j RI zI RJ
     .exact⟨i,⟨ab,ad⟩,λj RK aj=>bd ⟨j,RK,aj⟩⟩
   obtain⟨k,⟨b1,cb⟩,eu⟩:=this;have:k∈Region.ready .any ops fT:=(J7 k).2 ⟨b1,cb,λe he=>by
    cases bU:(nr ops)[k]? with
    |none=>rw[bU]at he;simp at he
    |some l=>
     rw[bU]at he;have c9:=RF R bU e he;have:=eu e c9;rw[not_and]at this;have:=this (by omega);have my:e<fT.size:=by omega
     simp only[Array.getD_eq_getD_getElem?,Array.getElem?_eq_getElem my,Option.getD_some]at this⊢;simpa using this⟩
   intro e;rw[e]at this;cases this
  have J8:Region.linearise.go .any ops (fuel+1) t fT []=(match(Region.ready .any ops fT)[t%(Region.ready .any ops fT).length]? with
   |some i=>Region.linearise.go .any ops fuel (t/(Region.ready .any ops fT).length) (fT.setIfInBounds i true) [i]
   |none=>[]):=rfl
  cases wt:(Region.ready .any ops fT)[t%(Region.ready .any ops fT).length]? with
  |none=>
   have vR:Region.ready .any ops fT=[]:=by
    cases aK:Region.ready .any ops fT with
    |nil=>rfl
    |cons a l=>
     rw[aK]at wt;have:=List.getElem?_eq_none_iff.1 wt;have ad:=mod_lt t (show 0<(a::l).length by simp);omega
   rw[J8,wt];refine⟨by simp,λi=>?_,λu i v h=>by simp at h⟩;simp only[List.not_mem_nil,false_iff];intro ak;exact hex ⟨i,ak⟩ vR
  |some i=>
   have ak:=(J7 i).1 (List.mem_of_getElem? wt);obtain⟨DM,J9,RL⟩:=ak;rw[J8,wt];simp only;rw[linearise_go_acc];simp only[List.reverse_singleton,List.singleton_append];have qR:∀j d,(fT.setIfInBounds i true).getD j d=if j=i then true else fT.getD j d:=by
    intro j d;split
    .rename_i e;subst e;simp[Array.getD_eq_getD_getElem?,Array.getElem?_setIfInBounds_self_of_lt (show j<fT.size by omega)]
    .rename_i e;simp[Array.getD_eq_getD_getElem?,Array.getElem?_setIfInBounds_ne (λh=>e h.symm)]
   obtain⟨g1,g2,g3⟩:=ih (t/(Region.ready .any ops fT).length) (fT.setIfInBounds i true) (by simpa using U) (by
    have eQ:((List.range ops.size).filter λj=> !(fT.setIfInBounds i true).getD j true)=((List.range ops.size).filter λi=> !fT.getD i true).filter λj=>decide (j≠i):=by
     rw[List.filter_filter];apply List.filter_congr;intro j _;rw[qR];by_cases e:j=i<;>simp[e]
    rw[eQ];have c9:(((List.range ops.size).filter λi=> !fT.getD i true).filter λj=>decide (j≠i)).length<((List.range ops.size).filter λi=> !fT.getD i true).length:=by
     rw[List.length_filter_lt_length_iff_exists];exact⟨i,List.mem_filter.2 ⟨List.mem_range.2 DM,by rw[J9];rfl⟩,by simp⟩
    omega)
   refine⟨?_,λj=>?_,?_⟩
   .rw[List.nodup_cons];refine⟨λhm=>?_,g1⟩;have:=((g2 i).1 hm).2;rw[qR,if_pos rfl]at this;cases this
   .rw[List.mem_cons,g2,qR];by_cases e:j=i
    .subst e;simp[DM,J9]
    .simp[e]
   .intro u j v h e he;cases u with
    |nil=>
     simp only[List.nil_append,List.cons.injEq]at h;obtain⟨rfl,rfl⟩:=h;exact .inl (RL e he)
    |cons zJ u=>
     simp only[List.cons_append,List.cons.injEq]at h;obtain⟨rfl,h⟩:=h;rcases g3 u j v h e he with bq|bq
     .rw[qR]at bq;split at bq
      .rename_i fF;subst fF;exact .inr (by simp)
      .exact .inl bq
     .exact .inr (by simp[bq])
theorem RM {ops:Array Oper} (R:wq (nr ops)=true) (t:Nat):DL (nr ops) (Region.linearise .any ops t):=by
 have J_:∀i d,i<ops.size->(Array.replicate ops.size false).getD i d=false:=by
  intro i d ak;simp[Array.getD_eq_getD_getElem?,ak]
 obtain⟨g1,g2,g3⟩:=RG R ops.size t (Array.replicate ops.size false) (by simp) (by
  have:=List.length_filter_le (λi=> !(Array.replicate ops.size false).getD i true) (List.range ops.size);simpa using this)
 have hlen:(nr ops).length=ops.size:=by simp[nr]
 refine⟨g1,λi=>?_,λu i v h e he=>?_⟩
 .rw[hlen];rw[show Region.linearise .any ops t=Region.linearise.go .any ops ops.size t (Array.replicate ops.size false) []from rfl,g2];exact⟨λh=>h.1,λh=>⟨h,J_ i true h⟩⟩
 .rcases g3 u i v h e he with bq|bq
  .exfalso;by_cases Ka:e<ops.size
   .rw[J_ e false Ka]at bq;cases bq
   .simp[Array.getD_eq_getD_getElem?,Ka]at bq
  .exact bq
def az:aiE->ax
 |[],_=>.hole
 |(u,d)::l,t=>if t=u then d else az l t
mutual
inductive eG:I->I->Prop
 |refl (d:I):eG d d
 |lf (sz:Nat):eG .a_ (.al sz [])
 |o6:eG .a_ (.slice [])
 |any (b:Bool):eG (.bool b) .e7
 |share (d:I):d.tree=true->(∀vs,d≠.tuple vs)->(∀o,d≠.dz o)->(∀f c,d≠.fv f c)->eG d d.share
 |agg {ds es:aiF}:i_ ds es->eG (.agg ds) (.agg es)
 |bb {d e:I}:eG d e->eG (.bb d) (.bb e)
 |al {sz:Nat} {ds es:aiF}:i_ ds es->eG (.al sz ds) (.al sz es)
 |tuple {ds es:aiF}:i_ ds es->eG (.tuple ds) (.tuple es)
 |ref {d e:I}:eG d e->eG (.ref d) (.ref e)
 |trans {d e f:I}:eG d e->eG e f->eG d f
inductive i_:aiF->aiF->Prop
 |nil:i_ [] []
 |cons {d e:I} {ds es:aiF}:eG d e->i_ ds es->i_ (d::ds) (e::es)
end
mutual
theorem eG.wd:∀{d e:I},eG d e->e.wd=d.wd
 |_,_,.refl _=>rfl
 |_,_,.lf _=>rfl
 |_,_,.o6=>rfl
 |_,_,.any _=>rfl
 |_,_,.share d _ _ _ _=>I.y9 d
 |_,_,.agg h=>by simp only[I.wd];exact i_.wd h
 |_,_,.bb _=>rfl
 |_,_,.al _=>rfl
 |_,_,.tuple h=>by simp only[I.wd];exact i_.wd h
 |_,_,.ref _=>rfl
 |_,_,.trans h k=>(eG.wd k).trans (eG.wd h)
theorem i_.wd:∀{ds es:aiF},i_ ds es->I.dH es=I.dH ds
 |_,_,.nil=>rfl
 |_,_,.cons h U=>by simp only[I.dH];rw[eG.wd h,i_.wd U]
end
theorem i_.len {ds es:aiF} (h:i_ ds es):es.length=ds.length:=by
 induction ds generalizing es with
 |nil=>cases h;rfl
 |cons d ds ih=>cases h with|cons h U=>simp[ih U]
theorem i_.all {sz:Nat} {ds es:aiF} (h:i_ ds es) (ag:∀d∈ds,d.wd=sz):∀d∈es,d.wd=sz:=by
 induction ds generalizing es with
 |nil=>cases h;intro d ag;cases ag
 |cons d ds ih=>
  cases h with
  |cons h U=>
   intro x ar;rcases List.mem_cons.1 ar with rfl|ar
   .rw[h.wd];exact ag d (by simp)
   .exact ih U (λd hm=>ag d (by simp[hm])) x ar
section
variable {w0 w:World} {F0 X F:Nat->Prop} {S:Nat->Nat->Prop} {s aD:ax} {aC:Nat->Value}
def RN (w:World) (F:Nat->Prop) (_d e:I) (cs:aiD) (S:Nat->Prop):Prop:=
 ∃hF hG:Nat->Prop,(∀b,hF b->S b)/\(∀b,hG b->S b)/\(∀b,hG b->¬hF b)/\∀bF,(∀b,F b\/hF b->bF b)->aq w bF e cs hG
mutual
theorem aq.n1:∀{d e:I},eG d e->∀{F:Nat->Prop} {cs:aiD} {S:Nat->Prop},aq w F d cs S->RN w F d e cs S
 |_,_,.refl _,F,cs,S,h=>⟨λ_=>False,S,λ_ h=>h.elim,λ_ h=>h,λ_ _ h=>h,λbF bc=>aq.mono (λb R=>bc b (.inl R)) _ _ _ _ (λ_ h=>h) h⟩
 | .a_,_,.lf sz,F,cs,S,h=>⟨λ_=>False,S,λ_ h=>h.elim,λ_ h=>h,λ_ _ h=>h,λbF bc=>by simp only[aq]at h⊢;exact .inl ⟨trivial,_,h⟩⟩
 | .a_,_,.o6,F,cs,S,h=>⟨λ_=>False,S,λ_ h=>h.elim,λ_ h=>h,λ_ _ h=>h,λbF bc=>by simp only[aq]at h⊢;exact .inl ⟨trivial,none,0,h,zero_le _,λ_=>rfl⟩⟩
 | .bool _,_,.any b,F,cs,S,h=>⟨λ_=>False,S,λ_ h=>h.elim,λ_ h=>h,λ_ _ h=>h,λbF bc=>by simp only[aq]at h⊢;exact⟨b,h⟩⟩
 |_,_,.share d _ _ _ _,F,cs,S,h=>⟨S,λ_=>False,λ_ h=>h,λ_ h=>h.elim,λ_ h=>h.elim,λbF bc=>aq.shared (λb R=>bc b (.inl R)) d cs S (λb R=>bc b (.inr R)) h⟩
 |_,_,.agg gI,F,cs,S,h=>by
  rw[aq]at h;obtain⟨hF,hG,ab,ad,aA,aZ⟩:=aV.n1 gI h;exact⟨hF,hG,ab,ad,aA,λbF bc=>by rw[aq];exact aZ bF bc⟩
 |_,_,.bb ag,F,cs,S,h=>by
  rw[aq]at h;obtain⟨b,cur,ty,fr,aL,b1,cb,eu,dp,e0,dv,k7⟩:=h;obtain⟨hF,hG,ab,ad,aA,aZ⟩:=aq.n1 ag e0;refine⟨hF,λc=>c=b\/hG c,λc aj=>dv c (ab c aj),?_,?_,λbF bc=>?_⟩
  .rintro c (rfl|aj)
   .exact cb
   .exact dv c (ad c aj)
  .rintro c (rfl|aj) bn
   .exact k7 (ab _ bn)
   .exact aA c aj bn
  .rw[aq];exact⟨b,cur,ty,fr,hG,b1,.inl rfl,eu,dp,aZ bF bc,λc aj=>.inr aj,λaj=>k7 (ad _ aj)⟩
 | .al sz ds,.al _ es,.al gI,F,cs,S,h=>by
   rw[aq]at h;have aO:=gI.len;rcases h with⟨ab,ad⟩|⟨b,cap,cur,ty,fr,aL,b1,cb,eu,dp,e0,dv,k7,dq,lC,qX,Kb⟩
   .refine⟨λ_=>False,S,λ_ h=>h.elim,λ_ h=>h,λ_ _ h=>h,λbF _=>?_⟩;rw[aq];subst ab;exact .inl ⟨List.length_eq_zero_iff.1 (by simpa using aO),ad⟩
   .obtain⟨hF,hG,ab,ad,aA,aZ⟩:=aV.n1 gI lC;refine⟨hF,λc=>c=b\/hG c,λc aj=>qX c (ab c aj),?_,?_,λbF bc=>?_⟩
    .rintro c (rfl|aj)
     .exact cb
     .exact qX c (ad c aj)
    .rintro c (rfl|aj) bn
     .exact Kb (ab _ bn)
     .exact aA c aj bn
    .rw[aq];refine .inr ⟨b,cap,cur,ty,fr,hG,by rw[aO];exact b1,.inl rfl,eu,dp,by rw[aO];exact e0,dv,k7,gI.all dq,by rw[aO];exact aZ bF bc,λc aj=>.inr aj,λaj=>Kb (ad _ aj)⟩
 |_,_,.tuple gI,F,cs,S,h=>by
  rw[aq]at h;obtain⟨hF,hG,ab,ad,aA,aZ⟩:=aV.n1 gI h;exact⟨hF,hG,ab,ad,aA,λbF bc=>by rw[aq];exact aZ bF bc⟩
 |_,_,.ref ag,F,cs,S,h=>by
  rw[aq]at h;obtain⟨b,o,d_,ab,ad,aA,aZ⟩:=h;obtain⟨hF,hG,b1,cb,eu,dp⟩:=aq.n1 ag aZ;refine⟨λ_=>False,S,λ_ h=>h.elim,λ_ h=>h,λ_ _ h=>h,λbF bc=>?_⟩;rw[aq];exact⟨b,o,d_,ab,bc _ (.inl ad),aA,aq.mono (λ_ h=>h) _ _ _ _ (λb R=>cb b R) (dp bF λb R=>bc b (R.imp id λh=>(b1 b h).elim))⟩
 |_,_,.trans ag he,F,cs,S,h=>by
  obtain⟨hF,hG,ab,ad,aA,aZ⟩:=aq.n1 ag h;obtain⟨DN,zK,b1,cb,eu,dp⟩:=aq.n1 he (F:=λb=>F b\/hF b) (aZ _ λ_ h=>h);refine⟨λb=>hF b\/DN b,zK,?_,λb R=>ad b (cb b R),?_,λbF bc=>dp bF λb R=>?_⟩
  .rintro b (h|h)
   .exact ab b h
   .exact ad b (b1 b h)
  .rintro b R (h|h)
   .exact aA b (cb b R) h
   .exact eu b R h
  .rcases R with(R|R)|R
   .exact bc b (.inl R)
   .exact bc b (.inr (.inl R))
   .exact bc b (.inr (.inr R))
theorem aV.n1:∀{ds es:aiF},i_ ds es->∀{F:Nat->Prop} {cs:aiD} {S:Nat->Prop},aV w F ds cs S->
  ∃hF hG:Nat->Prop,(∀b,hF b->S b)/\(∀b,hG b->S b)/\(∀b,hG b->¬hF b)/\∀bF,(∀b,F b\/hF b->bF b)->aV w bF es cs hG
 |_,_,.nil,F,cs,S,h=>⟨λ_=>False,λ_=>False,λ_ h=>h.elim,λ_ h=>h.elim,λ_ h=>h.elim,λbF bc=>by rw[aV]at h⊢;exact h⟩
 |_,_,.cons ag gI,F,cs,S,h=>by
  rw[aV]at h;obtain⟨c1,c2,bM,c3,rfl,g2,g3,g4,g5,g6⟩:=h;obtain⟨RO,Kc,J,a2,a3,a4⟩:=aq.n1 ag g2;obtain⟨DN,zK,ka,ht,kS,bR⟩:=aV.n1 gI g3;refine⟨λb=>RO b\/DN b,λb=>Kc b\/zK b,?_,?_,?_,λbF bc=>?_⟩
  .rintro b (h|h)
   .exact g4 b (J b h)
   .exact g5 b (ka b h)
  .rintro b (h|h)
   .exact g4 b (a2 b h)
   .exact g5 b (ht b h)
  .rintro b (h|h) (bq|bq)
   .exact a3 b h bq
   .exact g6 b (a2 b h) (ka b bq)
   .exact g6 b (J b bq) (ht b h)
   .exact kS b h bq
  .rw[aV];refine⟨c1,c2,Kc,zK,rfl,a4 bF (λb R=>bc b (R.imp id .inl)),bR bF (λb R=>bc b (R.imp id .inr)),λb R=>.inl R,λb R=>.inr R,λb ab ad=>g6 b (a2 b ab) (ht b ad)⟩
end
theorem eG.zL:∀{d e:I},eG d e->(∀vs,d≠.tuple vs)->∀vs,e≠.tuple vs
 |_,_,.refl _,h=>h
 |_,_,.lf _,_=>λ_ h=>by cases h
 |_,_,.o6,_=>λ_ h=>by cases h
 |_,_,.any _,_=>λ_ h=>by cases h
 |_,_,.share d _ _ _ _,h=>λvs he=>by cases d<;>first|(cases he;done)|exact h _ rfl
 |_,_,.agg _,_=>λ_ h=>by cases h
 |_,_,.bb _,_=>λ_ h=>by cases h
 |_,_,.al _,_=>λ_ h=>by cases h
 |_,_,.tuple _,h=>λ_ _=>h _ rfl
 |_,_,.ref _,_=>λ_ h=>by cases h
 |_,_,.trans h k,aP=>eG.zL k (eG.zL h aP)
theorem eG.hV:∀{d e:I} {v:Value},eG d e->(∀vs,d≠.tuple vs)->cU.hV d v->cU.hV e v
 |_,_,_,.refl _,_,h=>h
 |_,_,_,.lf _,_,h=>h
 |_,_,_,.o6,_,h=>h
 |_,_,_,.any _,_,h=>h
 |_,_,_,.share d _ aP _ _,_,h=>by cases d<;>first|exact h|exact(aP _ rfl).elim
 |_,_,_,.agg _,_,h=>h
 |_,_,_,.bb _,_,h=>h
 |_,_,_,.al _,_,h=>h
 |_,_,_,.tuple _,aP,_=>(aP _ rfl).elim
 |_,_,_,.ref _,_,h=>h
 |_,_,_,.trans h k,aP,U=>eG.hV k (eG.zL h aP) (eG.hV h aP U)
theorem i_.get:∀{ds es:aiF},i_ ds es->∀(k:Nat) (e:I),es[k]? =some e->∃d,ds[k]? =some d/\eG d e
 |_,_,.nil,k,e,h=>by simp at h
 |_,_,.cons ag U,0,e,h=>by simp at h;subst h;exact⟨_,rfl,ag⟩
 |_,_,.cons ag U,k+1,e,h=>i_.get U k e (by simpa using h)
theorem eG.dd:∀{d e:I} {v:Value},eG d e->cU.dd d v->cU.dd e v
 |_,_,_,.refl _,U=>U
 |_,_,_,.lf _,U=>U
 |_,_,_,.o6,U=>U
 |_,_,_,.any _,U=>U
 |_,_,_,.share _ _ l5 _ _,U=>Dz l5 U
 |_,_,_,.agg _,U=>U
 |_,_,_,.bb _,U=>U
 |_,_,_,.al _,U=>U
 |_,_,_,.ref _,U=>U
 |_,_,_,.tuple ag,U=>by
  obtain⟨arr,ab,ad,aA⟩:=U;refine⟨arr,ab,ad.trans ag.len.symm,λk e x he ar=>?_⟩;obtain⟨d,aw,hw⟩:=ag.get k e he;obtain⟨J,a2,a3⟩:=aA k d x aw ar;exact⟨hw.hV a2 J,hw.zL a2,a3.trans hw.wd.symm⟩
 |_,_,_,.trans h k,U=>eG.dd k (eG.dd h U)
theorem eG.tree:∀{d e:I},eG d e->d.tree=true->e.tree=true
 |_,_,.refl _,ag=>ag
 |_,_,.lf _,_=>rfl
 |_,_,.o6,_=>rfl
 |_,_,.any _,_=>rfl
 |_,_,.share d _ _ k6 DA,ag=>by cases d<;>first|exact ag|rfl|exact(k6 _ rfl).elim|exact(DA _ _ rfl).elim
 |_,_,.agg _,_=>rfl
 |_,_,.bb _,_=>rfl
 |_,_,.al _,_=>rfl
 |_,_,.tuple _,_=>rfl
 |_,_,.ref _,_=>rfl
 |_,_,.trans h k,ag=>eG.tree k (eG.tree h ag)
mutual
def I.sn:I->aiA
 | .h x q=>if q.isEmpty then []else [x]
 | .au x _=>[x]
 | .R x _=>[x]
 | .fn _ cap=>I.wu cap
 |_=>[]
def I.wu:aiF->aiA
 |[]=>[]
 |d::ds=>d.sn++I.wu ds
end
def wv (s aD:ax) (x:Nat) (D:aiA):Prop:=aD x=s x\/aD x= .hole\/((s x).own=true/\(aD x).own=true/\x∉D)
theorem wv.less {s aD:ax} {x:Nat} {D E:aiA} (h:wv s aD x D) (RP:∀u∈E,u∈D):wv s aD x E:=by
 rcases h with h|h|⟨ab,ad,aA⟩
 .exact .inl h
 .exact .inr (.inl h)
 .exact .inr (.inr ⟨ab,ad,λar=>aA (RP x ar)⟩)
theorem aG.keep {bF:Nat->Prop} (bc:∀b,F b->bF b):∀n,(∀(d:I) (v:Value) (dh:Nat->Prop),SizeOf.sizeOf d<=n->(∀x∈d.U,wv s aD x d.sn)->aG w F s aC d v dh->aG w bF aD aC d v dh)/\
  (∀(ds:aiF) (vs:aiD),SizeOf.sizeOf ds<=n->(∀x∈I.eh ds,wv s aD x (I.wu ds))->ee w F s aC ds vs->ee w bF aD aC ds vs):=by
 intro n;induction n with
 |zero=>
  refine⟨λd v dh bO=>?_,λds vs bO=>?_⟩
  .cases d<;>simp at bO<;>omega
  .cases ds<;>simp at bO<;>omega
 |succ n ih=>
  refine⟨λd v dh bO aw h=>?_,λds vs bO aw h=>?_⟩
  .cases d with
   |hole=>rw[aG];trivial
   |h x q=>
    rw[aG]at h⊢;intro e eQ au;rcases aw x (by simp[I.U])with he|he|⟨wx,Kd,tM⟩
    .rw[he]at eQ⊢;exact h e eQ au
    .rw[he]at eQ;cases q with
     |nil=>simp only[I.sub,Option.some.injEq]at eQ;subst eQ;simp[I.plain]at au
     |cons k q=>simp[I.sub]at eQ
    .cases q with
     |nil=>
      simp only[I.sub,Option.some.injEq]at eQ;subst eQ;obtain⟨cq,a0,fO,ha,h8⟩:=h (s x) (by simp only[I.sub]) (zA wx).1;simp only[c7,Option.some.injEq,Prod.mk.injEq,true_and]at fO;exact⟨b9 (aC x),none,by simp only[c7],by rw[ha,<-fO.1],((zA Kd).2.2.2.2.2 _).2 (((zA wx).2.2.2.2.2 _).1 h8)⟩
     |cons k q=>exact(tM (by simp[I.sn])).elim
   |au x q=>
    rw[aG]at h⊢;intro e eQ aj;rcases aw x (by simp[I.U])with he|he|⟨_,_,tM⟩
    .rw[he]at eQ aj⊢;exact h e eQ aj
    .rw[he]at aj;cases q<;>simp[I.ff]at aj
    .exact(tM (by simp[I.sn])).elim
   |R x k=>
    rw[aG]at h⊢;intro au;rcases aw x (by simp[I.U])with he|he|⟨_,_,tM⟩
    rotate_left 2
    .exact(tM (by simp[I.sn])).elim
    .rw[he]at au;obtain⟨b,cur,e,fr,ab,ad,aA,aZ⟩:=h au;exact⟨b,cur,e,fr,ab,bc b ad,aA,aZ⟩
    .rw[he]at au;simp[I.plain]at au
   |fn f cap=>
    rw[aG]at h⊢;obtain⟨arr,rfl,aj⟩:=h;exact⟨arr,rfl,ih.2 _ _ (by simp at bO;omega) (by simpa [I.U,I.sn]using aw) aj⟩
   |_=>
    have bq:=(aG.ca rfl).1 h;exact(aG.ca rfl).2 ⟨bq.1,aq.mono bc _ _ _ _ (λ_ h=>h) bq.2⟩
  .cases ds with
   |nil=>rw[ee]at h⊢;exact h
   |cons d ds=>
    rw[ee]at h⊢;obtain⟨v,kM,rfl,ab,ad⟩:=h;simp at bO;simp only[I.eh,List.mem_append]at aw;exact⟨v,kM,rfl,ih.1 _ _ _ (by omega) (λx ar=>(aw x (.inl ar)).less λu hu=>by simp[I.wu,hu]) ab,ih.2 _ _ (by omega) (λx ar=>(aw x (.inr ar)).less λu hu=>by simp[I.wu,hu]) ad⟩
def tN (s:ax) (l:aiE):Prop:=
 ∀p∈l,p.2=s p.1\/((s p.1).tree=true/\eG (s p.1) p.2/\∀cj∈l,p.1∉cj.2.U\/((s p.1).own=true/\p.2.own=true/\p.1∉cj.2.sn))
theorem Ke:∀(l:aiE) (t:Nat),az l t= .hole\/∃p∈l,p.1=t/\az l t=p.2:=by
 intro l;induction l with
 |nil=>intro t;exact .inl rfl
 |cons p l ih=>
  intro t;obtain⟨u,d⟩:=p;simp only[az];split
  .rename_i e;exact .inr ⟨(u,d),by simp,e.symm,rfl⟩
  .rcases ih t with h|⟨p,au,h⟩
   .exact .inl h
   .exact .inr ⟨p,by simp[au],h⟩
theorem bs.RQ (h:bs w0 F0 X F S s aC w) {l:aiE} (hw:tN s l):∃bF aL,bs w0 F0 X bF aL (az l) aC w:=by
 have each:∀t,∃hF hG:Nat->Prop,(∀b,hF b->S t b)/\(∀b,hG b->S t b)/\(∀b,hG b->¬hF b)/\∀bF,(∀b,F b\/hF b->bF b)->aG w bF (az l) aC (az l t) (aC t) hG:=by
  intro t;rcases Ke l t with e|⟨p,au,rfl,e⟩
  .exact⟨λ_=>False,λ_=>False,λ_ h=>h.elim,λ_ h=>h.elim,λ_ h=>h.elim,λbF _=>by rw[e,aG];trivial⟩
  .rw[e];rcases hw p au with aw|⟨aY,j6,_⟩
   .refine⟨λ_=>False,S p.1,λ_ h=>h.elim,λ_ h=>h,λ_ _ h=>h,λbF bc=>?_⟩;rw[aw];refine(aG.keep (λb R=>bc b (.inl R)) (SizeOf.sizeOf (s p.1))).1 _ _ _ (Nat.le_refl _) ?_ (h.df p.1);intro x ar;rcases Ke l x with fF|⟨cj,el,rfl,fF⟩
    .exact .inr (.inl fF)
    .rcases hw cj el with jm|⟨_,_,k6⟩
     .exact .inl (fF.trans jm)
     .rcases k6 p au with k6|⟨lb,jA,nX⟩
      .exact(k6 (by rw[aw];exact ar)).elim
      .exact .inr (.inr ⟨lb,by rw[fF];exact jA,by rw[aw]at nX;exact nX⟩)
   .obtain⟨g1,g2⟩:=(aG.ca aY).1 (h.df p.1);obtain⟨hF,hG,b1,cb,eu,dp⟩:=aq.n1 j6 g2;exact⟨hF,hG,b1,cb,eu,λbF bc=>(aG.ca (j6.tree aY)).2 ⟨j6.dd g1,dp bF bc⟩⟩
 have c1:=λt=>(each t).choose_spec;let hF:=λt=>(each t).choose
 have c2:=λt=>(c1 t).choose_spec;let hG:=λt=>(c1 t).choose
 have hd:∀t b,hF t b->S t b:=λt=>(c2 t).1;have gz:∀t b,hG t b->S t b:=λt=>(c2 t).2.1;have il:∀t b,hG t b->¬hF t b:=λt=>(c2 t).2.2.1;have im:=λt=>(c2 t).2.2.2;refine⟨λb=>F b\/∃t,hF t b,hG,λb R=>.inl (h.gx b R),?_,?_,λt b R=>h.dW t b (gz t b R),?_,λt u b cw R hu=>h.eZ t u b cw (gz t b R) (gz u b hu),λt b R=>h.dh t b (gz t b R),?_,h.old,h.size,h.os,h.tape,h.output,h.gy⟩
 .rintro b (R|⟨t,R⟩)
  .exact h.gJ b R
  .exact .inr (h.dh t b (hd t b R))
 .rintro b (R|⟨t,R⟩)
  .exact h.eH b R
  .exact h.dW t b (hd t b R)
 .rintro t b R (bn|⟨u,hu⟩)
  .exact h.e8 t b (gz t b R) bn
  .by_cases e:t=u
   .subst e;exact il t b R hu
   .exact h.eZ t u b e (gz t b R) (hd u b hu)
 .intro t;exact im t _ (λb R=>R.imp id λh=>⟨t,h⟩)
end
inductive aI where
 |skip
 |fB (ros:List bZ) (keep:Option aiA)
 |jC (ros:List bZ) (n0:aiy) (keep:Option aiA)
 |seq (a b:aI)
 |cond (c:bg) (a b:aI)
 |block (id:Nat) (b:aI)
 |loop (b:aI)
 |exit (id:Nat)
 |ret
 |ib (T:(Exit->ax->Prop)->ax->Prop) (b:aI)
 |raw (c:Code)
def eB (n:Fr):Code->Option aI
 | .skip=>some .skip
 | .region id ops false=>match o5 n ops ops.toList with
   |some r=>some (.fB r none)
   |none=>some (.raw (.region id ops false))
 | .region _ ops true=>if wq (nr ops)=true then(o5 n ops ops.toList).map λr=>.jC r (nr ops) none else none
 | .seq a b=>match eB n a,eB n b with
   |some a,some b=>some (.seq a b)
   |_,_=>none
 | .cond c a b=>match dj c,eB n a,eB n b with
   |some c,some a,some b=>some (.cond c a b)
   |_,_,_=>none
 | .block id b=>(eB n b).map (.block id)
 | .loop b=>(eB n b).map .loop
 | .exit id=>some (.exit id)
 | .ret=>some .ret
 |_=>none
def aI.kf:aI->aI
 | .fB ros _=>.fB ros none
 | .jC ros ew _=>.jC ros ew none
 | .seq a b=>.seq a.kf b.kf
 | .cond c a b=>.cond c a.kf b.kf
 | .block id b=>.block id b.kf
 | .loop b=>.loop b.kf
 | .ib T b=>.ib T b.kf
 |c=>c
def aI.strip:aI->aI
 | .fB ros _=>.fB (ros.map bZ.un) none
 | .jC ros ew _=>.jC (ros.map bZ.un) ew none
 | .seq a b=>.seq a.strip b.strip
 | .cond c a b=>.cond c a.strip b.strip
 | .block id b=>.block id b.strip
 | .loop b=>.loop b.strip
 | .ib _ b=>b.strip
 |c=>c
theorem aI.DO:∀c:aI,c.kf.strip=c.strip:=by
 intro c;induction c with
 |seq a b jD jE=>simp only[aI.kf,aI.strip,jD,jE]
 |cond c a b jD jE=>simp only[aI.kf,aI.strip,jD,jE]
 |block id b ih=>simp only[aI.kf,aI.strip,ih]
 |loop b ih=>simp only[aI.kf,aI.strip,ih]
 |ib T b ih=>simp only[aI.kf,aI.strip,ih]
 |_=>rfl
def aI.bare (H:((Exit->ax->Prop)->ax->Prop)->aI->Prop):aI->Prop
 | .fB _ k=>k=none
 | .jC _ _ k=>k=none
 | .seq a b=>a.bare H/\b.bare H
 | .cond _ a b=>a.bare H/\b.bare H
 | .block _ b=>b.bare H
 | .loop b=>b.bare H
 | .ib T b=>H T b
 |_=>True
def aI.l7 (H:((Exit->ax->Prop)->ax->Prop)->aI->Prop):aI->Prop
 | .seq a b=>a.l7 H/\b.l7 H
 | .cond _ a b=>a.l7 H/\b.l7 H
 | .block _ b=>b.l7 H
 | .loop b=>b.l7 H
 | .ib T b=>H T b.kf
 |_=>True
theorem aI.zM {H:((Exit->ax->Prop)->ax->Prop)->aI->Prop}:∀c:aI,c.l7 H->c.kf.bare H:=by
 intro c;induction c with
 |seq a b jD jE=>intro h;exact⟨jD h.1,jE h.2⟩
 |cond c a b jD jE=>intro h;exact⟨jD h.1,jE h.2⟩
 |block id b ih=>intro h;exact ih h
 |loop b ih=>intro h;exact ih h
 |fB=>intro _;rfl
 |jC=>intro _;rfl
 |ib T b _=>intro h;exact h
 |_=>intro _;trivial
def aI.plain:aI->Bool
 | .seq a b=>a.plain&&b.plain
 | .cond _ a b=>a.plain&&b.plain
 | .block _ b=>b.plain
 | .loop b=>b.plain
 | .ib _ _=>false
 |_=>true
theorem aI.Kf {H:((Exit->ax->Prop)->ax->Prop)->aI->Prop}:∀c:aI,c.plain=true->c.l7 H:=by
 intro c;induction c with
 |seq a b jD jE=>intro h;simp only[aI.plain,Bool.and_eq_true]at h;exact⟨jD h.1,jE h.2⟩
 |cond c a b jD jE=>intro h;simp only[aI.plain,Bool.and_eq_true]at h;exact⟨jD h.1,jE h.2⟩
 |block id b ih=>intro h;exact ih h
 |loop b ih=>intro h;exact ih h
 |ib T b _=>intro h;cases h
 |_=>intro _;trivial
def andThen (K:ax->Prop) (Q:Exit->ax->Prop):Exit->ax->Prop
 | .normal,s=>K s
 |e,s=>Q e s
def tO (id:Nat) (Q:Exit->ax->Prop):Exit->ax->Prop
 | .exit i,s=>if i=id then Q .normal s else Q (.exit i) s
 |e,s=>Q e s
def dm (K:ax->Prop) (s:ax):Prop:=K s\/∃l,tN s l/\K (az l)
def dM:Option aiA->(ax->Prop)->ax->Prop
 |none,K,s=>dm K s
 |some k,K,s=>K (az (k.map λt=>(t,s t)))
def a1 (C:bY):aI->(Exit->ax->Prop)->ax->Prop
 | .skip,Q,s=>Q .normal s
 | .fB ros keep,Q,s=>kV C s ros (dM keep (Q .normal))
 | .jC ros n0 keep,Q,s=>∀l,DL n0 l->jB C ros s l (dM keep (Q .normal))
 | .seq a b,Q,s=>a1 C a (andThen (dm (a1 C b Q)) Q) s
 | .cond c a b,Q,s=>match bp s c with
   | .bool fk=>if fk=true then a1 C a Q s else a1 C b Q s
   | .e7=>a1 C a Q s/\a1 C b Q s
   |_=>False
 | .block id b,Q,s=>a1 C b (tO id Q) s
 | .loop b,Q,s=>dm (λs=>∀Z:ax->Prop,(∀aD,a1 C b (andThen (dm Z) Q) aD->Z aD)->Z s) s
 | .exit id,Q,s=>Q (.exit id) s
 | .ret,Q,s=>Q .ret s
 | .ib T _,Q,s=>∀dT:Exit->ax->Prop,(∀e s,Q e s->dT e s)->T dT s
 | .raw _,_,_=>False
section
variable {C:bY}
theorem DP {s:ax} {o:bZ} {K c_:ax->Prop} (h:ld C s o K) (aw:∀s,K s->c_ s):ld C s o c_:=by
 unfold ld at h⊢;split
 .rename_i bB;rw[bB]at h;exact zF h λav s1=>aw _
 .rename_i t b bB;rw[bB]at h;simp only at h;split
  .rename_i fk U;rw[U]at h;simp only at h;split
   .rename_i R;rw[if_pos R]at h;exact zF h λav s1=>aw _
   .rename_i R;rw[if_neg R]at h;exact aw _ h
  .rename_i U;rw[U]at h;exact aw _ h
  .rename_i ab ad;split at h
   .exact ab _ (by assumption)
   .exact ad (by assumption)
   .exact h
theorem Kg {K c_:ax->Prop} (aw:∀s,K s->c_ s):∀{ros:List bZ} {s:ax},kV C s ros K->kV C s ros c_:=by
 intro ros;induction ros with
 |nil=>intro s h;exact aw s h
 |cons o ros ih=>intro s h;exact DP h λs h=>ih h
theorem Kh {ros:List bZ} {K c_:ax->Prop} (aw:∀s,K s->c_ s):∀{l:aiA} {s:ax},jB C ros s l K->jB C ros s l c_:=by
 intro l;induction l with
 |nil=>intro s h;exact aw s h
 |cons i l ih=>
  intro s h;simp only[jB]at h⊢;split
  .rename_i bx;rw[bx]at h;exact ih h
  .rename_i o bx;rw[bx]at h;exact DP h λs h=>ih h
theorem tP {K c_:ax->Prop} (aw:∀s,K s->c_ s) (s:ax) (h:dm K s):dm c_ s:=
 h.imp (aw s) λ⟨l,ab,ad⟩=>⟨l,ab,aw _ ad⟩
theorem Ki {keep:Option aiA} {K c_:ax->Prop} (aw:∀s,K s->c_ s) (s:ax) (h:dM keep K s):dM keep c_ s:=by
 cases keep with
 |none=>exact tP aw s h
 |some k=>exact aw _ h
theorem Kj {keep:Option aiA} {K:ax->Prop} {s:ax} (h:dM keep K s):dm K s:=by
 cases keep with
 |none=>exact h
 |some k=>
  refine .inr ⟨_,?_,h⟩;intro p au;obtain⟨t,_,rfl⟩:=List.mem_map.1 au;exact .inl rfl
theorem DQ {K c_:ax->Prop} {Q dT:Exit->ax->Prop} (aw:∀s,K s->c_ s) (bX:∀e s,Q e s->dT e s):∀e s,andThen K Q e s->andThen c_ dT e s:=by
 intro e s h;cases e with
 |normal=>exact aw s h
 |_=>exact bX _ s h
theorem DR:∀(c:aI) {Q dT:Exit->ax->Prop} {s:ax},(∀e s,Q e s->dT e s)->a1 C c Q s->a1 C c dT s:=by
 intro c;induction c with
 |skip=>intro Q dT s bX h;exact bX _ _ h
 |fB ros keep=>intro Q dT s bX h;exact Kg (Ki (bX _)) h
 |jC ros n0 keep=>intro Q dT s bX h l aO;exact Kh (Ki (bX _)) (h l aO)
 |seq a b jD jE=>
  intro Q dT s bX h;exact jD (DQ (λs h=>tP (λ_ h=>jE bX h) s h) bX) h
 |cond c a b jD jE=>
  intro Q dT s bX h;simp only[a1]at h⊢;split
  .rename_i fk R;rw[R]at h;simp only at h;split
   .rename_i e;rw[if_pos e]at h;exact jD bX h
   .rename_i e;rw[if_neg e]at h;exact jE bX h
  .rename_i R;rw[R]at h;exact⟨jD bX h.1,jE bX h.2⟩
  .rename_i ab ad;split at h
   .exact ab _ (by assumption)
   .exact ad (by assumption)
   .exact h
 |block id b ih=>
  intro Q dT s bX h;refine ih ?_ h;intro e s h;cases e with
  |exit i=>
   simp only[tO]at h⊢;split
   .rename_i e;rw[if_pos e]at h;exact bX _ _ h
   .rename_i e;rw[if_neg e]at h;exact bX _ _ h
  |_=>exact bX _ _ h
 |loop b ih=>
  intro Q dT s bX h;refine tP (λs h Z tQ=>?_) s h;exact h Z λaD eJ=>tQ aD (ih (DQ (λ_ h=>h) bX) eJ)
 |exit id=>intro Q dT s bX h;exact bX _ _ h
 |ret=>intro Q dT s bX h;exact bX _ _ h
 |ib T b _=>intro Q dT s bX h RR ad;exact h RR λe s he=>ad e s (bX e s he)
 |raw c=>intro Q dT s bX h;exact h
theorem zN:∀(c:aI) {Q:Exit->ax->Prop} {s:ax},a1 C c Q s->a1 C c.kf Q s:=by
 intro c;induction c with
 |fB ros keep=>intro Q s h;exact Kg (λs h=>Kj h) h
 |jC ros ew keep=>intro Q s h l aO;exact Kh (λs h=>Kj h) (h l aO)
 |seq a b jD jE=>intro Q s h;exact jD (DR a (DQ (λs h=>tP (λ_ h=>jE h) s h) (λ_ _ h=>h)) h)
 |cond c a b jD jE=>
  intro Q s h;simp only[aI.kf,a1]at h⊢;split
  .rename_i fk R;rw[R]at h;simp only at h;split
   .rename_i e;rw[if_pos e]at h;exact jD h
   .rename_i e;rw[if_neg e]at h;exact jE h
  .rename_i R;rw[R]at h;exact⟨jD h.1,jE h.2⟩
  .rename_i ab ad;split at h
   .exact ab _ (by assumption)
   .exact ad (by assumption)
   .exact h
 |block id b ih=>intro Q s h;exact ih h
 |loop b ih=>
  intro Q s h;refine tP (λs h Z tQ=>?_) s h;exact h Z λaD eJ=>tQ aD (ih eJ)
 |ib T b _=>intro Q s h;exact h
 |_=>intro Q s h;exact h
variable {w0 w:World} {F0 X:Nat->Prop} {n:Fr} {ρ:Nat->Value} {s:ax} {a:Act}
def p5 (w0:World) (F0 X:Nat->Prop) (n:Fr) (ρ:Nat->Value) (Q:Exit->ax->Prop):Exit->Act->World->Prop:=λe a w=>∃s,Q e s/\Rel w0 F0 X n ρ s a w
theorem Rel.dm {K:ax->Prop} {s:ax} {a:Act} {w:World} (aK:Rel w0 F0 X n ρ s a w) (h:dm K s):∃aD,K aD/\Rel w0 F0 X n ρ aD a w:=by
 rcases h with h|⟨l,ab,ad⟩
 .exact⟨s,h,aK⟩
 .obtain⟨g1,g2,g3,F,S,g4⟩:=aK;obtain⟨bF,aL,g5⟩:=g4.RQ ab;exact⟨az l,ad,g1,g2,g3,bF,aL,g5⟩
theorem aI.RS {c:aI} (h:c.strip= .skip):c= .skip\/∃T b,c= .ib T b:=by cases c<;>first|exact .inl rfl|exact .inr ⟨_,_,rfl⟩|cases h
theorem aI.RT {c:aI} (h:c.strip= .ret):c= .ret\/∃T b,c= .ib T b:=by cases c<;>first|exact .inl rfl|exact .inr ⟨_,_,rfl⟩|cases h
theorem aI.RU {c:aI} {i:Nat} (h:c.strip= .exit i):c= .exit i\/∃T b,c= .ib T b:=by cases c<;>first|exact .inl h|exact .inr ⟨_,_,rfl⟩|cases h
theorem aI.RV {c:aI} {x:Code} (h:c.strip= .raw x):c= .raw x\/∃T b,c= .ib T b:=by cases c<;>first|exact .inl h|exact .inr ⟨_,_,rfl⟩|cases h
theorem aI.RW {c:aI} {r:List bZ} {k:Option aiA} (h:c.strip= .fB r k):(∃ros ct,c= .fB ros ct/\ros.map bZ.un=r)\/∃T b,c= .ib T b:=by
 cases c<;>first|(cases h;exact .inl ⟨_,_,rfl,rfl⟩)|exact .inr ⟨_,_,rfl⟩|cases h
theorem aI.RX {c:aI} {r:List bZ} {ew:aiy} {k:Option aiA} (h:c.strip= .jC r ew k):(∃ros Kk ct,c= .jC ros Kk ct/\ros.map bZ.un=r/\Kk=ew)\/∃T b,c= .ib T b:=by
 cases c<;>first|(cases h;exact .inl ⟨_,_,_,rfl,rfl,rfl⟩)|exact .inr ⟨_,_,rfl⟩|cases h
theorem aI.RY {c x y:aI} (h:c.strip= .seq x y):(∃a b,c= .seq a b/\a.strip=x/\b.strip=y)\/∃T b,c= .ib T b:=by
 cases c<;>first|(cases h;exact .inl ⟨_,_,rfl,rfl,rfl⟩)|exact .inr ⟨_,_,rfl⟩|cases h
theorem aI.RZ {c x y:aI} {o:bg} (h:c.strip= .cond o x y):(∃lE a b,c= .cond lE a b/\lE=o/\a.strip=x/\b.strip=y)\/∃T b,c= .ib T b:=by
 cases c<;>first|(cases h;exact .inl ⟨_,_,_,rfl,rfl,rfl,rfl⟩)|exact .inr ⟨_,_,rfl⟩|cases h
theorem aI.R0 {c x:aI} {i:Nat} (h:c.strip= .block i x):(∃a,c= .block i a/\a.strip=x)\/∃T b,c= .ib T b:=by
 cases c<;>first|(cases h;exact .inl ⟨_,rfl,rfl⟩)|exact .inr ⟨_,_,rfl⟩|cases h
theorem aI.R1 {c x:aI} (h:c.strip= .loop x):(∃a,c= .loop a/\a.strip=x)\/∃T b,c= .ib T b:=by
 cases c<;>first|(cases h;exact .inl ⟨_,rfl,rfl⟩)|exact .inr ⟨_,_,rfl⟩|cases h
def q8:Code->List (Array Oper)
 | .region _ ops _=>[ops]
 | .seq a b=>q8 a++q8 b
 | .cond _ a b=>q8 a++q8 b
 | .block _ b=>q8 b
 | .loop b=>q8 b
 |_=>[]
theorem R2 (bh:C.Ok) {H:((Exit->ax->Prop)->ax->Prop)->aI->Prop} {gd:List (Array Oper)}
  (hH:∀(c:Code) (T:(Exit->ax->Prop)->ax->Prop) (b:aI) (Q:Exit->ax->Prop) (s:ax) (a:Act) (w:World),(∀r∈q8 c,r∈gd)->H T b->eB n c=some b.strip->T Q s->Rel w0 F0 X n ρ s a w->c.wp C.P (p5 w0 F0 X n ρ Q) a w):
  ∀(c:Code) {cW:aI} {Q:Exit->ax->Prop} {s:ax} {a:Act} {w:World},(∀r∈q8 c,r∈gd)->eB n c=some cW.strip->cW.bare H->a1 C cW Q s->Rel w0 F0 X n ρ s a w->c.wp C.P (p5 w0 F0 X n ρ Q) a w:=by
 intro c;induction c with
 |skip=>
  intro cW Q s a w fz U hf h aK;have jn:=U;simp only[eB,Option.some.injEq]at U;rcases aI.RS U.symm with rfl|⟨T,b,rfl⟩
  .exact wp_skip ⟨s,h,aK⟩
  .exact hH _ T b Q s a w fz hf (by simpa only[aI.strip]using jn) (h Q λ_ _ h=>h) aK
 |region id ops draw=>
  intro cW Q s a w fz U hf h aK;have jn:=U;cases draw with
  |false=>
   simp only[eB]at U;split at U
   rotate_left
   .have eJ:=(Option.some.injEq _ _▸U).symm;rcases aI.RV eJ with rfl|⟨T,b,rfl⟩
    .exact h.elim
    .exact hH _ T b Q s a w fz hf (by simpa only[aI.strip]using jn) (h Q λ_ _ h=>h) aK
   rename_i R3 wy;simp only[Option.some.injEq]at U;rcases aI.RW U.symm with⟨ros,k,rfl,rfl⟩|⟨T,b,rfl⟩
   rotate_left
   .exact hH _ T b Q s a w fz hf (by simpa only[aI.strip]using jn) (h Q λ_ _ h=>h) aK
   cases hf;exact RE bh wy (λaD cA aB aw ef=>ef.dm aw) h aK
  |true=>
   simp only[eB]at U;split at U
   .rename_i R;simp only[Option.map_eq_some_iff]at U;obtain⟨R3,wy,U⟩:=U;rcases aI.RX U.symm with⟨ros,ew,k,rfl,rfl,rfl⟩|⟨T,b,rfl⟩
    rotate_left
    .exact hH _ T b Q s a w fz hf (by simpa only[aI.strip]using jn) (h Q λ_ _ h=>h) aK
    cases hf;refine wp_region_draw λt=>?_;rw[show Region.schedule (C.P.follows .mixedOrders) ops t=Region.linearise .any ops t by simp[Region.schedule,bh.mixed]];exact J6 bh wy (λaD cA aB aw ef=>ef.dm aw) _ s a _ (h _ (RM R t)) (aK.drawn _ (by first|exact le_succ _|exact le_add_right _ _|omega))
   .cases U
 |seq x y R4 zO=>
  intro cW Q s a w fz U hf h aK;have jn:=U;simp only[eB]at U;split at U
  .rename_i tC Kl ar a8;simp only[Option.some.injEq]at U;rcases aI.RY U.symm with⟨eg,k9,rfl,rfl,rfl⟩|⟨T,b,rfl⟩
   rotate_left
   .exact hH _ T b Q s a w fz hf (by simpa only[aI.strip]using jn) (h Q λ_ _ h=>h) aK
   refine wp_seq (wp_mono (R4 (λr aK=>fz r (List.mem_append.2 (.inl aK))) ar hf.1 h aK) ?_);rintro e cA aB ⟨aD,bq,ef⟩;cases e with
   |normal=>
    obtain⟨aD,bq,ef⟩:=ef.dm bq;exact zO (λr aK=>fz r (List.mem_append.2 (.inr aK))) a8 hf.2 bq ef
   |_=>exact⟨aD,bq,ef⟩
  .cases U
 |cond x y z zO Km=>
  intro cW Q s a w fz U hf h aK;have jn:=U;simp only[eB]at U;split at U
  .rename_i tC Kl sz ar a8 bO;simp only[Option.some.injEq]at U;rcases aI.RZ U.symm with⟨eg,k9,pT,rfl,rfl,rfl,rfl⟩|⟨T,b,rfl⟩
   rotate_left
   .exact hH _ T b Q s a w fz hf (by simpa only[aI.strip]using jn) (h Q λ_ _ h=>h) aK
   have ef:=aK;obtain⟨ag,dP,bn,F,S,hrel⟩:=ef;have aH:=(fm (a:=a) hrel (λ_=>rfl) ar).2;simp only[a1]at h;split at h
   .rename_i fk R;rw[R]at aH;have:=qS aH;refine wp_cond this ?_;split
    .rename_i e;rw[if_pos e]at h;exact zO (λr aK=>fz r (List.mem_append.2 (.inl aK))) a8 hf.1 h aK
    .rename_i e;rw[if_neg e]at h;exact Km (λr aK=>fz r (List.mem_append.2 (.inr aK))) bO hf.2 h aK
   .rename_i R;rw[R]at aH;obtain⟨fk,kK⟩:=IH aH;refine wp_cond kK ?_;split
    .exact zO (λr aK=>fz r (List.mem_append.2 (.inl aK))) a8 hf.1 h.1 aK
    .exact Km (λr aK=>fz r (List.mem_append.2 (.inr aK))) bO hf.2 h.2 aK
   .exact h.elim
  .cases U
 |block id b ih=>
  intro cW Q s a w fz U hf h aK;have jn:=U;simp only[eB,Option.map_eq_some_iff]at U;obtain⟨vS,R,U⟩:=U;rcases aI.R0 U.symm with⟨fk,rfl,rfl⟩|⟨T,b,rfl⟩
  rotate_left
  .exact hH _ T b Q s a w fz hf (by simpa only[aI.strip]using jn) (h Q λ_ _ h=>h) aK
  refine wp_block (wp_mono (ih fz R hf h aK) ?_);rintro e cA aB ⟨aD,bq,ef⟩;cases e with
  |exit i=>
   simp only[tO]at bq;simp only[Exit.inBlock];split
   .rename_i e;rw[if_pos e]at bq;exact⟨aD,bq,ef⟩
   .rename_i e;rw[if_neg e]at bq;exact⟨aD,bq,ef⟩
  |_=>exact⟨aD,bq,ef⟩
 |loop b ih=>
  intro cW Q s a w fz U hf h aK;have jn:=U;simp only[eB,Option.map_eq_some_iff]at U;obtain⟨vS,R,U⟩:=U;rcases aI.R1 U.symm with⟨fk,rfl,rfl⟩|⟨T,b,rfl⟩
  rotate_left
  .exact hH _ T b Q s a w fz hf (by simpa only[aI.strip]using jn) (h Q λ_ _ h=>h) aK
  obtain⟨s,h,aK⟩:=aK.dm h;have key:=h (λs=>∀a w,Rel w0 F0 X n ρ s a w->∀(f:Frame) (k:List Item) (cs:List Frame),∃e cA aB,p5 w0 F0 X n ρ Q e cA aB/\Arrives C.P (lone (f.at a (.code b:: .inLoop b::k)) cs w) f k cs e cA aB) ?_
  .intro f k cs;obtain⟨e,cA,aB,bX,q9⟩:=key a w aK f k cs;exact⟨e,cA,aB,bX,.of_steps (.one step_loop) q9⟩
  .intro aD eJ a w aK f k cs;obtain⟨e,a₁,w₁,⟨s1,bX,ns⟩,q9⟩:=ih fz R hf eJ aK f (.inLoop b::k) cs;cases e with
   |normal=>
    simp only[andThen]at bX;obtain⟨s1,bX,ns⟩:=ns.dm bX;obtain⟨e₂,a₂,w₂,hq₂,harr₂⟩:=bX a₁ w₁ ns f k cs;exact⟨e₂,a₂,w₂,hq₂,.of_steps (Steps.trans q9 (.one step_inLoop)) harr₂⟩
   |exit id=>exact⟨_,a₁,w₁,⟨s1,bX,ns⟩,.pass (x:=.inLoop b) rfl (λ_ _=>.inl (by simp)) q9⟩
   |goto l=>exact⟨_,a₁,w₁,⟨s1,bX,ns⟩,.pass (x:=.inLoop b) rfl (λ_ _=>.inl (by simp)) q9⟩
   |ret=>exact⟨_,a₁,w₁,⟨s1,bX,ns⟩,.pass (x:=.inLoop b) rfl (λ_ _=>.inl (by simp)) q9⟩
   |panic agK=>exact⟨_,a₁,w₁,⟨s1,bX,ns⟩,.pass (x:=.inLoop b) rfl (λ_ _=>.inl (by simp)) q9⟩
   |outgrown=>exact⟨_,a₁,w₁,⟨s1,bX,ns⟩,.pass (x:=.inLoop b) rfl (λ_ _=>.inl (by simp)) q9⟩
 |exit id=>
  intro cW Q s a w fz U hf h aK;have jn:=U;simp only[eB,Option.some.injEq]at U;rcases aI.RU U.symm with rfl|⟨T,b,rfl⟩
  .exact wp_exit ⟨s,h,aK⟩
  .exact hH _ T b Q s a w fz hf (by simpa only[aI.strip]using jn) (h Q λ_ _ h=>h) aK
 |ret=>
  intro cW Q s a w fz U hf h aK;have jn:=U;simp only[eB,Option.some.injEq]at U;rcases aI.RT U.symm with rfl|⟨T,b,rfl⟩
  .exact wp_ret ⟨s,h,aK⟩
  .exact hH _ T b Q s a w fz hf (by simpa only[aI.strip]using jn) (h Q λ_ _ h=>h) aK
 |_=>intro cW Q s a w fz U;simp[eB]at U
theorem DS (bh:C.Ok) {H:((Exit->ax->Prop)->ax->Prop)->aI->Prop}
  (hH:∀(c:Code) (T:(Exit->ax->Prop)->ax->Prop) (b:aI) (Q:Exit->ax->Prop) (s:ax) (a:Act) (w:World),H T b->eB n c=some b.strip->T Q s->Rel w0 F0 X n ρ s a w->c.wp C.P (p5 w0 F0 X n ρ Q) a w):
  ∀(c:Code) {cW:aI} {Q:Exit->ax->Prop} {s:ax} {a:Act} {w:World},eB n c=some cW.strip->cW.bare H->a1 C cW Q s->Rel w0 F0 X n ρ s a w->c.wp C.P (p5 w0 F0 X n ρ Q) a w:=
 λc _ _ _ _ _ U R h aK=>R2 bh (λc T b Q s a w _ h_ U h aK=>hH c T b Q s a w h_ U h aK) c (λ_ aK=>aK) U R h aK
theorem Kn (bh:C.Ok) (c:Code) {cW:aI} {Q:Exit->ax->Prop} {s:ax} {a:Act} {w:World} (U:eB n c=some cW.strip) (R:cW.bare (λ_ _=>False)) (h:a1 C cW Q s) (aK:Rel w0 F0 X n ρ s a w):c.wp C.P (p5 w0 F0 X n ρ Q) a w:=
 DS bh (λ_ _ _ _ _ _ _ bn=>bn.elim) c U R h aK
end
def iL:ResultVar->Nat
 | .tmp t=>t
 | .cell a _=>a
def n2 (C:bY) (s:ax):ResultVar->Option I
 | .tmp t=>if(s t).tree=true then(match s t with| .tuple _=>none|d=>some d)else none
 | .cell a T=>match s a with
   | .bb d=>if fits C T d=true/\d.tree=true then some d else none
   |_=>none
def DT (C:bY) (fx:aiA) (en:List ResultVar) (r:I) (outs:aiF) (s:ax):Prop:=
 ∃ds,en.map (n2 C s)=ds.map some/\r=(match ds with|[d]=>d|ds=>.tuple ds)/\(en.map iL).Nodup/\
  ∀(i:Nat) (o:I),outs[i]? =some o->o= .hole\/(o=s i/\o.fS=true/\i∈fx/\i∉en.map iL)
def Ends (C:bY) (fx:aiA) (en:List ResultVar) (r:I) (outs:aiF) (s:ax):Prop:=
 DT C fx en r outs s\/∃t y q d s1,s t= .h y q/\cB s (.h y q)=some (d,s1)/\DT C fx en r outs (fin s1 (some t) d)
theorem bs.takes {w0 w:World} {F0 X F:Nat->Prop} {S:Nat->Nat->Prop} {s s1:ax} {aC:Nat->Value} {t y:Nat} {q:aiA} {d:I} (aK:bs w0 F0 X F S s aC w) (ab:s t= .h y q) (ad:cB s (.h y q)=some (d,s1)):
  ∃aL,bs w0 F0 X F aL (cU.fin s1 (some t) d) aC w:=by
 have U:=aK.df t;rw[ab,aG]at U;obtain⟨bM,k0,b1,cb,Sn,eu,dp,e0,dv,k7,_⟩:=oP aK (av:=.h y q) (v:=aC t) rfl (by rw[aG];exact U) ad;obtain⟨aL,bq⟩:=k0.fin (.inr ⟨b1,cb,Sn,eu,dp,e0,dv,k7⟩) (some t);refine⟨aL,?_⟩;have e:mn aC (some t) (aC t)=aC:=by
  funext u;simp only[mn,de];split
  .rename_i h;rw[h]
  .rfl
 rwa [e]at bq
section
variable {C:bY} {w0 w:World} {F0 X F:Nat->Prop} {S:Nat->Nat->Prop} {s:ax} {tmps:Array Value}
theorem Ko {d:I} {x:Value} (ag:∀vs,d≠.tuple vs) (h:dd d x):b9 x=hU x/\hV d x:=by
 have:hV d x:=by cases d<;>first|exact h|exact(ag _ rfl).elim
 refine⟨?_,this⟩;cases d<;>first
  |(obtain⟨a,rfl⟩:=this;rfl)
  |(simp only[hV]at this
    rw[ga this];cases x<;>first|rfl|(simp[Value.fw]at this))
def wz (tmps:Array Value):ResultVar->Sem Value
 | .tmp t=>pure (tmps.getD t undef)
 | .cell a t=>do loadVar t (<-asAddr (tmps.getD a undef))
theorem R5 (bh:C.Ok) (h:bs w0 F0 X F S s (λt=>tmps.getD t undef) w) {v:ResultVar} {d:I} (aH:n2 C s v=some d):
  ∃x,(wz tmps v).run C.P w= .ok x w/\d.tree=true/\(∀vs,d≠.tuple vs)/\dd d x/\aq w F d (b9 x) (S (iL v)):=by
 cases v with
 |tmp t=>
  simp only[n2]at aH;split at aH
  .rename_i aY;have l5:(∀vs,s t≠.tuple vs)/\d=s t:=by
    cases U:s t<;>rw[U]at aH<;>simp only at aH<;>first
     |(cases aH;done)
     |(simp only[Option.some.injEq]at aH;exact⟨(λ_ h=>by cases h),aH.symm⟩)
   obtain⟨l5,rfl⟩:=l5;obtain⟨g1,g2⟩:=(aG.ca aY).1 (h.df t);exact⟨_,by simp[wz],aY,l5,g1,g2⟩
  .cases aH
 |cell a T=>
  simp only[n2]at aH;split at aH
  .rename_i e U;split at aH
   .rename_i R6;obtain⟨h0,DU⟩:=R6;simp only[Option.some.injEq]at aH;subst aH;have hW:=h.df a;rw[U]at hW;obtain⟨g1,g2⟩:=(aG.ca (d:=.bb e) rfl).1 hW;rw[ga g1,aq]at g2;obtain⟨b,cur,ty,fr,aL,b1,cb,eu,dp,e0,dv,k7⟩:=g2;simp only[List.cons.injEq,and_true]at b1;have jw:Rd w b 0 cur.toList:=by
     have:=tp eu cur.size
     rwa [List.take_of_length_le (by simp)]at this
    obtain⟨x,cY,ba,cG⟩:=zh (C:=C) bh jw e0 h0;refine⟨x,?_,DU,?_,cG,?_⟩
    .simp only[wz];rw[b1];simpa [asAddr]using cY
    .intro vs fF;subst fF;unfold fits at h0;split at h0<;>simp_all
    .rw[ba];exact aq.mono (λ_ h=>h) _ _ _ _ dv e0
   .cases aH
  .cases aH
theorem R7 (bh:C.Ok) (h:bs w0 F0 X F S s (λt=>tmps.getD t undef) w):∀(en:List ResultVar) (ds:aiF),en.map (n2 C s)=ds.map some->(en.map iL).Nodup->
  ∃xs,(en.mapM (wz tmps)).run C.P w= .ok xs w/\xs.length=ds.length/\aV w F ds (xs.flatMap hU) (λb=>∃t∈en.map iL,S t b)/\
   ∀(k:Nat) (d:I) (x:Value),ds[k]? =some d->xs[k]? =some x->dd d x/\(∀vs,d≠.tuple vs)/\(hU x).length=d.wd/\b9 x=hU x/\d.tree=true:=by
 intro en;induction en with
 |nil=>
  intro ds he _;have:ds=[]:=by simpa using he.symm
  subst this;exact⟨[],by simp,rfl,by simp only[List.flatMap_nil];rw[aV],λk d x ag=>by simp at ag⟩
 |cons v en ih=>
  intro ds he tR;cases ds with
  |nil=>simp at he
  |cons d ds=>
   simp only[List.map_cons,List.cons.injEq]at he;simp only[List.map_cons,List.nodup_cons]at tR;obtain⟨x,cY,rt,ba,cG,bV⟩:=R5 bh h he.1;obtain⟨xs,hd,gz,il,im⟩:=ih ds he.2 tR.2;obtain⟨aN,aR⟩:=Ko ba cG;refine⟨x::xs,by simp[List.mapM_cons,cY,hd],by simp[gz],?_,?_⟩
   .simp only[List.flatMap_cons];rw[aV];rw[aN]at bV;refine⟨hU x,xs.flatMap hU,S (iL v),λb=>∃t∈en.map iL,S t b,rfl,bV,il,λb R=>⟨iL v,by simp,R⟩,?_,?_⟩
    .rintro b ⟨t,aY,R⟩;exact⟨t,by simp[aY],R⟩
    .rintro b R ⟨t,aY,kK⟩;have:t≠iL v:=λe=>tR.1 (e▸aY);exact h.eZ t (iL v) b this kK R
   .intro k a6 eg ag ar;cases k with
    |zero=>
     simp at ag ar;subst ag ar;refine⟨cG,ba,?_,aN,rt⟩;rw[<-aN];exact aq.length _ _ _ bV
    |succ k=>exact im k a6 eg (by simpa using ag) (by simpa using ar)
theorem DV (bh:C.Ok) {f:FuncId} {fn:Func} {c:Code} {fx:aiA} {as outs:aiF} {r:I} (bn:C.P.funcs[f]? =some fn) (R:fn.body=some c)
  (kg:(fn.name== "runtime.NumGoroutine")=false) (aP:as.length<=fn.ntmps)
  {w:World} {F X:Nat->Prop} {S:Nat->Nat->Prop} {vs:aiD} (aO:vs.length=as.length) (aK:bs w F X F S (eA as) (fI vs) w)
  (DW:∀a,Rel w F X ⟨fn.ntmps,fx⟩ (fI vs) (eA as) a w->(∀t,a.tmps.getD t undef=fI vs t)->c.wp C.P (p5 w F X ⟨fn.ntmps,fx⟩ (fI vs) (λe s=>(e= .normal\/e= .ret)/\dm (Ends C fx fn.results.toList r outs) s)) a w):
  mw C.P f vs.toArray w λv aB=>∃bF aL,bs w F X bF aL (eA (r::outs)) (fI (v::vs)) aB:=by
 have nj:(vs.toArray++Array.replicate (fn.ntmps-vs.toArray.size) undef).size=fn.ntmps:=by simp;omega
 have dX:(λt=>(vs.toArray++Array.replicate (fn.ntmps-vs.toArray.size) undef).getD t undef)=fI vs:=by
  funext t;simp only[fI,Array.getD_eq_getD_getElem?,List.getD_eq_getElem?_getD];by_cases aY:t<vs.length
  .rw[Array.getElem?_append_left (by simpa using aY)];simp
  .rw[Array.getElem?_append_right (by simpa using aY)];rw[List.getElem?_eq_none (by omega)];simp only[Array.getElem?_replicate];split<;>rfl
 have hrel:Rel w F X ⟨fn.ntmps,fx⟩ (fI vs) (eA as) {tmps:=vs.toArray++Array.replicate (fn.ntmps-vs.toArray.size) undef,defers:=[]} w:=
  ⟨rfl,nj,λi _=>congrFun dX i,F,S,by rw[dX];exact aK⟩
 have DX:fn.name≠ "runtime.NumGoroutine" :=by simpa using kg
 refine .inl ⟨by simp[callFunc,bn,DX,R],calls_of_wp bn R (wp_mono (DW _ hrel (congrFun dX)) ?_)⟩;rintro e cA aB ⟨aD,⟨he,R8⟩,R9⟩;obtain⟨aD,⟨ds,gI,Kp,tR,rZ⟩,ag,dP,ir,bF,aL,ef⟩:∃aD,DT C fx fn.results.toList r outs aD/\Rel w F X ⟨fn.ntmps,fx⟩ (fI vs) aD cA aB:=by
  obtain⟨aD,he,Kq⟩:=R9.dm R8;rcases he with he|⟨t,y,q,d,s1,ab,ad,he⟩
  .exact⟨aD,he,Kq⟩
  .obtain⟨g1,g2,g3,F,S,g4⟩:=Kq;obtain⟨aL,g5⟩:=g4.takes ab ad;exact⟨_,he,g1,g2,g3,F,aL,g5⟩
 obtain⟨xs,hd,gz,il,im⟩:=R7 bh ef _ ds gI tR;have R_:(results fn cA.tmps)=(do let vs<-fn.results.mapM (wz cA.tmps);pure (if h:vs.size=1 then vs[0]else .tuple vs)):=by
  unfold results;congr 1
 have r3:(results fn cA.tmps).run C.P aB= .ok (if h:xs.toArray.size=1 then xs.toArray[0]else .tuple xs.toArray) aB:=by
  rw[R_,Array.mapM_eq_mapM_toList];simp[hd]
 have o7:(r.tree=true/\dd r (if h:xs.toArray.size=1 then xs.toArray[0]else .tuple xs.toArray)/\
   aq aB bF r (b9 (if h:xs.toArray.size=1 then xs.toArray[0]else .tuple xs.toArray)) (λb=>∃t∈fn.results.toList.map iL,aL t b)):=by
  by_cases ab:∃d,ds=[d]
  .obtain⟨d,rfl⟩:=ab;obtain⟨x,rfl⟩:∃x,xs=[x]:=by
    cases xs with
    |nil=>simp at gz
    |cons x xs=>cases xs with
     |nil=>exact⟨x,rfl⟩
     |cons y ys=>simp at gz
   obtain⟨b1,cb,eu,dp,e0⟩:=im 0 d x rfl rfl;have Sa:d=r:=Kp.symm;subst Sa;simp only[List.flatMap_cons,List.flatMap_nil,List.append_nil]at il;rw[aV]at il;obtain⟨c1,c2,bM,c3,aN,aR,aS,b0,cd,bQ⟩:=il;rw[aV]at aS;subst aS;simp only[List.append_nil]at aN;subst aN;have ar:(if h:([x]:aiD).toArray.size=1 then([x]:aiD).toArray[0]else .tuple ([x]:aiD).toArray)=x:=by simp
   rw[ar,dp];exact⟨e0,b1,aq.mono (λ_ h=>h) _ _ _ _ b0 aR⟩
  .have zP:r= .tuple ds:=by
    rw[Kp];cases ds with
    |nil=>rfl
    |cons d ds=>cases ds with
     |nil=>exact(ab ⟨d,rfl⟩).elim
     |cons e ds=>rfl
   have ar:(if h:xs.toArray.size=1 then xs.toArray[0]else Value.tuple xs.toArray)= .tuple xs.toArray:=by
    rw[dif_neg];intro dP;have:ds.length=1:=by rw[<-gz];simpa using dP
    obtain⟨d,ag⟩:=List.length_eq_one_iff.1 this;exact ab ⟨d,ag⟩
   rw[ar,zP];refine⟨rfl,⟨xs.toArray,rfl,by simpa using gz,λk d x ag ar=>?_⟩,?_⟩
   .obtain⟨b1,cb,eu,dp,_⟩:=im k d x ag (by simpa using ar);exact⟨(Ko cb b1).2,cb,eu⟩
   .rw[aq];simpa [b9]using il
 have post:∀(v:Value),(r.tree=true/\dd r v/\aq aB bF r (b9 v) (λb=>∃t∈fn.results.toList.map iL,aL t b))->∃sl bM,bs w F X sl bM (eA (r::outs)) (fI (v::vs)) aB:=by
  rintro v ⟨v1,v2,v3⟩;have DY:∀i,(outs.getD i .hole).fS=true->outs.getD i .hole=aD i/\i∈fx/\i∉fn.results.toList.map iL:=by
   intro i ak;cases bx:outs[i]? with
   |none=>simp[List.getD,bx,I.fS]at ak
   |some o=>
    have e:outs.getD i .hole=o:=by simp[List.getD,bx]
    rw[e]at ak⊢;rcases rZ i o bx with h|h
    .subst h;simp[I.fS]at ak
    .exact⟨h.1,h.2.2⟩
  refine⟨bF,λt b=>match t with|0=>∃t∈fn.results.toList.map iL,aL t b|i+1=>(outs.getD i .hole).fS=true/\aL i b,ef.gx,ef.gJ,ef.eH,?_,?_,?_,?_,?_,ef.old,ef.size,ef.os,ef.tape,ef.output,aK.gy⟩
  .intro t b R;cases t with
   |zero=>obtain⟨t,_,R⟩:=R;exact ef.dW t b R
   |succ i=>exact ef.dW i b R.2
  .intro t b R;cases t with
   |zero=>obtain⟨t,_,R⟩:=R;exact ef.e8 t b R
   |succ i=>exact ef.e8 i b R.2
  .intro t u b cw R hu;cases t with
   |zero=>
    obtain⟨t,aY,R⟩:=R;cases u with
    |zero=>exact cw rfl
    |succ j=>
     refine ef.eZ t j b (λe=>?_) R hu.2;subst e;exact(DY t hu.1).2.2 aY
   |succ i=>
    cases u with
    |zero=>
     obtain⟨t,aY,hu⟩:=hu;refine ef.eZ t i b (λe=>?_) hu R.2;subst e;exact(DY t R.1).2.2 aY
    |succ j=>exact ef.eZ i j b (by omega) R.2 hu.2
  .intro t b R;cases t with
   |zero=>obtain⟨t,_,R⟩:=R;exact ef.dh t b R
   |succ i=>exact ef.dh i b R.2
  .intro t;cases t with
   |zero=>exact(aG.ca v1).2 ⟨v2,v3⟩
   |succ i=>
    show aG aB bF (eA (r::outs)) (fI (v::vs)) (outs.getD i .hole) (vs.getD i undef) (λb=>(outs.getD i .hole).fS=true/\aL i b);cases ak:(outs.getD i .hole).fS with
    |false=>
     have:outs.getD i .hole= .hole:=by
      cases bx:outs[i]? with
      |none=>simp[List.getD,bx]
      |some o=>
       have e:outs.getD i .hole=o:=by simp[List.getD,bx]
       rw[e]at ak⊢;rcases rZ i o bx with h|h
       .exact h
       .rw[h.2.1]at ak;cases ak
     rw[this,aG];trivial
    |true=>
     obtain⟨lb,jA,nX⟩:=DY i ak;have aY:=(p4 ak).2.1;have hW:=ef.df i;rw[<-lb]at hW;obtain⟨g1,g2⟩:=(aG.ca aY).1 hW;have aH:cA.tmps.getD i undef=vs.getD i undef:=ir i jA;rw[aH]at g1 g2;exact(aG.ca aY).2 ⟨g1,aq.mono (λ_ h=>h) _ _ _ _ (λb R=>⟨rfl,R⟩) g2⟩
 rcases he with rfl|rfl
 .exact⟨ag,_,r3,_,rfl,post _ o7⟩
 .exact⟨ag,_,r3,_,rfl,post _ o7⟩
theorem aW.of_wp (bh:C.Ok) {f:FuncId} {fn:Func} {c:Code} {cW:aI} {fx:aiA} {as outs:aiF} {r:I} (bn:C.P.funcs[f]? =some fn) (R:fn.body=some c)
  (kg:(fn.name== "runtime.NumGoroutine")=false) (U:eB ⟨fn.ntmps,fx⟩ c=some cW.strip) (aP:as.length<=fn.ntmps)
  (h:a1 C cW (λe s=>(e= .normal\/e= .ret)/\dm (Ends C fx fn.results.toList r outs) s) (eA as)) (au:cW.plain=true:=by kernel_rfl):aW C f as r outs:=
 λw F X S vs aO aK=>DV bh bn R kg aP aO aK λa hrel _=>Kn bh c (by rw[aI.DO];exact U) (aI.zM cW (aI.Kf cW au)) (zN cW h) hrel
end
def num:Nat->aiF->aiE
 |_,[]=>[]
 |k,a::as=>(k,a)::num (k+1) as
theorem Sb:∀(as:aiF) (k t:Nat),az (num k as) (k+t)=as.getD t .hole:=by
 intro as;induction as with
 |nil=>intro k t;simp[num,az]
 |cons a as ih=>
  intro k t;cases t with
  |zero=>simp[num,az]
  |succ t=>
   have:=ih (k+1) t;simp only[num,az];rw[if_neg (by omega)];rw[show k+(t+1)=k+1+t by omega,this];simp
theorem DZ (as:aiF):eA as=az (num 0 as):=by
 funext t;have:=Sb as 0 t;rw[Nat.zero_add]at this;rw[this];rfl
theorem zQ (l:aiE) (t:Nat) (d:I):de (az l) t d=az ((t,d)::l):=by
 funext u;simp only[de,az]
def p6 (t:Nat):aiE->aiE
 |[]=>[]
 |(u,d)::l=>(u,cr t d)::p6 t l
def so (t:Nat):aiE->aiE
 |[]=>[]
 |(u,d)::l=>(u,bT t d)::so t l
theorem D0 (t:Nat):∀l:aiE,k5 t (az l)=az (p6 t l):=by
 intro l;funext u;induction l with
 |nil=>rfl
 |cons p l ih=>
  obtain⟨v,d⟩:=p;simp only[k5,az,p6]at ih⊢;split
  .rfl
  .exact ih
theorem Sc (t:Nat):∀l:aiE,hA t (az l)=az (so t l):=by
 intro l;funext u;induction l with
 |nil=>rfl
 |cons p l ih=>
  obtain⟨v,d⟩:=p;simp only[hA,az,so]at ih⊢;split
  .rfl
  .exact ih
def gu (k:aiA) (s:ax):aiE:=k.map λt=>(t,s t)
section
variable {C:bY} {l:aiE}
def dI.hI:dI->Bool
 | .call _ _=>true
 | .iK _=>false
 | .l4 _=>false
 | .pick _ _ _=>false
 | .jS _=>false
 | .iJ _ _=>false
 | .gH _ _=>false
 | .eI _ _ _=>false
 | .eR _ _=>false
 | .ik _ _ _=>false
 | .kb _=>false
 | .eL _ _ _ _=>false
 | .un _ _=>false
 | .lB _ _ _=>false
 | .l3 _ _=>false
 | .ek _ _ _=>false
 | .hC _ _ _ _=>false
 | .gK _ _ _=>false
 | .jk _ _ _=>false
 | .idx _ _ _=>false
 | .ex _ _=>false
 | .lA _ _ _=>false
 | .len _ _=>false
 | .app _ _ _ _=>false
 | .shr _=>true
 | .cap _ _=>false
 | .o0 _ _ _=>false
 | .bad=>false
 | .mu _=>false
 | .vX=>false
 | .ng _ _ _=>false
 | .l1 _ _ _ _=>false
variable {Q:Exit->ax->Prop}
def I.Kr:I->Bool
 | .tuple _=>true
 |_=>false
theorem Ends.one {fx:aiA} {t:Nat} {r:I} {s:ax} (ab:s t=r) (ad:(r.tree&& !r.Kr)=true):Ends C fx [.tmp t] r [] s:=by
 simp only[Bool.and_eq_true,Bool.not_eq_true']at ad;obtain⟨ad,zR⟩:=ad;have aA:∀vs,r≠.tuple vs:=λvs e=>by subst e;simp[I.Kr]at zR
 refine .inl ⟨[r],?_,rfl,by simp,λi o h=>by simp at h⟩;have:n2 C s (.tmp t)=some r:=by
  simp only[n2,ab,ad,if_true];try (cases r<;>first|rfl|exact(aA _ rfl).elim)
 simp only[List.map_cons,List.map_nil,this]
end
section
variable {C:bY} {l:aiE} {Q:Exit->ax->Prop}
theorem aW.outs {f:FuncId} {as:aiF} {r:I} {lb jA:aiF} (h:aW C f as r lb) (he:eA lb=eA jA):aW C f as r jA:=by
 intro w F X S vs aO aK;refine mw.mono (h w F X S vs aO aK) ?_;rintro v aB ⟨bF,aL,bq⟩;refine⟨bF,aL,?_⟩;have:eA (r::jA)=eA (r::lb):=by
  funext t;cases t with
  |zero=>rfl
  |succ t=>exact(congrFun he t).symm
 rw[this];exact bq
def lG:aiF->aiF->List cf
 |a::as,d::ds=>⟨a,false,d,.hole⟩::lG as ds
 |_,_=>[]
theorem Sd {s:ax}:∀(as ds:aiF),views s as=some ds->(lG as ds).map (·.a)=as/\(lG as ds).map (·.d)=ds/\(∀p∈lG as ds,p.ok s/\p.g=false/\p.o= .hole/\p.a∈as)/\h2 (lG as ds)=true/\
  eA ((lG as ds).map (·.o))=eA []/\(∀p7,eT p7 (lG as ds)=p7)/\(∀p7,hE p7 (lG as ds)=p7):=by
 intro as;induction as with
 |nil=>
  intro ds h;simp only[views,Option.some.injEq]at h;subst h;exact⟨rfl,rfl,(λp au=>by cases au),rfl,rfl,λ_=>rfl,λ_=>rfl⟩
 |cons a as ih=>
  intro ds h;simp only[views]at h;split at h
  .rename_i d Se ab ad;simp only[Option.some.injEq]at h;subst h;obtain⟨aN,aR,aS,b0,cd,bQ,bH⟩:=ih Se ad;refine⟨by simp only[lG,List.map_cons,aN],by simp only[lG,List.map_cons,aR],?_,?_,?_,?_,?_⟩
   .intro p au;simp only[lG,List.mem_cons]at au;rcases au with rfl|au
    .exact⟨by simp only[cf.ok];exact ab,rfl,rfl,by simp⟩
    .obtain⟨g1,g2,g3,g4⟩:=aS p au;exact⟨g1,g2,g3,by simp[g4]⟩
   .simp only[lG,h2,b0,Bool.and_true,List.all_eq_true];intro p au;simp[(aS p au).2.1]
   .funext t;cases t with
    |zero=>rfl
    |succ t=>exact(congrFun cd t).trans (by simp[eA])
   .intro p7;exact bQ p7
   .intro p7;exact bH p7
  .cases h
end
structure fa where
 cL:aiA
 H:aiA
 T:aiA
 c:Bool
mutual
def I.clean:I->Bool
 | .hole=>false
 | .fn _ cap=>I.tS cap
 |_=>true
def I.tS:aiF->Bool
 |[]=>true
 |d::ds=>d.clean&&I.tS ds
end
mutual
theorem Ks {x:Nat}:∀a:I,(bT x a).clean=true->bT x a=a
 | .h y q,h=>by
   simp only[bT]at h⊢;split
   .rename_i e;rw[if_pos e]at h;split
    .rfl
    .rename_i fF;rw[if_neg fF]at h;simp[I.clean]at h
   .rfl
 | .au y q,h=>by
   simp only[bT]at h⊢;split
   .rename_i e;rw[if_pos e]at h;simp[I.clean]at h
   .rfl
 | .R y q,h=>rfl
 | .fn f cap,h=>by simp only[bT,I.clean]at h⊢;rw[Kt cap h]
 | .hole,_=>rfl
 | .bool _,_=>rfl
 | .e7,_=>rfl
 | .int _ _,_=>rfl
 | .str _,_=>rfl
 | .di,_=>rfl
 | .a_,_=>rfl
 | .slice _,_=>rfl
 | .al _ _,_=>rfl
 | .ref _,_=>rfl
 | .bb _,_=>rfl
 | .agg _,_=>rfl
 | .tuple _,_=>rfl
 | .dz _,_=>rfl
 | .fv _ _,_=>rfl
theorem Kt {x:Nat}:∀ds:aiF,I.tS (h9 x ds)=true->h9 x ds=ds
 |[],_=>rfl
 |d::ds,h=>by
  simp only[h9,I.tS,Bool.and_eq_true]at h⊢;rw[Ks d h.1,Kt ds h.2]
end
mutual
theorem Ku {x:Nat}:∀a:I,(cr x a).clean=true->cr x a=a
 | .h y q,h=>by
   simp only[cr]at h⊢;split
   .rename_i e;rw[if_pos e]at h;simp[I.clean]at h
   .rfl
 | .au y q,h=>by
   simp only[cr]at h⊢;split
   .rename_i e;rw[if_pos e]at h;simp[I.clean]at h
   .rfl
 | .R y q,h=>by
   simp only[cr]at h⊢;split
   .rename_i e;rw[if_pos e]at h;simp[I.clean]at h
   .rfl
 | .fn f cap,h=>by simp only[cr,I.clean]at h⊢;rw[Kv cap h]
 | .hole,_=>rfl
 | .bool _,_=>rfl
 | .e7,_=>rfl
 | .int _ _,_=>rfl
 | .str _,_=>rfl
 | .di,_=>rfl
 | .a_,_=>rfl
 | .slice _,_=>rfl
 | .al _ _,_=>rfl
 | .ref _,_=>rfl
 | .bb _,_=>rfl
 | .agg _,_=>rfl
 | .tuple _,_=>rfl
 | .dz _,_=>rfl
 | .fv _ _,_=>rfl
theorem Kv {x:Nat}:∀ds:aiF,I.tS (iH x ds)=true->iH x ds=ds
 |[],_=>rfl
 |d::ds,h=>by
  simp only[iH,I.tS,Bool.and_eq_true]at h⊢;rw[Ku d h.1,Kv ds h.2]
end
theorem Sf {k:o1} {x:Nat} {a:I} (h:(k.app x a).clean=true):k.app x a=a:=by
 cases k with
 |no=>rfl
 |bT=>exact Ks a h
 |cr=>exact Ku a h
theorem Sg:∀(ms:List gr) (u:Nat) (a:I),(∀m∈ms,m.x≠u)->(jz ms u a).clean=true->jz ms u a=a:=by
 intro ms;induction ms with
 |nil=>intros;rfl
 |cons m ms ih=>
  intro u a ar aj;simp only[jz]at aj⊢;have e:=ih u _ (λhB sq=>ar hB (by simp[sq])) aj;have hm:m.at u a=m.k.app m.x a:=by
   simp only[gr.at];rw[if_neg (λe=>ar m (by simp) e.symm)]
  rw[e,hm];rw[e,hm]at aj;exact Sf aj
theorem Sh:∀(ms:List gr) (u:Nat) (a:I),(∀m∈ms,m.x≠u/\m.x∉a.U)->jz ms u a=a:=by
 intro ms;induction ms with
 |nil=>intros;rfl
 |cons m ms ih=>
  intro u a ar;simp only[jz];have hm:m.at u a=a:=by
   simp only[gr.at];rw[if_neg (λe=>(ar m (by simp)).1 e.symm)];exact wa (.inr (ar m (by simp)).2)
  rw[hm];exact ih u a λhB sq=>ar hB (by simp[sq])
theorem Si (m:gr):∀(ms:List gr) (u:Nat) (a:I),(∀hB∈ms,hB.x≠m.x/\hB.x∉m.d.U/\m.x∉hB.d.U)->jz ms u (m.at u a)=m.at u (jz ms u a):=by
 intro ms;induction ms with
 |nil=>intros;rfl
 |cons n ms ih=>
  intro u a ar;simp only[jz];have aP:=ar n (by simp);have aj:n.at u (m.at u a)=m.at u (n.at u a):=by
   simp only[gr.at];by_cases aN:u=n.x
   .subst aN;rw[if_pos rfl,if_neg aP.1,if_pos rfl];exact(wa (.inr aP.2.2)).symm
   .rw[if_neg aN];by_cases aR:u=m.x
    .subst aR;rw[if_pos rfl,if_pos rfl];exact wa (.inr aP.2.1)
    .rw[if_neg aR,if_neg aN,if_neg aR];exact QO _ _ _ _ _
  rw[aj];exact ih u _ λhB sq=>ar hB (by simp[sq])
theorem Sj:∀(ms kz:List gr) (s:ax),(∀m∈ms,∀n∈kz,n.x≠m.x/\n.x∉m.d.U/\m.x∉n.d.U)->dx kz (dx ms s)=dx ms (dx kz s):=by
 intro ms;induction ms with
 |nil=>intros;rfl
 |cons m ms ih=>
  intro kz s h;have e:∀s,dx (m::ms) s=dx ms (dx [m] s):=λs=>mv [m] ms s;rw[e,e,ih kz _ (λhB sq=>h hB (by simp[sq]))];congr 1;funext u;simp only[dx,jz];exact Si m kz u _ (h m (by simp))
def Sk (C:bY) (s:ax) (f:bg) (args:List bg) (K:aiA->I->ax->Prop):Prop:=
 ∃(g:FuncId) (caps:aiF) (ps:List cf) (r:I),bp s f= .fn g caps/\I.fY caps=true/\ps.map (·.a)=args.map (bp s)++caps/\(∀p∈ps,p.ok s)/\h2 ps=true/\
   aW C g (ps.map (·.d)) r (ps.map (·.o))/\r.res=true/\(jV ps=true->r.cu=true/\∀p∈ps,p.o.cu=true)/\K (I.eh ((ps.filter (·.g)).map (·.a))) r (hE (eT s ps) ps)
def n3 (C:bY) (s:ax) (bC:dI) (K:aiA->I->ax->Prop):Prop:=
 match bC with
 | .call f args=>∃(g:FuncId) (caps:aiF) (ps:List cf) (r:I),bp s f= .fn g caps/\I.fY caps=true/\ps.map (·.a)=args.map (bp s)++caps/\(∀p∈ps,p.ok s)/\h2 ps=true/\
   aW C g (ps.map (·.d)) r (ps.map (·.o))/\r.res=true/\(jV ps=true->r.cu=true/\∀p∈ps,p.o.cu=true)/\K (I.eh ((ps.filter (·.g)).map (·.a))) r (hE (eT s ps) ps)
 | .shr bC=>∃av s1,bS C s bC=some (av,s1)/\av.tree=true/\(∀vs,av≠.tuple vs)/\K (nU s bC) av.share s1
 |bC=>∃av s1,bS C s bC=some (av,s1)/\K (nU s bC) av s1
def iu (s:ax) (cL:aiA) (dst:Option Nat) (cB:aiA) (av:I):fa:=
 ⟨cL,cL.flatMap (λu=>(s u).U)++av.U,dst.toList++cB,cL.all λu=>(s u).clean⟩
def nt (C:bY) (s:ax) (o:bZ) (K:fa->ax->Prop):Prop:=
 match o.guard with
 |none=>n3 C s o.bC λcB av s1=>K (iu s (use s o.bC) o.dst cB av) (fin s1 o.dst av)
 |some (t,b)=>match s t with
  | .bool fk=>if fk=b then n3 C s o.bC (λcB av s1=>K (iu s (t::use s o.bC) o.dst cB av) (fin s1 o.dst av))else K (iu s [t] o.dst [] (.tuple [])) (fin s o.dst (.tuple []))
  | .tuple []=>K (iu s [t] o.dst [] (.tuple [])) (fin s o.dst (.tuple []))
  |_=>False
def p8:Option (List fa)->fa->Option (List fa)
 |none,_=>none
 |some l,f=>some (f::l)
def dt (C:bY) (s:ax):List bZ->Option (List fa)->(Option (List fa)->ax->Prop)->Prop
 |[],acc,K=>K acc s
 |o::os,acc,K=>nt C s o λf s1=>dt C s1 os (p8 acc f) K
section
variable {C:bY}
theorem Kw {s:ax} {bC:dI} {K:aiA->I->ax->Prop} {c_:I->ax->Prop} (aw:∀cB av s,K cB av s->c_ av s) (h:n3 C s bC K):np C s bC c_:=by
 cases bC with
 |call f args=>
  obtain⟨g,caps,ps,r,ab,iq,ad,aA,aZ,bA,cH,cI,gn⟩:=h;exact⟨g,caps,ps,r,ab,iq,ad,aA,aZ,bA,cH,cI,aw _ _ _ gn⟩
 |shr bC=>
  obtain⟨av,s1,ab,ad,aA,aZ⟩:=h;exact⟨av,s1,ab,ad,aA,aw _ _ _ aZ⟩
 |_=>
  obtain⟨av,s1,ab,ad⟩:=h;exact⟨av,s1,ab,aw _ _ _ ad⟩
theorem Sl {s:ax} {o:bZ} {K:fa->ax->Prop} {c_:ax->Prop} (aw:∀f s,K f s->c_ s) (h:nt C s o K):ld C s o c_:=by
 unfold nt at h;unfold ld;split
 .rename_i bB;rw[bB]at h;exact Kw (λ_ _ _=>aw _ _) h
 .rename_i t b bB;rw[bB]at h;simp only at h;split
  .rename_i fk U;rw[U]at h;simp only at h;split
   .rename_i R;rw[if_pos R]at h;exact Kw (λ_ _ _=>aw _ _) h
   .rename_i R;rw[if_neg R]at h;exact aw _ _ h
  .rename_i U;rw[U]at h;exact aw _ _ h
  .rename_i ab ad;split at h
   .exact ab _ (by assumption)
   .exact ad (by assumption)
   .exact h
theorem sr {K:ax->Prop}:∀{ros:List bZ} {s:ax} {acc:Option (List fa)} {c_:Option (List fa)->ax->Prop},(∀a s,c_ a s->K s)->dt C s ros acc c_->kV C s ros K:=by
 intro ros;induction ros with
 |nil=>intro s acc c_ aw h;exact aw _ _ h
 |cons o ros ih=>intro s acc c_ aw h;exact Sl (λf s h=>ih aw h) h
theorem Kx {q:aiA} {a d:I} (h:I.sub q a=some d) (bX:q≠[]\/d.U=[]):a.U=[]:=by
 cases q with
 |nil=>
  simp only[I.sub,Option.some.injEq]at h;subst h;exact bX.resolve_left (λe=>e rfl)
 |cons k q=>cases a<;>first|rfl|(simp[I.sub]at h)
def zS (s:ax) (p:cf) (e:I->Prop):Prop:=p.g=true->∃x q d,p.a= .h x q/\I.sub q (s x)=some d/\e d/\(p.o= .hole\/p.o.fS=true)
theorem Ky {d:I} (h:d.fS=true):d.U=[]:=JS (p4 h).2.1
theorem Kz {d:I} (h:d.fS=true):d.cN.U=[]:=by cases d<;>first|rfl|(simp[I.fS]at h)
theorem KA {p:cf} {ps:List cf} (h:h2 (p::ps)=true):h2 ps=true/\∀cj∈ps,(p.g=true\/cj.g=true)->∀u∈p.a.U,u∉cj.a.U:=by
 simp only[h2,Bool.and_eq_true,List.all_eq_true,Bool.or_eq_true,Bool.not_eq_true']at h;refine⟨h.2,λcj el bB u hu=>?_⟩;rcases h.1 cj el with e|e
 .rcases bB with bB|bB<;>simp[bB]at e
 .simpa using e u hu
def q_ (ps:List cf):aiA:=I.eh ((ps.filter (·.g)).map (·.a))
theorem tT (p:cf) (ps:List cf):(∀u∈q_ ps,u∈q_ (p::ps))/\(p.g=true->∀u∈p.a.U,u∈q_ (p::ps)):=by
 unfold q_;by_cases bB:p.g=true
 .simp only[List.filter_cons,bB,if_true,List.map_cons,I.eh,List.mem_append];exact⟨λu h=>.inr h,λ_ u h=>.inl h⟩
 .simp only[List.filter_cons,bB];exact⟨λu h=>h,λh=>by simp at h⟩
theorem Sm {p:cf} {ps:List cf} (h:p∈ps):∀u∈p.a.U,u∈I.eh (ps.map (·.a)):=by
 induction ps with
 |nil=>cases h
 |cons cj ps ih=>
  intro u hu;simp only[List.map_cons,I.eh,List.mem_append];rcases List.mem_cons.1 h with rfl|h
  .exact .inl hu
  .exact .inr (ih h u hu)
theorem Sp:∀(ps:List cf) (s:ax),(∀p∈ps,zS s p (λd=>d=p.d/\p.d.fS=true))->h2 ps=true->
  (∃ms:List gr,(∀m∈ms,m.x∈q_ ps/\m.d.U=[])/\∀aD,dB (I.eh (ps.map (·.a))) aD s->eT aD ps=dx ms aD)/\∀p∈ps,zS (eT s ps) p (λd=>d=p.d.cN/\p.d.fS=true):=by
 intro ps;induction ps with
 |nil=>intro s _ _;exact⟨⟨[],by simp,λaD _=>rfl⟩,λp au=>by cases au⟩
 |cons p ps ih=>
  intro s bB jT;obtain⟨nW,nk⟩:=KA jT;by_cases lH:p.g=true
  .obtain⟨x,q,d,bU,U,⟨rfl,ag⟩,bx⟩:=bB p (by simp) lH;have jh:(I.put q p.d.cN (s x)).U=[]:=tH q _ _ _ U (.inl (p4 ag).1) λ_=>Kz ag;have wA:∀aD:ax,aD x=s x->p.take aD=dx [⟨.bT,x,I.put q p.d.cN (s x)⟩] aD:=by
    intro aD e;simp only[cf.take,lH,if_true,bU,e,si]
   have cw:∀cj∈ps,∀eg ij,cj.a= .h eg ij->eg≠x:=by
    intro cj el eg ij e fF;have:=nk cj el (.inl lH) x (by simp[bU,I.U]);rw[e,fF]at this;simp[I.U]at this
   have nm:∀eg,eg≠x->(s eg).U=[]->dx [⟨.bT,x,I.put q p.d.cN (s x)⟩] s eg=s eg:=by
    intro eg qV a7;simp only[dx,jz,gr.at];rw[if_neg qV];exact wa (.inr (by rw[a7];simp))
   obtain⟨⟨ms,m1,m2⟩,m3⟩:=ih (dx [⟨.bT,x,I.put q p.d.cN (s x)⟩] s) (λcj el D1=>by
    obtain⟨eg,ij,a6,sk,eJ,gG,wB⟩:=bB cj (by simp[el]) D1;refine⟨eg,ij,a6,sk,?_,gG,wB⟩;rw[nm eg (cw cj el eg ij sk) (Kx eJ (.inr (by rw[gG.1];exact Ky gG.2)))];exact eJ) nW
   refine⟨⟨[⟨.bT,x,I.put q p.d.cN (s x)⟩]++ms,?_,?_⟩,?_⟩
   .intro m hm;rcases List.mem_append.1 hm with hm|hm
    .simp only[List.mem_singleton]at hm;subst hm;exact⟨(tT p ps).2 lH x (by simp[bU,I.U]),jh⟩
    .exact⟨(tT p ps).1 _ (m1 m hm).1,(m1 m hm).2⟩
   .intro aD eJ;simp only[List.map_cons,I.eh]at eJ;have e:aD x=s x:=eJ x (by simp[bU,I.U]);rw[mv];show eT (p.take aD) ps=_;rw[wA aD e];exact m2 _ (dB.dx eJ.right _)
   .have aN:eT s (p::ps)=eT (dx [⟨.bT,x,I.put q p.d.cN (s x)⟩] s) ps:=by
     show eT (p.take s) ps=_;rw[wA s rfl]
    rw[aN];intro cj el;rcases List.mem_cons.1 el with rfl|el
    .intro _;refine⟨x,q,cj.d.cN,bU,?_,⟨rfl,ag⟩,bx⟩;have aH:dx [⟨.bT,x,I.put q cj.d.cN (s x)⟩] s x=I.put q cj.d.cN (s x):=by
      simp only[dx,jz,gr.at,if_true]
     rw[DB (by rw[aH];exact jh) (λSq Sr agL=>?_),aH]
     .exact JL q _ _ _ U
     .exact nk Sq Sr (.inl lH) x (by simp[bU,I.U])
    .exact m3 cj el
  .have wA:∀aD:ax,p.take aD=aD:=by intro aD;simp only[cf.take,lH];rfl
   obtain⟨⟨ms,m1,m2⟩,m3⟩:=ih s (λcj el=>bB cj (by simp[el])) nW;refine⟨⟨ms,λm hm=>⟨(tT p ps).1 _ (m1 m hm).1,(m1 m hm).2⟩,?_⟩,?_⟩
   .intro aD eJ;simp only[List.map_cons,I.eh]at eJ;show eT (p.take aD) ps=_;rw[wA];exact m2 aD eJ.right
   .intro cj el;have aN:eT s (p::ps)=eT s ps:=by show eT (p.take s) ps=_;rw[wA]
    rw[aN];rcases List.mem_cons.1 el with rfl|el
    .intro h;exact(lH h).elim
    .exact m3 cj el
theorem Ss:∀(ps:List cf) (s:ax),(∀p∈ps,zS s p (λd=>d=p.d.cN/\p.d.fS=true))->h2 ps=true->
  (∃ms:List gr,(∀m∈ms,m.x∈q_ ps/\m.d.U=[])/\∀aD,dB (I.eh (ps.map (·.a))) aD s->hE aD ps=dx ms aD):=by
 intro ps;induction ps with
 |nil=>intro s _ _;exact⟨[],by simp,λaD _=>rfl⟩
 |cons p ps ih=>
  intro s bB jT;obtain⟨nW,nk⟩:=KA jT;by_cases lH:p.g=true/\p.o≠.hole
  .obtain⟨lH,St⟩:=lH;obtain⟨x,q,d,bU,U,⟨rfl,ag⟩,bx⟩:=bB p (by simp) lH;have bx:p.o.fS=true:=bx.resolve_left St;have jh:(I.put q p.o (s x)).U=[]:=by
    cases q with
    |nil=>simp only[I.put];exact Ky bx
    |cons k q=>exact tH _ _ _ _ U (.inr (by simp)) (by simp)
   have D2:∀aD:ax,aD x=s x->p.ia aD=dx [⟨.cr,x,I.put q p.o (s x)⟩] aD:=by
    intro aD e;simp only[cf.ia,lH,if_true,bU];rw[e,Ju]
   have cw:∀cj∈ps,∀eg ij,cj.a= .h eg ij->eg≠x:=by
    intro cj el eg ij e fF;have:=nk cj el (.inl lH) x (by simp[bU,I.U]);rw[e,fF]at this;simp[I.U]at this
   obtain⟨ms,m1,m2⟩:=ih (dx [⟨.cr,x,I.put q p.o (s x)⟩] s) (λcj el D1=>by
    obtain⟨eg,ij,a6,sk,eJ,gG,wB⟩:=bB cj (by simp[el]) D1;refine⟨eg,ij,a6,sk,?_,gG,wB⟩;have a7:=Kx eJ (.inr (by rw[gG.1];exact Kz gG.2));have nm:dx [⟨.cr,x,I.put q p.o (s x)⟩] s eg=s eg:=by
     simp only[dx,jz,gr.at];rw[if_neg (cw cj el eg ij sk)];exact wa (.inr (by rw[a7];simp))
    rw[nm];exact eJ) nW
   refine⟨[⟨.cr,x,I.put q p.o (s x)⟩]++ms,?_,?_⟩
   .intro m hm;rcases List.mem_append.1 hm with hm|hm
    .simp only[List.mem_singleton]at hm;subst hm;exact⟨(tT p ps).2 lH x (by simp[bU,I.U]),jh⟩
    .exact⟨(tT p ps).1 _ (m1 m hm).1,(m1 m hm).2⟩
   .intro aD eJ;simp only[List.map_cons,I.eh]at eJ;have e:aD x=s x:=eJ x (by simp[bU,I.U]);rw[mv];show hE (p.ia aD) ps=_;rw[D2 aD e];exact m2 _ (dB.dx eJ.right _)
  .have D2:∀aD:ax,p.ia aD=aD:=by
    intro aD;unfold cf.ia;split
    .rename_i hg;have:p.o= .hole:=by
      by_cases h:p.o= .hole
      .exact h
      .exact(lH ⟨hg,h⟩).elim
     rw[this]
    .rfl
   obtain⟨ms,m1,m2⟩:=ih s (λcj el=>bB cj (by simp[el])) nW;refine⟨ms,λm hm=>⟨(tT p ps).1 _ (m1 m hm).1,(m1 m hm).2⟩,?_⟩;intro aD eJ;simp only[List.map_cons,I.eh]at eJ;show hE (p.ia aD) ps=_;rw[D2];exact m2 aD eJ.right
theorem Su {s aD:ax}:∀(a:I) (d:I),dB a.U aD s->view s a=some d->view aD a=some d:=by
 intro a d h;have:=DD (s:=s) (aD:=aD) a d;intro aH;cases a with
 |h x q=>simp only[view]at aH⊢;rw[h x (by simp[I.U])];exact aH
 |au x q=>simp only[view]at aH⊢;rw[h x (by simp[I.U])];exact aH
 |fn f cap=>
  refine this (λu hu _=>h u hu) aH
 |_=>exact aH
theorem Sv {p:cf} {s aD:ax} (h:dB p.a.U aD s) (e1:p.ok s):p.ok aD:=by
 unfold cf.ok at e1⊢;split
 .rename_i bB;rw[if_pos bB]at e1;cases bU:p.a with
  |h x q=>
   rw[bU]at e1;simp only at e1⊢;rw[h x (by simp[bU,I.U])];exact e1
  |_=>rw[bU]at e1;exact e1.elim
 .rename_i bB;rw[if_neg bB]at e1;exact Su _ _ h e1
def zT (C:bY) (o:bZ) (s:ax) (kh:fa) (ms:List gr):Prop:=
 (∀aD,dB kh.cL aD s->∀K:ax->Prop,K (dx ms aD)->ld C aD o K)/\(∀m∈ms,m.x∈kh.T/\∀u∈m.d.U,u∈kh.H)/\(∀u∈kh.cL,∀x∈(s u).U,x∈kh.H)/\(kh.c=true->∀u∈kh.cL,(s u).clean=true)
theorem KB (dst:Option Nat) (av:I):∃ms:List gr,(∀m∈ms,m.x∈dst.toList/\m.d=av)/\∀s1:ax,fin s1 dst av=dx ms s1:=by
 cases dst with
 |none=>exact⟨[],by simp,λs=>rfl⟩
 |some t=>
  simp only[fin];by_cases h:av.plain=true
  .exact⟨[⟨.no,t,av⟩],by simp,λs=>by rw[if_pos h,QN]⟩
  .exact⟨[⟨.cr,t,av⟩],by simp,λs=>by rw[if_neg h,Ju]⟩
theorem zU {s:ax} {cL:aiA} {dst:Option Nat} {cB:aiA} {av:I}:(∀u∈(iu s cL dst cB av).cL,∀x∈(s u).U,x∈(iu s cL dst cB av).H)/\((iu s cL dst cB av).c=true->∀u∈(iu s cL dst cB av).cL,(s u).clean=true):=by
 refine⟨λu hu x ar=>?_,λaj=>?_⟩
 .simp only[iu,List.mem_append,List.mem_flatMap];exact .inl ⟨u,hu,ar⟩
 .simp only[iu,List.all_eq_true]at aj;exact aj
theorem Sw {s:ax} {f:bg} {args:List bg} {K:aiA->I->ax->Prop} (h:Sk C s f args K):
  ∃cB av ms,K cB av (dx ms s)/\(∀m∈ms,m.x∈cB/\m.d.U=[])/\∀aD,dB (use s (.call f args)) aD s->∀c_:I->ax->Prop,c_ av (dx ms aD)->J1 C aD f args c_:=by
 obtain⟨g,caps,ps,r,ab,iq,ad,aA,aZ,bA,cH,cI,gn⟩:=h;have Sy:∀p∈ps,zS s p (λd=>d=p.d/\p.d.fS=true):=by
  intro p au bB;have:=aA p au;simp only[cf.ok,bB,if_true]at this;cases bU:p.a with
  |h x q=>rw[bU]at this;exact⟨x,q,p.d,rfl,this.1,⟨rfl,this.2.1⟩,this.2.2.imp id λh=>h.1⟩
  |_=>rw[bU]at this;exact this.elim
 obtain⟨⟨nV,J,a2⟩,a3⟩:=Sp ps s Sy aZ;obtain⟨q1,ka,ht⟩:=Ss ps (eT s ps) a3 aZ;have oY:∀u∈I.eh (ps.map (·.a)),u∈use s (.call f args):=by
  rw[ad];intro u hu;simp only[use,List.mem_append];have key:∀(ev l2:aiF),u∈I.eh (ev++l2)->u∈I.eh ev\/u∈I.eh l2:=by
   intro ev;induction ev with
   |nil=>intro l2 h;exact .inr h
   |cons a ev ih=>
    intro l2 h;simp only[List.cons_append,I.eh,List.mem_append]at h⊢;rcases h with h|h
    .exact .inl (.inl h)
    .exact(ih l2 h).imp .inr id
  rcases key _ _ hu with hu|hu
  .exact .inr (bg.zz u hu)
  .refine .inl (bg.sj u ?_);rw[ab];exact hu
 have fR:hE (eT s ps) ps=dx (nV++q1) s:=by
  rw[mv,<-a2 s (λ_ _=>rfl),ht _ (λ_ _=>rfl)]
 refine⟨q_ ps,r,nV++q1,by rw[<-fR];exact gn,?_,?_⟩
 .intro m hm;rcases List.mem_append.1 hm with hm|hm
  .exact J m hm
  .exact ka m hm
 .intro aD U c_ aw;have p3:dB (I.eh (ps.map (·.a))) aD s:=U.sub oY;have bn:dB (f.use s) aD s:=by simp only[use]at U;exact U.left
  have ar:dB (bg.o2 s args) aD s:=by simp only[use]at U;exact U.right
  have aN:hE (eT aD ps) ps=dx (nV++q1) aD:=by
   rw[mv,<-a2 aD p3,ht];rw[a2 aD p3,a2 s (λ_ _=>rfl)];exact dB.dx p3 _
  exact⟨g,caps,ps,r,by rw[bg.fA bn];exact ab,iq,by rw[bg.Dr ar];exact ad,λp au=>Sv (p3.sub (Sm au)) (aA p au),aZ,bA,cH,cI,by rw[aN];exact aw⟩
theorem Sz {s:ax} {bC:dI} {K:aiA->I->ax->Prop} (h:n3 C s bC K):
  ∃cB av ms,K cB av (dx ms s)/\(∀m∈ms,m.x∈cB/\∀v∈m.d.U,∃u∈use s bC,v∈(s u).U)/\∀aD,dB (use s bC) aD s->∀c_:I->ax->Prop,c_ av (dx ms aD)->np C aD bC c_:=by
 have plain:(∃av s1,bS C s bC=some (av,s1)/\K (nU s bC) av s1)->(∀aD (c_:I->ax->Prop) av s1,bS C aD bC=some (av,s1)->c_ av s1->np C aD bC c_)->
   ∃cB av ms,K cB av (dx ms s)/\(∀m∈ms,m.x∈cB/\∀v∈m.d.U,∃u∈use s bC,v∈(s u).U)/\∀aD,dB (use s bC) aD s->∀c_:I->ax->Prop,c_ av (dx ms aD)->np C aD bC c_:=by
  rintro⟨av,s1,ab,ad⟩ hw;obtain⟨ms,aN,aR,aS⟩:=JK ab;subst aN;exact⟨_,av,ms,ad,λm hm=>⟨(aR m hm).1,λv aH=>by rw[(aR m hm).2]at aH;cases aH⟩,λaD U c_ aw=>hw aD c_ av _ (aS aD U) aw⟩
 cases bC with
 |call f args=>
  obtain⟨cB,av,ms,J,a2,a3⟩:=Sw h;exact⟨cB,av,ms,J,λm hm=>⟨(a2 m hm).1,λv aH=>by rw[(a2 m hm).2]at aH;cases aH⟩,λaD U c_ aw=>a3 aD U c_ aw⟩
 |shr bC=>
  obtain⟨av,s1,ab,ad,aA,aZ⟩:=h;obtain⟨ms,aN,aR,aS⟩:=JK ab;subst aN;exact⟨_,av.share,ms,aZ,λm hm=>⟨(aR m hm).1,λv aH=>by rw[(aR m hm).2]at aH;cases aH⟩,λaD U c_ aw=>⟨av,_,aS aD U,ad,aA,aw⟩⟩
 |_=>exact plain h (λaD c_ av s1 ab ad=>⟨av,s1,ab,ad⟩)
theorem SA {s:ax} {o:bZ} {K:fa->ax->Prop} (h:nt C s o K):∃kh ms,K kh (dx ms s)/\zT C o s kh ms:=by
 have op:∀(cL:aiA),(∀u∈use s o.bC,u∈cL)->(∀aD,dB cL aD s->∀c_:ax->Prop,np C aD o.bC (λav s1=>c_ (fin s1 o.dst av))->ld C aD o c_)->
   n3 C s o.bC (λcB av s1=>K (iu s cL o.dst cB av) (fin s1 o.dst av))->∃kh ms,K kh (dx ms s)/\zT C o s kh ms:=by
  intro cL oY fz hw;obtain⟨cB,av,ms,ab,ad,aA⟩:=Sz hw;obtain⟨kz,nu,bK⟩:=KB o.dst av;refine⟨iu s cL o.dst cB av,ms++kz,?_,?_,?_,zU.1,zU.2⟩
  .rw[mv,<-bK];exact ab
  .intro aD U c_ aw;refine fz aD U c_ (aA aD (U.sub oY) _ ?_);rw[bK,<-mv];exact aw
  .intro m hm;simp only[iu,List.mem_append];rcases List.mem_append.1 hm with hm|hm
   .refine⟨.inr (ad m hm).1,λv aH=>.inl ?_⟩;obtain⟨u,hu,lz⟩:=(ad m hm).2 v aH;exact List.mem_flatMap.2 ⟨u,oY u hu,lz⟩
   .exact⟨.inl (nu m hm).1,λu hu=>.inr (by rw[(nu m hm).2]at hu;exact hu)⟩
 have skip:∀t,(∀aD,dB [t] aD s->∀c_:ax->Prop,c_ (fin aD o.dst (.tuple []))->ld C aD o c_)->K (iu s [t] o.dst [] (.tuple [])) (fin s o.dst (.tuple []))->∃kh ms,K kh (dx ms s)/\zT C o s kh ms:=by
  intro t fz aw;obtain⟨kz,nu,bK⟩:=KB o.dst (.tuple []);refine⟨_,kz,by rw[<-bK];exact aw,?_,?_,zU.1,zU.2⟩
  .intro aD U c_ jm;exact fz aD U c_ (by rw[bK];exact jm)
  .intro m hm;simp only[iu,List.mem_append];exact⟨.inl (nu m hm).1,λu hu=>by rw[(nu m hm).2]at hu;simp[I.U]at hu⟩
 unfold nt at h;split at h
 .rename_i bB;exact op _ (λ_ h=>h) (λaD _ c_ hw=>by unfold ld;rw[bB];exact hw) h
 .rename_i t b bB;split at h
  .rename_i fk R;split at h
   .rename_i e;refine op (t::use s o.bC) (λu hu=>by simp[hu]) (λaD U c_ hw=>?_) h;have:aD t=s t:=U t (by simp);unfold ld;rw[bB];simp only[this,R,if_pos e];exact hw
   .rename_i e;refine skip t (λaD U c_ aw=>?_) h;have:aD t=s t:=U t (by simp);unfold ld;rw[bB];simp only[this,R,if_neg e];exact aw
  .rename_i R;refine skip t (λaD U c_ aw=>?_) h;have:aD t=s t:=U t (by simp);unfold ld;rw[bB];simp only[this,R];exact aw
  .exact h.elim
def kW (C:bY) (ros:List bZ):ax->List (Nat×fa×List gr)->Prop
 |_,[]=>True
 |s,e::r=>(∃o,ros[e.1]? =some o/\zT C o s e.2.1 e.2.2)/\kW C ros (dx e.2.2 s) r
def n4 (s:ax) (r:List (Nat×fa×List gr)):ax:=r.foldl (λs e=>dx e.2.2 s) s
def nf (a b:aiA):Bool:=a.all λx=> !b.contains x
theorem tU {a b:aiA} (h:nf a b=true):∀x∈a,x∉b:=by
 intro x ar;simp only[nf,List.all_eq_true]at h;simpa using h x ar
def ss (a b:fa):Bool:=nf b.T a.cL&&nf b.T a.H&&nf b.T a.T&&nf a.T b.cL&&nf a.T b.H&&b.c
theorem SB {ros:List bZ} {s:ax} {a b:Nat×fa×List gr} {r:List (Nat×fa×List gr)} (h:kW C ros s (a::b::r)) (ak:ss a.2.1 b.2.1=true):
  kW C ros s (b::a::r)/\n4 s (b::a::r)=n4 s (a::b::r):=by
 obtain⟨⟨SC,bU,J,a2,a3,a4⟩,⟨dz,R,ka,ht,kS,bR⟩,aK⟩:=h;simp only[ss,Bool.and_eq_true]at ak;obtain⟨⟨⟨⟨⟨mQ,i2⟩,i3⟩,i4⟩,i5⟩,Cy⟩:=ak;have D3:∀u∈b.2.1.cL,dx a.2.2 s u=s u:=by
  intro u hu;refine Sg _ _ _ (λm hm e=>?_) (bR Cy u hu);exact tU i4 m.x (a2 m hm).1 (e▸hu)
 have D4:∀u∈a.2.1.cL,dx b.2.2 s u=s u:=by
  intro u hu;refine Sh _ _ _ λm hm=>⟨λe=>?_,λar=>?_⟩
  .exact tU mQ m.x (ht m hm).1 (e▸hu)
  .exact tU i2 m.x (ht m hm).1 (a3 u hu _ ar)
 have KC:dx b.2.2 (dx a.2.2 s)=dx a.2.2 (dx b.2.2 s):=by
  refine Sj _ _ _ λm hm n aP=>⟨λe=>?_,λh=>?_,λh=>?_⟩
  .exact tU i3 n.x (ht n aP).1 (e▸(a2 m hm).1)
  .exact tU i2 n.x (ht n aP).1 ((a2 m hm).2 _ h)
  .exact tU i5 m.x (a2 m hm).1 ((ht n aP).2 _ h)
 refine⟨⟨⟨dz,R,?_,ht,?_,?_⟩,⟨SC,bU,?_,a2,?_,?_⟩,?_⟩,?_⟩
 .intro aD U K aw;exact ka aD (λu hu=>(U u hu).trans (D3 u hu).symm) K aw
 .intro u hu x ar;exact kS u hu x (by rw[D3 u hu];exact ar)
 .intro aj u hu;have:=bR aj u hu
  rwa [D3 u hu]at this
 .intro aD U K aw;exact J aD (λu hu=>(U u hu).trans (D4 u hu)) K aw
 .intro u hu x ar;rw[D4 u hu]at ar;exact a3 u hu x ar
 .intro aj u hu;rw[D4 u hu];exact a4 aj u hu
 .rw[<-KC];exact aK
 .simp only[n4,List.foldl_cons];rw[KC]
theorem SD {ros:List bZ} {e:Nat×fa×List gr} {post:List (Nat×fa×List gr)}:∀(pre:List (Nat×fa×List gr)) (s:ax),kW C ros s (pre++e::post)->(∀a∈pre,ss a.2.1 e.2.1=true)->
  kW C ros s (e::(pre++post))/\n4 s (e::(pre++post))=n4 s (pre++e::post):=by
 intro pre;induction pre with
 |nil=>intro s h _;exact⟨h,rfl⟩
 |cons a pre ih=>
  intro s h ak;obtain⟨ab,ad⟩:=h;obtain⟨g1,g2⟩:=ih _ ad λb R=>ak b (by simp[R]);have aj:kW C ros s (a::e::(pre++post)):=⟨ab,g1⟩
  obtain⟨b1,cb⟩:=SB aj (ak a (by simp));refine⟨b1,cb.trans ?_⟩;simp only[n4,List.foldl_cons,List.cons_append]at g2⊢;exact g2
end
def wC:aiy->aiy->aiy
 |done,[]=>done
 |done,a::r=>wC (done++[a++a.flatMap λe=>(done[e]?).getD []]) r
def n5 (ew:aiy):aiy:=wC [] ew
theorem SE {ew:aiy} {l:aiA} (aO:∀u i v,l=u++i::v->∀e∈(ew[i]?).getD [],e∈u):∀(rest pre done:aiy),ew=pre++rest->done.length=pre.length->
  (∀u i v,l=u++i::v->∀e∈(done[i]?).getD [],e∈u)->∀u i v,l=u++i::v->∀e∈((wC done rest)[i]?).getD [],e∈u:=by
 intro rest;induction rest with
 |nil=>intro pre done _ _ h;exact h
 |cons a rest ih=>
  intro pre done KD hlen h;simp only[wC];refine ih (pre++[a]) _ (by simp[KD]) (by simp[hlen]) ?_;intro u i v hu e he;by_cases ak:i<done.length
  .rw[List.getElem?_append_left ak]at he;exact h u i v hu e he
  .rw[List.getElem?_append_right (by omega)]at he;by_cases tG:i-done.length=0
   .rw[tG]at he;simp only[List.getElem?_cons_zero,Option.getD_some,List.mem_append,List.mem_flatMap]at he;have zV:(ew[i]?).getD []=a:=by
     have:i=pre.length:=by omega
     rw[KD,this,List.getElem?_append_right (Nat.le_refl _)];simp
    rcases he with he|⟨fF,my,he⟩
    .exact aO u i v hu e (by rw[zV];exact he)
    .have wc:=aO u i v hu fF (by rw[zV];exact my);obtain⟨n7,su,rfl⟩:=List.append_of_mem wc;have:=h n7 fF (su++i::v) (by rw[hu];simp) e he;simp[this]
   .rw[List.getElem?_eq_none (by simp;omega)]at he;simp at he
theorem SF {ew:aiy} {l:aiA} (aO:∀u i v,l=u++i::v->∀e∈(ew[i]?).getD [],e∈u):∀u i v,l=u++i::v->∀e∈((n5 ew)[i]?).getD [],e∈u:=
 SE aO ew [] [] rfl rfl λu i v _ e he=>by simp at he
def ki (cl:aiy):Nat->List (Nat×fa)->List fa->Bool
 |_,_,[]=>true
 |j,es,f::ay=>(es.all λe=>((cl[j]?).getD []).contains e.1||ss e.2 f)&&ki cl (j+1) ((j,f)::es) ay
def D5 (cl:aiy) (a b:Nat×fa×List gr):Prop:=a.1∈(cl[b.1]?).getD []\/ss a.2.1 b.2.1=true
theorem SG {cl:aiy}:∀(gL:List (Nat×fa×List gr)) (j:Nat) (es:List (Nat×fa)),gL.map (·.1)=(List.range gL.length).map (·+j)->ki cl j es (gL.map (·.2.1))=true->
  gL.Pairwise (D5 cl)/\∀e∈es,∀b∈gL,e.1∈(cl[b.1]?).getD []\/ss e.2 b.2.1=true:=by
 intro gL;induction gL with
 |nil=>intro j es _ _;exact⟨.nil,λe _ b R=>by cases R⟩
 |cons a gL ih=>
  intro j es sv e1;rw[List.length_cons,List.range_succ_eq_map,List.map_cons,List.map_cons,List.map_map]at sv;simp only[List.cons.injEq,Nat.zero_add]at sv;obtain⟨bd,sv⟩:=sv;simp only[List.map_cons,ki,Bool.and_eq_true,List.all_eq_true,Bool.or_eq_true]at e1;obtain⟨ab,ad⟩:=e1;obtain⟨g1,g2⟩:=ih (j+1) _ (by rw[sv];congr 1;funext x;simp;omega) ad;refine⟨.cons (λb R=>?_) g1,λe he b R=>?_⟩
  .have:=g2 (j,a.2.1) (by simp) b R;simp only[D5,bd];exact this
  .rcases List.mem_cons.1 R with rfl|R
   .rw[bd];exact(ab e he).imp (λh=>by simpa using h) id
   .exact g2 e (by simp[he]) b R
section
variable {C:bY}
theorem SH {K:Option (List fa)->ax->Prop}:∀(os pre:List bZ) (s:ax) (acc:List fa),dt C s os (some acc) K->
  ∃gL,kW C (pre++os) s gL/\gL.map (·.1)=(List.range os.length).map (·+pre.length)/\K (some ((gL.map (·.2.1)).reverse++acc)) (n4 s gL):=by
 intro os;induction os with
 |nil=>intro pre s acc h;exact⟨[],trivial,rfl,h⟩
 |cons o os ih=>
  intro pre s acc h;obtain⟨kh,ms,ab,ad⟩:=SA h;obtain⟨gL,g1,g2,g3⟩:=ih (pre++[o]) _ (kh::acc) ab;refine⟨(pre.length,kh,ms)::gL,⟨⟨o,?_,ad⟩,?_⟩,?_,?_⟩
  .rw[List.getElem?_append_right (Nat.le_refl _)];simp
  .simpa using g1
  .rw[List.length_cons,List.range_succ_eq_map,List.map_cons,List.map_cons,List.map_map,g2];simp only[List.cons.injEq,Nat.zero_add,true_and];congr 1;funext x;simp;omega
  .simpa [n4]using g3
theorem SI {ros:List bZ} {cl:aiy} {K:ax->Prop}:∀(l:aiA) (gL:List (Nat×fa×List gr)) (s:ax),kW C ros s gL->gL.Pairwise (D5 cl)->l.Nodup->(gL.map (·.1)).Nodup->
  (∀i,i∈l↔i∈gL.map (·.1))->(∀u i v,l=u++i::v->∀e∈(cl[i]?).getD [],e∈gL.map (·.1)->e∈u)->K (n4 s gL)->jB C ros s l K:=by
 intro l;induction l with
 |nil=>
  intro gL s _ _ _ _ hm _ aw;cases gL with
  |nil=>exact aw
  |cons e gL=>have:=(hm e.1).2 (by simp);cases this
 |cons i l ih=>
  intro gL s aj au aP vW hm bx aw;obtain⟨e,he,ak⟩:=List.mem_map.1 ((hm i).1 (by simp));obtain⟨pre,post,rfl⟩:=List.append_of_mem he;have SJ:∀a∈pre,ss a.2.1 e.2.1=true:=by
   intro a bU;have aK:=(List.pairwise_append.1 au).2.2 a bU e (by simp);rcases aK with aK|aK
   .rw[ak]at aK;have:=bx [] i l rfl a.1 aK (by simp only[List.map_append,List.mem_append,List.mem_map];exact .inl ⟨a,bU,rfl⟩);cases this
   .exact aK
  obtain⟨g1,g2⟩:=SD pre s aj SJ;obtain⟨⟨o,SK,sm⟩,g3⟩:=g1;have KE:i∉(pre++post).map (·.1):=by
   have:(pre.map (·.1)++e.1::post.map (·.1)).Nodup:=by simpa using vW
   have bq:=(List.perm_middle.nodup_iff.1 this)
   rw[List.nodup_cons]at bq;rw[<-ak];simpa using bq.1
  simp only[jB];rw[<-ak,SK];refine sm.1 s (λ_ _=>rfl) _ ?_;rw[List.nodup_cons]at aP;refine ih (pre++post) _ g3 ?_ aP.2 ?_ ?_ ?_ ?_
  .exact au.sublist ((List.Sublist.refl pre).append (List.sublist_cons_self e post))
  .have:(pre.map (·.1)++e.1::post.map (·.1)).Nodup:=by simpa using vW
   have bq:=(List.perm_middle.nodup_iff.1 this)
   rw[List.nodup_cons]at bq;simpa using bq.2
  .intro j;constructor
   .intro bd;have ab:=(hm j).1 (by simp[bd]);simp only[List.map_append,List.map_cons,List.mem_append,List.mem_cons]at ab⊢;rcases ab with ab|rfl|ab
    .exact .inl ab
    .exact(aP.1 (ak▸bd)).elim
    .exact .inr ab
   .intro bd;have ab:=(hm j).2 (by
     simp only[List.map_append,List.map_cons,List.mem_append,List.mem_cons]at bd⊢;exact bd.imp id .inr)
    rcases List.mem_cons.1 ab with rfl|ab
    .exact(KE bd).elim
    .exact ab
  .intro u j v hu x ar D6;have ab:=bx (i::u) j v (by rw[hu];rfl) x ar (by
    simp only[List.map_append,List.map_cons,List.mem_append,List.mem_cons]at D6⊢;exact D6.imp id .inr)
   rcases List.mem_cons.1 ab with rfl|ab
   .exact(KE D6).elim
   .exact ab
  .have:n4 s (e::(pre++post))=n4 (dx e.2.2 s) (pre++post):=rfl;rw[<-this,g2];exact aw
theorem KF {ros:List bZ} {ew:aiy} {s:ax} {K:ax->Prop} (hlen:ew.length=ros.length)
  (h:dt C s ros (some []) (λacc s=>ki (n5 ew) 0 [] (acc.getD []).reverse=true/\K s)):∀l,DL ew l->jB C ros s l K:=by
 intro l ⟨ev,l2,wg⟩;obtain⟨gL,g1,g2,g3,g4⟩:=SH ros [] s [] h;simp only[List.nil_append,List.append_nil,List.length_nil,Option.getD_some,List.reverse_reverse]at g1 g2 g3;have aO:gL.length=ros.length:=by have:=congrArg List.length g2;simpa using this
 have sv:gL.map (·.1)=(List.range gL.length).map (·+0):=by rw[g2,aO]
 have aK:gL.map (·.1)=List.range ros.length:=by rw[g2];simp
 obtain⟨fO,_⟩:=SG gL 0 [] sv g3;refine SI l gL s g1 fO ev (by rw[aK];exact List.nodup_range) (λi=>?_) (λu i v hu e he _=>SF wg u i v hu e he) g4;rw[aK,l2,hlen,List.mem_range]
end
def zW (C:bY) (dst:Option Nat) (os:List bZ) (K:Option (List fa)->ax->Prop):Option (I×ax)->Prop
 |some (av,s1)=>dt C (fin s1 dst av) os none K
 |none=>False
def zX (C:bY) (l:aiE) (cL cB:aiA) (dst:Option Nat) (os:List bZ) (a:List fa) (K:Option (List fa)->ax->Prop):Option (I×ax)->Prop
 |some (av,s1)=>dt C (fin s1 dst av) os (some (iu (az l) cL dst cB av::a)) K
 |none=>False
def lI (C:bY) (l:aiE) (dst:Option Nat) (bC:dI) (t:Nat) (b:Bool) (os:List bZ) (acc:Option (List fa)) (K:Option (List fa)->ax->Prop):I->Prop
 | .bool fk=>if fk=b then n3 C (az l) bC (λcB av s1=>dt C (fin s1 dst av) os (p8 acc (iu (az l) (t::use (az l) bC) dst cB av)) K)else dt C (fin (az l) dst (.tuple [])) os (p8 acc (iu (az l) [t] dst [] (.tuple []))) K
 | .tuple []=>dt C (fin (az l) dst (.tuple [])) os (p8 acc (iu (az l) [t] dst [] (.tuple []))) K
 |_=>False
section
variable {C:bY} {l:aiE} {os:List bZ} {K:Option (List fa)->ax->Prop} {dst:Option Nat} {a:List fa} {acc:Option (List fa)}
theorem zY {s:ax} {bC:dI} {K:aiA->I->ax->Prop} (aP:bC.hI=false):n3 C s bC K=(match bS C s bC with
  |some (av,s1)=>K (nU s bC) av s1
  |none=>False):=by
 apply propext;constructor
 .intro h;cases bC<;>first
   |(simp[dI.hI]at aP;done)
   |(obtain⟨av,s1,ab,ad⟩:=h;rw[ab];exact ad)
 .intro h;split at h
  .rename_i av s1 he;cases bC<;>first
    |(simp[dI.hI]at aP;done)
    |exact⟨av,s1,he,h⟩
  .exact h.elim
theorem KG:dt C (az l) [] acc K=K acc (az l):=rfl
theorem KH {bC:dI} (aP:bC.hI=false):dt C (az l) (⟨dst,bC,none⟩::os) none K=zW C dst os K (bS C (az l) bC):=by
 simp only[dt,nt,p8];rw[zY aP];cases bS C (az l) bC with
 |none=>rfl
 |some p=>rfl
theorem KI {bC:dI} (aP:bC.hI=false):dt C (az l) (⟨dst,bC,none⟩::os) (some a) K=zX C l (use (az l) bC) (nU (az l) bC) dst os a K (bS C (az l) bC):=by
 simp only[dt,nt,p8];rw[zY aP];cases bS C (az l) bC with
 |none=>rfl
 |some p=>rfl
theorem KJ {bC:dI} {t:Nat} {b:Bool}:dt C (az l) (⟨dst,bC,some (t,b)⟩::os) acc K=lI C l dst bC t b os acc K (az l t):=by
 simp only[dt,nt];generalize az l t=v;cases v<;>first|rfl|(rename_i vs;cases vs<;>rfl)
theorem SL {bC:dI} {t:Nat} {b:Bool} (aP:bC.hI=false):lI C l dst bC t b os none K (.bool b)=zW C dst os K (bS C (az l) bC):=by
 simp only[lI,if_true];rw[zY aP];cases bS C (az l) bC with
 |none=>rfl
 |some p=>rfl
theorem SM {bC:dI} {t:Nat} {b:Bool} (aP:bC.hI=false):lI C l dst bC t b os (some a) K (.bool b)=zX C l (t::use (az l) bC) (nU (az l) bC) dst os a K (bS C (az l) bC):=by
 simp only[lI,if_true];rw[zY aP];cases bS C (az l) bC with
 |none=>rfl
 |some p=>rfl
theorem SN {bC:dI} {t:Nat}:lI C l dst bC t true os none K (.bool false)=dt C (fin (az l) dst (.tuple [])) os none K/\lI C l dst bC t false os none K (.bool true)=dt C (fin (az l) dst (.tuple [])) os none K/\
  (∀b,lI C l dst bC t b os none K (.tuple [])=dt C (fin (az l) dst (.tuple [])) os none K):=⟨rfl,rfl,λ_=>rfl⟩
theorem SO {bC:dI} {t:Nat}:lI C l dst bC t true os (some a) K (.bool false)=dt C (fin (az l) dst (.tuple [])) os (some (iu (az l) [t] dst [] (.tuple [])::a)) K/\
  lI C l dst bC t false os (some a) K (.bool true)=dt C (fin (az l) dst (.tuple [])) os (some (iu (az l) [t] dst [] (.tuple [])::a)) K/\
  (∀b,lI C l dst bC t b os (some a) K (.tuple [])=dt C (fin (az l) dst (.tuple [])) os (some (iu (az l) [t] dst [] (.tuple [])::a)) K):=⟨rfl,rfl,λ_=>rfl⟩
theorem SP (av:I) (s1:ax):zW C dst os K (some (av,s1))=dt C (fin s1 dst av) os none K:=rfl
theorem SQ (cL cB:aiA) (av:I) (s1:ax):zX C l cL cB dst os a K (some (av,s1))=dt C (fin s1 dst av) os (some (iu (az l) cL dst cB av::a)) K:=rfl
def D7 (s:ax):I->Option (I×ax)
 | .h y q=>cB s (.h y q)
 |d=>some (d,s)
def KK (s:ax):I->I->I->Option (I×ax)
 | .bool fk,x,y=>some (if fk then x else y,s)
 |_,_,_=>none
def l8 (s:ax):Option I->Option (I×ax)
 |some d=>some (d,s)
 |none=>none
def cZ:Option ax->Option (I×ax)
 |some s1=>some (.hole,s1)
 |none=>none
def jF (s:ax):List bg->aiF
 |[]=>[]
 |x::xs=>bp s x::jF s xs
def ra (s:ax):List (Nat×bg)->aiE
 |[]=>[]
 |(k,x)::xs=>(k,bp s x)::ra s xs
def wD (s:ax):Option bg->Option I
 |none=>none
 |some x=>some (bp s x)
theorem SR (s:ax) (x:Option I):(x.map λd=>(d,s))=l8 s x:=by cases x<;>rfl
theorem SS (x:Option ax):(x.map λs1=>(I.hole,s1))=cZ x:=by cases x<;>rfl
theorem wE (s:ax):∀xs:List bg,xs.map (bp s)=jF s xs
 |[]=>rfl
 |x::xs=>by simp only[List.map_cons,jF,wE s xs]
theorem KL (s:ax):∀xs:List (Nat×bg),(xs.map λp=>(p.1,bp s p.2))=ra s xs
 |[]=>rfl
 |(k,x)::xs=>by simp only[List.map_cons,ra,KL s xs]
theorem SU (s:ax) (x:Option bg):x.map (bp s)=wD s x:=by cases x<;>rfl
theorem KM:(∀x,dI.hI (.iK x)=false)/\
  (∀x,dI.hI (.l4 x)=false)/\
  (∀c x y,dI.hI (.pick c x y)=false)/\
  (∀T,dI.hI (.jS T)=false)/\
  (∀T x,dI.hI (.iJ T x)=false)/\
  (∀T ps,dI.hI (.gH T ps)=false)/\
  (∀T n ps,dI.hI (.eI T n ps)=false)/\
  (∀T x,dI.hI (.eR T x)=false)/\
  (∀T x y,dI.hI (.ik T x y)=false)/\
  (∀x,dI.hI (.kb x)=false)/\
  (∀op T x y,dI.hI (.eL op T x y)=false)/\
  (∀op x,dI.hI (.un op x)=false)/\
  (∀A B x,dI.hI (.lB A B x)=false)/\
  (∀f cs,dI.hI (.l3 f cs)=false)/\
  (∀T x y,dI.hI (.ek T x y)=false)/\
  (∀T x eS ak,dI.hI (.hC T x eS ak)=false)/\
  (∀T x k,dI.hI (.gK T x k)=false)/\
  (∀T x y,dI.hI (.jk T x y)=false)/\
  (∀T x y,dI.hI (.idx T x y)=false)/\
  (∀x k,dI.hI (.ex x k)=false)/\
  (∀T x,dI.hI (.len T x)=false)/\
  (∀T cL x y,dI.hI (.app T cL x y)=false):=by
 and_intros<;>intros<;>rfl
theorem KN:(∀x,bS C (az l) (.iK x)=some (bp (az l) x,az l))/\
  (∀x,bS C (az l) (.l4 x)=D7 (az l) (bp (az l) x))/\
  (∀c x y,bS C (az l) (.pick c x y)=KK (az l) (bp (az l) c) (bp (az l) x) (bp (az l) y))/\
  (∀T,bS C (az l) (.jS T)=l8 (az l) (jS C T))/\
  (∀T x,bS C (az l) (.iJ T x)=iJ (az l) (bp (az l) x))/\
  (∀T ps,bS C (az l) (.gH T ps)=gH C (az l) T (ra (az l) ps))/\
  (∀T n ps,bS C (az l) (.eI T n ps)=eI C (az l) T n (ra (az l) ps))/\
  (∀T x,bS C (az l) (.eR T x)=l8 (az l) (eR C (az l) T (bp (az l) x)))/\
  (∀T x y,bS C (az l) (.ik T x y)=cZ (ik C (az l) T (bp (az l) x) (bp (az l) y)))/\
  (∀x,bS C (az l) (.kb x)=l8 (az l) (kb (az l) (bp (az l) x)))/\
  (∀op T x y,bS C (az l) (.eL op T x y)=l8 (az l) (eL C (az l) op T (bp (az l) x) (bp (az l) y)))/\
  (∀op x,bS C (az l) (.un op x)=l8 (az l) (un op (bp (az l) x)))/\
  (∀A B x,bS C (az l) (.lB A B x)=l8 (az l) (lB C (az l) A B (bp (az l) x)))/\
  (∀f cs,bS C (az l) (.l3 f cs)=some (.fn f (jF (az l) cs),az l))/\
  (∀T x y,bS C (az l) (.ek T x y)=l8 (az l) (ek C T (bp (az l) x) (bp (az l) y)))/\
  (∀T x eS ak,bS C (az l) (.hC T x eS ak)=hC C (az l) T (bp (az l) x) (wD (az l) eS) (wD (az l) ak))/\
  (∀T x k,bS C (az l) (.gK T x k)=l8 (az l) (gK C (az l) T (bp (az l) x) k))/\
  (∀T x y,bS C (az l) (.jk T x y)=l8 (az l) (jk C (az l) T (bp (az l) x) (bp (az l) y)))/\
  (∀T x y,bS C (az l) (.idx T x y)=l8 (az l) (idx C T (bp (az l) x) (bp (az l) y)))/\
  (∀x k,bS C (az l) (.ex x k)=l8 (az l) (ex (az l) (bp (az l) x) k))/\
  (∀T x,bS C (az l) (.len T x)=l8 (az l) (pX C (az l) T (bp (az l) x)))/\
  (∀T cL x y,bS C (az l) (.app T cL x y)=p1 C (az l) T cL (bp (az l) x) (bp (az l) y)):=by
 and_intros<;>intros<;>first|rfl|(simp only[bS,SR,SS,KL,wE,SU];done)|(simp only[bS];cases bp (az l) _<;>first|rfl|(rename_i b;cases b<;>rfl))
end
theorem KO:∀t d,pR t d=if I.plain d=true then d else .h t []:=λ_ _=>rfl
theorem KP:(∀l av,fin (az l) none av=az l)/\(∀l t av,fin (az l) (some t) av=az ((t,av)::if I.plain av=true then l else p6 t l)):=
 ⟨λ_ _=>rfl,λl t av=>by
  simp only[fin];split
  .rw[zQ]
  .rw[D0,zQ]⟩
theorem KQ:
  (∀k n,I.plain (.int k n)=true)/\
  (∀b,I.plain (.bool b)=true)/\
  (∀x,I.plain (.str x)=true)/\
  (∀xs,I.plain (.slice xs)=true)/\
  (∀d,I.plain (.ref d)=true)/\
  (∀f cap,I.plain (.fn f cap)=true)/\
  (∀x q,I.plain (.h x q)=true)/\
  (∀x q,I.plain (.au x q)=true)/\
  (I.plain .di=true)/\
  (I.plain .a_=true)/\
  (I.plain .e7=true)/\
  (I.plain .hole=true)/\
  (∀sz xs,I.plain (.al sz xs)=false)/\
  (∀d,I.plain (.bb d)=false)/\
  (∀ay,I.plain (.agg ay)=I.fY ay)/\
  (∀ay,I.plain (.tuple ay)=I.fY ay)/\
  (I.fY []=true)/\
  (∀d ds,I.fY (d::ds)=(d.plain&&I.fY ds)):=
 ⟨λ_ _=>rfl,λ_=>rfl,λ_=>rfl,λ_=>rfl,λ_=>rfl,λ_ _=>rfl,λ_ _=>rfl,λ_ _=>rfl,rfl,rfl,rfl,rfl,λ_ _=>rfl,λ_=>rfl,λ_=>rfl,λ_=>rfl,rfl,λ_ _=>rfl⟩
theorem KR:∀s d,D7 s d=match d with| .h y q=>cB s (.h y q)|d=>some (d,s):=λ_ _=>by unfold D7;rfl
theorem KS:
  (∀t k n,cr t (.int k n)=(.int k n))/\
  (∀t b,cr t (.bool b)=(.bool b))/\
  (∀t x,cr t (.str x)=(.str x))/\
  (∀t xs,cr t (.slice xs)=(.slice xs))/\
  (∀t d,cr t (.ref d)=(.ref d))/\
  (∀t,cr t .di= .di)/\
  (∀t,cr t .a_= .a_)/\
  (∀t,cr t .e7= .e7)/\
  (∀t,cr t .hole= .hole)/\
  (∀t sz xs,cr t (.al sz xs)=(.al sz xs))/\
  (∀t d,cr t (.bb d)=(.bb d))/\
  (∀t ay,cr t (.agg ay)=(.agg ay))/\
  (∀t ay,cr t (.tuple ay)=(.tuple ay))/\
  (∀t y q,cr t (.h y q)=if y=t then .hole else .h y q)/\
  (∀t y q,cr t (.au y q)=if y=t then .hole else .au y q)/\
  (∀t f c,cr t (.fn f c)= .fn f (iH t c))/\
  (∀t,iH t []=[])/\
  (∀t d ds,iH t (d::ds)=cr t d::iH t ds)/\
  (∀t,p6 t []=[])/\
  (∀t u d l,p6 t ((u,d)::l)=(u,cr t d)::p6 t l)/\
  (∀t l,k5 t (az l)=az (p6 t l)):=
 ⟨λ_ _ _=>by unfold cr;rfl,λ_ _=>by unfold cr;rfl,λ_ _=>by unfold cr;rfl,λ_ _=>by unfold cr;rfl,λ_ _=>by unfold cr;rfl,λ_=>by unfold cr;rfl,λ_=>by unfold cr;rfl,λ_=>by unfold cr;rfl,λ_=>by unfold cr;rfl,λ_ _ _=>by unfold cr;rfl,λ_ _=>by unfold cr;rfl,λ_ _=>by unfold cr;rfl,λ_ _=>by unfold cr;rfl,λ_ _ _=>by unfold cr;rfl,λ_ _ _=>by unfold cr;rfl,λ_ _ _=>by simp only[cr],λ_=>by simp only[iH],λ_ _ _=>by simp only[iH],λ_=>rfl,λ_ _ _ _=>rfl,λt l=>D0 t l⟩
theorem KT:
  (∀t k n,bT t (.int k n)=(.int k n))/\
  (∀t b,bT t (.bool b)=(.bool b))/\
  (∀t x,bT t (.str x)=(.str x))/\
  (∀t xs,bT t (.slice xs)=(.slice xs))/\
  (∀t d,bT t (.ref d)=(.ref d))/\
  (∀t,bT t .di= .di)/\
  (∀t,bT t .a_= .a_)/\
  (∀t,bT t .e7= .e7)/\
  (∀t,bT t .hole= .hole)/\
  (∀t sz xs,bT t (.al sz xs)=(.al sz xs))/\
  (∀t d,bT t (.bb d)=(.bb d))/\
  (∀t ay,bT t (.agg ay)=(.agg ay))/\
  (∀t ay,bT t (.tuple ay)=(.tuple ay))/\
  (∀t y,bT t (.h y [])= .h y [])/\
  (∀t y k q,bT t (.h y (k::q))=if y=t then .hole else .h y (k::q))/\
  (∀t y q,bT t (.au y q)=if y=t then .hole else .au y q)/\
  (∀t f c,bT t (.fn f c)= .fn f (h9 t c))/\
  (∀t,h9 t []=[])/\
  (∀t d ds,h9 t (d::ds)=bT t d::h9 t ds)/\
  (∀t,so t []=[])/\
  (∀t u d l,so t ((u,d)::l)=(u,bT t d)::so t l)/\
  (∀t l,hA t (az l)=az (so t l)):=
 ⟨λ_ _ _=>by unfold bT;rfl,λ_ _=>by unfold bT;rfl,λ_ _=>by unfold bT;rfl,λ_ _=>by unfold bT;rfl,λ_ _=>by unfold bT;rfl,λ_=>by unfold bT;rfl,λ_=>by unfold bT;rfl,λ_=>by unfold bT;rfl,λ_=>by unfold bT;rfl,λ_ _ _=>by unfold bT;rfl,λ_ _=>by unfold bT;rfl,λ_ _=>by unfold bT;rfl,λ_ _=>by unfold bT;rfl,λ_ _=>by simp[bT],λ_ _ _ _=>by simp[bT],λ_ _ _=>by unfold bT;rfl,λ_ _ _=>by simp only[bT],λ_=>by simp only[h9],λ_ _ _=>by simp only[h9],λ_=>rfl,λ_ _ _ _=>rfl,λt l=>Sc t l⟩
def D8:mT->Bool->Option I
 | .bool,b=>some (.bool b)
 |_,_=>none
def rb (neg:Bool):mT->Option aiB->Option I
 | .slice _,some r=>some (nP neg r)
 |_,_=>none
def sw (neg:Bool):mT->aiB->Option I
 | .ptr _,some b=>some (.bool (b !=neg))
 |_,_=>none
theorem KU (C:bY) (s:ax) (T:TypeId):
  (∀op k a ct b,eL C s op T (.int k a) (.int ct b)=j_ op k a ct b)/\
  (∀op a b,eL C s op T (.str a) (.str b)=nO op a b)/\
  (∀a b,eL C s .eql T (.bool a) (.bool b)=D8 (C.T T).k (a==b))/\
  (∀a b,eL C s .neq T (.bool a) (.bool b)=D8 (C.T T).k (!(a==b)))/\
  (∀xs,eL C s .eql T (.slice xs) .a_=rb false (C.T T).k (jl s (.slice xs)))/\
  (∀xs,eL C s .neq T (.slice xs) .a_=rb true (C.T T).k (jl s (.slice xs)))/\
  (eL C s .eql T .a_ .a_=rb false (C.T T).k (jl s .a_))/\
  (eL C s .neq T .a_ .a_=rb true (C.T T).k (jl s .a_))/\
  (∀x q,eL C s .eql T (.h x q) .a_=rb false (C.T T).k (jl s (.h x q)))/\
  (∀x q,eL C s .neq T (.h x q) .a_=rb true (C.T T).k (jl s (.h x q)))/\
  (∀x q,eL C s .eql T (.h x q) .di=sw false (C.T T).k (kP s (.h x q)))/\
  (∀x q,eL C s .neq T (.h x q) .di=sw true (C.T T).k (kP s (.h x q)))/\
  (∀d,eL C s .eql T (.ref d) .di=sw false (C.T T).k (kP s (.ref d)))/\
  (∀d,eL C s .neq T (.ref d) .di=sw true (C.T T).k (kP s (.ref d)))/\
  (eL C s .eql T .di .di=sw false (C.T T).k (kP s .di))/\
  (eL C s .neq T .di .di=sw true (C.T T).k (kP s .di)):=by
 refine⟨?_,?_,?_,?_,?_,?_,?_,?_,?_,?_,?_,?_,?_,?_,?_,?_⟩<;>intros<;>first
  |rfl
  |(simp only[eL]
    generalize (C.T T).k=dA;cases dA<;>first|rfl|(simp only[rb];generalize jl s _=v;cases v<;>rfl)|(simp only[sw];generalize kP s _=v;cases v<;>(try (rename_i b;cases b))<;>rfl))
theorem KV (k:IntKind) (a b:Int):
  j_ .add k a k b=some (.int k (k.wrap (a+b)))/\j_ .sub k a k b=some (.int k (k.wrap (a-b)))/\j_ .mul k a k b=some (.int k (k.wrap (a*b)))/\
  j_ .eql k a k b=some (.bool (a==b))/\j_ .neq k a k b=some (.bool (a !=b))/\j_ .lss k a k b=some (.bool (decide (a<b)))/\j_ .leq k a k b=some (.bool (decide (a<=b)))/\
  j_ .gtr k a k b=some (.bool (decide (b<a)))/\j_ .geq k a k b=some (.bool (decide (b<=a)))/\
  j_ .and k a k b=some (.int k (bitsOf .and k a b))/\j_ .or k a k b=some (.int k (bitsOf .or k a b))/\j_ .xor k a k b=some (.int k (bitsOf .xor k a b))/\j_ .andNot k a k b=some (.int k (bitsOf .andNot k a b)):=by
 simp[j_]
theorem KW (a b:aix):
  nO .eql a b=some (.bool (a==b))/\nO .neq a b=some (.bool !(a==b))/\nO .lss a b=some (.bool (Op.bytesLess a b))/\
  nO .leq a b=some (.bool (Op.bytesLess a b||a==b))/\nO .gtr a b=some (.bool !(Op.bytesLess a b||a==b))/\nO .geq a b=some (.bool !(Op.bytesLess a b)):=by
 refine⟨rfl,rfl,rfl,rfl,rfl,rfl⟩
theorem KX:(∀b,un .not (.bool b)=some (.bool !b))/\(un .not .e7=some .e7)/\(∀k n,un .neg (.int k n)=some (.int k (k.wrap (0-n)))):=⟨λ_=>rfl,rfl,λ_ _=>rfl⟩
def D9:mT->Option UInt8->Option I
 | .str,some c=>some (.int .u8 c.toNat)
 |_,_=>none
theorem KY (C:bY) (T:TypeId) (l:aix) (k:IntKind) (n:Int):idx C T (.str l) (.int k n)=D9 (C.T T).k (bm l n):=by
 simp only[idx,bm];generalize (C.T T).k=dA;cases dA<;>first|rfl|(simp only[D9];split<;>first|rfl|(cases l[n.toNat]? <;>rfl))
def D_ (C:bY):mT->Option I->Option I
 | .slice e,some d=>if(C.T e).ok=true/\d.wd=(C.T e).sz then some (.ref d)else none
 |_,_=>none
theorem KZ (C:bY) (s:ax) (T:TypeId) (xs:aiF) (k:IntKind) (n:Int):jk C s T (.slice xs) (.int k n)=D_ C (C.T T).k (bm xs n):=by
 simp only[jk,bm];generalize (C.T T).k=dA;cases dA<;>first|rfl|skip
 simp only[D_];by_cases a7:0<=n
 .simp only[a7,true_and,if_true];split
  .cases xs[n.toNat]? <;>simp[*]
  .cases xs[n.toNat]? <;>simp[*]
 .simp only[a7,false_and,if_false]
def wF (C:bY) (y:Nat) (q:aiA) (n:Int):mT->Option I->Option I
 | .slice e,some (.al sz xs)=>if(bm xs n).isSome=true/\(C.T e).ok=true/\sz=(C.T e).sz then some (.au y (q++[n.toNat]))else none
 |_,_=>none
theorem K0 (C:bY) (s:ax) (T:TypeId) (y:Nat) (q:aiA) (k:IntKind) (n:Int):jk C s T (.h y q) (.int k n)=wF C y q n (C.T T).k (I.sub q (s y)):=by
 simp only[jk];generalize (C.T T).k=dA;cases dA<;>first|rfl|skip
 rename_i e;cases U:I.sub q (s y)with
 |none=>simp[wF]
 |some d=>
  cases d<;>first
   |(simp[wF];done)
   |skip
  rename_i sz xs;have bB:(bm xs n).isSome=true↔0<=n/\n.toNat<xs.length:=by
   unfold bm;split<;>simp_all<;>omega
  simp only[wF,bB];by_cases a7:0<=n<;>by_cases ab:(C.T e).ok=true<;>simp[a7,ab]
def tV:mT->ax->Option aix->Option (I×ax)
 | .str,s,some t=>some (.str t,s)
 |_,_,_=>none
def tW (C:bY):mT->ax->aiF->Option aiF->Option (I×ax)
 | .slice e,s,xs,some t=>if(C.T e).ok=true/\∀d∈xs,d.wd=(C.T e).sz then some (.slice t,s)else none
 |_,_,_,_=>none
theorem K1 (C:bY) (s:ax) (T:TypeId) (l:aix):
  (∀k a ct b,hC C s T (.str l) (some (.int k a)) (some (.int ct b))=tV (C.T T).k s (kJ l a b))/\
  (∀ct b,hC C s T (.str l) none (some (.int ct b))=tV (C.T T).k s (kJ l 0 b))/\
  (∀k a,hC C s T (.str l) (some (.int k a)) none=tV (C.T T).k s (kJ l a l.length)):=by
 have e:∀(eS ak:Option I) (a b:Int),(h7 0 eS=if 0<=a then some a.toNat else none)->(h7 l.length ak=if 0<=b then some b.toNat else none)->hC C s T (.str l) eS ak=tV (C.T T).k s (kJ l a b):=by
  intro eS ak a b ab ad;simp only[hC];generalize (C.T T).k=dA;cases dA<;>first|rfl|skip
  simp only[ab,ad,kJ];by_cases bU:0<=a<;>by_cases R:0<=b<;>simp only[bU,R,if_true,if_false,tV,true_and,false_and]
  .by_cases aj:a<=b/\b<=l.length
   .rw[if_pos ⟨by omega,by omega⟩,if_pos aj]
   .rw[if_neg (λh=>aj ⟨by omega,by omega⟩),if_neg aj]
  .rw[if_neg (by omega)]
 exact⟨λk a ct b=>e _ _ a b rfl rfl,λct b=>e _ _ 0 b rfl rfl,λk a=>e _ _ a l.length rfl (by simp[h7])⟩
theorem K2 (C:bY) (s:ax) (T:TypeId) (xs:aiF):
  (∀k a ct b,hC C s T (.slice xs) (some (.int k a)) (some (.int ct b))=tW C (C.T T).k s xs (kJ xs a b))/\
  (∀ct b,hC C s T (.slice xs) none (some (.int ct b))=tW C (C.T T).k s xs (kJ xs 0 b))/\
  (∀k a,hC C s T (.slice xs) (some (.int k a)) none=tW C (C.T T).k s xs (kJ xs a xs.length)):=by
 have e:∀(eS ak:Option I) (a b:Int),(h7 0 eS=if 0<=a then some a.toNat else none)->(h7 xs.length ak=if 0<=b then some b.toNat else none)->hC C s T (.slice xs) eS ak=tW C (C.T T).k s xs (kJ xs a b):=by
  intro eS ak a b ab ad;simp only[hC];generalize (C.T T).k=dA;cases dA<;>first|rfl|skip
  simp only[ab,ad,kJ];by_cases bU:0<=a<;>by_cases R:0<=b<;>simp only[bU,R,if_true,if_false,tW,true_and,false_and]
  .by_cases aj:a<=b/\b<=xs.length
   .rw[if_pos aj];have ab:a.toNat<=b.toNat:=by omega
    have ad:b.toNat<=xs.length:=by omega
    simp only[ab,ad,true_and]
   .rw[if_neg (λh=>aj ⟨by omega,by omega⟩),if_neg aj]
  .rw[if_neg (by omega)]
 exact⟨λk a ct b=>e _ _ a b rfl rfl,λct b=>e _ _ 0 b rfl rfl,λk a=>e _ _ a xs.length rfl (by simp[h7])⟩
def wG (q:aiA):Option I->Option I
 |some d=>I.sub q d
 |none=>none
theorem K3:(∀d,I.sub [] d=some d)/\(∀k q ay,I.sub (k::q) (.agg ay)=wG q ay[k]?)/\(∀k q ay,I.sub (k::q) (.tuple ay)=wG q ay[k]?)/\(∀k q sz xs,I.sub (k::q) (.al sz xs)=wG q xs[k]?)/\
  (∀q d,I.sub (0::q) (.bb d)=I.sub q d)/\(∀q d,wG q (some d)=I.sub q d)/\
  (∀k q a b,I.sub (k::q) (.int a b)=none):=by
 refine⟨λd=>by simp[I.sub],?_,?_,?_,λq d=>by simp[I.sub],λ_ _=>rfl,λ_ _ _ _=>by simp[I.sub]⟩
 .intro k q ay;simp only[I.sub];cases ay[k]? <;>rfl
 .intro k q ay;simp only[I.sub];cases ay[k]? <;>rfl
 .intro k q sz ay;simp only[I.sub];cases ay[k]? <;>rfl
def K4 (k:Nat) (q:aiA) (n:I) (ay:aiF):Option I->I
 |some d=>.agg (ay.set k (I.put q n d))
 |none=>.agg ay
def K5 (k:Nat) (q:aiA) (n:I) (ay:aiF):Option I->I
 |some d=>.tuple (ay.set k (I.put q n d))
 |none=>.tuple ay
def K6 (k:Nat) (q:aiA) (n:I) (sz:Nat) (xs:aiF):Option I->I
 |some d=>.al sz (xs.set k (I.put q n d))
 |none=>.al sz xs
theorem K7:(∀n d,I.put [] n d=n)/\(∀k q n ay,I.put (k::q) n (.agg ay)=K4 k q n ay ay[k]?)/\(∀k q n ay,I.put (k::q) n (.tuple ay)=K5 k q n ay ay[k]?)/\
  (∀k q n sz xs,I.put (k::q) n (.al sz xs)=K6 k q n sz xs xs[k]?)/\(∀q n d,I.put (0::q) n (.bb d)= .bb (I.put q n d))/\
  (∀k q n ay d,K4 k q n ay (some d)= .agg (ay.set k (I.put q n d)))/\(∀k q n ay d,K5 k q n ay (some d)= .tuple (ay.set k (I.put q n d)))/\
  (∀k q n sz xs d,K6 k q n sz xs (some d)= .al sz (xs.set k (I.put q n d))):=by
 refine⟨λn d=>by simp[I.put],?_,?_,?_,λq n d=>by simp[I.put],λ_ _ _ _ _=>rfl,λ_ _ _ _ _=>rfl,λ_ _ _ _ _ _=>rfl⟩
 .intro k q n ay;simp only[I.put];cases ay[k]? <;>rfl
 .intro k q n ay;simp only[I.put];cases ay[k]? <;>rfl
 .intro k q n sz ay;simp only[I.put];cases ay[k]? <;>rfl
theorem Ea:(∀k n,I.wd (.int k n)=1)/\(∀b,I.wd (.bool b)=1)/\(∀x,I.wd (.str x)=1)/\(∀x,I.wd (.slice x)=1)/\(∀n x,I.wd (.al n x)=1)/\(∀x,I.wd (.ref x)=1)/\(∀x,I.wd (.bb x)=1)/\
  I.wd .a_=1/\I.wd .di=1/\I.wd .hole=1/\I.wd .e7=1/\(∀x y,I.wd (.h x y)=1)/\(∀x y,I.wd (.au x y)=1)/\(∀x y,I.wd (.fn x y)=1)/\(∀ay,I.wd (.agg ay)=I.dH ay)/\(∀ay,I.wd (.tuple ay)=I.dH ay)/\I.dH []=0/\(∀d ds,I.dH (d::ds)=d.wd+I.dH ds):=by
 simp[I.wd,I.dH]
theorem SV {α:Type} {e:α->I} {n:Nat} (h:∀x,(e x).wd=n) (xs:List α):(∀d∈xs.map e,d.wd=n)=True:=by
 simp only[List.mem_map,eq_iff_iff,iff_true];rintro d ⟨x,_,rfl⟩;exact h x
theorem SX (m:Int):mY (Ct m)= .int .u8 (u8.wrap m):=by
 have h:0<=u8.wrap m/\u8.wrap m<256:=by rw[wrap_u8];omega
 simp only[mY,Ct,UInt8.toNat_ofNat'];congr 1;omega
theorem Eb (m:Int):((Ct m).toNat:Int)=u8.wrap m:=by
 have h:=SX m;simpa [mY]using h
section
variable {C:bY} {l:aiE} {Q:Exit->ax->Prop} {s:ax}
theorem iv {ros:List bZ} {k:aiA} (h:dt C (az l) ros none (λ_ s=>Q .normal (az (gu k s)))):a1 C (.fB ros (some k)) Q (az l):=sr (λ_ _ h=>h) h
theorem SY {ros:List bZ} {ew:aiy} {k:aiA} (hlen:ew.length=ros.length) (h:dt C (az l) ros (some []) (λacc s=>ki (n5 ew) 0 [] (acc.getD []).reverse=true/\Q .normal (az (gu k s)))):
  a1 C (.jC ros ew (some k)) Q (az l):=KF hlen h
theorem SZ {a b:aI} (h:∀dT:Exit->ax->Prop,(∀s,dm (a1 C b Q) s->dT .normal s)->(∀s,Q .ret s->dT .ret s)->(∀i s,Q (.exit i) s->dT (.exit i) s)->a1 C a dT s):a1 C (.seq a b) Q s:=
 h _ (λ_ h=>h) (λ_ h=>h) (λ_ _ h=>h)
theorem ep {ros:List bZ} {k:aiA} {b:aI} (h:dt C (az l) ros none (λ_ s=>a1 C b Q (az (gu k s)))):a1 C (.seq (.fB ros (some k)) b) Q (az l):=sr (λ_ _ h=>.inl h) h
theorem kj {ros:List bZ} {ew:aiy} {k:aiA} {b:aI} (hlen:ew.length=ros.length) (h:dt C (az l) ros (some []) (λacc s=>ki (n5 ew) 0 [] (acc.getD []).reverse=true/\a1 C b Q (az (gu k s)))):
  a1 C (.seq (.jC ros ew (some k)) b) Q (az l):=KF (K:=λs=>dm (a1 C b Q) (az (gu k s))) hlen (by
   have key:∀(os:List bZ) (s:ax) (acc:Option (List fa)),dt C s os acc (λacc s=>ki (n5 ew) 0 [] (acc.getD []).reverse=true/\a1 C b Q (az (gu k s)))->
     dt C s os acc (λacc s=>ki (n5 ew) 0 [] (acc.getD []).reverse=true/\dm (a1 C b Q) (az (gu k s))):=by
    intro os;induction os with
    |nil=>intro s acc h;exact⟨h.1,.inl h.2⟩
    |cons o os ih=>
     intro s acc h;have mono:∀{s:ax} {bC:dI} {K c_:aiA->I->ax->Prop},(∀a b c,K a b c->c_ a b c)->n3 C s bC K->n3 C s bC c_:=by
      intro s bC K c_ aw h;cases bC with
      |call f args=>
       obtain⟨g,caps,ps,r,ab,iq,ad,aA,aZ,bA,cH,cI,gn⟩:=h;exact⟨g,caps,ps,r,ab,iq,ad,aA,aZ,bA,cH,cI,aw _ _ _ gn⟩
      |shr bC=>obtain⟨av,s1,ab,ad,aA,aZ⟩:=h;exact⟨av,s1,ab,ad,aA,aw _ _ _ aZ⟩
      |_=>obtain⟨av,s1,ab,ad⟩:=h;exact⟨av,s1,ab,aw _ _ _ ad⟩
     simp only[dt,nt]at h⊢;split
     .rename_i bB;rw[bB]at h;exact mono (λ_ _ _=>ih _ _) h
     .rename_i t fk bB;rw[bB]at h;simp only at h;split
      .rename_i agM U;rw[U]at h;simp only at h;split
       .rename_i R;rw[if_pos R]at h;exact mono (λ_ _ _=>ih _ _) h
       .rename_i R;rw[if_neg R]at h;exact ih _ _ h
      .rename_i U;rw[U]at h;exact ih _ _ h
      .rename_i ab ad;split at h
       .exact ab _ (by assumption)
       .exact ad (by assumption)
       .exact h
   exact key _ _ _ h)
theorem h3 {c:bg} {a b:aI} (aj:bp s c= .bool true) (h:a1 C a Q s):a1 C (.cond c a b) Q s:=by simp only[a1,aj,if_true];exact h
theorem o8 {c:bg} {a b:aI} (aj:bp s c= .bool false) (h:a1 C b Q s):a1 C (.cond c a b) Q s:=by simp only[a1,aj];exact h
theorem S0 {c:bg} {a b:aI} (aj:bp s c= .e7) (ab:a1 C a Q s) (ad:a1 C b Q s):a1 C (.cond c a b) Q s:=by simp only[a1,aj];exact⟨ab,ad⟩
theorem S1 {id:Nat} {b:aI} (h:∀dT:Exit->ax->Prop,(∀s,Q .normal s->dT .normal s)->(∀s,Q .ret s->dT .ret s)->(∀s,Q .normal s->dT (.exit id) s)->(∀i s,i≠id->Q (.exit i) s->dT (.exit i) s)->a1 C b dT s):a1 C (.block id b) Q s:=
 h (tO id Q) (λ_ h=>h) (λ_ h=>h) (λs h=>by simp only[tO,if_true];exact h) (λi s ak h=>by simp only[tO,if_neg ak];exact h)
theorem cP {id:Nat} (h:Q (.exit id) s):a1 C (.exit id) Q s:=h
theorem sx (h:Q .ret s):a1 C .ret Q s:=h
theorem aQ (h:Q .normal s):a1 C .skip Q s:=h
def cz (C:bY) (b:aI) (Q:Exit->ax->Prop) (s:ax):Prop:=∀Z:ax->Prop,(∀aD,a1 C b (andThen (dm Z) Q) aD->Z aD)->Z s
theorem p9 {b:aI} (h:dm (cz C b Q) s):a1 C (.loop b) Q s:=h
theorem S2 {b:aI} (h:∀dT:Exit->ax->Prop,(∀s,dm (cz C b Q) s->dT .normal s)->(∀s,Q .ret s->dT .ret s)->(∀i s,Q (.exit i) s->dT (.exit i) s)->a1 C b dT s):cz C b Q s:=by
 intro Z tQ;refine tQ s (DR b ?_ (h (andThen (dm (cz C b Q)) Q) (λ_ h=>h) (λ_ h=>h) (λ_ _ h=>h)));intro e aD bq;cases e with
 |normal=>exact tP (λs h=>h Z tQ) aD bq
 |_=>exact bq
theorem bJ {b3:aiE} (h:b3.map (·.2)=b3.map λp=>s p.1):tN s b3:=by
 intro p au;left;induction b3 with
 |nil=>cases au
 |cons a b3 ih=>
  simp only[List.map_cons,List.cons.injEq]at h;rcases List.mem_cons.1 au with rfl|au
  .exact h.1
  .exact ih h.2 au
end
section
variable {C:bY} {l:aiE} {Q:Exit->ax->Prop} {s:ax} {os ros:List bZ} {K:Option (List fa)->ax->Prop} {dst:Option Nat}
theorem K8 (l:aiE):(∀n,bp (az l) (.t n)=pR n (az l n))/\(∀av,bp (az l) (.c av)=av)/\(∀g,bp (az l) (.f g)= .fn g []):=⟨λ_=>rfl,λ_=>rfl,λ_=>rfl⟩
theorem K9:(∀t,az [] t= .hole)/\(∀u d (l:aiE) t,az ((u,d)::l) t=if t=u then d else az l t):=⟨λ_=>rfl,λ_ _ _ _=>rfl⟩
theorem K_ (s:ax):gu [] s=[]/\(∀t k,gu (t::k) s=(t,s t)::gu k s):=⟨rfl,λ_ _=>rfl⟩
theorem La (s:ax):(∀d,l8 s (some d)=some (d,s))/\(∀s1,cZ (some s1)=some (.hole,s1))/\jF s []=[]/\(∀x xs,jF s (x::xs)=bp s x::jF s xs)/\ra s []=[]/\(∀k x xs,ra s ((k,x)::xs)=(k,bp s x)::ra s xs)/\
  wD s none=none/\(∀x,wD s (some x)=some (bp s x))/\(∀b x y,KK s (.bool b) x y=some (if b=true then x else y,s)):=
 ⟨λ_=>rfl,λ_=>rfl,rfl,λ_ _=>rfl,rfl,λ_ _ _=>rfl,rfl,λ_=>rfl,λb _ _=>by cases b<;>rfl⟩
theorem Lb (C:bY):(∀e d,D_ C (.slice e) (some d)=if(C.T e).ok=true/\d.wd=(C.T e).sz then some (.ref d)else none)/\
  (∀y q n e sz xs,wF C y q n (.slice e) (some (.al sz xs))=if(bm xs n).isSome=true/\(C.T e).ok=true/\sz=(C.T e).sz then some (.au y (q++[n.toNat]))else none)/\
  (∀e s xs t,tW C (.slice e) s xs (some t)=if(C.T e).ok=true/\∀d∈xs,d.wd=(C.T e).sz then some (.slice t,s)else none):=
 ⟨λ_ _=>rfl,λ_ _ _ _ _ _=>rfl,λ_ _ _ _=>rfl⟩
theorem Lc:(∀b,D8 .bool b=some (.bool b))/\(∀c,D9 .str (some c)=some (.int .u8 c.toNat))/\(∀s t,tV .str s (some t)=some (.str t,s))/\(∀q d,wG q (some d)=I.sub q d):=
 ⟨λ_=>rfl,λ_=>rfl,λ_ _=>rfl,λ_ _=>rfl⟩
theorem Ld (sz bytes:Nat) (z:I):(∀k,fZ.ok ⟨.int k,sz,bytes,z⟩=true)/\fZ.ok ⟨.bool,sz,bytes,z⟩=true/\fZ.ok ⟨.str,sz,bytes,z⟩=true/\(∀e,fZ.ok ⟨.ptr e,sz,bytes,z⟩=true)/\(∀e,fZ.ok ⟨.slice e,sz,bytes,z⟩=true)/\(∀e,fZ.ok ⟨.struct e,sz,bytes,z⟩=true)/\fZ.ok ⟨.fn,sz,bytes,z⟩=true:=by
 simp[fZ.ok]
theorem Le (sz bytes:Nat) (z:I):(∀k,fZ.flat ⟨.int k,sz,bytes,z⟩=true)/\fZ.flat ⟨.bool,sz,bytes,z⟩=true/\fZ.flat ⟨.str,sz,bytes,z⟩=true/\(∀e,fZ.flat ⟨.ptr e,sz,bytes,z⟩=true)/\(∀e,fZ.flat ⟨.slice e,sz,bytes,z⟩=true)/\(∀e,fZ.flat ⟨.struct e,sz,bytes,z⟩=false)/\fZ.flat ⟨.fn,sz,bytes,z⟩=true:=by
 simp[fZ.flat]
theorem wH (c:UInt8) (k:IntKind) (aw:k≠.i8):k.wrap (c.toNat:Int)=(c.toNat:Int):=by
 have:=c.toNat_lt;cases k<;>first|(exact(aw rfl).elim)|(simp[wrap,IntKind.bits,signed];try omega)
theorem Ec (c:UInt8):i64.wrap (c.toNat:Int)=(c.toNat:Int)/\u64.wrap (c.toNat:Int)=(c.toNat:Int)/\u8.wrap (c.toNat:Int)=(c.toNat:Int)/\i32.wrap (c.toNat:Int)=(c.toNat:Int)/\u32.wrap (c.toNat:Int)=(c.toNat:Int):=
 ⟨wH c _ (by simp),wH c _ (by simp),wH c _ (by simp),wH c _ (by simp),wH c _ (by simp)⟩
theorem cc {k:aiA} {K:ax->Prop} (b3:aiE) (h:∀P:aiE->Prop,P b3->dt C (az l) ros none (λ_ s=>P (gu k s))) (aw:K (az b3)):dt C (az l) ros none (λ_ s=>K (az (gu k s))):=
 h (λl=>K (az l)) aw
theorem jW {k:aiA} {cl:aiy} {K:ax->Prop} (b3:aiE) (h:∀P:aiE->Prop,P b3->dt C (az l) ros (some []) (λacc s=>ki cl 0 [] (acc.getD []).reverse=true/\P (gu k s))) (aw:K (az b3)):
  dt C (az l) ros (some []) (λacc s=>ki cl 0 [] (acc.getD []).reverse=true/\K (az (gu k s))):=
 h (λl=>K (az l)) aw
theorem aW.S3 (bh:C.Ok) {f:FuncId} {fn:Func} {c:Code} {cW:aI} {fx:aiA} {as outs:aiF} {r:I} (bn:C.P.funcs[f]? =some fn) (R:fn.body=some c)
  (kg:(fn.name== "runtime.NumGoroutine")=false) (U:eB ⟨fn.ntmps,fx⟩ c=some cW.strip) (aP:as.length<=fn.ntmps)
  (h:∀Q:Exit->ax->Prop,(∀s,dm (Ends C fx fn.results.toList r outs) s->Q .ret s)->(∀s,dm (Ends C fx fn.results.toList r outs) s->Q .normal s)->a1 C cW Q (az (num 0 as))) (au:cW.plain=true:=by kernel_rfl):aW C f as r outs:=by
 refine aW.of_wp bh bn R kg U aP ?_ au;rw[DZ];exact h _ (λs h=>⟨.inr rfl,h⟩) (λs h=>⟨.inl rfl,h⟩)
def zZ:aiF->I
 |[d]=>d
 |ds=>.tuple ds
theorem tX {fx:aiA} {en:List ResultVar} {r:I} {outs:aiF} (ds:aiF) (ab:en.map (n2 C s)=ds.map some) (ad:r=zZ ds) (aA:(en.map iL).Nodup)
  (aZ:∀(i:Nat) (o:I),outs[i]? =some o->o= .hole\/(o=s i/\o.fS=true/\i∈fx/\i∉en.map iL)):Ends C fx en r outs s:=.inl ⟨ds,ab,by subst ad;cases ds with|nil=>rfl|cons a t=>cases t<;>rfl,aA,aZ⟩
theorem S4 {fx:aiA} {en:List ResultVar}:∀(i:Nat) (o:I),([]:aiF)[i]? =some o->o= .hole\/(o=s i/\o.fS=true/\i∈fx/\i∉en.map iL):=λi o h=>by simp at h
theorem Lf:∀(as ds:aiF),(lG as ds).filter (·.g)=[]
 |[],_=>rfl
 |_::_,[]=>rfl
 |a::as,d::ds=>by simp only[lG,List.filter_cons];exact Lf as ds
theorem z1 {f:bg} {args:List bg} {g:FuncId} {caps:aiF} {K:aiA->I->ax->Prop} (ds:aiF) (r:I)
  (ab:bp (az l) f= .fn g caps) (iq:I.fY caps=true) (gI:views (az l) (jF (az l) args++caps)=some ds)
  (bA:aW C g ds r []) (cH:r.res=true) (cI:I.eh (jF (az l) args++caps)=[]\/r.cu=true) (hK:K [] r (az l)):n3 C (az l) (.call f args) K:=by
 obtain⟨aN,aR,aS,b0,cd,bQ,bH⟩:=Sd _ _ gI;refine⟨g,caps,lG (jF (az l) args++caps) ds,r,ab,iq,by rw[aN,wE],λp au=>(aS p au).1,b0,by rw[aR];exact bA.outs cd.symm,cH,?_,by rw[bQ,bH,Lf];exact hK⟩;intro aO;refine⟨?_,λp au=>by rw[(aS p au).2.2.1];rfl⟩;rcases cI with cI|cI
 .exfalso;simp only[jV,List.any_eq_true]at aO;obtain⟨p,au,fl⟩:=aO;have hm:=(aS p au).2.2.2;have:p.a.U=[]:=by
   have key:∀(as:aiF) (a:I),a∈as->I.eh as=[]->a.U=[]:=by
    intro as;induction as with
    |nil=>intro a h;cases h
    |cons b as ih=>
     intro a h he;simp only[I.eh,List.append_eq_nil_iff]at he;rcases List.mem_cons.1 h with rfl|h
     .exact he.1
     .exact ih a h he.2
   exact key _ _ hm cI
  rw[this]at fl;simp at fl
 .exact cI
theorem fg {f:bg} {args:List bg} {g:FuncId} {caps:aiF} {ds:aiF} {r:I} (bA:aW C g ds r [])
  (ab:bp (az l) f= .fn g caps:=by rfl) (iq:I.fY caps=true:=by rfl) (gI:views (az l) (jF (az l) args++caps)=some ds:=by rfl)
  (cH:r.res=true:=by rfl) (cI:I.eh (jF (az l) args++caps)=[]\/r.cu=true:=by exact .inl (by rfl))
  (hK:dt C (fin (az l) dst r) os none K):dt C (az l) (⟨dst,.call f args,none⟩::os) none K:=by
 simp only[dt,nt,p8];exact z1 ds r ab iq gI bA cH cI hK
theorem jX {a:List fa} {f:bg} {args:List bg} {g:FuncId} {caps:aiF} {ds:aiF} {r:I} (bA:aW C g ds r [])
  (ab:bp (az l) f= .fn g caps:=by rfl) (iq:I.fY caps=true:=by rfl) (gI:views (az l) (jF (az l) args++caps)=some ds:=by rfl)
  (cH:r.res=true:=by rfl) (cI:I.eh (jF (az l) args++caps)=[]\/r.cu=true:=by exact .inl (by rfl))
  (hK:dt C (fin (az l) dst r) os (some (iu (az l) (use (az l) (.call f args)) dst [] r::a)) K):dt C (az l) (⟨dst,.call f args,none⟩::os) (some a) K:=by
 simp only[dt,nt,p8];exact z1 ds r ab iq gI bA cH cI hK
theorem gM {t:Nat} {b:Bool} {f:bg} {args:List bg} {g:FuncId} {caps:aiF} {ds:aiF} {r:I} (bA:aW C g ds r [])
  (ab:bp (az l) f= .fn g caps:=by rfl) (iq:I.fY caps=true:=by rfl) (gI:views (az l) (jF (az l) args++caps)=some ds:=by rfl)
  (cH:r.res=true:=by rfl) (cI:I.eh (jF (az l) args++caps)=[]\/r.cu=true:=by exact .inl (by rfl))
  (hK:dt C (fin (az l) dst r) os none K):lI C l dst (.call f args) t b os none K (.bool b):=by
 simp only[lI,if_true];exact z1 ds r ab iq gI bA cH cI hK
theorem kk {a:List fa} {t:Nat} {b:Bool} {f:bg} {args:List bg} {g:FuncId} {caps:aiF} {ds:aiF} {r:I} (bA:aW C g ds r [])
  (ab:bp (az l) f= .fn g caps:=by rfl) (iq:I.fY caps=true:=by rfl) (gI:views (az l) (jF (az l) args++caps)=some ds:=by rfl)
  (cH:r.res=true:=by rfl) (cI:I.eh (jF (az l) args++caps)=[]\/r.cu=true:=by exact .inl (by rfl))
  (hK:dt C (fin (az l) dst r) os (some (iu (az l) (t::use (az l) (.call f args)) dst [] r::a)) K):lI C l dst (.call f args) t b os (some a) K (.bool b):=by
 simp only[lI,if_true];exact z1 ds r ab iq gI bA cH cI hK
theorem lg (s:ax):views s []=some []/\(∀d ds,views s (d::ds)=(match view s d,views s ds with|some a,some b=>some (a::b)|_,_=>none))/\
  (∀k n,view s (.int k n)=some (.int k n))/\(∀b,view s (.bool b)=some (.bool b))/\(∀x,view s (.str x)=some (.str x))/\(∀x,view s (.slice x)=some (.slice x))/\(∀x,view s (.ref x)=some (.ref x))/\
  view s .a_=some .a_/\view s .di=some .di/\(∀ay,view s (.agg ay)=some (.agg ay))/\(∀f cap,view s (.fn f cap)=(views s cap).map (.fn f)):=by
 refine⟨rfl,λd ds=>?_,λ_ _=>rfl,λ_=>rfl,λ_=>rfl,λ_=>rfl,λ_=>rfl,rfl,rfl,λ_=>rfl,λ_ _=>by simp only[view]⟩;simp only[views];rfl
theorem cQ {α:Type} {u e:α->I} (h:∀x,(u x).share=e x) (xs:List α):I.shares (xs.map u)=xs.map e:=by
 rw[I.rU];simp[h]
theorem jY {α:Type} {u:α->I} (h:∀x,(u x).cu=true) (xs:List α):I.gU (xs.map u)=true:=by
 induction xs with
 |nil=>rfl
 |cons x xs ih=>simp only[List.map_cons,I.gU,h,ih,Bool.and_self]
def re (s:ax) (H:aiA):aiE->Prop
 |[]=>True
 |p::l=>(p.2=s p.1\/((s p.1).tree=true/\eG (s p.1) p.2/\p.1∉H))/\re s H l
theorem kl {b3:aiE} (H:aiA) (hH:I.eh (b3.map (·.2))=H) (h:re s H b3):tN s b3:=by
 have key:∀(ev:aiE),re s H ev->∀p∈ev,p.2=s p.1\/((s p.1).tree=true/\eG (s p.1) p.2/\p.1∉H):=by
  intro ev;induction ev with
  |nil=>intro _ p au;cases au
  |cons a ev ih=>
   intro h p au;rcases List.mem_cons.1 au with rfl|au
   .exact h.1
   .exact ih h.2 p au
 have U:∀(ev:aiE),∀cj∈ev,∀u∈cj.2.U,u∈I.eh (ev.map (·.2)):=by
  intro ev;induction ev with
  |nil=>intro p au;cases au
  |cons a ev ih=>
   intro p au u hu;simp only[List.map_cons,I.eh,List.mem_append];rcases List.mem_cons.1 au with rfl|au
   .exact .inl hu
   .exact .inr (ih p au u hu)
 intro p au;rcases key _ h p au with ab|⟨ab,ad,aA⟩
 .exact .inl ab
 .refine .inr ⟨ab,ad,λcj el=>.inl λhm=>aA ?_⟩;rw[<-hH];exact U b3 cj el _ hm
theorem km {H:aiA}:re s H []:=trivial
theorem du {H:aiA} {t:Nat} {d:I} {b3:aiE} (h:d=s t) (aO:re s H b3):re s H ((t,d)::b3):=⟨.inl h,aO⟩
theorem kn {H:aiA} {t:Nat} {d a6:I} {b3:aiE} (e:s t=d) (aY:d.tree=true) (ag:eG d a6) (hH:t∉H) (aO:re s H b3):re s H ((t,a6)::b3):=⟨.inr ⟨by rw[e];exact aY,by rw[e];exact ag,hH⟩,aO⟩
theorem Lg {a b:I} (h:eG a b):∀n,i_ (List.replicate n a) (List.replicate n b)
 |0=>.nil
 |n+1=>by simp only[List.replicate_succ];exact .cons h (Lg h n)
theorem wI {α:Type} {sz:Nat} {u:α->I} {z:α} {a:I} (h:eG a (u z)) (n:Nat):eG (.al sz (List.replicate n a)) (.al sz ((List.replicate n z).map u)):=by
 rw[List.map_replicate];exact .al (Lg h n)
end
theorem lJ {α:Type} {e:α->I} {n:Nat} (h:∀x,(e x).wd=n):∀xs:List α,(∀d∈xs.map e,d.wd=n)=True:=SV h
theorem o9 {P:I->Prop} (d:I) (ds:aiF):(∀x∈d::ds,P x)=(P d/\∀x∈ds,P x):=by simp
theorem all_nil {P:I->Prop}:(∀x∈([]:aiF),P x)=True:=by simp
theorem Lh:(∀l:aiA,[]++l=l)/\(∀a (l m:aiA),(a::l)++m=a::(l++m)):=⟨λ_=>rfl,λ_ _ _=>rfl⟩
def Li (C:bY) (e cL:TypeId):Bool:=(C.T e).ok&&((C.T e).zero.wd==(C.T e).sz)&&(flat (C.T e).zero).isSome&&zq C e cL
def z6 (C:bY) (e:TypeId) (xs:aiF):Option (aiF×ax)->Option (I×ax)
 |some (ys,s2)=>if(∀d∈ys,d.wd=(C.T e).sz)/\(room (C.T e).bytes (xs.length+ys.length)).isSome=true then some (.al (C.T e).sz (xs++ys),s2)else none
 |none=>none
def Ed (C:bY) (e:TypeId) (y:I) (o:Option Nat):Option (I×ax)->Option (I×ax)
 |some (.al sz xs,s1)=>if sz=(C.T e).sz then z6 C e xs (kT s1 (j8 o y))else none
 |_=>none
theorem S5 (b n:Nat):(room b n).isSome=true↔n*b<=140737488355328/\n<=9223372036854775807:=by unfold room;split<;>simp_all
theorem n8 {C:bY} {T cL e:TypeId} (h_:(C.T T).k= .slice e) (e1:Li C e cL=true):∀s x y,p1 C s T cL x y=Ed C e y x.owner (o3 C e s x):=by
 intro s x y;simp only[Li,Bool.and_eq_true,beq_iff_eq]at e1;rw[Dw,h_];simp only;rw[if_pos ⟨e1.1.1.1,e1.1.1.2,e1.1.2,e1.2⟩];generalize x.owner=o;cases o3 C e s x with
 |none=>rfl
 |some p=>
  obtain⟨d,s1⟩:=p;cases d<;>first
   |rfl
   |(simp only[Ed]
     split
     .rename_i h;subst h;generalize kT s1 (j8 o y)=z;cases z with
      |none=>rfl
      |some p=>simp only[z6,S5]
     .rfl)
def Lj:Option (I×ax)->Option (aiF×ax)
 |some (.al _ ys,s2)=>some (ys,s2)
 |_=>none
theorem o_ (s:ax):kT s .a_=some ([],s)/\(∀ys,kT s (.slice ys)=some (ys,s))/\(∀l,kT s (.str l)=some (l.map mY,s))/\
  (∀a q,kT s (.h a q)=Lj (cB s (.h a q)))/\(∀n ys,Lj (some (.al n ys,s))=some (ys,s)):=
 ⟨rfl,λ_=>rfl,λ_=>rfl,λ_ _=>by simp only[kT];rfl,λ_ _=>rfl⟩
theorem pa (C:bY) (e:TypeId):(∀s,o3 C e s .a_=some (.al (C.T e).sz [],s))/\(∀s a q,o3 C e s (.h a q)=cB s (.h a q))/\
  (∀y o sz xs s1,Ed C e y o (some (.al sz xs,s1))=if sz=(C.T e).sz then z6 C e xs (kT s1 (j8 o y))else none)/\
  (∀xs ys s2,z6 C e xs (some (ys,s2))=if(∀d∈ys,d.wd=(C.T e).sz)/\(room (C.T e).bytes (xs.length+ys.length)).isSome=true then some (.al (C.T e).sz (xs++ys),s2)else none):=
 ⟨λ_=>rfl,λ_ _ _=>rfl,λ_ _ _ _ _=>rfl,λ_ _ _=>rfl⟩
theorem pb:(∀d,j8 none d=d)/\(∀x d,j8 (some x) d=bT x d)/\(∀x q,I.owner (.h x q)=some x)/\I.owner .a_=none:=
 ⟨λ_=>rfl,λ_ _=>rfl,λ_ _=>rfl,rfl⟩
def Lk (s:ax) (x:Nat) (q:aiA):Option I->Option (I×ax)
 |some d=>if d.plain=true then none else some (d,de (hA x s) x (I.put q d.cN (s x)))
 |none=>none
theorem Ll (s:ax) (x:Nat) (q:aiA):cB s (.h x q)=Lk s x q (I.sub q (s x)):=by
 simp only[cB];cases I.sub q (s x)<;>rfl
theorem Lm (s:ax):(∀x q d,Lk s x q (some d)=if d.plain=true then none else some (d,de (hA x s) x (I.put q d.cN (s x))))/\(∀k n,cB s (.int k n)=some (.int k n,s))/\(∀b,cB s (.bool b)=some (.bool b,s))/\(∀x,cB s (.str x)=some (.str x,s))/\
  (∀x,cB s (.slice x)=some (.slice x,s))/\(∀x,cB s (.ref x)=some (.ref x,s))/\(∀x,cB s (.agg x)=some (.agg x,s))/\cB s .a_=some (.a_,s)/\cB s .di=some (.di,s):=
 ⟨λ_ _ _=>rfl,λ_ _=>rfl,λ_=>rfl,λ_=>rfl,λ_=>rfl,λ_=>rfl,λ_=>rfl,rfl,rfl⟩
theorem Ln (l:aiE) (t:Nat) (d:I):de (az l) t d=az ((t,d)::l):=zQ l t d
theorem Lo:(∀n x,I.cN (.al n x)= .hole)/\(∀x,I.cN (.bb x)= .hole)/\(∀ay,I.cN (.agg ay)= .agg (I.kL ay))/\(∀ay,I.cN (.tuple ay)= .tuple (I.kL ay))/\I.kL []=[]/\(∀d ds,I.kL (d::ds)=d.cN::I.kL ds)/\
  (∀k n,I.cN (.int k n)= .int k n)/\(∀b,I.cN (.bool b)= .bool b)/\(∀x,I.cN (.str x)= .str x)/\(∀x,I.cN (.slice x)= .slice x)/\(∀x,I.cN (.ref x)= .ref x)/\I.cN .a_= .a_/\I.cN .di= .di/\I.cN .hole= .hole:=by
 simp[I.cN,I.kL]
def sy:Option I->Option I
 |some d=>(match d with| .tuple _=>none| .dz _=>none| .fv _ _=>none|d=>if d.plain=true then none else some d.share)
 |none=>none
def sA:Option I->Option I
 |some d=>(match d with| .tuple _=>none|d=>some (.ref d.share))
 |none=>none
theorem lh (s:ax) (x:Nat) (q:aiA):view s (.h x q)=sy (I.sub q (s x))/\view s (.au x q)=(if I.ff q (s x)=true then sA (I.sub q (s x))else none):=by
 constructor
 .simp only[view];rfl
 .simp only[view];rfl
theorem lj:(∀n xs,sy (some (.al n xs))=some (.slice (I.shares xs)))/\(∀d,sy (some (.bb d))=some (.ref d.share))/\(∀ay,sy (some (.agg ay))=if I.fY ay=true then none else some (.agg (I.shares ay)))/\
  (∀ay,sA (some (.agg ay))=some (.ref (.agg (I.shares ay))))/\(∀k n,sA (some (.int k n))=some (.ref (.int k n)))/\(∀x,sA (some (.str x))=some (.ref (.str x))):=
 ⟨λ_ _=>by simp[sy,I.plain,I.share],λ_=>by simp[sy,I.plain,I.share],λay=>by cases h:I.fY ay<;>simp[sy,I.plain,I.share,h],λ_=>by simp[sA,I.share],λ_ _=>by simp[sA,I.share],λ_=>by simp[sA,I.share]⟩
theorem dJ:(∀n xs,I.share (.al n xs)= .slice (I.shares xs))/\(∀d,I.share (.bb d)= .ref d.share)/\(∀xs,I.share (.slice xs)= .slice (I.shares xs))/\(∀d,I.share (.ref d)= .ref d.share)/\(∀ay,I.share (.agg ay)= .agg (I.shares ay))/\(∀ay,I.share (.tuple ay)= .tuple (I.shares ay))/\
  (∀k n,I.share (.int k n)= .int k n)/\(∀b,I.share (.bool b)= .bool b)/\(∀x,I.share (.str x)= .str x)/\I.share .a_= .a_/\I.share .di= .di/\I.shares []=[]/\(∀d ds,I.shares (d::ds)=d.share::I.shares ds):=by
 simp[I.share,I.shares]
def l9 (sz:Nat):Option (aiF×ax)->Option (I×ax)
 |some (ds,s1)=>some (.al sz ds,s1)
 |none=>none
def e3:Option (aiF×ax)->Option (I×ax)
 |some (ds,s1)=>some (.agg ds,s1)
 |none=>none
theorem wJ {C:bY} {T e n sz:Nat} {dS:aiF} (h_:(C.T T).k= .slice e) (dP:(C.T e).sz=sz) (bO:List.replicate n (C.T e).zero=dS)
  (e1:((C.T e).ok&&((C.T e).zero.wd==sz)&&(flat (C.T e).zero).isSome&&(sz !=0)&&decide (n*sz<=16777216))=true):∀s ps,eI C s T n ps=l9 sz (dY (λk=>some (k*sz,sz)) s dS [] ps):=by
 intro s ps;subst dP;simp only[Bool.and_eq_true,beq_iff_eq,bne_iff_ne,decide_eq_true_eq]at e1;obtain⟨⟨⟨⟨ab,ad⟩,aA⟩,aZ⟩,bA⟩:=e1;unfold eI;rw[h_];simp only;rw[if_pos ⟨ab,ad,aA,aZ,bA⟩,bO];cases dY (λk=>some (k*(C.T e).sz,(C.T e).sz)) s dS [] ps<;>rfl
theorem S6 {C:bY} {T:Nat} {ay:List (TypeId×Nat)} {dS:aiF} (h_:(C.T T).k= .struct ay) (bO:(C.T T).zero= .agg dS)
  (e1:((flat (.agg dS)).isSome&&ay.all λf=>(C.T f.1).ok)=true):∀s ps,gH C s T ps=e3 (dY (λk=>(ay[k]?).map λf=>(f.2,(C.T f.1).sz)) s dS [] ps):=by
 intro s ps;simp only[Bool.and_eq_true,List.all_eq_true]at e1;unfold gH;rw[h_,bO];simp only;rw[if_pos ⟨e1.1,e1.2⟩];cases dY (λk=>(ay[k]?).map λf=>(f.2,(C.T f.1).sz)) s dS [] ps<;>rfl
def ei (place:Nat->Option (Nat×Nat)) (k:Nat) (dS:aiF) (os:List (Option Nat)) (r:aiE) (o:Option Nat):Option (Nat×Nat)->Option I->Option (I×ax)->Option (aiF×ax)
 |some (off,n),some z,some (d,s1)=>(match d with
  | .tuple _=>none
  |d=>if d.wd=n/\z.wd=n/\I.dH (dS.take k)=off then dY place s1 (dS.set k d) (os++[o]) r else none)
 |_,_,_=>none
theorem wK (place:Nat->Option (Nat×Nat)) (s:ax) (dS:aiF) (os:List (Option Nat)):dY place s dS os []=some (dS,s)/\
  (∀k a r,dY place s dS os ((k,a)::r)=ei place k dS os r (ky os a).owner (place k) dS[k]? (cB s (ky os a))):=by
 refine⟨rfl,λk a r=>?_⟩;simp only[dY];cases cB s (ky os a)with
 |none=>cases place k<;>cases dS[k]? <;>rfl
 |some p=>
  obtain⟨d,s1⟩:=p;cases place k with
  |none=>cases dS[k]? <;>rfl
  |some q=>cases dS[k]? <;>(cases d<;>rfl)
theorem wL:(∀a,ky [] a=a)/\(∀o os a,ky (o::os) a=ky os (j8 o a)):=⟨λ_=>rfl,λ_ _ _=>rfl⟩
theorem dK:(∀k n,I.owner (.int k n)=none)/\(∀b,I.owner (.bool b)=none)/\(∀x,I.owner (.str x)=none)/\(∀x,I.owner (.slice x)=none)/\(∀x,I.owner (.ref x)=none)/\(∀x,I.owner (.agg x)=none)/\I.owner .di=none/\I.owner .a_=none/\(∀x q,I.owner (.h x q)=some x):=
 ⟨λ_ _=>rfl,λ_=>rfl,λ_=>rfl,λ_=>rfl,λ_=>rfl,λ_=>rfl,rfl,rfl,λ_ _=>rfl⟩
end Go.cU
