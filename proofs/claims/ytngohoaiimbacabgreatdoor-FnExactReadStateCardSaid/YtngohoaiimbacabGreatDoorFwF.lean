/- Part of a proof that a law returns true for every input. No condition. -/
import Derived.Test.YtngohoaiimbacabGreatDoorFwE
import Derived.Orders
import Derived.KernelRfl
import Derived.Test.YtngohoaiimbacabGreatDoorFwA
namespace Go.c_
open Go.IntKind Nat Or
section
variable {C:bW} {w0 w:World} {F0 X:Nat->Prop} {n:Fr} {ρ:Nat->Value} {s s1:aw} {a:Act} {av:I} {Q:Exit->Act->World->Prop}
def b7.un (o:b7):b7:=⟨o.dst,o.bG.base,o.guard⟩
theorem w7 {ops:Array Oper}:∀{os:List Oper} {rs:List b7},pj n ops os=some rs->os.length=rs.length/\∀(i:Nat) (o:Oper),os[i]? =some o->∃r,rs[i]? =some r/\ph n ops o=some r:=by
 intro os;induction os with
 |nil=>intro rs h;simp only[pj,Option.some.injEq]at h;subst h;exact⟨rfl,λi o h=>by simp at h⟩
 |cons o os ih=>
  intro rs h;simp only[pj]at h;split at h
  .rename_i r af6 ab ad;simp only[Option.some.injEq]at h;subst h;obtain⟨bN,cc⟩:=ih ad;refine⟨by simp[bN],λi mY b1=>?_⟩;cases i with
   |zero=>simp at b1;subst b1;exact⟨r,rfl,ab⟩
   |succ i=>simpa using cc i mY (by simpa using b1)
  .cases h
theorem z7 {o:Oper} {y:Nat->ahx} (h:o.guard=none):Region.wanted o y=true:=by simp[Region.wanted,h]
theorem Sw (h:Rel w0 F0 X n ρ s a w) {ops:Array Oper} {j t:Nat} (bQ:(ops[j]?).bind (·.dst)=some t):
  (∀b,s t= .bool b->yielded ops a.tmps j=some b)/\(s t= .tuple []->yielded ops a.tmps j=none):=by
 obtain⟨ae,U,bd,F,S,aH⟩:=h;have iu:=aH.cW t;refine⟨λb R=>?_,λR=>?_⟩
 .rw[R]at iu;have aI:=q6 iu;simp only[yielded,bQ,Option.bind_some];rw[Array.getD_eq_getD_getElem?]at aI;cases hg:a.tmps[t]? with
  |none=>rw[hg]at aI;simp[undef]at aI
  |some v=>rw[hg]at aI;simp at aI;subst aI;rfl
 .rw[R]at iu;obtain⟨⟨arr,ab,ad⟩,_⟩:=(aF.cr (d:=.tuple []) rfl).1 iu;simp only[yielded,bQ,Option.bind_some];rw[Array.getD_eq_getD_getElem?]at ab;cases hg:a.tmps[t]? with
  |none=>rfl
  |some v=>rw[hg]at ab;simp at ab;subst ab;rfl
theorem Ee (bk:C.eF) {ops:Array Oper} {ros:List b7} {l2:ahw} {K:aw->Prop} (aU:∀aA cB aD,K aA->Rel w0 F0 X n ρ aA cB aD->wpOps C.P ops Q l2 cB aD):
  ∀(l:ahw),(∀i∈l,(ops[i]? =none->ros[i]? =none)/\∀o,ops[i]? =some o->∃r,ros[i]? =some r/\ph n ops o=some r.un)->
  ∀(s:aw) (a:Act) (w:World),jT C ros s l K->Rel w0 F0 X n ρ s a w->wpOps C.P ops Q (l++l2) a w:=by
 intro l;induction l with
 |nil=>intro _ s a w h aH;exact aU s a w h aH
 |cons i l ih=>
  intro pk s a w h aH;replace ih:=ih λi ak=>pk i (List.mem_cons_of_mem _ ak);rw[List.cons_append];simp only[wpOps];cases b1:ops[i]? with
  |none=>
   simp only[jT,(pk i (by simp)).1 b1]at h;exact ih s a w h aH
  |some o=>
   obtain⟨r,ab,ad⟩:=(pk i (by simp)).2 o b1;simp only[jT,ab]at h;show(if Region.wanted o (yielded ops a.tmps)=true then o.wp C.P a w (wpOps C.P ops Q (l++l2)) Q\/(o.asks C.P a w/\LetsOut Q)else wpOps C.P ops Q (l++l2) (a.put o.dst undef) w);simp only[ph]at ad;split at ad
   .rename_i z8;split at ad
    .rename_i g hg;obtain⟨rd,bG,rg⟩:=r;simp only[b7.un,Option.some.injEq,b7.mk.injEq]at ad;obtain⟨rfl,cu,rfl⟩:=ad;simp only[lS]at h;have run:∀(de:aw->Prop),(∀aA,de aA->jT C ros aA l K)->nK C s bG (λav s1=>de (fin s1 o.dst av))->o.wp C.P a w (wpOps C.P ops Q (l++l2)) Q:=
      λde hK hw=>Sv bk aH cu z8 hw (λaA cB aD aq eu=>ih aA cB aD (hK aA aq) eu)
     cases uA:o.guard with
     |none=>
      rw[uA]at hg;simp only[w2,Option.some.injEq]at hg;subst hg;simp only at h;rw[if_pos (z7 uA)];exact .inl (run _ (λ_ h=>h) h)
     |some Ef=>
      obtain⟨j,b⟩:=Ef;rw[uA]at hg;simp only[w2]at hg;split at hg
      .rename_i t aY;simp only[Option.some.injEq]at hg;subst hg;simp only at h;obtain⟨eL,gT⟩:=Sw aH aY;have KC:∀(de:jT C ros (fin s o.dst (.tuple [])) l K),wpOps C.P ops Q (l++l2) (a.put o.dst undef) w:=λde=>ih _ _ _ de (Rel.skip aH z8);split at h
       .rename_i ff U;have hy:=eL ff U;split at h
        .rename_i R;subst R;rw[if_pos (by simp[Region.wanted,uA,hy])];exact .inl (run _ (λ_ h=>h) h)
        .rename_i R;rw[if_neg (by simp[Region.wanted,uA,hy,R])];exact KC h
       .rename_i U;have hy:=gT U;rw[if_neg (by simp[Region.wanted,uA,hy])];exact KC h
       .exact h.elim
      .cases hg
    .cases ad
   .cases ad
theorem KD (bk:C.eF) {ops:Array Oper} {ros:List b7} (rn:pj n ops ops.toList=some (ros.map b7.un)) {K:aw->Prop} (aU:∀aA cB aD,K aA->Rel w0 F0 X n ρ aA cB aD->Q .normal cB aD):
  ∀(l:ahw) (s:aw) (a:Act) (w:World),jT C ros s l K->Rel w0 F0 X n ρ s a w->wpOps C.P ops Q l a w:=by
 obtain⟨hl,pk⟩:=w7 rn;intro l s a w h aH;have:=Ee (Q:=Q) bk (ros:=ros) (ops:=ops) (l2:=[]) (K:=K) (n:=n) (ρ:=ρ) (w0:=w0) (F0:=F0) (X:=X) (λaA cB aD aq eu=>aU aA cB aD aq eu) l (λi _=>⟨λb1=>by
   rw[List.getElem?_eq_none_iff,<-List.length_map (f:=b7.un),<-hl];have:=Array.getElem?_eq_none_iff.1 b1;simpa using this,λo b1=>by
   obtain⟨ah,iS,ad⟩:=pk i o (by simpa using b1);obtain⟨r,ab,rfl⟩:∃r,ros[i]? =some r/\r.un=ah:=by simpa using iS
   exact⟨r,ab,ad⟩⟩) s a w h aH
 rwa [List.append_nil]at this
theorem Rel.drawn (h:Rel w0 F0 X n ρ s a w) (k:Nat) (aq:w.drawn<=k):Rel w0 F0 X n ρ s a {w with drawn:=k}:=by
 obtain⟨ab,ad,bd,F,S,aC⟩:=h;exact⟨ab,ad,bd,F,S,aC.grow (λ_ _=>rfl) (Nat.le_refl _) rfl rfl ⟨rfl,λ_=>aq⟩⟩
theorem Sy (bk:C.eF) {id:Nat} {ops:Array Oper} {ros:List b7} (rn:pj n ops ops.toList=some (ros.map b7.un)) {K:aw->Prop} (aU:∀aA cB aD,K aA->Rel w0 F0 X n ρ aA cB aD->Q .normal cB aD)
  (h:lp C s ros K) (aH:Rel w0 F0 X n ρ s a w):(Code.region id ops false).wp C.P Q a w:=by
 refine wp_region (KD bk rn aU _ s a w ?_ aH);have:=Si C K ros [] s h;have hl:=(w7 rn).1;simp only[List.nil_append,List.length_nil,Nat.add_zero,List.map_id']at this;rw[List.length_map]at hl;rw[<-hl]at this;simpa using this
end
def Eg (ov:ahu) (l:ahw):Prop:=
 l.Nodup/\(∀i,i∈l↔i<ov.length)/\∀u i v,l=u++i::v->∀e∈(ov[i]?).getD [],e∈u
def nL (ops:Array Oper):ahu:=ops.toList.map λo=>(o.after.toList.filter λe=>Region.binds .any e).map (·.on)
def w8 (ov:ahu):Bool:=ov.zipIdx.all λp=>p.1.all λe=>decide (e<p.2)
theorem Sz {ov:ahu} (h:w8 ov=true) {i:Nat} {l:ahw} (ak:ov[i]? =some l):∀e∈l,e<i:=by
 intro e he;simp only[w8,List.all_eq_true]at h;have:=h (l,i) (by rw[List.mem_zipIdx_iff_getElem?];exact ak) e he;simpa using this
theorem SA {ops:Array Oper} (R:w8 (nL ops)=true):∀(fuel t:Nat) (listed:Array Bool),listed.size=ops.size->((List.range ops.size).filter λi=> !listed.getD i true).length<=fuel->
  (Region.linearise.go .any ops fuel t listed []).Nodup/\(∀i,i∈Region.linearise.go .any ops fuel t listed []↔(i<ops.size/\listed.getD i true=false))/\
   ∀u i v,Region.linearise.go .any ops fuel t listed []=u++i::v->∀e∈((nL ops)[i]?).getD [],listed.getD e false=true\/e∈u:=by
 intro fuel;induction fuel with
 |zero=>
  intro t listed U hl;have wL:((List.range ops.size).filter λi=> !listed.getD i true)=[]:=List.length_eq_zero_iff.1 (le_zero.1 hl);refine⟨by simp[Region.linearise.go],λi=>?_,λu i v h=>by simp[Region.linearise.go]at h⟩;simp only[Region.linearise.go,List.reverse_nil,List.not_mem_nil,false_iff,not_and];intro ak bd;have:i∈((List.range ops.size).filter λi=> !listed.getD i true):=List.mem_filter.2 ⟨List.mem_range.2 ak,by rw[bd];rfl⟩;rw[wL]at this;cases this
 |succ fuel ih=>
  intro t listed U hl;have KE:∀i,i∈Region.ready .any ops listed↔(i<ops.size/\listed.getD i true=false/\∀e∈((nL ops)[i]?).getD [],listed.getD e false=true):=by
   intro i;simp only[Region.ready,List.mem_filter,List.mem_range,Bool.and_eq_true,Bool.not_eq_true'];constructor
   .rintro⟨ab,ad,aC⟩;refine⟨ab,ad,?_⟩;rw[Array.getElem?_eq_getElem ab]at aC;simp only[Option.map_some,Option.getD_some,Array.all_eq_true_iff_forall_mem]at aC;simp only[nL,List.getElem?_map,Array.getElem?_toList,Array.getElem?_eq_getElem ab,Option.map_some,Option.getD_some,List.mem_map,List.mem_filter];rintro e ⟨x,⟨ar,sG⟩,rfl⟩;have:=aC x (by simpa using ar);simpa [sG]using this
   .rintro⟨ab,ad,aC⟩;refine⟨ab,ad,?_⟩;rw[Array.getElem?_eq_getElem ab];simp only[Option.map_some,Option.getD_some,Array.all_eq_true_iff_forall_mem];simp only[nL,List.getElem?_map,Array.getElem?_toList,Array.getElem?_eq_getElem ab,Option.map_some,Option.getD_some,List.mem_map,List.mem_filter]at aC;intro x ar;cases sG:Region.binds .any x with
    |false=>simp
    |true=>simpa using aC x.on ⟨x,⟨by simpa using ar,sG⟩,rfl⟩
  have hex:(∃i,i<ops.size/\listed.getD i true=false)->Region.ready .any ops listed≠[]:=by
   rintro⟨i,ab,ad⟩;have:∃i,(i<ops.size/\listed.getD i true=false)/\∀j,j<i->¬(j<ops.size/\listed.getD j true=false):=by
    induction i using Nat.strongRecOn with
    |_ i SB=>
     by_cases bQ:∃j,j<i/\(j<ops.size/\listed.getD j true=false)
     .obtain⟨j,KF,w9,SC⟩:=bQ;exact SB j KF w9 SC
     .exact⟨i,⟨ab,ad⟩,λj SD ai=>bQ ⟨j,SD,ai⟩⟩
   obtain⟨k,⟨bN,cc⟩,eB⟩:=this;have:k∈Region.ready .any ops listed:=(KE k).2 ⟨bN,cc,λe he=>by
    cases bM:(nL ops)[k]? with
    |none=>rw[bM]at he;simp at he
    |some l=>
     rw[bM]at he;have ei:=Sz R bM e he;have:=eB e ei;rw[not_and]at this;have:=this (by omega);have mZ:e<listed.size:=by omega
     simp only[Array.getD_eq_getD_getElem?,Array.getElem?_eq_getElem mZ,Option.getD_some]at this⊢;simpa using this⟩
   intro e;rw[e]at this;cases this
  have KG:Region.linearise.go .any ops (fuel+1) t listed []=(match(Region.ready .any ops listed)[t%(Region.ready .any ops listed).length]? with
   |some i=>Region.linearise.go .any ops fuel (t/(Region.ready .any ops listed).length) (listed.setIfInBounds i true) [i]
   |none=>[]):=rfl
  cases w_:(Region.ready .any ops listed)[t%(Region.ready .any ops listed).length]? with
  |none=>
   have wL:Region.ready .any ops listed=[]:=by
    cases aH:Region.ready .any ops listed with
    |nil=>rfl
    |cons a l=>
     rw[aH]at w_;have:=List.getElem?_eq_none_iff.1 w_;have ad:=mod_lt t (show 0<(a::l).length by simp);omega
   rw[KG,w_];refine⟨by simp,λi=>?_,λu i v h=>by simp at h⟩;simp only[List.not_mem_nil,false_iff];intro ak;exact hex ⟨i,ak⟩ wL
  |some i=>
   have ak:=(KE i).1 (List.mem_of_getElem? w_);obtain⟨xa,KH,SE⟩:=ak;rw[KG,w_];simp only;rw[linearise_go_acc];simp only[List.reverse_singleton,List.singleton_append];have q5:∀j d,(listed.setIfInBounds i true).getD j d=if j=i then true else listed.getD j d:=by
    intro j d;split
    .rename_i e;subst e;simp[Array.getD_eq_getD_getElem?,Array.getElem?_setIfInBounds_self_of_lt (show j<listed.size by omega)]
    .rename_i e;simp[Array.getD_eq_getD_getElem?,Array.getElem?_setIfInBounds_ne (λh=>e h.symm)]
   obtain⟨g1,g2,g3⟩:=ih (t/(Region.ready .any ops listed).length) (listed.setIfInBounds i true) (by simpa using U) (by
    have e2:((List.range ops.size).filter λj=> !(listed.setIfInBounds i true).getD j true)=((List.range ops.size).filter λi=> !listed.getD i true).filter λj=>decide (j≠i):=by
     rw[List.filter_filter];apply List.filter_congr;intro j _;rw[q5];by_cases e:j=i<;>simp[e]
    rw[e2];have ei:(((List.range ops.size).filter λi=> !listed.getD i true).filter λj=>decide (j≠i)).length<((List.range ops.size).filter λi=> !listed.getD i true).length:=by
     rw[List.length_filter_lt_length_iff_exists];exact⟨i,List.mem_filter.2 ⟨List.mem_range.2 xa,by rw[KH];rfl⟩,by simp⟩
    omega)
   refine⟨?_,λj=>?_,?_⟩
   .rw[List.nodup_cons];refine⟨λhm=>?_,g1⟩;have:=((g2 i).1 hm).2;rw[q5,if_pos rfl]at this;cases this
   .rw[List.mem_cons,g2,q5];by_cases e:j=i
    .subst e;simp[xa,KH]
    .simp[e]
   .intro u j v h e he;cases u with
    |nil=>
     simp only[List.nil_append,List.cons.injEq]at h;obtain⟨rfl,rfl⟩:=h;exact .inl (SE e he)
    |cons z_ u=>
     simp only[List.cons_append,List.cons.injEq]at h;obtain⟨rfl,h⟩:=h;rcases g3 u j v h e he with bc|bc
     .rw[q5]at bc;split at bc
      .rename_i fV;subst fV;exact .inr (by simp)
      .exact .inl bc
     .exact .inr (by simp[bc])
theorem SF {ops:Array Oper} (R:w8 (nL ops)=true) (t:Nat):Eg (nL ops) (Region.linearise .any ops t):=by
 have KI:∀i d,i<ops.size->(Array.replicate ops.size false).getD i d=false:=by
  intro i d ak;simp[Array.getD_eq_getD_getElem?,ak]
 obtain⟨g1,g2,g3⟩:=SA R ops.size t (Array.replicate ops.size false) (by simp) (by
  have:=List.length_filter_le (λi=> !(Array.replicate ops.size false).getD i true) (List.range ops.size);simpa using this)
 have hlen:(nL ops).length=ops.size:=by simp[nL]
 refine⟨g1,λi=>?_,λu i v h e he=>?_⟩
 .rw[hlen];rw[show Region.linearise .any ops t=Region.linearise.go .any ops ops.size t (Array.replicate ops.size false) []from rfl,g2];exact⟨λh=>h.1,λh=>⟨h,KI i true h⟩⟩
 .rcases g3 u i v h e he with bc|bc
  .exfalso;by_cases KJ:e<ops.size
   .rw[KI e false KJ]at bc;cases bc
   .simp[Array.getD_eq_getD_getElem?,KJ]at bc
  .exact bc
def ax:ahA->aw
 |[],_=>.hole
 |(u,d)::l,t=>if t=u then d else ax l t
mutual
inductive eP:I->I->Prop
 |refl (d:I):eP d d
 |hQ (sz:Nat):eP .bf (.ao sz [])
 |uB:eP .bf (.slice [])
 |any (b:Bool):eP (.bool b) .fw
 |share (d:I):d.tree=true->(∀vs,d≠.tuple vs)->(∀o,d≠.dK o)->(∀f c,d≠.fD f c)->eP d d.share
 |agg {ds es:ahB}:jU ds es->eP (.agg ds) (.agg es)
 |a1 {d e:I}:eP d e->eP (.a1 d) (.a1 e)
 |ao {sz:Nat} {ds es:ahB}:jU ds es->eP (.ao sz ds) (.ao sz es)
 |tuple {ds es:ahB}:jU ds es->eP (.tuple ds) (.tuple es)
 |ref {d e:I}:eP d e->eP (.ref d) (.ref e)
 |trans {d e f:I}:eP d e->eP e f->eP d f
inductive jU:ahB->ahB->Prop
 |nil:jU [] []
 |cons {d e:I} {ds es:ahB}:eP d e->jU ds es->jU (d::ds) (e::es)
end
mutual
theorem eP.wd:∀{d e:I},eP d e->e.wd=d.wd
 |_,_,.refl _=>rfl
 |_,_,.hQ _=>rfl
 |_,_,.uB=>rfl
 |_,_,.any _=>rfl
 |_,_,.share d _ _ _ _=>I.zq d
 |_,_,.agg h=>by simp only[I.wd];exact jU.wd h
 |_,_,.a1 _=>rfl
 |_,_,.ao _=>rfl
 |_,_,.tuple h=>by simp only[I.wd];exact jU.wd h
 |_,_,.ref _=>rfl
 |_,_,.trans h k=>(eP.wd k).trans (eP.wd h)
theorem jU.wd:∀{ds es:ahB},jU ds es->I.dT es=I.dT ds
 |_,_,.nil=>rfl
 |_,_,.cons h U=>by simp only[I.dT];rw[eP.wd h,jU.wd U]
end
theorem jU.len {ds es:ahB} (h:jU ds es):es.length=ds.length:=by
 induction ds generalizing es with
 |nil=>cases h;rfl
 |cons d ds ih=>cases h with|cons h U=>simp[ih U]
theorem jU.all {sz:Nat} {ds es:ahB} (h:jU ds es) (ae:∀d∈ds,d.wd=sz):∀d∈es,d.wd=sz:=by
 induction ds generalizing es with
 |nil=>cases h;intro d ae;cases ae
 |cons d ds ih=>
  cases h with
  |cons h U=>
   intro x ar;rcases List.mem_cons.1 ar with rfl|ar
   .rw[h.wd];exact ae d (by simp)
   .exact ih U (λd hm=>ae d (by simp[hm])) x ar
section
variable {w0 w:World} {F0 X F:Nat->Prop} {S:Nat->Nat->Prop} {s aA:aw} {ay:Nat->Value}
def SG (w:World) (F:Nat->Prop) (_d e:I) (cs:ahz) (S:Nat->Prop):Prop:=
 ∃hR hS:Nat->Prop,(∀b,hR b->S b)/\(∀b,hS b->S b)/\(∀b,hS b->¬hR b)/\∀bE,(∀b,F b\/hR b->bE b)->au w bE e cs hS
mutual
theorem au.wider:∀{d e:I},eP d e->∀{F:Nat->Prop} {cs:ahz} {S:Nat->Prop},au w F d cs S->SG w F d e cs S
 |_,_,.refl _,F,cs,S,h=>⟨λ_=>False,S,λ_ h=>h.elim,λ_ h=>h,λ_ _ h=>h,λbE a8=>au.mono (λb R=>a8 b (.inl R)) _ _ _ _ (λ_ h=>h) h⟩
 | .bf,_,.hQ sz,F,cs,S,h=>⟨λ_=>False,S,λ_ h=>h.elim,λ_ h=>h,λ_ _ h=>h,λbE a8=>by simp only[au]at h⊢;exact .inl ⟨trivial,_,h⟩⟩
 | .bf,_,.uB,F,cs,S,h=>⟨λ_=>False,S,λ_ h=>h.elim,λ_ h=>h,λ_ _ h=>h,λbE a8=>by simp only[au]at h⊢;exact .inl ⟨trivial,none,0,h,zero_le _,λ_=>rfl⟩⟩
 | .bool _,_,.any b,F,cs,S,h=>⟨λ_=>False,S,λ_ h=>h.elim,λ_ h=>h,λ_ _ h=>h,λbE a8=>by simp only[au]at h⊢;exact⟨b,h⟩⟩
 |_,_,.share d _ _ _ _,F,cs,S,h=>⟨S,λ_=>False,λ_ h=>h,λ_ h=>h.elim,λ_ h=>h.elim,λbE a8=>au.shared (λb R=>a8 b (.inl R)) d cs S (λb R=>a8 b (.inr R)) h⟩
 |_,_,.agg jn,F,cs,S,h=>by
  rw[au]at h;obtain⟨hR,hS,ab,ad,aC,aW⟩:=aZ.wider jn h;exact⟨hR,hS,ab,ad,aC,λbE a8=>by rw[au];exact aW bE a8⟩
 |_,_,.a1 ae,F,cs,S,h=>by
  rw[au]at h;obtain⟨b,cur,ty,fr,aN,bN,cc,eB,dB,e6,cZ,iW⟩:=h;obtain⟨hR,hS,ab,ad,aC,aW⟩:=au.wider ae e6;refine⟨hR,λc=>c=b\/hS c,λc ai=>cZ c (ab c ai),?_,?_,λbE a8=>?_⟩
  .rintro c (rfl|ai)
   .exact cc
   .exact cZ c (ad c ai)
  .rintro c (rfl|ai) bd
   .exact iW (ab _ bd)
   .exact aC c ai bd
  .rw[au];exact⟨b,cur,ty,fr,hS,bN,.inl rfl,eB,dB,aW bE a8,λc ai=>.inr ai,λai=>iW (ad _ ai)⟩
 | .ao sz ds,.ao _ es,.ao jn,F,cs,S,h=>by
   rw[au]at h;have hl:=jn.len;rcases h with⟨ab,ad⟩|⟨b,cap,cur,ty,fr,aN,bN,cc,eB,dB,e6,cZ,iW,fF,l_,mT,KK⟩
   .refine⟨λ_=>False,S,λ_ h=>h.elim,λ_ h=>h,λ_ _ h=>h,λbE _=>?_⟩;rw[au];subst ab;exact .inl ⟨List.length_eq_zero_iff.1 (by simpa using hl),ad⟩
   .obtain⟨hR,hS,ab,ad,aC,aW⟩:=aZ.wider jn l_;refine⟨hR,λc=>c=b\/hS c,λc ai=>mT c (ab c ai),?_,?_,λbE a8=>?_⟩
    .rintro c (rfl|ai)
     .exact cc
     .exact mT c (ad c ai)
    .rintro c (rfl|ai) bd
     .exact KK (ab _ bd)
     .exact aC c ai bd
    .rw[au];refine .inr ⟨b,cap,cur,ty,fr,hS,by rw[hl];exact bN,.inl rfl,eB,dB,by rw[hl];exact e6,cZ,iW,jn.all fF,by rw[hl];exact aW bE a8,λc ai=>.inr ai,λai=>KK (ad _ ai)⟩
 |_,_,.tuple jn,F,cs,S,h=>by
  rw[au]at h;obtain⟨hR,hS,ab,ad,aC,aW⟩:=aZ.wider jn h;exact⟨hR,hS,ab,ad,aC,λbE a8=>by rw[au];exact aW bE a8⟩
 |_,_,.ref ae,F,cs,S,h=>by
  rw[au]at h;obtain⟨b,o,eh,ab,ad,aC,aW⟩:=h;obtain⟨hR,hS,bN,cc,eB,dB⟩:=au.wider ae aW;refine⟨λ_=>False,S,λ_ h=>h.elim,λ_ h=>h,λ_ _ h=>h,λbE a8=>?_⟩;rw[au];exact⟨b,o,eh,ab,a8 _ (.inl ad),aC,au.mono (λ_ h=>h) _ _ _ _ (λb R=>cc b R) (dB bE λb R=>a8 b (R.imp id λh=>(bN b h).elim))⟩
 |_,_,.trans ae he,F,cs,S,h=>by
  obtain⟨hR,hS,ab,ad,aC,aW⟩:=au.wider ae h;obtain⟨Eh,Aa,bN,cc,eB,dB⟩:=au.wider he (F:=λb=>F b\/hR b) (aW _ λ_ h=>h);refine⟨λb=>hR b\/Eh b,Aa,?_,λb R=>ad b (cc b R),?_,λbE a8=>dB bE λb R=>?_⟩
  .rintro b (h|h)
   .exact ab b h
   .exact ad b (bN b h)
  .rintro b R (h|h)
   .exact aC b (cc b R) h
   .exact eB b R h
  .rcases R with(R|R)|R
   .exact a8 b (.inl R)
   .exact a8 b (.inr (.inl R))
   .exact a8 b (.inr (.inr R))
theorem aZ.wider:∀{ds es:ahB},jU ds es->∀{F:Nat->Prop} {cs:ahz} {S:Nat->Prop},aZ w F ds cs S->
  ∃hR hS:Nat->Prop,(∀b,hR b->S b)/\(∀b,hS b->S b)/\(∀b,hS b->¬hR b)/\∀bE,(∀b,F b\/hR b->bE b)->aZ w bE es cs hS
 |_,_,.nil,F,cs,S,h=>⟨λ_=>False,λ_=>False,λ_ h=>h.elim,λ_ h=>h.elim,λ_ h=>h.elim,λbE a8=>by rw[aZ]at h⊢;exact h⟩
 |_,_,.cons ae jn,F,cs,S,h=>by
  rw[aZ]at h;obtain⟨b2,c2,b3,dh,rfl,g2,g3,g4,g5,g6⟩:=h;obtain⟨SH,KL,J,a2,a3,a4⟩:=au.wider ae g2;obtain⟨Eh,Aa,iC,gA,iE,bO⟩:=aZ.wider jn g3;refine⟨λb=>SH b\/Eh b,λb=>KL b\/Aa b,?_,?_,?_,λbE a8=>?_⟩
  .rintro b (h|h)
   .exact g4 b (J b h)
   .exact g5 b (iC b h)
  .rintro b (h|h)
   .exact g4 b (a2 b h)
   .exact g5 b (gA b h)
  .rintro b (h|h) (bc|bc)
   .exact a3 b h bc
   .exact g6 b (a2 b h) (iC b bc)
   .exact g6 b (J b bc) (gA b h)
   .exact iE b h bc
  .rw[aZ];refine⟨b2,c2,KL,Aa,rfl,a4 bE (λb R=>a8 b (R.imp id .inl)),bO bE (λb R=>a8 b (R.imp id .inr)),λb R=>.inl R,λb R=>.inr R,λb ab ad=>g6 b (a2 b ab) (gA b ad)⟩
end
theorem eP.Ab:∀{d e:I},eP d e->(∀vs,d≠.tuple vs)->∀vs,e≠.tuple vs
 |_,_,.refl _,h=>h
 |_,_,.hQ _,_=>λ_ h=>by cases h
 |_,_,.uB,_=>λ_ h=>by cases h
 |_,_,.any _,_=>λ_ h=>by cases h
 |_,_,.share d _ _ _ _,h=>λvs he=>by cases d<;>first|(cases he;done)|exact h _ rfl
 |_,_,.agg _,_=>λ_ h=>by cases h
 |_,_,.a1 _,_=>λ_ h=>by cases h
 |_,_,.ao _,_=>λ_ h=>by cases h
 |_,_,.tuple _,h=>λ_ _=>h _ rfl
 |_,_,.ref _,_=>λ_ h=>by cases h
 |_,_,.trans h k,aU=>eP.Ab k (eP.Ab h aU)
theorem eP.h4:∀{d e:I} {v:Value},eP d e->(∀vs,d≠.tuple vs)->c_.h4 d v->c_.h4 e v
 |_,_,_,.refl _,_,h=>h
 |_,_,_,.hQ _,_,h=>h
 |_,_,_,.uB,_,h=>h
 |_,_,_,.any _,_,h=>h
 |_,_,_,.share d _ aU _ _,_,h=>by cases d<;>first|exact h|exact(aU _ rfl).elim
 |_,_,_,.agg _,_,h=>h
 |_,_,_,.a1 _,_,h=>h
 |_,_,_,.ao _,_,h=>h
 |_,_,_,.tuple _,aU,_=>(aU _ rfl).elim
 |_,_,_,.ref _,_,h=>h
 |_,_,_,.trans h k,aU,U=>eP.h4 k (eP.Ab h aU) (eP.h4 h aU U)
theorem jU.get:∀{ds es:ahB},jU ds es->∀(k:Nat) (e:I),es[k]? =some e->∃d,ds[k]? =some d/\eP d e
 |_,_,.nil,k,e,h=>by simp at h
 |_,_,.cons ae U,0,e,h=>by simp at h;subst h;exact⟨_,rfl,ae⟩
 |_,_,.cons ae U,k+1,e,h=>jU.get U k e (by simpa using h)
theorem eP.dz:∀{d e:I} {v:Value},eP d e->c_.dz d v->c_.dz e v
 |_,_,_,.refl _,U=>U
 |_,_,_,.hQ _,U=>U
 |_,_,_,.uB,U=>U
 |_,_,_,.any _,U=>U
 |_,_,_,.share _ _ my _ _,U=>D3 my U
 |_,_,_,.agg _,U=>U
 |_,_,_,.a1 _,U=>U
 |_,_,_,.ao _,U=>U
 |_,_,_,.ref _,U=>U
 |_,_,_,.tuple ae,U=>by
  obtain⟨arr,ab,ad,aC⟩:=U;refine⟨arr,ab,ad.trans ae.len.symm,λk e x he ar=>?_⟩;obtain⟨d,aq,hw⟩:=ae.get k e he;obtain⟨J,a2,a3⟩:=aC k d x aq ar;exact⟨hw.h4 a2 J,hw.Ab a2,a3.trans hw.wd.symm⟩
 |_,_,_,.trans h k,U=>eP.dz k (eP.dz h U)
theorem eP.tree:∀{d e:I},eP d e->d.tree=true->e.tree=true
 |_,_,.refl _,ae=>ae
 |_,_,.hQ _,_=>rfl
 |_,_,.uB,_=>rfl
 |_,_,.any _,_=>rfl
 |_,_,.share d _ _ jC D4,ae=>by cases d<;>first|exact ae|rfl|exact(jC _ rfl).elim|exact(D4 _ _ rfl).elim
 |_,_,.agg _,_=>rfl
 |_,_,.a1 _,_=>rfl
 |_,_,.ao _,_=>rfl
 |_,_,.tuple _,_=>rfl
 |_,_,.ref _,_=>rfl
 |_,_,.trans h k,ae=>eP.tree k (eP.tree h ae)
mutual
def I.sO:I->ahw
 | .h x q=>if q.isEmpty then []else [x]
 | .an x _=>[x]
 | .R x _=>[x]
 | .fn _ cap=>I.xb cap
 |_=>[]
def I.xb:ahB->ahw
 |[]=>[]
 |d::ds=>d.sO++I.xb ds
end
def xc (s aA:aw) (x:Nat) (D:ahw):Prop:=aA x=s x\/aA x= .hole\/((s x).own=true/\(aA x).own=true/\x∉D)
theorem xc.less {s aA:aw} {x:Nat} {D E:ahw} (h:xc s aA x D) (Ei:∀u∈E,u∈D):xc s aA x E:=by
 rcases h with h|h|⟨ab,ad,aC⟩
 .exact .inl h
 .exact .inr (.inl h)
 .exact .inr (.inr ⟨ab,ad,λar=>aC (Ei x ar)⟩)
theorem aF.keep {bE:Nat->Prop} (a8:∀b,F b->bE b):∀n,(∀(d:I) (v:Value) (dy:Nat->Prop),SizeOf.sizeOf d<=n->(∀x∈d.U,xc s aA x d.sO)->aF w F s ay d v dy->aF w bE aA ay d v dy)/\
  (∀(ds:ahB) (vs:ahz),SizeOf.sizeOf ds<=n->(∀x∈I.dN ds,xc s aA x (I.xb ds))->dP w F s ay ds vs->dP w bE aA ay ds vs):=by
 intro n;induction n with
 |zero=>
  refine⟨λd v dy bR=>?_,λds vs bR=>?_⟩
  .cases d<;>simp at bR<;>omega
  .cases ds<;>simp at bR<;>omega
 |succ n ih=>
  refine⟨λd v dy bR aq h=>?_,λds vs bR aq h=>?_⟩
  .cases d with
   |hole=>rw[aF];trivial
   |h x q=>
    rw[aF]at h⊢;intro e e2 an;rcases aq x (by simp[I.U])with he|he|⟨xd,Ac,uC⟩
    .rw[he]at e2⊢;exact h e e2 an
    .rw[he]at e2;cases q with
     |nil=>simp only[I.sub,Option.some.injEq]at e2;subst e2;simp[I.plain]at an
     |cons k q=>simp[I.sub]at e2
    .cases q with
     |nil=>
      simp only[I.sub,Option.some.injEq]at e2;subst e2;obtain⟨cD,a0,fl,gJ,h3⟩:=h (s x) (by simp only[I.sub]) (sK xd).1;simp only[dc,Option.some.injEq,Prod.mk.injEq,true_and]at fl;exact⟨b8 (ay x),none,by simp only[dc],by rw[gJ,<-fl.1],((sK Ac).2.2.2.2.2 _).2 (((sK xd).2.2.2.2.2 _).1 h3)⟩
     |cons k q=>exact(uC (by simp[I.sO])).elim
   |an x q=>
    rw[aF]at h⊢;intro e e2 ai;rcases aq x (by simp[I.U])with he|he|⟨_,_,uC⟩
    .rw[he]at e2 ai⊢;exact h e e2 ai
    .rw[he]at ai;cases q<;>simp[I.fm]at ai
    .exact(uC (by simp[I.sO])).elim
   |R x k=>
    rw[aF]at h⊢;intro an;rcases aq x (by simp[I.U])with he|he|⟨_,_,uC⟩
    rotate_left 2
    .exact(uC (by simp[I.sO])).elim
    .rw[he]at an;obtain⟨b,cur,e,fr,ab,ad,aC,aW⟩:=h an;exact⟨b,cur,e,fr,ab,a8 b ad,aC,aW⟩
    .rw[he]at an;simp[I.plain]at an
   |fn f cap=>
    rw[aF]at h⊢;obtain⟨arr,rfl,ai⟩:=h;exact⟨arr,rfl,ih.2 _ _ (by simp at bR;omega) (by simpa [I.U,I.sO]using aq) ai⟩
   |_=>
    have bc:=(aF.cr rfl).1 h;exact(aF.cr rfl).2 ⟨bc.1,au.mono a8 _ _ _ _ (λ_ h=>h) bc.2⟩
  .cases ds with
   |nil=>rw[dP]at h⊢;exact h
   |cons d ds=>
    rw[dP]at h⊢;obtain⟨v,jB,rfl,ab,ad⟩:=h;simp at bR;simp only[I.dN,List.mem_append]at aq;exact⟨v,jB,rfl,ih.1 _ _ _ (by omega) (λx ar=>(aq x (.inl ar)).less λu hu=>by simp[I.xb,hu]) ab,ih.2 _ _ (by omega) (λx ar=>(aq x (.inr ar)).less λu hu=>by simp[I.xb,hu]) ad⟩
def uD (s:aw) (l:ahA):Prop:=
 ∀p∈l,p.2=s p.1\/((s p.1).tree=true/\eP (s p.1) p.2/\∀cv∈l,p.1∉cv.2.U\/((s p.1).own=true/\p.2.own=true/\p.1∉cv.2.sO))
theorem KM:∀(l:ahA) (t:Nat),ax l t= .hole\/∃p∈l,p.1=t/\ax l t=p.2:=by
 intro l;induction l with
 |nil=>intro t;exact .inl rfl
 |cons p l ih=>
  intro t;obtain⟨u,d⟩:=p;simp only[ax];split
  .rename_i e;exact .inr ⟨(u,d),by simp,e.symm,rfl⟩
  .rcases ih t with h|⟨p,an,h⟩
   .exact .inl h
   .exact .inr ⟨p,by simp[an],h⟩
theorem bx.KN (h:bx w0 F0 X F S s ay w) {l:ahA} (hw:uD s l):∃bE aN,bx w0 F0 X bE aN (ax l) ay w:=by
 have each:∀t,∃hR hS:Nat->Prop,(∀b,hR b->S t b)/\(∀b,hS b->S t b)/\(∀b,hS b->¬hR b)/\∀bE,(∀b,F b\/hR b->bE b)->aF w bE (ax l) ay (ax l t) (ay t) hS:=by
  intro t;rcases KM l t with e|⟨p,an,rfl,e⟩
  .exact⟨λ_=>False,λ_=>False,λ_ h=>h.elim,λ_ h=>h.elim,λ_ h=>h.elim,λbE _=>by rw[e,aF];trivial⟩
  .rw[e];rcases hw p an with aq|⟨aY,jO,_⟩
   .refine⟨λ_=>False,S p.1,λ_ h=>h.elim,λ_ h=>h,λ_ _ h=>h,λbE a8=>?_⟩;rw[aq];refine(aF.keep (λb R=>a8 b (.inl R)) (SizeOf.sizeOf (s p.1))).1 _ _ _ (Nat.le_refl _) ?_ (h.cW p.1);intro x ar;rcases KM l x with fV|⟨cv,ev,rfl,fV⟩
    .exact .inr (.inl fV)
    .rcases hw cv ev with kV|⟨_,_,jC⟩
     .exact .inl (fV.trans kV)
     .rcases jC p an with jC|⟨lR,jR,oq⟩
      .exact(jC (by rw[aq];exact ar)).elim
      .exact .inr (.inr ⟨lR,by rw[fV];exact jR,by rw[aq]at oq;exact oq⟩)
   .obtain⟨g1,g2⟩:=(aF.cr aY).1 (h.cW p.1);obtain⟨hR,hS,bN,cc,eB,dB⟩:=au.wider jO g2;exact⟨hR,hS,bN,cc,eB,λbE a8=>(aF.cr (jO.tree aY)).2 ⟨jO.dz g1,dB bE a8⟩⟩
 have b2:=λt=>(each t).choose_spec;let hR:=λt=>(each t).choose
 have c2:=λt=>(b2 t).choose_spec;let hS:=λt=>(b2 t).choose
 have fA:∀t b,hR t b->S t b:=λt=>(c2 t).1;have fp:∀t b,hS t b->S t b:=λt=>(c2 t).2.1;have gX:∀t b,hS t b->¬hR t b:=λt=>(c2 t).2.2.1;have hv:=λt=>(c2 t).2.2.2;refine⟨λb=>F b\/∃t,hR t b,hS,λb R=>.inl (h.gq b R),?_,?_,λt b R=>h.et t b (fp t b R),?_,λt u b cO R hu=>h.eT t u b cO (fp t b R) (fp u b hu),λt b R=>h.dy t b (fp t b R),?_,h.old,h.size,h.os,h.tape,h.output,h.fW⟩
 .rintro b (R|⟨t,R⟩)
  .exact h.gK b R
  .exact .inr (h.dy t b (fA t b R))
 .rintro b (R|⟨t,R⟩)
  .exact h.eK b R
  .exact h.et t b (fA t b R)
 .rintro t b R (bd|⟨u,hu⟩)
  .exact h.fg t b (fp t b R) bd
  .by_cases e:t=u
   .subst e;exact gX t b R hu
   .exact h.eT t u b e (fp t b R) (fA u b hu)
 .intro t;exact hv t _ (λb R=>R.imp id λh=>⟨t,h⟩)
end
inductive aG where
 |skip
 |fq (ros:List b7) (keep:Option ahw)
 |iY (ros:List b7) (ov:ahu) (keep:Option ahw)
 |seq (a b:aG)
 |cond (c:bb) (a b:aG)
 |block (id:Nat) (b:aG)
 |loop (b:aG)
 |exit (id:Nat)
 |ret
 |iv (T:(Exit->aw->Prop)->aw->Prop) (b:aG)
 |raw (c:Code)
def eQ (n:Fr):Code->Option aG
 | .skip=>some .skip
 | .region id ops false=>match pj n ops ops.toList with
   |some r=>some (.fq r none)
   |none=>some (.raw (.region id ops false))
 | .region _ ops true=>if w8 (nL ops)=true then(pj n ops ops.toList).map λr=>.iY r (nL ops) none else none
 | .seq a b=>match eQ n a,eQ n b with
   |some a,some b=>some (.seq a b)
   |_,_=>none
 | .cond c a b=>match dt c,eQ n a,eQ n b with
   |some c,some a,some b=>some (.cond c a b)
   |_,_,_=>none
 | .block id b=>(eQ n b).map (.block id)
 | .loop b=>(eQ n b).map .loop
 | .exit id=>some (.exit id)
 | .ret=>some .ret
 |_=>none
def aG.kC:aG->aG
 | .fq ros _=>.fq ros none
 | .iY ros ew _=>.iY ros ew none
 | .seq a b=>.seq a.kC b.kC
 | .cond c a b=>.cond c a.kC b.kC
 | .block id b=>.block id b.kC
 | .loop b=>.loop b.kC
 | .iv T b=>.iv T b.kC
 |c=>c
def aG.strip:aG->aG
 | .fq ros _=>.fq (ros.map b7.un) none
 | .iY ros ew _=>.iY (ros.map b7.un) ew none
 | .seq a b=>.seq a.strip b.strip
 | .cond c a b=>.cond c a.strip b.strip
 | .block id b=>.block id b.strip
 | .loop b=>.loop b.strip
 | .iv _ b=>b.strip
 |c=>c
theorem aG.Ej:∀c:aG,c.kC.strip=c.strip:=by
 intro c;induction c with
 |seq a b jV jW=>simp only[aG.kC,aG.strip,jV,jW]
 |cond c a b jV jW=>simp only[aG.kC,aG.strip,jV,jW]
 |block id b ih=>simp only[aG.kC,aG.strip,ih]
 |loop b ih=>simp only[aG.kC,aG.strip,ih]
 |iv T b ih=>simp only[aG.kC,aG.strip,ih]
 |_=>rfl
def aG.bare (H:((Exit->aw->Prop)->aw->Prop)->aG->Prop):aG->Prop
 | .fq _ k=>k=none
 | .iY _ _ k=>k=none
 | .seq a b=>a.bare H/\b.bare H
 | .cond _ a b=>a.bare H/\b.bare H
 | .block _ b=>b.bare H
 | .loop b=>b.bare H
 | .iv T b=>H T b
 |_=>True
def aG.mC (H:((Exit->aw->Prop)->aw->Prop)->aG->Prop):aG->Prop
 | .seq a b=>a.mC H/\b.mC H
 | .cond _ a b=>a.mC H/\b.mC H
 | .block _ b=>b.mC H
 | .loop b=>b.mC H
 | .iv T b=>H T b.kC
 |_=>True
theorem aG.Ad {H:((Exit->aw->Prop)->aw->Prop)->aG->Prop}:∀c:aG,c.mC H->c.kC.bare H:=by
 intro c;induction c with
 |seq a b jV jW=>intro h;exact⟨jV h.1,jW h.2⟩
 |cond c a b jV jW=>intro h;exact⟨jV h.1,jW h.2⟩
 |block id b ih=>intro h;exact ih h
 |loop b ih=>intro h;exact ih h
 |fq=>intro _;rfl
 |iY=>intro _;rfl
 |iv T b _=>intro h;exact h
 |_=>intro _;trivial
def aG.plain:aG->Bool
 | .seq a b=>a.plain&&b.plain
 | .cond _ a b=>a.plain&&b.plain
 | .block _ b=>b.plain
 | .loop b=>b.plain
 | .iv _ _=>false
 |_=>true
theorem aG.KO {H:((Exit->aw->Prop)->aw->Prop)->aG->Prop}:∀c:aG,c.plain=true->c.mC H:=by
 intro c;induction c with
 |seq a b jV jW=>intro h;simp only[aG.plain,Bool.and_eq_true]at h;exact⟨jV h.1,jW h.2⟩
 |cond c a b jV jW=>intro h;simp only[aG.plain,Bool.and_eq_true]at h;exact⟨jV h.1,jW h.2⟩
 |block id b ih=>intro h;exact ih h
 |loop b ih=>intro h;exact ih h
 |iv T b _=>intro h;cases h
 |_=>intro _;trivial
def andThen (K:aw->Prop) (Q:Exit->aw->Prop):Exit->aw->Prop
 | .normal,s=>K s
 |e,s=>Q e s
def uE (id:Nat) (Q:Exit->aw->Prop):Exit->aw->Prop
 | .exit i,s=>if i=id then Q .normal s else Q (.exit i) s
 |e,s=>Q e s
def dR (K:aw->Prop) (s:aw):Prop:=K s\/∃l,uD s l/\K (ax l)
def xe:Option ahw->(aw->Prop)->aw->Prop
 |none,K,s=>dR K s
 |some k,K,s=>K (ax (k.map λt=>(t,s t)))
def a_ (C:bW):aG->(Exit->aw->Prop)->aw->Prop
 | .skip,Q,s=>Q .normal s
 | .fq ros keep,Q,s=>lp C s ros (xe keep (Q .normal))
 | .iY ros ov keep,Q,s=>∀l,Eg ov l->jT C ros s l (xe keep (Q .normal))
 | .seq a b,Q,s=>a_ C a (andThen (dR (a_ C b Q)) Q) s
 | .cond c a b,Q,s=>match bj s c with
   | .bool ff=>if ff=true then a_ C a Q s else a_ C b Q s
   | .fw=>a_ C a Q s/\a_ C b Q s
   |_=>False
 | .block id b,Q,s=>a_ C b (uE id Q) s
 | .loop b,Q,s=>dR (λs=>∀Z:aw->Prop,(∀aA,a_ C b (andThen (dR Z) Q) aA->Z aA)->Z s) s
 | .exit id,Q,s=>Q (.exit id) s
 | .ret,Q,s=>Q .ret s
 | .iv T _,Q,s=>∀ed:Exit->aw->Prop,(∀e s,Q e s->ed e s)->T ed s
 | .raw _,_,_=>False
section
variable {C:bW}
theorem Ek {s:aw} {o:b7} {K de:aw->Prop} (h:lS C s o K) (aq:∀s,K s->de s):lS C s o de:=by
 unfold lS at h⊢;split
 .rename_i hg;rw[hg]at h;exact z1 h λav s1=>aq _
 .rename_i t b hg;rw[hg]at h;simp only at h;split
  .rename_i ff U;rw[U]at h;simp only at h;split
   .rename_i R;rw[if_pos R]at h;exact z1 h λav s1=>aq _
   .rename_i R;rw[if_neg R]at h;exact aq _ h
  .rename_i U;rw[U]at h;exact aq _ h
  .rename_i ab ad;split at h
   .exact ab _ (by assumption)
   .exact ad (by assumption)
   .exact h
theorem KP {K de:aw->Prop} (aq:∀s,K s->de s):∀{ros:List b7} {s:aw},lp C s ros K->lp C s ros de:=by
 intro ros;induction ros with
 |nil=>intro s h;exact aq s h
 |cons o ros ih=>intro s h;exact Ek h λs h=>ih h
theorem KQ {ros:List b7} {K de:aw->Prop} (aq:∀s,K s->de s):∀{l:ahw} {s:aw},jT C ros s l K->jT C ros s l de:=by
 intro l;induction l with
 |nil=>intro s h;exact aq s h
 |cons i l ih=>
  intro s h;simp only[jT]at h⊢;split
  .rename_i b1;rw[b1]at h;exact ih h
  .rename_i o b1;rw[b1]at h;exact Ek h λs h=>ih h
theorem uF {K de:aw->Prop} (aq:∀s,K s->de s) (s:aw) (h:dR K s):dR de s:=
 h.imp (aq s) λ⟨l,ab,ad⟩=>⟨l,ab,aq _ ad⟩
theorem KR {keep:Option ahw} {K de:aw->Prop} (aq:∀s,K s->de s) (s:aw) (h:xe keep K s):xe keep de s:=by
 cases keep with
 |none=>exact uF aq s h
 |some k=>exact aq _ h
theorem KS {keep:Option ahw} {K:aw->Prop} {s:aw} (h:xe keep K s):dR K s:=by
 cases keep with
 |none=>exact h
 |some k=>
  refine .inr ⟨_,?_,h⟩;intro p an;obtain⟨t,_,rfl⟩:=List.mem_map.1 an;exact .inl rfl
theorem El {K de:aw->Prop} {Q ed:Exit->aw->Prop} (aq:∀s,K s->de s) (b_:∀e s,Q e s->ed e s):∀e s,andThen K Q e s->andThen de ed e s:=by
 intro e s h;cases e with
 |normal=>exact aq s h
 |_=>exact b_ _ s h
theorem Em:∀(c:aG) {Q ed:Exit->aw->Prop} {s:aw},(∀e s,Q e s->ed e s)->a_ C c Q s->a_ C c ed s:=by
 intro c;induction c with
 |skip=>intro Q ed s b_ h;exact b_ _ _ h
 |fq ros keep=>intro Q ed s b_ h;exact KP (KR (b_ _)) h
 |iY ros ov keep=>intro Q ed s b_ h l hl;exact KQ (KR (b_ _)) (h l hl)
 |seq a b jV jW=>
  intro Q ed s b_ h;exact jV (El (λs h=>uF (λ_ h=>jW b_ h) s h) b_) h
 |cond c a b jV jW=>
  intro Q ed s b_ h;simp only[a_]at h⊢;split
  .rename_i ff R;rw[R]at h;simp only at h;split
   .rename_i e;rw[if_pos e]at h;exact jV b_ h
   .rename_i e;rw[if_neg e]at h;exact jW b_ h
  .rename_i R;rw[R]at h;exact⟨jV b_ h.1,jW b_ h.2⟩
  .rename_i ab ad;split at h
   .exact ab _ (by assumption)
   .exact ad (by assumption)
   .exact h
 |block id b ih=>
  intro Q ed s b_ h;refine ih ?_ h;intro e s h;cases e with
  |exit i=>
   simp only[uE]at h⊢;split
   .rename_i e;rw[if_pos e]at h;exact b_ _ _ h
   .rename_i e;rw[if_neg e]at h;exact b_ _ _ h
  |_=>exact b_ _ _ h
 |loop b ih=>
  intro Q ed s b_ h;refine uF (λs h Z uG=>?_) s h;exact h Z λaA eV=>uG aA (ih (El (λ_ h=>h) b_) eV)
 |exit id=>intro Q ed s b_ h;exact b_ _ _ h
 |ret=>intro Q ed s b_ h;exact b_ _ _ h
 |iv T b _=>intro Q ed s b_ h SI ad;exact h SI λe s he=>ad e s (b_ e s he)
 |raw c=>intro Q ed s b_ h;exact h
theorem Ae:∀(c:aG) {Q:Exit->aw->Prop} {s:aw},a_ C c Q s->a_ C c.kC Q s:=by
 intro c;induction c with
 |fq ros keep=>intro Q s h;exact KP (λs h=>KS h) h
 |iY ros ew keep=>intro Q s h l hl;exact KQ (λs h=>KS h) (h l hl)
 |seq a b jV jW=>intro Q s h;exact jV (Em a (El (λs h=>uF (λ_ h=>jW h) s h) (λ_ _ h=>h)) h)
 |cond c a b jV jW=>
  intro Q s h;simp only[aG.kC,a_]at h⊢;split
  .rename_i ff R;rw[R]at h;simp only at h;split
   .rename_i e;rw[if_pos e]at h;exact jV h
   .rename_i e;rw[if_neg e]at h;exact jW h
  .rename_i R;rw[R]at h;exact⟨jV h.1,jW h.2⟩
  .rename_i ab ad;split at h
   .exact ab _ (by assumption)
   .exact ad (by assumption)
   .exact h
 |block id b ih=>intro Q s h;exact ih h
 |loop b ih=>
  intro Q s h;refine uF (λs h Z uG=>?_) s h;exact h Z λaA eV=>uG aA (ih eV)
 |iv T b _=>intro Q s h;exact h
 |_=>intro Q s h;exact h
variable {w0 w:World} {F0 X:Nat->Prop} {n:Fr} {ρ:Nat->Value} {s:aw} {a:Act}
def ql (w0:World) (F0 X:Nat->Prop) (n:Fr) (ρ:Nat->Value) (Q:Exit->aw->Prop):Exit->Act->World->Prop:=λe a w=>∃s,Q e s/\Rel w0 F0 X n ρ s a w
theorem Rel.dR {K:aw->Prop} {s:aw} {a:Act} {w:World} (aH:Rel w0 F0 X n ρ s a w) (h:dR K s):∃aA,K aA/\Rel w0 F0 X n ρ aA a w:=by
 rcases h with h|⟨l,ab,ad⟩
 .exact⟨s,h,aH⟩
 .obtain⟨g1,g2,g3,F,S,g4⟩:=aH;obtain⟨bE,aN,g5⟩:=g4.KN ab;exact⟨ax l,ad,g1,g2,g3,bE,aN,g5⟩
theorem aG.SJ {c:aG} (h:c.strip= .skip):c= .skip\/∃T b,c= .iv T b:=by cases c<;>first|exact .inl rfl|exact .inr ⟨_,_,rfl⟩|cases h
theorem aG.SK {c:aG} (h:c.strip= .ret):c= .ret\/∃T b,c= .iv T b:=by cases c<;>first|exact .inl rfl|exact .inr ⟨_,_,rfl⟩|cases h
theorem aG.SL {c:aG} {i:Nat} (h:c.strip= .exit i):c= .exit i\/∃T b,c= .iv T b:=by cases c<;>first|exact .inl h|exact .inr ⟨_,_,rfl⟩|cases h
theorem aG.SM {c:aG} {x:Code} (h:c.strip= .raw x):c= .raw x\/∃T b,c= .iv T b:=by cases c<;>first|exact .inl h|exact .inr ⟨_,_,rfl⟩|cases h
theorem aG.SN {c:aG} {r:List b7} {k:Option ahw} (h:c.strip= .fq r k):(∃ros cI,c= .fq ros cI/\ros.map b7.un=r)\/∃T b,c= .iv T b:=by
 cases c<;>first|(cases h;exact .inl ⟨_,_,rfl,rfl⟩)|exact .inr ⟨_,_,rfl⟩|cases h
theorem aG.SO {c:aG} {r:List b7} {ew:ahu} {k:Option ahw} (h:c.strip= .iY r ew k):(∃ros KT cI,c= .iY ros KT cI/\ros.map b7.un=r/\KT=ew)\/∃T b,c= .iv T b:=by
 cases c<;>first|(cases h;exact .inl ⟨_,_,_,rfl,rfl,rfl⟩)|exact .inr ⟨_,_,rfl⟩|cases h
theorem aG.SP {c x y:aG} (h:c.strip= .seq x y):(∃a b,c= .seq a b/\a.strip=x/\b.strip=y)\/∃T b,c= .iv T b:=by
 cases c<;>first|(cases h;exact .inl ⟨_,_,rfl,rfl,rfl⟩)|exact .inr ⟨_,_,rfl⟩|cases h
theorem aG.SQ {c x y:aG} {o:bb} (h:c.strip= .cond o x y):(∃mY a b,c= .cond mY a b/\mY=o/\a.strip=x/\b.strip=y)\/∃T b,c= .iv T b:=by
 cases c<;>first|(cases h;exact .inl ⟨_,_,_,rfl,rfl,rfl,rfl⟩)|exact .inr ⟨_,_,rfl⟩|cases h
theorem aG.SR {c x:aG} {i:Nat} (h:c.strip= .block i x):(∃a,c= .block i a/\a.strip=x)\/∃T b,c= .iv T b:=by
 cases c<;>first|(cases h;exact .inl ⟨_,rfl,rfl⟩)|exact .inr ⟨_,_,rfl⟩|cases h
theorem aG.SS {c x:aG} (h:c.strip= .loop x):(∃a,c= .loop a/\a.strip=x)\/∃T b,c= .iv T b:=by
 cases c<;>first|(cases h;exact .inl ⟨_,rfl,rfl⟩)|exact .inr ⟨_,_,rfl⟩|cases h
def rp:Code->List (Array Oper)
 | .region _ ops _=>[ops]
 | .seq a b=>rp a++rp b
 | .cond _ a b=>rp a++rp b
 | .block _ b=>rp b
 | .loop b=>rp b
 |_=>[]
theorem SU (bk:C.eF) {H:((Exit->aw->Prop)->aw->Prop)->aG->Prop} {jS:List (Array Oper)}
  (lU:∀(c:Code) (T:(Exit->aw->Prop)->aw->Prop) (b:aG) (Q:Exit->aw->Prop) (s:aw) (a:Act) (w:World),(∀r∈rp c,r∈jS)->H T b->eQ n c=some b.strip->T Q s->Rel w0 F0 X n ρ s a w->c.wp C.P (ql w0 F0 X n ρ Q) a w):
  ∀(c:Code) {cX:aG} {Q:Exit->aw->Prop} {s:aw} {a:Act} {w:World},(∀r∈rp c,r∈jS)->eQ n c=some cX.strip->cX.bare H->a_ C cX Q s->Rel w0 F0 X n ρ s a w->c.wp C.P (ql w0 F0 X n ρ Q) a w:=by
 intro c;induction c with
 |skip=>
  intro cX Q s a w fo U hx h aH;have kD:=U;simp only[eQ,Option.some.injEq]at U;rcases aG.SJ U.symm with rfl|⟨T,b,rfl⟩
  .exact wp_skip ⟨s,h,aH⟩
  .exact lU _ T b Q s a w fo hx (by simpa only[aG.strip]using kD) (h Q λ_ _ h=>h) aH
 |region id ops draw=>
  intro cX Q s a w fo U hx h aH;have kD:=U;cases draw with
  |false=>
   simp only[eQ]at U;split at U
   rotate_left
   .have eV:=(Option.some.injEq _ _▸U).symm;rcases aG.SM eV with rfl|⟨T,b,rfl⟩
    .exact h.elim
    .exact lU _ T b Q s a w fo hx (by simpa only[aG.strip]using kD) (h Q λ_ _ h=>h) aH
   rename_i SV xf;simp only[Option.some.injEq]at U;rcases aG.SN U.symm with⟨ros,k,rfl,rfl⟩|⟨T,b,rfl⟩
   rotate_left
   .exact lU _ T b Q s a w fo hx (by simpa only[aG.strip]using kD) (h Q λ_ _ h=>h) aH
   cases hx;exact Sy bk xf (λaA cB aD aq eu=>eu.dR aq) h aH
  |true=>
   simp only[eQ]at U;split at U
   .rename_i R;simp only[Option.map_eq_some_iff]at U;obtain⟨SV,xf,U⟩:=U;rcases aG.SO U.symm with⟨ros,ew,k,rfl,rfl,rfl⟩|⟨T,b,rfl⟩
    rotate_left
    .exact lU _ T b Q s a w fo hx (by simpa only[aG.strip]using kD) (h Q λ_ _ h=>h) aH
    cases hx;refine wp_region_draw λt=>?_;rw[show Region.schedule (C.P.follows .mixedOrders) ops t=Region.linearise .any ops t by simp[Region.schedule,bk.mixed]];exact KD bk xf (λaA cB aD aq eu=>eu.dR aq) _ s a _ (h _ (SF R t)) (aH.drawn _ (by first|exact le_succ _|exact le_add_right _ _|omega))
   .cases U
 |seq x y SW Af=>
  intro cX Q s a w fo U hx h aH;have kD:=U;simp only[eQ]at U;split at U
  .rename_i ur KU ar hy;simp only[Option.some.injEq]at U;rcases aG.SP U.symm with⟨cf,jD,rfl,rfl,rfl⟩|⟨T,b,rfl⟩
   rotate_left
   .exact lU _ T b Q s a w fo hx (by simpa only[aG.strip]using kD) (h Q λ_ _ h=>h) aH
   refine wp_seq (wp_mono (SW (λr aH=>fo r (List.mem_append.2 (.inl aH))) ar hx.1 h aH) ?_);rintro e cB aD ⟨aA,bc,eu⟩;cases e with
   |normal=>
    obtain⟨aA,bc,eu⟩:=eu.dR bc;exact Af (λr aH=>fo r (List.mem_append.2 (.inr aH))) hy hx.2 bc eu
   |_=>exact⟨aA,bc,eu⟩
  .cases U
 |cond x y z Af KV=>
  intro cX Q s a w fo U hx h aH;have kD:=U;simp only[eQ]at U;split at U
  .rename_i ur KU sz ar hy bR;simp only[Option.some.injEq]at U;rcases aG.SQ U.symm with⟨cf,jD,p_,rfl,rfl,rfl,rfl⟩|⟨T,b,rfl⟩
   rotate_left
   .exact lU _ T b Q s a w fo hx (by simpa only[aG.strip]using kD) (h Q λ_ _ h=>h) aH
   have eu:=aH;obtain⟨ae,eJ,bd,F,S,hrel⟩:=eu;have aI:=(fz (a:=a) hrel (λ_=>rfl) ar).2;simp only[a_]at h;split at h
   .rename_i ff R;rw[R]at aI;have:=q6 aI;refine wp_cond this ?_;split
    .rename_i e;rw[if_pos e]at h;exact Af (λr aH=>fo r (List.mem_append.2 (.inl aH))) hy hx.1 h aH
    .rename_i e;rw[if_neg e]at h;exact KV (λr aH=>fo r (List.mem_append.2 (.inr aH))) bR hx.2 h aH
   .rename_i R;rw[R]at aI;obtain⟨ff,lb⟩:=Jj aI;refine wp_cond lb ?_;split
    .exact Af (λr aH=>fo r (List.mem_append.2 (.inl aH))) hy hx.1 h.1 aH
    .exact KV (λr aH=>fo r (List.mem_append.2 (.inr aH))) bR hx.2 h.2 aH
   .exact h.elim
  .cases U
 |block id b ih=>
  intro cX Q s a w fo U hx h aH;have kD:=U;simp only[eQ,Option.map_eq_some_iff]at U;obtain⟨wM,R,U⟩:=U;rcases aG.SR U.symm with⟨ff,rfl,rfl⟩|⟨T,b,rfl⟩
  rotate_left
  .exact lU _ T b Q s a w fo hx (by simpa only[aG.strip]using kD) (h Q λ_ _ h=>h) aH
  refine wp_block (wp_mono (ih fo R hx h aH) ?_);rintro e cB aD ⟨aA,bc,eu⟩;cases e with
  |exit i=>
   simp only[uE]at bc;simp only[Exit.inBlock];split
   .rename_i e;rw[if_pos e]at bc;exact⟨aA,bc,eu⟩
   .rename_i e;rw[if_neg e]at bc;exact⟨aA,bc,eu⟩
  |_=>exact⟨aA,bc,eu⟩
 |loop b ih=>
  intro cX Q s a w fo U hx h aH;have kD:=U;simp only[eQ,Option.map_eq_some_iff]at U;obtain⟨wM,R,U⟩:=U;rcases aG.SS U.symm with⟨ff,rfl,rfl⟩|⟨T,b,rfl⟩
  rotate_left
  .exact lU _ T b Q s a w fo hx (by simpa only[aG.strip]using kD) (h Q λ_ _ h=>h) aH
  obtain⟨s,h,aH⟩:=aH.dR h;have key:=h (λs=>∀a w,Rel w0 F0 X n ρ s a w->∀(f:Frame) (k:List Item) (cs:List Frame),∃e cB aD,ql w0 F0 X n ρ Q e cB aD/\Arrives C.P (lone (f.at a (.code b:: .inLoop b::k)) cs w) f k cs e cB aD) ?_
  .intro f k cs;obtain⟨e,cB,aD,b_,rq⟩:=key a w aH f k cs;exact⟨e,cB,aD,b_,.of_steps (.one step_loop) rq⟩
  .intro aA eV a w aH f k cs;obtain⟨e,a₁,w₁,⟨s1,b_,rr⟩,rq⟩:=ih fo R hx eV aH f (.inLoop b::k) cs;cases e with
   |normal=>
    simp only[andThen]at b_;obtain⟨s1,b_,rr⟩:=rr.dR b_;obtain⟨e₂,a₂,w₂,hq₂,harr₂⟩:=b_ a₁ w₁ rr f k cs;exact⟨e₂,a₂,w₂,hq₂,.of_steps (Steps.trans rq (.one step_inLoop)) harr₂⟩
   |exit id=>exact⟨_,a₁,w₁,⟨s1,b_,rr⟩,.pass (x:=.inLoop b) rfl (λ_ _=>.inl (by simp)) rq⟩
   |goto l=>exact⟨_,a₁,w₁,⟨s1,b_,rr⟩,.pass (x:=.inLoop b) rfl (λ_ _=>.inl (by simp)) rq⟩
   |ret=>exact⟨_,a₁,w₁,⟨s1,b_,rr⟩,.pass (x:=.inLoop b) rfl (λ_ _=>.inl (by simp)) rq⟩
   |panic af7=>exact⟨_,a₁,w₁,⟨s1,b_,rr⟩,.pass (x:=.inLoop b) rfl (λ_ _=>.inl (by simp)) rq⟩
   |outgrown=>exact⟨_,a₁,w₁,⟨s1,b_,rr⟩,.pass (x:=.inLoop b) rfl (λ_ _=>.inl (by simp)) rq⟩
 |exit id=>
  intro cX Q s a w fo U hx h aH;have kD:=U;simp only[eQ,Option.some.injEq]at U;rcases aG.SL U.symm with rfl|⟨T,b,rfl⟩
  .exact wp_exit ⟨s,h,aH⟩
  .exact lU _ T b Q s a w fo hx (by simpa only[aG.strip]using kD) (h Q λ_ _ h=>h) aH
 |ret=>
  intro cX Q s a w fo U hx h aH;have kD:=U;simp only[eQ,Option.some.injEq]at U;rcases aG.SK U.symm with rfl|⟨T,b,rfl⟩
  .exact wp_ret ⟨s,h,aH⟩
  .exact lU _ T b Q s a w fo hx (by simpa only[aG.strip]using kD) (h Q λ_ _ h=>h) aH
 |_=>intro cX Q s a w fo U;simp[eQ]at U
theorem En (bk:C.eF) {H:((Exit->aw->Prop)->aw->Prop)->aG->Prop}
  (lU:∀(c:Code) (T:(Exit->aw->Prop)->aw->Prop) (b:aG) (Q:Exit->aw->Prop) (s:aw) (a:Act) (w:World),H T b->eQ n c=some b.strip->T Q s->Rel w0 F0 X n ρ s a w->c.wp C.P (ql w0 F0 X n ρ Q) a w):
  ∀(c:Code) {cX:aG} {Q:Exit->aw->Prop} {s:aw} {a:Act} {w:World},eQ n c=some cX.strip->cX.bare H->a_ C cX Q s->Rel w0 F0 X n ρ s a w->c.wp C.P (ql w0 F0 X n ρ Q) a w:=
 λc _ _ _ _ _ U R h aH=>SU bk (λc T b Q s a w _ iq U h aH=>lU c T b Q s a w iq U h aH) c (λ_ aH=>aH) U R h aH
theorem KW (bk:C.eF) (c:Code) {cX:aG} {Q:Exit->aw->Prop} {s:aw} {a:Act} {w:World} (U:eQ n c=some cX.strip) (R:cX.bare (λ_ _=>False)) (h:a_ C cX Q s) (aH:Rel w0 F0 X n ρ s a w):c.wp C.P (ql w0 F0 X n ρ Q) a w:=
 En bk (λ_ _ _ _ _ _ _ bd=>bd.elim) c U R h aH
end
def iZ:ResultVar->Nat
 | .tmp t=>t
 | .cell a _=>a
def ow (C:bW) (s:aw):ResultVar->Option I
 | .tmp t=>if(s t).tree=true then(match s t with| .tuple _=>none|d=>some d)else none
 | .cell a T=>match s a with
   | .a1 d=>if fits C T d=true/\d.tree=true then some d else none
   |_=>none
def Eo (C:bW) (fx:ahw) (eC:List ResultVar) (r:I) (outs:ahB) (s:aw):Prop:=
 ∃ds,eC.map (ow C s)=ds.map some/\r=(match ds with|[d]=>d|ds=>.tuple ds)/\(eC.map iZ).Nodup/\
  ∀(i:Nat) (o:I),outs[i]? =some o->o= .hole\/(o=s i/\o.gi=true/\i∈fx/\i∉eC.map iZ)
def Ends (C:bW) (fx:ahw) (eC:List ResultVar) (r:I) (outs:ahB) (s:aw):Prop:=
 Eo C fx eC r outs s\/∃t y q d s1,s t= .h y q/\cH s (.h y q)=some (d,s1)/\Eo C fx eC r outs (fin s1 (some t) d)
theorem bx.takes {w0 w:World} {F0 X F:Nat->Prop} {S:Nat->Nat->Prop} {s s1:aw} {ay:Nat->Value} {t y:Nat} {q:ahw} {d:I} (aH:bx w0 F0 X F S s ay w) (ab:s t= .h y q) (ad:cH s (.h y q)=some (d,s1)):
  ∃aN,bx w0 F0 X F aN (c_.fin s1 (some t) d) ay w:=by
 have U:=aH.cW t;rw[ab,aF]at U;obtain⟨b3,k0,bN,cc,Sn,eB,dB,e6,cZ,iW,_⟩:=o5 aH (av:=.h y q) (v:=ay t) rfl (by rw[aF];exact U) ad;obtain⟨aN,bc⟩:=k0.fin (.inr ⟨bN,cc,Sn,eB,dB,e6,cZ,iW⟩) (some t);refine⟨aN,?_⟩;have e:mP ay (some t) (ay t)=ay:=by
  funext u;simp only[mP,da];split
  .rename_i h;rw[h]
  .rfl
 rwa [e]at bc
section
variable {C:bW} {w0 w:World} {F0 X F:Nat->Prop} {S:Nat->Nat->Prop} {s:aw} {tmps:Array Value}
theorem KX {d:I} {x:Value} (ae:∀vs,d≠.tuple vs) (h:dz d x):b8 x=hs x/\h4 d x:=by
 have:h4 d x:=by cases d<;>first|exact h|exact(ae _ rfl).elim
 refine⟨?_,this⟩;cases d<;>first
  |(obtain⟨a,rfl⟩:=this;rfl)
  |(simp only[h4]at this
    rw[gz this];cases x<;>first|rfl|(simp[Value.fY]at this))
def xg (tmps:Array Value):ResultVar->Sem Value
 | .tmp t=>pure (tmps.getD t undef)
 | .cell a t=>do loadVar t (<-asAddr (tmps.getD a undef))
theorem SX (bk:C.eF) (h:bx w0 F0 X F S s (λt=>tmps.getD t undef) w) {v:ResultVar} {d:I} (aI:ow C s v=some d):
  ∃x,(xg tmps v).run C.P w= .ok x w/\d.tree=true/\(∀vs,d≠.tuple vs)/\dz d x/\au w F d (b8 x) (S (iZ v)):=by
 cases v with
 |tmp t=>
  simp only[ow]at aI;split at aI
  .rename_i aY;have my:(∀vs,s t≠.tuple vs)/\d=s t:=by
    cases U:s t<;>rw[U]at aI<;>simp only at aI<;>first
     |(cases aI;done)
     |(simp only[Option.some.injEq]at aI;exact⟨(λ_ h=>by cases h),aI.symm⟩)
   obtain⟨my,rfl⟩:=my;obtain⟨g1,g2⟩:=(aF.cr aY).1 (h.cW t);exact⟨_,by simp[xg],aY,my,g1,g2⟩
  .cases aI
 |cell a T=>
  simp only[ow]at aI;split at aI
  .rename_i e U;split at aI
   .rename_i SY;obtain⟨h_,SZ⟩:=SY;simp only[Option.some.injEq]at aI;subst aI;have iu:=h.cW a;rw[U]at iu;obtain⟨g1,g2⟩:=(aF.cr (d:=.a1 e) rfl).1 iu;rw[gz g1,au]at g2;obtain⟨b,cur,ty,fr,aN,bN,cc,eB,dB,e6,cZ,iW⟩:=g2;simp only[List.cons.injEq,and_true]at bN;have jN:hE w b 0 cur.toList:=by
     have:=ud eB cur.size
     rwa [List.take_of_length_le (by simp)]at this
    obtain⟨x,dm,a7,db⟩:=zC (C:=C) bk jN e6 h_;refine⟨x,?_,SZ,?_,db,?_⟩
    .simp only[xg];rw[bN];simpa [asAddr]using dm
    .intro vs fV;subst fV;unfold fits at h_;split at h_<;>simp_all
    .rw[a7];exact au.mono (λ_ h=>h) _ _ _ _ cZ e6
   .cases aI
  .cases aI
theorem S0 (bk:C.eF) (h:bx w0 F0 X F S s (λt=>tmps.getD t undef) w):∀(eC:List ResultVar) (ds:ahB),eC.map (ow C s)=ds.map some->(eC.map iZ).Nodup->
  ∃xs,(eC.mapM (xg tmps)).run C.P w= .ok xs w/\xs.length=ds.length/\aZ w F ds (xs.flatMap hs) (λb=>∃t∈eC.map iZ,S t b)/\
   ∀(k:Nat) (d:I) (x:Value),ds[k]? =some d->xs[k]? =some x->dz d x/\(∀vs,d≠.tuple vs)/\(hs x).length=d.wd/\b8 x=hs x/\d.tree=true:=by
 intro eC;induction eC with
 |nil=>
  intro ds he _;have:ds=[]:=by simpa using he.symm
  subst this;exact⟨[],by simp,rfl,by simp only[List.flatMap_nil];rw[aZ],λk d x ae=>by simp at ae⟩
 |cons v eC ih=>
  intro ds he uH;cases ds with
  |nil=>simp at he
  |cons d ds=>
   simp only[List.map_cons,List.cons.injEq]at he;simp only[List.map_cons,List.nodup_cons]at uH;obtain⟨x,dm,rt,a7,db,bJ⟩:=SX bk h he.1;obtain⟨xs,fA,fp,gX,hv⟩:=ih ds he.2 uH.2;obtain⟨aP,aT⟩:=KX a7 db;refine⟨x::xs,by simp[List.mapM_cons,dm,fA],by simp[fp],?_,?_⟩
   .simp only[List.flatMap_cons];rw[aZ];rw[aP]at bJ;refine⟨hs x,xs.flatMap hs,S (iZ v),λb=>∃t∈eC.map iZ,S t b,rfl,bJ,gX,λb R=>⟨iZ v,by simp,R⟩,?_,?_⟩
    .rintro b ⟨t,aY,R⟩;exact⟨t,by simp[aY],R⟩
    .rintro b R ⟨t,aY,lb⟩;have:t≠iZ v:=λe=>uH.1 (e▸aY);exact h.eT t (iZ v) b this lb R
   .intro k bp cf ae ar;cases k with
    |zero=>
     simp at ae ar;subst ae ar;refine⟨db,a7,?_,aP,rt⟩;rw[<-aP];exact au.length _ _ _ bJ
    |succ k=>exact hv k bp cf (by simpa using ae) (by simpa using ar)
theorem Ep (bk:C.eF) {f:FuncId} {fn:Func} {c:Code} {fx:ahw} {as outs:ahB} {r:I} (bd:C.P.funcs[f]? =some fn) (R:fn.body=some c)
  (jX:(fn.name== "runtime.NumGoroutine")=false) (aU:as.length<=fn.ntmps)
  {w:World} {F X:Nat->Prop} {S:Nat->Nat->Prop} {vs:ahz} (hl:vs.length=as.length) (aH:bx w F X F S (eU as) (gj vs) w)
  (Er:∀a,Rel w F X ⟨fn.ntmps,fx⟩ (gj vs) (eU as) a w->(∀t,a.tmps.getD t undef=gj vs t)->c.wp C.P (ql w F X ⟨fn.ntmps,fx⟩ (gj vs) (λe s=>(e= .normal\/e= .ret)/\dR (Ends C fx fn.results.toList r outs) s)) a w):
  mz C.P f vs.toArray w λv aD=>∃bE aN,bx w F X bE aN (eU (r::outs)) (gj (v::vs)) aD:=by
 have nE:(vs.toArray++Array.replicate (fn.ntmps-vs.toArray.size) undef).size=fn.ntmps:=by simp;omega
 have dY:(λt=>(vs.toArray++Array.replicate (fn.ntmps-vs.toArray.size) undef).getD t undef)=gj vs:=by
  funext t;simp only[gj,Array.getD_eq_getD_getElem?,List.getD_eq_getElem?_getD];by_cases aY:t<vs.length
  .rw[Array.getElem?_append_left (by simpa using aY)];simp
  .rw[Array.getElem?_append_right (by simpa using aY)];rw[List.getElem?_eq_none (by omega)];simp only[Array.getElem?_replicate];split<;>rfl
 have hrel:Rel w F X ⟨fn.ntmps,fx⟩ (gj vs) (eU as) {tmps:=vs.toArray++Array.replicate (fn.ntmps-vs.toArray.size) undef,defers:=[]} w:=
  ⟨rfl,nE,λi _=>congrFun dY i,F,S,by rw[dY];exact aH⟩
 have Es:fn.name≠ "runtime.NumGoroutine" :=by simpa using jX
 refine .inl ⟨by simp[callFunc,bd,Es,R],calls_of_wp bd R (wp_mono (Er _ hrel (congrFun dY)) ?_)⟩;rintro e cB aD ⟨aA,⟨he,S1⟩,S2⟩;obtain⟨aA,⟨ds,jn,KY,uH,sl⟩,ae,eJ,iH,bE,aN,eu⟩:∃aA,Eo C fx fn.results.toList r outs aA/\Rel w F X ⟨fn.ntmps,fx⟩ (gj vs) aA cB aD:=by
  obtain⟨aA,he,KZ⟩:=S2.dR S1;rcases he with he|⟨t,y,q,d,s1,ab,ad,he⟩
  .exact⟨aA,he,KZ⟩
  .obtain⟨g1,g2,g3,F,S,g4⟩:=KZ;obtain⟨aN,g5⟩:=g4.takes ab ad;exact⟨_,he,g1,g2,g3,F,aN,g5⟩
 obtain⟨xs,fA,fp,gX,hv⟩:=S0 bk eu _ ds jn uH;have S3:(results fn cB.tmps)=(do let vs<-fn.results.mapM (xg cB.tmps);pure (if h:vs.size=1 then vs[0]else .tuple vs)):=by
  unfold results;congr 1
 have sr:(results fn cB.tmps).run C.P aD= .ok (if h:xs.toArray.size=1 then xs.toArray[0]else .tuple xs.toArray) aD:=by
  rw[S3,Array.mapM_eq_mapM_toList];simp[fA]
 have pn:(r.tree=true/\dz r (if h:xs.toArray.size=1 then xs.toArray[0]else .tuple xs.toArray)/\
   au aD bE r (b8 (if h:xs.toArray.size=1 then xs.toArray[0]else .tuple xs.toArray)) (λb=>∃t∈fn.results.toList.map iZ,aN t b)):=by
  by_cases ab:∃d,ds=[d]
  .obtain⟨d,rfl⟩:=ab;obtain⟨x,rfl⟩:∃x,xs=[x]:=by
    cases xs with
    |nil=>simp at fp
    |cons x xs=>cases xs with
     |nil=>exact⟨x,rfl⟩
     |cons y bm=>simp at fp
   obtain⟨bN,cc,eB,dB,e6⟩:=hv 0 d x rfl rfl;have S4:d=r:=KY.symm;subst S4;simp only[List.flatMap_cons,List.flatMap_nil,List.append_nil]at gX;rw[aZ]at gX;obtain⟨b2,c2,b3,dh,aP,aT,aR,b4,cz,bV⟩:=gX;rw[aZ]at aR;subst aR;simp only[List.append_nil]at aP;subst aP;have ar:(if h:([x]:ahz).toArray.size=1 then([x]:ahz).toArray[0]else .tuple ([x]:ahz).toArray)=x:=by simp
   rw[ar,dB];exact⟨e6,bN,au.mono (λ_ h=>h) _ _ _ _ b4 aT⟩
  .have Ag:r= .tuple ds:=by
    rw[KY];cases ds with
    |nil=>rfl
    |cons d ds=>cases ds with
     |nil=>exact(ab ⟨d,rfl⟩).elim
     |cons e ds=>rfl
   have ar:(if h:xs.toArray.size=1 then xs.toArray[0]else Value.tuple xs.toArray)= .tuple xs.toArray:=by
    rw[dif_neg];intro eJ;have:ds.length=1:=by rw[<-fp];simpa using eJ
    obtain⟨d,ae⟩:=List.length_eq_one_iff.1 this;exact ab ⟨d,ae⟩
   rw[ar,Ag];refine⟨rfl,⟨xs.toArray,rfl,by simpa using fp,λk d x ae ar=>?_⟩,?_⟩
   .obtain⟨bN,cc,eB,dB,_⟩:=hv k d x ae (by simpa using ar);exact⟨(KX cc bN).2,cc,eB⟩
   .rw[au];simpa [b8]using gX
 have post:∀(v:Value),(r.tree=true/\dz r v/\au aD bE r (b8 v) (λb=>∃t∈fn.results.toList.map iZ,aN t b))->∃sM b3,bx w F X sM b3 (eU (r::outs)) (gj (v::vs)) aD:=by
  rintro v ⟨v1,v2,v3⟩;have Et:∀i,(outs.getD i .hole).gi=true->outs.getD i .hole=aA i/\i∈fx/\i∉fn.results.toList.map iZ:=by
   intro i ak;cases b1:outs[i]? with
   |none=>simp[List.getD,b1,I.gi]at ak
   |some o=>
    have e:outs.getD i .hole=o:=by simp[List.getD,b1]
    rw[e]at ak⊢;rcases sl i o b1 with h|h
    .subst h;simp[I.gi]at ak
    .exact⟨h.1,h.2.2⟩
  refine⟨bE,λt b=>match t with|0=>∃t∈fn.results.toList.map iZ,aN t b|i+1=>(outs.getD i .hole).gi=true/\aN i b,eu.gq,eu.gK,eu.eK,?_,?_,?_,?_,?_,eu.old,eu.size,eu.os,eu.tape,eu.output,aH.fW⟩
  .intro t b R;cases t with
   |zero=>obtain⟨t,_,R⟩:=R;exact eu.et t b R
   |succ i=>exact eu.et i b R.2
  .intro t b R;cases t with
   |zero=>obtain⟨t,_,R⟩:=R;exact eu.fg t b R
   |succ i=>exact eu.fg i b R.2
  .intro t u b cO R hu;cases t with
   |zero=>
    obtain⟨t,aY,R⟩:=R;cases u with
    |zero=>exact cO rfl
    |succ j=>
     refine eu.eT t j b (λe=>?_) R hu.2;subst e;exact(Et t hu.1).2.2 aY
   |succ i=>
    cases u with
    |zero=>
     obtain⟨t,aY,hu⟩:=hu;refine eu.eT t i b (λe=>?_) hu R.2;subst e;exact(Et t R.1).2.2 aY
    |succ j=>exact eu.eT i j b (by omega) R.2 hu.2
  .intro t b R;cases t with
   |zero=>obtain⟨t,_,R⟩:=R;exact eu.dy t b R
   |succ i=>exact eu.dy i b R.2
  .intro t;cases t with
   |zero=>exact(aF.cr v1).2 ⟨v2,v3⟩
   |succ i=>
    show aF aD bE (eU (r::outs)) (gj (v::vs)) (outs.getD i .hole) (vs.getD i undef) (λb=>(outs.getD i .hole).gi=true/\aN i b);cases ak:(outs.getD i .hole).gi with
    |false=>
     have:outs.getD i .hole= .hole:=by
      cases b1:outs[i]? with
      |none=>simp[List.getD,b1]
      |some o=>
       have e:outs.getD i .hole=o:=by simp[List.getD,b1]
       rw[e]at ak⊢;rcases sl i o b1 with h|h
       .exact h
       .rw[h.2.1]at ak;cases ak
     rw[this,aF];trivial
    |true=>
     obtain⟨lR,jR,oq⟩:=Et i ak;have aY:=(qi ak).2.1;have iu:=eu.cW i;rw[<-lR]at iu;obtain⟨g1,g2⟩:=(aF.cr aY).1 iu;have aI:cB.tmps.getD i undef=vs.getD i undef:=iH i jR;rw[aI]at g1 g2;exact(aF.cr aY).2 ⟨g1,au.mono (λ_ h=>h) _ _ _ _ (λb R=>⟨rfl,R⟩) g2⟩
 rcases he with rfl|rfl
 .exact⟨ae,_,sr,_,rfl,post _ pn⟩
 .exact⟨ae,_,sr,_,rfl,post _ pn⟩
theorem aX.of_wp (bk:C.eF) {f:FuncId} {fn:Func} {c:Code} {cX:aG} {fx:ahw} {as outs:ahB} {r:I} (bd:C.P.funcs[f]? =some fn) (R:fn.body=some c)
  (jX:(fn.name== "runtime.NumGoroutine")=false) (U:eQ ⟨fn.ntmps,fx⟩ c=some cX.strip) (aU:as.length<=fn.ntmps)
  (h:a_ C cX (λe s=>(e= .normal\/e= .ret)/\dR (Ends C fx fn.results.toList r outs) s) (eU as)) (an:cX.plain=true:=by kernel_rfl):aX C f as r outs:=
 λw F X S vs hl aH=>Ep bk bd R jX aU hl aH λa hrel _=>KW bk c (by rw[aG.Ej];exact U) (aG.Ad cX (aG.KO cX an)) (Ae cX h) hrel
end
def num:Nat->ahB->ahA
 |_,[]=>[]
 |k,a::as=>(k,a)::num (k+1) as
theorem S5:∀(as:ahB) (k t:Nat),ax (num k as) (k+t)=as.getD t .hole:=by
 intro as;induction as with
 |nil=>intro k t;simp[num,ax]
 |cons a as ih=>
  intro k t;cases t with
  |zero=>simp[num,ax]
  |succ t=>
   have:=ih (k+1) t;simp only[num,ax];rw[if_neg (by omega)];rw[show k+(t+1)=k+1+t by omega,this];simp
theorem Ah (as:ahB):eU as=ax (num 0 as):=by
 funext t;have:=S5 as 0 t;rw[Nat.zero_add]at this;rw[this];rfl
theorem xh (l:ahA) (t:Nat) (d:I):da (ax l) t d=ax ((t,d)::l):=by
 funext u;simp only[da,ax]
def qm (t:Nat):ahA->ahA
 |[]=>[]
 |(u,d)::l=>(u,cE t d)::qm t l
def sP (t:Nat):ahA->ahA
 |[]=>[]
 |(u,d)::l=>(u,b6 t d)::sP t l
theorem Eu (t:Nat):∀l:ahA,lK t (ax l)=ax (qm t l):=by
 intro l;funext u;induction l with
 |nil=>rfl
 |cons p l ih=>
  obtain⟨v,d⟩:=p;simp only[lK,ax,qm]at ih⊢;split
  .rfl
  .exact ih
theorem S6 (t:Nat):∀l:ahA,hM t (ax l)=ax (sP t l):=by
 intro l;funext u;induction l with
 |nil=>rfl
 |cons p l ih=>
  obtain⟨v,d⟩:=p;simp only[hM,ax,sP]at ih⊢;split
  .rfl
  .exact ih
def gu (k:ahw) (s:aw):ahA:=k.map λt=>(t,s t)
section
variable {C:bW} {l:ahA}
def dQ.hT:dQ->Bool
 | .call _ _=>true
 | .gC _=>false
 | .kc _=>false
 | .pick _ _ _=>false
 | .ka _=>false
 | .ht _ _=>false
 | .gr _ _=>false
 | .f_ _ _ _=>false
 | .e3 _ _=>false
 | .iA _ _ _=>false
 | .kz _=>false
 | .el _ _ _ _=>false
 | .un _ _=>false
 | .iD _ _ _=>false
 | .mx _ _=>false
 | .en _ _ _=>false
 | .gY _ _ _ _=>false
 | .gW _ _ _=>false
 | .iz _ _ _=>false
 | .idx _ _ _=>false
 | .ex _ _=>false
 | .l9 _ _ _=>false
 | .len _ _=>false
 | .app _ _ _ _=>false
 | .shr _=>true
 | .cap _ _=>false
 | .iF _ _ _=>false
 | .bad=>false
 | .kd _ _ _=>true
 | .jF _ _=>false
 | .wR=>false
 | .nB _ _ _=>false
 | .mw _ _ _ _=>false
variable {Q:Exit->aw->Prop}
def I.K0:I->Bool
 | .tuple _=>true
 |_=>false
theorem Ends.one {fx:ahw} {t:Nat} {r:I} {s:aw} (ab:s t=r) (ad:(r.tree&& !r.K0)=true):Ends C fx [.tmp t] r [] s:=by
 simp only[Bool.and_eq_true,Bool.not_eq_true']at ad;obtain⟨ad,Ai⟩:=ad;have aC:∀vs,r≠.tuple vs:=λvs e=>by subst e;simp[I.K0]at Ai
 refine .inl ⟨[r],?_,rfl,by simp,λi o h=>by simp at h⟩;have:ow C s (.tmp t)=some r:=by
  simp only[ow,ab,ad,if_true];try (cases r<;>first|rfl|exact(aC _ rfl).elim)
 simp only[List.map_cons,List.map_nil,this]
end
section
variable {C:bW} {l:ahA} {Q:Exit->aw->Prop}
theorem aX.outs {f:FuncId} {as:ahB} {r:I} {lR jR:ahB} (h:aX C f as r lR) (he:eU lR=eU jR):aX C f as r jR:=by
 intro w F X S vs hl aH;refine mz.mono (h w F X S vs hl aH) ?_;rintro v aD ⟨bE,aN,bc⟩;refine⟨bE,aN,?_⟩;have:eU (r::jR)=eU (r::lR):=by
  funext t;cases t with
  |zero=>rfl
  |succ t=>exact(congrFun he t).symm
 rw[this];exact bc
def mc:ahB->ahB->List ct
 |a::as,d::ds=>⟨a,false,d,.hole⟩::mc as ds
 |_,_=>[]
theorem S7 {s:aw}:∀(as ds:ahB),views s as=some ds->(mc as ds).map (·.a)=as/\(mc as ds).map (·.d)=ds/\(∀p∈mc as ds,p.ok s/\p.g=false/\p.o= .hole/\p.a∈as)/\hP (mc as ds)=true/\
  eU ((mc as ds).map (·.o))=eU []/\(∀po,eO po (mc as ds)=po)/\(∀po,g_ po (mc as ds)=po):=by
 intro as;induction as with
 |nil=>
  intro ds h;simp only[views,Option.some.injEq]at h;subst h;exact⟨rfl,rfl,(λp an=>by cases an),rfl,rfl,λ_=>rfl,λ_=>rfl⟩
 |cons a as ih=>
  intro ds h;simp only[views]at h;split at h
  .rename_i d S8 ab ad;simp only[Option.some.injEq]at h;subst h;obtain⟨aP,aT,aR,b4,cz,bV,bF⟩:=ih S8 ad;refine⟨by simp only[mc,List.map_cons,aP],by simp only[mc,List.map_cons,aT],?_,?_,?_,?_,?_⟩
   .intro p an;simp only[mc,List.mem_cons]at an;rcases an with rfl|an
    .exact⟨by simp only[ct.ok];exact ab,rfl,rfl,by simp⟩
    .obtain⟨g1,g2,g3,g4⟩:=aR p an;exact⟨g1,g2,g3,by simp[g4]⟩
   .simp only[mc,hP,b4,Bool.and_true,List.all_eq_true];intro p an;simp[(aR p an).2.1]
   .funext t;cases t with
    |zero=>rfl
    |succ t=>exact(congrFun cz t).trans (by simp[eU])
   .intro po;exact bV po
   .intro po;exact bF po
  .cases h
end
structure e8 where
 cQ:ahw
 H:ahw
 T:ahw
 c:Bool
mutual
def I.clean:I->Bool
 | .hole=>false
 | .fn _ cap=>I.uI cap
 |_=>true
def I.uI:ahB->Bool
 |[]=>true
 |d::ds=>d.clean&&I.uI ds
end
mutual
theorem K1 {x:Nat}:∀a:I,(b6 x a).clean=true->b6 x a=a
 | .h y q,h=>by
   simp only[b6]at h⊢;split
   .rename_i e;rw[if_pos e]at h;split
    .rfl
    .rename_i fV;rw[if_neg fV]at h;simp[I.clean]at h
   .rfl
 | .an y q,h=>by
   simp only[b6]at h⊢;split
   .rename_i e;rw[if_pos e]at h;simp[I.clean]at h
   .rfl
 | .R y q,h=>rfl
 | .fn f cap,h=>by simp only[b6,I.clean]at h⊢;rw[K2 cap h]
 | .hole,_=>rfl
 | .bool _,_=>rfl
 | .fw,_=>rfl
 | .int _ _,_=>rfl
 | .str _,_=>rfl
 | .dr,_=>rfl
 | .bf,_=>rfl
 | .slice _,_=>rfl
 | .ao _ _,_=>rfl
 | .ref _,_=>rfl
 | .a1 _,_=>rfl
 | .agg _,_=>rfl
 | .tuple _,_=>rfl
 | .dK _,_=>rfl
 | .fD _ _,_=>rfl
theorem K2 {x:Nat}:∀ds:ahB,I.uI (im x ds)=true->im x ds=ds
 |[],_=>rfl
 |d::ds,h=>by
  simp only[im,I.uI,Bool.and_eq_true]at h⊢;rw[K1 d h.1,K2 ds h.2]
end
mutual
theorem K3 {x:Nat}:∀a:I,(cE x a).clean=true->cE x a=a
 | .h y q,h=>by
   simp only[cE]at h⊢;split
   .rename_i e;rw[if_pos e]at h;simp[I.clean]at h
   .rfl
 | .an y q,h=>by
   simp only[cE]at h⊢;split
   .rename_i e;rw[if_pos e]at h;simp[I.clean]at h
   .rfl
 | .R y q,h=>by
   simp only[cE]at h⊢;split
   .rename_i e;rw[if_pos e]at h;simp[I.clean]at h
   .rfl
 | .fn f cap,h=>by simp only[cE,I.clean]at h⊢;rw[K4 cap h]
 | .hole,_=>rfl
 | .bool _,_=>rfl
 | .fw,_=>rfl
 | .int _ _,_=>rfl
 | .str _,_=>rfl
 | .dr,_=>rfl
 | .bf,_=>rfl
 | .slice _,_=>rfl
 | .ao _ _,_=>rfl
 | .ref _,_=>rfl
 | .a1 _,_=>rfl
 | .agg _,_=>rfl
 | .tuple _,_=>rfl
 | .dK _,_=>rfl
 | .fD _ _,_=>rfl
theorem K4 {x:Nat}:∀ds:ahB,I.uI (iU x ds)=true->iU x ds=ds
 |[],_=>rfl
 |d::ds,h=>by
  simp only[iU,I.uI,Bool.and_eq_true]at h⊢;rw[K3 d h.1,K4 ds h.2]
end
theorem S9 {k:pe} {x:Nat} {a:I} (h:(k.app x a).clean=true):k.app x a=a:=by
 cases k with
 |no=>rfl
 |b6=>exact K1 a h
 |cE=>exact K3 a h
theorem S_:∀(ms:List gD) (u:Nat) (a:I),(∀m∈ms,m.x≠u)->(jQ ms u a).clean=true->jQ ms u a=a:=by
 intro ms;induction ms with
 |nil=>intros;rfl
 |cons m ms ih=>
  intro u a ar ai;simp only[jQ]at ai⊢;have e:=ih u _ (λhO sQ=>ar hO (by simp[sQ])) ai;have hm:m.at u a=m.k.app m.x a:=by
   simp only[gD.at];rw[if_neg (λe=>ar m (by simp) e.symm)]
  rw[e,hm];rw[e,hm]at ai;exact S9 ai
theorem Ta:∀(ms:List gD) (u:Nat) (a:I),(∀m∈ms,m.x≠u/\m.x∉a.U)->jQ ms u a=a:=by
 intro ms;induction ms with
 |nil=>intros;rfl
 |cons m ms ih=>
  intro u a ar;simp only[jQ];have hm:m.at u a=a:=by
   simp only[gD.at];rw[if_neg (λe=>(ar m (by simp)).1 e.symm)];exact wW (.inr (ar m (by simp)).2)
  rw[hm];exact ih u a λhO sQ=>ar hO (by simp[sQ])
theorem Tb (m:gD):∀(ms:List gD) (u:Nat) (a:I),(∀hO∈ms,hO.x≠m.x/\hO.x∉m.d.U/\m.x∉hO.d.U)->jQ ms u (m.at u a)=m.at u (jQ ms u a):=by
 intro ms;induction ms with
 |nil=>intros;rfl
 |cons n ms ih=>
  intro u a ar;simp only[jQ];have aU:=ar n (by simp);have ai:n.at u (m.at u a)=m.at u (n.at u a):=by
   simp only[gD.at];by_cases aP:u=n.x
   .subst aP;rw[if_pos rfl,if_neg aU.1,if_pos rfl];exact(wW (.inr aU.2.2)).symm
   .rw[if_neg aP];by_cases aT:u=m.x
    .subst aT;rw[if_pos rfl,if_pos rfl];exact wW (.inr aU.2.1)
    .rw[if_neg aT,if_neg aP,if_neg aT];exact RE _ _ _ _ _
  rw[ai];exact ih u _ λhO sQ=>ar hO (by simp[sQ])
theorem Tc:∀(ms kX:List gD) (s:aw),(∀m∈ms,∀n∈kX,n.x≠m.x/\n.x∉m.d.U/\m.x∉n.d.U)->du kX (du ms s)=du ms (du kX s):=by
 intro ms;induction ms with
 |nil=>intros;rfl
 |cons m ms ih=>
  intro kX s h;have e:∀s,du (m::ms) s=du ms (du [m] s):=λs=>mb [m] ms s;rw[e,e,ih kX _ (λhO sQ=>h hO (by simp[sQ]))];congr 1;funext u;simp only[du,jQ];exact Tb m kX u _ (h m (by simp))
def K5 (C:bW) (s:aw) (f:bb) (args:List bb) (K:ahw->I->aw->Prop):Prop:=
 ∃(g:FuncId) (caps:ahB) (ps:List ct) (r:I),bj s f= .fn g caps/\I.dU caps=true/\ps.map (·.a)=args.map (bj s)++caps/\(∀p∈ps,p.ok s)/\hP ps=true/\
   aX C g (ps.map (·.d)) r (ps.map (·.o))/\r.res=true/\(jG ps=true->r.cF=true/\∀p∈ps,p.o.cF=true)/\K (I.dN ((ps.filter (·.g)).map (·.a))) r (g_ (eO s ps) ps)
def nM (C:bW) (s:aw) (bG:dQ) (K:ahw->I->aw->Prop):Prop:=
 match bG with
 | .call f args=>∃(g:FuncId) (caps:ahB) (ps:List ct) (r:I),bj s f= .fn g caps/\I.dU caps=true/\ps.map (·.a)=args.map (bj s)++caps/\(∀p∈ps,p.ok s)/\hP ps=true/\
   aX C g (ps.map (·.d)) r (ps.map (·.o))/\r.res=true/\(jG ps=true->r.cF=true/\∀p∈ps,p.o.cF=true)/\K (I.dN ((ps.filter (·.g)).map (·.a))) r (g_ (eO s ps) ps)
 | .shr bG=>∃av s1,bX C s bG=some (av,s1)/\av.tree=true/\(∀vs,av≠.tuple vs)/\K (nF s bG) av.share s1
 | .kd f args us=>lo s (iX s us)=true/\K5 C s f args λcH av s1=>lo s1 (iX s us)=true/\K (us++cH) av (mA s1 (iX s us))
 |bG=>∃av s1,bX C s bG=some (av,s1)/\K (nF s bG) av s1
def iI (s:aw) (cQ:ahw) (dst:Option Nat) (cH:ahw) (av:I):e8:=
 ⟨cQ,cQ.flatMap (λu=>(s u).U)++av.U,dst.toList++cH,cQ.all λu=>(s u).clean⟩
def na (C:bW) (s:aw) (o:b7) (K:e8->aw->Prop):Prop:=
 match o.guard with
 |none=>nM C s o.bG λcH av s1=>K (iI s (use s o.bG) o.dst cH av) (fin s1 o.dst av)
 |some (t,b)=>match s t with
  | .bool ff=>if ff=b then nM C s o.bG (λcH av s1=>K (iI s (t::use s o.bG) o.dst cH av) (fin s1 o.dst av))else K (iI s [t] o.dst [] (.tuple [])) (fin s o.dst (.tuple []))
  | .tuple []=>K (iI s [t] o.dst [] (.tuple [])) (fin s o.dst (.tuple []))
  |_=>False
def pq:Option (List e8)->e8->Option (List e8)
 |none,_=>none
 |some l,f=>some (f::l)
def dj (C:bW) (s:aw):List b7->Option (List e8)->(Option (List e8)->aw->Prop)->Prop
 |[],acc,K=>K acc s
 |o::os,acc,K=>na C s o λf s1=>dj C s1 os (pq acc f) K
section
variable {C:bW}
theorem K6 {s:aw} {bG:dQ} {K:ahw->I->aw->Prop} {de:I->aw->Prop} (aq:∀cH av s,K cH av s->de av s) (h:nM C s bG K):nK C s bG de:=by
 cases bG with
 |call f args=>
  obtain⟨g,caps,ps,r,ab,gN,ad,aC,aW,bu,cy,cl,fM⟩:=h;exact⟨g,caps,ps,r,ab,gN,ad,aC,aW,bu,cy,cl,aq _ _ _ fM⟩
 |kd f args us=>
  obtain⟨cc,g,caps,ps,r,ab,gN,ad,aC,aW,bu,cy,cl,fM,h9⟩:=h;exact⟨cc,g,caps,ps,r,ab,gN,ad,aC,aW,bu,cy,cl,fM,aq _ _ _ h9⟩
 |shr bG=>
  obtain⟨av,s1,ab,ad,aC,aW⟩:=h;exact⟨av,s1,ab,ad,aC,aq _ _ _ aW⟩
 |_=>
  obtain⟨av,s1,ab,ad⟩:=h;exact⟨av,s1,ab,aq _ _ _ ad⟩
theorem Td {s:aw} {o:b7} {K:e8->aw->Prop} {de:aw->Prop} (aq:∀f s,K f s->de s) (h:na C s o K):lS C s o de:=by
 unfold na at h;unfold lS;split
 .rename_i hg;rw[hg]at h;exact K6 (λ_ _ _=>aq _ _) h
 .rename_i t b hg;rw[hg]at h;simp only at h;split
  .rename_i ff U;rw[U]at h;simp only at h;split
   .rename_i R;rw[if_pos R]at h;exact K6 (λ_ _ _=>aq _ _) h
   .rename_i R;rw[if_neg R]at h;exact aq _ _ h
  .rename_i U;rw[U]at h;exact aq _ _ h
  .rename_i ab ad;split at h
   .exact ab _ (by assumption)
   .exact ad (by assumption)
   .exact h
theorem sR {K:aw->Prop}:∀{ros:List b7} {s:aw} {acc:Option (List e8)} {de:Option (List e8)->aw->Prop},(∀a s,de a s->K s)->dj C s ros acc de->lp C s ros K:=by
 intro ros;induction ros with
 |nil=>intro s acc de aq h;exact aq _ _ h
 |cons o ros ih=>intro s acc de aq h;exact Td (λf s h=>ih aq h) h
theorem K7 {q:ahw} {a d:I} (h:I.sub q a=some d) (b_:q≠[]\/d.U=[]):a.U=[]:=by
 cases q with
 |nil=>
  simp only[I.sub,Option.some.injEq]at h;subst h;exact b_.resolve_left (λe=>e rfl)
 |cons k q=>cases a<;>first|rfl|(simp[I.sub]at h)
def Aj (s:aw) (p:ct) (e:I->Prop):Prop:=p.g=true->∃x q d,p.a= .h x q/\I.sub q (s x)=some d/\e d/\(p.o= .hole\/p.o.gi=true)
theorem K8 {d:I} (h:d.gi=true):d.U=[]:=D8 (qi h).2.1
theorem K9 {d:I} (h:d.gi=true):d.cS.U=[]:=by cases d<;>first|rfl|(simp[I.gi]at h)
theorem K_ {p:ct} {ps:List ct} (h:hP (p::ps)=true):hP ps=true/\∀cv∈ps,(p.g=true\/cv.g=true)->∀u∈p.a.U,u∉cv.a.U:=by
 simp only[hP,Bool.and_eq_true,List.all_eq_true,Bool.or_eq_true,Bool.not_eq_true']at h;refine⟨h.2,λcv ev hg u hu=>?_⟩;rcases h.1 cv ev with e|e
 .rcases hg with hg|hg<;>simp[hg]at e
 .simpa using e u hu
def qn (ps:List ct):ahw:=I.dN ((ps.filter (·.g)).map (·.a))
theorem uJ (p:ct) (ps:List ct):(∀u∈qn ps,u∈qn (p::ps))/\(p.g=true->∀u∈p.a.U,u∈qn (p::ps)):=by
 unfold qn;by_cases hg:p.g=true
 .simp only[List.filter_cons,hg,if_true,List.map_cons,I.dN,List.mem_append];exact⟨λu h=>.inr h,λ_ u h=>.inl h⟩
 .simp only[List.filter_cons,hg];exact⟨λu h=>h,λh=>by simp at h⟩
theorem Te {p:ct} {ps:List ct} (h:p∈ps):∀u∈p.a.U,u∈I.dN (ps.map (·.a)):=by
 induction ps with
 |nil=>cases h
 |cons cv ps ih=>
  intro u hu;simp only[List.map_cons,I.dN,List.mem_append];rcases List.mem_cons.1 h with rfl|h
  .exact .inl hu
  .exact .inr (ih h u hu)
theorem Tf:∀(ps:List ct) (s:aw),(∀p∈ps,Aj s p (λd=>d=p.d/\p.d.gi=true))->hP ps=true->
  (∃ms:List gD,(∀m∈ms,m.x∈qn ps/\m.d.U=[])/\∀aA,dq (I.dN (ps.map (·.a))) aA s->eO aA ps=du ms aA)/\∀p∈ps,Aj (eO s ps) p (λd=>d=p.d.cS/\p.d.gi=true):=by
 intro ps;induction ps with
 |nil=>intro s _ _;exact⟨⟨[],by simp,λaA _=>rfl⟩,λp an=>by cases an⟩
 |cons p ps ih=>
  intro s hg kb;obtain⟨oo,nH⟩:=K_ kb;by_cases me:p.g=true
  .obtain⟨x,q,d,bM,U,⟨rfl,ae⟩,b1⟩:=hg p (by simp) me;have j8:(I.put q p.d.cS (s x)).U=[]:=uw q _ _ _ U (.inl (qi ae).1) λ_=>K9 ae;have xi:∀aA:aw,aA x=s x->p.take aA=du [⟨.b6,x,I.put q p.d.cS (s x)⟩] aA:=by
    intro aA e;simp only[ct.take,me,if_true,bM,e,sI]
   have cO:∀cv∈ps,∀cf jl,cv.a= .h cf jl->cf≠x:=by
    intro cv ev cf jl e fV;have:=nH cv ev (.inl me) x (by simp[bM,I.U]);rw[e,fV]at this;simp[I.U]at this
   have rk:∀cf,cf≠x->(s cf).U=[]->du [⟨.b6,x,I.put q p.d.cS (s x)⟩] s cf=s cf:=by
    intro cf o9 aV;simp only[du,jQ,gD.at];rw[if_neg o9];exact wW (.inr (by rw[aV];simp))
   obtain⟨⟨ms,m1,m2⟩,m3⟩:=ih (du [⟨.b6,x,I.put q p.d.cS (s x)⟩] s) (λcv ev Ev=>by
    obtain⟨cf,jl,bp,sL,eV,gV,xj⟩:=hg cv (by simp[ev]) Ev;refine⟨cf,jl,bp,sL,?_,gV,xj⟩;rw[rk cf (cO cv ev cf jl sL) (K7 eV (.inr (by rw[gV.1];exact K8 gV.2)))];exact eV) oo
   refine⟨⟨[⟨.b6,x,I.put q p.d.cS (s x)⟩]++ms,?_,?_⟩,?_⟩
   .intro m hm;rcases List.mem_append.1 hm with hm|hm
    .simp only[List.mem_singleton]at hm;subst hm;exact⟨(uJ p ps).2 me x (by simp[bM,I.U]),j8⟩
    .exact⟨(uJ p ps).1 _ (m1 m hm).1,(m1 m hm).2⟩
   .intro aA eV;simp only[List.map_cons,I.dN]at eV;have e:aA x=s x:=eV x (by simp[bM,I.U]);rw[mb];show eO (p.take aA) ps=_;rw[xi aA e];exact m2 _ (dq.du eV.right _)
   .have aP:eO s (p::ps)=eO (du [⟨.b6,x,I.put q p.d.cS (s x)⟩] s) ps:=by
     show eO (p.take s) ps=_;rw[xi s rfl]
    rw[aP];intro cv ev;rcases List.mem_cons.1 ev with rfl|ev
    .intro _;refine⟨x,q,cv.d.cS,bM,?_,⟨rfl,ae⟩,b1⟩;have aI:du [⟨.b6,x,I.put q cv.d.cS (s x)⟩] s x=I.put q cv.d.cS (s x):=by
      simp only[du,jQ,gD.at,if_true]
     rw[D5 (by rw[aI];exact j8) (λTg Th af8=>?_),aI]
     .exact Kk q _ _ _ U
     .exact nH Tg Th (.inl me) x (by simp[bM,I.U])
    .exact m3 cv ev
  .have xi:∀aA:aw,p.take aA=aA:=by intro aA;simp only[ct.take,me];rfl
   obtain⟨⟨ms,m1,m2⟩,m3⟩:=ih s (λcv ev=>hg cv (by simp[ev])) oo;refine⟨⟨ms,λm hm=>⟨(uJ p ps).1 _ (m1 m hm).1,(m1 m hm).2⟩,?_⟩,?_⟩
   .intro aA eV;simp only[List.map_cons,I.dN]at eV;show eO (p.take aA) ps=_;rw[xi];exact m2 aA eV.right
   .intro cv ev;have aP:eO s (p::ps)=eO s ps:=by show eO (p.take s) ps=_;rw[xi]
    rw[aP];rcases List.mem_cons.1 ev with rfl|ev
    .intro h;exact(me h).elim
    .exact m3 cv ev
theorem Ti:∀(ps:List ct) (s:aw),(∀p∈ps,Aj s p (λd=>d=p.d.cS/\p.d.gi=true))->hP ps=true->
  (∃ms:List gD,(∀m∈ms,m.x∈qn ps/\m.d.U=[])/\∀aA,dq (I.dN (ps.map (·.a))) aA s->g_ aA ps=du ms aA):=by
 intro ps;induction ps with
 |nil=>intro s _ _;exact⟨[],by simp,λaA _=>rfl⟩
 |cons p ps ih=>
  intro s hg kb;obtain⟨oo,nH⟩:=K_ kb;by_cases me:p.g=true/\p.o≠.hole
  .obtain⟨me,Tj⟩:=me;obtain⟨x,q,d,bM,U,⟨rfl,ae⟩,b1⟩:=hg p (by simp) me;have b1:p.o.gi=true:=b1.resolve_left Tj;have j8:(I.put q p.o (s x)).U=[]:=by
    cases q with
    |nil=>simp only[I.put];exact K8 b1
    |cons k q=>exact uw _ _ _ _ U (.inr (by simp)) (by simp)
   have Ew:∀aA:aw,aA x=s x->p.ir aA=du [⟨.cE,x,I.put q p.o (s x)⟩] aA:=by
    intro aA e;simp only[ct.ir,me,if_true,bM];rw[e,J3]
   have cO:∀cv∈ps,∀cf jl,cv.a= .h cf jl->cf≠x:=by
    intro cv ev cf jl e fV;have:=nH cv ev (.inl me) x (by simp[bM,I.U]);rw[e,fV]at this;simp[I.U]at this
   obtain⟨ms,m1,m2⟩:=ih (du [⟨.cE,x,I.put q p.o (s x)⟩] s) (λcv ev Ev=>by
    obtain⟨cf,jl,bp,sL,eV,gV,xj⟩:=hg cv (by simp[ev]) Ev;refine⟨cf,jl,bp,sL,?_,gV,xj⟩;have aV:=K7 eV (.inr (by rw[gV.1];exact K9 gV.2));have rk:du [⟨.cE,x,I.put q p.o (s x)⟩] s cf=s cf:=by
     simp only[du,jQ,gD.at];rw[if_neg (cO cv ev cf jl sL)];exact wW (.inr (by rw[aV];simp))
    rw[rk];exact eV) oo
   refine⟨[⟨.cE,x,I.put q p.o (s x)⟩]++ms,?_,?_⟩
   .intro m hm;rcases List.mem_append.1 hm with hm|hm
    .simp only[List.mem_singleton]at hm;subst hm;exact⟨(uJ p ps).2 me x (by simp[bM,I.U]),j8⟩
    .exact⟨(uJ p ps).1 _ (m1 m hm).1,(m1 m hm).2⟩
   .intro aA eV;simp only[List.map_cons,I.dN]at eV;have e:aA x=s x:=eV x (by simp[bM,I.U]);rw[mb];show g_ (p.ir aA) ps=_;rw[Ew aA e];exact m2 _ (dq.du eV.right _)
  .have Ew:∀aA:aw,p.ir aA=aA:=by
    intro aA;unfold ct.ir;split
    .rename_i gZ;have:p.o= .hole:=by
      by_cases h:p.o= .hole
      .exact h
      .exact(me ⟨gZ,h⟩).elim
     rw[this]
    .rfl
   obtain⟨ms,m1,m2⟩:=ih s (λcv ev=>hg cv (by simp[ev])) oo;refine⟨ms,λm hm=>⟨(uJ p ps).1 _ (m1 m hm).1,(m1 m hm).2⟩,?_⟩;intro aA eV;simp only[List.map_cons,I.dN]at eV;show g_ (p.ir aA) ps=_;rw[Ew];exact m2 aA eV.right
theorem Tk {s aA:aw}:∀(a:I) (d:I),dq a.U aA s->view s a=some d->view aA a=some d:=by
 intro a d h;have:=D9 (s:=s) (aA:=aA) a d;intro aI;cases a with
 |h x q=>simp only[view]at aI⊢;rw[h x (by simp[I.U])];exact aI
 |an x q=>simp only[view]at aI⊢;rw[h x (by simp[I.U])];exact aI
 |fn f cap=>
  refine this (λu hu _=>h u hu) aI
 |_=>exact aI
theorem Tl {p:ct} {s aA:aw} (h:dq p.a.U aA s) (e7:p.ok s):p.ok aA:=by
 unfold ct.ok at e7⊢;split
 .rename_i hg;rw[if_pos hg]at e7;cases bM:p.a with
  |h x q=>
   rw[bM]at e7;simp only at e7⊢;rw[h x (by simp[bM,I.U])];exact e7
  |_=>rw[bM]at e7;exact e7.elim
 .rename_i hg;rw[if_neg hg]at e7;exact Tk _ _ h e7
def Ak (C:bW) (o:b7) (s:aw) (kE:e8) (ms:List gD):Prop:=
 (∀aA,dq kE.cQ aA s->∀K:aw->Prop,K (du ms aA)->lS C aA o K)/\(∀m∈ms,m.x∈kE.T/\∀u∈m.d.U,u∈kE.H)/\(∀u∈kE.cQ,∀x∈(s u).U,x∈kE.H)/\(kE.c=true->∀u∈kE.cQ,(s u).clean=true)
theorem La (dst:Option Nat) (av:I):∃ms:List gD,(∀m∈ms,m.x∈dst.toList/\m.d=av)/\∀s1:aw,fin s1 dst av=du ms s1:=by
 cases dst with
 |none=>exact⟨[],by simp,λs=>rfl⟩
 |some t=>
  simp only[fin];by_cases h:av.plain=true
  .exact⟨[⟨.no,t,av⟩],by simp,λs=>by rw[if_pos h,J4]⟩
  .exact⟨[⟨.cE,t,av⟩],by simp,λs=>by rw[if_neg h,J3]⟩
theorem Al {s:aw} {cQ:ahw} {dst:Option Nat} {cH:ahw} {av:I}:(∀u∈(iI s cQ dst cH av).cQ,∀x∈(s u).U,x∈(iI s cQ dst cH av).H)/\((iI s cQ dst cH av).c=true->∀u∈(iI s cQ dst cH av).cQ,(s u).clean=true):=by
 refine⟨λu hu x ar=>?_,λai=>?_⟩
 .simp only[iI,List.mem_append,List.mem_flatMap];exact .inl ⟨u,hu,ar⟩
 .simp only[iI,List.all_eq_true]at ai;exact ai
theorem Lb {s:aw} {f:bb} {args:List bb} {K:ahw->I->aw->Prop} (h:K5 C s f args K):
  ∃cH av ms,K cH av (du ms s)/\(∀m∈ms,m.x∈cH/\m.d.U=[])/\∀aA,dq (use s (.call f args)) aA s->∀de:I->aw->Prop,de av (du ms aA)->Ea C aA f args de:=by
 obtain⟨g,caps,ps,r,ab,gN,ad,aC,aW,bu,cy,cl,fM⟩:=h;have Tm:∀p∈ps,Aj s p (λd=>d=p.d/\p.d.gi=true):=by
  intro p an hg;have:=aC p an;simp only[ct.ok,hg,if_true]at this;cases bM:p.a with
  |h x q=>rw[bM]at this;exact⟨x,q,p.d,rfl,this.1,⟨rfl,this.2.1⟩,this.2.2.imp id λh=>h.1⟩
  |_=>rw[bM]at this;exact this.elim
 obtain⟨⟨om,J,a2⟩,a3⟩:=Tf ps s Tm aW;obtain⟨re,iC,gA⟩:=Ti ps (eO s ps) a3 aW;have pc:∀u∈I.dN (ps.map (·.a)),u∈use s (.call f args):=by
  rw[ad];intro u hu;simp only[use,List.mem_append];have key:∀(gh l2:ahB),u∈I.dN (gh++l2)->u∈I.dN gh\/u∈I.dN l2:=by
   intro gh;induction gh with
   |nil=>intro l2 h;exact .inr h
   |cons a gh ih=>
    intro l2 h;simp only[List.cons_append,I.dN,List.mem_append]at h⊢;rcases h with h|h
    .exact .inl (.inl h)
    .exact(ih l2 h).imp .inr id
  rcases key _ _ hu with hu|hu
  .exact .inr (bb.zV u hu)
  .refine .inl (bb.sJ u ?_);rw[ab];exact hu
 have fE:g_ (eO s ps) ps=du (om++re) s:=by
  rw[mb,<-a2 s (λ_ _=>rfl),gA _ (λ_ _=>rfl)]
 refine⟨qn ps,r,om++re,by rw[<-fE];exact fM,?_,?_⟩
 .intro m hm;rcases List.mem_append.1 hm with hm|hm
  .exact J m hm
  .exact iC m hm
 .intro aA U de aq;have qh:dq (I.dN (ps.map (·.a))) aA s:=U.sub pc;have bd:dq (f.use s) aA s:=by simp only[use]at U;exact U.left
  have ar:dq (bb.oj s args) aA s:=by simp only[use]at U;exact U.right
  have aP:g_ (eO aA ps) ps=du (om++re) aA:=by
   rw[mb,<-a2 aA qh,gA];rw[a2 aA qh,a2 s (λ_ _=>rfl)];exact dq.du qh _
  exact⟨g,caps,ps,r,by rw[bb.fQ bd];exact ab,gN,by rw[bb.DV ar];exact ad,λp an=>Tl (qh.sub (Te an)) (aC p an),aW,bu,cy,cl,by rw[aP];exact aq⟩
mutual
theorem Lc {s aA:aw}:∀(d:I),dq d.U aA s->d.fh aA=d.fh s
 | .h x q,h=>by simp only[I.fh];rw[h x (by simp[I.U])]
 | .R x q,h=>by simp only[I.fh];rw[h x (by simp[I.U])]
 | .fn f cap,h=>by simp only[I.fh];exact Ld cap (by simpa only[I.U]using h)
 | .an _ _,_=>by simp only[I.fh]
 | .hole,_=>by simp only[I.fh]
 | .bool _,_=>by simp only[I.fh]
 | .fw,_=>by simp only[I.fh]
 | .int _ _,_=>by simp only[I.fh]
 | .str _,_=>by simp only[I.fh]
 | .dr,_=>by simp only[I.fh]
 | .bf,_=>by simp only[I.fh]
 | .slice _,_=>by simp only[I.fh]
 | .ao _ _,_=>by simp only[I.fh]
 | .ref _,_=>by simp only[I.fh]
 | .a1 _,_=>by simp only[I.fh]
 | .agg _,_=>by simp only[I.fh]
 | .tuple _,_=>by simp only[I.fh]
 | .dK _,_=>by simp only[I.fh]
 | .fD _ _,_=>by simp only[I.fh]
theorem Ld {s aA:aw}:∀(ds:ahB),dq (I.dN ds) aA s->I.nJ aA ds=I.nJ s ds
 |[],_=>rfl
 |d::ds,h=>by
  simp only[I.dN]at h;simp only[I.nJ];rw[Lc d h.left,Ld ds h.right]
end
theorem Ex {s aA:aw} {us:ahw} (h:dq (us.flatMap λu=>u::(s u).U) aA s):iX aA us=iX s us:=by
 unfold iX;refine List.map_congr_left λu hu=>?_;rw[h u (List.mem_flatMap.2 ⟨u,hu,by simp⟩)]
theorem Ey {s aA:aw}:∀(L:ahA),(∀p∈L,dq p.2.U aA s)->lo aA L=lo s L
 |[],_=>rfl
 |p::L,h=>by
  simp only[lo];rw[Lc p.2 (h p (by simp)),Ey L (λq b_=>h q (by simp[b_]))]
theorem Le:∀(L:ahA) (s:aw),mA s L=du (L.map λp=>⟨.no,p.1,p.2⟩) s
 |[],s=>rfl
 |p::L,s=>by
  simp only[mA,List.map_cons];rw[Le L,J4];exact(mb [⟨.no,p.1,p.2⟩] _ s).symm
theorem Tn {s:aw} {bG:dQ} {K:ahw->I->aw->Prop} (h:nM C s bG K):
  ∃cH av ms,K cH av (du ms s)/\(∀m∈ms,m.x∈cH/\∀v∈m.d.U,∃u∈use s bG,v∈(s u).U)/\∀aA,dq (use s bG) aA s->∀de:I->aw->Prop,de av (du ms aA)->nK C aA bG de:=by
 have plain:(∃av s1,bX C s bG=some (av,s1)/\K (nF s bG) av s1)->(∀aA (de:I->aw->Prop) av s1,bX C aA bG=some (av,s1)->de av s1->nK C aA bG de)->
   ∃cH av ms,K cH av (du ms s)/\(∀m∈ms,m.x∈cH/\∀v∈m.d.U,∃u∈use s bG,v∈(s u).U)/\∀aA,dq (use s bG) aA s->∀de:I->aw->Prop,de av (du ms aA)->nK C aA bG de:=by
  rintro⟨av,s1,ab,ad⟩ hw;obtain⟨ms,aP,aT,aR⟩:=Kj ab;subst aP;exact⟨_,av,ms,ad,λm hm=>⟨(aT m hm).1,λv aI=>by rw[(aT m hm).2]at aI;cases aI⟩,λaA U de aq=>hw aA de av _ (aR aA U) aq⟩
 cases bG with
 |call f args=>
  obtain⟨cH,av,ms,J,a2,a3⟩:=Lb h;exact⟨cH,av,ms,J,λm hm=>⟨(a2 m hm).1,λv aI=>by rw[(a2 m hm).2]at aI;cases aI⟩,λaA U de aq=>a3 aA U de aq⟩
 |kd f args us=>
  obtain⟨cc,ai⟩:=h;obtain⟨cH,av,ms,⟨J,To⟩,a2,a3⟩:=Lb ai;have e:∀aA:aw,mA (du ms aA) (iX s us)=du (ms++(iX s us).map λp=>⟨.no,p.1,p.2⟩) aA:=λaA=>by rw[mb,Le]
  have gy:∀{aA:aw},dq (us.flatMap λu=>u::(s u).U) aA s->∀p∈iX s us,dq p.2.U aA s:=λ{aA} U p an v aI=>by
   obtain⟨u,hu,rfl⟩:=List.mem_map.1 an;exact U v (List.mem_flatMap.2 ⟨u,hu,by simp[aI]⟩)
  refine⟨us++cH,av,ms++(iX s us).map λp=>⟨.no,p.1,p.2⟩,by rw[<-e];exact To,?_,?_⟩
  .intro m hm;rcases List.mem_append.1 hm with hm|hm
   .exact⟨by simp[(a2 m hm).1],λv aI=>by rw[(a2 m hm).2]at aI;cases aI⟩
   .obtain⟨p,an,rfl⟩:=List.mem_map.1 hm;obtain⟨u,hu,rfl⟩:=List.mem_map.1 an;exact⟨List.mem_append_left _ hu,λv aI=>⟨u,by simp only[use,List.mem_append,List.mem_flatMap];exact .inl ⟨u,hu,by simp⟩,aI⟩⟩
  .intro aA U de aq;simp only[use]at U;refine⟨by rw[Ex U.left,Ey _ (gy U.left)];exact cc,a3 aA U.right _ ⟨?_,?_⟩⟩
   .rw[Ex U.left,Ey _ (λp an=>(gy U.left p an).du ms)];exact J
   .rw[Ex U.left,e];exact aq
 |shr bG=>
  obtain⟨av,s1,ab,ad,aC,aW⟩:=h;obtain⟨ms,aP,aT,aR⟩:=Kj ab;subst aP;exact⟨_,av.share,ms,aW,λm hm=>⟨(aT m hm).1,λv aI=>by rw[(aT m hm).2]at aI;cases aI⟩,λaA U de aq=>⟨av,_,aR aA U,ad,aC,aq⟩⟩
 |_=>exact plain h (λaA de av s1 ab ad=>⟨av,s1,ab,ad⟩)
theorem Tp {s:aw} {o:b7} {K:e8->aw->Prop} (h:na C s o K):∃kE ms,K kE (du ms s)/\Ak C o s kE ms:=by
 have op:∀(cQ:ahw),(∀u∈use s o.bG,u∈cQ)->(∀aA,dq cQ aA s->∀de:aw->Prop,nK C aA o.bG (λav s1=>de (fin s1 o.dst av))->lS C aA o de)->
   nM C s o.bG (λcH av s1=>K (iI s cQ o.dst cH av) (fin s1 o.dst av))->∃kE ms,K kE (du ms s)/\Ak C o s kE ms:=by
  intro cQ pc fo hw;obtain⟨cH,av,ms,ab,ad,aC⟩:=Tn hw;obtain⟨kX,nN,bB⟩:=La o.dst av;refine⟨iI s cQ o.dst cH av,ms++kX,?_,?_,?_,Al.1,Al.2⟩
  .rw[mb,<-bB];exact ab
  .intro aA U de aq;refine fo aA U de (aC aA (U.sub pc) _ ?_);rw[bB,<-mb];exact aq
  .intro m hm;simp only[iI,List.mem_append];rcases List.mem_append.1 hm with hm|hm
   .refine⟨.inr (ad m hm).1,λv aI=>.inl ?_⟩;obtain⟨u,hu,l8⟩:=(ad m hm).2 v aI;exact List.mem_flatMap.2 ⟨u,pc u hu,l8⟩
   .exact⟨.inl (nN m hm).1,λu hu=>.inr (by rw[(nN m hm).2]at hu;exact hu)⟩
 have skip:∀t,(∀aA,dq [t] aA s->∀de:aw->Prop,de (fin aA o.dst (.tuple []))->lS C aA o de)->K (iI s [t] o.dst [] (.tuple [])) (fin s o.dst (.tuple []))->∃kE ms,K kE (du ms s)/\Ak C o s kE ms:=by
  intro t fo aq;obtain⟨kX,nN,bB⟩:=La o.dst (.tuple []);refine⟨_,kX,by rw[<-bB];exact aq,?_,?_,Al.1,Al.2⟩
  .intro aA U de kV;exact fo aA U de (by rw[bB];exact kV)
  .intro m hm;simp only[iI,List.mem_append];exact⟨.inl (nN m hm).1,λu hu=>by rw[(nN m hm).2]at hu;simp[I.U]at hu⟩
 unfold na at h;split at h
 .rename_i hg;exact op _ (λ_ h=>h) (λaA _ de hw=>by unfold lS;rw[hg];exact hw) h
 .rename_i t b hg;split at h
  .rename_i ff R;split at h
   .rename_i e;refine op (t::use s o.bG) (λu hu=>by simp[hu]) (λaA U de hw=>?_) h;have:aA t=s t:=U t (by simp);unfold lS;rw[hg];simp only[this,R,if_pos e];exact hw
   .rename_i e;refine skip t (λaA U de aq=>?_) h;have:aA t=s t:=U t (by simp);unfold lS;rw[hg];simp only[this,R,if_neg e];exact aq
  .rename_i R;refine skip t (λaA U de aq=>?_) h;have:aA t=s t:=U t (by simp);unfold lS;rw[hg];simp only[this,R];exact aq
  .exact h.elim
def ru (C:bW) (ros:List b7):aw->List (Nat×e8×List gD)->Prop
 |_,[]=>True
 |s,e::r=>(∃o,ros[e.1]? =some o/\Ak C o s e.2.1 e.2.2)/\ru C ros (du e.2.2 s) r
def ox (s:aw) (r:List (Nat×e8×List gD)):aw:=r.foldl (λs e=>du e.2.2 s) s
def nA (a b:ahw):Bool:=a.all λx=> !b.contains x
theorem uK {a b:ahw} (h:nA a b=true):∀x∈a,x∉b:=by
 intro x ar;simp only[nA,List.all_eq_true]at h;simpa using h x ar
def sS (a b:e8):Bool:=nA b.T a.cQ&&nA b.T a.H&&nA b.T a.T&&nA a.T b.cQ&&nA a.T b.H&&b.c
theorem Tq {ros:List b7} {s:aw} {a b:Nat×e8×List gD} {r:List (Nat×e8×List gD)} (h:ru C ros s (a::b::r)) (ak:sS a.2.1 b.2.1=true):
  ru C ros s (b::a::r)/\ox s (b::a::r)=ox s (a::b::r):=by
 obtain⟨⟨Tr,bM,J,a2,a3,a4⟩,⟨dK,R,iC,gA,iE,bO⟩,aH⟩:=h;simp only[sS,Bool.and_eq_true]at ak;obtain⟨⟨⟨⟨⟨q2,i2⟩,i3⟩,i4⟩,i5⟩,CZ⟩:=ak;have Ez:∀u∈b.2.1.cQ,du a.2.2 s u=s u:=by
  intro u hu;refine S_ _ _ _ (λm hm e=>?_) (bO CZ u hu);exact uK i4 m.x (a2 m hm).1 (e▸hu)
 have EA:∀u∈a.2.1.cQ,du b.2.2 s u=s u:=by
  intro u hu;refine Ta _ _ _ λm hm=>⟨λe=>?_,λar=>?_⟩
  .exact uK q2 m.x (gA m hm).1 (e▸hu)
  .exact uK i2 m.x (gA m hm).1 (a3 u hu _ ar)
 have Lf:du b.2.2 (du a.2.2 s)=du a.2.2 (du b.2.2 s):=by
  refine Tc _ _ _ λm hm n aU=>⟨λe=>?_,λh=>?_,λh=>?_⟩
  .exact uK i3 n.x (gA n aU).1 (e▸(a2 m hm).1)
  .exact uK i2 n.x (gA n aU).1 ((a2 m hm).2 _ h)
  .exact uK i5 m.x (a2 m hm).1 ((gA n aU).2 _ h)
 refine⟨⟨⟨dK,R,?_,gA,?_,?_⟩,⟨Tr,bM,?_,a2,?_,?_⟩,?_⟩,?_⟩
 .intro aA U K aq;exact iC aA (λu hu=>(U u hu).trans (Ez u hu).symm) K aq
 .intro u hu x ar;exact iE u hu x (by rw[Ez u hu];exact ar)
 .intro ai u hu;have:=bO ai u hu
  rwa [Ez u hu]at this
 .intro aA U K aq;exact J aA (λu hu=>(U u hu).trans (EA u hu)) K aq
 .intro u hu x ar;rw[EA u hu]at ar;exact a3 u hu x ar
 .intro ai u hu;rw[EA u hu];exact a4 ai u hu
 .rw[<-Lf];exact aH
 .simp only[ox,List.foldl_cons];rw[Lf]
theorem Ts {ros:List b7} {e:Nat×e8×List gD} {post:List (Nat×e8×List gD)}:∀(pre:List (Nat×e8×List gD)) (s:aw),ru C ros s (pre++e::post)->(∀a∈pre,sS a.2.1 e.2.1=true)->
  ru C ros s (e::(pre++post))/\ox s (e::(pre++post))=ox s (pre++e::post):=by
 intro pre;induction pre with
 |nil=>intro s h _;exact⟨h,rfl⟩
 |cons a pre ih=>
  intro s h ak;obtain⟨ab,ad⟩:=h;obtain⟨g1,g2⟩:=ih _ ad λb R=>ak b (by simp[R]);have ai:ru C ros s (a::e::(pre++post)):=⟨ab,g1⟩
  obtain⟨bN,cc⟩:=Tq ai (ak a (by simp));refine⟨bN,cc.trans ?_⟩;simp only[ox,List.foldl_cons,List.cons_append]at g2⊢;exact g2
end
def xk:ahu->ahu->ahu
 |done,[]=>done
 |done,a::r=>xk (done++[a++a.flatMap λe=>(done[e]?).getD []]) r
def nO (ew:ahu):ahu:=xk [] ew
theorem Tt {ew:ahu} {l:ahw} (hl:∀u i v,l=u++i::v->∀e∈(ew[i]?).getD [],e∈u):∀(rest pre done:ahu),ew=pre++rest->done.length=pre.length->
  (∀u i v,l=u++i::v->∀e∈(done[i]?).getD [],e∈u)->∀u i v,l=u++i::v->∀e∈((xk done rest)[i]?).getD [],e∈u:=by
 intro rest;induction rest with
 |nil=>intro pre done _ _ h;exact h
 |cons a rest ih=>
  intro pre done Lg hlen h;simp only[xk];refine ih (pre++[a]) _ (by simp[Lg]) (by simp[hlen]) ?_;intro u i v hu e he;by_cases ak:i<done.length
  .rw[List.getElem?_append_left ak]at he;exact h u i v hu e he
  .rw[List.getElem?_append_right (by omega)]at he;by_cases J1:i-done.length=0
   .rw[J1]at he;simp only[List.getElem?_cons_zero,Option.getD_some,List.mem_append,List.mem_flatMap]at he;have Am:(ew[i]?).getD []=a:=by
     have:i=pre.length:=by omega
     rw[Lg,this,List.getElem?_append_right (Nat.le_refl _)];simp
    rcases he with he|⟨fV,mZ,he⟩
    .exact hl u i v hu e (by rw[Am];exact he)
    .have wY:=hl u i v hu fV (by rw[Am];exact mZ);obtain⟨uL,EB,rfl⟩:=List.append_of_mem wY;have:=h uL fV (EB++i::v) (by rw[hu];simp) e he;simp[this]
   .rw[List.getElem?_eq_none (by simp;omega)]at he;simp at he
theorem Tu {ew:ahu} {l:ahw} (hl:∀u i v,l=u++i::v->∀e∈(ew[i]?).getD [],e∈u):∀u i v,l=u++i::v->∀e∈((nO ew)[i]?).getD [],e∈u:=
 Tt hl ew [] [] rfl rfl λu i v _ e he=>by simp at he
def kf (mD:ahu):Nat->List (Nat×e8)->List e8->Bool
 |_,_,[]=>true
 |j,es,f::az=>(es.all λe=>((mD[j]?).getD []).contains e.1||sS e.2 f)&&kf mD (j+1) ((j,f)::es) az
def EC (mD:ahu) (a b:Nat×e8×List gD):Prop:=a.1∈(mD[b.1]?).getD []\/sS a.2.1 b.2.1=true
theorem Tv {mD:ahu}:∀(ha:List (Nat×e8×List gD)) (j:Nat) (es:List (Nat×e8)),ha.map (·.1)=(List.range ha.length).map (·+j)->kf mD j es (ha.map (·.2.1))=true->
  ha.Pairwise (EC mD)/\∀e∈es,∀b∈ha,e.1∈(mD[b.1]?).getD []\/sS e.2 b.2.1=true:=by
 intro ha;induction ha with
 |nil=>intro j es _ _;exact⟨.nil,λe _ b R=>by cases R⟩
 |cons a ha ih=>
  intro j es sT e7;rw[List.length_cons,List.range_succ_eq_map,List.map_cons,List.map_cons,List.map_map]at sT;simp only[List.cons.injEq,Nat.zero_add]at sT;obtain⟨bQ,sT⟩:=sT;simp only[List.map_cons,kf,Bool.and_eq_true,List.all_eq_true,Bool.or_eq_true]at e7;obtain⟨ab,ad⟩:=e7;obtain⟨g1,g2⟩:=ih (j+1) _ (by rw[sT];congr 1;funext x;simp;omega) ad;refine⟨.cons (λb R=>?_) g1,λe he b R=>?_⟩
  .have:=g2 (j,a.2.1) (by simp) b R;simp only[EC,bQ];exact this
  .rcases List.mem_cons.1 R with rfl|R
   .rw[bQ];exact(ab e he).imp (λh=>by simpa using h) id
   .exact g2 e (by simp[he]) b R
section
variable {C:bW}
theorem Tw {K:Option (List e8)->aw->Prop}:∀(os pre:List b7) (s:aw) (acc:List e8),dj C s os (some acc) K->
  ∃ha,ru C (pre++os) s ha/\ha.map (·.1)=(List.range os.length).map (·+pre.length)/\K (some ((ha.map (·.2.1)).reverse++acc)) (ox s ha):=by
 intro os;induction os with
 |nil=>intro pre s acc h;exact⟨[],trivial,rfl,h⟩
 |cons o os ih=>
  intro pre s acc h;obtain⟨kE,ms,ab,ad⟩:=Tp h;obtain⟨ha,g1,g2,g3⟩:=ih (pre++[o]) _ (kE::acc) ab;refine⟨(pre.length,kE,ms)::ha,⟨⟨o,?_,ad⟩,?_⟩,?_,?_⟩
  .rw[List.getElem?_append_right (Nat.le_refl _)];simp
  .simpa using g1
  .rw[List.length_cons,List.range_succ_eq_map,List.map_cons,List.map_cons,List.map_map,g2];simp only[List.cons.injEq,Nat.zero_add,true_and];congr 1;funext x;simp;omega
  .simpa [ox]using g3
theorem Tx {ros:List b7} {mD:ahu} {K:aw->Prop}:∀(l:ahw) (ha:List (Nat×e8×List gD)) (s:aw),ru C ros s ha->ha.Pairwise (EC mD)->l.Nodup->(ha.map (·.1)).Nodup->
  (∀i,i∈l↔i∈ha.map (·.1))->(∀u i v,l=u++i::v->∀e∈(mD[i]?).getD [],e∈ha.map (·.1)->e∈u)->K (ox s ha)->jT C ros s l K:=by
 intro l;induction l with
 |nil=>
  intro ha s _ _ _ _ hm _ aq;cases ha with
  |nil=>exact aq
  |cons e ha=>have:=(hm e.1).2 (by simp);cases this
 |cons i l ih=>
  intro ha s ai an aU rf hm b1 aq;obtain⟨e,he,ak⟩:=List.mem_map.1 ((hm i).1 (by simp));obtain⟨pre,post,rfl⟩:=List.append_of_mem he;have Ty:∀a∈pre,sS a.2.1 e.2.1=true:=by
   intro a bM;have aH:=(List.pairwise_append.1 an).2.2 a bM e (by simp);rcases aH with aH|aH
   .rw[ak]at aH;have:=b1 [] i l rfl a.1 aH (by simp only[List.map_append,List.mem_append,List.mem_map];exact .inl ⟨a,bM,rfl⟩);cases this
   .exact aH
  obtain⟨g1,g2⟩:=Ts pre s ai Ty;obtain⟨⟨o,Tz,sN⟩,g3⟩:=g1;have Lh:i∉(pre++post).map (·.1):=by
   have:(pre.map (·.1)++e.1::post.map (·.1)).Nodup:=by simpa using rf
   have bc:=(List.perm_middle.nodup_iff.1 this)
   rw[List.nodup_cons]at bc;rw[<-ak];simpa using bc.1
  simp only[jT];rw[<-ak,Tz];refine sN.1 s (λ_ _=>rfl) _ ?_;rw[List.nodup_cons]at aU;refine ih (pre++post) _ g3 ?_ aU.2 ?_ ?_ ?_ ?_
  .exact an.sublist ((List.Sublist.refl pre).append (List.sublist_cons_self e post))
  .have:(pre.map (·.1)++e.1::post.map (·.1)).Nodup:=by simpa using rf
   have bc:=(List.perm_middle.nodup_iff.1 this)
   rw[List.nodup_cons]at bc;simpa using bc.2
  .intro j;constructor
   .intro bQ;have ab:=(hm j).1 (by simp[bQ]);simp only[List.map_append,List.map_cons,List.mem_append,List.mem_cons]at ab⊢;rcases ab with ab|rfl|ab
    .exact .inl ab
    .exact(aU.1 (ak▸bQ)).elim
    .exact .inr ab
   .intro bQ;have ab:=(hm j).2 (by
     simp only[List.map_append,List.map_cons,List.mem_append,List.mem_cons]at bQ⊢;exact bQ.imp id .inr)
    rcases List.mem_cons.1 ab with rfl|ab
    .exact(Lh bQ).elim
    .exact ab
  .intro u j v hu x ar ED;have ab:=b1 (i::u) j v (by rw[hu];rfl) x ar (by
    simp only[List.map_append,List.map_cons,List.mem_append,List.mem_cons]at ED⊢;exact ED.imp id .inr)
   rcases List.mem_cons.1 ab with rfl|ab
   .exact(Lh ED).elim
   .exact ab
  .have:ox s (e::(pre++post))=ox (du e.2.2 s) (pre++post):=rfl;rw[<-this,g2];exact aq
theorem Li {ros:List b7} {ew:ahu} {s:aw} {K:aw->Prop} (hlen:ew.length=ros.length)
  (h:dj C s ros (some []) (λacc s=>kf (nO ew) 0 [] (acc.getD []).reverse=true/\K s)):∀l,Eg ew l->jT C ros s l K:=by
 intro l ⟨gh,l2,w1⟩;obtain⟨ha,g1,g2,g3,g4⟩:=Tw ros [] s [] h;simp only[List.nil_append,List.append_nil,List.length_nil,Option.getD_some,List.reverse_reverse]at g1 g2 g3;have hl:ha.length=ros.length:=by have:=congrArg List.length g2;simpa using this
 have sT:ha.map (·.1)=(List.range ha.length).map (·+0):=by rw[g2,hl]
 have aH:ha.map (·.1)=List.range ros.length:=by rw[g2];simp
 obtain⟨fl,_⟩:=Tv ha 0 [] sT g3;refine Tx l ha s g1 fl gh (by rw[aH];exact List.nodup_range) (λi=>?_) (λu i v hu e he _=>Tu w1 u i v hu e he) g4;rw[aH,l2,hlen,List.mem_range]
end
def uM (C:bW) (dst:Option Nat) (os:List b7) (K:Option (List e8)->aw->Prop):Option (I×aw)->Prop
 |some (av,s1)=>dj C (fin s1 dst av) os none K
 |none=>False
def xl (C:bW) (l:ahA) (cQ cH:ahw) (dst:Option Nat) (os:List b7) (a:List e8) (K:Option (List e8)->aw->Prop):Option (I×aw)->Prop
 |some (av,s1)=>dj C (fin s1 dst av) os (some (iI (ax l) cQ dst cH av::a)) K
 |none=>False
def lq (C:bW) (l:ahA) (dst:Option Nat) (bG:dQ) (t:Nat) (b:Bool) (os:List b7) (acc:Option (List e8)) (K:Option (List e8)->aw->Prop):I->Prop
 | .bool ff=>if ff=b then nM C (ax l) bG (λcH av s1=>dj C (fin s1 dst av) os (pq acc (iI (ax l) (t::use (ax l) bG) dst cH av)) K)else dj C (fin (ax l) dst (.tuple [])) os (pq acc (iI (ax l) [t] dst [] (.tuple []))) K
 | .tuple []=>dj C (fin (ax l) dst (.tuple [])) os (pq acc (iI (ax l) [t] dst [] (.tuple []))) K
 |_=>False
section
variable {C:bW} {l:ahA} {os:List b7} {K:Option (List e8)->aw->Prop} {dst:Option Nat} {a:List e8} {acc:Option (List e8)}
theorem An {s:aw} {bG:dQ} {K:ahw->I->aw->Prop} (aU:bG.hT=false):nM C s bG K=(match bX C s bG with
  |some (av,s1)=>K (nF s bG) av s1
  |none=>False):=by
 apply propext;constructor
 .intro h;cases bG<;>first
   |(simp[dQ.hT]at aU;done)
   |(obtain⟨av,s1,ab,ad⟩:=h;rw[ab];exact ad)
 .intro h;split at h
  .rename_i av s1 he;cases bG<;>first
    |(simp[dQ.hT]at aU;done)
    |exact⟨av,s1,he,h⟩
  .exact h.elim
theorem Lj:dj C (ax l) [] acc K=K acc (ax l):=rfl
theorem EE {bG:dQ} (aU:bG.hT=false):dj C (ax l) (⟨dst,bG,none⟩::os) none K=uM C dst os K (bX C (ax l) bG):=by
 simp only[dj,na,pq];rw[An aU];cases bX C (ax l) bG with
 |none=>rfl
 |some p=>rfl
theorem Lk {bG:dQ} (aU:bG.hT=false):dj C (ax l) (⟨dst,bG,none⟩::os) (some a) K=xl C l (use (ax l) bG) (nF (ax l) bG) dst os a K (bX C (ax l) bG):=by
 simp only[dj,na,pq];rw[An aU];cases bX C (ax l) bG with
 |none=>rfl
 |some p=>rfl
theorem Ll {bG:dQ} {t:Nat} {b:Bool}:dj C (ax l) (⟨dst,bG,some (t,b)⟩::os) acc K=lq C l dst bG t b os acc K (ax l t):=by
 simp only[dj,na];generalize ax l t=v;cases v<;>first|rfl|(rename_i vs;cases vs<;>rfl)
theorem Lm {bG:dQ} {t:Nat} {b:Bool} (aU:bG.hT=false):lq C l dst bG t b os none K (.bool b)=uM C dst os K (bX C (ax l) bG):=by
 simp only[lq,if_true];rw[An aU];cases bX C (ax l) bG with
 |none=>rfl
 |some p=>rfl
theorem Ln {bG:dQ} {t:Nat} {b:Bool} (aU:bG.hT=false):lq C l dst bG t b os (some a) K (.bool b)=xl C l (t::use (ax l) bG) (nF (ax l) bG) dst os a K (bX C (ax l) bG):=by
 simp only[lq,if_true];rw[An aU];cases bX C (ax l) bG with
 |none=>rfl
 |some p=>rfl
theorem TA {bG:dQ} {t:Nat}:lq C l dst bG t true os none K (.bool false)=dj C (fin (ax l) dst (.tuple [])) os none K/\lq C l dst bG t false os none K (.bool true)=dj C (fin (ax l) dst (.tuple [])) os none K/\
  (∀b,lq C l dst bG t b os none K (.tuple [])=dj C (fin (ax l) dst (.tuple [])) os none K):=⟨rfl,rfl,λ_=>rfl⟩
theorem TB {bG:dQ} {t:Nat}:lq C l dst bG t true os (some a) K (.bool false)=dj C (fin (ax l) dst (.tuple [])) os (some (iI (ax l) [t] dst [] (.tuple [])::a)) K/\
  lq C l dst bG t false os (some a) K (.bool true)=dj C (fin (ax l) dst (.tuple [])) os (some (iI (ax l) [t] dst [] (.tuple [])::a)) K/\
  (∀b,lq C l dst bG t b os (some a) K (.tuple [])=dj C (fin (ax l) dst (.tuple [])) os (some (iI (ax l) [t] dst [] (.tuple [])::a)) K):=⟨rfl,rfl,λ_=>rfl⟩
theorem TC (av:I) (s1:aw):uM C dst os K (some (av,s1))=dj C (fin s1 dst av) os none K:=rfl
theorem TD (cQ cH:ahw) (av:I) (s1:aw):xl C l cQ cH dst os a K (some (av,s1))=dj C (fin s1 dst av) os (some (iI (ax l) cQ dst cH av::a)) K:=rfl
def Ao (s:aw):I->Option (I×aw)
 | .h y q=>cH s (.h y q)
 |d=>some (d,s)
def Lo (s:aw):I->I->I->Option (I×aw)
 | .bool ff,x,y=>some (if ff then x else y,s)
 |_,_,_=>none
def kF (s:aw):Option I->Option (I×aw)
 |some d=>some (d,s)
 |none=>none
def cP:Option aw->Option (I×aw)
 |some s1=>some (.hole,s1)
 |none=>none
def jo (s:aw):List bb->ahB
 |[]=>[]
 |x::xs=>bj s x::jo s xs
def rv (s:aw):List (Nat×bb)->ahA
 |[]=>[]
 |(k,x)::xs=>(k,bj s x)::rv s xs
def xm (s:aw):Option bb->Option I
 |none=>none
 |some x=>some (bj s x)
theorem Lp (s:aw) (x:Option I):(x.map λd=>(d,s))=kF s x:=by cases x<;>rfl
theorem TE (x:Option aw):(x.map λs1=>(I.hole,s1))=cP x:=by cases x<;>rfl
theorem uN (s:aw):∀xs:List bb,xs.map (bj s)=jo s xs
 |[]=>rfl
 |x::xs=>by simp only[List.map_cons,jo,uN s xs]
theorem Lq (s:aw):∀xs:List (Nat×bb),(xs.map λp=>(p.1,bj s p.2))=rv s xs
 |[]=>rfl
 |(k,x)::xs=>by simp only[List.map_cons,rv,Lq s xs]
theorem TF (s:aw) (x:Option bb):x.map (bj s)=xm s x:=by cases x<;>rfl
theorem Lr:(∀x,dQ.hT (.gC x)=false)/\
  (∀x,dQ.hT (.kc x)=false)/\
  (∀c x y,dQ.hT (.pick c x y)=false)/\
  (∀T,dQ.hT (.ka T)=false)/\
  (∀T x,dQ.hT (.ht T x)=false)/\
  (∀T ps,dQ.hT (.gr T ps)=false)/\
  (∀T n ps,dQ.hT (.f_ T n ps)=false)/\
  (∀T x,dQ.hT (.e3 T x)=false)/\
  (∀T x y,dQ.hT (.iA T x y)=false)/\
  (∀x,dQ.hT (.kz x)=false)/\
  (∀op T x y,dQ.hT (.el op T x y)=false)/\
  (∀op x,dQ.hT (.un op x)=false)/\
  (∀A B x,dQ.hT (.iD A B x)=false)/\
  (∀f cs,dQ.hT (.mx f cs)=false)/\
  (∀T x y,dQ.hT (.en T x y)=false)/\
  (∀T x eN ak,dQ.hT (.gY T x eN ak)=false)/\
  (∀T x k,dQ.hT (.gW T x k)=false)/\
  (∀T x y,dQ.hT (.iz T x y)=false)/\
  (∀T x y,dQ.hT (.idx T x y)=false)/\
  (∀x k,dQ.hT (.ex x k)=false)/\
  (∀T x,dQ.hT (.len T x)=false)/\
  (∀T cQ x y,dQ.hT (.app T cQ x y)=false):=by
 and_intros<;>intros<;>rfl
theorem Ls:(∀x,bX C (ax l) (.gC x)=some (bj (ax l) x,ax l))/\
  (∀x,bX C (ax l) (.kc x)=Ao (ax l) (bj (ax l) x))/\
  (∀c x y,bX C (ax l) (.pick c x y)=Lo (ax l) (bj (ax l) c) (bj (ax l) x) (bj (ax l) y))/\
  (∀T,bX C (ax l) (.ka T)=kF (ax l) (ka C T))/\
  (∀T x,bX C (ax l) (.ht T x)=ht (ax l) (bj (ax l) x))/\
  (∀T ps,bX C (ax l) (.gr T ps)=gr C (ax l) T (rv (ax l) ps))/\
  (∀T n ps,bX C (ax l) (.f_ T n ps)=f_ C (ax l) T n (rv (ax l) ps))/\
  (∀T x,bX C (ax l) (.e3 T x)=kF (ax l) (e3 C (ax l) T (bj (ax l) x)))/\
  (∀T x y,bX C (ax l) (.iA T x y)=cP (iA C (ax l) T (bj (ax l) x) (bj (ax l) y)))/\
  (∀x,bX C (ax l) (.kz x)=kF (ax l) (kz (ax l) (bj (ax l) x)))/\
  (∀op T x y,bX C (ax l) (.el op T x y)=kF (ax l) (el C (ax l) op T (bj (ax l) x) (bj (ax l) y)))/\
  (∀op x,bX C (ax l) (.un op x)=kF (ax l) (un op (bj (ax l) x)))/\
  (∀A B x,bX C (ax l) (.iD A B x)=kF (ax l) (iD C (ax l) A B (bj (ax l) x)))/\
  (∀f cs,bX C (ax l) (.mx f cs)=some (.fn f (jo (ax l) cs),ax l))/\
  (∀T x y,bX C (ax l) (.en T x y)=kF (ax l) (en C T (bj (ax l) x) (bj (ax l) y)))/\
  (∀T x eN ak,bX C (ax l) (.gY T x eN ak)=gY C (ax l) T (bj (ax l) x) (xm (ax l) eN) (xm (ax l) ak))/\
  (∀T x k,bX C (ax l) (.gW T x k)=kF (ax l) (gW C (ax l) T (bj (ax l) x) k))/\
  (∀T x y,bX C (ax l) (.iz T x y)=kF (ax l) (iz C (ax l) T (bj (ax l) x) (bj (ax l) y)))/\
  (∀T x y,bX C (ax l) (.idx T x y)=kF (ax l) (idx C T (bj (ax l) x) (bj (ax l) y)))/\
  (∀x k,bX C (ax l) (.ex x k)=kF (ax l) (ex (ax l) (bj (ax l) x) k))/\
  (∀T x,bX C (ax l) (.len T x)=kF (ax l) (qc C (ax l) T (bj (ax l) x)))/\
  (∀T cQ x y,bX C (ax l) (.app T cQ x y)=qg C (ax l) T cQ (bj (ax l) x) (bj (ax l) y)):=by
 and_intros<;>intros<;>first|rfl|(simp only[bX,Lp,TE,Lq,uN,TF];done)|(simp only[bX];cases bj (ax l) _<;>first|rfl|(rename_i b;cases b<;>rfl))
end
theorem Lt:∀t d,o4 t d=if I.plain d=true then d else .h t []:=λ_ _=>rfl
theorem Lu:(∀l av,fin (ax l) none av=ax l)/\(∀l t av,fin (ax l) (some t) av=ax ((t,av)::if I.plain av=true then l else qm t l)):=
 ⟨λ_ _=>rfl,λl t av=>by
  simp only[fin];split
  .rw[xh]
  .rw[Eu,xh]⟩
theorem EF:
  (∀k n,I.plain (.int k n)=true)/\
  (∀b,I.plain (.bool b)=true)/\
  (∀x,I.plain (.str x)=true)/\
  (∀xs,I.plain (.slice xs)=true)/\
  (∀d,I.plain (.ref d)=true)/\
  (∀f cap,I.plain (.fn f cap)=true)/\
  (∀x q,I.plain (.h x q)=true)/\
  (∀x q,I.plain (.an x q)=true)/\
  (I.plain .dr=true)/\
  (I.plain .bf=true)/\
  (I.plain .fw=true)/\
  (I.plain .hole=true)/\
  (∀sz xs,I.plain (.ao sz xs)=false)/\
  (∀d,I.plain (.a1 d)=false)/\
  (∀az,I.plain (.agg az)=I.dU az)/\
  (∀az,I.plain (.tuple az)=I.dU az)/\
  (I.dU []=true)/\
  (∀d ds,I.dU (d::ds)=(d.plain&&I.dU ds)):=
 ⟨λ_ _=>rfl,λ_=>rfl,λ_=>rfl,λ_=>rfl,λ_=>rfl,λ_ _=>rfl,λ_ _=>rfl,λ_ _=>rfl,rfl,rfl,rfl,rfl,λ_ _=>rfl,λ_=>rfl,λ_=>rfl,λ_=>rfl,rfl,λ_ _=>rfl⟩
theorem Lv:∀s d,Ao s d=match d with| .h y q=>cH s (.h y q)|d=>some (d,s):=λ_ _=>by unfold Ao;rfl
theorem Lw:
  (∀t k n,cE t (.int k n)=(.int k n))/\
  (∀t b,cE t (.bool b)=(.bool b))/\
  (∀t x,cE t (.str x)=(.str x))/\
  (∀t xs,cE t (.slice xs)=(.slice xs))/\
  (∀t d,cE t (.ref d)=(.ref d))/\
  (∀t,cE t .dr= .dr)/\
  (∀t,cE t .bf= .bf)/\
  (∀t,cE t .fw= .fw)/\
  (∀t,cE t .hole= .hole)/\
  (∀t sz xs,cE t (.ao sz xs)=(.ao sz xs))/\
  (∀t d,cE t (.a1 d)=(.a1 d))/\
  (∀t az,cE t (.agg az)=(.agg az))/\
  (∀t az,cE t (.tuple az)=(.tuple az))/\
  (∀t y q,cE t (.h y q)=if y=t then .hole else .h y q)/\
  (∀t y q,cE t (.an y q)=if y=t then .hole else .an y q)/\
  (∀t f c,cE t (.fn f c)= .fn f (iU t c))/\
  (∀t,iU t []=[])/\
  (∀t d ds,iU t (d::ds)=cE t d::iU t ds)/\
  (∀t,qm t []=[])/\
  (∀t u d l,qm t ((u,d)::l)=(u,cE t d)::qm t l)/\
  (∀t l,lK t (ax l)=ax (qm t l)):=
 ⟨λ_ _ _=>by unfold cE;rfl,λ_ _=>by unfold cE;rfl,λ_ _=>by unfold cE;rfl,λ_ _=>by unfold cE;rfl,λ_ _=>by unfold cE;rfl,λ_=>by unfold cE;rfl,λ_=>by unfold cE;rfl,λ_=>by unfold cE;rfl,λ_=>by unfold cE;rfl,λ_ _ _=>by unfold cE;rfl,λ_ _=>by unfold cE;rfl,λ_ _=>by unfold cE;rfl,λ_ _=>by unfold cE;rfl,λ_ _ _=>by unfold cE;rfl,λ_ _ _=>by unfold cE;rfl,λ_ _ _=>by simp only[cE],λ_=>by simp only[iU],λ_ _ _=>by simp only[iU],λ_=>rfl,λ_ _ _ _=>rfl,λt l=>Eu t l⟩
theorem Lx:
  (∀t k n,b6 t (.int k n)=(.int k n))/\
  (∀t b,b6 t (.bool b)=(.bool b))/\
  (∀t x,b6 t (.str x)=(.str x))/\
  (∀t xs,b6 t (.slice xs)=(.slice xs))/\
  (∀t d,b6 t (.ref d)=(.ref d))/\
  (∀t,b6 t .dr= .dr)/\
  (∀t,b6 t .bf= .bf)/\
  (∀t,b6 t .fw= .fw)/\
  (∀t,b6 t .hole= .hole)/\
  (∀t sz xs,b6 t (.ao sz xs)=(.ao sz xs))/\
  (∀t d,b6 t (.a1 d)=(.a1 d))/\
  (∀t az,b6 t (.agg az)=(.agg az))/\
  (∀t az,b6 t (.tuple az)=(.tuple az))/\
  (∀t y,b6 t (.h y [])= .h y [])/\
  (∀t y k q,b6 t (.h y (k::q))=if y=t then .hole else .h y (k::q))/\
  (∀t y q,b6 t (.an y q)=if y=t then .hole else .an y q)/\
  (∀t f c,b6 t (.fn f c)= .fn f (im t c))/\
  (∀t,im t []=[])/\
  (∀t d ds,im t (d::ds)=b6 t d::im t ds)/\
  (∀t,sP t []=[])/\
  (∀t u d l,sP t ((u,d)::l)=(u,b6 t d)::sP t l)/\
  (∀t l,hM t (ax l)=ax (sP t l)):=
 ⟨λ_ _ _=>by unfold b6;rfl,λ_ _=>by unfold b6;rfl,λ_ _=>by unfold b6;rfl,λ_ _=>by unfold b6;rfl,λ_ _=>by unfold b6;rfl,λ_=>by unfold b6;rfl,λ_=>by unfold b6;rfl,λ_=>by unfold b6;rfl,λ_=>by unfold b6;rfl,λ_ _ _=>by unfold b6;rfl,λ_ _=>by unfold b6;rfl,λ_ _=>by unfold b6;rfl,λ_ _=>by unfold b6;rfl,λ_ _=>by simp[b6],λ_ _ _ _=>by simp[b6],λ_ _ _=>by unfold b6;rfl,λ_ _ _=>by simp only[b6],λ_=>by simp only[im],λ_ _ _=>by simp only[im],λ_=>rfl,λ_ _ _ _=>rfl,λt l=>S6 t l⟩
def EG:mO->Bool->Option I
 | .bool,b=>some (.bool b)
 |_,_=>none
def sU (neg:Bool):mO->Option ahx->Option I
 | .slice _,some r=>some (wD neg r)
 |_,_=>none
def sV (neg:Bool):mO->ahx->Option I
 | .ptr _,some b=>some (.bool (b !=neg))
 |_,_=>none
theorem Ly (C:bW) (s:aw) (T:TypeId):
  (∀op k a cI b,el C s op T (.int k a) (.int cI b)=iB op k a cI b)/\
  (∀op a b,el C s op T (.str a) (.str b)=mS op a b)/\
  (∀a b,el C s .eql T (.bool a) (.bool b)=EG (C.T T).k (a==b))/\
  (∀a b,el C s .neq T (.bool a) (.bool b)=EG (C.T T).k (!(a==b)))/\
  (∀xs,el C s .eql T (.slice xs) .bf=sU false (C.T T).k (lg s (.slice xs)))/\
  (∀xs,el C s .neq T (.slice xs) .bf=sU true (C.T T).k (lg s (.slice xs)))/\
  (el C s .eql T .bf .bf=sU false (C.T T).k (lg s .bf))/\
  (el C s .neq T .bf .bf=sU true (C.T T).k (lg s .bf))/\
  (∀x q,el C s .eql T (.h x q) .bf=sU false (C.T T).k (lg s (.h x q)))/\
  (∀x q,el C s .neq T (.h x q) .bf=sU true (C.T T).k (lg s (.h x q)))/\
  (∀x q,el C s .eql T (.h x q) .dr=sV false (C.T T).k (lh s (.h x q)))/\
  (∀x q,el C s .neq T (.h x q) .dr=sV true (C.T T).k (lh s (.h x q)))/\
  (∀d,el C s .eql T (.ref d) .dr=sV false (C.T T).k (lh s (.ref d)))/\
  (∀d,el C s .neq T (.ref d) .dr=sV true (C.T T).k (lh s (.ref d)))/\
  (el C s .eql T .dr .dr=sV false (C.T T).k (lh s .dr))/\
  (el C s .neq T .dr .dr=sV true (C.T T).k (lh s .dr)):=by
 refine⟨?_,?_,?_,?_,?_,?_,?_,?_,?_,?_,?_,?_,?_,?_,?_,?_⟩<;>intros<;>first
  |rfl
  |(simp only[el]
    generalize (C.T T).k=kx;cases kx<;>first|rfl|(simp only[sU];generalize lg s _=v;cases v<;>rfl)|(simp only[sV];generalize lh s _=v;cases v<;>(try (rename_i b;cases b))<;>rfl))
theorem Lz (k:IntKind) (a b:Int):
  iB .add k a k b=some (.int k (k.wrap (a+b)))/\iB .sub k a k b=some (.int k (k.wrap (a-b)))/\iB .mul k a k b=some (.int k (k.wrap (a*b)))/\
  iB .eql k a k b=some (.bool (a==b))/\iB .neq k a k b=some (.bool (a !=b))/\iB .lss k a k b=some (.bool (decide (a<b)))/\iB .leq k a k b=some (.bool (decide (a<=b)))/\
  iB .gtr k a k b=some (.bool (decide (b<a)))/\iB .geq k a k b=some (.bool (decide (b<=a)))/\
  iB .and k a k b=some (.int k (bitsOf .and k a b))/\iB .or k a k b=some (.int k (bitsOf .or k a b))/\iB .xor k a k b=some (.int k (bitsOf .xor k a b))/\iB .andNot k a k b=some (.int k (bitsOf .andNot k a b)):=by
 simp[iB]
theorem TG {k:IntKind} {a b:Int} (h:b≠0):iB .quo k a k b=some (.int k (k.wrap (a.tdiv b))):=by simp[iB,h]
theorem TH {k:IntKind} {a b:Int} (h:b≠0):iB .rem k a k b=some (.int k (a.tmod b)):=by simp[iB,h]
theorem LA (a b:aht):
  mS .eql a b=some (.bool (a==b))/\mS .neq a b=some (.bool !(a==b))/\mS .lss a b=some (.bool (Op.bytesLess a b))/\
  mS .leq a b=some (.bool (Op.bytesLess a b||a==b))/\mS .gtr a b=some (.bool !(Op.bytesLess a b||a==b))/\mS .geq a b=some (.bool !(Op.bytesLess a b)):=by
 refine⟨rfl,rfl,rfl,rfl,rfl,rfl⟩
theorem LB:(∀b,un .not (.bool b)=some (.bool !b))/\(un .not .fw=some .fw)/\(∀k n,un .neg (.int k n)=some (.int k (k.wrap (0-n)))):=⟨λ_=>rfl,rfl,λ_ _=>rfl⟩
def EH:mO->Option UInt8->Option I
 | .str,some c=>some (.int .u8 c.toNat)
 |_,_=>none
theorem LC (C:bW) (T:TypeId) (l:aht) (k:IntKind) (n:Int):idx C T (.str l) (.int k n)=EH (C.T T).k (bh l n):=by
 simp only[idx,bh];generalize (C.T T).k=kx;cases kx<;>first|rfl|(simp only[EH];split<;>first|rfl|(cases l[n.toNat]? <;>rfl))
def EI (C:bW):mO->Option I->Option I
 | .slice e,some d=>if(C.T e).ok=true/\d.wd=(C.T e).sz then some (.ref d)else none
 |_,_=>none
theorem LD (C:bW) (s:aw) (T:TypeId) (xs:ahB) (k:IntKind) (n:Int):iz C s T (.slice xs) (.int k n)=EI C (C.T T).k (bh xs n):=by
 simp only[iz,bh];generalize (C.T T).k=kx;cases kx<;>first|rfl|skip
 simp only[EI];by_cases aV:0<=n
 .simp only[aV,true_and,if_true];split
  .cases xs[n.toNat]? <;>simp[*]
  .cases xs[n.toNat]? <;>simp[*]
 .simp only[aV,false_and,if_false]
def xn (C:bW) (y:Nat) (q:ahw) (n:Int):mO->Option I->Option I
 | .slice e,some (.ao sz xs)=>if(bh xs n).isSome=true/\(C.T e).ok=true/\sz=(C.T e).sz then some (.an y (q++[n.toNat]))else none
 |_,_=>none
theorem LF (C:bW) (s:aw) (T:TypeId) (y:Nat) (q:ahw) (k:IntKind) (n:Int):iz C s T (.h y q) (.int k n)=xn C y q n (C.T T).k (I.sub q (s y)):=by
 simp only[iz];generalize (C.T T).k=kx;cases kx<;>first|rfl|skip
 rename_i e;cases U:I.sub q (s y)with
 |none=>simp[xn]
 |some d=>
  cases d<;>first
   |(simp[xn];done)
   |skip
  rename_i sz xs;have hg:(bh xs n).isSome=true↔0<=n/\n.toNat<xs.length:=by
   unfold bh;split<;>simp_all<;>omega
  simp only[xn,hg];by_cases aV:0<=n<;>by_cases ab:(C.T e).ok=true<;>simp[aV,ab]
def uO:mO->aw->Option aht->Option (I×aw)
 | .str,s,some t=>some (.str t,s)
 |_,_,_=>none
def uP (C:bW):mO->aw->ahB->Option ahB->Option (I×aw)
 | .slice e,s,xs,some t=>if(C.T e).ok=true/\∀d∈xs,d.wd=(C.T e).sz then some (.slice t,s)else none
 |_,_,_,_=>none
theorem LG (C:bW) (s:aw) (T:TypeId) (l:aht):
  (∀k a cI b,gY C s T (.str l) (some (.int k a)) (some (.int cI b))=uO (C.T T).k s (gR l a b))/\
  (∀cI b,gY C s T (.str l) none (some (.int cI b))=uO (C.T T).k s (gR l 0 b))/\
  (∀k a,gY C s T (.str l) (some (.int k a)) none=uO (C.T T).k s (gR l a l.length)):=by
 have e:∀(eN ak:Option I) (a b:Int),(hL 0 eN=if 0<=a then some a.toNat else none)->(hL l.length ak=if 0<=b then some b.toNat else none)->gY C s T (.str l) eN ak=uO (C.T T).k s (gR l a b):=by
  intro eN ak a b ab ad;simp only[gY];generalize (C.T T).k=kx;cases kx<;>first|rfl|skip
  simp only[ab,ad,gR];by_cases bM:0<=a<;>by_cases R:0<=b<;>simp only[bM,R,if_true,if_false,uO,true_and,false_and]
  .by_cases ai:a<=b/\b<=l.length
   .rw[if_pos ⟨by omega,by omega⟩,if_pos ai]
   .rw[if_neg (λh=>ai ⟨by omega,by omega⟩),if_neg ai]
  .rw[if_neg (by omega)]
 exact⟨λk a cI b=>e _ _ a b rfl rfl,λcI b=>e _ _ 0 b rfl rfl,λk a=>e _ _ a l.length rfl (by simp[hL])⟩
theorem LH (C:bW) (s:aw) (T:TypeId) (xs:ahB):
  (∀k a cI b,gY C s T (.slice xs) (some (.int k a)) (some (.int cI b))=uP C (C.T T).k s xs (gR xs a b))/\
  (∀cI b,gY C s T (.slice xs) none (some (.int cI b))=uP C (C.T T).k s xs (gR xs 0 b))/\
  (∀k a,gY C s T (.slice xs) (some (.int k a)) none=uP C (C.T T).k s xs (gR xs a xs.length)):=by
 have e:∀(eN ak:Option I) (a b:Int),(hL 0 eN=if 0<=a then some a.toNat else none)->(hL xs.length ak=if 0<=b then some b.toNat else none)->gY C s T (.slice xs) eN ak=uP C (C.T T).k s xs (gR xs a b):=by
  intro eN ak a b ab ad;simp only[gY];generalize (C.T T).k=kx;cases kx<;>first|rfl|skip
  simp only[ab,ad,gR];by_cases bM:0<=a<;>by_cases R:0<=b<;>simp only[bM,R,if_true,if_false,uP,true_and,false_and]
  .by_cases ai:a<=b/\b<=xs.length
   .rw[if_pos ai];have ab:a.toNat<=b.toNat:=by omega
    have ad:b.toNat<=xs.length:=by omega
    simp only[ab,ad,true_and]
   .rw[if_neg (λh=>ai ⟨by omega,by omega⟩),if_neg ai]
  .rw[if_neg (by omega)]
 exact⟨λk a cI b=>e _ _ a b rfl rfl,λcI b=>e _ _ 0 b rfl rfl,λk a=>e _ _ a xs.length rfl (by simp[hL])⟩
def xo (q:ahw):Option I->Option I
 |some d=>I.sub q d
 |none=>none
theorem LI:(∀d,I.sub [] d=some d)/\(∀k q az,I.sub (k::q) (.agg az)=xo q az[k]?)/\(∀k q az,I.sub (k::q) (.tuple az)=xo q az[k]?)/\(∀k q sz xs,I.sub (k::q) (.ao sz xs)=xo q xs[k]?)/\
  (∀q d,I.sub (0::q) (.a1 d)=I.sub q d)/\(∀q d,xo q (some d)=I.sub q d)/\
  (∀k q a b,I.sub (k::q) (.int a b)=none):=by
 refine⟨λd=>by simp[I.sub],?_,?_,?_,λq d=>by simp[I.sub],λ_ _=>rfl,λ_ _ _ _=>by simp[I.sub]⟩
 .intro k q az;simp only[I.sub];cases az[k]? <;>rfl
 .intro k q az;simp only[I.sub];cases az[k]? <;>rfl
 .intro k q sz az;simp only[I.sub];cases az[k]? <;>rfl
def LJ (k:Nat) (q:ahw) (n:I) (az:ahB):Option I->I
 |some d=>.agg (az.set k (I.put q n d))
 |none=>.agg az
def LK (k:Nat) (q:ahw) (n:I) (az:ahB):Option I->I
 |some d=>.tuple (az.set k (I.put q n d))
 |none=>.tuple az
def LL (k:Nat) (q:ahw) (n:I) (sz:Nat) (xs:ahB):Option I->I
 |some d=>.ao sz (xs.set k (I.put q n d))
 |none=>.ao sz xs
theorem LM:(∀n d,I.put [] n d=n)/\(∀k q n az,I.put (k::q) n (.agg az)=LJ k q n az az[k]?)/\(∀k q n az,I.put (k::q) n (.tuple az)=LK k q n az az[k]?)/\
  (∀k q n sz xs,I.put (k::q) n (.ao sz xs)=LL k q n sz xs xs[k]?)/\(∀q n d,I.put (0::q) n (.a1 d)= .a1 (I.put q n d))/\
  (∀k q n az d,LJ k q n az (some d)= .agg (az.set k (I.put q n d)))/\(∀k q n az d,LK k q n az (some d)= .tuple (az.set k (I.put q n d)))/\
  (∀k q n sz xs d,LL k q n sz xs (some d)= .ao sz (xs.set k (I.put q n d))):=by
 refine⟨λn d=>by simp[I.put],?_,?_,?_,λq n d=>by simp[I.put],λ_ _ _ _ _=>rfl,λ_ _ _ _ _=>rfl,λ_ _ _ _ _ _=>rfl⟩
 .intro k q n az;simp only[I.put];cases az[k]? <;>rfl
 .intro k q n az;simp only[I.put];cases az[k]? <;>rfl
 .intro k q n sz az;simp only[I.put];cases az[k]? <;>rfl
theorem EJ:(∀k n,I.wd (.int k n)=1)/\(∀b,I.wd (.bool b)=1)/\(∀x,I.wd (.str x)=1)/\(∀x,I.wd (.slice x)=1)/\(∀n x,I.wd (.ao n x)=1)/\(∀x,I.wd (.ref x)=1)/\(∀x,I.wd (.a1 x)=1)/\
  I.wd .bf=1/\I.wd .dr=1/\I.wd .hole=1/\I.wd .fw=1/\(∀x y,I.wd (.h x y)=1)/\(∀x y,I.wd (.an x y)=1)/\(∀x y,I.wd (.fn x y)=1)/\(∀az,I.wd (.agg az)=I.dT az)/\(∀az,I.wd (.tuple az)=I.dT az)/\I.dT []=0/\(∀d ds,I.dT (d::ds)=d.wd+I.dT ds):=by
 simp[I.wd,I.dT]
theorem TI {α:Type} {e:α->I} {n:Nat} (h:∀x,(e x).wd=n) (xs:List α):(∀d∈xs.map e,d.wd=n)=True:=by
 simp only[List.mem_map,eq_iff_iff,iff_true];rintro d ⟨x,_,rfl⟩;exact h x
theorem TJ (C:bW) (s:aw) (A B:TypeId) (k cI:IntKind) (n:Int) (ib:(C.T A).ok=true) (gS:(C.T B).k= .int cI):iD C s A B (.int k n)=some (.int cI (cI.wrap n)):=by
 simp only[iD,ib,gS,if_true]
theorem LN (m:Int):kU (p5 m)= .int .u8 (u8.wrap m):=by
 have h:0<=u8.wrap m/\u8.wrap m<256:=by rw[wrap_u8];omega
 simp only[kU,p5,UInt8.toNat_ofNat'];congr 1;omega
theorem EK (m:Int):((p5 m).toNat:Int)=u8.wrap m:=by
 have h:=LN m;simpa [kU]using h
section
variable {C:bW} {l:ahA} {Q:Exit->aw->Prop} {s:aw}
theorem kg {ros:List b7} {k:ahw} (h:dj C (ax l) ros none (λ_ s=>Q .normal (ax (gu k s)))):a_ C (.fq ros (some k)) Q (ax l):=sR (λ_ _ h=>h) h
theorem LO {ros:List b7} {ew:ahu} {k:ahw} (hlen:ew.length=ros.length) (h:dj C (ax l) ros (some []) (λacc s=>kf (nO ew) 0 [] (acc.getD []).reverse=true/\Q .normal (ax (gu k s)))):
  a_ C (.iY ros ew (some k)) Q (ax l):=Li hlen h
theorem TK {a b:aG} (h:∀ed:Exit->aw->Prop,(∀s,dR (a_ C b Q) s->ed .normal s)->(∀s,Q .ret s->ed .ret s)->(∀i s,Q (.exit i) s->ed (.exit i) s)->a_ C a ed s):a_ C (.seq a b) Q s:=
 h _ (λ_ h=>h) (λ_ h=>h) (λ_ _ h=>h)
theorem dv {ros:List b7} {k:ahw} {b:aG} (h:dj C (ax l) ros none (λ_ s=>a_ C b Q (ax (gu k s)))):a_ C (.seq (.fq ros (some k)) b) Q (ax l):=sR (λ_ _ h=>.inl h) h
theorem kh {ros:List b7} {ew:ahu} {k:ahw} {b:aG} (hlen:ew.length=ros.length) (h:dj C (ax l) ros (some []) (λacc s=>kf (nO ew) 0 [] (acc.getD []).reverse=true/\a_ C b Q (ax (gu k s)))):
  a_ C (.seq (.iY ros ew (some k)) b) Q (ax l):=Li (K:=λs=>dR (a_ C b Q) (ax (gu k s))) hlen (by
   have key:∀(os:List b7) (s:aw) (acc:Option (List e8)),dj C s os acc (λacc s=>kf (nO ew) 0 [] (acc.getD []).reverse=true/\a_ C b Q (ax (gu k s)))->
     dj C s os acc (λacc s=>kf (nO ew) 0 [] (acc.getD []).reverse=true/\dR (a_ C b Q) (ax (gu k s))):=by
    intro os;induction os with
    |nil=>intro s acc h;exact⟨h.1,.inl h.2⟩
    |cons o os ih=>
     intro s acc h;have mono:∀{s:aw} {bG:dQ} {K de:ahw->I->aw->Prop},(∀a b c,K a b c->de a b c)->nM C s bG K->nM C s bG de:=by
      intro s bG K de aq h;cases bG with
      |call f args=>
       obtain⟨g,caps,ps,r,ab,gN,ad,aC,aW,bu,cy,cl,fM⟩:=h;exact⟨g,caps,ps,r,ab,gN,ad,aC,aW,bu,cy,cl,aq _ _ _ fM⟩
      |shr bG=>obtain⟨av,s1,ab,ad,aC,aW⟩:=h;exact⟨av,s1,ab,ad,aC,aq _ _ _ aW⟩
      |kd f args us=>
       obtain⟨cc,g,caps,ps,r,ab,gN,ad,aC,aW,bu,cy,cl,fM,h9⟩:=h;exact⟨cc,g,caps,ps,r,ab,gN,ad,aC,aW,bu,cy,cl,fM,aq _ _ _ h9⟩
      |_=>obtain⟨av,s1,ab,ad⟩:=h;exact⟨av,s1,ab,aq _ _ _ ad⟩
     simp only[dj,na]at h⊢;split
     .rename_i hg;rw[hg]at h;exact mono (λ_ _ _=>ih _ _) h
     .rename_i t ff hg;rw[hg]at h;simp only at h;split
      .rename_i af9 U;rw[U]at h;simp only at h;split
       .rename_i R;rw[if_pos R]at h;exact mono (λ_ _ _=>ih _ _) h
       .rename_i R;rw[if_neg R]at h;exact ih _ _ h
      .rename_i U;rw[U]at h;exact ih _ _ h
      .rename_i ab ad;split at h
       .exact ab _ (by assumption)
       .exact ad (by assumption)
       .exact h
   exact key _ _ _ h)
theorem hU {c:bb} {a b:aG} (ai:bj s c= .bool true) (h:a_ C a Q s):a_ C (.cond c a b) Q s:=by simp only[a_,ai,if_true];exact h
theorem qo {c:bb} {a b:aG} (ai:bj s c= .bool false) (h:a_ C b Q s):a_ C (.cond c a b) Q s:=by simp only[a_,ai];exact h
theorem TL {id:Nat} {b:aG} (h:∀ed:Exit->aw->Prop,(∀s,Q .normal s->ed .normal s)->(∀s,Q .ret s->ed .ret s)->(∀s,Q .normal s->ed (.exit id) s)->(∀i s,i≠id->Q (.exit i) s->ed (.exit i) s)->a_ C b ed s):a_ C (.block id b) Q s:=
 h (uE id Q) (λ_ h=>h) (λ_ h=>h) (λs h=>by simp only[uE,if_true];exact h) (λi s ak h=>by simp only[uE,if_neg ak];exact h)
theorem c1 {id:Nat} (h:Q (.exit id) s):a_ C (.exit id) Q s:=h
theorem hV (h:Q .ret s):a_ C .ret Q s:=h
theorem aO (h:Q .normal s):a_ C .skip Q s:=h
def cR (C:bW) (b:aG) (Q:Exit->aw->Prop) (s:aw):Prop:=∀Z:aw->Prop,(∀aA,a_ C b (andThen (dR Z) Q) aA->Z aA)->Z s
theorem ry {b:aG} (h:dR (cR C b Q) s):a_ C (.loop b) Q s:=h
theorem TM {b:aG} (h:∀ed:Exit->aw->Prop,(∀s,dR (cR C b Q) s->ed .normal s)->(∀s,Q .ret s->ed .ret s)->(∀i s,Q (.exit i) s->ed (.exit i) s)->a_ C b ed s):cR C b Q s:=by
 intro Z uG;refine uG s (Em b ?_ (h (andThen (dR (cR C b Q)) Q) (λ_ h=>h) (λ_ h=>h) (λ_ _ h=>h)));intro e aA bc;cases e with
 |normal=>exact uF (λs h=>h Z uG) aA bc
 |_=>exact bc
theorem bL {cd:ahA} (h:cd.map (·.2)=cd.map λp=>s p.1):uD s cd:=by
 intro p an;left;induction cd with
 |nil=>cases an
 |cons a cd ih=>
  simp only[List.map_cons,List.cons.injEq]at h;rcases List.mem_cons.1 an with rfl|an
  .exact h.1
  .exact ih h.2 an
end
section
variable {C:bW} {l:ahA} {Q:Exit->aw->Prop} {s:aw} {os ros:List b7} {K:Option (List e8)->aw->Prop} {dst:Option Nat}
theorem LP (l:ahA):(∀n,bj (ax l) (.t n)=o4 n (ax l n))/\(∀av,bj (ax l) (.c av)=av)/\(∀g,bj (ax l) (.f g)= .fn g []):=⟨λ_=>rfl,λ_=>rfl,λ_=>rfl⟩
theorem LQ:(∀t,ax [] t= .hole)/\(∀u d (l:ahA) t,ax ((u,d)::l) t=if t=u then d else ax l t):=⟨λ_=>rfl,λ_ _ _ _=>rfl⟩
theorem LR (s:aw):gu [] s=[]/\(∀t k,gu (t::k) s=(t,s t)::gu k s):=⟨rfl,λ_ _=>rfl⟩
theorem LS (s:aw):(∀d,kF s (some d)=some (d,s))/\(∀s1,cP (some s1)=some (.hole,s1))/\jo s []=[]/\(∀x xs,jo s (x::xs)=bj s x::jo s xs)/\rv s []=[]/\(∀k x xs,rv s ((k,x)::xs)=(k,bj s x)::rv s xs)/\
  xm s none=none/\(∀x,xm s (some x)=some (bj s x))/\(∀b x y,Lo s (.bool b) x y=some (if b=true then x else y,s)):=
 ⟨λ_=>rfl,λ_=>rfl,rfl,λ_ _=>rfl,rfl,λ_ _ _=>rfl,rfl,λ_=>rfl,λb _ _=>by cases b<;>rfl⟩
theorem LU (C:bW):(∀e d,EI C (.slice e) (some d)=if(C.T e).ok=true/\d.wd=(C.T e).sz then some (.ref d)else none)/\
  (∀y q n e sz xs,xn C y q n (.slice e) (some (.ao sz xs))=if(bh xs n).isSome=true/\(C.T e).ok=true/\sz=(C.T e).sz then some (.an y (q++[n.toNat]))else none)/\
  (∀e s xs t,uP C (.slice e) s xs (some t)=if(C.T e).ok=true/\∀d∈xs,d.wd=(C.T e).sz then some (.slice t,s)else none):=
 ⟨λ_ _=>rfl,λ_ _ _ _ _ _=>rfl,λ_ _ _ _=>rfl⟩
theorem LV:(∀b,EG .bool b=some (.bool b))/\(∀c,EH .str (some c)=some (.int .u8 c.toNat))/\(∀s t,uO .str s (some t)=some (.str t,s))/\(∀q d,xo q (some d)=I.sub q d):=
 ⟨λ_=>rfl,λ_=>rfl,λ_ _=>rfl,λ_ _=>rfl⟩
theorem LW (sz bytes:Nat) (z:I):(∀k,gg.ok ⟨.int k,sz,bytes,z⟩=true)/\gg.ok ⟨.bool,sz,bytes,z⟩=true/\gg.ok ⟨.str,sz,bytes,z⟩=true/\(∀e,gg.ok ⟨.ptr e,sz,bytes,z⟩=true)/\(∀e,gg.ok ⟨.slice e,sz,bytes,z⟩=true)/\(∀e,gg.ok ⟨.struct e,sz,bytes,z⟩=true)/\gg.ok ⟨.fn,sz,bytes,z⟩=true:=by
 simp[gg.ok]
theorem LX (sz bytes:Nat) (z:I):(∀k,gg.flat ⟨.int k,sz,bytes,z⟩=true)/\gg.flat ⟨.bool,sz,bytes,z⟩=true/\gg.flat ⟨.str,sz,bytes,z⟩=true/\(∀e,gg.flat ⟨.ptr e,sz,bytes,z⟩=true)/\(∀e,gg.flat ⟨.slice e,sz,bytes,z⟩=true)/\(∀e,gg.flat ⟨.struct e,sz,bytes,z⟩=false)/\gg.flat ⟨.fn,sz,bytes,z⟩=true:=by
 simp[gg.flat]
theorem xp (c:UInt8) (k:IntKind) (aq:k≠.i8):k.wrap (c.toNat:Int)=(c.toNat:Int):=by
 have:=c.toNat_lt;cases k<;>first|(exact(aq rfl).elim)|(simp[wrap,IntKind.bits,signed];try omega)
theorem EL (c:UInt8):i64.wrap (c.toNat:Int)=(c.toNat:Int)/\u64.wrap (c.toNat:Int)=(c.toNat:Int)/\u8.wrap (c.toNat:Int)=(c.toNat:Int)/\i32.wrap (c.toNat:Int)=(c.toNat:Int)/\u32.wrap (c.toNat:Int)=(c.toNat:Int):=
 ⟨xp c _ (by simp),xp c _ (by simp),xp c _ (by simp),xp c _ (by simp),xp c _ (by simp)⟩
theorem ch {k:ahw} {K:aw->Prop} (cd:ahA) (h:∀P:ahA->Prop,P cd->dj C (ax l) ros none (λ_ s=>P (gu k s))) (aq:K (ax cd)):dj C (ax l) ros none (λ_ s=>K (ax (gu k s))):=
 h (λl=>K (ax l)) aq
theorem jH {k:ahw} {mD:ahu} {K:aw->Prop} (cd:ahA) (h:∀P:ahA->Prop,P cd->dj C (ax l) ros (some []) (λacc s=>kf mD 0 [] (acc.getD []).reverse=true/\P (gu k s))) (aq:K (ax cd)):
  dj C (ax l) ros (some []) (λacc s=>kf mD 0 [] (acc.getD []).reverse=true/\K (ax (gu k s))):=
 h (λl=>K (ax l)) aq
theorem aX.TN (bk:C.eF) {f:FuncId} {fn:Func} {c:Code} {cX:aG} {fx:ahw} {as outs:ahB} {r:I} (bd:C.P.funcs[f]? =some fn) (R:fn.body=some c)
  (jX:(fn.name== "runtime.NumGoroutine")=false) (U:eQ ⟨fn.ntmps,fx⟩ c=some cX.strip) (aU:as.length<=fn.ntmps)
  (h:∀Q:Exit->aw->Prop,(∀s,dR (Ends C fx fn.results.toList r outs) s->Q .ret s)->(∀s,dR (Ends C fx fn.results.toList r outs) s->Q .normal s)->a_ C cX Q (ax (num 0 as))) (an:cX.plain=true:=by kernel_rfl):aX C f as r outs:=by
 refine aX.of_wp bk bd R jX U aU ?_ an;rw[Ah];exact h _ (λs h=>⟨.inr rfl,h⟩) (λs h=>⟨.inl rfl,h⟩)
def Ap:ahB->I
 |[d]=>d
 |ds=>.tuple ds
theorem nP {fx:ahw} {eC:List ResultVar} {r:I} {outs:ahB} (ds:ahB) (ab:eC.map (ow C s)=ds.map some) (ad:r=Ap ds) (aC:(eC.map iZ).Nodup)
  (aW:∀(i:Nat) (o:I),outs[i]? =some o->o= .hole\/(o=s i/\o.gi=true/\i∈fx/\i∉eC.map iZ)):Ends C fx eC r outs s:=.inl ⟨ds,ab,by subst ad;cases ds with|nil=>rfl|cons a t=>cases t<;>rfl,aC,aW⟩
theorem TO {fx:ahw} {eC:List ResultVar}:∀(i:Nat) (o:I),([]:ahB)[i]? =some o->o= .hole\/(o=s i/\o.gi=true/\i∈fx/\i∉eC.map iZ):=λi o h=>by simp at h
theorem LY:∀(as ds:ahB),(mc as ds).filter (·.g)=[]
 |[],_=>rfl
 |_::_,[]=>rfl
 |a::as,d::ds=>by simp only[mc,List.filter_cons];exact LY as ds
theorem Aq {f:bb} {args:List bb} {g:FuncId} {caps:ahB} {K:ahw->I->aw->Prop} (ds:ahB) (r:I)
  (ab:bj (ax l) f= .fn g caps) (gN:I.dU caps=true) (jn:views (ax l) (jo (ax l) args++caps)=some ds)
  (bu:aX C g ds r []) (cy:r.res=true) (cl:I.dN (jo (ax l) args++caps)=[]\/r.cF=true) (hK:K [] r (ax l)):nM C (ax l) (.call f args) K:=by
 obtain⟨aP,aT,aR,b4,cz,bV,bF⟩:=S7 _ _ jn;refine⟨g,caps,mc (jo (ax l) args++caps) ds,r,ab,gN,by rw[aP,uN],λp an=>(aR p an).1,b4,by rw[aT];exact bu.outs cz.symm,cy,?_,by rw[bV,bF,LY];exact hK⟩;intro hl;refine⟨?_,λp an=>by rw[(aR p an).2.2.1];rfl⟩;rcases cl with cl|cl
 .exfalso;simp only[jG,List.any_eq_true]at hl;obtain⟨p,an,fy⟩:=hl;have hm:=(aR p an).2.2.2;have:p.a.U=[]:=by
   have key:∀(as:ahB) (a:I),a∈as->I.dN as=[]->a.U=[]:=by
    intro as;induction as with
    |nil=>intro a h;cases h
    |cons b as ih=>
     intro a h he;simp only[I.dN,List.append_eq_nil_iff]at he;rcases List.mem_cons.1 h with rfl|h
     .exact he.1
     .exact ih a h he.2
   exact key _ _ hm cl
  rw[this]at fy;simp at fy
 .exact cl
theorem ey {f:bb} {args:List bb} {g:FuncId} {caps:ahB} {ds:ahB} {r:I} (bu:aX C g ds r [])
  (ab:bj (ax l) f= .fn g caps:=by rfl) (gN:I.dU caps=true:=by rfl) (jn:views (ax l) (jo (ax l) args++caps)=some ds:=by rfl)
  (cy:r.res=true:=by rfl) (cl:I.dN (jo (ax l) args++caps)=[]\/r.cF=true:=by exact .inl (by rfl))
  (hK:dj C (fin (ax l) dst r) os none K):dj C (ax l) (⟨dst,.call f args,none⟩::os) none K:=by
 simp only[dj,na,pq];exact Aq ds r ab gN jn bu cy cl hK
theorem kG {a:List e8} {f:bb} {args:List bb} {g:FuncId} {caps:ahB} {ds:ahB} {r:I} (bu:aX C g ds r [])
  (ab:bj (ax l) f= .fn g caps:=by rfl) (gN:I.dU caps=true:=by rfl) (jn:views (ax l) (jo (ax l) args++caps)=some ds:=by rfl)
  (cy:r.res=true:=by rfl) (cl:I.dN (jo (ax l) args++caps)=[]\/r.cF=true:=by exact .inl (by rfl))
  (hK:dj C (fin (ax l) dst r) os (some (iI (ax l) (use (ax l) (.call f args)) dst [] r::a)) K):dj C (ax l) (⟨dst,.call f args,none⟩::os) (some a) K:=by
 simp only[dj,na,pq];exact Aq ds r ab gN jn bu cy cl hK
theorem hk {t:Nat} {b:Bool} {f:bb} {args:List bb} {g:FuncId} {caps:ahB} {ds:ahB} {r:I} (bu:aX C g ds r [])
  (ab:bj (ax l) f= .fn g caps:=by rfl) (gN:I.dU caps=true:=by rfl) (jn:views (ax l) (jo (ax l) args++caps)=some ds:=by rfl)
  (cy:r.res=true:=by rfl) (cl:I.dN (jo (ax l) args++caps)=[]\/r.cF=true:=by exact .inl (by rfl))
  (hK:dj C (fin (ax l) dst r) os none K):lq C l dst (.call f args) t b os none K (.bool b):=by
 simp only[lq,if_true];exact Aq ds r ab gN jn bu cy cl hK
theorem jY {a:List e8} {t:Nat} {b:Bool} {f:bb} {args:List bb} {g:FuncId} {caps:ahB} {ds:ahB} {r:I} (bu:aX C g ds r [])
  (ab:bj (ax l) f= .fn g caps:=by rfl) (gN:I.dU caps=true:=by rfl) (jn:views (ax l) (jo (ax l) args++caps)=some ds:=by rfl)
  (cy:r.res=true:=by rfl) (cl:I.dN (jo (ax l) args++caps)=[]\/r.cF=true:=by exact .inl (by rfl))
  (hK:dj C (fin (ax l) dst r) os (some (iI (ax l) (t::use (ax l) (.call f args)) dst [] r::a)) K):lq C l dst (.call f args) t b os (some a) K (.bool b):=by
 simp only[lq,if_true];exact Aq ds r ab gN jn bu cy cl hK
theorem jq (s:aw):views s []=some []/\(∀d ds,views s (d::ds)=(match view s d,views s ds with|some a,some b=>some (a::b)|_,_=>none))/\
  (∀k n,view s (.int k n)=some (.int k n))/\(∀b,view s (.bool b)=some (.bool b))/\(∀x,view s (.str x)=some (.str x))/\(∀x,view s (.slice x)=some (.slice x))/\(∀x,view s (.ref x)=some (.ref x))/\
  view s .bf=some .bf/\view s .dr=some .dr/\(∀az,view s (.agg az)=some (.agg az))/\(∀f cap,view s (.fn f cap)=(views s cap).map (.fn f)):=by
 refine⟨rfl,λd ds=>?_,λ_ _=>rfl,λ_=>rfl,λ_=>rfl,λ_=>rfl,λ_=>rfl,rfl,rfl,λ_=>rfl,λ_ _=>by simp only[view]⟩;simp only[views];rfl
theorem cL {α:Type} {u e:α->I} (h:∀x,(u x).share=e x) (xs:List α):I.shares (xs.map u)=xs.map e:=by
 rw[I.sf];simp[h]
theorem ki {α:Type} {u:α->I} (h:∀x,(u x).cF=true) (xs:List α):I.gM (xs.map u)=true:=by
 induction xs with
 |nil=>rfl
 |cons x xs ih=>simp only[List.map_cons,I.gM,h,ih,Bool.and_self]
def rz (s:aw) (H:ahw):ahA->Prop
 |[]=>True
 |p::l=>(p.2=s p.1\/((s p.1).tree=true/\eP (s p.1) p.2/\p.1∉H))/\rz s H l
theorem i1 {cd:ahA} (H:ahw) (lU:I.dN (cd.map (·.2))=H) (h:rz s H cd):uD s cd:=by
 have key:∀(gh:ahA),rz s H gh->∀p∈gh,p.2=s p.1\/((s p.1).tree=true/\eP (s p.1) p.2/\p.1∉H):=by
  intro gh;induction gh with
  |nil=>intro _ p an;cases an
  |cons a gh ih=>
   intro h p an;rcases List.mem_cons.1 an with rfl|an
   .exact h.1
   .exact ih h.2 p an
 have U:∀(gh:ahA),∀cv∈gh,∀u∈cv.2.U,u∈I.dN (gh.map (·.2)):=by
  intro gh;induction gh with
  |nil=>intro p an;cases an
  |cons a gh ih=>
   intro p an u hu;simp only[List.map_cons,I.dN,List.mem_append];rcases List.mem_cons.1 an with rfl|an
   .exact .inl hu
   .exact .inr (ih p an u hu)
 intro p an;rcases key _ h p an with ab|⟨ab,ad,aC⟩
 .exact .inl ab
 .refine .inr ⟨ab,ad,λcv ev=>.inl λhm=>aC ?_⟩;rw[<-lU];exact U cd cv ev _ hm
theorem i6 {H:ahw}:rz s H []:=trivial
theorem gE {H:ahw} {t:Nat} {d:I} {cd:ahA} (h:d=s t) (hl:rz s H cd):rz s H ((t,d)::cd):=⟨.inl h,hl⟩
theorem i7 {H:ahw} {t:Nat} {d bp:I} {cd:ahA} (e:s t=d) (aY:d.tree=true) (ae:eP d bp) (lU:t∉H) (hl:rz s H cd):rz s H ((t,bp)::cd):=⟨.inr ⟨by rw[e];exact aY,by rw[e];exact ae,lU⟩,hl⟩
theorem LZ {a b:I} (h:eP a b):∀n,jU (List.replicate n a) (List.replicate n b)
 |0=>.nil
 |n+1=>by simp only[List.replicate_succ];exact .cons h (LZ h n)
theorem Ar {α:Type} {sz:Nat} {u:α->I} {z:α} {a:I} (h:eP a (u z)) (n:Nat):eP (.ao sz (List.replicate n a)) (.ao sz ((List.replicate n z).map u)):=by
 rw[List.map_replicate];exact .ao (LZ h n)
end
theorem EM {C:bW} {A B:TypeId} {cI:IntKind} (ib:(C.T A).ok=true) (gS:(C.T B).k= .int cI):∀s k n,iD C s A B (.int k n)=some (.int cI (cI.wrap n)):=λs k n=>TJ C s A B k cI n ib gS
def L0:Option I->Option I
 |some (.ao 1 xs)=>(bytesOf xs).map .str
 |_=>none
theorem TP {C:bW} {A B e:TypeId} (ib:(C.T A).k= .slice e) (gS:(C.T B).k= .str) (he:(C.T e).k= .int .u8):
  (∀s xs,iD C s A B (.slice xs)=(bytesOf xs).map .str)/\(∀s,iD C s A B .bf=some (.str []))/\(∀s x q,iD C s A B (.h x q)=L0 (I.sub q (s x))):=by
 have wQ:(C.T A).ok=true:=by simp[gg.ok,ib]
 refine⟨λs xs=>?_,λs=>?_,λs x q=>?_⟩
 .simp only[iD,wQ,ib,gS,he,if_true]
 .simp only[iD,wQ,ib,gS,he,if_true]
 .simp only[iD,wQ,ib,gS,he,if_true];rfl
theorem TQ (xs:ahB):L0 (some (.ao 1 xs))=(bytesOf xs).map .str:=rfl
theorem L1 (c:UInt8) (r:ahB):bytesOf (kU c::r)=(bytesOf r).map (c::·):=by
 have:=c.toNat_lt;simp only[kU,bytesOf];rw[if_pos (by omega)];simp
theorem TR:bytesOf []=some []/\
  (∀l:aht,bytesOf (l.map kU)=some l)/\
  (∀c r,bytesOf (.int .u8 (c.toNat:Int)::r)=(bytesOf r).map (c::·))/\
  (∀m r,bytesOf (.int .u8 (u8.wrap m)::r)=(bytesOf r).map (p5 m::·)):=
 ⟨rfl,QW,λc r=>L1 c r,λm r=>by rw[<-LN];exact L1 _ r⟩
theorem TS {k:IntKind} {b:Int} (h:b≠0):∀a,iB .quo k a k b=some (.int k (k.wrap (a.tdiv b))):=λ_=>TG h
theorem TT {k:IntKind} {b:Int} (h:b≠0):∀a,iB .rem k a k b=some (.int k (a.tmod b)):=λ_=>TH h
theorem oy {α:Type} {e:α->I} {n:Nat} (h:∀x,(e x).wd=n):∀xs:List α,(∀d∈xs.map e,d.wd=n)=True:=TI h
theorem sW {P:I->Prop} (d:I) (ds:ahB):(∀x∈d::ds,P x)=(P d/\∀x∈ds,P x):=by simp
theorem all_nil {P:I->Prop}:(∀x∈([]:ahB),P x)=True:=by simp
def L2 (a b:aht):Option Unit->Option I
 |some _=>some (.str (a++b))
 |none=>none
theorem sX (a b:aht):mS .add a b=L2 a b (lH (a.length+b.length)):=by
 simp only[mS,lH];split<;>rfl
theorem sY (a b:aht) (u:Unit):L2 a b (some u)=some (.str (a++b)):=rfl
theorem L3:(∀l:ahw,[]++l=l)/\(∀a (l m:ahw),(a::l)++m=a::(l++m)):=⟨λ_=>rfl,λ_ _ _=>rfl⟩
def L4 (C:bW) (e cQ:TypeId):Bool:=(C.T e).ok&&((C.T e).zero.wd==(C.T e).sz)&&(flat (C.T e).zero).isSome&&zO C e cQ
def As (C:bW) (e:TypeId) (xs:ahB):Option (ahB×aw)->Option (I×aw)
 |some (bm,s2)=>if(∀d∈bm,d.wd=(C.T e).sz)/\(room (C.T e).bytes (xs.length+bm.length)).isSome=true then some (.ao (C.T e).sz (xs++bm),s2)else none
 |none=>none
def EN (C:bW) (e:TypeId) (y:I) (o:Option Nat):Option (I×aw)->Option (I×aw)
 |some (.ao sz xs,s1)=>if sz=(C.T e).sz then As C e xs (lk s1 (ku o y))else none
 |_=>none
theorem TU (b n:Nat):(room b n).isSome=true↔n*b<=140737488355328/\n<=9223372036854775807:=by unfold room;split<;>simp_all
theorem sZ {C:bW} {T cQ e:TypeId} (iq:(C.T T).k= .slice e) (e7:L4 C e cQ=true):∀s x y,qg C s T cQ x y=EN C e y x.owner (pf C e s x):=by
 intro s x y;simp only[L4,Bool.and_eq_true,beq_iff_eq]at e7;rw[D0,iq];simp only;rw[if_pos ⟨e7.1.1.1,e7.1.1.2,e7.1.2,e7.2⟩];generalize x.owner=o;cases pf C e s x with
 |none=>rfl
 |some p=>
  obtain⟨d,s1⟩:=p;cases d<;>first
   |rfl
   |(simp only[EN]
     split
     .rename_i h;subst h;generalize lk s1 (ku o y)=z;cases z with
      |none=>rfl
      |some p=>simp only[As,TU]
     .rfl)
def L5:Option (I×aw)->Option (ahB×aw)
 |some (.ao _ bm,s2)=>some (bm,s2)
 |_=>none
theorem s0 (s:aw):lk s .bf=some ([],s)/\(∀bm,lk s (.slice bm)=some (bm,s))/\(∀l,lk s (.str l)=some (l.map kU,s))/\
  (∀a q,lk s (.h a q)=L5 (cH s (.h a q)))/\(∀n bm,L5 (some (.ao n bm,s))=some (bm,s)):=
 ⟨rfl,λ_=>rfl,λ_=>rfl,λ_ _=>by simp only[lk];rfl,λ_ _=>rfl⟩
theorem s3 (C:bW) (e:TypeId):(∀s,pf C e s .bf=some (.ao (C.T e).sz [],s))/\(∀s a q,pf C e s (.h a q)=cH s (.h a q))/\
  (∀y o sz xs s1,EN C e y o (some (.ao sz xs,s1))=if sz=(C.T e).sz then As C e xs (lk s1 (ku o y))else none)/\
  (∀xs bm s2,As C e xs (some (bm,s2))=if(∀d∈bm,d.wd=(C.T e).sz)/\(room (C.T e).bytes (xs.length+bm.length)).isSome=true then some (.ao (C.T e).sz (xs++bm),s2)else none):=
 ⟨λ_=>rfl,λ_ _ _=>rfl,λ_ _ _ _ _=>rfl,λ_ _ _=>rfl⟩
theorem s4:(∀d,ku none d=d)/\(∀x d,ku (some x) d=b6 x d)/\(∀x q,I.owner (.h x q)=some x)/\I.owner .bf=none:=
 ⟨λ_=>rfl,λ_ _=>rfl,λ_ _=>rfl,rfl⟩
def L6 (s:aw) (x:Nat) (q:ahw):Option I->Option (I×aw)
 |some d=>if d.plain=true then none else some (d,da (hM x s) x (I.put q d.cS (s x)))
 |none=>none
theorem L7 (s:aw) (x:Nat) (q:ahw):cH s (.h x q)=L6 s x q (I.sub q (s x)):=by
 simp only[cH];cases I.sub q (s x)<;>rfl
theorem L8 (s:aw):(∀x q d,L6 s x q (some d)=if d.plain=true then none else some (d,da (hM x s) x (I.put q d.cS (s x))))/\(∀k n,cH s (.int k n)=some (.int k n,s))/\(∀b,cH s (.bool b)=some (.bool b,s))/\(∀x,cH s (.str x)=some (.str x,s))/\
  (∀x,cH s (.slice x)=some (.slice x,s))/\(∀x,cH s (.ref x)=some (.ref x,s))/\(∀x,cH s (.agg x)=some (.agg x,s))/\cH s .bf=some (.bf,s)/\cH s .dr=some (.dr,s):=
 ⟨λ_ _ _=>rfl,λ_ _=>rfl,λ_=>rfl,λ_=>rfl,λ_=>rfl,λ_=>rfl,λ_=>rfl,rfl,rfl⟩
theorem L9 (l:ahA) (t:Nat) (d:I):da (ax l) t d=ax ((t,d)::l):=xh l t d
theorem L_:(∀n x,I.cS (.ao n x)= .hole)/\(∀x,I.cS (.a1 x)= .hole)/\(∀az,I.cS (.agg az)= .agg (I.ld az))/\(∀az,I.cS (.tuple az)= .tuple (I.ld az))/\I.ld []=[]/\(∀d ds,I.ld (d::ds)=d.cS::I.ld ds)/\
  (∀k n,I.cS (.int k n)= .int k n)/\(∀b,I.cS (.bool b)= .bool b)/\(∀x,I.cS (.str x)= .str x)/\(∀x,I.cS (.slice x)= .slice x)/\(∀x,I.cS (.ref x)= .ref x)/\I.cS .bf= .bf/\I.cS .dr= .dr/\I.cS .hole= .hole:=by
 simp[I.cS,I.ld]
def s5:Option I->Option I
 |some d=>(match d with| .tuple _=>none| .dK _=>none| .fD _ _=>none|d=>if d.plain=true then none else some d.share)
 |none=>none
def s6:Option I->Option I
 |some d=>(match d with| .tuple _=>none|d=>some (.ref d.share))
 |none=>none
theorem jr (s:aw) (x:Nat) (q:ahw):view s (.h x q)=s5 (I.sub q (s x))/\view s (.an x q)=(if I.fm q (s x)=true then s6 (I.sub q (s x))else none):=by
 constructor
 .simp only[view];rfl
 .simp only[view];rfl
theorem js:(∀n xs,s5 (some (.ao n xs))=some (.slice (I.shares xs)))/\(∀d,s5 (some (.a1 d))=some (.ref d.share))/\(∀az,s5 (some (.agg az))=if I.dU az=true then none else some (.agg (I.shares az)))/\
  (∀az,s6 (some (.agg az))=some (.ref (.agg (I.shares az))))/\(∀k n,s6 (some (.int k n))=some (.ref (.int k n)))/\(∀x,s6 (some (.str x))=some (.ref (.str x))):=
 ⟨λ_ _=>by simp[s5,I.plain,I.share],λ_=>by simp[s5,I.plain,I.share],λaz=>by cases h:I.dU az<;>simp[s5,I.plain,I.share,h],λ_=>by simp[s6,I.share],λ_ _=>by simp[s6,I.share],λ_=>by simp[s6,I.share]⟩
theorem dL:(∀n xs,I.share (.ao n xs)= .slice (I.shares xs))/\(∀d,I.share (.a1 d)= .ref d.share)/\(∀xs,I.share (.slice xs)= .slice (I.shares xs))/\(∀d,I.share (.ref d)= .ref d.share)/\(∀az,I.share (.agg az)= .agg (I.shares az))/\(∀az,I.share (.tuple az)= .tuple (I.shares az))/\
  (∀k n,I.share (.int k n)= .int k n)/\(∀b,I.share (.bool b)= .bool b)/\(∀x,I.share (.str x)= .str x)/\I.share .bf= .bf/\I.share .dr= .dr/\I.shares []=[]/\(∀d ds,I.shares (d::ds)=d.share::I.shares ds):=by
 simp[I.share,I.shares]
def uQ (sz:Nat):Option (ahB×aw)->Option (I×aw)
 |some (ds,s1)=>some (.ao sz ds,s1)
 |none=>none
def eW:Option (ahB×aw)->Option (I×aw)
 |some (ds,s1)=>some (.agg ds,s1)
 |none=>none
theorem Ma {C:bW} {T e n sz:Nat} {dn:ahB} (iq:(C.T T).k= .slice e) (eJ:(C.T e).sz=sz) (bR:List.replicate n (C.T e).zero=dn)
  (e7:((C.T e).ok&&((C.T e).zero.wd==sz)&&(flat (C.T e).zero).isSome&&(sz !=0)&&decide (n*sz<=16777216))=true):∀s ps,f_ C s T n ps=uQ sz (ej (λk=>some (k*sz,sz)) s dn [] ps):=by
 intro s ps;subst eJ;simp only[Bool.and_eq_true,beq_iff_eq,bne_iff_ne,decide_eq_true_eq]at e7;obtain⟨⟨⟨⟨ab,ad⟩,aC⟩,aW⟩,bu⟩:=e7;unfold f_;rw[iq];simp only;rw[if_pos ⟨ab,ad,aC,aW,bu⟩,bR];cases ej (λk=>some (k*(C.T e).sz,(C.T e).sz)) s dn [] ps<;>rfl
theorem TV {C:bW} {T:Nat} {az:List (TypeId×Nat)} {dn:ahB} (iq:(C.T T).k= .struct az) (bR:(C.T T).zero= .agg dn)
  (e7:((flat (.agg dn)).isSome&&az.all λf=>(C.T f.1).ok)=true):∀s ps,gr C s T ps=eW (ej (λk=>(az[k]?).map λf=>(f.2,(C.T f.1).sz)) s dn [] ps):=by
 intro s ps;simp only[Bool.and_eq_true,List.all_eq_true]at e7;unfold gr;rw[iq,bR];simp only;rw[if_pos ⟨e7.1,e7.2⟩];cases ej (λk=>(az[k]?).map λf=>(f.2,(C.T f.1).sz)) s dn [] ps<;>rfl
def eR (place:Nat->Option (Nat×Nat)) (k:Nat) (dn:ahB) (os:List (Option Nat)) (r:ahA) (o:Option Nat):Option (Nat×Nat)->Option I->Option (I×aw)->Option (ahB×aw)
 |some (off,n),some z,some (d,s1)=>(match d with
  | .tuple _=>none
  |d=>if d.wd=n/\z.wd=n/\I.dT (dn.take k)=off then ej place s1 (dn.set k d) (os++[o]) r else none)
 |_,_,_=>none
theorem Mb (place:Nat->Option (Nat×Nat)) (s:aw) (dn:ahB) (os:List (Option Nat)):ej place s dn os []=some (dn,s)/\
  (∀k a r,ej place s dn os ((k,a)::r)=eR place k dn os r (kW os a).owner (place k) dn[k]? (cH s (kW os a))):=by
 refine⟨rfl,λk a r=>?_⟩;simp only[ej];cases cH s (kW os a)with
 |none=>cases place k<;>cases dn[k]? <;>rfl
 |some p=>
  obtain⟨d,s1⟩:=p;cases place k with
  |none=>cases dn[k]? <;>rfl
  |some q=>cases dn[k]? <;>(cases d<;>rfl)
theorem Mc:(∀a,kW [] a=a)/\(∀o os a,kW (o::os) a=kW os (ku o a)):=⟨λ_=>rfl,λ_ _ _=>rfl⟩
theorem dF:(∀k n,I.owner (.int k n)=none)/\(∀b,I.owner (.bool b)=none)/\(∀x,I.owner (.str x)=none)/\(∀x,I.owner (.slice x)=none)/\(∀x,I.owner (.ref x)=none)/\(∀x,I.owner (.agg x)=none)/\I.owner .dr=none/\I.owner .bf=none/\(∀x q,I.owner (.h x q)=some x):=
 ⟨λ_ _=>rfl,λ_=>rfl,λ_=>rfl,λ_=>rfl,λ_=>rfl,λ_=>rfl,rfl,rfl,λ_ _=>rfl⟩
end Go.c_
