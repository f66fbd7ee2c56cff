/- Part of a proof that a law returns true for every input. No condition. -/
import Derived.Test.YtpdplcdnpaoceaaFwE
import Derived.Orders
import Derived.KernelRfl
import Derived.Test.YtpdplcdnpaoceaaFwA
namespace Go.cV
open Go.IntKind Nat Or
section
variable {C:bI} {w0 w:World} {F0 X:Nat->Prop} {n:Fr} {ρ:Nat->Value} {s s1:af} {a:Act} {av:j} {Q:Exit->Act->World->Prop}
def bE.un (o:bE):bE:=⟨o.dst,o.bb.base,o.guard⟩
theorem we {ops:Array Oper}:∀{os:List Oper} {rs:List bE},mB n ops os=some rs->os.length=rs.length/\∀(i:Nat) (o:Oper),os[i]? =some o->∃r,rs[i]? =some r/\mA n ops o=some r:=by
 intro os;induction os with
 |nil=>intro rs h;simp only[mB,Option.some.injEq]at h;subst h;exact⟨rfl,λi o h=>by simp at h⟩
 |cons o os ih=>
  intro rs h;simp only[mB]at h;split at h
  .rename_i r Ul U aa;simp only[Option.some.injEq]at h;subst h;obtain⟨bX,b6⟩:=ih aa;refine⟨by simp[bX],λi kY bk=>?_⟩;cases i with
   |zero=>simp at bk;subst bk;exact⟨r,rfl,U⟩
   |succ i=>simpa using b6 i kY (by simpa using bk)
  .cases h
theorem wg {o:Oper} {y:Nat->Vn} (h:o.guard=none):Region.wanted o y=true:=by simp[Region.wanted,h]
theorem Lj (h:Rel w0 F0 X n ρ s a w) {ops:Array Oper} {aD t:Nat} (cn:(ops[aD]?).bind (·.dst)=some t):
  (∀b,s t= .bool b->yielded ops a.tmps aD=some b)/\(s t= .tuple []->yielded ops a.tmps aD=none):=by
 obtain⟨ad,R,bd,F,S,aG⟩:=h;have g9:=aG.cG t;refine⟨λb J=>?_,λJ=>?_⟩
 .rw[J]at g9;have aE:=oX g9;simp only[yielded,cn,Option.bind_some];rw[Array.getD_eq_getD_getElem?]at aE;cases bm:a.tmps[t]? with
  |none=>rw[bm]at aE;simp[undef]at aE
  |some v=>rw[bm]at aE;simp at aE;subst aE;rfl
 .rw[J]at g9;obtain⟨⟨arr,U,aa⟩,_⟩:=(az.b7 (d:=.tuple []) rfl).1 g9;simp only[yielded,cn,Option.bind_some];rw[Array.getD_eq_getD_getElem?]at U;cases bm:a.tmps[t]? with
  |none=>rfl
  |some v=>rw[bm]at U;simp at U;subst U;rfl
theorem tP (a4:C.dx) {ops:Array Oper} {ros:List bE} {l2:Vm} {K:af->Prop} (a2:∀au bZ aw,K au->Rel w0 F0 X n ρ au bZ aw->wpOps C.P ops Q l2 bZ aw):
  ∀(l:Vm),(∀i∈l,(ops[i]? =none->ros[i]? =none)/\∀o,ops[i]? =some o->∃r,ros[i]? =some r/\mA n ops o=some r.un)->
  ∀(s:af) (a:Act) (w:World),il C ros s l K->Rel w0 F0 X n ρ s a w->wpOps C.P ops Q (l++l2) a w:=by
 intro l;induction l with
 |nil=>intro _ s a w h aG;exact a2 s a w h aG
 |cons i l ih=>
  intro lV s a w h aG;replace ih:=ih λi ay=>lV i (List.mem_cons_of_mem _ ay);rw[List.cons_append];simp only[wpOps];cases bk:ops[i]? with
  |none=>
   simp only[il,(lV i (by simp)).1 bk]at h;exact ih s a w h aG
  |some o=>
   obtain⟨r,U,aa⟩:=(lV i (by simp)).2 o bk;simp only[il,U]at h;show(if Region.wanted o (yielded ops a.tmps)=true then o.wp C.P a w (wpOps C.P ops Q (l++l2)) Q\/(o.asks C.P a w/\LetsOut Q)else wpOps C.P ops Q (l++l2) (a.put o.dst undef) w);simp only[mA]at aa;split at aa
   .rename_i wh;split at aa
    .rename_i g bm;obtain⟨rd,bb,rg⟩:=r;simp only[bE.un,Option.some.injEq,bE.mk.injEq]at aa;obtain⟨rfl,bj,rfl⟩:=aa;simp only[jF]at h;have run:∀(cz:af->Prop),(∀au,cz au->il C ros au l K)->lU C s bb (λav s1=>cz (fin s1 o.dst av))->o.wp C.P a w (wpOps C.P ops Q (l++l2)) Q:=
      λcz hK hw=>Li a4 aG bj wh hw (λau bZ aw ak c9=>ih au bZ aw (hK au ak) c9)
     cases rZ:o.guard with
     |none=>
      rw[rZ]at bm;simp only[tL,Option.some.injEq]at bm;subst bm;simp only at h;rw[if_pos (wg rZ)];exact .inl (run _ (λ_ h=>h) h)
     |some zr=>
      obtain⟨aD,b⟩:=zr;rw[rZ]at bm;simp only[tL]at bm;split at bm
      .rename_i t aO;simp only[Option.some.injEq]at bm;subst bm;simp only at h;obtain⟨fR,hi⟩:=Lj aG aO;have D9:∀(cz:il C ros (fin s o.dst (.tuple [])) l K),wpOps C.P ops Q (l++l2) (a.put o.dst undef) w:=λcz=>ih _ _ _ cz (Rel.skip aG wh);split at h
       .rename_i eE R;have a_:=fR eE R;split at h
        .rename_i J;subst J;rw[if_pos (by simp[Region.wanted,rZ,a_])];exact .inl (run _ (λ_ h=>h) h)
        .rename_i J;rw[if_neg (by simp[Region.wanted,rZ,a_,J])];exact D9 h
       .rename_i R;have a_:=hi R;rw[if_neg (by simp[Region.wanted,rZ,a_])];exact D9 h
       .exact h.elim
      .cases bm
    .cases aa
   .cases aa
theorem D_ (a4:C.dx) {ops:Array Oper} {ros:List bE} (lW:mB n ops ops.toList=some (ros.map bE.un)) {K:af->Prop} (a2:∀au bZ aw,K au->Rel w0 F0 X n ρ au bZ aw->Q .normal bZ aw):
  ∀(l:Vm) (s:af) (a:Act) (w:World),il C ros s l K->Rel w0 F0 X n ρ s a w->wpOps C.P ops Q l a w:=by
 obtain⟨hl,lV⟩:=we lW;intro l s a w h aG;have:=tP (Q:=Q) a4 (ros:=ros) (ops:=ops) (l2:=[]) (K:=K) (n:=n) (ρ:=ρ) (w0:=w0) (F0:=F0) (X:=X) (λau bZ aw ak c9=>a2 au bZ aw ak c9) l (λi _=>⟨λbk=>by
   rw[List.getElem?_eq_none_iff,<-List.length_map (f:=bE.un),<-hl];have:=Array.getElem?_eq_none_iff.1 bk;simpa using this,λo bk=>by
   obtain⟨aF,gi,aa⟩:=lV i o (by simpa using bk);obtain⟨r,U,rfl⟩:∃r,ros[i]? =some r/\r.un=aF:=by simpa using gi
   exact⟨r,U,aa⟩⟩) s a w h aG
 rwa [List.append_nil]at this
theorem Rel.drawn (h:Rel w0 F0 X n ρ s a w) (k:Nat) (ak:w.drawn<=k):Rel w0 F0 X n ρ s a {w with drawn:=k}:=by
 obtain⟨U,aa,bd,F,S,ax⟩:=h;exact⟨U,aa,bd,F,S,ax.grow (λ_ _=>rfl) (Nat.le_refl _) rfl rfl ⟨rfl,λ_=>ak⟩⟩
theorem Lk (a4:C.dx) {id:Nat} {ops:Array Oper} {ros:List bE} (lW:mB n ops ops.toList=some (ros.map bE.un)) {K:af->Prop} (a2:∀au bZ aw,K au->Rel w0 F0 X n ρ au bZ aw->Q .normal bZ aw)
  (h:ik C s ros K) (aG:Rel w0 F0 X n ρ s a w):(Code.region id ops false).wp C.P Q a w:=by
 refine wp_region (D_ a4 lW a2 _ s a w ?_ aG);have:=K7 C K ros [] s h;have hl:=(we lW).1;simp only[List.nil_append,List.length_nil,Nat.add_zero,List.map_id']at this;rw[List.length_map]at hl;rw[<-hl]at this;simpa using this
end
def zs (mD:Vk) (l:Vm):Prop:=
 l.Nodup/\(∀i,i∈l↔i<mD.length)/\∀u i v,l=u++i::v->∀e∈(mD[i]?).getD [],e∈u
def lX (ops:Array Oper):Vk:=ops.toList.map λo=>(o.after.toList.filter λe=>Region.binds .any e).map (·.on)
def tQ (mD:Vk):Bool:=mD.zipIdx.all λp=>p.1.all λe=>decide (e<p.2)
theorem Ll {mD:Vk} (h:tQ mD=true) {i:Nat} {l:Vm} (ay:mD[i]? =some l):∀e∈l,e<i:=by
 intro e he;simp only[tQ,List.all_eq_true]at h;have:=h (l,i) (by rw[List.mem_zipIdx_iff_getElem?];exact ay) e he;simpa using this
theorem Lm {ops:Array Oper} (J:tQ (lX ops)=true):∀(fuel t:Nat) (e9:Array Bool),e9.size=ops.size->((List.range ops.size).filter λi=> !e9.getD i true).length<=fuel->
  (Region.linearise.go .any ops fuel t e9 []).Nodup/\(∀i,i∈Region.linearise.go .any ops fuel t e9 []↔(i<ops.size/\e9.getD i true=false))/\
   ∀u i v,Region.linearise.go .any ops fuel t e9 []=u++i::v->∀e∈((lX ops)[i]?).getD [],e9.getD e false=true\/e∈u:=by
 intro fuel;induction fuel with
 |zero=>
  intro t e9 R hl;have tt:((List.range ops.size).filter λi=> !e9.getD i true)=[]:=List.length_eq_zero_iff.1 (le_zero.1 hl);refine⟨by simp[Region.linearise.go],λi=>?_,λu i v h=>by simp[Region.linearise.go]at h⟩;simp only[Region.linearise.go,List.reverse_nil,List.not_mem_nil,false_iff,not_and];intro ay bd;have:i∈((List.range ops.size).filter λi=> !e9.getD i true):=List.mem_filter.2 ⟨List.mem_range.2 ay,by rw[bd];rfl⟩;rw[tt]at this;cases this
 |succ fuel ih=>
  intro t e9 R hl;have Ea:∀i,i∈Region.ready .any ops e9↔(i<ops.size/\e9.getD i true=false/\∀e∈((lX ops)[i]?).getD [],e9.getD e false=true):=by
   intro i;simp only[Region.ready,List.mem_filter,List.mem_range,Bool.and_eq_true,Bool.not_eq_true'];constructor
   .rintro⟨U,aa,ax⟩;refine⟨U,aa,?_⟩;rw[Array.getElem?_eq_getElem U]at ax;simp only[Option.map_some,Option.getD_some,Array.all_eq_true_iff_forall_mem]at ax;simp only[lX,List.getElem?_map,Array.getElem?_toList,Array.getElem?_eq_getElem U,Option.map_some,Option.getD_some,List.mem_map,List.mem_filter];rintro e ⟨x,⟨ae,qk⟩,rfl⟩;have:=ax x (by simpa using ae);simpa [qk]using this
   .rintro⟨U,aa,ax⟩;refine⟨U,aa,?_⟩;rw[Array.getElem?_eq_getElem U];simp only[Option.map_some,Option.getD_some,Array.all_eq_true_iff_forall_mem];simp only[lX,List.getElem?_map,Array.getElem?_toList,Array.getElem?_eq_getElem U,Option.map_some,Option.getD_some,List.mem_map,List.mem_filter]at ax;intro x ae;cases qk:Region.binds .any x with
    |false=>simp
    |true=>simpa using ax x.on ⟨x,⟨by simpa using ae,qk⟩,rfl⟩
  have hex:(∃i,i<ops.size/\e9.getD i true=false)->Region.ready .any ops e9≠[]:=by
   rintro⟨i,U,aa⟩;have:∃i,(i<ops.size/\e9.getD i true=false)/\∀aD,aD<i->¬(aD<ops.size/\e9.getD aD true=false):=by
    induction i using Nat.strongRecOn with
    |_ i Ln=>
     by_cases cn:∃aD,aD<i/\(aD<ops.size/\e9.getD aD true=false)
     .obtain⟨aD,Lo,Lp,Lq⟩:=cn;exact Ln aD Lo Lp Lq
     .exact⟨i,⟨U,aa⟩,λaD Lr ai=>cn ⟨aD,Lr,ai⟩⟩
   obtain⟨k,⟨bX,b6⟩,cR⟩:=this;have:k∈Region.ready .any ops e9:=(Ea k).2 ⟨bX,b6,λe he=>by
    cases b4:(lX ops)[k]? with
    |none=>rw[b4]at he;simp at he
    |some l=>
     rw[b4]at he;have da:=Ll J b4 e he;have:=cR e da;rw[not_and]at this;have:=this (by omega);have zt:e<e9.size:=by omega
     simp only[Array.getD_eq_getD_getElem?,Array.getElem?_eq_getElem zt,Option.getD_some]at this⊢;simpa using this⟩
   intro e;rw[e]at this;cases this
  have Eb:Region.linearise.go .any ops (fuel+1) t e9 []=(match(Region.ready .any ops e9)[t%(Region.ready .any ops e9).length]? with
   |some i=>Region.linearise.go .any ops fuel (t/(Region.ready .any ops e9).length) (e9.setIfInBounds i true) [i]
   |none=>[]):=rfl
  cases tR:(Region.ready .any ops e9)[t%(Region.ready .any ops e9).length]? with
  |none=>
   have tt:Region.ready .any ops e9=[]:=by
    cases aG:Region.ready .any ops e9 with
    |nil=>rfl
    |cons a l=>
     rw[aG]at tR;have:=List.getElem?_eq_none_iff.1 tR;have aa:=mod_lt t (show 0<(a::l).length by simp);omega
   rw[Eb,tR];refine⟨by simp,λi=>?_,λu i v h=>by simp at h⟩;simp only[List.not_mem_nil,false_iff];intro ay;exact hex ⟨i,ay⟩ tt
  |some i=>
   have ay:=(Ea i).1 (List.mem_of_getElem? tR);obtain⟨zu,Ec,Ls⟩:=ay;rw[Eb,tR];simp only;rw[linearise_go_acc];simp only[List.reverse_singleton,List.singleton_append];have oW:∀aD d,(e9.setIfInBounds i true).getD aD d=if aD=i then true else e9.getD aD d:=by
    intro aD d;split
    .rename_i e;subst e;simp[Array.getD_eq_getD_getElem?,Array.getElem?_setIfInBounds_self_of_lt (show aD<e9.size by omega)]
    .rename_i e;simp[Array.getD_eq_getD_getElem?,Array.getElem?_setIfInBounds_ne (λh=>e h.symm)]
   obtain⟨aL,a0,bK⟩:=ih (t/(Region.ready .any ops e9).length) (e9.setIfInBounds i true) (by simpa using R) (by
    have dX:((List.range ops.size).filter λaD=> !(e9.setIfInBounds i true).getD aD true)=((List.range ops.size).filter λi=> !e9.getD i true).filter λaD=>decide (aD≠i):=by
     rw[List.filter_filter];apply List.filter_congr;intro aD _;rw[oW];by_cases e:aD=i<;>simp[e]
    rw[dX];have da:(((List.range ops.size).filter λi=> !e9.getD i true).filter λaD=>decide (aD≠i)).length<((List.range ops.size).filter λi=> !e9.getD i true).length:=by
     rw[List.length_filter_lt_length_iff_exists];exact⟨i,List.mem_filter.2 ⟨List.mem_range.2 zu,by rw[Ec];rfl⟩,by simp⟩
    omega)
   refine⟨?_,λaD=>?_,?_⟩
   .rw[List.nodup_cons];refine⟨λhm=>?_,aL⟩;have:=((a0 i).1 hm).2;rw[oW,if_pos rfl]at this;cases this
   .rw[List.mem_cons,a0,oW];by_cases e:aD=i
    .subst e;simp[zu,Ec]
    .simp[e]
   .intro u aD v h e he;cases u with
    |nil=>
     simp only[List.nil_append,List.cons.injEq]at h;obtain⟨rfl,rfl⟩:=h;exact .inl (Ls e he)
    |cons tS u=>
     simp only[List.cons_append,List.cons.injEq]at h;obtain⟨rfl,h⟩:=h;rcases bK u aD v h e he with bl|bl
     .rw[oW]at bl;split at bl
      .rename_i fk;subst fk;exact .inr (by simp)
      .exact .inl bl
     .exact .inr (by simp[bl])
theorem Lt {ops:Array Oper} (J:tQ (lX ops)=true) (t:Nat):zs (lX ops) (Region.linearise .any ops t):=by
 have Ed:∀i d,i<ops.size->(Array.replicate ops.size false).getD i d=false:=by
  intro i d ay;simp[Array.getD_eq_getD_getElem?,ay]
 obtain⟨aL,a0,bK⟩:=Lm J ops.size t (Array.replicate ops.size false) (by simp) (by
  have:=List.length_filter_le (λi=> !(Array.replicate ops.size false).getD i true) (List.range ops.size);simpa using this)
 have hlen:(lX ops).length=ops.size:=by simp[lX]
 refine⟨aL,λi=>?_,λu i v h e he=>?_⟩
 .rw[hlen];rw[show Region.linearise .any ops t=Region.linearise.go .any ops ops.size t (Array.replicate ops.size false) []from rfl,a0];exact⟨λh=>h.1,λh=>⟨h,Ed i true h⟩⟩
 .rcases bK u i v h e he with bl|bl
  .exfalso;by_cases wi:e<ops.size
   .rw[Ed e false wi]at bl;cases bl
   .simp[Array.getD_eq_getD_getElem?,wi]at bl
  .exact bl
def ao:Vq->af
 |[],_=>.hole
 |(u,d)::l,t=>if t=u then d else ao l t
mutual
inductive dQ:j->j->Prop
 |refl (d:j):dQ d d
 |gW (sz:Nat):dQ .aK (.aq sz [])
 |qv:dQ .aK (.slice [])
 |any (b:Bool):dQ (.bool b) .dV
 |share (d:j):d.tree=true->(∀vs,d≠.tuple vs)->(∀o,d≠.cY o)->(∀f c,d≠.br f c)->dQ d d.share
 |agg {ds es:Vr}:hz ds es->dQ (.agg ds) (.agg es)
 |aS {d e:j}:dQ d e->dQ (.aS d) (.aS e)
 |aq {sz:Nat} {ds es:Vr}:hz ds es->dQ (.aq sz ds) (.aq sz es)
 |tuple {ds es:Vr}:hz ds es->dQ (.tuple ds) (.tuple es)
 |ref {d e:j}:dQ d e->dQ (.ref d) (.ref e)
 |trans {d e f:j}:dQ d e->dQ e f->dQ d f
inductive hz:Vr->Vr->Prop
 |nil:hz [] []
 |cons {d e:j} {ds es:Vr}:dQ d e->hz ds es->hz (d::ds) (e::es)
end
mutual
theorem dQ.wd:∀{d e:j},dQ d e->e.wd=d.wd
 |_,_,.refl _=>rfl
 |_,_,.gW _=>rfl
 |_,_,.qv=>rfl
 |_,_,.any _=>rfl
 |_,_,.share d _ _ _ _=>j.vx d
 |_,_,.agg h=>by simp only[j.wd];exact hz.wd h
 |_,_,.aS _=>rfl
 |_,_,.aq _=>rfl
 |_,_,.tuple h=>by simp only[j.wd];exact hz.wd h
 |_,_,.ref _=>rfl
 |_,_,.trans h k=>(dQ.wd k).trans (dQ.wd h)
theorem hz.wd:∀{ds es:Vr},hz ds es->j.c0 es=j.c0 ds
 |_,_,.nil=>rfl
 |_,_,.cons h R=>by simp only[j.c0];rw[dQ.wd h,hz.wd R]
end
theorem hz.len {ds es:Vr} (h:hz ds es):es.length=ds.length:=by
 induction ds generalizing es with
 |nil=>cases h;rfl
 |cons d ds ih=>cases h with|cons h R=>simp[ih R]
theorem hz.all {sz:Nat} {ds es:Vr} (h:hz ds es) (ad:∀d∈ds,d.wd=sz):∀d∈es,d.wd=sz:=by
 induction ds generalizing es with
 |nil=>cases h;intro d ad;cases ad
 |cons d ds ih=>
  cases h with
  |cons h R=>
   intro x ae;rcases List.mem_cons.1 ae with rfl|ae
   .rw[h.wd];exact ad d (by simp)
   .exact ih R (λd hm=>ad d (by simp[hm])) x ae
section
variable {w0 w:World} {F0 X F:Nat->Prop} {S:Nat->Nat->Prop} {s au:af} {an:Nat->Value}
def Lu (w:World) (F:Nat->Prop) (_d e:j) (cs:Vp) (S:Nat->Prop):Prop:=
 ∃gH gI:Nat->Prop,(∀b,gH b->S b)/\(∀b,gI b->S b)/\(∀b,gI b->¬gH b)/\∀ba,(∀b,F b\/gH b->ba b)->aj w ba e cs gI
mutual
theorem aj.mE:∀{d e:j},dQ d e->∀{F:Nat->Prop} {cs:Vp} {S:Nat->Prop},aj w F d cs S->Lu w F d e cs S
 |_,_,.refl _,F,cs,S,h=>⟨λ_=>False,S,λ_ h=>h.elim,λ_ h=>h,λ_ _ h=>h,λba a3=>aj.mono (λb J=>a3 b (.inl J)) _ _ _ _ (λ_ h=>h) h⟩
 | .aK,_,.gW sz,F,cs,S,h=>⟨λ_=>False,S,λ_ h=>h.elim,λ_ h=>h,λ_ _ h=>h,λba a3=>by simp only[aj]at h⊢;exact .inl ⟨trivial,_,h⟩⟩
 | .aK,_,.qv,F,cs,S,h=>⟨λ_=>False,S,λ_ h=>h.elim,λ_ h=>h,λ_ _ h=>h,λba a3=>by simp only[aj]at h⊢;exact .inl ⟨trivial,none,0,h,zero_le _,λ_=>rfl⟩⟩
 | .bool _,_,.any b,F,cs,S,h=>⟨λ_=>False,S,λ_ h=>h.elim,λ_ h=>h,λ_ _ h=>h,λba a3=>by simp only[aj]at h⊢;exact⟨b,h⟩⟩
 |_,_,.share d _ _ _ _,F,cs,S,h=>⟨S,λ_=>False,λ_ h=>h,λ_ h=>h.elim,λ_ h=>h.elim,λba a3=>aj.shared (λb J=>a3 b (.inl J)) d cs S (λb J=>a3 b (.inr J)) h⟩
 |_,_,.agg hM,F,cs,S,h=>by
  rw[aj]at h;obtain⟨gH,gI,U,aa,ax,aP⟩:=aQ.mE hM h;exact⟨gH,gI,U,aa,ax,λba a3=>by rw[aj];exact aP ba a3⟩
 |_,_,.aS ad,F,cs,S,h=>by
  rw[aj]at h;obtain⟨b,cur,ty,fr,aB,bX,b6,cR,cI,d_,dD,hv⟩:=h;obtain⟨gH,gI,U,aa,ax,aP⟩:=aj.mE ad d_;refine⟨gH,λc=>c=b\/gI c,λc ai=>dD c (U c ai),?_,?_,λba a3=>?_⟩
  .rintro c (rfl|ai)
   .exact b6
   .exact dD c (aa c ai)
  .rintro c (rfl|ai) bd
   .exact hv (U _ bd)
   .exact ax c ai bd
  .rw[aj];exact⟨b,cur,ty,fr,gI,bX,.inl rfl,cR,cI,aP ba a3,λc ai=>.inr ai,λai=>hv (aa _ ai)⟩
 | .aq sz ds,.aq _ es,.aq hM,F,cs,S,h=>by
   rw[aj]at h;have hl:=hM.len;rcases h with⟨U,aa⟩|⟨b,cap,cur,ty,fr,aB,bX,b6,cR,cI,d_,dD,hv,ed,j4,o0,Ee⟩
   .refine⟨λ_=>False,S,λ_ h=>h.elim,λ_ h=>h,λ_ _ h=>h,λba _=>?_⟩;rw[aj];subst U;exact .inl ⟨List.length_eq_zero_iff.1 (by simpa using hl),aa⟩
   .obtain⟨gH,gI,U,aa,ax,aP⟩:=aQ.mE hM j4;refine⟨gH,λc=>c=b\/gI c,λc ai=>o0 c (U c ai),?_,?_,λba a3=>?_⟩
    .rintro c (rfl|ai)
     .exact b6
     .exact o0 c (aa c ai)
    .rintro c (rfl|ai) bd
     .exact Ee (U _ bd)
     .exact ax c ai bd
    .rw[aj];refine .inr ⟨b,cap,cur,ty,fr,gI,by rw[hl];exact bX,.inl rfl,cR,cI,by rw[hl];exact d_,dD,hv,hM.all ed,by rw[hl];exact aP ba a3,λc ai=>.inr ai,λai=>Ee (aa _ ai)⟩
 |_,_,.tuple hM,F,cs,S,h=>by
  rw[aj]at h;obtain⟨gH,gI,U,aa,ax,aP⟩:=aQ.mE hM h;exact⟨gH,gI,U,aa,ax,λba a3=>by rw[aj];exact aP ba a3⟩
 |_,_,.ref ad,F,cs,S,h=>by
  rw[aj]at h;obtain⟨b,o,de,U,aa,ax,aP⟩:=h;obtain⟨gH,gI,bX,b6,cR,cI⟩:=aj.mE ad aP;refine⟨λ_=>False,S,λ_ h=>h.elim,λ_ h=>h,λ_ _ h=>h,λba a3=>?_⟩;rw[aj];exact⟨b,o,de,U,a3 _ (.inl aa),ax,aj.mono (λ_ h=>h) _ _ _ _ (λb J=>b6 b J) (cI ba λb J=>a3 b (J.imp id λh=>(bX b h).elim))⟩
 |_,_,.trans ad he,F,cs,S,h=>by
  obtain⟨gH,gI,U,aa,ax,aP⟩:=aj.mE ad h;obtain⟨zv,wj,bX,b6,cR,cI⟩:=aj.mE he (F:=λb=>F b\/gH b) (aP _ λ_ h=>h);refine⟨λb=>gH b\/zv b,wj,?_,λb J=>aa b (b6 b J),?_,λba a3=>cI ba λb J=>?_⟩
  .rintro b (h|h)
   .exact U b h
   .exact aa b (bX b h)
  .rintro b J (h|h)
   .exact ax b (b6 b J) h
   .exact cR b J h
  .rcases J with(J|J)|J
   .exact a3 b (.inl J)
   .exact a3 b (.inr (.inl J))
   .exact a3 b (.inr (.inr J))
theorem aQ.mE:∀{ds es:Vr},hz ds es->∀{F:Nat->Prop} {cs:Vp} {S:Nat->Prop},aQ w F ds cs S->
  ∃gH gI:Nat->Prop,(∀b,gH b->S b)/\(∀b,gI b->S b)/\(∀b,gI b->¬gH b)/\∀ba,(∀b,F b\/gH b->ba b)->aQ w ba es cs gI
 |_,_,.nil,F,cs,S,h=>⟨λ_=>False,λ_=>False,λ_ h=>h.elim,λ_ h=>h.elim,λ_ h=>h.elim,λba a3=>by rw[aQ]at h⊢;exact h⟩
 |_,_,.cons ad hM,F,cs,S,h=>by
  rw[aQ]at h;obtain⟨bu,bN,bP,cx,rfl,a0,bK,cF,dq,gk⟩:=h;obtain⟨Lv,Ef,ar,bw,fG,ng⟩:=aj.mE ad a0;obtain⟨zv,wj,iF,gl,h1,cO⟩:=aQ.mE hM bK;refine⟨λb=>Lv b\/zv b,λb=>Ef b\/wj b,?_,?_,?_,λba a3=>?_⟩
  .rintro b (h|h)
   .exact cF b (ar b h)
   .exact dq b (iF b h)
  .rintro b (h|h)
   .exact cF b (bw b h)
   .exact dq b (gl b h)
  .rintro b (h|h) (bl|bl)
   .exact fG b h bl
   .exact gk b (bw b h) (iF b bl)
   .exact gk b (ar b bl) (gl b h)
   .exact h1 b h bl
  .rw[aQ];refine⟨bu,bN,Ef,wj,rfl,ng ba (λb J=>a3 b (J.imp id .inl)),cO ba (λb J=>a3 b (J.imp id .inr)),λb J=>.inl J,λb J=>.inr J,λb U aa=>gk b (bw b U) (gl b aa)⟩
end
theorem dQ.wk:∀{d e:j},dQ d e->(∀vs,d≠.tuple vs)->∀vs,e≠.tuple vs
 |_,_,.refl _,h=>h
 |_,_,.gW _,_=>λ_ h=>by cases h
 |_,_,.qv,_=>λ_ h=>by cases h
 |_,_,.any _,_=>λ_ h=>by cases h
 |_,_,.share d _ _ _ _,h=>λvs he=>by cases d<;>first|(cases he;done)|exact h _ rfl
 |_,_,.agg _,_=>λ_ h=>by cases h
 |_,_,.aS _,_=>λ_ h=>by cases h
 |_,_,.aq _,_=>λ_ h=>by cases h
 |_,_,.tuple _,h=>λ_ _=>h _ rfl
 |_,_,.ref _,_=>λ_ h=>by cases h
 |_,_,.trans h k,a2=>dQ.wk k (dQ.wk h a2)
theorem dQ.gP:∀{d e:j} {v:Value},dQ d e->(∀vs,d≠.tuple vs)->cV.gP d v->cV.gP e v
 |_,_,_,.refl _,_,h=>h
 |_,_,_,.gW _,_,h=>h
 |_,_,_,.qv,_,h=>h
 |_,_,_,.any _,_,h=>h
 |_,_,_,.share d _ a2 _ _,_,h=>by cases d<;>first|exact h|exact(a2 _ rfl).elim
 |_,_,_,.agg _,_,h=>h
 |_,_,_,.aS _,_,h=>h
 |_,_,_,.aq _,_,h=>h
 |_,_,_,.tuple _,a2,_=>(a2 _ rfl).elim
 |_,_,_,.ref _,_,h=>h
 |_,_,_,.trans h k,a2,R=>dQ.gP k (dQ.wk h a2) (dQ.gP h a2 R)
theorem hz.get:∀{ds es:Vr},hz ds es->∀(k:Nat) (e:j),es[k]? =some e->∃d,ds[k]? =some d/\dQ d e
 |_,_,.nil,k,e,h=>by simp at h
 |_,_,.cons ad R,0,e,h=>by simp at h;subst h;exact⟨_,rfl,ad⟩
 |_,_,.cons ad R,k+1,e,h=>hz.get R k e (by simpa using h)
theorem dQ.cM:∀{d e:j} {v:Value},dQ d e->cV.cM d v->cV.cM e v
 |_,_,_,.refl _,R=>R
 |_,_,_,.gW _,R=>R
 |_,_,_,.qv,R=>R
 |_,_,_,.any _,R=>R
 |_,_,_,.share _ _ kz _ _,R=>zb kz R
 |_,_,_,.agg _,R=>R
 |_,_,_,.aS _,R=>R
 |_,_,_,.aq _,R=>R
 |_,_,_,.ref _,R=>R
 |_,_,_,.tuple ad,R=>by
  obtain⟨arr,U,aa,ax⟩:=R;refine⟨arr,U,aa.trans ad.len.symm,λk e x he ae=>?_⟩;obtain⟨d,ak,hw⟩:=ad.get k e he;obtain⟨ar,bw,fG⟩:=ax k d x ak ae;exact⟨hw.gP bw ar,hw.wk bw,fG.trans hw.wd.symm⟩
 |_,_,_,.trans h k,R=>dQ.cM k (dQ.cM h R)
theorem dQ.tree:∀{d e:j},dQ d e->d.tree=true->e.tree=true
 |_,_,.refl _,ad=>ad
 |_,_,.gW _,_=>rfl
 |_,_,.qv,_=>rfl
 |_,_,.any _,_=>rfl
 |_,_,.share d _ _ hY zc,ad=>by cases d<;>first|exact ad|rfl|exact(hY _ rfl).elim|exact(zc _ _ rfl).elim
 |_,_,.agg _,_=>rfl
 |_,_,.aS _,_=>rfl
 |_,_,.aq _,_=>rfl
 |_,_,.tuple _,_=>rfl
 |_,_,.ref _,_=>rfl
 |_,_,.trans h k,ad=>dQ.tree k (dQ.tree h ad)
mutual
def j.qw:j->Vm
 | .h x q=>if q.isEmpty then []else [x]
 | .ag x _=>[x]
 | .J x _=>[x]
 | .fn _ cap=>j.tT cap
 |_=>[]
def j.tT:Vr->Vm
 |[]=>[]
 |d::ds=>d.qw++j.tT ds
end
def tU (s au:af) (x:Nat) (D:Vm):Prop:=au x=s x\/au x= .hole\/((s x).own=true/\(au x).own=true/\x∉D)
theorem tU.less {s au:af} {x:Nat} {D E:Vm} (h:tU s au x D) (zw:∀u∈E,u∈D):tU s au x E:=by
 rcases h with h|h|⟨U,aa,ax⟩
 .exact .inl h
 .exact .inr (.inl h)
 .exact .inr (.inr ⟨U,aa,λae=>ax (zw x ae)⟩)
theorem az.dF {ba:Nat->Prop} (a3:∀b,F b->ba b):∀n,(∀(d:j) (v:Value) (cU:Nat->Prop),SizeOf.sizeOf d<=n->(∀x∈d.R,tU s au x d.qw)->az w F s an d v cU->az w ba au an d v cU)/\
  (∀(ds:Vr) (vs:Vp),SizeOf.sizeOf ds<=n->(∀x∈j.dh ds,tU s au x (j.tT ds))->cK w F s an ds vs->cK w ba au an ds vs):=by
 intro n;induction n with
 |zero=>
  refine⟨λd v cU bC=>?_,λds vs bC=>?_⟩
  .cases d<;>simp at bC<;>omega
  .cases ds<;>simp at bC<;>omega
 |succ n ih=>
  refine⟨λd v cU bC ak h=>?_,λds vs bC ak h=>?_⟩
  .cases d with
   |hole=>rw[az];trivial
   |h x q=>
    rw[az]at h⊢;intro e dX ag;rcases ak x (by simp[j.R])with he|he|⟨Eg,Lw,tV⟩
    .rw[he]at dX⊢;exact h e dX ag
    .rw[he]at dX;cases q with
     |nil=>simp only[j.sub,Option.some.injEq]at dX;subst dX;simp[j.plain]at ag
     |cons k q=>simp[j.sub]at dX
    .cases q with
     |nil=>
      simp only[j.sub,Option.some.injEq]at dX;subst dX;obtain⟨b_,I,eO,el,fP⟩:=h (s x) (by simp only[j.sub]) (qp Eg).1;simp only[cy,Option.some.injEq,Prod.mk.injEq,true_and]at eO;exact⟨bW (an x),none,by simp only[cy],by rw[el,<-eO.1],((qp Lw).2.2.2.2.2 _).2 (((qp Eg).2.2.2.2.2 _).1 fP)⟩
     |cons k q=>exact(tV (by simp[j.qw])).elim
   |ag x q=>
    rw[az]at h⊢;intro e dX ai;rcases ak x (by simp[j.R])with he|he|⟨_,_,tV⟩
    .rw[he]at dX ai⊢;exact h e dX ai
    .rw[he]at ai;cases q<;>simp[j.eu]at ai
    .exact(tV (by simp[j.qw])).elim
   |J x k=>
    rw[az]at h⊢;intro ag;rcases ak x (by simp[j.R])with he|he|⟨_,_,tV⟩
    rotate_left 2
    .exact(tV (by simp[j.qw])).elim
    .rw[he]at ag;obtain⟨b,cur,e,fr,U,aa,ax,aP⟩:=h ag;exact⟨b,cur,e,fr,U,a3 b aa,ax,aP⟩
    .rw[he]at ag;simp[j.plain]at ag
   |fn f cap=>
    rw[az]at h⊢;obtain⟨arr,rfl,ai⟩:=h;exact⟨arr,rfl,ih.2 _ _ (by simp at bC;omega) (by simpa [j.R,j.qw]using ak) ai⟩
   |_=>
    have bl:=(az.b7 rfl).1 h;exact(az.b7 rfl).2 ⟨bl.1,aj.mono a3 _ _ _ _ (λ_ h=>h) bl.2⟩
  .cases ds with
   |nil=>rw[cK]at h⊢;exact h
   |cons d ds=>
    rw[cK]at h⊢;obtain⟨v,ev,rfl,U,aa⟩:=h;simp at bC;simp only[j.dh,List.mem_append]at ak;exact⟨v,ev,rfl,ih.1 _ _ _ (by omega) (λx ae=>(ak x (.inl ae)).less λu hu=>by simp[j.tT,hu]) U,ih.2 _ _ (by omega) (λx ae=>(ak x (.inr ae)).less λu hu=>by simp[j.tT,hu]) aa⟩
def qx (s:af) (l:Vq):Prop:=
 ∀p∈l,p.2=s p.1\/((s p.1).tree=true/\dQ (s p.1) p.2/\∀b8∈l,p.1∉b8.2.R\/((s p.1).own=true/\p.2.own=true/\p.1∉b8.2.qw))
theorem Eh:∀(l:Vq) (t:Nat),ao l t= .hole\/∃p∈l,p.1=t/\ao l t=p.2:=by
 intro l;induction l with
 |nil=>intro t;exact .inl rfl
 |cons p l ih=>
  intro t;obtain⟨u,d⟩:=p;simp only[ao];split
  .rename_i e;exact .inr ⟨(u,d),by simp,e.symm,rfl⟩
  .rcases ih t with h|⟨p,ag,h⟩
   .exact .inl h
   .exact .inr ⟨p,by simp[ag],h⟩
theorem bg.Ei (h:bg w0 F0 X F S s an w) {l:Vq} (hw:qx s l):∃ba aB,bg w0 F0 X ba aB (ao l) an w:=by
 have each:∀t,∃gH gI:Nat->Prop,(∀b,gH b->S t b)/\(∀b,gI b->S t b)/\(∀b,gI b->¬gH b)/\∀ba,(∀b,F b\/gH b->ba b)->az w ba (ao l) an (ao l t) (an t) gI:=by
  intro t;rcases Eh l t with e|⟨p,ag,rfl,e⟩
  .exact⟨λ_=>False,λ_=>False,λ_ h=>h.elim,λ_ h=>h.elim,λ_ h=>h.elim,λba _=>by rw[e,az];trivial⟩
  .rw[e];rcases hw p ag with ak|⟨aO,iQ,_⟩
   .refine⟨λ_=>False,S p.1,λ_ h=>h.elim,λ_ h=>h,λ_ _ h=>h,λba a3=>?_⟩;rw[ak];refine(az.dF (λb J=>a3 b (.inl J)) (SizeOf.sizeOf (s p.1))).1 _ _ _ (Nat.le_refl _) ?_ (h.cG p.1);intro x ae;rcases Eh l x with fk|⟨b8,c_,rfl,fk⟩
    .exact .inr (.inl fk)
    .rcases hw b8 c_ with iH|⟨_,_,hY⟩
     .exact .inl (fk.trans iH)
     .rcases hY p ag with hY|⟨jD,kA,v5⟩
      .exact(hY (by rw[ak];exact ae)).elim
      .exact .inr (.inr ⟨jD,by rw[fk];exact kA,by rw[ak]at v5;exact v5⟩)
   .obtain⟨aL,a0⟩:=(az.b7 aO).1 (h.cG p.1);obtain⟨gH,gI,bX,b6,cR,cI⟩:=aj.mE iQ a0;exact⟨gH,gI,bX,b6,cR,λba a3=>(az.b7 (iQ.tree aO)).2 ⟨iQ.cM aL,cI ba a3⟩⟩
 have bu:=λt=>(each t).choose_spec;let gH:=λt=>(each t).choose
 have bN:=λt=>(bu t).choose_spec;let gI:=λt=>(bu t).choose
 have eS:∀t b,gH t b->S t b:=λt=>(bN t).1;have dY:∀t b,gI t b->S t b:=λt=>(bN t).2.1;have gS:∀t b,gI t b->¬gH t b:=λt=>(bN t).2.2.1;have fQ:=λt=>(bN t).2.2.2;refine⟨λb=>F b\/∃t,gH t b,gI,λb J=>.inl (h.fl b J),?_,?_,λt b J=>h.dw t b (dY t b J),?_,λt u b cJ J hu=>h.dS t u b cJ (dY t b J) (dY u b hu),λt b J=>h.cU t b (dY t b J),?_,h.old,h.size,h.os,h.tape,h.output,h.fB⟩
 .rintro b (J|⟨t,J⟩)
  .exact h.fA b J
  .exact .inr (h.cU t b (eS t b J))
 .rintro b (J|⟨t,J⟩)
  .exact h.eg b J
  .exact h.dw t b (eS t b J)
 .rintro t b J (bd|⟨u,hu⟩)
  .exact h.ew t b (dY t b J) bd
  .by_cases e:t=u
   .subst e;exact gS t b J hu
   .exact h.dS t u b e (dY t b J) (eS u b hu)
 .intro t;exact fQ t _ (λb J=>J.imp id λh=>⟨t,h⟩)
end
inductive aM where
 |skip
 |eT (ros:List bE) (dF:Option Vm)
 |im (ros:List bE) (mD:Vk) (dF:Option Vm)
 |seq (a b:aM)
 |cond (c:aT) (a b:aM)
 |block (id:Nat) (b:aM)
 |loop (b:aM)
 |exit (id:Nat)
 |ret
 |gX (T:(Exit->af->Prop)->af->Prop) (b:aM)
 |raw (c:Code)
def e_ (n:Fr):Code->Option aM
 | .skip=>some .skip
 | .region id ops false=>match mB n ops ops.toList with
   |some r=>some (.eT r none)
   |none=>some (.raw (.region id ops false))
 | .region _ ops true=>if tQ (lX ops)=true then(mB n ops ops.toList).map λr=>.im r (lX ops) none else none
 | .seq a b=>match e_ n a,e_ n b with
   |some a,some b=>some (.seq a b)
   |_,_=>none
 | .cond c a b=>match cQ c,e_ n a,e_ n b with
   |some c,some a,some b=>some (.cond c a b)
   |_,_,_=>none
 | .block id b=>(e_ n b).map (.block id)
 | .loop b=>(e_ n b).map .loop
 | .exit id=>some (.exit id)
 | .ret=>some .ret
 |_=>none
def aM.jr:aM->aM
 | .eT ros _=>.eT ros none
 | .im ros dR _=>.im ros dR none
 | .seq a b=>.seq a.jr b.jr
 | .cond c a b=>.cond c a.jr b.jr
 | .block id b=>.block id b.jr
 | .loop b=>.loop b.jr
 | .gX T b=>.gX T b.jr
 |c=>c
def aM.strip:aM->aM
 | .eT ros _=>.eT (ros.map bE.un) none
 | .im ros dR _=>.im (ros.map bE.un) dR none
 | .seq a b=>.seq a.strip b.strip
 | .cond c a b=>.cond c a.strip b.strip
 | .block id b=>.block id b.strip
 | .loop b=>.loop b.strip
 | .gX _ b=>b.strip
 |c=>c
theorem aM.zx:∀c:aM,c.jr.strip=c.strip:=by
 intro c;induction c with
 |seq a b iq ir=>simp only[aM.jr,aM.strip,iq,ir]
 |cond c a b iq ir=>simp only[aM.jr,aM.strip,iq,ir]
 |block id b ih=>simp only[aM.jr,aM.strip,ih]
 |loop b ih=>simp only[aM.jr,aM.strip,ih]
 |gX T b ih=>simp only[aM.jr,aM.strip,ih]
 |_=>rfl
def aM.bare (H:((Exit->af->Prop)->af->Prop)->aM->Prop):aM->Prop
 | .eT _ k=>k=none
 | .im _ _ k=>k=none
 | .seq a b=>a.bare H/\b.bare H
 | .cond _ a b=>a.bare H/\b.bare H
 | .block _ b=>b.bare H
 | .loop b=>b.bare H
 | .gX T b=>H T b
 |_=>True
def aM.k1 (H:((Exit->af->Prop)->af->Prop)->aM->Prop):aM->Prop
 | .seq a b=>a.k1 H/\b.k1 H
 | .cond _ a b=>a.k1 H/\b.k1 H
 | .block _ b=>b.k1 H
 | .loop b=>b.k1 H
 | .gX T b=>H T b.jr
 |_=>True
theorem aM.zy {H:((Exit->af->Prop)->af->Prop)->aM->Prop}:∀c:aM,c.k1 H->c.jr.bare H:=by
 intro c;induction c with
 |seq a b iq ir=>intro h;exact⟨iq h.1,ir h.2⟩
 |cond c a b iq ir=>intro h;exact⟨iq h.1,ir h.2⟩
 |block id b ih=>intro h;exact ih h
 |loop b ih=>intro h;exact ih h
 |eT=>intro _;rfl
 |im=>intro _;rfl
 |gX T b _=>intro h;exact h
 |_=>intro _;trivial
def aM.plain:aM->Bool
 | .seq a b=>a.plain&&b.plain
 | .cond _ a b=>a.plain&&b.plain
 | .block _ b=>b.plain
 | .loop b=>b.plain
 | .gX _ _=>false
 |_=>true
theorem aM.Lx {H:((Exit->af->Prop)->af->Prop)->aM->Prop}:∀c:aM,c.plain=true->c.k1 H:=by
 intro c;induction c with
 |seq a b iq ir=>intro h;simp only[aM.plain,Bool.and_eq_true]at h;exact⟨iq h.1,ir h.2⟩
 |cond c a b iq ir=>intro h;simp only[aM.plain,Bool.and_eq_true]at h;exact⟨iq h.1,ir h.2⟩
 |block id b ih=>intro h;exact ih h
 |loop b ih=>intro h;exact ih h
 |gX T b _=>intro h;cases h
 |_=>intro _;trivial
def andThen (K:af->Prop) (Q:Exit->af->Prop):Exit->af->Prop
 | .normal,s=>K s
 |e,s=>Q e s
def r0 (id:Nat) (Q:Exit->af->Prop):Exit->af->Prop
 | .exit i,s=>if i=id then Q .normal s else Q (.exit i) s
 |e,s=>Q e s
def dr (K:af->Prop) (s:af):Prop:=K s\/∃l,qx s l/\K (ao l)
def tW:Option Vm->(af->Prop)->af->Prop
 |none,K,s=>dr K s
 |some k,K,s=>K (ao (k.map λt=>(t,s t)))
def bh (C:bI):aM->(Exit->af->Prop)->af->Prop
 | .skip,Q,s=>Q .normal s
 | .eT ros dF,Q,s=>ik C s ros (tW dF (Q .normal))
 | .im ros mD dF,Q,s=>∀l,zs mD l->il C ros s l (tW dF (Q .normal))
 | .seq a b,Q,s=>bh C a (andThen (dr (bh C b Q)) Q) s
 | .cond c a b,Q,s=>match a6 s c with
   | .bool eE=>if eE=true then bh C a Q s else bh C b Q s
   | .dV=>bh C a Q s/\bh C b Q s
   |_=>False
 | .block id b,Q,s=>bh C b (r0 id Q) s
 | .loop b,Q,s=>dr (λs=>∀Z:af->Prop,(∀au,bh C b (andThen (dr Z) Q) au->Z au)->Z s) s
 | .exit id,Q,s=>Q (.exit id) s
 | .ret,Q,s=>Q .ret s
 | .gX T _,Q,s=>∀dj:Exit->af->Prop,(∀e s,Q e s->dj e s)->T dj s
 | .raw _,_,_=>False
section
variable {C:bI}
theorem zz {s:af} {o:bE} {K cz:af->Prop} (h:jF C s o K) (ak:∀s,K s->cz s):jF C s o cz:=by
 unfold jF at h⊢;split
 .rename_i bm;rw[bm]at h;exact v_ h λav s1=>ak _
 .rename_i t b bm;rw[bm]at h;simp only at h;split
  .rename_i eE R;rw[R]at h;simp only at h;split
   .rename_i J;rw[if_pos J]at h;exact v_ h λav s1=>ak _
   .rename_i J;rw[if_neg J]at h;exact ak _ h
  .rename_i R;rw[R]at h;exact ak _ h
  .rename_i U aa;split at h
   .exact U _ (by assumption)
   .exact aa (by assumption)
   .exact h
theorem Ej {K cz:af->Prop} (ak:∀s,K s->cz s):∀{ros:List bE} {s:af},ik C s ros K->ik C s ros cz:=by
 intro ros;induction ros with
 |nil=>intro s h;exact ak s h
 |cons o ros ih=>intro s h;exact zz h λs h=>ih h
theorem Ek {ros:List bE} {K cz:af->Prop} (ak:∀s,K s->cz s):∀{l:Vm} {s:af},il C ros s l K->il C ros s l cz:=by
 intro l;induction l with
 |nil=>intro s h;exact ak s h
 |cons i l ih=>
  intro s h;simp only[il]at h⊢;split
  .rename_i bk;rw[bk]at h;exact ih h
  .rename_i o bk;rw[bk]at h;exact zz h λs h=>ih h
theorem qy {K cz:af->Prop} (ak:∀s,K s->cz s) (s:af) (h:dr K s):dr cz s:=
 h.imp (ak s) λ⟨l,U,aa⟩=>⟨l,U,ak _ aa⟩
theorem El {dF:Option Vm} {K cz:af->Prop} (ak:∀s,K s->cz s) (s:af) (h:tW dF K s):tW dF cz s:=by
 cases dF with
 |none=>exact qy ak s h
 |some k=>exact ak _ h
theorem Em {dF:Option Vm} {K:af->Prop} {s:af} (h:tW dF K s):dr K s:=by
 cases dF with
 |none=>exact h
 |some k=>
  refine .inr ⟨_,?_,h⟩;intro p ag;obtain⟨t,_,rfl⟩:=List.mem_map.1 ag;exact .inl rfl
theorem zA {K cz:af->Prop} {Q dj:Exit->af->Prop} (ak:∀s,K s->cz s) (b2:∀e s,Q e s->dj e s):∀e s,andThen K Q e s->andThen cz dj e s:=by
 intro e s h;cases e with
 |normal=>exact ak s h
 |_=>exact b2 _ s h
theorem En:∀(c:aM) {Q dj:Exit->af->Prop} {s:af},(∀e s,Q e s->dj e s)->bh C c Q s->bh C c dj s:=by
 intro c;induction c with
 |skip=>intro Q dj s b2 h;exact b2 _ _ h
 |eT ros dF=>intro Q dj s b2 h;exact Ej (El (b2 _)) h
 |im ros mD dF=>intro Q dj s b2 h l hl;exact Ek (El (b2 _)) (h l hl)
 |seq a b iq ir=>
  intro Q dj s b2 h;exact iq (zA (λs h=>qy (λ_ h=>ir b2 h) s h) b2) h
 |cond c a b iq ir=>
  intro Q dj s b2 h;simp only[bh]at h⊢;split
  .rename_i eE J;rw[J]at h;simp only at h;split
   .rename_i e;rw[if_pos e]at h;exact iq b2 h
   .rename_i e;rw[if_neg e]at h;exact ir b2 h
  .rename_i J;rw[J]at h;exact⟨iq b2 h.1,ir b2 h.2⟩
  .rename_i U aa;split at h
   .exact U _ (by assumption)
   .exact aa (by assumption)
   .exact h
 |block id b ih=>
  intro Q dj s b2 h;refine ih ?_ h;intro e s h;cases e with
  |exit i=>
   simp only[r0]at h⊢;split
   .rename_i e;rw[if_pos e]at h;exact b2 _ _ h
   .rename_i e;rw[if_neg e]at h;exact b2 _ _ h
  |_=>exact b2 _ _ h
 |loop b ih=>
  intro Q dj s b2 h;refine qy (λs h Z r1=>?_) s h;exact h Z λau fp=>r1 au (ih (zA (λ_ h=>h) b2) fp)
 |exit id=>intro Q dj s b2 h;exact b2 _ _ h
 |ret=>intro Q dj s b2 h;exact b2 _ _ h
 |gX T b _=>intro Q dj s b2 h Ly aa;exact h Ly λe s he=>aa e s (b2 e s he)
 |raw c=>intro Q dj s b2 h;exact h
theorem zB:∀(c:aM) {Q:Exit->af->Prop} {s:af},bh C c Q s->bh C c.jr Q s:=by
 intro c;induction c with
 |eT ros dF=>intro Q s h;exact Ej (λs h=>Em h) h
 |im ros dR dF=>intro Q s h l hl;exact Ek (λs h=>Em h) (h l hl)
 |seq a b iq ir=>intro Q s h;exact iq (En a (zA (λs h=>qy (λ_ h=>ir h) s h) (λ_ _ h=>h)) h)
 |cond c a b iq ir=>
  intro Q s h;simp only[aM.jr,bh]at h⊢;split
  .rename_i eE J;rw[J]at h;simp only at h;split
   .rename_i e;rw[if_pos e]at h;exact iq h
   .rename_i e;rw[if_neg e]at h;exact ir h
  .rename_i J;rw[J]at h;exact⟨iq h.1,ir h.2⟩
  .rename_i U aa;split at h
   .exact U _ (by assumption)
   .exact aa (by assumption)
   .exact h
 |block id b ih=>intro Q s h;exact ih h
 |loop b ih=>
  intro Q s h;refine qy (λs h Z r1=>?_) s h;exact h Z λau fp=>r1 au (ih fp)
 |gX T b _=>intro Q s h;exact h
 |_=>intro Q s h;exact h
variable {w0 w:World} {F0 X:Nat->Prop} {n:Fr} {ρ:Nat->Value} {s:af} {a:Act}
def pa (w0:World) (F0 X:Nat->Prop) (n:Fr) (ρ:Nat->Value) (Q:Exit->af->Prop):Exit->Act->World->Prop:=λe a w=>∃s,Q e s/\Rel w0 F0 X n ρ s a w
theorem Rel.dr {K:af->Prop} {s:af} {a:Act} {w:World} (aG:Rel w0 F0 X n ρ s a w) (h:dr K s):∃au,K au/\Rel w0 F0 X n ρ au a w:=by
 rcases h with h|⟨l,U,aa⟩
 .exact⟨s,h,aG⟩
 .obtain⟨aL,a0,bK,F,S,cF⟩:=aG;obtain⟨ba,aB,dq⟩:=cF.Ei U;exact⟨ao l,aa,aL,a0,bK,ba,aB,dq⟩
theorem aM.Lz {c:aM} (h:c.strip= .skip):c= .skip\/∃T b,c= .gX T b:=by cases c<;>first|exact .inl rfl|exact .inr ⟨_,_,rfl⟩|cases h
theorem aM.LA {c:aM} (h:c.strip= .ret):c= .ret\/∃T b,c= .gX T b:=by cases c<;>first|exact .inl rfl|exact .inr ⟨_,_,rfl⟩|cases h
theorem aM.LB {c:aM} {i:Nat} (h:c.strip= .exit i):c= .exit i\/∃T b,c= .gX T b:=by cases c<;>first|exact .inl h|exact .inr ⟨_,_,rfl⟩|cases h
theorem aM.LC {c:aM} {x:Code} (h:c.strip= .raw x):c= .raw x\/∃T b,c= .gX T b:=by cases c<;>first|exact .inl h|exact .inr ⟨_,_,rfl⟩|cases h
theorem aM.LD {c:aM} {r:List bE} {k:Option Vm} (h:c.strip= .eT r k):(∃ros cN,c= .eT ros cN/\ros.map bE.un=r)\/∃T b,c= .gX T b:=by
 cases c<;>first|(cases h;exact .inl ⟨_,_,rfl,rfl⟩)|exact .inr ⟨_,_,rfl⟩|cases h
theorem aM.LF {c:aM} {r:List bE} {dR:Vk} {k:Option Vm} (h:c.strip= .im r dR k):(∃ros Eo cN,c= .im ros Eo cN/\ros.map bE.un=r/\Eo=dR)\/∃T b,c= .gX T b:=by
 cases c<;>first|(cases h;exact .inl ⟨_,_,_,rfl,rfl,rfl⟩)|exact .inr ⟨_,_,rfl⟩|cases h
theorem aM.LG {c x y:aM} (h:c.strip= .seq x y):(∃a b,c= .seq a b/\a.strip=x/\b.strip=y)\/∃T b,c= .gX T b:=by
 cases c<;>first|(cases h;exact .inl ⟨_,_,rfl,rfl,rfl⟩)|exact .inr ⟨_,_,rfl⟩|cases h
theorem aM.LH {c x y:aM} {o:aT} (h:c.strip= .cond o x y):(∃kY a b,c= .cond kY a b/\kY=o/\a.strip=x/\b.strip=y)\/∃T b,c= .gX T b:=by
 cases c<;>first|(cases h;exact .inl ⟨_,_,_,rfl,rfl,rfl,rfl⟩)|exact .inr ⟨_,_,rfl⟩|cases h
theorem aM.LI {c x:aM} {i:Nat} (h:c.strip= .block i x):(∃a,c= .block i a/\a.strip=x)\/∃T b,c= .gX T b:=by
 cases c<;>first|(cases h;exact .inl ⟨_,rfl,rfl⟩)|exact .inr ⟨_,_,rfl⟩|cases h
theorem aM.LJ {c x:aM} (h:c.strip= .loop x):(∃a,c= .loop a/\a.strip=x)\/∃T b,c= .gX T b:=by
 cases c<;>first|(cases h;exact .inl ⟨_,rfl,rfl⟩)|exact .inr ⟨_,_,rfl⟩|cases h
theorem zC (a4:C.dx) {H:((Exit->af->Prop)->af->Prop)->aM->Prop}
  (kD:∀(c:Code) (T:(Exit->af->Prop)->af->Prop) (b:aM) (Q:Exit->af->Prop) (s:af) (a:Act) (w:World),H T b->e_ n c=some b.strip->T Q s->Rel w0 F0 X n ρ s a w->c.wp C.P (pa w0 F0 X n ρ Q) a w):
  ∀(c:Code) {dP:aM} {Q:Exit->af->Prop} {s:af} {a:Act} {w:World},e_ n c=some dP.strip->dP.bare H->bh C dP Q s->Rel w0 F0 X n ρ s a w->c.wp C.P (pa w0 F0 X n ρ Q) a w:=by
 intro c;induction c with
 |skip=>
  intro dP Q s a w R ft h aG;have iT:=R;simp only[e_,Option.some.injEq]at R;rcases aM.Lz R.symm with rfl|⟨T,b,rfl⟩
  .exact wp_skip ⟨s,h,aG⟩
  .exact kD _ T b Q s a w ft (by simpa only[aM.strip]using iT) (h Q λ_ _ h=>h) aG
 |region id ops draw=>
  intro dP Q s a w R ft h aG;have iT:=R;cases draw with
  |false=>
   simp only[e_]at R;split at R
   rotate_left
   .have fp:=(Option.some.injEq _ _▸R).symm;rcases aM.LC fp with rfl|⟨T,b,rfl⟩
    .exact h.elim
    .exact kD _ T b Q s a w ft (by simpa only[aM.strip]using iT) (h Q λ_ _ h=>h) aG
   rename_i LK qz;simp only[Option.some.injEq]at R;rcases aM.LD R.symm with⟨ros,k,rfl,rfl⟩|⟨T,b,rfl⟩
   rotate_left
   .exact kD _ T b Q s a w ft (by simpa only[aM.strip]using iT) (h Q λ_ _ h=>h) aG
   cases ft;exact Lk a4 qz (λau bZ aw ak c9=>c9.dr ak) h aG
  |true=>
   simp only[e_]at R;split at R
   .rename_i J;simp only[Option.map_eq_some_iff]at R;obtain⟨LK,qz,R⟩:=R;rcases aM.LF R.symm with⟨ros,dR,k,rfl,rfl,rfl⟩|⟨T,b,rfl⟩
    rotate_left
    .exact kD _ T b Q s a w ft (by simpa only[aM.strip]using iT) (h Q λ_ _ h=>h) aG
    cases ft;refine wp_region_draw λt=>?_;rw[show Region.schedule (C.P.follows .mixedOrders) ops t=Region.linearise .any ops t by simp[Region.schedule,a4.mixed]];exact D_ a4 qz (λau bZ aw ak c9=>c9.dr ak) _ s a _ (h _ (Lt J t)) (aG.drawn _ (by first|exact le_succ _|exact le_add_right _ _|omega))
   .cases R
 |seq x y LL wm=>
  intro dP Q s a w R ft h aG;have iT:=R;simp only[e_]at R;split at R
  .rename_i tB LM ae a_;simp only[Option.some.injEq]at R;rcases aM.LG R.symm with⟨cu,i1,rfl,rfl,rfl⟩|⟨T,b,rfl⟩
   rotate_left
   .exact kD _ T b Q s a w ft (by simpa only[aM.strip]using iT) (h Q λ_ _ h=>h) aG
   refine wp_seq (wp_mono (LL ae ft.1 h aG) ?_);rintro e bZ aw ⟨au,bl,c9⟩;cases e with
   |normal=>
    obtain⟨au,bl,c9⟩:=c9.dr bl;exact wm a_ ft.2 bl c9
   |_=>exact⟨au,bl,c9⟩
  .cases R
 |cond x y z wm Ep=>
  intro dP Q s a w R ft h aG;have iT:=R;simp only[e_]at R;split at R
  .rename_i tB LM sz ae a_ bC;simp only[Option.some.injEq]at R;rcases aM.LH R.symm with⟨cu,i1,nQ,rfl,rfl,rfl,rfl⟩|⟨T,b,rfl⟩
   rotate_left
   .exact kD _ T b Q s a w ft (by simpa only[aM.strip]using iT) (h Q λ_ _ h=>h) aG
   have c9:=aG;obtain⟨ad,df,bd,F,S,mC⟩:=c9;have aE:=(dZ (a:=a) mC (λ_=>rfl) ae).2;simp only[bh]at h;split at h
   .rename_i eE J;rw[J]at aE;have:=oX aE;refine wp_cond this ?_;split
    .rename_i e;rw[if_pos e]at h;exact wm a_ ft.1 h aG
    .rename_i e;rw[if_neg e]at h;exact Ep bC ft.2 h aG
   .rename_i J;rw[J]at aE;obtain⟨eE,hH⟩:=CS aE;refine wp_cond hH ?_;split
    .exact wm a_ ft.1 h.1 aG
    .exact Ep bC ft.2 h.2 aG
   .exact h.elim
  .cases R
 |block id b ih=>
  intro dP Q s a w R ft h aG;have iT:=R;simp only[e_,Option.map_eq_some_iff]at R;obtain⟨vP,J,R⟩:=R;rcases aM.LI R.symm with⟨eE,rfl,rfl⟩|⟨T,b,rfl⟩
  rotate_left
  .exact kD _ T b Q s a w ft (by simpa only[aM.strip]using iT) (h Q λ_ _ h=>h) aG
  refine wp_block (wp_mono (ih J ft h aG) ?_);rintro e bZ aw ⟨au,bl,c9⟩;cases e with
  |exit i=>
   simp only[r0]at bl;simp only[Exit.inBlock];split
   .rename_i e;rw[if_pos e]at bl;exact⟨au,bl,c9⟩
   .rename_i e;rw[if_neg e]at bl;exact⟨au,bl,c9⟩
  |_=>exact⟨au,bl,c9⟩
 |loop b ih=>
  intro dP Q s a w R ft h aG;have iT:=R;simp only[e_,Option.map_eq_some_iff]at R;obtain⟨vP,J,R⟩:=R;rcases aM.LJ R.symm with⟨eE,rfl,rfl⟩|⟨T,b,rfl⟩
  rotate_left
  .exact kD _ T b Q s a w ft (by simpa only[aM.strip]using iT) (h Q λ_ _ h=>h) aG
  obtain⟨s,h,aG⟩:=aG.dr h;have key:=h (λs=>∀a w,Rel w0 F0 X n ρ s a w->∀(f:Frame) (k:List Item) (cs:List Frame),∃e bZ aw,pa w0 F0 X n ρ Q e bZ aw/\Arrives C.P (lone (f.at a (.code b:: .inLoop b::k)) cs w) f k cs e bZ aw) ?_
  .intro f k cs;obtain⟨e,bZ,aw,b2,mF⟩:=key a w aG f k cs;exact⟨e,bZ,aw,b2,.of_steps (.one step_loop) mF⟩
  .intro au fp a w aG f k cs;obtain⟨e,a₁,w₁,⟨s1,b2,pb⟩,mF⟩:=ih J ft fp aG f (.inLoop b::k) cs;cases e with
   |normal=>
    simp only[andThen]at b2;obtain⟨s1,b2,pb⟩:=pb.dr b2;obtain⟨e₂,a₂,w₂,hq₂,harr₂⟩:=b2 a₁ w₁ pb f k cs;exact⟨e₂,a₂,w₂,hq₂,.of_steps (Steps.trans mF (.one step_inLoop)) harr₂⟩
   |exit id=>exact⟨_,a₁,w₁,⟨s1,b2,pb⟩,.pass (x:=.inLoop b) rfl (λ_ _=>.inl (by simp)) mF⟩
   |goto l=>exact⟨_,a₁,w₁,⟨s1,b2,pb⟩,.pass (x:=.inLoop b) rfl (λ_ _=>.inl (by simp)) mF⟩
   |ret=>exact⟨_,a₁,w₁,⟨s1,b2,pb⟩,.pass (x:=.inLoop b) rfl (λ_ _=>.inl (by simp)) mF⟩
   |panic Um=>exact⟨_,a₁,w₁,⟨s1,b2,pb⟩,.pass (x:=.inLoop b) rfl (λ_ _=>.inl (by simp)) mF⟩
   |outgrown=>exact⟨_,a₁,w₁,⟨s1,b2,pb⟩,.pass (x:=.inLoop b) rfl (λ_ _=>.inl (by simp)) mF⟩
 |exit id=>
  intro dP Q s a w R ft h aG;have iT:=R;simp only[e_,Option.some.injEq]at R;rcases aM.LB R.symm with rfl|⟨T,b,rfl⟩
  .exact wp_exit ⟨s,h,aG⟩
  .exact kD _ T b Q s a w ft (by simpa only[aM.strip]using iT) (h Q λ_ _ h=>h) aG
 |ret=>
  intro dP Q s a w R ft h aG;have iT:=R;simp only[e_,Option.some.injEq]at R;rcases aM.LA R.symm with rfl|⟨T,b,rfl⟩
  .exact wp_ret ⟨s,h,aG⟩
  .exact kD _ T b Q s a w ft (by simpa only[aM.strip]using iT) (h Q λ_ _ h=>h) aG
 |_=>intro dP Q s a w R;simp[e_]at R
theorem LN (a4:C.dx) (c:Code) {dP:aM} {Q:Exit->af->Prop} {s:af} {a:Act} {w:World} (R:e_ n c=some dP.strip) (J:dP.bare (λ_ _=>False)) (h:bh C dP Q s) (aG:Rel w0 F0 X n ρ s a w):c.wp C.P (pa w0 F0 X n ρ Q) a w:=
 zC a4 (λ_ _ _ _ _ _ _ bd=>bd.elim) c R J h aG
end
def hA:ResultVar->Nat
 | .tmp t=>t
 | .cell a _=>a
def mG (C:bI) (s:af):ResultVar->Option j
 | .tmp t=>if(s t).tree=true then(match s t with| .tuple _=>none|d=>some d)else none
 | .cell a T=>match s a with
   | .aS d=>if fits C T d=true/\d.tree=true then some d else none
   |_=>none
def zD (C:bI) (fx:Vm) (dA:List ResultVar) (r:j) (outs:Vr) (s:af):Prop:=
 ∃ds,dA.map (mG C s)=ds.map some/\r=(match ds with|[d]=>d|ds=>.tuple ds)/\(dA.map hA).Nodup/\
  ∀(i:Nat) (o:j),outs[i]? =some o->o= .hole\/(o=s i/\o.eZ=true/\i∈fx/\i∉dA.map hA)
def Ends (C:bI) (fx:Vm) (dA:List ResultVar) (r:j) (outs:Vr) (s:af):Prop:=
 zD C fx dA r outs s\/∃t y q d s1,s t= .h y q/\cc s (.h y q)=some (d,s1)/\zD C fx dA r outs (fin s1 (some t) d)
theorem bg.takes {w0 w:World} {F0 X F:Nat->Prop} {S:Nat->Nat->Prop} {s s1:af} {an:Nat->Value} {t y:Nat} {q:Vm} {d:j} (aG:bg w0 F0 X F S s an w) (U:s t= .h y q) (aa:cc s (.h y q)=some (d,s1)):
  ∃aB,bg w0 F0 X F aB (cV.fin s1 (some t) d) an w:=by
 have R:=aG.cG t;rw[U,az]at R;obtain⟨bP,k0,bX,b6,Sn,cR,cI,d_,dD,hv,_⟩:=na aG (av:=.h y q) (v:=an t) rfl (by rw[az];exact R) aa;obtain⟨aB,bl⟩:=k0.fin (.inr ⟨bX,b6,Sn,cR,cI,d_,dD,hv⟩) (some t);refine⟨aB,?_⟩;have e:nO an (some t) (an t)=an:=by
  funext u;simp only[nO,cA];split
  .rename_i h;rw[h]
  .rfl
 rwa [e]at bl
section
variable {C:bI} {w0 w:World} {F0 X F:Nat->Prop} {S:Nat->Nat->Prop} {s:af} {tmps:Array Value}
theorem Er {d:j} {x:Value} (ad:∀vs,d≠.tuple vs) (h:cM d x):bW x=gy x/\gP d x:=by
 have:gP d x:=by cases d<;>first|exact h|exact(ad _ rfl).elim
 refine⟨?_,this⟩;cases d<;>first
  |(obtain⟨a,rfl⟩:=this;rfl)
  |(simp only[gP]at this
    rw[e5 this];cases x<;>first|rfl|(simp[Value.et]at this))
def tX (tmps:Array Value):ResultVar->Sem Value
 | .tmp t=>pure (tmps.getD t undef)
 | .cell a t=>do loadVar t (<-asAddr (tmps.getD a undef))
theorem LO (a4:C.dx) (h:bg w0 F0 X F S s (λt=>tmps.getD t undef) w) {v:ResultVar} {d:j} (aE:mG C s v=some d):
  ∃x,(tX tmps v).run C.P w= .ok x w/\d.tree=true/\(∀vs,d≠.tuple vs)/\cM d x/\aj w F d (bW x) (S (hA v)):=by
 cases v with
 |tmp t=>
  simp only[mG]at aE;split at aE
  .rename_i aO;have kz:(∀vs,s t≠.tuple vs)/\d=s t:=by
    cases R:s t<;>rw[R]at aE<;>simp only at aE<;>first
     |(cases aE;done)
     |(simp only[Option.some.injEq]at aE;exact⟨(λ_ h=>by cases h),aE.symm⟩)
   obtain⟨kz,rfl⟩:=kz;obtain⟨aL,a0⟩:=(az.b7 aO).1 (h.cG t);exact⟨_,by simp[tX],aO,kz,aL,a0⟩
  .cases aE
 |cell a T=>
  simp only[mG]at aE;split at aE
  .rename_i e R;split at aE
   .rename_i LP;obtain⟨gC,LQ⟩:=LP;simp only[Option.some.injEq]at aE;subst aE;have g9:=h.cG a;rw[R]at g9;obtain⟨aL,a0⟩:=(az.b7 (d:=.aS e) rfl).1 g9;rw[e5 aL,aj]at a0;obtain⟨b,cur,ty,fr,aB,bX,b6,cR,cI,d_,dD,hv⟩:=a0;simp only[List.cons.injEq,and_true]at bX;have h9:gh w b 0 cur.toList:=by
     have:=rF cR cur.size
     rwa [List.take_of_length_le (by simp)]at this
    obtain⟨x,c5,bz,dC⟩:=vG (C:=C) a4 h9 d_ gC;refine⟨x,?_,LQ,?_,dC,?_⟩
    .simp only[tX];rw[bX];simpa [asAddr]using c5
    .intro vs fk;subst fk;unfold fits at gC;split at gC<;>simp_all
    .rw[bz];exact aj.mono (λ_ h=>h) _ _ _ _ dD d_
   .cases aE
  .cases aE
theorem LR (a4:C.dx) (h:bg w0 F0 X F S s (λt=>tmps.getD t undef) w):∀(dA:List ResultVar) (ds:Vr),dA.map (mG C s)=ds.map some->(dA.map hA).Nodup->
  ∃xs,(dA.mapM (tX tmps)).run C.P w= .ok xs w/\xs.length=ds.length/\aQ w F ds (xs.flatMap gy) (λb=>∃t∈dA.map hA,S t b)/\
   ∀(k:Nat) (d:j) (x:Value),ds[k]? =some d->xs[k]? =some x->cM d x/\(∀vs,d≠.tuple vs)/\(gy x).length=d.wd/\bW x=gy x/\d.tree=true:=by
 intro dA;induction dA with
 |nil=>
  intro ds he _;have:ds=[]:=by simpa using he.symm
  subst this;exact⟨[],by simp,rfl,by simp only[List.flatMap_nil];rw[aQ],λk d x ad=>by simp at ad⟩
 |cons v dA ih=>
  intro ds he pc;cases ds with
  |nil=>simp at he
  |cons d ds=>
   simp only[List.map_cons,List.cons.injEq]at he;simp only[List.map_cons,List.nodup_cons]at pc;obtain⟨x,c5,rt,bz,dC,ct⟩:=LO a4 h he.1;obtain⟨xs,eS,dY,gS,fQ⟩:=ih ds he.2 pc.2;obtain⟨aI,aR⟩:=Er bz dC;refine⟨x::xs,by simp[List.mapM_cons,c5,eS],by simp[dY],?_,?_⟩
   .simp only[List.flatMap_cons];rw[aQ];rw[aI]at ct;refine⟨gy x,xs.flatMap gy,S (hA v),λb=>∃t∈dA.map hA,S t b,rfl,ct,gS,λb J=>⟨hA v,by simp,J⟩,?_,?_⟩
    .rintro b ⟨t,aO,J⟩;exact⟨t,by simp[aO],J⟩
    .rintro b J ⟨t,aO,hH⟩;have:t≠hA v:=λe=>pc.1 (e▸aO);exact h.dS t (hA v) b this hH J
   .intro k a8 cu ad ae;cases k with
    |zero=>
     simp at ad ae;subst ad ae;refine⟨dC,bz,?_,aI,rt⟩;rw[<-aI];exact aj.length _ _ _ ct
    |succ k=>exact fQ k a8 cu (by simpa using ad) (by simpa using ae)
theorem zE (a4:C.dx) {f:FuncId} {fn:Func} {c:Code} {fx:Vm} {as outs:Vr} {r:j} (bd:C.P.funcs[f]? =some fn) (J:fn.body=some c)
  (iM:(fn.name== "runtime.NumGoroutine")=false) (a2:as.length<=fn.ntmps)
  {w:World} {F X:Nat->Prop} {S:Nat->Nat->Prop} {vs:Vp} (hl:vs.length=as.length) (aG:bg w F X F S (dI as) (e8 vs) w)
  (zF:∀a,Rel w F X ⟨fn.ntmps,fx⟩ (e8 vs) (dI as) a w->(∀t,a.tmps.getD t undef=e8 vs t)->c.wp C.P (pa w F X ⟨fn.ntmps,fx⟩ (e8 vs) (λe s=>(e= .normal\/e= .ret)/\dr (Ends C fx fn.results.toList r outs) s)) a w):
  i7 C.P f vs.toArray w λv aw=>∃ba aB,bg w F X ba aB (dI (r::outs)) (e8 (v::vs)) aw:=by
 have i5:(vs.toArray++Array.replicate (fn.ntmps-vs.toArray.size) undef).size=fn.ntmps:=by simp;omega
 have c8:(λt=>(vs.toArray++Array.replicate (fn.ntmps-vs.toArray.size) undef).getD t undef)=e8 vs:=by
  funext t;simp only[e8,Array.getD_eq_getD_getElem?,List.getD_eq_getElem?_getD];by_cases aO:t<vs.length
  .rw[Array.getElem?_append_left (by simpa using aO)];simp
  .rw[Array.getElem?_append_right (by simpa using aO)];rw[List.getElem?_eq_none (by omega)];simp only[Array.getElem?_replicate];split<;>rfl
 have mC:Rel w F X ⟨fn.ntmps,fx⟩ (e8 vs) (dI as) {tmps:=vs.toArray++Array.replicate (fn.ntmps-vs.toArray.size) undef,defers:=[]} w:=
  ⟨rfl,i5,λi _=>congrFun c8 i,F,S,by rw[c8];exact aG⟩
 have zG:fn.name≠ "runtime.NumGoroutine" :=by simpa using iM
 refine .inl ⟨by simp[callFunc,bd,zG,J],calls_of_wp bd J (wp_mono (zF _ mC (congrFun c8)) ?_)⟩;rintro e bZ aw ⟨au,⟨he,LS⟩,LU⟩;obtain⟨au,⟨ds,hM,Es,pc,p2⟩,ad,df,gV,ba,aB,c9⟩:∃au,zD C fx fn.results.toList r outs au/\Rel w F X ⟨fn.ntmps,fx⟩ (e8 vs) au bZ aw:=by
  obtain⟨au,he,kE⟩:=LU.dr LS;rcases he with he|⟨t,y,q,d,s1,U,aa,he⟩
  .exact⟨au,he,kE⟩
  .obtain⟨aL,a0,bK,F,S,cF⟩:=kE;obtain⟨aB,dq⟩:=cF.takes U aa;exact⟨_,he,aL,a0,bK,F,aB,dq⟩
 obtain⟨xs,eS,dY,gS,fQ⟩:=LR a4 c9 _ ds hM pc;have LV:(results fn bZ.tmps)=(do let vs<-fn.results.mapM (tX bZ.tmps);pure (if h:vs.size=1 then vs[0]else .tuple vs)):=by
  unfold results;congr 1
 have p8:(results fn bZ.tmps).run C.P aw= .ok (if h:xs.toArray.size=1 then xs.toArray[0]else .tuple xs.toArray) aw:=by
  rw[LV,Array.mapM_eq_mapM_toList];simp[eS]
 have qA:(r.tree=true/\cM r (if h:xs.toArray.size=1 then xs.toArray[0]else .tuple xs.toArray)/\
   aj aw ba r (bW (if h:xs.toArray.size=1 then xs.toArray[0]else .tuple xs.toArray)) (λb=>∃t∈fn.results.toList.map hA,aB t b)):=by
  by_cases U:∃d,ds=[d]
  .obtain⟨d,rfl⟩:=U;obtain⟨x,rfl⟩:∃x,xs=[x]:=by
    cases xs with
    |nil=>simp at dY
    |cons x xs=>cases xs with
     |nil=>exact⟨x,rfl⟩
     |cons y ys=>simp at dY
   obtain⟨bX,b6,cR,cI,d_⟩:=fQ 0 d x rfl rfl;have LW:d=r:=Es.symm;subst LW;simp only[List.flatMap_cons,List.flatMap_nil,List.append_nil]at gS;rw[aQ]at gS;obtain⟨bu,bN,bP,cx,aI,aR,aX,bT,cb,bH⟩:=gS;rw[aQ]at aX;subst aX;simp only[List.append_nil]at aI;subst aI;have ae:(if h:([x]:Vp).toArray.size=1 then([x]:Vp).toArray[0]else .tuple ([x]:Vp).toArray)=x:=by simp
   rw[ae,cI];exact⟨d_,bX,aj.mono (λ_ h=>h) _ _ _ _ bT aR⟩
  .have zH:r= .tuple ds:=by
    rw[Es];cases ds with
    |nil=>rfl
    |cons d ds=>cases ds with
     |nil=>exact(U ⟨d,rfl⟩).elim
     |cons e ds=>rfl
   have ae:(if h:xs.toArray.size=1 then xs.toArray[0]else Value.tuple xs.toArray)= .tuple xs.toArray:=by
    rw[dif_neg];intro df;have:ds.length=1:=by rw[<-dY];simpa using df
    obtain⟨d,ad⟩:=List.length_eq_one_iff.1 this;exact U ⟨d,ad⟩
   rw[ae,zH];refine⟨rfl,⟨xs.toArray,rfl,by simpa using dY,λk d x ad ae=>?_⟩,?_⟩
   .obtain⟨bX,b6,cR,cI,_⟩:=fQ k d x ad (by simpa using ae);exact⟨(Er b6 bX).2,b6,cR⟩
   .rw[aj];simpa [bW]using gS
 have post:∀(v:Value),(r.tree=true/\cM r v/\aj aw ba r (bW v) (λb=>∃t∈fn.results.toList.map hA,aB t b))->∃qs bP,bg w F X qs bP (dI (r::outs)) (e8 (v::vs)) aw:=by
  rintro v ⟨v1,v2,LX⟩;have zI:∀i,(outs.getD i .hole).eZ=true->outs.getD i .hole=au i/\i∈fx/\i∉fn.results.toList.map hA:=by
   intro i ay;cases bk:outs[i]? with
   |none=>simp[List.getD,bk,j.eZ]at ay
   |some o=>
    have e:outs.getD i .hole=o:=by simp[List.getD,bk]
    rw[e]at ay⊢;rcases p2 i o bk with h|h
    .subst h;simp[j.eZ]at ay
    .exact⟨h.1,h.2.2⟩
  refine⟨ba,λt b=>match t with|0=>∃t∈fn.results.toList.map hA,aB t b|i+1=>(outs.getD i .hole).eZ=true/\aB i b,c9.fl,c9.fA,c9.eg,?_,?_,?_,?_,?_,c9.old,c9.size,c9.os,c9.tape,c9.output,aG.fB⟩
  .intro t b J;cases t with
   |zero=>obtain⟨t,_,J⟩:=J;exact c9.dw t b J
   |succ i=>exact c9.dw i b J.2
  .intro t b J;cases t with
   |zero=>obtain⟨t,_,J⟩:=J;exact c9.ew t b J
   |succ i=>exact c9.ew i b J.2
  .intro t u b cJ J hu;cases t with
   |zero=>
    obtain⟨t,aO,J⟩:=J;cases u with
    |zero=>exact cJ rfl
    |succ aD=>
     refine c9.dS t aD b (λe=>?_) J hu.2;subst e;exact(zI t hu.1).2.2 aO
   |succ i=>
    cases u with
    |zero=>
     obtain⟨t,aO,hu⟩:=hu;refine c9.dS t i b (λe=>?_) hu J.2;subst e;exact(zI t J.1).2.2 aO
    |succ aD=>exact c9.dS i aD b (by omega) J.2 hu.2
  .intro t b J;cases t with
   |zero=>obtain⟨t,_,J⟩:=J;exact c9.cU t b J
   |succ i=>exact c9.cU i b J.2
  .intro t;cases t with
   |zero=>exact(az.b7 v1).2 ⟨v2,LX⟩
   |succ i=>
    show az aw ba (dI (r::outs)) (e8 (v::vs)) (outs.getD i .hole) (vs.getD i undef) (λb=>(outs.getD i .hole).eZ=true/\aB i b);cases ay:(outs.getD i .hole).eZ with
    |false=>
     have:outs.getD i .hole= .hole:=by
      cases bk:outs[i]? with
      |none=>simp[List.getD,bk]
      |some o=>
       have e:outs.getD i .hole=o:=by simp[List.getD,bk]
       rw[e]at ay⊢;rcases p2 i o bk with h|h
       .exact h
       .rw[h.2.1]at ay;cases ay
     rw[this,az];trivial
    |true=>
     obtain⟨jD,kA,v5⟩:=zI i ay;have aO:=(n6 ay).2.1;have g9:=c9.cG i;rw[<-jD]at g9;obtain⟨aL,a0⟩:=(az.b7 aO).1 g9;have aE:bZ.tmps.getD i undef=vs.getD i undef:=gV i kA;rw[aE]at aL a0;exact(az.b7 aO).2 ⟨aL,aj.mono (λ_ h=>h) _ _ _ _ (λb J=>⟨rfl,J⟩) a0⟩
 rcases he with rfl|rfl
 .exact⟨ad,_,p8,_,rfl,post _ qA⟩
 .exact⟨ad,_,p8,_,rfl,post _ qA⟩
theorem bq.of_wp (a4:C.dx) {f:FuncId} {fn:Func} {c:Code} {dP:aM} {fx:Vm} {as outs:Vr} {r:j} (bd:C.P.funcs[f]? =some fn) (J:fn.body=some c)
  (iM:(fn.name== "runtime.NumGoroutine")=false) (R:e_ ⟨fn.ntmps,fx⟩ c=some dP.strip) (a2:as.length<=fn.ntmps)
  (h:bh C dP (λe s=>(e= .normal\/e= .ret)/\dr (Ends C fx fn.results.toList r outs) s) (dI as)) (ag:dP.plain=true:=by kernel_rfl):bq C f as r outs:=
 λw F X S vs hl aG=>zE a4 bd J iM a2 hl aG λa mC _=>LN a4 c (by rw[aM.zx];exact R) (aM.zy dP (aM.Lx dP ag)) (zB dP h) mC
end
def num:Nat->Vr->Vq
 |_,[]=>[]
 |k,a::as=>(k,a)::num (k+1) as
theorem LY:∀(as:Vr) (k t:Nat),ao (num k as) (k+t)=as.getD t .hole:=by
 intro as;induction as with
 |nil=>intro k t;simp[num,ao]
 |cons a as ih=>
  intro k t;cases t with
  |zero=>simp[num,ao]
  |succ t=>
   have:=ih (k+1) t;simp only[num,ao];rw[if_neg (by omega)];rw[show k+(t+1)=k+1+t by omega,this];simp
theorem wo (as:Vr):dI as=ao (num 0 as):=by
 funext t;have:=LY as 0 t;rw[Nat.zero_add]at this;rw[this];rfl
theorem r2 (l:Vq) (t:Nat) (d:j):cA (ao l) t d=ao ((t,d)::l):=by
 funext u;simp only[cA,ao]
def nr (t:Nat):Vq->Vq
 |[]=>[]
 |(u,d)::l=>(u,b9 t d)::nr t l
def qB (t:Nat):Vq->Vq
 |[]=>[]
 |(u,d)::l=>(u,bQ t d)::qB t l
theorem wq (t:Nat):∀l:Vq,ji t (ao l)=ao (nr t l):=by
 intro l;funext u;induction l with
 |nil=>rfl
 |cons p l ih=>
  obtain⟨v,d⟩:=p;simp only[ji,ao,nr]at ih⊢;split
  .rfl
  .exact ih
theorem LZ (t:Nat):∀l:Vq,gz t (ao l)=ao (qB t l):=by
 intro l;funext u;induction l with
 |nil=>rfl
 |cons p l ih=>
  obtain⟨v,d⟩:=p;simp only[gz,ao,qB]at ih⊢;split
  .rfl
  .exact ih
def e1 (k:Vm) (s:af):Vq:=k.map λt=>(t,s t)
section
variable {C:bI} {l:Vq}
def cZ.gJ:cZ->Bool
 | .call _ _=>true
 | .g5 _=>false
 | .j6 _=>false
 | .pick _ _ _=>false
 | .j1 _=>false
 | .g4 _ _=>false
 | .fb _ _=>false
 | .e6 _ _ _=>false
 | .ey _ _=>false
 | .ie _ _ _=>false
 | .ht _=>false
 | .eb _ _ _ _=>false
 | .un _ _=>false
 | .hg _ _ _=>false
 | .lN _ _=>false
 | .dO _ _ _=>false
 | .eY _ _ _ _=>false
 | .gQ _ _ _=>false
 | .hJ _ _ _=>false
 | .idx _ _ _=>false
 | .ex _ _=>false
 | .j3 _ _ _=>false
 | .len _ _=>false
 | .app _ _ _ _=>false
 | .shr _=>true
 | .hL _ _ _ _=>false
 | .cap _ _=>false
 | .nn _ _ _=>false
 | .bad=>false
 | .jm _ _ _=>true
 | .hs _ _=>false
 | .tE=>false
 | .lM _ _ _=>false
 | .ky _ _ _ _=>false
variable {Q:Exit->af->Prop}
def j.tY:j->Bool
 | .tuple _=>true
 |_=>false
theorem Ends.one {fx:Vm} {t:Nat} {r:j} {s:af} (U:s t=r) (aa:(r.tree&& !r.tY)=true):Ends C fx [.tmp t] r [] s:=by
 simp only[Bool.and_eq_true,Bool.not_eq_true']at aa;obtain⟨aa,qC⟩:=aa;have ax:∀vs,r≠.tuple vs:=λvs e=>by subst e;simp[j.tY]at qC
 refine .inl ⟨[r],?_,rfl,by simp,λi o h=>by simp at h⟩;have:mG C s (.tmp t)=some r:=by
  simp only[mG,U,aa,if_true];try (cases r<;>first|rfl|exact(ax _ rfl).elim)
 simp only[List.map_cons,List.map_nil,this]
end
section
variable {C:bI} {l:Vq} {Q:Exit->af->Prop}
theorem bq.outs {f:FuncId} {as:Vr} {r:j} {jD kA:Vr} (h:bq C f as r jD) (he:dI jD=dI kA):bq C f as r kA:=by
 intro w F X S vs hl aG;refine i7.mono (h w F X S vs hl aG) ?_;rintro v aw ⟨ba,aB,bl⟩;refine⟨ba,aB,?_⟩;have:dI (r::kA)=dI (r::jD):=by
  funext t;cases t with
  |zero=>rfl
  |succ t=>exact(congrFun he t).symm
 rw[this];exact bl
def j9:Vr->Vr->List bY
 |a::as,d::ds=>⟨a,false,d,.hole⟩::j9 as ds
 |_,_=>[]
theorem L0 {s:af}:∀(as ds:Vr),views s as=some ds->(j9 as ds).map (·.a)=as/\(j9 as ds).map (·.d)=ds/\(∀p∈j9 as ds,p.ok s/\p.g=false/\p.o= .hole/\p.a∈as)/\fD (j9 as ds)=true/\
  dI ((j9 as ds).map (·.o))=dI []/\(∀n_,di n_ (j9 as ds)=n_)/\(∀n_,e0 n_ (j9 as ds)=n_):=by
 intro as;induction as with
 |nil=>
  intro ds h;simp only[views,Option.some.injEq]at h;subst h;exact⟨rfl,rfl,(λp ag=>by cases ag),rfl,rfl,λ_=>rfl,λ_=>rfl⟩
 |cons a as ih=>
  intro ds h;simp only[views]at h;split at h
  .rename_i d L1 U aa;simp only[Option.some.injEq]at h;subst h;obtain⟨aI,aR,aX,bT,cb,bH,bx⟩:=ih L1 aa;refine⟨by simp only[j9,List.map_cons,aI],by simp only[j9,List.map_cons,aR],?_,?_,?_,?_,?_⟩
   .intro p ag;simp only[j9,List.mem_cons]at ag;rcases ag with rfl|ag
    .exact⟨by simp only[bY.ok];exact U,rfl,rfl,by simp⟩
    .obtain⟨aL,a0,bK,cF⟩:=aX p ag;exact⟨aL,a0,bK,by simp[cF]⟩
   .simp only[j9,fD,bT,Bool.and_true,List.all_eq_true];intro p ag;simp[(aX p ag).2.1]
   .funext t;cases t with
    |zero=>rfl
    |succ t=>exact(congrFun cb t).trans (by simp[dI])
   .intro n_;exact bH n_
   .intro n_;exact bx n_
  .cases h
end
structure eo where
 bR:Vm
 H:Vm
 T:Vm
 c:Bool
mutual
def j.clean:j->Bool
 | .hole=>false
 | .fn _ cap=>j.r3 cap
 |_=>true
def j.r3:Vr->Bool
 |[]=>true
 |d::ds=>d.clean&&j.r3 ds
end
mutual
theorem Et {x:Nat}:∀a:j,(bQ x a).clean=true->bQ x a=a
 | .h y q,h=>by
   simp only[bQ]at h⊢;split
   .rename_i e;rw[if_pos e]at h;split
    .rfl
    .rename_i fk;rw[if_neg fk]at h;simp[j.clean]at h
   .rfl
 | .ag y q,h=>by
   simp only[bQ]at h⊢;split
   .rename_i e;rw[if_pos e]at h;simp[j.clean]at h
   .rfl
 | .J y q,h=>rfl
 | .fn f cap,h=>by simp only[bQ,j.clean]at h⊢;rw[Eu cap h]
 | .hole,_=>rfl
 | .bool _,_=>rfl
 | .dV,_=>rfl
 | .int _ _,_=>rfl
 | .str _,_=>rfl
 | .cW,_=>rfl
 | .aK,_=>rfl
 | .slice _,_=>rfl
 | .aq _ _,_=>rfl
 | .ref _,_=>rfl
 | .aS _,_=>rfl
 | .agg _,_=>rfl
 | .tuple _,_=>rfl
 | .cY _,_=>rfl
 | .br _ _,_=>rfl
theorem Eu {x:Nat}:∀ds:Vr,j.r3 (g7 x ds)=true->g7 x ds=ds
 |[],_=>rfl
 |d::ds,h=>by
  simp only[g7,j.r3,Bool.and_eq_true]at h⊢;rw[Et d h.1,Eu ds h.2]
end
mutual
theorem Ev {x:Nat}:∀a:j,(b9 x a).clean=true->b9 x a=a
 | .h y q,h=>by
   simp only[b9]at h⊢;split
   .rename_i e;rw[if_pos e]at h;simp[j.clean]at h
   .rfl
 | .ag y q,h=>by
   simp only[b9]at h⊢;split
   .rename_i e;rw[if_pos e]at h;simp[j.clean]at h
   .rfl
 | .J y q,h=>by
   simp only[b9]at h⊢;split
   .rename_i e;rw[if_pos e]at h;simp[j.clean]at h
   .rfl
 | .fn f cap,h=>by simp only[b9,j.clean]at h⊢;rw[Ew cap h]
 | .hole,_=>rfl
 | .bool _,_=>rfl
 | .dV,_=>rfl
 | .int _ _,_=>rfl
 | .str _,_=>rfl
 | .cW,_=>rfl
 | .aK,_=>rfl
 | .slice _,_=>rfl
 | .aq _ _,_=>rfl
 | .ref _,_=>rfl
 | .aS _,_=>rfl
 | .agg _,_=>rfl
 | .tuple _,_=>rfl
 | .cY _,_=>rfl
 | .br _ _,_=>rfl
theorem Ew {x:Nat}:∀ds:Vr,j.r3 (hq x ds)=true->hq x ds=ds
 |[],_=>rfl
 |d::ds,h=>by
  simp only[hq,j.r3,Bool.and_eq_true]at h⊢;rw[Ev d h.1,Ew ds h.2]
end
theorem L2 {k:np} {x:Nat} {a:j} (h:(k.app x a).clean=true):k.app x a=a:=by
 cases k with
 |no=>rfl
 |bQ=>exact Et a h
 |b9=>exact Ev a h
theorem L3:∀(ms:List fo) (u:Nat) (a:j),(∀m∈ms,m.x≠u)->(ij ms u a).clean=true->ij ms u a=a:=by
 intro ms;induction ms with
 |nil=>intros;rfl
 |cons m ms ih=>
  intro u a ae ai;simp only[ij]at ai⊢;have e:=ih u _ (λic qD=>ae ic (by simp[qD])) ai;have hm:m.at u a=m.k.app m.x a:=by
   simp only[fo.at];rw[if_neg (λe=>ae m (by simp) e.symm)]
  rw[e,hm];rw[e,hm]at ai;exact L2 ai
theorem L4:∀(ms:List fo) (u:Nat) (a:j),(∀m∈ms,m.x≠u/\m.x∉a.R)->ij ms u a=a:=by
 intro ms;induction ms with
 |nil=>intros;rfl
 |cons m ms ih=>
  intro u a ae;simp only[ij];have hm:m.at u a=a:=by
   simp only[fo.at];rw[if_neg (λe=>(ae m (by simp)).1 e.symm)];exact tI (.inr (ae m (by simp)).2)
  rw[hm];exact ih u a λic qD=>ae ic (by simp[qD])
theorem L5 (m:fo):∀(ms:List fo) (u:Nat) (a:j),(∀ic∈ms,ic.x≠m.x/\ic.x∉m.d.R/\m.x∉ic.d.R)->ij ms u (m.at u a)=m.at u (ij ms u a):=by
 intro ms;induction ms with
 |nil=>intros;rfl
 |cons n ms ih=>
  intro u a ae;simp only[ij];have a2:=ae n (by simp);have ai:n.at u (m.at u a)=m.at u (n.at u a):=by
   simp only[fo.at];by_cases aI:u=n.x
   .subst aI;rw[if_pos rfl,if_neg a2.1,if_pos rfl];exact(tI (.inr a2.2.2)).symm
   .rw[if_neg aI];by_cases aR:u=m.x
    .subst aR;rw[if_pos rfl,if_pos rfl];exact tI (.inr a2.2.1)
    .rw[if_neg aR,if_neg aI,if_neg aR];exact Ks _ _ _ _ _
  rw[ai];exact ih u _ λic qD=>ae ic (by simp[qD])
theorem L6:∀(ms i6:List fo) (s:af),(∀m∈ms,∀n∈i6,n.x≠m.x/\n.x∉m.d.R/\m.x∉n.d.R)->cP i6 (cP ms s)=cP ms (cP i6 s):=by
 intro ms;induction ms with
 |nil=>intros;rfl
 |cons m ms ih=>
  intro i6 s h;have e:∀s,cP (m::ms) s=cP ms (cP [m] s):=λs=>j7 [m] ms s;rw[e,e,ih i6 _ (λic qD=>h ic (by simp[qD]))];congr 1;funext u;simp only[cP,ij];exact L5 m i6 u _ (h m (by simp))
def Ex (C:bI) (s:af) (f:aT) (args:List aT) (K:Vm->j->af->Prop):Prop:=
 ∃(g:FuncId) (caps:Vr) (ps:List bY) (r:j),a6 s f= .fn g caps/\j.db caps=true/\ps.map (·.a)=args.map (a6 s)++caps/\(∀p∈ps,p.ok s)/\fD ps=true/\
   bq C g (ps.map (·.d)) r (ps.map (·.o))/\r.res=true/\(gG ps=true->r.ch=true/\∀p∈ps,p.o.ch=true)/\K (j.dh ((ps.filter (·.g)).map (·.a))) r (e0 (di s ps) ps)
def k2 (C:bI) (s:af) (bb:cZ) (K:Vm->j->af->Prop):Prop:=
 match bb with
 | .call f args=>∃(g:FuncId) (caps:Vr) (ps:List bY) (r:j),a6 s f= .fn g caps/\j.db caps=true/\ps.map (·.a)=args.map (a6 s)++caps/\(∀p∈ps,p.ok s)/\fD ps=true/\
   bq C g (ps.map (·.d)) r (ps.map (·.o))/\r.res=true/\(gG ps=true->r.ch=true/\∀p∈ps,p.o.ch=true)/\K (j.dh ((ps.filter (·.g)).map (·.a))) r (e0 (di s ps) ps)
 | .shr bb=>∃av s1,bs C s bb=some (av,s1)/\av.tree=true/\(∀vs,av≠.tuple vs)/\K (j8 s bb) av.share s1
 | .jm f args us=>jq s (hy s us)=true/\Ex C s f args λcc av s1=>jq s1 (hy s us)=true/\K (us++cc) av (kC s1 (hy s us))
 |bb=>∃av s1,bs C s bb=some (av,s1)/\K (j8 s bb) av s1
def hj (s:af) (bR:Vm) (dst:Option Nat) (cc:Vm) (av:j):eo:=
 ⟨bR,bR.flatMap (λu=>(s u).R)++av.R,dst.toList++cc,bR.all λu=>(s u).clean⟩
def j_ (C:bI) (s:af) (o:bE) (K:eo->af->Prop):Prop:=
 match o.guard with
 |none=>k2 C s o.bb λcc av s1=>K (hj s (use s o.bb) o.dst cc av) (fin s1 o.dst av)
 |some (t,b)=>match s t with
  | .bool eE=>if eE=b then k2 C s o.bb (λcc av s1=>K (hj s (t::use s o.bb) o.dst cc av) (fin s1 o.dst av))else K (hj s [t] o.dst [] (.tuple [])) (fin s o.dst (.tuple []))
  | .tuple []=>K (hj s [t] o.dst [] (.tuple [])) (fin s o.dst (.tuple []))
  |_=>False
def ns:Option (List eo)->eo->Option (List eo)
 |none,_=>none
 |some l,f=>some (f::l)
def cl (C:bI) (s:af):List bE->Option (List eo)->(Option (List eo)->af->Prop)->Prop
 |[],acc,K=>K acc s
 |o::os,acc,K=>j_ C s o λf s1=>cl C s1 os (ns acc f) K
section
variable {C:bI}
theorem Ey {s:af} {bb:cZ} {K:Vm->j->af->Prop} {cz:j->af->Prop} (ak:∀cc av s,K cc av s->cz av s) (h:k2 C s bb K):lU C s bb cz:=by
 cases bb with
 |call f args=>
  obtain⟨g,caps,ps,r,U,fv,aa,ax,aP,a9,bU,bO,dv⟩:=h;exact⟨g,caps,ps,r,U,fv,aa,ax,aP,a9,bU,bO,ak _ _ _ dv⟩
 |jm f args us=>
  obtain⟨b6,g,caps,ps,r,U,fv,aa,ax,aP,a9,bU,bO,dv,hG⟩:=h;exact⟨b6,g,caps,ps,r,U,fv,aa,ax,aP,a9,bU,bO,dv,ak _ _ _ hG⟩
 |shr bb=>
  obtain⟨av,s1,U,aa,ax,aP⟩:=h;exact⟨av,s1,U,aa,ax,ak _ _ _ aP⟩
 |_=>
  obtain⟨av,s1,U,aa⟩:=h;exact⟨av,s1,U,ak _ _ _ aa⟩
theorem L7 {s:af} {o:bE} {K:eo->af->Prop} {cz:af->Prop} (ak:∀f s,K f s->cz s) (h:j_ C s o K):jF C s o cz:=by
 unfold j_ at h;unfold jF;split
 .rename_i bm;rw[bm]at h;exact Ey (λ_ _ _=>ak _ _) h
 .rename_i t b bm;rw[bm]at h;simp only at h;split
  .rename_i eE R;rw[R]at h;simp only at h;split
   .rename_i J;rw[if_pos J]at h;exact Ey (λ_ _ _=>ak _ _) h
   .rename_i J;rw[if_neg J]at h;exact ak _ _ h
  .rename_i R;rw[R]at h;exact ak _ _ h
  .rename_i U aa;split at h
   .exact U _ (by assumption)
   .exact aa (by assumption)
   .exact h
theorem qE {K:af->Prop}:∀{ros:List bE} {s:af} {acc:Option (List eo)} {cz:Option (List eo)->af->Prop},(∀a s,cz a s->K s)->cl C s ros acc cz->ik C s ros K:=by
 intro ros;induction ros with
 |nil=>intro s acc cz ak h;exact ak _ _ h
 |cons o ros ih=>intro s acc cz ak h;exact L7 (λf s h=>ih ak h) h
theorem Ez {q:Vm} {a d:j} (h:j.sub q a=some d) (b2:q≠[]\/d.R=[]):a.R=[]:=by
 cases q with
 |nil=>
  simp only[j.sub,Option.some.injEq]at h;subst h;exact b2.resolve_left (λe=>e rfl)
 |cons k q=>cases a<;>first|rfl|(simp[j.sub]at h)
def wt (s:af) (p:bY) (e:j->Prop):Prop:=p.g=true->∃x q d,p.a= .h x q/\j.sub q (s x)=some d/\e d/\(p.o= .hole\/p.o.eZ=true)
theorem EA {d:j} (h:d.eZ=true):d.R=[]:=DZ (n6 h).2.1
theorem EB {d:j} (h:d.eZ=true):d.cj.R=[]:=by cases d<;>first|rfl|(simp[j.eZ]at h)
theorem EC {p:bY} {ps:List bY} (h:fD (p::ps)=true):fD ps=true/\∀b8∈ps,(p.g=true\/b8.g=true)->∀u∈p.a.R,u∉b8.a.R:=by
 simp only[fD,Bool.and_eq_true,List.all_eq_true,Bool.or_eq_true,Bool.not_eq_true']at h;refine⟨h.2,λb8 c_ bm u hu=>?_⟩;rcases h.1 b8 c_ with e|e
 .rcases bm with bm|bm<;>simp[bm]at e
 .simpa using e u hu
def oa (ps:List bY):Vm:=j.dh ((ps.filter (·.g)).map (·.a))
theorem r4 (p:bY) (ps:List bY):(∀u∈oa ps,u∈oa (p::ps))/\(p.g=true->∀u∈p.a.R,u∈oa (p::ps)):=by
 unfold oa;by_cases bm:p.g=true
 .simp only[List.filter_cons,bm,if_true,List.map_cons,j.dh,List.mem_append];exact⟨λu h=>.inr h,λ_ u h=>.inl h⟩
 .simp only[List.filter_cons,bm];exact⟨λu h=>h,λh=>by simp at h⟩
theorem L8 {p:bY} {ps:List bY} (h:p∈ps):∀u∈p.a.R,u∈j.dh (ps.map (·.a)):=by
 induction ps with
 |nil=>cases h
 |cons b8 ps ih=>
  intro u hu;simp only[List.map_cons,j.dh,List.mem_append];rcases List.mem_cons.1 h with rfl|h
  .exact .inl hu
  .exact .inr (ih h u hu)
theorem L9:∀(ps:List bY) (s:af),(∀p∈ps,wt s p (λd=>d=p.d/\p.d.eZ=true))->fD ps=true->
  (∃ms:List fo,(∀m∈ms,m.x∈oa ps/\m.d.R=[])/\∀au,cL (j.dh (ps.map (·.a))) au s->di au ps=cP ms au)/\∀p∈ps,wt (di s ps) p (λd=>d=p.d.cj/\p.d.eZ=true):=by
 intro ps;induction ps with
 |nil=>intro s _ _;exact⟨⟨[],by simp,λau _=>rfl⟩,λp ag=>by cases ag⟩
 |cons p ps ih=>
  intro s bm iJ;obtain⟨my,lQ⟩:=EC iJ;by_cases ka:p.g=true
  .obtain⟨x,q,d,b4,R,⟨rfl,ad⟩,bk⟩:=bm p (by simp) ka;have iB:(j.put q p.d.cj (s x)).R=[]:=rV q _ _ _ R (.inl (n6 ad).1) λ_=>EB ad;have tZ:∀au:af,au x=s x->p.take au=cP [⟨.bQ,x,j.put q p.d.cj (s x)⟩] au:=by
    intro au e;simp only[bY.take,ka,if_true,b4,e,qn]
   have cJ:∀b8∈ps,∀cu hI,b8.a= .h cu hI->cu≠x:=by
    intro b8 c_ cu hI e fk;have:=lQ b8 c_ (.inl ka) x (by simp[b4,j.R]);rw[e,fk]at this;simp[j.R]at this
   have o8:∀cu,cu≠x->(s cu).R=[]->cP [⟨.bQ,x,j.put q p.d.cj (s x)⟩] s cu=s cu:=by
    intro cu oY bt;simp only[cP,ij,fo.at];rw[if_neg oY];exact tI (.inr (by rw[bt];simp))
   obtain⟨⟨ms,ea,fh⟩,gE⟩:=ih (cP [⟨.bQ,x,j.put q p.d.cj (s x)⟩] s) (λb8 c_ zJ=>by
    obtain⟨cu,hI,a8,qq,fp,fF,t_⟩:=bm b8 (by simp[c_]) zJ;refine⟨cu,hI,a8,qq,?_,fF,t_⟩;rw[o8 cu (cJ b8 c_ cu hI qq) (Ez fp (.inr (by rw[fF.1];exact EA fF.2)))];exact fp) my
   refine⟨⟨[⟨.bQ,x,j.put q p.d.cj (s x)⟩]++ms,?_,?_⟩,?_⟩
   .intro m hm;rcases List.mem_append.1 hm with hm|hm
    .simp only[List.mem_singleton]at hm;subst hm;exact⟨(r4 p ps).2 ka x (by simp[b4,j.R]),iB⟩
    .exact⟨(r4 p ps).1 _ (ea m hm).1,(ea m hm).2⟩
   .intro au fp;simp only[List.map_cons,j.dh]at fp;have e:au x=s x:=fp x (by simp[b4,j.R]);rw[j7];show di (p.take au) ps=_;rw[tZ au e];exact fh _ (cL.cP fp.right _)
   .have aI:di s (p::ps)=di (cP [⟨.bQ,x,j.put q p.d.cj (s x)⟩] s) ps:=by
     show di (p.take s) ps=_;rw[tZ s rfl]
    rw[aI];intro b8 c_;rcases List.mem_cons.1 c_ with rfl|c_
    .intro _;refine⟨x,q,b8.d.cj,b4,?_,⟨rfl,ad⟩,bk⟩;have aE:cP [⟨.bQ,x,j.put q b8.d.cj (s x)⟩] s x=j.put q b8.d.cj (s x):=by
      simp only[cP,ij,fo.at,if_true]
     rw[zd (by rw[aE];exact iB) (λL_ Ma Un=>?_),aE]
     .exact DU q _ _ _ R
     .exact lQ L_ Ma (.inl ka) x (by simp[b4,j.R])
    .exact gE b8 c_
  .have tZ:∀au:af,p.take au=au:=by intro au;simp only[bY.take,ka];rfl
   obtain⟨⟨ms,ea,fh⟩,gE⟩:=ih s (λb8 c_=>bm b8 (by simp[c_])) my;refine⟨⟨ms,λm hm=>⟨(r4 p ps).1 _ (ea m hm).1,(ea m hm).2⟩,?_⟩,?_⟩
   .intro au fp;simp only[List.map_cons,j.dh]at fp;show di (p.take au) ps=_;rw[tZ];exact fh au fp.right
   .intro b8 c_;have aI:di s (p::ps)=di s ps:=by show di (p.take s) ps=_;rw[tZ]
    rw[aI];rcases List.mem_cons.1 c_ with rfl|c_
    .intro h;exact(ka h).elim
    .exact gE b8 c_
theorem Mb:∀(ps:List bY) (s:af),(∀p∈ps,wt s p (λd=>d=p.d.cj/\p.d.eZ=true))->fD ps=true->
  (∃ms:List fo,(∀m∈ms,m.x∈oa ps/\m.d.R=[])/\∀au,cL (j.dh (ps.map (·.a))) au s->e0 au ps=cP ms au):=by
 intro ps;induction ps with
 |nil=>intro s _ _;exact⟨[],by simp,λau _=>rfl⟩
 |cons p ps ih=>
  intro s bm iJ;obtain⟨my,lQ⟩:=EC iJ;by_cases ka:p.g=true/\p.o≠.hole
  .obtain⟨ka,Mc⟩:=ka;obtain⟨x,q,d,b4,R,⟨rfl,ad⟩,bk⟩:=bm p (by simp) ka;have bk:p.o.eZ=true:=bk.resolve_left Mc;have iB:(j.put q p.o (s x)).R=[]:=by
    cases q with
    |nil=>simp only[j.put];exact EA bk
    |cons k q=>exact rV _ _ _ _ R (.inr (by simp)) (by simp)
   have zK:∀au:af,au x=s x->p.gT au=cP [⟨.b9,x,j.put q p.o (s x)⟩] au:=by
    intro au e;simp only[bY.gT,ka,if_true,b4];rw[e,DD]
   have cJ:∀b8∈ps,∀cu hI,b8.a= .h cu hI->cu≠x:=by
    intro b8 c_ cu hI e fk;have:=lQ b8 c_ (.inl ka) x (by simp[b4,j.R]);rw[e,fk]at this;simp[j.R]at this
   obtain⟨ms,ea,fh⟩:=ih (cP [⟨.b9,x,j.put q p.o (s x)⟩] s) (λb8 c_ zJ=>by
    obtain⟨cu,hI,a8,qq,fp,fF,t_⟩:=bm b8 (by simp[c_]) zJ;refine⟨cu,hI,a8,qq,?_,fF,t_⟩;have bt:=Ez fp (.inr (by rw[fF.1];exact EB fF.2));have o8:cP [⟨.b9,x,j.put q p.o (s x)⟩] s cu=s cu:=by
     simp only[cP,ij,fo.at];rw[if_neg (cJ b8 c_ cu hI qq)];exact tI (.inr (by rw[bt];simp))
    rw[o8];exact fp) my
   refine⟨[⟨.b9,x,j.put q p.o (s x)⟩]++ms,?_,?_⟩
   .intro m hm;rcases List.mem_append.1 hm with hm|hm
    .simp only[List.mem_singleton]at hm;subst hm;exact⟨(r4 p ps).2 ka x (by simp[b4,j.R]),iB⟩
    .exact⟨(r4 p ps).1 _ (ea m hm).1,(ea m hm).2⟩
   .intro au fp;simp only[List.map_cons,j.dh]at fp;have e:au x=s x:=fp x (by simp[b4,j.R]);rw[j7];show e0 (p.gT au) ps=_;rw[zK au e];exact fh _ (cL.cP fp.right _)
  .have zK:∀au:af,p.gT au=au:=by
    intro au;unfold bY.gT;split
    .rename_i ga;have:p.o= .hole:=by
      by_cases h:p.o= .hole
      .exact h
      .exact(ka ⟨ga,h⟩).elim
     rw[this]
    .rfl
   obtain⟨ms,ea,fh⟩:=ih s (λb8 c_=>bm b8 (by simp[c_])) my;refine⟨ms,λm hm=>⟨(r4 p ps).1 _ (ea m hm).1,(ea m hm).2⟩,?_⟩;intro au fp;simp only[List.map_cons,j.dh]at fp;show e0 (p.gT au) ps=_;rw[zK];exact fh au fp.right
theorem Md {s au:af}:∀(a:j) (d:j),cL a.R au s->view s a=some d->view au a=some d:=by
 intro a d h;have:=zg (s:=s) (au:=au) a d;intro aE;cases a with
 |h x q=>simp only[view]at aE⊢;rw[h x (by simp[j.R])];exact aE
 |ag x q=>simp only[view]at aE⊢;rw[h x (by simp[j.R])];exact aE
 |fn f cap=>
  refine this (λu hu _=>h u hu) aE
 |_=>exact aE
theorem Me {p:bY} {s au:af} (h:cL p.a.R au s) (eh:p.ok s):p.ok au:=by
 unfold bY.ok at eh⊢;split
 .rename_i bm;rw[if_pos bm]at eh;cases b4:p.a with
  |h x q=>
   rw[b4]at eh;simp only at eh⊢;rw[h x (by simp[b4,j.R])];exact eh
  |_=>rw[b4]at eh;exact eh.elim
 .rename_i bm;rw[if_neg bm]at eh;exact Md _ _ h eh
def wu (C:bI) (o:bE) (s:af) (iU:eo) (ms:List fo):Prop:=
 (∀au,cL iU.bR au s->∀K:af->Prop,K (cP ms au)->jF C au o K)/\(∀m∈ms,m.x∈iU.T/\∀u∈m.d.R,u∈iU.H)/\(∀u∈iU.bR,∀x∈(s u).R,x∈iU.H)/\(iU.c=true->∀u∈iU.bR,(s u).clean=true)
theorem ED (dst:Option Nat) (av:j):∃ms:List fo,(∀m∈ms,m.x∈dst.toList/\m.d=av)/\∀s1:af,fin s1 dst av=cP ms s1:=by
 cases dst with
 |none=>exact⟨[],by simp,λs=>rfl⟩
 |some t=>
  simp only[fin];by_cases h:av.plain=true
  .exact⟨[⟨.no,t,av⟩],by simp,λs=>by rw[if_pos h,DE]⟩
  .exact⟨[⟨.b9,t,av⟩],by simp,λs=>by rw[if_neg h,DD]⟩
theorem wv {s:af} {bR:Vm} {dst:Option Nat} {cc:Vm} {av:j}:(∀u∈(hj s bR dst cc av).bR,∀x∈(s u).R,x∈(hj s bR dst cc av).H)/\((hj s bR dst cc av).c=true->∀u∈(hj s bR dst cc av).bR,(s u).clean=true):=by
 refine⟨λu hu x ae=>?_,λai=>?_⟩
 .simp only[hj,List.mem_append,List.mem_flatMap];exact .inl ⟨u,hu,ae⟩
 .simp only[hj,List.all_eq_true]at ai;exact ai
theorem EE {s:af} {f:aT} {args:List aT} {K:Vm->j->af->Prop} (h:Ex C s f args K):
  ∃cc av ms,K cc av (cP ms s)/\(∀m∈ms,m.x∈cc/\m.d.R=[])/\∀au,cL (use s (.call f args)) au s->∀cz:j->af->Prop,cz av (cP ms au)->zm C au f args cz:=by
 obtain⟨g,caps,ps,r,U,fv,aa,ax,aP,a9,bU,bO,dv⟩:=h;have Mf:∀p∈ps,wt s p (λd=>d=p.d/\p.d.eZ=true):=by
  intro p ag bm;have:=ax p ag;simp only[bY.ok,bm,if_true]at this;cases b4:p.a with
  |h x q=>rw[b4]at this;exact⟨x,q,p.d,rfl,this.1,⟨rfl,this.2.1⟩,this.2.2.imp id λh=>h.1⟩
  |_=>rw[b4]at this;exact this.elim
 obtain⟨⟨mx,ar,bw⟩,fG⟩:=L9 ps s Mf aP;obtain⟨o4,iF,gl⟩:=Mb ps (di s ps) fG aP;have nm:∀u∈j.dh (ps.map (·.a)),u∈use s (.call f args):=by
  rw[aa];intro u hu;simp only[use,List.mem_append];have key:∀(eR l2:Vr),u∈j.dh (eR++l2)->u∈j.dh eR\/u∈j.dh l2:=by
   intro eR;induction eR with
   |nil=>intro l2 h;exact .inr h
   |cons a eR ih=>
    intro l2 h;simp only[List.cons_append,j.dh,List.mem_append]at h⊢;rcases h with h|h
    .exact .inl (.inl h)
    .exact(ih l2 h).imp .inr id
  rcases key _ _ hu with hu|hu
  .exact .inr (aT.vZ u hu)
  .refine .inl (aT.qo u ?_);rw[U];exact hu
 have fs:e0 (di s ps) ps=cP (mx++o4) s:=by
  rw[j7,<-bw s (λ_ _=>rfl),gl _ (λ_ _=>rfl)]
 refine⟨oa ps,r,mx++o4,by rw[<-fs];exact dv,?_,?_⟩
 .intro m hm;rcases List.mem_append.1 hm with hm|hm
  .exact ar m hm
  .exact iF m hm
 .intro au R cz ak;have n4:cL (j.dh (ps.map (·.a))) au s:=R.sub nm;have bd:cL (f.use s) au s:=by simp only[use]at R;exact R.left
  have ae:cL (aT.mw s args) au s:=by simp only[use]at R;exact R.right
  have aI:e0 (di au ps) ps=cP (mx++o4) au:=by
   rw[j7,<-bw au n4,gl];rw[bw au n4,bw s (λ_ _=>rfl)];exact cL.cP n4 _
  exact⟨g,caps,ps,r,by rw[aT.eF bd];exact U,fv,by rw[aT.y4 ae];exact aa,λp ag=>Me (n4.sub (L8 ag)) (ax p ag),aP,a9,bU,bO,by rw[aI];exact ak⟩
mutual
theorem EF {s au:af}:∀(d:j),cL d.R au s->d.en au=d.en s
 | .h x q,h=>by simp only[j.en];rw[h x (by simp[j.R])]
 | .J x q,h=>by simp only[j.en];rw[h x (by simp[j.R])]
 | .fn f cap,h=>by simp only[j.en];exact EG cap (by simpa only[j.R]using h)
 | .ag _ _,_=>by simp only[j.en]
 | .hole,_=>by simp only[j.en]
 | .bool _,_=>by simp only[j.en]
 | .dV,_=>by simp only[j.en]
 | .int _ _,_=>by simp only[j.en]
 | .str _,_=>by simp only[j.en]
 | .cW,_=>by simp only[j.en]
 | .aK,_=>by simp only[j.en]
 | .slice _,_=>by simp only[j.en]
 | .aq _ _,_=>by simp only[j.en]
 | .ref _,_=>by simp only[j.en]
 | .aS _,_=>by simp only[j.en]
 | .agg _,_=>by simp only[j.en]
 | .tuple _,_=>by simp only[j.en]
 | .cY _,_=>by simp only[j.en]
 | .br _ _,_=>by simp only[j.en]
theorem EG {s au:af}:∀(ds:Vr),cL (j.dh ds) au s->j.lT au ds=j.lT s ds
 |[],_=>rfl
 |d::ds,h=>by
  simp only[j.dh]at h;simp only[j.lT];rw[EF d h.left,EG ds h.right]
end
theorem zL {s au:af} {us:Vm} (h:cL (us.flatMap λu=>u::(s u).R) au s):hy au us=hy s us:=by
 unfold hy;refine List.map_congr_left λu hu=>?_;rw[h u (List.mem_flatMap.2 ⟨u,hu,by simp⟩)]
theorem zM {s au:af}:∀(L:Vq),(∀p∈L,cL p.2.R au s)->jq au L=jq s L
 |[],_=>rfl
 |p::L,h=>by
  simp only[jq];rw[EF p.2 (h p (by simp)),zM L (λq b2=>h q (by simp[b2]))]
theorem EH:∀(L:Vq) (s:af),kC s L=cP (L.map λp=>⟨.no,p.1,p.2⟩) s
 |[],s=>rfl
 |p::L,s=>by
  simp only[kC,List.map_cons];rw[EH L,DE];exact(j7 [⟨.no,p.1,p.2⟩] _ s).symm
theorem Mg {s:af} {bb:cZ} {K:Vm->j->af->Prop} (h:k2 C s bb K):
  ∃cc av ms,K cc av (cP ms s)/\(∀m∈ms,m.x∈cc/\∀v∈m.d.R,∃u∈use s bb,v∈(s u).R)/\∀au,cL (use s bb) au s->∀cz:j->af->Prop,cz av (cP ms au)->lU C au bb cz:=by
 have plain:(∃av s1,bs C s bb=some (av,s1)/\K (j8 s bb) av s1)->(∀au (cz:j->af->Prop) av s1,bs C au bb=some (av,s1)->cz av s1->lU C au bb cz)->
   ∃cc av ms,K cc av (cP ms s)/\(∀m∈ms,m.x∈cc/\∀v∈m.d.R,∃u∈use s bb,v∈(s u).R)/\∀au,cL (use s bb) au s->∀cz:j->af->Prop,cz av (cP ms au)->lU C au bb cz:=by
  rintro⟨av,s1,U,aa⟩ hw;obtain⟨ms,aI,aR,aX⟩:=DT U;subst aI;exact⟨_,av,ms,aa,λm hm=>⟨(aR m hm).1,λv aE=>by rw[(aR m hm).2]at aE;cases aE⟩,λau R cz ak=>hw au cz av _ (aX au R) ak⟩
 cases bb with
 |call f args=>
  obtain⟨cc,av,ms,ar,bw,fG⟩:=EE h;exact⟨cc,av,ms,ar,λm hm=>⟨(bw m hm).1,λv aE=>by rw[(bw m hm).2]at aE;cases aE⟩,λau R cz ak=>fG au R cz ak⟩
 |jm f args us=>
  obtain⟨b6,ai⟩:=h;obtain⟨cc,av,ms,⟨ar,Mh⟩,bw,fG⟩:=EE ai;have e:∀au:af,kC (cP ms au) (hy s us)=cP (ms++(hy s us).map λp=>⟨.no,p.1,p.2⟩) au:=λau=>by rw[j7,EH]
  have kq:∀{au:af},cL (us.flatMap λu=>u::(s u).R) au s->∀p∈hy s us,cL p.2.R au s:=λ{au} R p ag v aE=>by
   obtain⟨u,hu,rfl⟩:=List.mem_map.1 ag;exact R v (List.mem_flatMap.2 ⟨u,hu,by simp[aE]⟩)
  refine⟨us++cc,av,ms++(hy s us).map λp=>⟨.no,p.1,p.2⟩,by rw[<-e];exact Mh,?_,?_⟩
  .intro m hm;rcases List.mem_append.1 hm with hm|hm
   .exact⟨by simp[(bw m hm).1],λv aE=>by rw[(bw m hm).2]at aE;cases aE⟩
   .obtain⟨p,ag,rfl⟩:=List.mem_map.1 hm;obtain⟨u,hu,rfl⟩:=List.mem_map.1 ag;exact⟨List.mem_append_left _ hu,λv aE=>⟨u,by simp only[use,List.mem_append,List.mem_flatMap];exact .inl ⟨u,hu,by simp⟩,aE⟩⟩
  .intro au R cz ak;simp only[use]at R;refine⟨by rw[zL R.left,zM _ (kq R.left)];exact b6,fG au R.right _ ⟨?_,?_⟩⟩
   .rw[zL R.left,zM _ (λp ag=>(kq R.left p ag).cP ms)];exact ar
   .rw[zL R.left,e];exact ak
 |shr bb=>
  obtain⟨av,s1,U,aa,ax,aP⟩:=h;obtain⟨ms,aI,aR,aX⟩:=DT U;subst aI;exact⟨_,av.share,ms,aP,λm hm=>⟨(aR m hm).1,λv aE=>by rw[(aR m hm).2]at aE;cases aE⟩,λau R cz ak=>⟨av,_,aX au R,aa,ax,ak⟩⟩
 |_=>exact plain h (λau cz av s1 U aa=>⟨av,s1,U,aa⟩)
theorem Mi {s:af} {o:bE} {K:eo->af->Prop} (h:j_ C s o K):∃iU ms,K iU (cP ms s)/\wu C o s iU ms:=by
 have op:∀(bR:Vm),(∀u∈use s o.bb,u∈bR)->(∀au,cL bR au s->∀cz:af->Prop,lU C au o.bb (λav s1=>cz (fin s1 o.dst av))->jF C au o cz)->
   k2 C s o.bb (λcc av s1=>K (hj s bR o.dst cc av) (fin s1 o.dst av))->∃iU ms,K iU (cP ms s)/\wu C o s iU ms:=by
  intro bR nm jY hw;obtain⟨cc,av,ms,U,aa,ax⟩:=Mg hw;obtain⟨i6,iN,cf⟩:=ED o.dst av;refine⟨hj s bR o.dst cc av,ms++i6,?_,?_,?_,wv.1,wv.2⟩
  .rw[j7,<-cf];exact U
  .intro au R cz ak;refine jY au R cz (ax au (R.sub nm) _ ?_);rw[cf,<-j7];exact ak
  .intro m hm;simp only[hj,List.mem_append];rcases List.mem_append.1 hm with hm|hm
   .refine⟨.inr (aa m hm).1,λv aE=>.inl ?_⟩;obtain⟨u,hu,jZ⟩:=(aa m hm).2 v aE;exact List.mem_flatMap.2 ⟨u,nm u hu,jZ⟩
   .exact⟨.inl (iN m hm).1,λu hu=>.inr (by rw[(iN m hm).2]at hu;exact hu)⟩
 have skip:∀t,(∀au,cL [t] au s->∀cz:af->Prop,cz (fin au o.dst (.tuple []))->jF C au o cz)->K (hj s [t] o.dst [] (.tuple [])) (fin s o.dst (.tuple []))->∃iU ms,K iU (cP ms s)/\wu C o s iU ms:=by
  intro t jY ak;obtain⟨i6,iN,cf⟩:=ED o.dst (.tuple []);refine⟨_,i6,by rw[<-cf];exact ak,?_,?_,wv.1,wv.2⟩
  .intro au R cz iH;exact jY au R cz (by rw[cf];exact iH)
  .intro m hm;simp only[hj,List.mem_append];exact⟨.inl (iN m hm).1,λu hu=>by rw[(iN m hm).2]at hu;simp[j.R]at hu⟩
 unfold j_ at h;split at h
 .rename_i bm;exact op _ (λ_ h=>h) (λau _ cz hw=>by unfold jF;rw[bm];exact hw) h
 .rename_i t b bm;split at h
  .rename_i eE J;split at h
   .rename_i e;refine op (t::use s o.bb) (λu hu=>by simp[hu]) (λau R cz hw=>?_) h;have:au t=s t:=R t (by simp);unfold jF;rw[bm];simp only[this,J,if_pos e];exact hw
   .rename_i e;refine skip t (λau R cz ak=>?_) h;have:au t=s t:=R t (by simp);unfold jF;rw[bm];simp only[this,J,if_neg e];exact ak
  .rename_i J;refine skip t (λau R cz ak=>?_) h;have:au t=s t:=R t (by simp);unfold jF;rw[bm];simp only[this,J];exact ak
  .exact h.elim
def pd (C:bI) (ros:List bE):af->List (Nat×eo×List fo)->Prop
 |_,[]=>True
 |s,e::r=>(∃o,ros[e.1]? =some o/\wu C o s e.2.1 e.2.2)/\pd C ros (cP e.2.2 s) r
def mH (s:af) (r:List (Nat×eo×List fo)):af:=r.foldl (λs e=>cP e.2.2 s) s
def lL (a b:Vm):Bool:=a.all λx=> !b.contains x
theorem r5 {a b:Vm} (h:lL a b=true):∀x∈a,x∉b:=by
 intro x ae;simp only[lL,List.all_eq_true]at h;simpa using h x ae
def qF (a b:eo):Bool:=lL b.T a.bR&&lL b.T a.H&&lL b.T a.T&&lL a.T b.bR&&lL a.T b.H&&b.c
theorem Mj {ros:List bE} {s:af} {a b:Nat×eo×List fo} {r:List (Nat×eo×List fo)} (h:pd C ros s (a::b::r)) (ay:qF a.2.1 b.2.1=true):
  pd C ros s (b::a::r)/\mH s (b::a::r)=mH s (a::b::r):=by
 obtain⟨⟨Mk,b4,ar,bw,fG,ng⟩,⟨cY,J,iF,gl,h1,cO⟩,aG⟩:=h;simp only[qF,Bool.and_eq_true]at ay;obtain⟨⟨⟨⟨⟨oR,me⟩,pX⟩,x8⟩,s0⟩,x_⟩:=ay;have zN:∀u∈b.2.1.bR,cP a.2.2 s u=s u:=by
  intro u hu;refine L3 _ _ _ (λm hm e=>?_) (cO x_ u hu);exact r5 x8 m.x (bw m hm).1 (e▸hu)
 have zO:∀u∈a.2.1.bR,cP b.2.2 s u=s u:=by
  intro u hu;refine L4 _ _ _ λm hm=>⟨λe=>?_,λae=>?_⟩
  .exact r5 oR m.x (gl m hm).1 (e▸hu)
  .exact r5 me m.x (gl m hm).1 (fG u hu _ ae)
 have EI:cP b.2.2 (cP a.2.2 s)=cP a.2.2 (cP b.2.2 s):=by
  refine L6 _ _ _ λm hm n a2=>⟨λe=>?_,λh=>?_,λh=>?_⟩
  .exact r5 pX n.x (gl n a2).1 (e▸(bw m hm).1)
  .exact r5 me n.x (gl n a2).1 ((bw m hm).2 _ h)
  .exact r5 s0 m.x (bw m hm).1 ((gl n a2).2 _ h)
 refine⟨⟨⟨cY,J,?_,gl,?_,?_⟩,⟨Mk,b4,?_,bw,?_,?_⟩,?_⟩,?_⟩
 .intro au R K ak;exact iF au (λu hu=>(R u hu).trans (zN u hu).symm) K ak
 .intro u hu x ae;exact h1 u hu x (by rw[zN u hu];exact ae)
 .intro ai u hu;have:=cO ai u hu
  rwa [zN u hu]at this
 .intro au R K ak;exact ar au (λu hu=>(R u hu).trans (zO u hu)) K ak
 .intro u hu x ae;rw[zO u hu]at ae;exact fG u hu x ae
 .intro ai u hu;rw[zO u hu];exact ng ai u hu
 .rw[<-EI];exact aG
 .simp only[mH,List.foldl_cons];rw[EI]
theorem Ml {ros:List bE} {e:Nat×eo×List fo} {post:List (Nat×eo×List fo)}:∀(pre:List (Nat×eo×List fo)) (s:af),pd C ros s (pre++e::post)->(∀a∈pre,qF a.2.1 e.2.1=true)->
  pd C ros s (e::(pre++post))/\mH s (e::(pre++post))=mH s (pre++e::post):=by
 intro pre;induction pre with
 |nil=>intro s h _;exact⟨h,rfl⟩
 |cons a pre ih=>
  intro s h ay;obtain⟨U,aa⟩:=h;obtain⟨aL,a0⟩:=ih _ aa λb J=>ay b (by simp[J]);have ai:pd C ros s (a::e::(pre++post)):=⟨U,aL⟩
  obtain⟨bX,b6⟩:=Mj ai (ay a (by simp));refine⟨bX,b6.trans ?_⟩;simp only[mH,List.foldl_cons,List.cons_append]at a0⊢;exact a0
end
def ua:Vk->Vk->Vk
 |done,[]=>done
 |done,a::r=>ua (done++[a++a.flatMap λe=>(done[e]?).getD []]) r
def nt (dR:Vk):Vk:=ua [] dR
theorem Mm {dR:Vk} {l:Vm} (hl:∀u i v,l=u++i::v->∀e∈(dR[i]?).getD [],e∈u):∀(rest pre done:Vk),dR=pre++rest->done.length=pre.length->
  (∀u i v,l=u++i::v->∀e∈(done[i]?).getD [],e∈u)->∀u i v,l=u++i::v->∀e∈((ua done rest)[i]?).getD [],e∈u:=by
 intro rest;induction rest with
 |nil=>intro pre done _ _ h;exact h
 |cons a rest ih=>
  intro pre done EJ hlen h;simp only[ua];refine ih (pre++[a]) _ (by simp[EJ]) (by simp[hlen]) ?_;intro u i v hu e he;by_cases ay:i<done.length
  .rw[List.getElem?_append_left ay]at he;exact h u i v hu e he
  .rw[List.getElem?_append_right (by omega)]at he;by_cases DB:i-done.length=0
   .rw[DB]at he;simp only[List.getElem?_cons_zero,Option.getD_some,List.mem_append,List.mem_flatMap]at he;have EK:(dR[i]?).getD []=a:=by
     have:i=pre.length:=by omega
     rw[EJ,this,List.getElem?_append_right (Nat.le_refl _)];simp
    rcases he with he|⟨fk,zt,he⟩
    .exact hl u i v hu e (by rw[EK];exact he)
    .have tJ:=hl u i v hu fk (by rw[EK];exact zt);obtain⟨yV,yW,rfl⟩:=List.append_of_mem tJ;have:=h yV fk (yW++i::v) (by rw[hu];simp) e he;simp[this]
   .rw[List.getElem?_eq_none (by simp;omega)]at he;simp at he
theorem Mn {dR:Vk} {l:Vm} (hl:∀u i v,l=u++i::v->∀e∈(dR[i]?).getD [],e∈u):∀u i v,l=u++i::v->∀e∈((nt dR)[i]?).getD [],e∈u:=
 Mm hl dR [] [] rfl rfl λu i v _ e he=>by simp at he
def i9 (kF:Vk):Nat->List (Nat×eo)->List eo->Bool
 |_,_,[]=>true
 |aD,es,f::al=>(es.all λe=>((kF[aD]?).getD []).contains e.1||qF e.2 f)&&i9 kF (aD+1) ((aD,f)::es) al
def zP (kF:Vk) (a b:Nat×eo×List fo):Prop:=a.1∈(kF[b.1]?).getD []\/qF a.2.1 b.2.1=true
theorem Mo {kF:Vk}:∀(fH:List (Nat×eo×List fo)) (aD:Nat) (es:List (Nat×eo)),fH.map (·.1)=(List.range fH.length).map (·+aD)->i9 kF aD es (fH.map (·.2.1))=true->
  fH.Pairwise (zP kF)/\∀e∈es,∀b∈fH,e.1∈(kF[b.1]?).getD []\/qF e.2 b.2.1=true:=by
 intro fH;induction fH with
 |nil=>intro aD es _ _;exact⟨.nil,λe _ b J=>by cases J⟩
 |cons a fH ih=>
  intro aD es qG eh;rw[List.length_cons,List.range_succ_eq_map,List.map_cons,List.map_cons,List.map_map]at qG;simp only[List.cons.injEq,Nat.zero_add]at qG;obtain⟨cn,qG⟩:=qG;simp only[List.map_cons,i9,Bool.and_eq_true,List.all_eq_true,Bool.or_eq_true]at eh;obtain⟨U,aa⟩:=eh;obtain⟨aL,a0⟩:=ih (aD+1) _ (by rw[qG];congr 1;funext x;simp;omega) aa;refine⟨.cons (λb J=>?_) aL,λe he b J=>?_⟩
  .have:=a0 (aD,a.2.1) (by simp) b J;simp only[zP,cn];exact this
  .rcases List.mem_cons.1 J with rfl|J
   .rw[cn];exact(U e he).imp (λh=>by simpa using h) id
   .exact a0 e (by simp[he]) b J
section
variable {C:bI}
theorem Mp {K:Option (List eo)->af->Prop}:∀(os pre:List bE) (s:af) (acc:List eo),cl C s os (some acc) K->
  ∃fH,pd C (pre++os) s fH/\fH.map (·.1)=(List.range os.length).map (·+pre.length)/\K (some ((fH.map (·.2.1)).reverse++acc)) (mH s fH):=by
 intro os;induction os with
 |nil=>intro pre s acc h;exact⟨[],trivial,rfl,h⟩
 |cons o os ih=>
  intro pre s acc h;obtain⟨iU,ms,U,aa⟩:=Mi h;obtain⟨fH,aL,a0,bK⟩:=ih (pre++[o]) _ (iU::acc) U;refine⟨(pre.length,iU,ms)::fH,⟨⟨o,?_,aa⟩,?_⟩,?_,?_⟩
  .rw[List.getElem?_append_right (Nat.le_refl _)];simp
  .simpa using aL
  .rw[List.length_cons,List.range_succ_eq_map,List.map_cons,List.map_cons,List.map_map,a0];simp only[List.cons.injEq,Nat.zero_add,true_and];congr 1;funext x;simp;omega
  .simpa [mH]using bK
theorem Mq {ros:List bE} {kF:Vk} {K:af->Prop}:∀(l:Vm) (fH:List (Nat×eo×List fo)) (s:af),pd C ros s fH->fH.Pairwise (zP kF)->l.Nodup->(fH.map (·.1)).Nodup->
  (∀i,i∈l↔i∈fH.map (·.1))->(∀u i v,l=u++i::v->∀e∈(kF[i]?).getD [],e∈fH.map (·.1)->e∈u)->K (mH s fH)->il C ros s l K:=by
 intro l;induction l with
 |nil=>
  intro fH s _ _ _ _ hm _ ak;cases fH with
  |nil=>exact ak
  |cons e fH=>have:=(hm e.1).2 (by simp);cases this
 |cons i l ih=>
  intro fH s ai ag a2 tD hm bk ak;obtain⟨e,he,ay⟩:=List.mem_map.1 ((hm i).1 (by simp));obtain⟨pre,post,rfl⟩:=List.append_of_mem he;have Mr:∀a∈pre,qF a.2.1 e.2.1=true:=by
   intro a b4;have aG:=(List.pairwise_append.1 ag).2.2 a b4 e (by simp);rcases aG with aG|aG
   .rw[ay]at aG;have:=bk [] i l rfl a.1 aG (by simp only[List.map_append,List.mem_append,List.mem_map];exact .inl ⟨a,b4,rfl⟩);cases this
   .exact aG
  obtain⟨aL,a0⟩:=Ml pre s ai Mr;obtain⟨⟨o,Ms,wb⟩,bK⟩:=aL;have EL:i∉(pre++post).map (·.1):=by
   have:(pre.map (·.1)++e.1::post.map (·.1)).Nodup:=by simpa using tD
   have bl:=(List.perm_middle.nodup_iff.1 this)
   rw[List.nodup_cons]at bl;rw[<-ay];simpa using bl.1
  simp only[il];rw[<-ay,Ms];refine wb.1 s (λ_ _=>rfl) _ ?_;rw[List.nodup_cons]at a2;refine ih (pre++post) _ bK ?_ a2.2 ?_ ?_ ?_ ?_
  .exact ag.sublist ((List.Sublist.refl pre).append (List.sublist_cons_self e post))
  .have:(pre.map (·.1)++e.1::post.map (·.1)).Nodup:=by simpa using tD
   have bl:=(List.perm_middle.nodup_iff.1 this)
   rw[List.nodup_cons]at bl;simpa using bl.2
  .intro aD;constructor
   .intro cn;have U:=(hm aD).1 (by simp[cn]);simp only[List.map_append,List.map_cons,List.mem_append,List.mem_cons]at U⊢;rcases U with U|rfl|U
    .exact .inl U
    .exact(a2.1 (ay▸cn)).elim
    .exact .inr U
   .intro cn;have U:=(hm aD).2 (by
     simp only[List.map_append,List.map_cons,List.mem_append,List.mem_cons]at cn⊢;exact cn.imp id .inr)
    rcases List.mem_cons.1 U with rfl|U
    .exact(EL cn).elim
    .exact U
  .intro u aD v hu x ae zQ;have U:=bk (i::u) aD v (by rw[hu];rfl) x ae (by
    simp only[List.map_append,List.map_cons,List.mem_append,List.mem_cons]at zQ⊢;exact zQ.imp id .inr)
   rcases List.mem_cons.1 U with rfl|U
   .exact(EL zQ).elim
   .exact U
  .have:mH s (e::(pre++post))=mH (cP e.2.2 s) (pre++post):=rfl;rw[<-this,a0];exact ak
theorem zR {ros:List bE} {dR:Vk} {s:af} {K:af->Prop} (hlen:dR.length=ros.length)
  (h:cl C s ros (some []) (λacc s=>i9 (nt dR) 0 [] (acc.getD []).reverse=true/\K s)):∀l,zs dR l->il C ros s l K:=by
 intro l ⟨eR,l2,zl⟩;obtain⟨fH,aL,a0,bK,cF⟩:=Mp ros [] s [] h;simp only[List.nil_append,List.append_nil,List.length_nil,Option.getD_some,List.reverse_reverse]at aL a0 bK;have hl:fH.length=ros.length:=by have:=congrArg List.length a0;simpa using this
 have qG:fH.map (·.1)=(List.range fH.length).map (·+0):=by rw[a0,hl]
 have aG:fH.map (·.1)=List.range ros.length:=by rw[a0];simp
 obtain⟨eO,_⟩:=Mo fH 0 [] qG bK;refine Mq l fH s aL eO eR (by rw[aG];exact List.nodup_range) (λi=>?_) (λu i v hu e he _=>Mn zl u i v hu e he) cF;rw[aG,l2,hlen,List.mem_range]
end
def pe (C:bI) (dst:Option Nat) (os:List bE) (K:Option (List eo)->af->Prop):Option (j×af)->Prop
 |some (av,s1)=>cl C (fin s1 dst av) os none K
 |none=>False
def qH (C:bI) (l:Vq) (bR cc:Vm) (dst:Option Nat) (os:List bE) (a:List eo) (K:Option (List eo)->af->Prop):Option (j×af)->Prop
 |some (av,s1)=>cl C (fin s1 dst av) os (some (hj (ao l) bR dst cc av::a)) K
 |none=>False
def iV (C:bI) (l:Vq) (dst:Option Nat) (bb:cZ) (t:Nat) (b:Bool) (os:List bE) (acc:Option (List eo)) (K:Option (List eo)->af->Prop):j->Prop
 | .bool eE=>if eE=b then k2 C (ao l) bb (λcc av s1=>cl C (fin s1 dst av) os (ns acc (hj (ao l) (t::use (ao l) bb) dst cc av)) K)else cl C (fin (ao l) dst (.tuple [])) os (ns acc (hj (ao l) [t] dst [] (.tuple []))) K
 | .tuple []=>cl C (fin (ao l) dst (.tuple [])) os (ns acc (hj (ao l) [t] dst [] (.tuple []))) K
 |_=>False
section
variable {C:bI} {l:Vq} {os:List bE} {K:Option (List eo)->af->Prop} {dst:Option Nat} {a:List eo} {acc:Option (List eo)}
theorem wx {s:af} {bb:cZ} {K:Vm->j->af->Prop} (a2:bb.gJ=false):k2 C s bb K=(match bs C s bb with
  |some (av,s1)=>K (j8 s bb) av s1
  |none=>False):=by
 apply propext;constructor
 .intro h;cases bb<;>first
   |(simp[cZ.gJ]at a2;done)
   |(obtain⟨av,s1,U,aa⟩:=h;rw[U];exact aa)
 .intro h;split at h
  .rename_i av s1 he;cases bb<;>first
    |(simp[cZ.gJ]at a2;done)
    |exact⟨av,s1,he,h⟩
  .exact h.elim
theorem EM:cl C (ao l) [] acc K=K acc (ao l):=rfl
theorem wy {bb:cZ} (a2:bb.gJ=false):cl C (ao l) (⟨dst,bb,none⟩::os) none K=pe C dst os K (bs C (ao l) bb):=by
 simp only[cl,j_,ns];rw[wx a2];cases bs C (ao l) bb with
 |none=>rfl
 |some p=>rfl
theorem zS {bb:cZ} (a2:bb.gJ=false):cl C (ao l) (⟨dst,bb,none⟩::os) (some a) K=qH C l (use (ao l) bb) (j8 (ao l) bb) dst os a K (bs C (ao l) bb):=by
 simp only[cl,j_,ns];rw[wx a2];cases bs C (ao l) bb with
 |none=>rfl
 |some p=>rfl
theorem EN {bb:cZ} {t:Nat} {b:Bool}:cl C (ao l) (⟨dst,bb,some (t,b)⟩::os) acc K=iV C l dst bb t b os acc K (ao l t):=by
 simp only[cl,j_];generalize ao l t=v;cases v<;>first|rfl|(rename_i vs;cases vs<;>rfl)
theorem Mt {bb:cZ} {t:Nat} {b:Bool} (a2:bb.gJ=false):iV C l dst bb t b os none K (.bool b)=pe C dst os K (bs C (ao l) bb):=by
 simp only[iV,if_true];rw[wx a2];cases bs C (ao l) bb with
 |none=>rfl
 |some p=>rfl
theorem Mu {bb:cZ} {t:Nat} {b:Bool} (a2:bb.gJ=false):iV C l dst bb t b os (some a) K (.bool b)=qH C l (t::use (ao l) bb) (j8 (ao l) bb) dst os a K (bs C (ao l) bb):=by
 simp only[iV,if_true];rw[wx a2];cases bs C (ao l) bb with
 |none=>rfl
 |some p=>rfl
theorem Mv {bb:cZ} {t:Nat}:iV C l dst bb t true os none K (.bool false)=cl C (fin (ao l) dst (.tuple [])) os none K/\iV C l dst bb t false os none K (.bool true)=cl C (fin (ao l) dst (.tuple [])) os none K/\
  (∀b,iV C l dst bb t b os none K (.tuple [])=cl C (fin (ao l) dst (.tuple [])) os none K):=⟨rfl,rfl,λ_=>rfl⟩
theorem Mw {bb:cZ} {t:Nat}:iV C l dst bb t true os (some a) K (.bool false)=cl C (fin (ao l) dst (.tuple [])) os (some (hj (ao l) [t] dst [] (.tuple [])::a)) K/\
  iV C l dst bb t false os (some a) K (.bool true)=cl C (fin (ao l) dst (.tuple [])) os (some (hj (ao l) [t] dst [] (.tuple [])::a)) K/\
  (∀b,iV C l dst bb t b os (some a) K (.tuple [])=cl C (fin (ao l) dst (.tuple [])) os (some (hj (ao l) [t] dst [] (.tuple [])::a)) K):=⟨rfl,rfl,λ_=>rfl⟩
theorem Mx (av:j) (s1:af):pe C dst os K (some (av,s1))=cl C (fin s1 dst av) os none K:=rfl
theorem My (bR cc:Vm) (av:j) (s1:af):qH C l bR cc dst os a K (some (av,s1))=cl C (fin s1 dst av) os (some (hj (ao l) bR dst cc av::a)) K:=rfl
def wz (s:af):j->Option (j×af)
 | .h y q=>cc s (.h y q)
 |d=>some (d,s)
def EO (s:af):j->j->j->Option (j×af)
 | .bool eE,x,y=>some (if eE then x else y,s)
 |_,_,_=>none
def i_ (s:af):Option j->Option (j×af)
 |some d=>some (d,s)
 |none=>none
def dc:Option af->Option (j×af)
 |some s1=>some (.hole,s1)
 |none=>none
def hB (s:af):List aT->Vr
 |[]=>[]
 |x::xs=>a6 s x::hB s xs
def pf (s:af):List (Nat×aT)->Vq
 |[]=>[]
 |(k,x)::xs=>(k,a6 s x)::pf s xs
def ub (s:af):Option aT->Option j
 |none=>none
 |some x=>some (a6 s x)
theorem EP (s:af) (x:Option j):(x.map λd=>(d,s))=i_ s x:=by cases x<;>rfl
theorem Mz (x:Option af):(x.map λs1=>(j.hole,s1))=dc x:=by cases x<;>rfl
theorem qI (s:af):∀xs:List aT,xs.map (a6 s)=hB s xs
 |[]=>rfl
 |x::xs=>by simp only[List.map_cons,hB,qI s xs]
theorem ER (s:af):∀xs:List (Nat×aT),(xs.map λp=>(p.1,a6 s p.2))=pf s xs
 |[]=>rfl
 |(k,x)::xs=>by simp only[List.map_cons,pf,ER s xs]
theorem MA (s:af) (x:Option aT):x.map (a6 s)=ub s x:=by cases x<;>rfl
theorem ES:(∀x,cZ.gJ (.g5 x)=false)/\
  (∀x,cZ.gJ (.j6 x)=false)/\
  (∀c x y,cZ.gJ (.pick c x y)=false)/\
  (∀T,cZ.gJ (.j1 T)=false)/\
  (∀T x,cZ.gJ (.g4 T x)=false)/\
  (∀T ps,cZ.gJ (.fb T ps)=false)/\
  (∀T n ps,cZ.gJ (.e6 T n ps)=false)/\
  (∀T x,cZ.gJ (.ey T x)=false)/\
  (∀T x y,cZ.gJ (.ie T x y)=false)/\
  (∀x,cZ.gJ (.ht x)=false)/\
  (∀op T x y,cZ.gJ (.eb op T x y)=false)/\
  (∀op x,cZ.gJ (.un op x)=false)/\
  (∀A B x,cZ.gJ (.hg A B x)=false)/\
  (∀f cs,cZ.gJ (.lN f cs)=false)/\
  (∀T x y,cZ.gJ (.dO T x y)=false)/\
  (∀T x dE ay,cZ.gJ (.eY T x dE ay)=false)/\
  (∀T x k,cZ.gJ (.gQ T x k)=false)/\
  (∀T x y,cZ.gJ (.hJ T x y)=false)/\
  (∀T x y,cZ.gJ (.idx T x y)=false)/\
  (∀x k,cZ.gJ (.ex x k)=false)/\
  (∀T x,cZ.gJ (.len T x)=false)/\
  (∀T bR x y,cZ.gJ (.app T bR x y)=false):=by
 and_intros<;>intros<;>rfl
theorem ET:(∀x,bs C (ao l) (.g5 x)=some (a6 (ao l) x,ao l))/\
  (∀x,bs C (ao l) (.j6 x)=wz (ao l) (a6 (ao l) x))/\
  (∀c x y,bs C (ao l) (.pick c x y)=EO (ao l) (a6 (ao l) c) (a6 (ao l) x) (a6 (ao l) y))/\
  (∀T,bs C (ao l) (.j1 T)=i_ (ao l) (j1 C T))/\
  (∀T x,bs C (ao l) (.g4 T x)=g4 (ao l) (a6 (ao l) x))/\
  (∀T ps,bs C (ao l) (.fb T ps)=fb C (ao l) T (pf (ao l) ps))/\
  (∀T n ps,bs C (ao l) (.e6 T n ps)=e6 C (ao l) T n (pf (ao l) ps))/\
  (∀T x,bs C (ao l) (.ey T x)=i_ (ao l) (ey C (ao l) T (a6 (ao l) x)))/\
  (∀T x y,bs C (ao l) (.ie T x y)=dc (ie C (ao l) T (a6 (ao l) x) (a6 (ao l) y)))/\
  (∀x,bs C (ao l) (.ht x)=i_ (ao l) (ht (ao l) (a6 (ao l) x)))/\
  (∀op T x y,bs C (ao l) (.eb op T x y)=i_ (ao l) (eb C (ao l) op T (a6 (ao l) x) (a6 (ao l) y)))/\
  (∀op x,bs C (ao l) (.un op x)=i_ (ao l) (un op (a6 (ao l) x)))/\
  (∀A B x,bs C (ao l) (.hg A B x)=i_ (ao l) (hg C (ao l) A B (a6 (ao l) x)))/\
  (∀f cs,bs C (ao l) (.lN f cs)=some (.fn f (hB (ao l) cs),ao l))/\
  (∀T x y,bs C (ao l) (.dO T x y)=i_ (ao l) (dO C T (a6 (ao l) x) (a6 (ao l) y)))/\
  (∀T x dE ay,bs C (ao l) (.eY T x dE ay)=eY C (ao l) T (a6 (ao l) x) (ub (ao l) dE) (ub (ao l) ay))/\
  (∀T x k,bs C (ao l) (.gQ T x k)=i_ (ao l) (gQ C (ao l) T (a6 (ao l) x) k))/\
  (∀T x y,bs C (ao l) (.hJ T x y)=i_ (ao l) (hJ C (ao l) T (a6 (ao l) x) (a6 (ao l) y)))/\
  (∀T x y,bs C (ao l) (.idx T x y)=i_ (ao l) (idx C T (a6 (ao l) x) (a6 (ao l) y)))/\
  (∀x k,bs C (ao l) (.ex x k)=i_ (ao l) (ex (ao l) (a6 (ao l) x) k))/\
  (∀T x,bs C (ao l) (.len T x)=i_ (ao l) (nX C (ao l) T (a6 (ao l) x)))/\
  (∀T bR x y,bs C (ao l) (.app T bR x y)=n0 C (ao l) T bR (a6 (ao l) x) (a6 (ao l) y)):=by
 and_intros<;>intros<;>first|rfl|(simp only[bs,EP,Mz,ER,qI,MA];done)|(simp only[bs];cases a6 (ao l) _<;>first|rfl|(rename_i b;cases b<;>rfl))
end
theorem EU:∀t d,mh t d=if j.plain d=true then d else .h t []:=λ_ _=>rfl
theorem EV:(∀l av,fin (ao l) none av=ao l)/\(∀l t av,fin (ao l) (some t) av=ao ((t,av)::if j.plain av=true then l else nr t l)):=
 ⟨λ_ _=>rfl,λl t av=>by
  simp only[fin];split
  .rw[r2]
  .rw[wq,r2]⟩
theorem zT:
  (∀k n,j.plain (.int k n)=true)/\
  (∀b,j.plain (.bool b)=true)/\
  (∀x,j.plain (.str x)=true)/\
  (∀xs,j.plain (.slice xs)=true)/\
  (∀d,j.plain (.ref d)=true)/\
  (∀f cap,j.plain (.fn f cap)=true)/\
  (∀x q,j.plain (.h x q)=true)/\
  (∀x q,j.plain (.ag x q)=true)/\
  (j.plain .cW=true)/\
  (j.plain .aK=true)/\
  (j.plain .dV=true)/\
  (j.plain .hole=true)/\
  (∀sz xs,j.plain (.aq sz xs)=false)/\
  (∀d,j.plain (.aS d)=false)/\
  (∀al,j.plain (.agg al)=j.db al)/\
  (∀al,j.plain (.tuple al)=j.db al)/\
  (j.db []=true)/\
  (∀d ds,j.db (d::ds)=(d.plain&&j.db ds)):=
 ⟨λ_ _=>rfl,λ_=>rfl,λ_=>rfl,λ_=>rfl,λ_=>rfl,λ_ _=>rfl,λ_ _=>rfl,λ_ _=>rfl,rfl,rfl,rfl,rfl,λ_ _=>rfl,λ_=>rfl,λ_=>rfl,λ_=>rfl,rfl,λ_ _=>rfl⟩
theorem EW:∀s d,wz s d=match d with| .h y q=>cc s (.h y q)|d=>some (d,s):=λ_ _=>by unfold wz;rfl
theorem EX:
  (∀t k n,b9 t (.int k n)=(.int k n))/\
  (∀t b,b9 t (.bool b)=(.bool b))/\
  (∀t x,b9 t (.str x)=(.str x))/\
  (∀t xs,b9 t (.slice xs)=(.slice xs))/\
  (∀t d,b9 t (.ref d)=(.ref d))/\
  (∀t,b9 t .cW= .cW)/\
  (∀t,b9 t .aK= .aK)/\
  (∀t,b9 t .dV= .dV)/\
  (∀t,b9 t .hole= .hole)/\
  (∀t sz xs,b9 t (.aq sz xs)=(.aq sz xs))/\
  (∀t d,b9 t (.aS d)=(.aS d))/\
  (∀t al,b9 t (.agg al)=(.agg al))/\
  (∀t al,b9 t (.tuple al)=(.tuple al))/\
  (∀t y q,b9 t (.h y q)=if y=t then .hole else .h y q)/\
  (∀t y q,b9 t (.ag y q)=if y=t then .hole else .ag y q)/\
  (∀t f c,b9 t (.fn f c)= .fn f (hq t c))/\
  (∀t,hq t []=[])/\
  (∀t d ds,hq t (d::ds)=b9 t d::hq t ds)/\
  (∀t,nr t []=[])/\
  (∀t u d l,nr t ((u,d)::l)=(u,b9 t d)::nr t l)/\
  (∀t l,ji t (ao l)=ao (nr t l)):=
 ⟨λ_ _ _=>by unfold b9;rfl,λ_ _=>by unfold b9;rfl,λ_ _=>by unfold b9;rfl,λ_ _=>by unfold b9;rfl,λ_ _=>by unfold b9;rfl,λ_=>by unfold b9;rfl,λ_=>by unfold b9;rfl,λ_=>by unfold b9;rfl,λ_=>by unfold b9;rfl,λ_ _ _=>by unfold b9;rfl,λ_ _=>by unfold b9;rfl,λ_ _=>by unfold b9;rfl,λ_ _=>by unfold b9;rfl,λ_ _ _=>by unfold b9;rfl,λ_ _ _=>by unfold b9;rfl,λ_ _ _=>by simp only[b9],λ_=>by simp only[hq],λ_ _ _=>by simp only[hq],λ_=>rfl,λ_ _ _ _=>rfl,λt l=>wq t l⟩
theorem EY:
  (∀t k n,bQ t (.int k n)=(.int k n))/\
  (∀t b,bQ t (.bool b)=(.bool b))/\
  (∀t x,bQ t (.str x)=(.str x))/\
  (∀t xs,bQ t (.slice xs)=(.slice xs))/\
  (∀t d,bQ t (.ref d)=(.ref d))/\
  (∀t,bQ t .cW= .cW)/\
  (∀t,bQ t .aK= .aK)/\
  (∀t,bQ t .dV= .dV)/\
  (∀t,bQ t .hole= .hole)/\
  (∀t sz xs,bQ t (.aq sz xs)=(.aq sz xs))/\
  (∀t d,bQ t (.aS d)=(.aS d))/\
  (∀t al,bQ t (.agg al)=(.agg al))/\
  (∀t al,bQ t (.tuple al)=(.tuple al))/\
  (∀t y,bQ t (.h y [])= .h y [])/\
  (∀t y k q,bQ t (.h y (k::q))=if y=t then .hole else .h y (k::q))/\
  (∀t y q,bQ t (.ag y q)=if y=t then .hole else .ag y q)/\
  (∀t f c,bQ t (.fn f c)= .fn f (g7 t c))/\
  (∀t,g7 t []=[])/\
  (∀t d ds,g7 t (d::ds)=bQ t d::g7 t ds)/\
  (∀t,qB t []=[])/\
  (∀t u d l,qB t ((u,d)::l)=(u,bQ t d)::qB t l)/\
  (∀t l,gz t (ao l)=ao (qB t l)):=
 ⟨λ_ _ _=>by unfold bQ;rfl,λ_ _=>by unfold bQ;rfl,λ_ _=>by unfold bQ;rfl,λ_ _=>by unfold bQ;rfl,λ_ _=>by unfold bQ;rfl,λ_=>by unfold bQ;rfl,λ_=>by unfold bQ;rfl,λ_=>by unfold bQ;rfl,λ_=>by unfold bQ;rfl,λ_ _ _=>by unfold bQ;rfl,λ_ _=>by unfold bQ;rfl,λ_ _=>by unfold bQ;rfl,λ_ _=>by unfold bQ;rfl,λ_ _=>by simp[bQ],λ_ _ _ _=>by simp[bQ],λ_ _ _=>by unfold bQ;rfl,λ_ _ _=>by simp only[bQ],λ_=>by simp only[g7],λ_ _ _=>by simp only[g7],λ_=>rfl,λ_ _ _ _=>rfl,λt l=>LZ t l⟩
def zU:kr->Bool->Option j
 | .bool,b=>some (.bool b)
 |_,_=>none
def pg (neg:Bool):kr->Option Vn->Option j
 | .slice _,some r=>some (mo neg r)
 |_,_=>none
def qJ (neg:Bool):kr->Vn->Option j
 | .ptr _,some b=>some (.bool (b !=neg))
 |_,_=>none
theorem EZ (C:bI) (s:af) (T:TypeId):
  (∀op k a cN b,eb C s op T (.int k a) (.int cN b)=hf op k a cN b)/\
  (∀op a b,eb C s op T (.str a) (.str b)=kW op a b)/\
  (∀a b,eb C s .eql T (.bool a) (.bool b)=zU (C.T T).k (a==b))/\
  (∀a b,eb C s .neq T (.bool a) (.bool b)=zU (C.T T).k (!(a==b)))/\
  (∀xs,eb C s .eql T (.slice xs) .aK=pg false (C.T T).k (h0 s (.slice xs)))/\
  (∀xs,eb C s .neq T (.slice xs) .aK=pg true (C.T T).k (h0 s (.slice xs)))/\
  (eb C s .eql T .aK .aK=pg false (C.T T).k (h0 s .aK))/\
  (eb C s .neq T .aK .aK=pg true (C.T T).k (h0 s .aK))/\
  (∀x q,eb C s .eql T (.h x q) .aK=pg false (C.T T).k (h0 s (.h x q)))/\
  (∀x q,eb C s .neq T (.h x q) .aK=pg true (C.T T).k (h0 s (.h x q)))/\
  (∀x q,eb C s .eql T (.h x q) .cW=qJ false (C.T T).k (jl s (.h x q)))/\
  (∀x q,eb C s .neq T (.h x q) .cW=qJ true (C.T T).k (jl s (.h x q)))/\
  (∀d,eb C s .eql T (.ref d) .cW=qJ false (C.T T).k (jl s (.ref d)))/\
  (∀d,eb C s .neq T (.ref d) .cW=qJ true (C.T T).k (jl s (.ref d)))/\
  (eb C s .eql T .cW .cW=qJ false (C.T T).k (jl s .cW))/\
  (eb C s .neq T .cW .cW=qJ true (C.T T).k (jl s .cW)):=by
 refine⟨?_,?_,?_,?_,?_,?_,?_,?_,?_,?_,?_,?_,?_,?_,?_,?_⟩<;>intros<;>first
  |rfl
  |(simp only[eb]
    generalize (C.T T).k=ib;cases ib<;>first|rfl|(simp only[pg];generalize h0 s _=v;cases v<;>rfl)|(simp only[qJ];generalize jl s _=v;cases v<;>(try (rename_i b;cases b))<;>rfl))
theorem E0 (k:IntKind) (a b:Int):
  hf .add k a k b=some (.int k (k.wrap (a+b)))/\hf .sub k a k b=some (.int k (k.wrap (a-b)))/\hf .mul k a k b=some (.int k (k.wrap (a*b)))/\
  hf .eql k a k b=some (.bool (a==b))/\hf .neq k a k b=some (.bool (a !=b))/\hf .lss k a k b=some (.bool (decide (a<b)))/\hf .leq k a k b=some (.bool (decide (a<=b)))/\
  hf .gtr k a k b=some (.bool (decide (b<a)))/\hf .geq k a k b=some (.bool (decide (b<=a)))/\
  hf .and k a k b=some (.int k (bitsOf .and k a b))/\hf .or k a k b=some (.int k (bitsOf .or k a b))/\hf .xor k a k b=some (.int k (bitsOf .xor k a b))/\hf .andNot k a k b=some (.int k (bitsOf .andNot k a b)):=by
 simp[hf]
theorem MB {k:IntKind} {a b:Int} (h:b≠0):hf .quo k a k b=some (.int k (k.wrap (a.tdiv b))):=by simp[hf,h]
theorem MC {k:IntKind} {a b:Int} (h:b≠0):hf .rem k a k b=some (.int k (a.tmod b)):=by simp[hf,h]
theorem E1 (a b:Vj):
  kW .eql a b=some (.bool (a==b))/\kW .neq a b=some (.bool !(a==b))/\kW .lss a b=some (.bool (Op.bytesLess a b))/\
  kW .leq a b=some (.bool (Op.bytesLess a b||a==b))/\kW .gtr a b=some (.bool !(Op.bytesLess a b||a==b))/\kW .geq a b=some (.bool !(Op.bytesLess a b)):=by
 refine⟨rfl,rfl,rfl,rfl,rfl,rfl⟩
theorem E2:(∀b,un .not (.bool b)=some (.bool !b))/\(un .not .dV=some .dV)/\(∀k n,un .neg (.int k n)=some (.int k (k.wrap (0-n)))):=⟨λ_=>rfl,rfl,λ_ _=>rfl⟩
def zV:kr->Option UInt8->Option j
 | .str,some c=>some (.int .u8 c.toNat)
 |_,_=>none
theorem E3 (C:bI) (T:TypeId) (l:Vj) (k:IntKind) (n:Int):idx C T (.str l) (.int k n)=zV (C.T T).k (ca l n):=by
 simp only[idx,ca];generalize (C.T T).k=ib;cases ib<;>first|rfl|(simp only[zV];split<;>first|rfl|(cases l[n.toNat]? <;>rfl))
def zW (C:bI):kr->Option j->Option j
 | .slice e,some d=>if(C.T e).ok=true/\d.wd=(C.T e).sz then some (.ref d)else none
 |_,_=>none
theorem E4 (C:bI) (s:af) (T:TypeId) (xs:Vr) (k:IntKind) (n:Int):hJ C s T (.slice xs) (.int k n)=zW C (C.T T).k (ca xs n):=by
 simp only[hJ,ca];generalize (C.T T).k=ib;cases ib<;>first|rfl|skip
 simp only[zW];by_cases bt:0<=n
 .simp only[bt,true_and,if_true];split
  .cases xs[n.toNat]? <;>simp[*]
  .cases xs[n.toNat]? <;>simp[*]
 .simp only[bt,false_and,if_false]
def uc (C:bI) (y:Nat) (q:Vm) (n:Int):kr->Option j->Option j
 | .slice e,some (.aq sz xs)=>if(ca xs n).isSome=true/\(C.T e).ok=true/\sz=(C.T e).sz then some (.ag y (q++[n.toNat]))else none
 |_,_=>none
theorem E5 (C:bI) (s:af) (T:TypeId) (y:Nat) (q:Vm) (k:IntKind) (n:Int):hJ C s T (.h y q) (.int k n)=uc C y q n (C.T T).k (j.sub q (s y)):=by
 simp only[hJ];generalize (C.T T).k=ib;cases ib<;>first|rfl|skip
 rename_i e;cases R:j.sub q (s y)with
 |none=>simp[uc]
 |some d=>
  cases d<;>first
   |(simp[uc];done)
   |skip
  rename_i sz xs;have bm:(ca xs n).isSome=true↔0<=n/\n.toNat<xs.length:=by
   unfold ca;split<;>simp_all<;>omega
  simp only[uc,bm];by_cases bt:0<=n<;>by_cases U:(C.T e).ok=true<;>simp[bt,U]
def r6:kr->af->Option Vj->Option (j×af)
 | .str,s,some t=>some (.str t,s)
 |_,_,_=>none
def r7 (C:bI):kr->af->Vr->Option Vr->Option (j×af)
 | .slice e,s,xs,some t=>if(C.T e).ok=true/\∀d∈xs,d.wd=(C.T e).sz then some (.slice t,s)else none
 |_,_,_,_=>none
theorem E6 (C:bI) (s:af) (T:TypeId) (l:Vj):
  (∀k a cN b,eY C s T (.str l) (some (.int k a)) (some (.int cN b))=r6 (C.T T).k s (i0 l a b))/\
  (∀cN b,eY C s T (.str l) none (some (.int cN b))=r6 (C.T T).k s (i0 l 0 b))/\
  (∀k a,eY C s T (.str l) (some (.int k a)) none=r6 (C.T T).k s (i0 l a l.length)):=by
 have e:∀(dE ay:Option j) (a b:Int),(gx 0 dE=if 0<=a then some a.toNat else none)->(gx l.length ay=if 0<=b then some b.toNat else none)->eY C s T (.str l) dE ay=r6 (C.T T).k s (i0 l a b):=by
  intro dE ay a b U aa;simp only[eY];generalize (C.T T).k=ib;cases ib<;>first|rfl|skip
  simp only[U,aa,i0];by_cases b4:0<=a<;>by_cases J:0<=b<;>simp only[b4,J,if_true,if_false,r6,true_and,false_and]
  .by_cases ai:a<=b/\b<=l.length
   .rw[if_pos ⟨by omega,by omega⟩,if_pos ai]
   .rw[if_neg (λh=>ai ⟨by omega,by omega⟩),if_neg ai]
  .rw[if_neg (by omega)]
 exact⟨λk a cN b=>e _ _ a b rfl rfl,λcN b=>e _ _ 0 b rfl rfl,λk a=>e _ _ a l.length rfl (by simp[gx])⟩
theorem E7 (C:bI) (s:af) (T:TypeId) (xs:Vr):
  (∀k a cN b,eY C s T (.slice xs) (some (.int k a)) (some (.int cN b))=r7 C (C.T T).k s xs (i0 xs a b))/\
  (∀cN b,eY C s T (.slice xs) none (some (.int cN b))=r7 C (C.T T).k s xs (i0 xs 0 b))/\
  (∀k a,eY C s T (.slice xs) (some (.int k a)) none=r7 C (C.T T).k s xs (i0 xs a xs.length)):=by
 have e:∀(dE ay:Option j) (a b:Int),(gx 0 dE=if 0<=a then some a.toNat else none)->(gx xs.length ay=if 0<=b then some b.toNat else none)->eY C s T (.slice xs) dE ay=r7 C (C.T T).k s xs (i0 xs a b):=by
  intro dE ay a b U aa;simp only[eY];generalize (C.T T).k=ib;cases ib<;>first|rfl|skip
  simp only[U,aa,i0];by_cases b4:0<=a<;>by_cases J:0<=b<;>simp only[b4,J,if_true,if_false,r7,true_and,false_and]
  .by_cases ai:a<=b/\b<=xs.length
   .rw[if_pos ai];have U:a.toNat<=b.toNat:=by omega
    have aa:b.toNat<=xs.length:=by omega
    simp only[U,aa,true_and]
   .rw[if_neg (λh=>ai ⟨by omega,by omega⟩),if_neg ai]
  .rw[if_neg (by omega)]
 exact⟨λk a cN b=>e _ _ a b rfl rfl,λcN b=>e _ _ 0 b rfl rfl,λk a=>e _ _ a xs.length rfl (by simp[gx])⟩
def ud (q:Vm):Option j->Option j
 |some d=>j.sub q d
 |none=>none
theorem E8:(∀d,j.sub [] d=some d)/\(∀k q al,j.sub (k::q) (.agg al)=ud q al[k]?)/\(∀k q al,j.sub (k::q) (.tuple al)=ud q al[k]?)/\(∀k q sz xs,j.sub (k::q) (.aq sz xs)=ud q xs[k]?)/\
  (∀q d,j.sub (0::q) (.aS d)=j.sub q d)/\(∀q d,ud q (some d)=j.sub q d)/\
  (∀k q a b,j.sub (k::q) (.int a b)=none):=by
 refine⟨λd=>by simp[j.sub],?_,?_,?_,λq d=>by simp[j.sub],λ_ _=>rfl,λ_ _ _ _=>by simp[j.sub]⟩
 .intro k q al;simp only[j.sub];cases al[k]? <;>rfl
 .intro k q al;simp only[j.sub];cases al[k]? <;>rfl
 .intro k q sz al;simp only[j.sub];cases al[k]? <;>rfl
def E9 (k:Nat) (q:Vm) (n:j) (al:Vr):Option j->j
 |some d=>.agg (al.set k (j.put q n d))
 |none=>.agg al
def ph (k:Nat) (q:Vm) (n:j) (al:Vr):Option j->j
 |some d=>.tuple (al.set k (j.put q n d))
 |none=>.tuple al
def E_ (k:Nat) (q:Vm) (n:j) (sz:Nat) (xs:Vr):Option j->j
 |some d=>.aq sz (xs.set k (j.put q n d))
 |none=>.aq sz xs
theorem Fa:(∀n d,j.put [] n d=n)/\(∀k q n al,j.put (k::q) n (.agg al)=E9 k q n al al[k]?)/\(∀k q n al,j.put (k::q) n (.tuple al)=ph k q n al al[k]?)/\
  (∀k q n sz xs,j.put (k::q) n (.aq sz xs)=E_ k q n sz xs xs[k]?)/\(∀q n d,j.put (0::q) n (.aS d)= .aS (j.put q n d))/\
  (∀k q n al d,E9 k q n al (some d)= .agg (al.set k (j.put q n d)))/\(∀k q n al d,ph k q n al (some d)= .tuple (al.set k (j.put q n d)))/\
  (∀k q n sz xs d,E_ k q n sz xs (some d)= .aq sz (xs.set k (j.put q n d))):=by
 refine⟨λn d=>by simp[j.put],?_,?_,?_,λq n d=>by simp[j.put],λ_ _ _ _ _=>rfl,λ_ _ _ _ _=>rfl,λ_ _ _ _ _ _=>rfl⟩
 .intro k q n al;simp only[j.put];cases al[k]? <;>rfl
 .intro k q n al;simp only[j.put];cases al[k]? <;>rfl
 .intro k q n sz al;simp only[j.put];cases al[k]? <;>rfl
theorem zX:(∀k n,j.wd (.int k n)=1)/\(∀b,j.wd (.bool b)=1)/\(∀x,j.wd (.str x)=1)/\(∀x,j.wd (.slice x)=1)/\(∀n x,j.wd (.aq n x)=1)/\(∀x,j.wd (.ref x)=1)/\(∀x,j.wd (.aS x)=1)/\
  j.wd .aK=1/\j.wd .cW=1/\j.wd .hole=1/\j.wd .dV=1/\(∀x y,j.wd (.h x y)=1)/\(∀x y,j.wd (.ag x y)=1)/\(∀x y,j.wd (.fn x y)=1)/\(∀al,j.wd (.agg al)=j.c0 al)/\(∀al,j.wd (.tuple al)=j.c0 al)/\j.c0 []=0/\(∀d ds,j.c0 (d::ds)=d.wd+j.c0 ds):=by
 simp[j.wd,j.c0]
theorem MD {α:Type} {e:α->j} {n:Nat} (h:∀x,(e x).wd=n) (xs:List α):(∀d∈xs.map e,d.wd=n)=True:=by
 simp only[List.mem_map,eq_iff_iff,iff_true];rintro d ⟨x,_,rfl⟩;exact h x
theorem ME (C:bI) (s:af) (A B:TypeId) (k cN:IntKind) (n:Int) (hh:(C.T A).ok=true) (fz:(C.T B).k= .int cN):hg C s A B (.int k n)=some (.int cN (cN.wrap n)):=by
 simp only[hg,hh,fz,if_true]
theorem Fb (m:Int):i2 (nL m)= .int .u8 (u8.wrap m):=by
 have h:0<=u8.wrap m/\u8.wrap m<256:=by rw[wrap_u8];omega
 simp only[i2,nL,UInt8.toNat_ofNat'];congr 1;omega
theorem zY (m:Int):((nL m).toNat:Int)=u8.wrap m:=by
 have h:=Fb m;simpa [i2]using h
section
variable {C:bI} {l:Vq} {Q:Exit->af->Prop} {s:af}
theorem ja {ros:List bE} {k:Vm} (h:cl C (ao l) ros none (λ_ s=>Q .normal (ao (e1 k s)))):bh C (.eT ros (some k)) Q (ao l):=qE (λ_ _ h=>h) h
theorem MF {ros:List bE} {dR:Vk} {k:Vm} (hlen:dR.length=ros.length) (h:cl C (ao l) ros (some []) (λacc s=>i9 (nt dR) 0 [] (acc.getD []).reverse=true/\Q .normal (ao (e1 k s)))):
  bh C (.im ros dR (some k)) Q (ao l):=zR hlen h
theorem MG {a b:aM} (h:∀dj:Exit->af->Prop,(∀s,dr (bh C b Q) s->dj .normal s)->(∀s,Q .ret s->dj .ret s)->(∀i s,Q (.exit i) s->dj (.exit i) s)->bh C a dj s):bh C (.seq a b) Q s:=
 h _ (λ_ h=>h) (λ_ h=>h) (λ_ _ h=>h)
theorem dJ {ros:List bE} {k:Vm} {b:aM} (h:cl C (ao l) ros none (λ_ s=>bh C b Q (ao (e1 k s)))):bh C (.seq (.eT ros (some k)) b) Q (ao l):=qE (λ_ _ h=>.inl h) h
theorem ue {ros:List bE} {dR:Vk} {k:Vm} {b:aM} (hlen:dR.length=ros.length) (h:cl C (ao l) ros (some []) (λacc s=>i9 (nt dR) 0 [] (acc.getD []).reverse=true/\bh C b Q (ao (e1 k s)))):
  bh C (.seq (.im ros dR (some k)) b) Q (ao l):=zR (K:=λs=>dr (bh C b Q) (ao (e1 k s))) hlen (by
   have key:∀(os:List bE) (s:af) (acc:Option (List eo)),cl C s os acc (λacc s=>i9 (nt dR) 0 [] (acc.getD []).reverse=true/\bh C b Q (ao (e1 k s)))->
     cl C s os acc (λacc s=>i9 (nt dR) 0 [] (acc.getD []).reverse=true/\dr (bh C b Q) (ao (e1 k s))):=by
    intro os;induction os with
    |nil=>intro s acc h;exact⟨h.1,.inl h.2⟩
    |cons o os ih=>
     intro s acc h;have mono:∀{s:af} {bb:cZ} {K cz:Vm->j->af->Prop},(∀a b c,K a b c->cz a b c)->k2 C s bb K->k2 C s bb cz:=by
      intro s bb K cz ak h;cases bb with
      |call f args=>
       obtain⟨g,caps,ps,r,U,fv,aa,ax,aP,a9,bU,bO,dv⟩:=h;exact⟨g,caps,ps,r,U,fv,aa,ax,aP,a9,bU,bO,ak _ _ _ dv⟩
      |shr bb=>obtain⟨av,s1,U,aa,ax,aP⟩:=h;exact⟨av,s1,U,aa,ax,ak _ _ _ aP⟩
      |jm f args us=>
       obtain⟨b6,g,caps,ps,r,U,fv,aa,ax,aP,a9,bU,bO,dv,hG⟩:=h;exact⟨b6,g,caps,ps,r,U,fv,aa,ax,aP,a9,bU,bO,dv,ak _ _ _ hG⟩
      |_=>obtain⟨av,s1,U,aa⟩:=h;exact⟨av,s1,U,ak _ _ _ aa⟩
     simp only[cl,j_]at h⊢;split
     .rename_i bm;rw[bm]at h;exact mono (λ_ _ _=>ih _ _) h
     .rename_i t eE bm;rw[bm]at h;simp only at h;split
      .rename_i Uo R;rw[R]at h;simp only at h;split
       .rename_i J;rw[if_pos J]at h;exact mono (λ_ _ _=>ih _ _) h
       .rename_i J;rw[if_neg J]at h;exact ih _ _ h
      .rename_i R;rw[R]at h;exact ih _ _ h
      .rename_i U aa;split at h
       .exact U _ (by assumption)
       .exact aa (by assumption)
       .exact h
   exact key _ _ _ h)
theorem js {c:aT} {a b:aM} (ai:a6 s c= .bool true) (h:bh C a Q s):bh C (.cond c a b) Q s:=by simp only[bh,ai,if_true];exact h
theorem qK {c:aT} {a b:aM} (ai:a6 s c= .bool false) (h:bh C b Q s):bh C (.cond c a b) Q s:=by simp only[bh,ai];exact h
theorem Fe {c:aT} {a b:aM} (ai:a6 s c= .dV) (U:bh C a Q s) (aa:bh C b Q s):bh C (.cond c a b) Q s:=by simp only[bh,ai];exact⟨U,aa⟩
theorem MH {id:Nat} {b:aM} (h:∀dj:Exit->af->Prop,(∀s,Q .normal s->dj .normal s)->(∀s,Q .ret s->dj .ret s)->(∀s,Q .normal s->dj (.exit id) s)->(∀i s,i≠id->Q (.exit i) s->dj (.exit i) s)->bh C b dj s):bh C (.block id b) Q s:=
 h (r0 id Q) (λ_ h=>h) (λ_ h=>h) (λs h=>by simp only[r0,if_true];exact h) (λi s ay h=>by simp only[r0,if_neg ay];exact h)
theorem ep {id:Nat} (h:Q (.exit id) s):bh C (.exit id) Q s:=h
theorem jH (h:Q .ret s):bh C .ret Q s:=h
theorem bp (h:Q .normal s):bh C .skip Q s:=h
def dK (C:bI) (b:aM) (Q:Exit->af->Prop) (s:af):Prop:=∀Z:af->Prop,(∀au,bh C b (andThen (dr Z) Q) au->Z au)->Z s
theorem qL {b:aM} (h:dr (dK C b Q) s):bh C (.loop b) Q s:=h
theorem MI {b:aM} (h:∀dj:Exit->af->Prop,(∀s,dr (dK C b Q) s->dj .normal s)->(∀s,Q .ret s->dj .ret s)->(∀i s,Q (.exit i) s->dj (.exit i) s)->bh C b dj s):dK C b Q s:=by
 intro Z r1;refine r1 s (En b ?_ (h (andThen (dr (dK C b Q)) Q) (λ_ h=>h) (λ_ h=>h) (λ_ _ h=>h)));intro e au bl;cases e with
 |normal=>exact qy (λs h=>h Z r1) au bl
 |_=>exact bl
theorem dd {b0:Vq} (h:b0.map (·.2)=b0.map λp=>s p.1):qx s b0:=by
 intro p ag;left;induction b0 with
 |nil=>cases ag
 |cons a b0 ih=>
  simp only[List.map_cons,List.cons.injEq]at h;rcases List.mem_cons.1 ag with rfl|ag
  .exact h.1
  .exact ih h.2 ag
end
section
variable {C:bI} {l:Vq} {Q:Exit->af->Prop} {s:af} {os ros:List bE} {K:Option (List eo)->af->Prop} {dst:Option Nat}
theorem Ff (l:Vq):(∀n,a6 (ao l) (.t n)=mh n (ao l n))/\(∀av,a6 (ao l) (.c av)=av)/\(∀g,a6 (ao l) (.f g)= .fn g []):=⟨λ_=>rfl,λ_=>rfl,λ_=>rfl⟩
theorem Fg:(∀t,ao [] t= .hole)/\(∀u d (l:Vq) t,ao ((u,d)::l) t=if t=u then d else ao l t):=⟨λ_=>rfl,λ_ _ _ _=>rfl⟩
theorem Fh (s:af):e1 [] s=[]/\(∀t k,e1 (t::k) s=(t,s t)::e1 k s):=⟨rfl,λ_ _=>rfl⟩
theorem Fi (s:af):(∀d,i_ s (some d)=some (d,s))/\(∀s1,dc (some s1)=some (.hole,s1))/\hB s []=[]/\(∀x xs,hB s (x::xs)=a6 s x::hB s xs)/\pf s []=[]/\(∀k x xs,pf s ((k,x)::xs)=(k,a6 s x)::pf s xs)/\
  ub s none=none/\(∀x,ub s (some x)=some (a6 s x))/\(∀b x y,EO s (.bool b) x y=some (if b=true then x else y,s)):=
 ⟨λ_=>rfl,λ_=>rfl,rfl,λ_ _=>rfl,rfl,λ_ _ _=>rfl,rfl,λ_=>rfl,λb _ _=>by cases b<;>rfl⟩
theorem Fj (C:bI):(∀e d,zW C (.slice e) (some d)=if(C.T e).ok=true/\d.wd=(C.T e).sz then some (.ref d)else none)/\
  (∀y q n e sz xs,uc C y q n (.slice e) (some (.aq sz xs))=if(ca xs n).isSome=true/\(C.T e).ok=true/\sz=(C.T e).sz then some (.ag y (q++[n.toNat]))else none)/\
  (∀e s xs t,r7 C (.slice e) s xs (some t)=if(C.T e).ok=true/\∀d∈xs,d.wd=(C.T e).sz then some (.slice t,s)else none):=
 ⟨λ_ _=>rfl,λ_ _ _ _ _ _=>rfl,λ_ _ _ _=>rfl⟩
theorem Fk:(∀b,zU .bool b=some (.bool b))/\(∀c,zV .str (some c)=some (.int .u8 c.toNat))/\(∀s t,r6 .str s (some t)=some (.str t,s))/\(∀q d,ud q (some d)=j.sub q d):=
 ⟨λ_=>rfl,λ_=>rfl,λ_ _=>rfl,λ_ _=>rfl⟩
theorem Fl (sz bytes:Nat) (z:j):(∀k,e4.ok ⟨.int k,sz,bytes,z⟩=true)/\e4.ok ⟨.bool,sz,bytes,z⟩=true/\e4.ok ⟨.str,sz,bytes,z⟩=true/\(∀e,e4.ok ⟨.ptr e,sz,bytes,z⟩=true)/\(∀e,e4.ok ⟨.slice e,sz,bytes,z⟩=true)/\(∀e,e4.ok ⟨.struct e,sz,bytes,z⟩=true)/\e4.ok ⟨.fn,sz,bytes,z⟩=true:=by
 simp[e4.ok]
theorem Fm (sz bytes:Nat) (z:j):(∀k,e4.flat ⟨.int k,sz,bytes,z⟩=true)/\e4.flat ⟨.bool,sz,bytes,z⟩=true/\e4.flat ⟨.str,sz,bytes,z⟩=true/\(∀e,e4.flat ⟨.ptr e,sz,bytes,z⟩=true)/\(∀e,e4.flat ⟨.slice e,sz,bytes,z⟩=true)/\(∀e,e4.flat ⟨.struct e,sz,bytes,z⟩=false)/\e4.flat ⟨.fn,sz,bytes,z⟩=true:=by
 simp[e4.flat]
theorem uf (c:UInt8) (k:IntKind) (ak:k≠.i8):k.wrap (c.toNat:Int)=(c.toNat:Int):=by
 have:=c.toNat_lt;cases k<;>first|(exact(ak rfl).elim)|(simp[wrap,IntKind.bits,signed];try omega)
theorem zZ (c:UInt8):i64.wrap (c.toNat:Int)=(c.toNat:Int)/\u64.wrap (c.toNat:Int)=(c.toNat:Int)/\u8.wrap (c.toNat:Int)=(c.toNat:Int)/\i32.wrap (c.toNat:Int)=(c.toNat:Int)/\u32.wrap (c.toNat:Int)=(c.toNat:Int):=
 ⟨uf c _ (by simp),uf c _ (by simp),uf c _ (by simp),uf c _ (by simp),uf c _ (by simp)⟩
theorem cS {k:Vm} {K:af->Prop} (b0:Vq) (h:∀P:Vq->Prop,P b0->cl C (ao l) ros none (λ_ s=>P (e1 k s))) (ak:K (ao b0)):cl C (ao l) ros none (λ_ s=>K (ao (e1 k s))):=
 h (λl=>K (ao l)) ak
theorem pj {k:Vm} {kF:Vk} {K:af->Prop} (b0:Vq) (h:∀P:Vq->Prop,P b0->cl C (ao l) ros (some []) (λacc s=>i9 kF 0 [] (acc.getD []).reverse=true/\P (e1 k s))) (ak:K (ao b0)):
  cl C (ao l) ros (some []) (λacc s=>i9 kF 0 [] (acc.getD []).reverse=true/\K (ao (e1 k s))):=
 h (λl=>K (ao l)) ak
theorem bq.MJ (a4:C.dx) {f:FuncId} {fn:Func} {c:Code} {dP:aM} {fx:Vm} {as outs:Vr} {r:j} (bd:C.P.funcs[f]? =some fn) (J:fn.body=some c)
  (iM:(fn.name== "runtime.NumGoroutine")=false) (R:e_ ⟨fn.ntmps,fx⟩ c=some dP.strip) (a2:as.length<=fn.ntmps)
  (h:∀Q:Exit->af->Prop,(∀s,dr (Ends C fx fn.results.toList r outs) s->Q .ret s)->(∀s,dr (Ends C fx fn.results.toList r outs) s->Q .normal s)->bh C dP Q (ao (num 0 as))) (ag:dP.plain=true:=by kernel_rfl):bq C f as r outs:=by
 refine bq.of_wp a4 bd J iM R a2 ?_ ag;rw[wo];exact h _ (λs h=>⟨.inr rfl,h⟩) (λs h=>⟨.inl rfl,h⟩)
def wA:Vr->j
 |[d]=>d
 |ds=>.tuple ds
theorem lY {fx:Vm} {dA:List ResultVar} {r:j} {outs:Vr} (ds:Vr) (U:dA.map (mG C s)=ds.map some) (aa:r=wA ds) (ax:(dA.map hA).Nodup)
  (aP:∀(i:Nat) (o:j),outs[i]? =some o->o= .hole\/(o=s i/\o.eZ=true/\i∈fx/\i∉dA.map hA)):Ends C fx dA r outs s:=.inl ⟨ds,U,by subst aa;cases ds with|nil=>rfl|cons a t=>cases t<;>rfl,ax,aP⟩
theorem MK {fx:Vm} {dA:List ResultVar}:∀(i:Nat) (o:j),([]:Vr)[i]? =some o->o= .hole\/(o=s i/\o.eZ=true/\i∈fx/\i∉dA.map hA):=λi o h=>by simp at h
theorem Fo:∀(as ds:Vr),(j9 as ds).filter (·.g)=[]
 |[],_=>rfl
 |_::_,[]=>rfl
 |a::as,d::ds=>by simp only[j9,List.filter_cons];exact Fo as ds
theorem wB {f:aT} {args:List aT} {g:FuncId} {caps:Vr} {K:Vm->j->af->Prop} (ds:Vr) (r:j)
  (U:a6 (ao l) f= .fn g caps) (fv:j.db caps=true) (hM:views (ao l) (hB (ao l) args++caps)=some ds)
  (a9:bq C g ds r []) (bU:r.res=true) (bO:j.dh (hB (ao l) args++caps)=[]\/r.ch=true) (hK:K [] r (ao l)):k2 C (ao l) (.call f args) K:=by
 obtain⟨aI,aR,aX,bT,cb,bH,bx⟩:=L0 _ _ hM;refine⟨g,caps,j9 (hB (ao l) args++caps) ds,r,U,fv,by rw[aI,qI],λp ag=>(aX p ag).1,bT,by rw[aR];exact a9.outs cb.symm,bU,?_,by rw[bH,bx,Fo];exact hK⟩;intro hl;refine⟨?_,λp ag=>by rw[(aX p ag).2.2.1];rfl⟩;rcases bO with bO|bO
 .exfalso;simp only[gG,List.any_eq_true]at hl;obtain⟨p,ag,eP⟩:=hl;have hm:=(aX p ag).2.2.2;have:p.a.R=[]:=by
   have key:∀(as:Vr) (a:j),a∈as->j.dh as=[]->a.R=[]:=by
    intro as;induction as with
    |nil=>intro a h;cases h
    |cons b as ih=>
     intro a h he;simp only[j.dh,List.append_eq_nil_iff]at he;rcases List.mem_cons.1 h with rfl|h
     .exact he.1
     .exact ih a h he.2
   exact key _ _ hm bO
  rw[this]at eP;simp at eP
 .exact bO
theorem er {f:aT} {args:List aT} {g:FuncId} {caps:Vr} {ds:Vr} {r:j} (a9:bq C g ds r [])
  (U:a6 (ao l) f= .fn g caps:=by rfl) (fv:j.db caps=true:=by rfl) (hM:views (ao l) (hB (ao l) args++caps)=some ds:=by rfl)
  (bU:r.res=true:=by rfl) (bO:j.dh (hB (ao l) args++caps)=[]\/r.ch=true:=by exact .inl (by rfl))
  (hK:cl C (fin (ao l) dst r) os none K):cl C (ao l) (⟨dst,.call f args,none⟩::os) none K:=by
 simp only[cl,j_,ns];exact wB ds r U fv hM a9 bU bO hK
theorem k3 {a:List eo} {f:aT} {args:List aT} {g:FuncId} {caps:Vr} {ds:Vr} {r:j} (a9:bq C g ds r [])
  (U:a6 (ao l) f= .fn g caps:=by rfl) (fv:j.db caps=true:=by rfl) (hM:views (ao l) (hB (ao l) args++caps)=some ds:=by rfl)
  (bU:r.res=true:=by rfl) (bO:j.dh (hB (ao l) args++caps)=[]\/r.ch=true:=by exact .inl (by rfl))
  (hK:cl C (fin (ao l) dst r) os (some (hj (ao l) (use (ao l) (.call f args)) dst [] r::a)) K):cl C (ao l) (⟨dst,.call f args,none⟩::os) (some a) K:=by
 simp only[cl,j_,ns];exact wB ds r U fv hM a9 bU bO hK
theorem kG {t:Nat} {b:Bool} {f:aT} {args:List aT} {g:FuncId} {caps:Vr} {ds:Vr} {r:j} (a9:bq C g ds r [])
  (U:a6 (ao l) f= .fn g caps:=by rfl) (fv:j.db caps=true:=by rfl) (hM:views (ao l) (hB (ao l) args++caps)=some ds:=by rfl)
  (bU:r.res=true:=by rfl) (bO:j.dh (hB (ao l) args++caps)=[]\/r.ch=true:=by exact .inl (by rfl))
  (hK:cl C (fin (ao l) dst r) os none K):iV C l dst (.call f args) t b os none K (.bool b):=by
 simp only[iV,if_true];exact wB ds r U fv hM a9 bU bO hK
theorem z0 {a:List eo} {t:Nat} {b:Bool} {f:aT} {args:List aT} {g:FuncId} {caps:Vr} {ds:Vr} {r:j} (a9:bq C g ds r [])
  (U:a6 (ao l) f= .fn g caps:=by rfl) (fv:j.db caps=true:=by rfl) (hM:views (ao l) (hB (ao l) args++caps)=some ds:=by rfl)
  (bU:r.res=true:=by rfl) (bO:j.dh (hB (ao l) args++caps)=[]\/r.ch=true:=by exact .inl (by rfl))
  (hK:cl C (fin (ao l) dst r) os (some (hj (ao l) (t::use (ao l) (.call f args)) dst [] r::a)) K):iV C l dst (.call f args) t b os (some a) K (.bool b):=by
 simp only[iV,if_true];exact wB ds r U fv hM a9 bU bO hK
theorem jI (s:af):views s []=some []/\(∀d ds,views s (d::ds)=(match view s d,views s ds with|some a,some b=>some (a::b)|_,_=>none))/\
  (∀k n,view s (.int k n)=some (.int k n))/\(∀b,view s (.bool b)=some (.bool b))/\(∀x,view s (.str x)=some (.str x))/\(∀x,view s (.slice x)=some (.slice x))/\(∀x,view s (.ref x)=some (.ref x))/\
  view s .aK=some .aK/\view s .cW=some .cW/\(∀al,view s (.agg al)=some (.agg al))/\(∀f cap,view s (.fn f cap)=(views s cap).map (.fn f)):=by
 refine⟨rfl,λd ds=>?_,λ_ _=>rfl,λ_=>rfl,λ_=>rfl,λ_=>rfl,λ_=>rfl,rfl,rfl,λ_=>rfl,λ_ _=>by simp only[view]⟩;simp only[views];rfl
theorem c2 {α:Type} {u e:α->j} (h:∀x,(u x).share=e x) (xs:List α):j.shares (xs.map u)=xs.map e:=by
 rw[j.oS];simp[h]
theorem jJ {α:Type} {u:α->j} (h:∀x,(u x).ch=true) (xs:List α):j.gU (xs.map u)=true:=by
 induction xs with
 |nil=>rfl
 |cons x xs ih=>simp only[List.map_cons,j.gU,h,ih,Bool.and_self]
def pk (s:af) (H:Vm):Vq->Prop
 |[]=>True
 |p::l=>(p.2=s p.1\/((s p.1).tree=true/\dQ (s p.1) p.2/\p.1∉H))/\pk s H l
theorem kb {b0:Vq} (H:Vm) (kD:j.dh (b0.map (·.2))=H) (h:pk s H b0):qx s b0:=by
 have key:∀(eR:Vq),pk s H eR->∀p∈eR,p.2=s p.1\/((s p.1).tree=true/\dQ (s p.1) p.2/\p.1∉H):=by
  intro eR;induction eR with
  |nil=>intro _ p ag;cases ag
  |cons a eR ih=>
   intro h p ag;rcases List.mem_cons.1 ag with rfl|ag
   .exact h.1
   .exact ih h.2 p ag
 have R:∀(eR:Vq),∀b8∈eR,∀u∈b8.2.R,u∈j.dh (eR.map (·.2)):=by
  intro eR;induction eR with
  |nil=>intro p ag;cases ag
  |cons a eR ih=>
   intro p ag u hu;simp only[List.map_cons,j.dh,List.mem_append];rcases List.mem_cons.1 ag with rfl|ag
   .exact .inl hu
   .exact .inr (ih p ag u hu)
 intro p ag;rcases key _ h p ag with U|⟨U,aa,ax⟩
 .exact .inl U
 .refine .inr ⟨U,aa,λb8 c_=>.inl λhm=>ax ?_⟩;rw[<-kD];exact R b0 b8 c_ _ hm
theorem kc {H:Vm}:pk s H []:=trivial
theorem fI {H:Vm} {t:Nat} {d:j} {b0:Vq} (h:d=s t) (hl:pk s H b0):pk s H ((t,d)::b0):=⟨.inl h,hl⟩
theorem kd {H:Vm} {t:Nat} {d a8:j} {b0:Vq} (e:s t=d) (aO:d.tree=true) (ad:dQ d a8) (kD:t∉H) (hl:pk s H b0):pk s H ((t,a8)::b0):=⟨.inr ⟨by rw[e];exact aO,by rw[e];exact ad,kD⟩,hl⟩
theorem Fp {a b:j} (h:dQ a b):∀n,hz (List.replicate n a) (List.replicate n b)
 |0=>.nil
 |n+1=>by simp only[List.replicate_succ];exact .cons h (Fp h n)
theorem Fq {α:Type} {sz:Nat} {u:α->j} {z:α} {a:j} (h:dQ a (u z)) (n:Nat):dQ (.aq sz (List.replicate n a)) (.aq sz ((List.replicate n z).map u)):=by
 rw[List.map_replicate];exact .aq (Fp h n)
end
theorem ML {C:bI} {A B:TypeId} {cN:IntKind} (hh:(C.T A).ok=true) (fz:(C.T B).k= .int cN):∀s k n,hg C s A B (.int k n)=some (.int cN (cN.wrap n)):=λs k n=>ME C s A B k cN n hh fz
def Fs:Option j->Option j
 |some (.aq 1 xs)=>(bytesOf xs).map .str
 |_=>none
theorem MM {C:bI} {A B e:TypeId} (hh:(C.T A).k= .slice e) (fz:(C.T B).k= .str) (he:(C.T e).k= .int .u8):
  (∀s xs,hg C s A B (.slice xs)=(bytesOf xs).map .str)/\(∀s,hg C s A B .aK=some (.str []))/\(∀s x q,hg C s A B (.h x q)=Fs (j.sub q (s x))):=by
 have tC:(C.T A).ok=true:=by simp[e4.ok,hh]
 refine⟨λs xs=>?_,λs=>?_,λs x q=>?_⟩
 .simp only[hg,tC,hh,fz,he,if_true]
 .simp only[hg,tC,hh,fz,he,if_true]
 .simp only[hg,tC,hh,fz,he,if_true];rfl
theorem MN (xs:Vr):Fs (some (.aq 1 xs))=(bytesOf xs).map .str:=rfl
theorem Ft (c:UInt8) (r:Vr):bytesOf (i2 c::r)=(bytesOf r).map (c::·):=by
 have:=c.toNat_lt;simp only[i2,bytesOf];rw[if_pos (by omega)];simp
theorem MO:bytesOf []=some []/\
  (∀l:Vj,bytesOf (l.map i2)=some l)/\
  (∀c r,bytesOf (.int .u8 (c.toNat:Int)::r)=(bytesOf r).map (c::·))/\
  (∀m r,bytesOf (.int .u8 (u8.wrap m)::r)=(bytesOf r).map (nL m::·)):=
 ⟨rfl,JC,λc r=>Ft c r,λm r=>by rw[<-Fb];exact Ft _ r⟩
theorem MP {k:IntKind} {b:Int} (h:b≠0):∀a,hf .quo k a k b=some (.int k (k.wrap (a.tdiv b))):=λ_=>MB h
theorem MQ {k:IntKind} {b:Int} (h:b≠0):∀a,hf .rem k a k b=some (.int k (a.tmod b)):=λ_=>MC h
theorem k4 {α:Type} {e:α->j} {n:Nat} (h:∀x,(e x).wd=n):∀xs:List α,(∀d∈xs.map e,d.wd=n)=True:=MD h
theorem k5 {P:j->Prop} (d:j) (ds:Vr):(∀x∈d::ds,P x)=(P d/\∀x∈ds,P x):=by simp
theorem all_nil {P:j->Prop}:(∀x∈([]:Vr),P x)=True:=by simp
def Fu (a b:Vj):Option Unit->Option j
 |some _=>some (.str (a++b))
 |none=>none
theorem Fv (a b:Vj):kW .add a b=Fu a b (m7 (a.length+b.length)):=by
 simp only[kW,m7];split<;>rfl
theorem Fw (a b:Vj) (u:Unit):Fu a b (some u)=some (.str (a++b)):=rfl
theorem Fx:(∀l:Vm,[]++l=l)/\(∀a (l m:Vm),(a::l)++m=a::(l++m)):=⟨λ_=>rfl,λ_ _ _=>rfl⟩
def Fy (C:bI) (e bR:TypeId):Bool:=(C.T e).ok&&((C.T e).zero.wd==(C.T e).sz)&&(flat (C.T e).zero).isSome&&vO C e bR
def wC (C:bI) (e:TypeId) (xs:Vr):Option (Vr×af)->Option (j×af)
 |some (ys,s2)=>if(∀d∈ys,d.wd=(C.T e).sz)/\(room (C.T e).bytes (xs.length+ys.length)).isSome=true then some (.aq (C.T e).sz (xs++ys),s2)else none
 |none=>none
def z1 (C:bI) (e:TypeId) (y:j) (o:Option Nat):Option (j×af)->Option (j×af)
 |some (.aq sz xs,s1)=>if sz=(C.T e).sz then wC C e xs (jn s1 (iS o y))else none
 |_=>none
theorem MR (b n:Nat):(room b n).isSome=true↔n*b<=140737488355328/\n<=9223372036854775807:=by unfold room;split<;>simp_all
theorem k6 {C:bI} {T bR e:TypeId} (gA:(C.T T).k= .slice e) (eh:Fy C e bR=true):∀s x y,n0 C s T bR x y=z1 C e y x.owner (nq C e s x):=by
 intro s x y;simp only[Fy,Bool.and_eq_true,beq_iff_eq]at eh;rw[y9,gA];simp only;rw[if_pos ⟨eh.1.1.1,eh.1.1.2,eh.1.2,eh.2⟩];generalize x.owner=o;cases nq C e s x with
 |none=>rfl
 |some p=>
  obtain⟨d,s1⟩:=p;cases d<;>first
   |rfl
   |(simp only[z1]
     split
     .rename_i h;subst h;generalize jn s1 (iS o y)=z;cases z with
      |none=>rfl
      |some p=>simp only[wC,MR]
     .rfl)
def Fz:Option (j×af)->Option (Vr×af)
 |some (.aq _ ys,s2)=>some (ys,s2)
 |_=>none
theorem k7 (s:af):jn s .aK=some ([],s)/\(∀ys,jn s (.slice ys)=some (ys,s))/\(∀l,jn s (.str l)=some (l.map i2,s))/\
  (∀a q,jn s (.h a q)=Fz (cc s (.h a q)))/\(∀n ys,Fz (some (.aq n ys,s))=some (ys,s)):=
 ⟨rfl,λ_=>rfl,λ_=>rfl,λ_ _=>by simp only[jn];rfl,λ_ _=>rfl⟩
theorem k8 (C:bI) (e:TypeId):(∀s,nq C e s .aK=some (.aq (C.T e).sz [],s))/\(∀s a q,nq C e s (.h a q)=cc s (.h a q))/\
  (∀y o sz xs s1,z1 C e y o (some (.aq sz xs,s1))=if sz=(C.T e).sz then wC C e xs (jn s1 (iS o y))else none)/\
  (∀xs ys s2,wC C e xs (some (ys,s2))=if(∀d∈ys,d.wd=(C.T e).sz)/\(room (C.T e).bytes (xs.length+ys.length)).isSome=true then some (.aq (C.T e).sz (xs++ys),s2)else none):=
 ⟨λ_=>rfl,λ_ _ _=>rfl,λ_ _ _ _ _=>rfl,λ_ _ _=>rfl⟩
theorem jt:(∀d,iS none d=d)/\(∀x d,iS (some x) d=bQ x d)/\(∀x q,j.owner (.h x q)=some x)/\j.owner .aK=none:=
 ⟨λ_=>rfl,λ_ _=>rfl,λ_ _=>rfl,rfl⟩
def FA (s:af) (x:Nat) (q:Vm):Option j->Option (j×af)
 |some d=>if d.plain=true then none else some (d,cA (gz x s) x (j.put q d.cj (s x)))
 |none=>none
theorem FB (s:af) (x:Nat) (q:Vm):cc s (.h x q)=FA s x q (j.sub q (s x)):=by
 simp only[cc];cases j.sub q (s x)<;>rfl
theorem FC (s:af):(∀x q d,FA s x q (some d)=if d.plain=true then none else some (d,cA (gz x s) x (j.put q d.cj (s x))))/\(∀k n,cc s (.int k n)=some (.int k n,s))/\(∀b,cc s (.bool b)=some (.bool b,s))/\(∀x,cc s (.str x)=some (.str x,s))/\
  (∀x,cc s (.slice x)=some (.slice x,s))/\(∀x,cc s (.ref x)=some (.ref x,s))/\(∀x,cc s (.agg x)=some (.agg x,s))/\cc s .aK=some (.aK,s)/\cc s .cW=some (.cW,s):=
 ⟨λ_ _ _=>rfl,λ_ _=>rfl,λ_=>rfl,λ_=>rfl,λ_=>rfl,λ_=>rfl,λ_=>rfl,rfl,rfl⟩
theorem FD (l:Vq) (t:Nat) (d:j):cA (ao l) t d=ao ((t,d)::l):=r2 l t d
theorem FE:(∀n x,j.cj (.aq n x)= .hole)/\(∀x,j.cj (.aS x)= .hole)/\(∀al,j.cj (.agg al)= .agg (j.jh al))/\(∀al,j.cj (.tuple al)= .tuple (j.jh al))/\j.jh []=[]/\(∀d ds,j.jh (d::ds)=d.cj::j.jh ds)/\
  (∀k n,j.cj (.int k n)= .int k n)/\(∀b,j.cj (.bool b)= .bool b)/\(∀x,j.cj (.str x)= .str x)/\(∀x,j.cj (.slice x)= .slice x)/\(∀x,j.cj (.ref x)= .ref x)/\j.cj .aK= .aK/\j.cj .cW= .cW/\j.cj .hole= .hole:=by
 simp[j.cj,j.jh]
def qM:Option j->Option j
 |some d=>(match d with| .tuple _=>none| .cY _=>none| .br _ _=>none|d=>if d.plain=true then none else some d.share)
 |none=>none
def qN:Option j->Option j
 |some d=>(match d with| .tuple _=>none|d=>some (.ref d.share))
 |none=>none
theorem jK (s:af) (x:Nat) (q:Vm):view s (.h x q)=qM (j.sub q (s x))/\view s (.ag x q)=(if j.eu q (s x)=true then qN (j.sub q (s x))else none):=by
 constructor
 .simp only[view];rfl
 .simp only[view];rfl
theorem jL:(∀n xs,qM (some (.aq n xs))=some (.slice (j.shares xs)))/\(∀d,qM (some (.aS d))=some (.ref d.share))/\(∀al,qM (some (.agg al))=if j.db al=true then none else some (.agg (j.shares al)))/\
  (∀al,qN (some (.agg al))=some (.ref (.agg (j.shares al))))/\(∀k n,qN (some (.int k n))=some (.ref (.int k n)))/\(∀x,qN (some (.str x))=some (.ref (.str x))):=
 ⟨λ_ _=>by simp[qM,j.plain,j.share],λ_=>by simp[qM,j.plain,j.share],λal=>by cases h:j.db al<;>simp[qM,j.plain,j.share,h],λ_=>by simp[qN,j.share],λ_ _=>by simp[qN,j.share],λ_=>by simp[qN,j.share]⟩
theorem fc:(∀n xs,j.share (.aq n xs)= .slice (j.shares xs))/\(∀d,j.share (.aS d)= .ref d.share)/\(∀xs,j.share (.slice xs)= .slice (j.shares xs))/\(∀d,j.share (.ref d)= .ref d.share)/\(∀al,j.share (.agg al)= .agg (j.shares al))/\(∀al,j.share (.tuple al)= .tuple (j.shares al))/\
  (∀k n,j.share (.int k n)= .int k n)/\(∀b,j.share (.bool b)= .bool b)/\(∀x,j.share (.str x)= .str x)/\j.share .aK= .aK/\j.share .cW= .cW/\j.shares []=[]/\(∀d ds,j.shares (d::ds)=d.share::j.shares ds):=by
 simp[j.share,j.shares]
def hk (sz:Nat):Option (Vr×af)->Option (j×af)
 |some (ds,s1)=>some (.aq sz ds,s1)
 |none=>none
def dt:Option (Vr×af)->Option (j×af)
 |some (ds,s1)=>some (.agg ds,s1)
 |none=>none
theorem ug {C:bI} {T e n sz:Nat} {dz:Vr} (gA:(C.T T).k= .slice e) (df:(C.T e).sz=sz) (bC:List.replicate n (C.T e).zero=dz)
  (eh:((C.T e).ok&&((C.T e).zero.wd==sz)&&(flat (C.T e).zero).isSome&&(sz !=0)&&decide (n*sz<=16777216))=true):∀s ps,e6 C s T n ps=hk sz (iI (λk=>some (k*sz,sz)) s dz [] ps):=by
 intro s ps;subst df;simp only[Bool.and_eq_true,beq_iff_eq,bne_iff_ne,decide_eq_true_eq]at eh;obtain⟨⟨⟨⟨U,aa⟩,ax⟩,aP⟩,a9⟩:=eh;unfold e6;rw[gA];simp only;rw[if_pos ⟨U,aa,ax,aP,a9⟩,bC];cases iI (λk=>some (k*(C.T e).sz,(C.T e).sz)) s dz [] ps<;>rfl
theorem qO {C:bI} {T:Nat} {al:List (TypeId×Nat)} {dz:Vr} (gA:(C.T T).k= .struct al) (bC:(C.T T).zero= .agg dz)
  (eh:((flat (.agg dz)).isSome&&al.all λf=>(C.T f.1).ok)=true):∀s ps,fb C s T ps=dt (iI (λk=>(al[k]?).map λf=>(f.2,(C.T f.1).sz)) s dz [] ps):=by
 intro s ps;simp only[Bool.and_eq_true,List.all_eq_true]at eh;unfold fb;rw[gA,bC];simp only;rw[if_pos ⟨eh.1,eh.2⟩];cases iI (λk=>(al[k]?).map λf=>(f.2,(C.T f.1).sz)) s dz [] ps<;>rfl
def c4 (place:Nat->Option (Nat×Nat)) (k:Nat) (dz:Vr) (os:List (Option Nat)) (r:Vq) (o:Option Nat):Option (Nat×Nat)->Option j->Option (j×af)->Option (Vr×af)
 |some (off,n),some z,some (d,s1)=>(match d with
  | .tuple _=>none
  |d=>if d.wd=n/\z.wd=n/\j.c0 (dz.take k)=off then iI place s1 (dz.set k d) (os++[o]) r else none)
 |_,_,_=>none
theorem ob (place:Nat->Option (Nat×Nat)) (s:af) (dz:Vr) (os:List (Option Nat)):iI place s dz os []=some (dz,s)/\
  (∀k a r,iI place s dz os ((k,a)::r)=c4 place k dz os r (i4 os a).owner (place k) dz[k]? (cc s (i4 os a))):=by
 refine⟨rfl,λk a r=>?_⟩;simp only[iI];cases cc s (i4 os a)with
 |none=>cases place k<;>cases dz[k]? <;>rfl
 |some p=>
  obtain⟨d,s1⟩:=p;cases place k with
  |none=>cases dz[k]? <;>rfl
  |some q=>cases dz[k]? <;>(cases d<;>rfl)
theorem oc:(∀a,i4 [] a=a)/\(∀o os a,i4 (o::os) a=i4 os (iS o a)):=⟨λ_=>rfl,λ_ _ _=>rfl⟩
theorem eK:(∀k n,j.owner (.int k n)=none)/\(∀b,j.owner (.bool b)=none)/\(∀x,j.owner (.str x)=none)/\(∀x,j.owner (.slice x)=none)/\(∀x,j.owner (.ref x)=none)/\(∀x,j.owner (.agg x)=none)/\j.owner .cW=none/\j.owner .aK=none/\(∀x q,j.owner (.h x q)=some x):=
 ⟨λ_ _=>rfl,λ_=>rfl,λ_=>rfl,λ_=>rfl,λ_=>rfl,λ_=>rfl,rfl,rfl,λ_ _=>rfl⟩
end Go.cV
