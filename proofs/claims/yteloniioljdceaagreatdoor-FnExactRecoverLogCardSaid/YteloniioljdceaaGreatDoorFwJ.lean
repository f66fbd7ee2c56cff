/- Part of a proof that a law returns true for every input. No condition. -/
import Derived.Test.YteloniioljdceaaGreatDoorFwI
namespace Go.ca
open List Go.IntKind Nat Or
def mK (C:bl) (f:FuncId) (m k:Nat) (as:RL) (r:I) (outs:RL):Prop:=
 ∀(w:World) (F X:Nat->Prop) (S:Nat->Nat->Prop) (vs:RJ),vs.length=as.length->
  (∃b ty fr,vs.getD k undef= .pointer (some ⟨b,0,none⟩)/\w.heap[b]? =some (.cells #[.func (.func f) #[] (vs.drop m).toArray] ty fr)/\F b/\¬X b)->
  aZ w F X F S (cM as) (dJ vs) w->
  jn C.P f vs.toArray w λv an=>∃a8 aB,aZ w F X a8 aB (cM (r::outs)) (dJ (v::vs)) an
section
variable {C:bl} {w0 w:World} {F0 X F a8:Nat->Prop} {S aB:Nat->Nat->Prop} {n:Fr} {ρ:Nat->Value} {s aq:aj} {ao gO:Nat->Value} {a:Act} {av:I} {Q:Exit->Act->World->Prop} {an:World}
theorem aZ.base (h:aZ w0 F0 X F S s ao w):aZ w F (λb=>∃u,S u b) F S s ao w where
 eK:=λ_ h=>h
 eY:=λ_ h=>.inl h
 dk:=h.dk
 c1:=h.c1
 dN:=h.dN
 du:=h.du
 ck:=λu b J=>.inl ⟨u,J⟩
 b9:=h.b9
 old:=λ_ _ _=>rfl
 size:=Nat.le_refl _
 os:=rfl
 tape:=rfl
 output:=Out.refl _
 ef:=h.ef.next h.size h.old λb ⟨u,hu⟩=>h.ck u b hu
theorem aZ.Kz (h:aZ w0 F0 X F S s ao w) (aN:aZ w F (λb=>∃u,S u b) a8 aB aq gO an):aZ w0 F0 X a8 aB aq gO an where
 eK:=λb J=>aN.eK b (h.eK b J)
 eY:=λb J=>by
  rcases aN.eY b J with J|⟨u,J⟩|J
  .exact h.eY b J
  .exact .inr (h.ck u b J)
  .exact .inr (.inr (Nat.le_trans h.size J))
 dk:=aN.dk
 c1:=aN.c1
 dN:=aN.dN
 du:=aN.du
 ck:=λu b J=>by
  rcases aN.ck u b J with⟨u,J⟩|J
  .exact h.ck u b J
  .exact .inr (Nat.le_trans h.size J)
 b9:=aN.b9
 old:=λb J gQ=>by
  refine(aN.old b (Nat.lt_of_lt_of_le J h.size) λ⟨u,hu⟩=>?_).trans (h.old b J gQ);rcases h.ck u b hu with ak|ak
  .exact gQ ak
  .omega
 size:=Nat.le_trans h.size aN.size
 os:=aN.os.trans h.os
 tape:=aN.tape.trans h.tape
 output:=aN.output.trans h.output
 ef:=h.ef
inductive mL:RL->RL->Prop
 |nil:mL [] []
 |eq {a:I} {as hv:RL}:a.R=[]->mL as hv->mL (a::as) (a::hv)
 |wd {a b:I} {as hv:RL}:dc a b->a.tree=true->b.R=[]->mL as hv->mL (a::as) (b::hv)
theorem mL.get:∀{as hv:RL},mL as hv->∀p k,p∈num k hv->p.2.R=[]/\∃a,as[p.1-k]? =some a/\k<=p.1/\(p.2=a\/(a.tree=true/\dc a p.2))
 |_,_,.nil,p,k,af=>by simp[num]at af
 |_,_,.eq (a:=a) h hw,p,k,af=>by
  simp only[num,mem_cons]at af;rcases af with rfl|af
  .exact⟨h,a,by simp,Nat.le_refl _,.inl rfl⟩
  .obtain⟨U,x,ab,ay,aQ⟩:=hw.get p (k+1) af;refine⟨U,x,?_,by omega,aQ⟩;rw[show p.1-k=(p.1-(k+1))+1 by omega,getElem?_cons_succ];exact ab
 |_,_,.wd (a:=a) h aI J hw,p,k,af=>by
  simp only[num,mem_cons]at af;rcases af with rfl|af
  .exact⟨J,a,by simp,Nat.le_refl _,.inr ⟨aI,h⟩⟩
  .obtain⟨U,x,ab,ay,aQ⟩:=hw.get p (k+1) af;refine⟨U,x,?_,by omega,aQ⟩;rw[show p.1-k=(p.1-(k+1))+1 by omega,getElem?_cons_succ];exact ab
theorem mL.len:∀{as hv:RL},mL as hv->hv.length=as.length
 |_,_,.nil=>rfl
 |_,_,.eq _ hw=>by simp[hw.len]
 |_,_,.wd _ _ _ hw=>by simp[hw.len]
theorem Ds (C:bl) (K:aj->Prop):∀(rs pre post:List bs) (s:aj),h4 C s rs K->gC C (pre++(rs++post)) s ((range rs.length).map (·+pre.length)) K:=by
 intro rs;induction rs with
 |nil=>intro pre post s h;exact h
 |cons r rs ih=>
  intro pre post s h;rw[length_cons,range_succ_eq_map,map_cons,List.map_map];simp only[gC,Nat.zero_add];rw[getElem?_append_right (Nat.le_refl _)];simp only[Nat.sub_self,cons_append,getElem?_cons_zero];have key:∀s1,h4 C s1 rs K->gC C (pre++r::(rs++post)) s1 ((range rs.length).map ((λx=>x+pre.length)∘succ)) K:=by
   intro s1 U;have:=ih (pre++[r]) post s1 U;simp only[append_assoc,singleton_append,length_append,length_singleton]at this;have e:((λx=>x+pre.length)∘succ)=λx=>x+(pre.length+1):=by funext x;simp;omega
   rw[e];exact this
  simp only[h4]at h;exact xE h key
theorem KA (jq:a.defers=[]) (dm:a.tmps.size=n.n) (gU:∀i∈n.fx,a.tmps.getD i undef=ρ i) (ax:aZ w0 F0 X F S s (λt=>a.tmps.getD t undef) w)
  {o:Oper} {d0 k:Nat} {args:List aR} {g:FuncId} {caps:RL} {arr:Array Value} {ps:List bB} {r:I} (bD:cB o.op=some (.call (.t d0) args)) (ad:iY n o.dst=true)
  (az:a.tmps.getD d0 undef= .func (.func g) #[] arr) (ae:cE w F s (λt=>a.tmps.getD t undef) caps arr.toList) (fK:I.ee caps=true)
  (KB:∃b ty fr,(arr.toList).getD k undef= .pointer (some ⟨b,0,none⟩)/\w.heap[b]? =some (.cells #[.func (.func g) #[] arr] ty fr)/\F b) (si:k<arr.size)
  (ab:ps.map (·.a)=args.map (aP s)++caps) (ay:∀p∈ps,p.ok s) (aQ:fw ps=true) (bc:mK C g args.length (args.length+k) (ps.map (·.d)) r (ps.map (·.o))) (bW:r.res=true)
  (b4:hf ps=true->r.cK=true/\∀p∈ps,p.o.cK=true) {K:aj->Prop} {next:Act->World->Prop} (cP:K (fin (fm (dj s ps) ps) o.dst r))
  (aT:∀aq bI an,K aq->Rel w0 F0 X n ρ aq bI an->next bI an):o.wp C.P a w next Q:=by
 obtain⟨dst,op,ty,pos,after,guard⟩:=o;simp only at bD ad cP;cases op with
 |call c=>
  obtain⟨callee,k7,argTypes⟩:=c;simp only[cB]at bD;split at bD
  .split at bD
   .rename_i rT _ _ BK xs bq lQ;simp only[Option.some.injEq,cw.call.injEq]at bD;obtain⟨rfl,rfl⟩:=bD;have rz:rT= .tmp d0:=by
     cases rT with
     |tmp t=>simp only[ch,Option.some.injEq,aR.t.injEq]at bq;rw[bq]
     |const v=>simp only[ch,Option.map_eq_some_iff]at bq;obtain⟨c,_,bq⟩:=bq;cases bq
     |func g=>simp[ch]at bq
     |global g=>simp[ch]at bq
    subst rz;have rU:execOp a.eval {dst,op:=.call {callee:=.value (.tmp d0),args:=k7,argTypes},type:=ty,pos,after,guard}=callFunc g ((k7.toList.map a.eval++arr.toList).toArray):=by
     have:a.eval (.tmp d0)= .func (.func g) #[] arr:=az;simp only[execOp,resolve,this,Deferred.ofValue,pure_bind,invoke];congr 1;apply Array.ext';simp
    unfold Oper.wp;rw[rU];have hlen:(k7.toList.map a.eval).length=xs.length:=by
     have:=congrArg length (oP lQ);simpa using this
    have rV:cE w F s (λt=>a.tmps.getD t undef) (xs.map (aP s)++caps) (k7.toList.map a.eval++arr.toList):=BI (tW ax (λ_=>rfl) _ _ (oP lQ)) ae;rw[<-ab]at rV;obtain⟨eA,l2⟩:=BJ rV;have dZ:∀d∈xs.map (aP s)++caps,d.plain=true:=by
     intro d ad;rcases mem_append.1 ad with ad|ad
     .obtain⟨x,ak,rfl⟩:=mem_map.1 ad;exact Ai s x λav e=>by
       subst e;have hm:=oP lQ;have:some (aR.c av)∈xs.map some:=mem_map.2 ⟨_,ak,rfl⟩;rw[<-hm]at this;obtain⟨o,_,ba⟩:=mem_map.1 this;cases o with
       |const v=>simp only[ch,Option.map_eq_some_iff]at ba;obtain⟨c,ae,e⟩:=ba;cases e;exact wA ae
       |tmp n=>simp[ch]at ba
       |func g=>simp[ch]at ba
       |global g=>simp[ch]at ba
     .obtain⟨k,ag⟩:=getElem?_of_mem ad;exact tt fK ag
    have xu:=BG (C:=C) ax (ps:=ps) (vs:=k7.toList.map a.eval++arr.toList) (f:=g) (r:=r) (by simpa using eA)
     (λi p v af az=>⟨dZ p.a (by rw[<-ab];exact mem_map.2 ⟨p,mem_of_getElem? af,rfl⟩),l2 i p.a v (by simp[af]) az⟩) ay aQ
     (λFc hh cr aL gQ af=>by
      refine bc w Fc hh cr _ (by rw[<-eA];simp) ?_ af;obtain⟨b,KC,fr,aD,aG,aJ⟩:=KB;refine⟨b,KC,fr,?_,?_,aL b aJ,λak=>by obtain⟨u,hu⟩:=gQ b ak;exact ax.dN u b hu aJ⟩
      .rw[getD_eq_getElem?_getD,getElem?_append_right (by omega),hlen,Nat.add_sub_cancel_left,<-getD_eq_getElem?_getD];exact aD
      .rw[aG,<-hlen,drop_left])
     bW b4
    rcases xu with⟨ei,b8⟩|⟨v,an,ei,a8,aB,b8,ga⟩
    .rw[ei,Oper.upon_enter];refine Calls.mono b8 ?_;rintro e an ⟨v,rfl,a8,aB,bA,bN⟩;exact aT _ _ _ cP (Rel.put jq dm gU bA bN.1 ad)
    .rw[ei,Oper.upon_value];exact aT _ _ _ cP (Rel.put jq dm gU b8 ga.1 ad)
   .cases bD
  .split at bD
   .simp only[Option.map_eq_some_iff]at bD;obtain⟨_,_,bD⟩:=bD;cases bD
   .cases bD
  .split at bD
   .simp only[Option.map_eq_some_iff]at bD;obtain⟨_,_,bD⟩:=bD;cases bD
   .cases bD
  iterate 3
   .split at bD
    .split at bD<;>cases bD
    .cases bD
  .cases bD
 |makeFunc fn first cs=>
  cases fn<;>simp only[cB]at bD<;>first|(cases bD;done)|(split at bD<;>simp at bD)
 |slice T x di aC cY=>
  cases cY<;>simp only[cB]at bD<;>first|(cases bD;done)|(split at bD<;>simp at bD)
 |makeMap T r=>cases r<;>simp only[cB]at bD<;>simp at bD
 |lookup T x i c=>cases c<;>simp only[cB]at bD<;>first|(cases bD;done)|(split at bD<;>simp at bD)
 |_=>simp only[cB]at bD<;>first|(cases bD;done)|(simp at bD;done)|(split at bD<;>simp at bD)
theorem KD {op:Op} {T:TypeId} {x:aR} (h:cB op=some (.eL T x)):∃y,op= .load T y/\ch y=some x:=by
 cases op with
 |load Q3 y=>
  simp only[cB,Option.map_eq_some_iff]at h;obtain⟨ct,ak,h⟩:=h;cases h;exact⟨y,rfl,ak⟩
 |call c=>
  obtain⟨callee,k7,argTypes⟩:=c;simp only[cB]at h;split at h<;>(try split at h)<;>(try split at h)<;>(try simp[Option.map_eq_some_iff]at h)
 |makeFunc fn first cs=>
  cases fn<;>simp only[cB]at h<;>first|(cases h;done)|(split at h<;>simp at h)
 |slice T x di aC cY=>
  cases cY<;>simp only[cB]at h<;>first|(cases h;done)|(split at h<;>simp at h)
 |makeMap T r=>cases r<;>simp only[cB]at h<;>simp at h
 |lookup T x i c=>cases c<;>simp only[cB]at h<;>first|(cases h;done)|(split at h<;>simp at h)
 |_=>simp only[cB]at h<;>first|(cases h;done)|(simp at h;done)|(split at h<;>simp at h)
theorem KE {y:Operand} {k:Nat} (h:ch y=some (.t k)):y= .tmp k:=by
 cases y with
 |tmp t=>simp only[ch,Option.some.injEq,aR.t.injEq]at h;rw[h]
 |const v=>simp only[ch,Option.map_eq_some_iff]at h;obtain⟨c,_,h⟩:=h;cases h
 |func g=>simp[ch]at h
 |global g=>simp[ch]at h
def mM (k:Nat) (s:aj) (j:Nat):I:=if j=k then .ref .hole else mr j (s j)
theorem KF {ao:Nat->Value} {b k:Nat} {v:Value} {ty:TypeId} {fr:Nat×Nat} (ax:aZ w0 F0 X F S s ao w) (ag:ao k= .pointer (some ⟨b,0,none⟩)) (J:F b) (ae:w.heap[b]? =some (.cells #[v] ty fr)) (U:Value.eh v=true):
  ∀cs:RG,cE w F s ao (cs.map (mM k s)) (cs.map ao)/\I.ee (cs.map (mM k s))=true:=by
 intro cs;induction cs with
 |nil=>exact⟨by rw[map_nil,map_nil,cE],rfl⟩
 |cons j cs ih=>
  simp only[map_cons];have bE:ar w F s ao (mM k s j) (ao j) (λ_=>False)/\(mM k s j).plain=true:=by
   unfold mM;split
   .rename_i e;subst e;rw[ag];refine⟨(ar.bx rfl).2 ⟨rfl,?_⟩,rfl⟩;rw[ah];refine⟨b,0,[v],rfl,J,?_,?_⟩
    .intro i c aC;cases i with
     |zero=>simp at aC;subst aC;simp[World.cell?,ae]
     |succ i=>simp at aC
    .rw[ah];exact⟨v,U,rfl⟩
   .unfold mr;split
    .rename_i af;exact⟨ar.nothing af (ax.b9 j),af⟩
    .rename_i af;refine⟨?_,rfl⟩;rw[ar];intro d ad af;simp only[I.sub,Option.some.injEq]at ad;subst ad;have aI:(s j).tree=true:=by
      cases R:s j<;>first|rfl|(rw[R]at af;simp[I.plain]at af)
     exact⟨_,none,rfl,rfl,((ar.bx aI).1 (ax.b9 j)).1⟩
  refine⟨?_,?_⟩
  .rw[cE];exact⟨_,_,rfl,bE.1,ih.1⟩
  .simp only[I.ee,bE.2,ih.2,Bool.and_self]
theorem KG (aS:C.cS) {id:Nat} {ops:Array Oper} {T:TypeId} {k k0 d0:Nat} {m rest:List bs} {args:List aR} {d1:Option Nat} {g:FuncId} {cs:RG} {b:Nat} {ty:TypeId} {fr:Nat×Nat} {K:aj->Prop}
  (nK:lS n ops ops.toList=some ((⟨some d0,.eL T (.t k),none⟩::(m++⟨d1,.call (.t d0) args,none⟩::rest):List bs).map bs.un))
  (gP:(C.T T).flat=true) (hm:∀r∈m,∀d,r.dst=some d->d≠d0/\d∉cs) (jh:d0∉cs) (x3:cs[k0]? =some k)
  (jq:a.defers=[]) (dm:a.tmps.size=n.n) (gU:∀i∈n.fx,a.tmps.getD i undef=ρ i) (ax:aZ w0 F0 X F S s (λt=>a.tmps.getD t undef) w)
  (J:F b) (ag:a.tmps.getD k undef= .pointer (some ⟨b,0,none⟩)) (oy:w.heap[b]? =some (.cells #[.func (.func g) #[] (cs.map λj=>a.tmps.getD j undef).toArray] ty fr))
  (h:h4 C (fin s (some d0) .hole) m λs1=>∃ps r,ps.map (·.a)=args.map (aP s1)++cs.map (mM k s1)/\(∀p∈ps,p.ok s1)/\fw ps=true/\
   mK C g args.length (args.length+k0) (ps.map (·.d)) r (ps.map (·.o))/\r.res=true/\(hf ps=true->r.cK=true/\∀p∈ps,p.o.cK=true)/\h4 C (fin (fm (dj s1 ps) ps) d1 r) rest K)
  (aT:∀aq bI an,K aq->Rel w0 F0 X n ρ aq bI an->Q .normal bI an):(Code.region id ops false).wp C.P Q a w:=by
 obtain⟨hl,lT⟩:=xw nK;have x4:∀(i:Nat) (r:bs),(⟨some d0,.eL T (.t k),none⟩::(m++⟨d1,.call (.t d0) args,none⟩::rest):List bs)[i]? =some r->∃o,ops[i]? =some o/\lR n ops o=some r.un:=by
  intro i r aC;have cq:i<ops.toList.length:=by
   rw[hl,length_map];exact(List.getElem?_eq_some_iff.1 aC).1
  obtain⟨eM,U,ab⟩:=lT i _ (getElem?_eq_getElem cq);rw[getElem?_map,aC]at U;simp only[Option.map_some,Option.some.injEq]at U;exact⟨_,by rw[<-Array.getElem?_toList];exact getElem?_eq_getElem cq,by rw[U];exact ab⟩
 have x5:∀{r:bs} {o:Oper},r.guard=none->lR n ops o=some r.un->r.dst=o.dst/\o.guard=none/\nJ o.op=r.a6.base/\iY n o.dst=true:=by
  intro r o hg h;unfold lR at h;split at h
  .rename_i ad;split at h
   .rename_i x6 er;simp only[bs.un,Option.some.injEq,bs.mk.injEq]at h;obtain⟨aD,aG,aJ⟩:=h;refine⟨aD.symm,?_,aG,ad⟩;rw[aJ,hg]at er;cases ba:o.guard with
    |none=>rfl
    |some xz=>
     rw[ba]at er;simp only[rS]at er;split at er<;>cases er
   .cases h
  .cases h
 have KH:ops.size=m.length+rest.length+2:=by
  have:ops.toList.length=ops.size:=by simp
  rw[<-this,hl];simp;omega
 have KI:range ops.size=0::((range m.length).map (·+1)++((m.length+1)::(range rest.length).map (·+(m.length+2)))):=by
  rw[KH,show m.length+rest.length+2=(m.length+rest.length+1)+1 from rfl,range_succ_eq_map];congr 1;rw[show m.length+rest.length+1=m.length+(rest.length+1) by omega,range_add,map_append,range_succ_eq_map];simp only[List.map_map,map_cons,Nat.add_zero];congr 1;congr 1;apply map_congr_left;intro x _;simp;omega
 obtain⟨n5,KJ,fL⟩:=x4 0 _ rfl;obtain⟨ek,dx,fU,hF⟩:=x5 rfl fL;change nJ n5.op= .eL T (.t k)at fU;have x7:cB n5.op=some (.eL T (.t k)):=by
  rcases uf fU with h|h
  .cases h
  .exact h
 obtain⟨y,hy,KK⟩:=KD x7;have:=KE KK;subst this;let lW:Value:=.func (.func g) #[] (cs.map λj=>a.tmps.getD j undef).toArray
 have gx:e_ w b 0 [lW]:=by
  intro i c aC;cases i with
  |zero=>simp at aC;subst aC;simp[World.cell?,oy,lW]
  |succ i=>simp at aC
 refine wp_region ?_;rw[KI];simp only[wpOps,KJ];show(if Region.wanted n5 (yielded ops a.tmps)=true then n5.wp C.P a w _ Q\/(n5.asks C.P a w/\LetsOut Q)else _);rw[if_pos (xx dx)];left;have rU:(execOp a.eval n5).run C.P w= .ok (.value lW) w:=by
  obtain⟨dst,op,ty,pos,after,guard⟩:=n5;simp only at hy;subst hy;have:a.eval (.tmp k)= .pointer (some ⟨b,0,none⟩):=ag;simp[execOp,this,Instr.loadAt,Instr.sureAddr,Ao aS gP gx]
 unfold Oper.wp;rw[rU,Oper.upon_value];have KL:some d0=n5.dst:=ek;rw[<-KL]at hF⊢;let aw:Act:=a.put (some d0) lW
 let kt:Fr:=⟨n.n,d0::k::(cs++n.fx)⟩
 let ρ1:Nat->Value:=λt=>aw.tmps.getD t undef
 have uD:k∈cs:=mem_of_getElem? x3;have oL:=ax.base;have x8:Rel w F (λb=>∃u,S u b) ⟨n.n,[]⟩ ρ1 (fin s (some d0) .hole) aw w:=
  Rel.put (n:=⟨n.n,[]⟩) jq dm (λi aC=>by cases aC) oL (.inl ⟨rfl,by rw[ar];trivial⟩) (by
   simp only[iY,Bool.and_eq_true,decide_eq_true_eq]at hF⊢;exact⟨hF.1,by simp⟩)
 have KM:Rel w F (λb=>∃u,S u b) kt ρ1 (fin s (some d0) .hole) aw w:=⟨x8.defers,x8.size,λi _=>rfl,x8.rel⟩
 have uE:∀t,t≠d0->ρ1 t=a.tmps.getD t undef:=by
  intro t aI;have:=congrFun (xt (n:=n) (dst:=some d0) (a:=a) lW dm hF).1 t;simp only[mu]at this;rw[gy _ _ aI]at this;exact this
 have KN:ρ1 d0=lW:=by
  have:=congrFun (xt (n:=n) (dst:=some d0) (a:=a) lW dm hF).1 d0;simp only[mu]at this;rw[jH]at this;exact this
 have hw:=Ds C _ m [⟨some d0,.eL T (.t k),none⟩] (⟨d1,.call (.t d0) args,none⟩::rest) _ h;have mid:∀aq bI an,(∃ps r,ps.map (·.a)=args.map (aP aq)++cs.map (mM k aq)/\(∀p∈ps,p.ok aq)/\fw ps=true/\
   mK C g args.length (args.length+k0) (ps.map (·.d)) r (ps.map (·.o))/\r.res=true/\(hf ps=true->r.cK=true/\∀p∈ps,p.o.cK=true)/\h4 C (fin (fm (dj aq ps) ps) d1 r) rest K)->
   Rel w F (λb=>∃u,S u b) kt ρ1 aq bI an->wpOps C.P ops Q ((m.length+1)::(range rest.length).map (·+(m.length+2))) bI an:=by
  rintro s2 a2 dD ⟨ps,r,aD,aG,aJ,bp,bJ,bk,a7⟩ ⟨g1,g2,g3,h2,b0,g4⟩;obtain⟨qk,KO,lC⟩:=x4 (m.length+1) ⟨d1,.call (.t d0) args,none⟩ (by simp);obtain⟨eo,eF,fj,pO⟩:=x5 rfl lC;simp only[wpOps,KO];show(if Region.wanted qk (yielded ops a2.tmps)=true then qk.wp C.P a2 dD _ Q\/(qk.asks C.P a2 dD/\LetsOut Q)else _);rw[if_pos (xx eF)];left;change nJ qk.op= .call (.t d0) args at fj;have KP:cB qk.op=some (.call (.t d0) args):=by
   rcases uf fj with h|h
   .cases h
   .exact h
  have Dt:h2 b:=g4.eK b J;have Du:dD.heap[b]? =some (.cells #[lW] ty fr):=by
   rw[g4.old b (ax.dk b J) (λ⟨u,hu⟩=>ax.dN u b hu J)];exact oy
  have Dv:∀j∈cs,a2.tmps.getD j undef=a.tmps.getD j undef:=by
   intro j bE;rw[g3 j (by simp[kt,bE])];exact uE j (λe=>jh (e▸bE))
  have kW:a2.tmps.getD k undef= .pointer (some ⟨b,0,none⟩):=(Dv k uD).trans ag;have Dw:(cs.map λj=>a.tmps.getD j undef)=cs.map λj=>a2.tmps.getD j undef:=map_congr_left λj bE=>(Dv j bE).symm;obtain⟨bb,c2⟩:=KF (k:=k) g4 kW Dt Du rfl cs;have wX:∀aq bI an,h4 C aq rest K->Rel w F (λb=>∃u,S u b) ⟨n.n,n.fx⟩ ρ aq bI an->wpOps C.P ops Q ((range rest.length).map (·+(m.length+2))) bI an:=by
   intro rO a3 uF ay KQ;have uq:=Ds C K rest ((⟨some d0,.eL T (.t k),none⟩::m)++[⟨d1,.call (.t d0) args,none⟩]) [] rO ay;have:=xy (Q:=Q) aS (ops:=ops) (ros:=((⟨some d0,.eL T (.t k),none⟩::m)++[⟨d1,.call (.t d0) args,none⟩])++(rest++[])) (l2:=[]) (K:=K) (λaq bI an h0 cI=>by
     obtain⟨KR,z2,z3,KS,wQ,z4⟩:=cI;exact aT aq bI an h0 ⟨KR,z2,z3,KS,wQ,ax.Kz z4⟩) ((range rest.length).map (·+(m.length+2))) (λi aC=>by
      have r3:((⟨some d0,.eL T (.t k),none⟩::m)++[⟨d1,.call (.t d0) args,none⟩])++(rest++[])=(⟨some d0,.eL T (.t k),none⟩::(m++⟨d1,.call (.t d0) args,none⟩::rest):List bs):=by simp
      rw[r3];refine⟨λhx=>?_,λo ba=>?_⟩
      .rw[List.getElem?_eq_none_iff];have:=Array.getElem?_eq_none_iff.1 hx;simp;omega
      .obtain⟨aO,fs,ab⟩:=lT i o (by simpa using ba);obtain⟨r,U,rfl⟩:∃r,(⟨some d0,.eL T (.t k),none⟩::(m++⟨d1,.call (.t d0) args,none⟩::rest):List bs)[i]? =some r/\r.un=aO:=by
        rw[getElem?_map,Option.map_eq_some_iff]at fs;exact fs
       exact⟨r,U,ab⟩) rO a3 uF (by
      have e:((⟨some d0,.eL T (.t k),none⟩::m)++[⟨d1,.call (.t d0) args,none⟩]:List bs).length=m.length+2:=by simp
      rw[e]at uq;exact uq) KQ
   rwa [append_nil]at this
  have KT:∀i∈n.fx,a2.tmps.getD i undef=ρ i:=by
   intro i aC;rw[g3 i (by simp[kt,aC]),uE i (λe=>?_)]
   .exact gU i aC
   .simp only[iY,Bool.and_eq_true,Bool.not_eq_true',contains_eq_mem,decide_eq_false_iff_not]at hF;exact hF.2 (e▸aC)
  have si:k0<cs.length:=(List.getElem?_eq_some_iff.1 x3).1;have KU:qk.dst=d1:=eo.symm;exact KA (n:=n) (ρ:=ρ) (K:=λaq=>h4 C aq rest K) g1 g2 KT g4 KP pO
   (arr:=(cs.map λj=>a2.tmps.getD j undef).toArray) (k:=k0) (caps:=cs.map (mM k s2)) (g:=g) (ps:=ps) (r:=r)
   (by rw[g3 d0 (by simp[kt]),KN];simp only[lW,Dw]) (by simpa using bb) c2
   ⟨b,ty,fr,by
     rw[getD_eq_getElem?_getD,getElem?_map,x3];exact kW,by rw[Du];simp only[lW,Dw],Dt⟩ (by simpa using si)
   aD aG aJ bp bJ bk (by rw[KU];exact a7) wX
 have:=xy (Q:=Q) aS (ops:=ops) (ros:=[⟨some d0,.eL T (.t k),none⟩]++(m++⟨d1,.call (.t d0) args,none⟩::rest)) (l2:=(m.length+1)::(range rest.length).map (·+(m.length+2))) mid
  ((range m.length).map (·+1)) (λi aC=>by
    obtain⟨j,bE,rfl⟩:=mem_map.1 aC;have sj:j<m.length:=mem_range.1 bE;refine⟨λhx=>?_,λo ba=>?_⟩
    .have:=Array.getElem?_eq_none_iff.1 hx;omega
    .obtain⟨jP,r6,eu⟩:=x4 (j+1) m[j] (by
      simp only[getElem?_cons_succ];rw[getElem?_append_left sj,getElem?_eq_getElem sj])
     have heq:jP=o:=by rw[r6]at ba;exact Option.some.inj ba
     subst heq;refine⟨m[j],by
      simp only[singleton_append,getElem?_cons_succ];rw[getElem?_append_left sj,getElem?_eq_getElem sj],?_⟩
     have KV:=hm m[j] (getElem_mem sj);unfold lR at eu⊢;split at eu
     .rename_i ad;rw[if_pos]
      .exact eu
      .cases Dx:jP.dst with
       |none=>rfl
       |some d=>
        rw[Dx]at ad;simp only[iY,Bool.and_eq_true,decide_eq_true_eq,Bool.not_eq_true',contains_eq_mem,decide_eq_false_iff_not]at ad⊢;refine⟨ad.1,?_⟩;have uh:m[j].dst=some d:=by
         split at eu
         .simp only[bs.un,Option.some.injEq,bs.mk.injEq]at eu;rw[<-eu.1,Dx]
         .cases eu
        obtain⟨m1,m2⟩:=KV d uh;simp only[kt,mem_cons,mem_append,not_or];exact⟨m1,λe=>m2 (e▸uD),m2,ad.2⟩
     .cases eu) (fin s (some d0) .hole) aw w (by simpa using hw) KM
 exact this
def KW (C:bl) (f:FuncId) (k k0:Nat) (cs:RG) (args:List aR) (d1:Option Nat) (rest:List bs) (keep:RG) (P:RK->Prop) (s1:aj):Prop:=
 ∃ps r,ps.map (·.a)=args.map (aP s1)++cs.map (mM k s1)/\(∀p∈ps,p.ok s1)/\fw ps=true/\
  mK C f args.length (args.length+k0) (ps.map (·.d)) r (ps.map (·.o))/\r.res=true/\(hf ps=true->r.cK=true/\∀p∈ps,p.o.cK=true)/\
  cm C (fin (fm (dj s1 ps) ps) d1 r) rest none (λ_ s=>P (eO keep s))
def KX (C:bl) (f:FuncId) (k k0 d0:Nat) (cs:RG) (m:List bs) (args:List aR) (d1:Option Nat) (rest:List bs) (keep:RG) (P:RK->Prop) (s:aj):Prop:=
 cm C (fin s (some d0) .hole) m none λ_ s1=>KW C f k k0 cs args d1 rest keep P s1
def KY (C:bl) (f:FuncId) (k k0 d0:Nat) (cs:RG) (m:List bs) (args:List aR) (d1:Option Nat) (rest:List bs) (keep:RG) (K:aj->Prop) (s:aj):Prop:=
 KX C f k k0 d0 cs m args d1 rest keep (λl=>K (au l)) s
def Dy (f:Nat->Bool) (m:List bs):Bool:=m.all λr=>match r.dst with
 |none=>true
 |some d=>f d
theorem KZ {f:Nat->Bool} {m:List bs} (h:Dy f m=true):∀r∈m,∀d,r.dst=some d->f d=true:=by
 intro r ax d ad;have:=List.all_eq_true.1 h r ax;rw[ad]at this;exact this
theorem K0 (k:RG) (s:aj):p5 s (eO k s):=by
 intro p af;obtain⟨t,_,rfl⟩:=mem_map.1 af;exact .inl rfl
def K1 (C:bl) (f:FuncId) (k k0 d0:Nat) (cs:RG) (m:List bs) (args:List aR) (d1:Option Nat) (rest:List bs) (keep:RG):(Exit->aj->Prop)->aj->Prop:=
 λQ s=>KY C f k k0 d0 cs m args d1 rest keep (Q .normal) s
def K2 (T:TypeId) (k d0:Nat) (m:List bs) (args:List aR) (d1:Option Nat) (rest:List bs):aK:=
 .dX (⟨some d0,.eL T (.t k),none⟩::(m++⟨d1,.call (.t d0) args,none⟩::rest)) none
theorem K3 (vs:RJ):∀(m n:Nat),m+n=vs.length->vs.drop m=((range n).map (·+m)).map λj=>vs.getD j undef:=by
 intro m n h;apply ext_getElem?;intro i;rw[getElem?_drop,List.map_map,getElem?_map];by_cases aC:i<n
 .rw[getElem?_range aC,getElem?_eq_getElem (by omega)];simp only[Option.map_some,Function.comp];rw[getD_eq_getElem?_getD,getElem?_eq_getElem (by omega)];simp only[Option.getD_some,Option.some.injEq];congr 1;omega
 .rw[getElem?_eq_none (by omega),getElem?_eq_none (by simp;omega)];rfl
theorem K4 {c:Code} {rs:List bs} (h:el n c=some (.dX rs none)):∃id ops,c= .region id ops false/\lS n ops ops.toList=some rs:=by
 cases c with
 |region id ops draw=>
  cases draw with
  |false=>
   simp only[el]at h;split at h
   .rename_i r U;cases h;exact⟨id,ops,rfl,U⟩
   .cases h
  |true=>
   simp only[el]at h;split at h
   .simp only[Option.map_eq_some_iff]at h;obtain⟨r,U,ab⟩:=h;cases ab
   .cases h
 |seq a b=>simp only[el]at h;split at h<;>cases h
 |cond c a b=>simp only[el]at h;split at h<;>cases h
 |block id b=>simp only[el,Option.map_eq_some_iff]at h;obtain⟨r,U,ab⟩:=h;cases ab
 |loop b=>simp only[el,Option.map_eq_some_iff]at h;obtain⟨r,U,ab⟩:=h;cases ab
 |_=>simp[el]at h
def x9 (C:bl) (f:FuncId) (fx:RG) (K5 m k:Nat) (T:(Exit->aj->Prop)->aj->Prop) (b:aK):Prop:=
 ∃(ty:TypeId) (k0 d0 jT:Nat) (gA:List bs) (args:List aR) (d1:Option Nat) (rest:List bs) (keep:RG),
  T=K1 C f k k0 d0 ((range jT).map (·+m)) gA args d1 rest keep/\b=K2 ty k d0 gA args d1 rest/\(C.T ty).flat=true/\Dy (λd=>d !=d0&&decide (m+jT<=d)) gA=true/\decide (m+jT<=d0)=true/\
  decide (k0<jT)=true/\k=m+k0/\((range jT).all λj=>fx.contains (m+j))=true/\args.length=m/\m+jT=K5
theorem mK.of_wp (aS:C.cS) {f:FuncId} {fn:Func} {c:Code} {c_:aK} {fx:RG} {as outs:RL} {r:I} {k m:Nat} (bq:C.P.funcs[f]? =some fn) (J:fn.body=some c)
  (h7:(fn.name== "runtime.NumGoroutine")=false) (R:el ⟨fn.ntmps,fx⟩ c=some c_.strip) (aT:as.length<=fn.ntmps)
  (ag:c_.lU (x9 C f fx as.length m k))
  (h:∀Q:Exit->aj->Prop,(∀s,dY (Ends C fx fn.results.toList r outs) s->Q .ret s)->(∀s,dY (Ends C fx fn.results.toList r outs) s->Q .normal s)->bd C c_ Q (au (num 0 as))):mK C f m k as r outs:=by
 rintro w F X S vs hl ⟨b,K6,fr,aD,aG,aJ,bp⟩ ax;refine B8 (fx:=fx) aS bq J h7 aT hl ax λa hrel cC=>?_;refine B6 aS (H:=x9 C f fx as.length m k) ?_ c (by rw[aK.BV];exact R) (aK.BW c_ ag) (B3 c_ ?_) hrel
 .rintro c T dw Q s aw lX ⟨ty,k0,d0,jT,gA,args,d1,rest,keep,rfl,rfl,gP,hm,jh,lY,ag,gU,hlen,Q4⟩ x7 K7 ⟨g1,g2,g3,oT,bg,g4⟩;replace hm:∀r∈gA,∀d,r.dst=some d->d≠d0/\m+jT<=d:=λr ax d ad=>by
   have:=KZ hm r ax d ad;simpa using this
  replace jh:=of_decide_eq_true jh;replace lY:=of_decide_eq_true lY;replace gU:∀j,j<jT->m+j∈fx:=λj bE=>by
   have:=List.all_eq_true.1 gU j (mem_range.2 bE);simpa using this
  obtain⟨id,ops,rfl,nK⟩:=K4 x7;have Dz:∀j,j<jT->aw.tmps.getD (j+m) undef=vs.getD (j+m) undef:=λj bE=>by
   rw[Nat.add_comm];exact g3 _ (gU j bE)
  have iQ:((range jT).map (·+m)).map (λj=>aw.tmps.getD j undef)=vs.drop m:=by
   rw[K3 vs m jT (by omega),List.map_map,List.map_map];apply map_congr_left;intro j bE;exact Dz j (mem_range.1 bE)
  refine KG (Q:=nM w F X ⟨fn.ntmps,fx⟩ (dJ vs) Q) (K:=dY (Q .normal)) (b:=b) (ty:=K6) (fr:=fr) (g:=f) (k0:=k0) (cs:=(range jT).map (·+m)) aS nK gP (λr ax d ad=>⟨(hm r ax d ad).1,λqi=>?_⟩) (λqi=>?_) ?_ g1 g2 g3 g4 (g4.eK b aJ) ?_ ?_ ?_ (λaq bI an ag cI=>cI.dY ag)
  .obtain⟨j,bE,rfl⟩:=mem_map.1 qi;have:=(hm r ax _ ad).2;have:=mem_range.1 bE;omega
  .obtain⟨j,bE,e⟩:=mem_map.1 qi;have:=mem_range.1 bE;omega
  .rw[getElem?_map,getElem?_range lY,ag];simp[Nat.add_comm]
  .rw[ag,Nat.add_comm,Dz k0 lY,Nat.add_comm,<-ag];exact aD
  .rw[iQ,g4.old b (ax.dk b aJ) bp];exact aG
  .refine ur (λ_ s1=>?_) K7;rintro⟨ps,r,ek,dx,fU,hF,tI,xv,K8⟩;exact⟨ps,r,ek,dx,fU,hF,tI,xv,ur (λ_ s h=>.inr ⟨_,K0 _ _,h⟩) K8⟩
 .rw[xK];exact h _ (λs h=>⟨.inr rfl,h⟩) (λs h=>⟨.inl rfl,h⟩)
end
end Go.ca
