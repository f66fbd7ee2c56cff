/- Part of a proof that a law returns true for every input. No condition. -/
import Derived.Test.YtcmimclaknmnbaaGreatDoorFwI
namespace Go.cC
open List Go.IntKind Nat Or
def sP (C:bx) (f:FuncId) (m k:Nat) (as:anZ) (r:I) (outs:anZ):Prop:=
 ∀(w:World) (F X:Nat->Prop) (S:Nat->Nat->Prop) (vs:anX),vs.length=as.length->
  (∃b ty fr,vs.getD k undef= .pointer (some ⟨b,0,none⟩)/\w.heap[b]? =some (.cells #[.func (.func f) #[] (vs.drop m).toArray] ty fr)/\F b/\¬X b)->
  bq w F X F S (eb as) (fs vs) w->
  kn C.P f vs.toArray w λv aq=>∃br aJ,bq w F X br aJ (eb (r::outs)) (fs (v::vs)) aq
section
variable {C:bx} {w0 w:World} {F0 X F br:Nat->Prop} {S aJ:Nat->Nat->Prop} {n:Fr} {ρ:Nat->Value} {s aA:an} {au fJ:Nat->Value} {a:Act} {av:I} {Q:Exit->Act->World->Prop} {aq:World}
theorem bq.base (h:bq w0 F0 X F S s au w):bq w F (λb=>∃u,S u b) F S s au w where
 fl:=λ_ h=>h
 fL:=λ_ h=>.inl h
 dV:=h.dV
 dh:=h.dh
 ep:=h.ep
 ev:=h.ev
 cR:=λu b R=>.inl ⟨u,R⟩
 cD:=h.cD
 old:=λ_ _ _=>rfl
 size:=Nat.le_refl _
 os:=rfl
 tape:=rfl
 output:=Out.refl _
 e4:=h.e4.next h.size h.old λb ⟨u,hu⟩=>h.cR u b hu
theorem bq.Qm (h:bq w0 F0 X F S s au w) (bn:bq w F (λb=>∃u,S u b) br aJ aA fJ aq):bq w0 F0 X br aJ aA fJ aq where
 fl:=λb R=>bn.fl b (h.fl b R)
 fL:=λb R=>by
  rcases bn.fL b R with R|⟨u,R⟩|R
  .exact h.fL b R
  .exact .inr (h.cR u b R)
  .exact .inr (.inr (Nat.le_trans h.size R))
 dV:=bn.dV
 dh:=bn.dh
 ep:=bn.ep
 ev:=bn.ev
 cR:=λu b R=>by
  rcases bn.cR u b R with⟨u,R⟩|R
  .exact h.cR u b R
  .exact .inr (Nat.le_trans h.size R)
 cD:=bn.cD
 old:=λb R iQ=>by
  refine(bn.old b (Nat.lt_of_lt_of_le R h.size) λ⟨u,hu⟩=>?_).trans (h.old b R iQ);rcases h.cR u b hu with ag|ag
  .exact iQ ag
  .omega
 size:=Nat.le_trans h.size bn.size
 os:=bn.os.trans h.os
 tape:=bn.tape.trans h.tape
 output:=bn.output.trans h.output
 e4:=h.e4
inductive sQ:anZ->anZ->Prop
 |nil:sQ [] []
 |eq {a:I} {as bs:anZ}:a.U=[]->sQ as bs->sQ (a::as) (a::bs)
 |wd {a b:I} {as bs:anZ}:eP a b->a.tree=true->b.U=[]->sQ as bs->sQ (a::as) (b::bs)
theorem sQ.get:∀{as bs:anZ},sQ as bs->∀p k,p∈num k bs->p.2.U=[]/\∃a,as[p.1-k]? =some a/\k<=p.1/\(p.2=a\/(a.tree=true/\eP a p.2))
 |_,_,.nil,p,k,al=>by simp[num]at al
 |_,_,.eq (a:=a) h hw,p,k,al=>by
  simp only[num,mem_cons]at al;rcases al with rfl|al
  .exact⟨h,a,by simp,Nat.le_refl _,.inl rfl⟩
  .obtain⟨h1,x,ab,ay,aT⟩:=hw.get p (k+1) al;refine⟨h1,x,?_,by omega,aT⟩;rw[show p.1-k=(p.1-(k+1))+1 by omega,getElem?_cons_succ];exact ab
 |_,_,.wd (a:=a) h aL R hw,p,k,al=>by
  simp only[num,mem_cons]at al;rcases al with rfl|al
  .exact⟨R,a,by simp,Nat.le_refl _,.inr ⟨aL,h⟩⟩
  .obtain⟨h1,x,ab,ay,aT⟩:=hw.get p (k+1) al;refine⟨h1,x,?_,by omega,aT⟩;rw[show p.1-k=(p.1-(k+1))+1 by omega,getElem?_cons_succ];exact ab
theorem sQ.len:∀{as bs:anZ},sQ as bs->bs.length=as.length
 |_,_,.nil=>rfl
 |_,_,.eq _ hw=>by simp[hw.len]
 |_,_,.wd _ _ _ hw=>by simp[hw.len]
theorem x1 (C:bx) (K:an->Prop):∀(rs pre post:List bt) (s:an),iq C s rs K->ko C (pre++(rs++post)) s ((range rs.length).map (·+pre.length)) K:=by
 intro rs;induction rs with
 |nil=>intro pre post s h;exact h
 |cons r rs ih=>
  intro pre post s h;rw[length_cons,range_succ_eq_map,map_cons,List.map_map];simp only[ko,Nat.zero_add];rw[getElem?_append_right (Nat.le_refl _)];simp only[Nat.sub_self,cons_append,getElem?_cons_zero];have key:∀s1,iq C s1 rs K->ko C (pre++r::(rs++post)) s1 ((range rs.length).map ((λx=>x+pre.length)∘succ)) K:=by
   intro s1 h1;have:=ih (pre++[r]) post s1 h1;simp only[append_assoc,singleton_append,length_append,length_singleton]at this;have e:((λx=>x+pre.length)∘succ)=λx=>x+(pre.length+1):=by funext x;simp;omega
   rw[e];exact this
  simp only[iq]at h;exact HH h key
theorem Z6 (iX:a.defers=[]) (dr:a.tmps.size=n.n) (hz:∀i∈n.fx,a.tmps.getD i undef=ρ i) (ax:bq w0 F0 X F S s (λt=>a.tmps.getD t undef) w)
  {o:Oper} {d0 k:Nat} {args:List aX} {g:FuncId} {caps:anZ} {arr:Array Value} {ps:List b6} {r:I} (bH:cP o.op=some (.call (.t d0) args)) (ae:kM n o.dst=true)
  (aD:a.tmps.getD d0 undef= .func (.func g) #[] arr) (ai:cV w F s (λt=>a.tmps.getD t undef) caps arr.toList) (gS:I.dS caps=true)
  (Z7:∃b ty fr,(arr.toList).getD k undef= .pointer (some ⟨b,0,none⟩)/\w.heap[b]? =some (.cells #[.func (.func g) #[] arr] ty fr)/\F b) (vP:k<arr.size)
  (ab:ps.map (·.a)=args.map (a6 s)++caps) (ay:∀p∈ps,p.ok s) (aT:gE ps=true) (bp:sP C g args.length (args.length+k) (ps.map (·.d)) r (ps.map (·.o))) (bX:r.res=true)
  (bM:hx ps=true->r.ch=true/\∀p∈ps,p.o.ch=true) {K:an->Prop} {next:Act->World->Prop} (dy:K (fin (fE (ea s ps) ps) o.dst r))
  (aN:∀aA bN aq,K aA->Rel w0 F0 X n ρ aA bN aq->next bN aq):o.wp C.P a w next Q:=by
 obtain⟨dst,op,ty,pos,after,guard⟩:=o;simp only at bH ae dy;cases op with
 |call c=>
  obtain⟨callee,mT,argTypes⟩:=c;simp only[cP]at bH;split at bH
  .split at bH
   .rename_i sH _ _ Oq xs bc km;simp only[Option.some.injEq,dK.call.injEq]at bH;obtain⟨rfl,rfl⟩:=bH;have vl:sH= .tmp d0:=by
     cases sH with
     |tmp t=>simp only[dz,Option.some.injEq,aX.t.injEq]at bc;rw[bc]
     |const v=>simp only[dz,Option.map_eq_some_iff]at bc;obtain⟨c,_,bc⟩:=bc;cases bc
     |func g=>simp[dz]at bc
     |global g=>simp[dz]at bc
    subst vl;have qx:execOp a.eval {dst,op:=.call {callee:=.value (.tmp d0),args:=mT,argTypes},type:=ty,pos,after,guard}=callFunc g ((mT.toList.map a.eval++arr.toList).toArray):=by
     have:a.eval (.tmp d0)= .func (.func g) #[] arr:=aD;simp only[execOp,resolve,this,Deferred.ofValue,pure_bind,invoke];congr 1;apply Array.ext';simp
    unfold Oper.wp;rw[qx];have hlen:(mT.toList.map a.eval).length=xs.length:=by
     have:=congrArg length (sE km);simpa using this
    have Ap:cV w F s (λt=>a.tmps.getD t undef) (xs.map (a6 s)++caps) (mT.toList.map a.eval++arr.toList):=Ao (Ab ax (λ_=>rfl) _ _ (sE km)) ai;rw[<-ab]at Ap;obtain⟨en,l2⟩:=xI Ap;have eA:∀d∈xs.map (a6 s)++caps,d.plain=true:=by
     intro d ae;rcases mem_append.1 ae with ae|ae
     .obtain⟨x,ag,rfl⟩:=mem_map.1 ae;exact MV s x λav e=>by
       subst e;have hm:=sE km;have:some (aX.c av)∈xs.map some:=mem_map.2 ⟨_,ag,rfl⟩;rw[<-hm]at this;obtain⟨o,_,a1⟩:=mem_map.1 this;cases o with
       |const v=>simp only[dz,Option.map_eq_some_iff]at a1;obtain⟨c,ai,e⟩:=a1;cases e;exact GI ai
       |tmp n=>simp[dz]at a1
       |func g=>simp[dz]at a1
       |global g=>simp[dz]at a1
     .obtain⟨k,hk⟩:=getElem?_of_mem ae;exact CV gS hk
    have xK:=On (C:=C) ax (ps:=ps) (vs:=mT.toList.map a.eval++arr.toList) (f:=g) (r:=r) (by simpa using en)
     (λi p v al aD=>⟨eA p.a (by rw[<-ab];exact mem_map.2 ⟨p,mem_of_getElem? al,rfl⟩),l2 i p.a v (by simp[al]) aD⟩) ay aT
     (λFc jg dI a8 iQ al=>by
      refine bp w Fc jg dI _ (by rw[<-en];simp) ?_ al;obtain⟨b,Z8,fr,aI,aM,aP⟩:=Z7;refine⟨b,Z8,fr,?_,?_,a8 b aP,λag=>by obtain⟨u,hu⟩:=iQ b ag;exact ax.ep u b hu aP⟩
      .rw[getD_eq_getElem?_getD,getElem?_append_right (by omega),hlen,Nat.add_sub_cancel_left,<-getD_eq_getElem?_getD];exact aI
      .rw[aM,<-hlen,drop_left])
     bX bM
    rcases xK with⟨cY,bl⟩|⟨v,aq,cY,br,aJ,bl,cz⟩
    .rw[cY,Oper.upon_enter];refine Calls.mono bl ?_;rintro e aq ⟨v,rfl,br,aJ,bT,b2⟩;exact aN _ _ _ dy (Rel.put iX dr hz bT b2.1 ae)
    .rw[cY,Oper.upon_value];exact aN _ _ _ dy (Rel.put iX dr hz bl cz.1 ae)
   .cases bH
  .split at bH
   .simp only[Option.map_eq_some_iff]at bH;obtain⟨_,_,bH⟩:=bH;cases bH
   .cases bH
  .split at bH
   .simp only[Option.map_eq_some_iff]at bH;obtain⟨_,_,bH⟩:=bH;cases bH
   .cases bH
  iterate 3
   .split at bH
    .split at bH<;>cases bH
    .cases bH
  .cases bH
 |makeFunc fn first cs=>
  cases fn<;>simp only[cP]at bH<;>first|(cases bH;done)|(split at bH<;>simp at bH)
 |slice T x eK ak eI=>
  cases eI<;>simp only[cP]at bH<;>first|(cases bH;done)|(split at bH<;>simp at bH)
 |makeMap T r=>cases r<;>simp only[cP]at bH<;>simp at bH
 |lookup T x i c=>cases c<;>simp only[cP]at bH<;>first|(cases bH;done)|(split at bH<;>simp at bH)
 |_=>simp only[cP]at bH<;>first|(cases bH;done)|(simp at bH;done)|(split at bH<;>simp at bH)
theorem Qn {op:Op} {T:TypeId} {x:aX} (h:cP op=some (.ld T x)):∃y,op= .load T y/\dz y=some x:=by
 cases op with
 |load xJ y=>
  simp only[cP,Option.map_eq_some_iff]at h;obtain⟨cF,ag,h⟩:=h;cases h;exact⟨y,rfl,ag⟩
 |call c=>
  obtain⟨callee,mT,argTypes⟩:=c;simp only[cP]at h;split at h<;>(try split at h)<;>(try split at h)<;>(try simp[Option.map_eq_some_iff]at h)
 |makeFunc fn first cs=>
  cases fn<;>simp only[cP]at h<;>first|(cases h;done)|(split at h<;>simp at h)
 |slice T x eK ak eI=>
  cases eI<;>simp only[cP]at h<;>first|(cases h;done)|(split at h<;>simp at h)
 |makeMap T r=>cases r<;>simp only[cP]at h<;>simp at h
 |lookup T x i c=>cases c<;>simp only[cP]at h<;>first|(cases h;done)|(split at h<;>simp at h)
 |_=>simp only[cP]at h<;>first|(cases h;done)|(simp at h;done)|(split at h<;>simp at h)
theorem Qo {y:Operand} {k:Nat} (h:dz y=some (.t k)):y= .tmp k:=by
 cases y with
 |tmp t=>simp only[dz,Option.some.injEq,aX.t.injEq]at h;rw[h]
 |const v=>simp only[dz,Option.map_eq_some_iff]at h;obtain⟨c,_,h⟩:=h;cases h
 |func g=>simp[dz]at h
 |global g=>simp[dz]at h
def sR (k:Nat) (s:an) (j:Nat):I:=if j=k then .ref .hole else mi j (s j)
theorem Z9 {au:Nat->Value} {b k:Nat} {v:Value} {ty:TypeId} {fr:Nat×Nat} (ax:bq w0 F0 X F S s au w) (hk:au k= .pointer (some ⟨b,0,none⟩)) (R:F b) (ai:w.heap[b]? =some (.cells #[v] ty fr)) (h1:Value.eJ v=true):
  ∀cs:anU,cV w F s au (cs.map (sR k s)) (cs.map au)/\I.dS (cs.map (sR k s))=true:=by
 intro cs;induction cs with
 |nil=>exact⟨by rw[map_nil,map_nil,cV],rfl⟩
 |cons j cs ih=>
  simp only[map_cons];have bo:aF w F s au (sR k s j) (au j) (λ_=>False)/\(sR k s j).plain=true:=by
   unfold sR;split
   .rename_i e;subst e;rw[hk];refine⟨(aF.b_ rfl).2 ⟨rfl,?_⟩,rfl⟩;rw[ar];refine⟨b,0,[v],rfl,R,?_,?_⟩
    .intro i c ak;cases i with
     |zero=>simp at ak;subst ak;simp[World.cell?,ai]
     |succ i=>simp at ak
    .rw[ar];exact⟨v,h1,rfl⟩
   .unfold mi;split
    .rename_i al;exact⟨aF.nothing al (ax.cD j),al⟩
    .rename_i al;refine⟨?_,rfl⟩;rw[aF];intro d ae al;simp only[I.sub,Option.some.injEq]at ae;subst ae;have aL:(s j).tree=true:=by
      cases U:s j<;>first|rfl|(rw[U]at al;simp[I.plain]at al)
     exact⟨_,none,rfl,rfl,((aF.b_ aL).1 (ax.cD j)).1⟩
  refine⟨?_,?_⟩
  .rw[cV];exact⟨_,_,rfl,bo.1,ih.1⟩
  .simp only[I.dS,bo.2,ih.2,Bool.and_self]
theorem Z_ (bb:C.Ok) {id:Nat} {ops:Array Oper} {T:TypeId} {k k0 d0:Nat} {m rest:List bt} {args:List aX} {d1:Option Nat} {g:FuncId} {cs:anU} {b:Nat} {ty:TypeId} {fr:Nat×Nat} {K:an->Prop}
  (j9:kN n ops ops.toList=some ((⟨some d0,.ld T (.t k),none⟩::(m++⟨d1,.call (.t d0) args,none⟩::rest):List bt).map bt.un))
  (fK:(C.T T).flat=true) (hm:∀r∈m,∀d,r.dst=some d->d≠d0/\d∉cs) (om:d0∉cs) (Ig:cs[k0]? =some k)
  (iX:a.defers=[]) (dr:a.tmps.size=n.n) (hz:∀i∈n.fx,a.tmps.getD i undef=ρ i) (ax:bq w0 F0 X F S s (λt=>a.tmps.getD t undef) w)
  (R:F b) (hk:a.tmps.getD k undef= .pointer (some ⟨b,0,none⟩)) (oj:w.heap[b]? =some (.cells #[.func (.func g) #[] (cs.map λj=>a.tmps.getD j undef).toArray] ty fr))
  (h:iq C (fin s (some d0) .hole) m λs1=>∃ps r,ps.map (·.a)=args.map (a6 s1)++cs.map (sR k s1)/\(∀p∈ps,p.ok s1)/\gE ps=true/\
   sP C g args.length (args.length+k0) (ps.map (·.d)) r (ps.map (·.o))/\r.res=true/\(hx ps=true->r.ch=true/\∀p∈ps,p.o.ch=true)/\iq C (fin (fE (ea s1 ps) ps) d1 r) rest K)
  (aN:∀aA bN aq,K aA->Rel w0 F0 X n ρ aA bN aq->Q .normal bN aq):(Code.region id ops false).wp C.P Q a w:=by
 obtain⟨hl,jD⟩:=xL j9;have AX:∀(i:Nat) (r:bt),(⟨some d0,.ld T (.t k),none⟩::(m++⟨d1,.call (.t d0) args,none⟩::rest):List bt)[i]? =some r->∃o,ops[i]? =some o/\lh n ops o=some r.un:=by
  intro i r ak;have cp:i<ops.toList.length:=by
   rw[hl,length_map];exact(List.getElem?_eq_some_iff.1 ak).1
  obtain⟨gj,h1,ab⟩:=jD i _ (getElem?_eq_getElem cp);rw[getElem?_map,ak]at h1;simp only[Option.map_some,Option.some.injEq]at h1;exact⟨_,by rw[<-Array.getElem?_toList];exact getElem?_eq_getElem cp,by rw[h1];exact ab⟩
 have x2:∀{r:bt} {o:Oper},r.guard=none->lh n ops o=some r.un->r.dst=o.dst/\o.guard=none/\qw o.op=r.bz.base/\kM n o.dst=true:=by
  intro r o hg h;unfold lh at h;split at h
  .rename_i ae;split at h
   .rename_i jG hc;simp only[bt.un,Option.some.injEq,bt.mk.injEq]at h;obtain⟨aI,aM,aP⟩:=h;refine⟨aI.symm,?_,aM,ae⟩;rw[aP,hg]at hc;cases a1:o.guard with
    |none=>rfl
    |some HC=>
     rw[a1]at hc;simp only[An]at hc;split at hc<;>cases hc
   .cases h
  .cases h
 have x3:ops.size=m.length+rest.length+2:=by
  have:ops.toList.length=ops.size:=by simp
  rw[<-this,hl];simp;omega
 have AY:range ops.size=0::((range m.length).map (·+1)++((m.length+1)::(range rest.length).map (·+(m.length+2)))):=by
  rw[x3,show m.length+rest.length+2=(m.length+rest.length+1)+1 from rfl,range_succ_eq_map];congr 1;rw[show m.length+rest.length+1=m.length+(rest.length+1) by omega,range_add,map_append,range_succ_eq_map];simp only[List.map_map,map_cons,Nat.add_zero];congr 1;congr 1;apply map_congr_left;intro x _;simp;omega
 obtain⟨my,DY,ir⟩:=AX 0 _ rfl;obtain⟨eH,eB,gD,gK⟩:=x2 rfl ir;change qw my.op= .ld T (.t k)at gD;have kT:cP my.op=some (.ld T (.t k)):=by
  rcases rJ gD with h|h
  .cases h
  .exact h
 obtain⟨y,hy,Ih⟩:=Qn kT;have:=Qo Ih;subst this;let rU:Value:=.func (.func g) #[] (cs.map λj=>a.tmps.getD j undef).toArray
 have jQ:Rd w b 0 [rU]:=by
  intro i c ak;cases i with
  |zero=>simp at ak;subst ak;simp[World.cell?,oj,rU]
  |succ i=>simp at ak
 refine wp_region ?_;rw[AY];simp only[wpOps,DY];show(if Region.wanted my (yielded ops a.tmps)=true then my.wp C.P a w _ Q\/(my.asks C.P a w/\LetsOut Q)else _);rw[if_pos (Ar eB)];left;have qx:(execOp a.eval my).run C.P w= .ok (.value rU) w:=by
  obtain⟨dst,op,ty,pos,after,guard⟩:=my;simp only at hy;subst hy;have:a.eval (.tmp k)= .pointer (some ⟨b,0,none⟩):=hk;simp[execOp,this,Instr.loadAt,Instr.sureAddr,GQ bb fK jQ]
 unfold Oper.wp;rw[qx,Oper.upon_value];have AZ:some d0=my.dst:=eH;rw[<-AZ]at gK⊢;let J:Act:=a.put (some d0) rU
 let jW:Fr:=⟨n.n,d0::k::(cs++n.fx)⟩
 let ρ1:Nat->Value:=λt=>J.tmps.getD t undef
 have A0:k∈cs:=mem_of_getElem? Ig;have vt:=ax.base;have Ii:Rel w F (λb=>∃u,S u b) ⟨n.n,[]⟩ ρ1 (fin s (some d0) .hole) J w:=
  Rel.put (n:=⟨n.n,[]⟩) iX dr (λi ak=>by cases ak) vt (.inl ⟨rfl,by rw[aF];trivial⟩) (by
   simp only[kM,Bool.and_eq_true,decide_eq_true_eq]at gK⊢;exact⟨gK.1,by simp⟩)
 have rV:Rel w F (λb=>∃u,S u b) jW ρ1 (fin s (some d0) .hole) J w:=⟨Ii.defers,Ii.size,λi _=>rfl,Ii.rel⟩
 have A1:∀t,t≠d0->ρ1 t=a.tmps.getD t undef:=by
  intro t aL;have:=congrFun (Dv (n:=n) (dst:=some d0) (a:=a) rU dr gK).1 t;simp only[oi]at this;rw[ju _ _ aL]at this;exact this
 have Ij:ρ1 d0=rU:=by
  have:=congrFun (Dv (n:=n) (dst:=some d0) (a:=a) rU dr gK).1 d0;simp only[oi]at this;rw[nv]at this;exact this
 have hw:=x1 C _ m [⟨some d0,.ld T (.t k),none⟩] (⟨d1,.call (.t d0) args,none⟩::rest) _ h;have mid:∀aA bN aq,(∃ps r,ps.map (·.a)=args.map (a6 aA)++cs.map (sR k aA)/\(∀p∈ps,p.ok aA)/\gE ps=true/\
   sP C g args.length (args.length+k0) (ps.map (·.d)) r (ps.map (·.o))/\r.res=true/\(hx ps=true->r.ch=true/\∀p∈ps,p.o.ch=true)/\iq C (fin (fE (ea aA ps) ps) d1 r) rest K)->
   Rel w F (λb=>∃u,S u b) jW ρ1 aA bN aq->wpOps C.P ops Q ((m.length+1)::(range rest.length).map (·+(m.length+2))) bN aq:=by
  rintro s2 a2 mz ⟨ps,r,aI,aM,aP,bK,cg,bP,bL⟩ ⟨g1,g2,g3,mr,cH,g4⟩;obtain⟨nI,vQ,og⟩:=AX (m.length+1) ⟨d1,.call (.t d0) args,none⟩ (by simp);obtain⟨eF,fk,hp,xo⟩:=x2 rfl og;simp only[wpOps,vQ];show(if Region.wanted nI (yielded ops a2.tmps)=true then nI.wp C.P a2 mz _ Q\/(nI.asks C.P a2 mz/\LetsOut Q)else _);rw[if_pos (Ar fk)];left;change qw nI.op= .call (.t d0) args at hp;have A2:cP nI.op=some (.call (.t d0) args):=by
   rcases rJ hp with h|h
   .cases h
   .exact h
  have Qp:mr b:=g4.fl b R;have Qq:mz.heap[b]? =some (.cells #[rU] ty fr):=by
   rw[g4.old b (ax.dV b R) (λ⟨u,hu⟩=>ax.ep u b hu R)];exact oj
  have Qr:∀j∈cs,a2.tmps.getD j undef=a.tmps.getD j undef:=by
   intro j bo;rw[g3 j (by simp[jW,bo])];exact A1 j (λe=>om (e▸bo))
  have oW:a2.tmps.getD k undef= .pointer (some ⟨b,0,none⟩):=(Qr k A0).trans hk;have Qs:(cs.map λj=>a.tmps.getD j undef)=cs.map λj=>a2.tmps.getD j undef:=map_congr_left λj bo=>(Qr j bo).symm;obtain⟨c1,c2⟩:=Z9 (k:=k) g4 oW Qp Qq rfl cs;have vv:∀aA bN aq,iq C aA rest K->Rel w F (λb=>∃u,S u b) ⟨n.n,n.fx⟩ ρ aA bN aq->wpOps C.P ops Q ((range rest.length).map (·+(m.length+2))) bN aq:=by
   intro gz a3 mA ay vR;have rM:=x1 C K rest ((⟨some d0,.ld T (.t k),none⟩::m)++[⟨d1,.call (.t d0) args,none⟩]) [] gz ay;have:=vB (Q:=Q) bb (ops:=ops) (ros:=((⟨some d0,.ld T (.t k),none⟩::m)++[⟨d1,.call (.t d0) args,none⟩])++(rest++[])) (l2:=[]) (K:=K) (λaA bN aq j8 dA=>by
     obtain⟨oA,z2,z3,aaa,ou,z4⟩:=dA;exact aN aA bN aq j8 ⟨oA,z2,z3,aaa,ou,ax.Qm z4⟩) ((range rest.length).map (·+(m.length+2))) (λi ak=>by
      have sK:((⟨some d0,.ld T (.t k),none⟩::m)++[⟨d1,.call (.t d0) args,none⟩])++(rest++[])=(⟨some d0,.ld T (.t k),none⟩::(m++⟨d1,.call (.t d0) args,none⟩::rest):List bt):=by simp
      rw[sK];refine⟨λiR=>?_,λo a1=>?_⟩
      .rw[List.getElem?_eq_none_iff];have:=Array.getElem?_eq_none_iff.1 iR;simp;omega
      .obtain⟨az,gW,ab⟩:=jD i o (by simpa using a1);obtain⟨r,h1,rfl⟩:∃r,(⟨some d0,.ld T (.t k),none⟩::(m++⟨d1,.call (.t d0) args,none⟩::rest):List bt)[i]? =some r/\r.un=az:=by
        rw[getElem?_map,Option.map_eq_some_iff]at gW;exact gW
       exact⟨r,h1,ab⟩) gz a3 mA (by
      have e:((⟨some d0,.ld T (.t k),none⟩::m)++[⟨d1,.call (.t d0) args,none⟩]:List bt).length=m.length+2:=by simp
      rw[e]at rM;exact rM) vR
   rwa [append_nil]at this
  have aab:∀i∈n.fx,a2.tmps.getD i undef=ρ i:=by
   intro i ak;rw[g3 i (by simp[jW,ak]),A1 i (λe=>?_)]
   .exact hz i ak
   .simp only[kM,Bool.and_eq_true,Bool.not_eq_true',contains_eq_mem,decide_eq_false_iff_not]at gK;exact gK.2 (e▸ak)
  have vP:k0<cs.length:=(List.getElem?_eq_some_iff.1 Ig).1;have A3:nI.dst=d1:=eF.symm;exact Z6 (n:=n) (ρ:=ρ) (K:=λaA=>iq C aA rest K) g1 g2 aab g4 A2 xo
   (arr:=(cs.map λj=>a2.tmps.getD j undef).toArray) (k:=k0) (caps:=cs.map (sR k s2)) (g:=g) (ps:=ps) (r:=r)
   (by rw[g3 d0 (by simp[jW]),Ij];simp only[rU,Qs]) (by simpa using c1) c2
   ⟨b,ty,fr,by
     rw[getD_eq_getElem?_getD,getElem?_map,Ig];exact oW,by rw[Qq];simp only[rU,Qs],Qp⟩ (by simpa using vP)
   aI aM aP bK cg bP (by rw[A3];exact bL) vv
 have:=vB (Q:=Q) bb (ops:=ops) (ros:=[⟨some d0,.ld T (.t k),none⟩]++(m++⟨d1,.call (.t d0) args,none⟩::rest)) (l2:=(m.length+1)::(range rest.length).map (·+(m.length+2))) mid
  ((range m.length).map (·+1)) (λi ak=>by
    obtain⟨j,bo,rfl⟩:=mem_map.1 ak;have x4:j<m.length:=mem_range.1 bo;refine⟨λiR=>?_,λo a1=>?_⟩
    .have:=Array.getElem?_eq_none_iff.1 iR;omega
    .obtain⟨kj,AL,gO⟩:=AX (j+1) m[j] (by
      simp only[getElem?_cons_succ];rw[getElem?_append_left x4,getElem?_eq_getElem x4])
     have heq:kj=o:=by rw[AL]at a1;exact Option.some.inj a1
     subst heq;refine⟨m[j],by
      simp only[singleton_append,getElem?_cons_succ];rw[getElem?_append_left x4,getElem?_eq_getElem x4],?_⟩
     have Ik:=hm m[j] (getElem_mem x4);unfold lh at gO⊢;split at gO
     .rename_i ae;rw[if_pos]
      .exact gO
      .cases vS:kj.dst with
       |none=>rfl
       |some d=>
        rw[vS]at ae;simp only[kM,Bool.and_eq_true,decide_eq_true_eq,Bool.not_eq_true',contains_eq_mem,decide_eq_false_iff_not]at ae⊢;refine⟨ae.1,?_⟩;have sI:m[j].dst=some d:=by
         split at gO
         .simp only[bt.un,Option.some.injEq,bt.mk.injEq]at gO;rw[<-gO.1,vS]
         .cases gO
        obtain⟨m1,m2⟩:=Ik d sI;simp only[jW,mem_cons,mem_append,not_or];exact⟨m1,λe=>m2 (e▸A0),m2,ae.2⟩
     .cases gO) (fin s (some d0) .hole) J w (by simpa using hw) rV
 exact this
def aac (C:bx) (f:FuncId) (k k0:Nat) (cs:anU) (args:List aX) (d1:Option Nat) (rest:List bt) (keep:anU) (P:anY->Prop) (s1:an):Prop:=
 ∃ps r,ps.map (·.a)=args.map (a6 s1)++cs.map (sR k s1)/\(∀p∈ps,p.ok s1)/\gE ps=true/\
  sP C f args.length (args.length+k0) (ps.map (·.d)) r (ps.map (·.o))/\r.res=true/\(hx ps=true->r.ch=true/\∀p∈ps,p.o.ch=true)/\
  cq C (fin (fE (ea s1 ps) ps) d1 r) rest none (λ_ s=>P (fo keep s))
def aad (C:bx) (f:FuncId) (k k0 d0:Nat) (cs:anU) (m:List bt) (args:List aX) (d1:Option Nat) (rest:List bt) (keep:anU) (P:anY->Prop) (s:an):Prop:=
 cq C (fin s (some d0) .hole) m none λ_ s1=>aac C f k k0 cs args d1 rest keep P s1
def aae (C:bx) (f:FuncId) (k k0 d0:Nat) (cs:anU) (m:List bt) (args:List aX) (d1:Option Nat) (rest:List bt) (keep:anU) (K:an->Prop) (s:an):Prop:=
 aad C f k k0 d0 cs m args d1 rest keep (λl=>K (aj l)) s
def Il (f:Nat->Bool) (m:List bt):Bool:=m.all λr=>match r.dst with
 |none=>true
 |some d=>f d
theorem Qt {f:Nat->Bool} {m:List bt} (h:Il f m=true):∀r∈m,∀d,r.dst=some d->f d=true:=by
 intro r ax d ae;have:=List.all_eq_true.1 h r ax;rw[ae]at this;exact this
theorem DZ (k:anU) (s:an):vD s (fo k s):=by
 intro p al;obtain⟨t,_,rfl⟩:=mem_map.1 al;exact .inl rfl
def aaf (C:bx) (f:FuncId) (k k0 d0:Nat) (cs:anU) (m:List bt) (args:List aX) (d1:Option Nat) (rest:List bt) (keep:anU):(Exit->an->Prop)->an->Prop:=
 λQ s=>aae C f k k0 d0 cs m args d1 rest keep (Q .normal) s
def aag (T:TypeId) (k d0:Nat) (m:List bt) (args:List aX) (d1:Option Nat) (rest:List bt):aH:=
 .ew (⟨some d0,.ld T (.t k),none⟩::(m++⟨d1,.call (.t d0) args,none⟩::rest)) none
theorem aah (vs:anX):∀(m n:Nat),m+n=vs.length->vs.drop m=((range n).map (·+m)).map λj=>vs.getD j undef:=by
 intro m n h;apply ext_getElem?;intro i;rw[getElem?_drop,List.map_map,getElem?_map];by_cases ak:i<n
 .rw[getElem?_range ak,getElem?_eq_getElem (by omega)];simp only[Option.map_some,Function.comp];rw[getD_eq_getElem?_getD,getElem?_eq_getElem (by omega)];simp only[Option.getD_some,Option.some.injEq];congr 1;omega
 .rw[getElem?_eq_none (by omega),getElem?_eq_none (by simp;omega)];rfl
theorem D0 {c:Code} {rs:List bt} (h:fh n c=some (.ew rs none)):∃id ops,c= .region id ops false/\kN n ops ops.toList=some rs:=by
 cases c with
 |region id ops draw=>
  cases draw with
  |false=>
   simp only[fh]at h;split at h
   .rename_i r h1;cases h;exact⟨id,ops,rfl,h1⟩
   .cases h
  |true=>
   simp only[fh]at h;split at h
   .simp only[Option.map_eq_some_iff]at h;obtain⟨r,h1,ab⟩:=h;cases ab
   .cases h
 |seq a b=>simp only[fh]at h;split at h<;>cases h
 |cond c a b=>simp only[fh]at h;split at h<;>cases h
 |block id b=>simp only[fh,Option.map_eq_some_iff]at h;obtain⟨r,h1,ab⟩:=h;cases ab
 |loop b=>simp only[fh,Option.map_eq_some_iff]at h;obtain⟨r,h1,ab⟩:=h;cases ab
 |_=>simp[fh]at h
def Im (C:bx) (f:FuncId) (fx:anU) (aai m k:Nat) (T:(Exit->an->Prop)->an->Prop) (b:aH):Prop:=
 ∃(ty:TypeId) (k0 d0 o9:Nat) (kh:List bt) (args:List aX) (d1:Option Nat) (rest:List bt) (keep:anU),
  T=aaf C f k k0 d0 ((range o9).map (·+m)) kh args d1 rest keep/\b=aag ty k d0 kh args d1 rest/\(C.T ty).flat=true/\Il (λd=>d !=d0&&decide (m+o9<=d)) kh=true/\decide (m+o9<=d0)=true/\
  decide (k0<o9)=true/\k=m+k0/\((range o9).all λj=>fx.contains (m+j))=true/\args.length=m/\m+o9=aai
theorem sP.of_wp (bb:C.Ok) {f:FuncId} {fn:Func} {c:Code} {dM:aH} {fx:anU} {as outs:anZ} {r:I} {k m:Nat} (bc:C.P.funcs[f]? =some fn) (R:fn.body=some c)
  (jV:(fn.name== "runtime.NumGoroutine")=false) (U:fh ⟨fn.ntmps,fx⟩ c=some dM.strip) (aN:as.length<=fn.ntmps)
  (hk:dM.lN (Im C f fx as.length m k))
  (h:∀Q:Exit->an->Prop,(∀s,di (Ends C fx fn.results.toList r outs) s->Q .ret s)->(∀s,di (Ends C fx fn.results.toList r outs) s->Q .normal s)->bh C dM Q (aj (num 0 as))):sP C f m k as r outs:=by
 rintro w F X S vs hl ⟨b,aaj,fr,aI,aM,aP,bK⟩ ax;refine AG (fx:=fx) bb bc R jV aN hl ax λa hrel dW=>?_;refine AE bb (H:=Im C f fx as.length m k) ?_ c (by rw[aH.AA];exact U) (aH.AB dM hk) (AD dM ?_) hrel
 .rintro c T e8 Q s J mB ⟨ty,k0,d0,o9,kh,args,d1,rest,keep,rfl,rfl,fK,hm,om,D1,hk,hz,hlen,amB⟩ kT aak ⟨g1,g2,g3,tP,bR,g4⟩;replace hm:∀r∈kh,∀d,r.dst=some d->d≠d0/\m+o9<=d:=λr ax d ae=>by
   have:=Qt hm r ax d ae;simpa using this
  replace om:=of_decide_eq_true om;replace D1:=of_decide_eq_true D1;replace hz:∀j,j<o9->m+j∈fx:=λj bo=>by
   have:=List.all_eq_true.1 hz j (mem_range.2 bo);simpa using this
  obtain⟨id,ops,rfl,j9⟩:=D0 kT;have Qu:∀j,j<o9->J.tmps.getD (j+m) undef=vs.getD (j+m) undef:=λj bo=>by
   rw[Nat.add_comm];exact g3 _ (hz j bo)
  have fZ:((range o9).map (·+m)).map (λj=>J.tmps.getD j undef)=vs.drop m:=by
   rw[aah vs m o9 (by omega),List.map_map,List.map_map];apply map_congr_left;intro j bo;exact Qu j (mem_range.1 bo)
  refine Z_ (Q:=o3 w F X ⟨fn.ntmps,fx⟩ (fs vs) Q) (K:=di (Q .normal)) (b:=b) (ty:=aaj) (fr:=fr) (g:=f) (k0:=k0) (cs:=(range o9).map (·+m)) bb j9 fK (λr ax d ae=>⟨(hm r ax d ae).1,λlk=>?_⟩) (λlk=>?_) ?_ g1 g2 g3 g4 (g4.fl b aP) ?_ ?_ ?_ (λaA bN aq hk dA=>dA.di hk)
  .obtain⟨j,bo,rfl⟩:=mem_map.1 lk;have:=(hm r ax _ ae).2;have:=mem_range.1 bo;omega
  .obtain⟨j,bo,e⟩:=mem_map.1 lk;have:=mem_range.1 bo;omega
  .rw[getElem?_map,getElem?_range D1,hk];simp[Nat.add_comm]
  .rw[hk,Nat.add_comm,Qu k0 D1,Nat.add_comm,<-hk];exact aI
  .rw[fZ,g4.old b (ax.dV b aP) bK];exact aM
  .refine rO (λ_ s1=>?_) aak;rintro⟨ps,r,eH,eB,gD,gK,xp,Aq,HB⟩;exact⟨ps,r,eH,eB,gD,gK,xp,Aq,rO (λ_ s h=>.inr ⟨_,DZ _ _,h⟩) HB⟩
 .rw[xO];exact h _ (λs h=>⟨.inr rfl,h⟩) (λs h=>⟨.inl rfl,h⟩)
end
end Go.cC
