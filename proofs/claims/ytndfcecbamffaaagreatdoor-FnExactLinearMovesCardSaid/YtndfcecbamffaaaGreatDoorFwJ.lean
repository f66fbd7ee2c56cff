/- Part of a proof that a law returns true for every input. No condition. -/
import Derived.Test.YtndfcecbamffaaaGreatDoorFwI
namespace Go.cG
open List Go.IntKind Nat Or
def ql (C:bz) (f:FuncId) (m k:Nat) (as:acj) (r:j) (outs:acj):Prop:=
 ∀(w:World) (F X:Nat->Prop) (S:Nat->Nat->Prop) (vs:ach),vs.length=as.length->
  (∃b ty fr,vs.getD k undef= .pointer (some ⟨b,0,none⟩)/\w.heap[b]? =some (.cells #[.func (.func f) #[] (vs.drop m).toArray] ty fr)/\F b/\¬X b)->
  bm w F X F S (eo as) (fi vs) w->
  jA C.P f vs.toArray w λv au=>∃bh aG,bm w F X bh aG (eo (r::outs)) (fi (v::vs)) au
section
variable {C:bz} {w0 w:World} {F0 X F bh:Nat->Prop} {S aG:Nat->Nat->Prop} {n:Fr} {ρ:Nat->Value} {s aq:ag} {an gP:Nat->Value} {a:Act} {av:j} {Q:Exit->Act->World->Prop} {au:World}
theorem bm.base (h:bm w0 F0 X F S s an w):bm w F (λb=>∃u,S u b) F S s an w where
 ff:=λ_ h=>h
 fI:=λ_ h=>.inl h
 dP:=h.dP
 dt:=h.dt
 eh:=h.eh
 dW:=h.dW
 cS:=λu b I=>.inl ⟨u,I⟩
 cz:=h.cz
 old:=λ_ _ _=>rfl
 size:=Nat.le_refl _
 os:=rfl
 tape:=rfl
 output:=Out.refl _
 fu:=h.fu.next h.size h.old λb ⟨u,hu⟩=>h.cS u b hu
theorem bm.Kj (h:bm w0 F0 X F S s an w) (bC:bm w F (λb=>∃u,S u b) bh aG aq gP au):bm w0 F0 X bh aG aq gP au where
 ff:=λb I=>bC.ff b (h.ff b I)
 fI:=λb I=>by
  rcases bC.fI b I with I|⟨u,I⟩|I
  .exact h.fI b I
  .exact .inr (h.cS u b I)
  .exact .inr (.inr (Nat.le_trans h.size I))
 dP:=bC.dP
 dt:=bC.dt
 eh:=bC.eh
 dW:=bC.dW
 cS:=λu b I=>by
  rcases bC.cS u b I with⟨u,I⟩|I
  .exact h.cS u b I
  .exact .inr (Nat.le_trans h.size I)
 cz:=bC.cz
 old:=λb I ib=>by
  refine(bC.old b (Nat.lt_of_lt_of_le I h.size) λ⟨u,hu⟩=>?_).trans (h.old b I ib);rcases h.cS u b hu with ae|ae
  .exact ib ae
  .omega
 size:=Nat.le_trans h.size bC.size
 os:=bC.os.trans h.os
 tape:=bC.tape.trans h.tape
 output:=bC.output.trans h.output
 fu:=h.fu
inductive qm:acj->acj->Prop
 |nil:qm [] []
 |eq {a:j} {as bs:acj}:a.J=[]->qm as bs->qm (a::as) (a::bs)
 |wd {a b:j} {as bs:acj}:ew a b->a.tree=true->b.J=[]->qm as bs->qm (a::as) (b::bs)
theorem qm.get:∀{as bs:acj},qm as bs->∀p k,p∈num k bs->p.2.J=[]/\∃a,as[p.1-k]? =some a/\k<=p.1/\(p.2=a\/(a.tree=true/\ew a p.2))
 |_,_,.nil,p,k,ai=>by simp[num]at ai
 |_,_,.eq (a:=a) h hw,p,k,ai=>by
  simp only[num,mem_cons]at ai;rcases ai with rfl|ai
  .exact⟨h,a,by simp,Nat.le_refl _,.inl rfl⟩
  .obtain⟨R,x,U,aw,aQ⟩:=hw.get p (k+1) ai;refine⟨R,x,?_,by omega,aQ⟩;rw[show p.1-k=(p.1-(k+1))+1 by omega,getElem?_cons_succ];exact U
 |_,_,.wd (a:=a) h aK I hw,p,k,ai=>by
  simp only[num,mem_cons]at ai;rcases ai with rfl|ai
  .exact⟨I,a,by simp,Nat.le_refl _,.inr ⟨aK,h⟩⟩
  .obtain⟨R,x,U,aw,aQ⟩:=hw.get p (k+1) ai;refine⟨R,x,?_,by omega,aQ⟩;rw[show p.1-k=(p.1-(k+1))+1 by omega,getElem?_cons_succ];exact U
theorem qm.len:∀{as bs:acj},qm as bs->bs.length=as.length
 |_,_,.nil=>rfl
 |_,_,.eq _ hw=>by simp[hw.len]
 |_,_,.wd _ _ _ hw=>by simp[hw.len]
theorem uH (C:bz) (K:ag->Prop):∀(rs pre post:List bn) (s:ag),hp C s rs K->iY C (pre++(rs++post)) s ((range rs.length).map (·+pre.length)) K:=by
 intro rs;induction rs with
 |nil=>intro pre post s h;exact h
 |cons r rs ih=>
  intro pre post s h;rw[length_cons,range_succ_eq_map,map_cons,List.map_map];simp only[iY,Nat.zero_add];rw[getElem?_append_right (Nat.le_refl _)];simp only[Nat.sub_self,cons_append,getElem?_cons_zero];have key:∀s1,hp C s1 rs K->iY C (pre++r::(rs++post)) s1 ((range rs.length).map ((λx=>x+pre.length)∘succ)) K:=by
   intro s1 R;have:=ih (pre++[r]) post s1 R;simp only[append_assoc,singleton_append,length_append,length_singleton]at this;have e:((λx=>x+pre.length)∘succ)=λx=>x+(pre.length+1):=by funext x;simp;omega
   rw[e];exact this
  simp only[hp]at h;exact CO h key
theorem Sc (hJ:a.defers=[]) (dm:a.tmps.size=n.n) (gF:∀i∈n.fx,a.tmps.getD i undef=ρ i) (aD:bm w0 F0 X F S s (λt=>a.tmps.getD t undef) w)
  {o:Oper} {d0 k:Nat} {args:List aR} {g:FuncId} {caps:acj} {arr:Array Value} {ps:List bX} {r:j} (bB:cB o.op=some (.call (.t d0) args)) (ad:jB n o.dst=true)
  (aE:a.tmps.getD d0 undef= .func (.func g) #[] arr) (aj:cJ w F s (λt=>a.tmps.getD t undef) caps arr.toList) (gd:j.dj caps=true)
  (Sd:∃b ty fr,(arr.toList).getD k undef= .pointer (some ⟨b,0,none⟩)/\w.heap[b]? =some (.cells #[.func (.func g) #[] arr] ty fr)/\F b) (Kk:k<arr.size)
  (U:ps.map (·.a)=args.map (a7 s)++caps) (aw:∀p∈ps,p.ok s) (aQ:fL ps=true) (bk:ql C g args.length (args.length+k) (ps.map (·.d)) r (ps.map (·.o))) (bS:r.res=true)
  (bL:gE ps=true->r.b5=true/\∀p∈ps,p.o.b5=true) {K:ag->Prop} {next:Act->World->Prop} (da:K (fin (eV (dx s ps) ps) o.dst r))
  (aO:∀aq bG au,K aq->Rel w0 F0 X n ρ aq bG au->next bG au):o.wp C.P a w next Q:=by
 obtain⟨dst,op,ty,pos,after,guard⟩:=o;simp only at bB ad da;cases op with
 |call c=>
  obtain⟨callee,la,argTypes⟩:=c;simp only[cB]at bB;split at bB
  .split at bB
   .rename_i qd _ _ Ii xs bf mP;simp only[Option.some.injEq,de.call.injEq]at bB;obtain⟨rfl,rfl⟩:=bB;have sg:qd= .tmp d0:=by
     cases qd with
     |tmp t=>simp only[c2,Option.some.injEq,aR.t.injEq]at bf;rw[bf]
     |const v=>simp only[c2,Option.map_eq_some_iff]at bf;obtain⟨c,_,bf⟩:=bf;cases bf
     |func g=>simp[c2]at bf
     |global g=>simp[c2]at bf
    subst sg;have om:execOp a.eval {dst,op:=.call {callee:=.value (.tmp d0),args:=la,argTypes},type:=ty,pos,after,guard}=callFunc g ((la.toList.map a.eval++arr.toList).toArray):=by
     have:a.eval (.tmp d0)= .func (.func g) #[] arr:=aE;simp only[execOp,resolve,this,Deferred.ofValue,pure_bind,invoke];congr 1;apply Array.ext';simp
    unfold Oper.wp;rw[om];have hlen:(la.toList.map a.eval).length=xs.length:=by
     have:=congrArg length (qa mP);simpa using this
    have wF:cJ w F s (λt=>a.tmps.getD t undef) (xs.map (a7 s)++caps) (la.toList.map a.eval++arr.toList):=wE (wm aD (λ_=>rfl) _ _ (qa mP)) aj;rw[<-U]at wF;obtain⟨eQ,l2⟩:=ui wF;have dQ:∀d∈xs.map (a7 s)++caps,d.plain=true:=by
     intro d ad;rcases mem_append.1 ad with ad|ad
     .obtain⟨x,ae,rfl⟩:=mem_map.1 ad;exact GO s x λav e=>by
       subst e;have hm:=qa mP;have:some (aR.c av)∈xs.map some:=mem_map.2 ⟨_,ae,rfl⟩;rw[<-hm]at this;obtain⟨o,_,a_⟩:=mem_map.1 this;cases o with
       |const v=>simp only[c2,Option.map_eq_some_iff]at a_;obtain⟨c,aj,e⟩:=a_;cases e;exact BJ aj
       |tmp n=>simp[c2]at a_
       |func g=>simp[c2]at a_
       |global g=>simp[c2]at a_
     .obtain⟨k,ak⟩:=getElem?_of_mem ad;exact yB gd ak
    have CE:=Ig (C:=C) aD (ps:=ps) (vs:=la.toList.map a.eval++arr.toList) (f:=g) (r:=r) (by simpa using eQ)
     (λi p v ai aE=>⟨dQ p.a (by rw[<-U];exact mem_map.2 ⟨p,mem_of_getElem? ai,rfl⟩),l2 i p.a v (by simp[ai]) aE⟩) aw aQ
     (λFc hX dd aZ ib ai=>by
      refine bk w Fc hX dd _ (by rw[<-eQ];simp) ?_ ai;obtain⟨b,Se,fr,aH,aN,aP⟩:=Sd;refine⟨b,Se,fr,?_,?_,aZ b aP,λae=>by obtain⟨u,hu⟩:=ib b ae;exact aD.eh u b hu aP⟩
      .rw[getD_eq_getElem?_getD,getElem?_append_right (by omega),hlen,Nat.add_sub_cancel_left,<-getD_eq_getElem?_getD];exact aH
      .rw[aN,<-hlen,drop_left])
     bS bL
    rcases CE with⟨cQ,bl⟩|⟨v,au,cQ,bh,aG,bl,cA⟩
    .rw[cQ,Oper.upon_enter];refine Calls.mono bl ?_;rintro e au ⟨v,rfl,bh,aG,bO,b1⟩;exact aO _ _ _ da (Rel.put hJ dm gF bO b1.1 ad)
    .rw[cQ,Oper.upon_value];exact aO _ _ _ da (Rel.put hJ dm gF bl cA.1 ad)
   .cases bB
  .split at bB
   .simp only[Option.map_eq_some_iff]at bB;obtain⟨_,_,bB⟩:=bB;cases bB
   .cases bB
  .split at bB
   .simp only[Option.map_eq_some_iff]at bB;obtain⟨_,_,bB⟩:=bB;cases bB
   .cases bB
  iterate 3
   .split at bB
    .split at bB<;>cases bB
    .cases bB
  .cases bB
 |makeFunc fn first cs=>
  cases fn<;>simp only[cB]at bB<;>first|(cases bB;done)|(split at bB<;>simp at bB)
 |slice T x dY ax gz=>
  cases gz<;>simp only[cB]at bB<;>first|(cases bB;done)|(split at bB<;>simp at bB)
 |makeMap T r=>cases r<;>simp only[cB]at bB<;>simp at bB
 |lookup T x i c=>cases c<;>simp only[cB]at bB<;>first|(cases bB;done)|(split at bB<;>simp at bB)
 |_=>simp only[cB]at bB<;>first|(cases bB;done)|(simp at bB;done)|(split at bB<;>simp at bB)
theorem Kl {op:Op} {T:TypeId} {x:aR} (h:cB op=some (.dU T x)):∃y,op= .load T y/\c2 y=some x:=by
 cases op with
 |load uj y=>
  simp only[cB,Option.map_eq_some_iff]at h;obtain⟨cy,ae,h⟩:=h;cases h;exact⟨y,rfl,ae⟩
 |call c=>
  obtain⟨callee,la,argTypes⟩:=c;simp only[cB]at h;split at h<;>(try split at h)<;>(try split at h)<;>(try simp[Option.map_eq_some_iff]at h)
 |makeFunc fn first cs=>
  cases fn<;>simp only[cB]at h<;>first|(cases h;done)|(split at h<;>simp at h)
 |slice T x dY ax gz=>
  cases gz<;>simp only[cB]at h<;>first|(cases h;done)|(split at h<;>simp at h)
 |makeMap T r=>cases r<;>simp only[cB]at h<;>simp at h
 |lookup T x i c=>cases c<;>simp only[cB]at h<;>first|(cases h;done)|(split at h<;>simp at h)
 |_=>simp only[cB]at h<;>first|(cases h;done)|(simp at h;done)|(split at h<;>simp at h)
theorem Km {y:Operand} {k:Nat} (h:c2 y=some (.t k)):y= .tmp k:=by
 cases y with
 |tmp t=>simp only[c2,Option.some.injEq,aR.t.injEq]at h;rw[h]
 |const v=>simp only[c2,Option.map_eq_some_iff]at h;obtain⟨c,_,h⟩:=h;cases h
 |func g=>simp[c2]at h
 |global g=>simp[c2]at h
def qn (k:Nat) (s:ag) (aB:Nat):j:=if aB=k then .ref .hole else kC aB (s aB)
theorem Sf {an:Nat->Value} {b k:Nat} {v:Value} {ty:TypeId} {fr:Nat×Nat} (aD:bm w0 F0 X F S s an w) (ak:an k= .pointer (some ⟨b,0,none⟩)) (I:F b) (aj:w.heap[b]? =some (.cells #[v] ty fr)) (R:Value.ej v=true):
  ∀cs:ace,cJ w F s an (cs.map (qn k s)) (cs.map an)/\j.dj (cs.map (qn k s))=true:=by
 intro cs;induction cs with
 |nil=>exact⟨by rw[map_nil,map_nil,cJ],rfl⟩
 |cons aB cs ih=>
  simp only[map_cons];have cp:az w F s an (qn k s aB) (an aB) (λ_=>False)/\(qn k s aB).plain=true:=by
   unfold qn;split
   .rename_i e;subst e;rw[ak];refine⟨(az.b8 rfl).2 ⟨rfl,?_⟩,rfl⟩;rw[al];refine⟨b,0,[v],rfl,I,?_,?_⟩
    .intro i c ax;cases i with
     |zero=>simp at ax;subst ax;simp[World.cell?,aj]
     |succ i=>simp at ax
    .rw[al];exact⟨v,R,rfl⟩
   .unfold kC;split
    .rename_i ai;exact⟨az.nothing ai (aD.cz aB),ai⟩
    .rename_i ai;refine⟨?_,rfl⟩;rw[az];intro d ad ai;simp only[j.sub,Option.some.injEq]at ad;subst ad;have aK:(s aB).tree=true:=by
      cases J:s aB<;>first|rfl|(rw[J]at ai;simp[j.plain]at ai)
     exact⟨_,none,rfl,rfl,((az.b8 aK).1 (aD.cz aB)).1⟩
  refine⟨?_,?_⟩
  .rw[cJ];exact⟨_,_,rfl,cp.1,ih.1⟩
  .simp only[j.dj,cp.2,ih.2,Bool.and_self]
theorem Sg (a1:C.du) {id:Nat} {ops:Array Oper} {T:TypeId} {k k0 d0:Nat} {m rest:List bn} {args:List aR} {d1:Option Nat} {g:FuncId} {cs:ace} {b:Nat} {ty:TypeId} {fr:Nat×Nat} {K:ag->Prop}
  (iO:jC n ops ops.toList=some ((⟨some d0,.dU T (.t k),none⟩::(m++⟨d1,.call (.t d0) args,none⟩::rest):List bn).map bn.un))
  (e1:(C.T T).flat=true) (hm:∀r∈m,∀d,r.dst=some d->d≠d0/\d∉cs) (mf:d0∉cs) (Dh:cs[k0]? =some k)
  (hJ:a.defers=[]) (dm:a.tmps.size=n.n) (gF:∀i∈n.fx,a.tmps.getD i undef=ρ i) (aD:bm w0 F0 X F S s (λt=>a.tmps.getD t undef) w)
  (I:F b) (ak:a.tmps.getD k undef= .pointer (some ⟨b,0,none⟩)) (sa:w.heap[b]? =some (.cells #[.func (.func g) #[] (cs.map λaB=>a.tmps.getD aB undef).toArray] ty fr))
  (h:hp C (fin s (some d0) .hole) m λs1=>∃ps r,ps.map (·.a)=args.map (a7 s1)++cs.map (qn k s1)/\(∀p∈ps,p.ok s1)/\fL ps=true/\
   ql C g args.length (args.length+k0) (ps.map (·.d)) r (ps.map (·.o))/\r.res=true/\(gE ps=true->r.b5=true/\∀p∈ps,p.o.b5=true)/\hp C (fin (eV (dx s1 ps) ps) d1 r) rest K)
  (aO:∀aq bG au,K aq->Rel w0 F0 X n ρ aq bG au->Q .normal bG au):(Code.region id ops false).wp C.P Q a w:=by
 obtain⟨hl,kb⟩:=uk iO;have w9:∀(i:Nat) (r:bn),(⟨some d0,.dU T (.t k),none⟩::(m++⟨d1,.call (.t d0) args,none⟩::rest):List bn)[i]? =some r->∃o,ops[i]? =some o/\jT n ops o=some r.un:=by
  intro i r ax;have cW:i<ops.toList.length:=by
   rw[hl,length_map];exact(List.getElem?_eq_some_iff.1 ax).1
  obtain⟨gl,R,U⟩:=kb i _ (getElem?_eq_getElem cW);rw[getElem?_map,ax]at R;simp only[Option.map_some,Option.some.injEq]at R;exact⟨_,by rw[<-Array.getElem?_toList];exact getElem?_eq_getElem cW,by rw[R];exact U⟩
 have uI:∀{r:bn} {o:Oper},r.guard=none->jT n ops o=some r.un->r.dst=o.dst/\o.guard=none/\oj o.op=r.bq.base/\jB n o.dst=true:=by
  intro r o bo h;unfold jT at h;split at h
  .rename_i ad;split at h
   .rename_i iE gR;simp only[bn.un,Option.some.injEq,bn.mk.injEq]at h;obtain⟨aH,aN,aP⟩:=h;refine⟨aH.symm,?_,aN,ad⟩;rw[aP,bo]at gR;cases a_:o.guard with
    |none=>rfl
    |some CH=>
     rw[a_]at gR;simp only[wD]at gR;split at gR<;>cases gR
   .cases h
  .cases h
 have uJ:ops.size=m.length+rest.length+2:=by
  have:ops.toList.length=ops.size:=by simp
  rw[<-this,hl];simp;omega
 have w_:range ops.size=0::((range m.length).map (·+1)++((m.length+1)::(range rest.length).map (·+(m.length+2)))):=by
  rw[uJ,show m.length+rest.length+2=(m.length+rest.length+1)+1 from rfl,range_succ_eq_map];congr 1;rw[show m.length+rest.length+1=m.length+(rest.length+1) by omega,range_add,map_append,range_succ_eq_map];simp only[List.map_map,map_cons,Nat.add_zero];congr 1;congr 1;apply map_congr_left;intro x _;simp;omega
 obtain⟨kO,zv,hY⟩:=w9 0 _ rfl;obtain⟨eR,eu,ga,fS⟩:=uI rfl hY;change oj kO.op= .dU T (.t k)at ga;have nT:cB kO.op=some (.dU T (.t k)):=by
  rcases pj ga with h|h
  .cases h
  .exact h
 obtain⟨y,a6,Di⟩:=Kl nT;have:=Km Di;subst this;let pB:Value:=.func (.func g) #[] (cs.map λaB=>a.tmps.getD aB undef).toArray
 have iy:gJ w b 0 [pB]:=by
  intro i c ax;cases i with
  |zero=>simp at ax;subst ax;simp[World.cell?,sa,pB]
  |succ i=>simp at ax
 refine wp_region ?_;rw[w_];simp only[wpOps,zv];show(if Region.wanted kO (yielded ops a.tmps)=true then kO.wp C.P a w _ Q\/(kO.asks C.P a w/\LetsOut Q)else _);rw[if_pos (wH eu)];left;have om:(execOp a.eval kO).run C.P w= .ok (.value pB) w:=by
  obtain⟨dst,op,ty,pos,after,guard⟩:=kO;simp only at a6;subst a6;have:a.eval (.tmp k)= .pointer (some ⟨b,0,none⟩):=ak;simp[execOp,this,Instr.loadAt,Instr.sureAddr,BR a1 e1 iy]
 unfold Oper.wp;rw[om,Oper.upon_value];have Dj:some d0=kO.dst:=eR;rw[<-Dj]at fS⊢;let aa:Act:=a.put (some d0) pB
 let i_:Fr:=⟨n.n,d0::k::(cs++n.fx)⟩
 let ρ1:Nat->Value:=λt=>aa.tmps.getD t undef
 have Kn:k∈cs:=mem_of_getElem? Dh;have so:=aD.base;have Dk:Rel w F (λb=>∃u,S u b) ⟨n.n,[]⟩ ρ1 (fin s (some d0) .hole) aa w:=
  Rel.put (n:=⟨n.n,[]⟩) hJ dm (λi ax=>by cases ax) so (.inl ⟨rfl,by rw[az];trivial⟩) (by
   simp only[jB,Bool.and_eq_true,decide_eq_true_eq]at fS⊢;exact⟨fS.1,by simp⟩)
 have pC:Rel w F (λb=>∃u,S u b) i_ ρ1 (fin s (some d0) .hole) aa w:=⟨Dk.defers,Dk.size,λi _=>rfl,Dk.rel⟩
 have xa:∀t,t≠d0->ρ1 t=a.tmps.getD t undef:=by
  intro t aK;have:=congrFun (za (n:=n) (dst:=some d0) (a:=a) pB dm fS).1 t;simp only[mc]at this;rw[ia _ _ aK]at this;exact this
 have Dl:ρ1 d0=pB:=by
  have:=congrFun (za (n:=n) (dst:=some d0) (a:=a) pB dm fS).1 d0;simp only[mc]at this;rw[lA]at this;exact this
 have hw:=uH C _ m [⟨some d0,.dU T (.t k),none⟩] (⟨d1,.call (.t d0) args,none⟩::rest) _ h;have mid:∀aq bG au,(∃ps r,ps.map (·.a)=args.map (a7 aq)++cs.map (qn k aq)/\(∀p∈ps,p.ok aq)/\fL ps=true/\
   ql C g args.length (args.length+k0) (ps.map (·.d)) r (ps.map (·.o))/\r.res=true/\(gE ps=true->r.b5=true/\∀p∈ps,p.o.b5=true)/\hp C (fin (eV (dx aq ps) ps) d1 r) rest K)->
   Rel w F (λb=>∃u,S u b) i_ ρ1 aq bG au->wpOps C.P ops Q ((m.length+1)::(range rest.length).map (·+(m.length+2))) bG au:=by
  rintro s2 a2 lP ⟨ps,r,aH,aN,aP,bQ,b_,bM,bH⟩ ⟨g1,g2,g3,lI,cI,g4⟩;obtain⟨lQ,sR,ma⟩:=w9 (m.length+1) ⟨d1,.call (.t d0) args,none⟩ (by simp);obtain⟨e0,f_,gA,tT⟩:=uI rfl ma;simp only[wpOps,sR];show(if Region.wanted lQ (yielded ops a2.tmps)=true then lQ.wp C.P a2 lP _ Q\/(lQ.asks C.P a2 lP/\LetsOut Q)else _);rw[if_pos (wH f_)];left;change oj lQ.op= .call (.t d0) args at gA;have xb:cB lQ.op=some (.call (.t d0) args):=by
   rcases pj gA with h|h
   .cases h
   .exact h
  have Ko:lI b:=g4.ff b I;have Kp:lP.heap[b]? =some (.cells #[pB] ty fr):=by
   rw[g4.old b (aD.dP b I) (λ⟨u,hu⟩=>aD.eh u b hu I)];exact sa
  have Kq:∀aB∈cs,a2.tmps.getD aB undef=a.tmps.getD aB undef:=by
   intro aB cp;rw[g3 aB (by simp[i_,cp])];exact xa aB (λe=>mf (e▸cp))
  have mH:a2.tmps.getD k undef= .pointer (some ⟨b,0,none⟩):=(Kq k Kn).trans ak;have Kr:(cs.map λaB=>a.tmps.getD aB undef)=cs.map λaB=>a2.tmps.getD aB undef:=map_congr_left λaB cp=>(Kq aB cp).symm;obtain⟨bK,bJ⟩:=Sf (k:=k) g4 mH Ko Kp rfl cs;have ss:∀aq bG au,hp C aq rest K->Rel w F (λb=>∃u,S u b) ⟨n.n,n.fx⟩ ρ aq bG au->wpOps C.P ops Q ((range rest.length).map (·+(m.length+2))) bG au:=by
   intro fD a3 mu aw sS;have pq:=uH C K rest ((⟨some d0,.dU T (.t k),none⟩::m)++[⟨d1,.call (.t d0) args,none⟩]) [] fD aw;have:=sB (Q:=Q) a1 (ops:=ops) (ros:=((⟨some d0,.dU T (.t k),none⟩::m)++[⟨d1,.call (.t d0) args,none⟩])++(rest++[])) (l2:=[]) (K:=K) (λaq bG au iM c3=>by
     obtain⟨mv,z2,z3,Sh,yO,z4⟩:=c3;exact aO aq bG au iM ⟨mv,z2,z3,Sh,yO,aD.Kj z4⟩) ((range rest.length).map (·+(m.length+2))) (λi ax=>by
      have qg:((⟨some d0,.dU T (.t k),none⟩::m)++[⟨d1,.call (.t d0) args,none⟩])++(rest++[])=(⟨some d0,.dU T (.t k),none⟩::(m++⟨d1,.call (.t d0) args,none⟩::rest):List bn):=by simp
      rw[qg];refine⟨λic=>?_,λo a_=>?_⟩
      .rw[List.getElem?_eq_none_iff];have:=Array.getElem?_eq_none_iff.1 ic;simp;omega
      .obtain⟨aF,gu,U⟩:=kb i o (by simpa using a_);obtain⟨r,R,rfl⟩:∃r,(⟨some d0,.dU T (.t k),none⟩::(m++⟨d1,.call (.t d0) args,none⟩::rest):List bn)[i]? =some r/\r.un=aF:=by
        rw[getElem?_map,Option.map_eq_some_iff]at gu;exact gu
       exact⟨r,R,U⟩) fD a3 mu (by
      have e:((⟨some d0,.dU T (.t k),none⟩::m)++[⟨d1,.call (.t d0) args,none⟩]:List bn).length=m.length+2:=by simp
      rw[e]at pq;exact pq) sS
   rwa [append_nil]at this
  have Si:∀i∈n.fx,a2.tmps.getD i undef=ρ i:=by
   intro i ax;rw[g3 i (by simp[i_,ax]),xa i (λe=>?_)]
   .exact gF i ax
   .simp only[jB,Bool.and_eq_true,Bool.not_eq_true',contains_eq_mem,decide_eq_false_iff_not]at fS;exact fS.2 (e▸ax)
  have Kk:k0<cs.length:=(List.getElem?_eq_some_iff.1 Dh).1;have xc:lQ.dst=d1:=e0.symm;exact Sc (n:=n) (ρ:=ρ) (K:=λaq=>hp C aq rest K) g1 g2 Si g4 xb tT
   (arr:=(cs.map λaB=>a2.tmps.getD aB undef).toArray) (k:=k0) (caps:=cs.map (qn k s2)) (g:=g) (ps:=ps) (r:=r)
   (by rw[g3 d0 (by simp[i_]),Dl];simp only[pB,Kr]) (by simpa using bK) bJ
   ⟨b,ty,fr,by
     rw[getD_eq_getElem?_getD,getElem?_map,Dh];exact mH,by rw[Kp];simp only[pB,Kr],Ko⟩ (by simpa using Kk)
   aH aN aP bQ b_ bM (by rw[xc];exact bH) ss
 have:=sB (Q:=Q) a1 (ops:=ops) (ros:=[⟨some d0,.dU T (.t k),none⟩]++(m++⟨d1,.call (.t d0) args,none⟩::rest)) (l2:=(m.length+1)::(range rest.length).map (·+(m.length+2))) mid
  ((range m.length).map (·+1)) (λi ax=>by
    obtain⟨aB,cp,rfl⟩:=mem_map.1 ax;have uK:aB<m.length:=mem_range.1 cp;refine⟨λic=>?_,λo a_=>?_⟩
    .have:=Array.getElem?_eq_none_iff.1 ic;omega
    .obtain⟨iW,wY,fV⟩:=w9 (aB+1) m[aB] (by
      simp only[getElem?_cons_succ];rw[getElem?_append_left uK,getElem?_eq_getElem uK])
     have heq:iW=o:=by rw[wY]at a_;exact Option.some.inj a_
     subst heq;refine⟨m[aB],by
      simp only[singleton_append,getElem?_cons_succ];rw[getElem?_append_left uK,getElem?_eq_getElem uK],?_⟩
     have Dm:=hm m[aB] (getElem_mem uK);unfold jT at fV⊢;split at fV
     .rename_i ad;rw[if_pos]
      .exact fV
      .cases sT:iW.dst with
       |none=>rfl
       |some d=>
        rw[sT]at ad;simp only[jB,Bool.and_eq_true,decide_eq_true_eq,Bool.not_eq_true',contains_eq_mem,decide_eq_false_iff_not]at ad⊢;refine⟨ad.1,?_⟩;have qe:m[aB].dst=some d:=by
         split at fV
         .simp only[bn.un,Option.some.injEq,bn.mk.injEq]at fV;rw[<-fV.1,sT]
         .cases fV
        obtain⟨m1,m2⟩:=Dm d qe;simp only[i_,mem_cons,mem_append,not_or];exact⟨m1,λe=>m2 (e▸Kn),m2,ad.2⟩
     .cases fV) (fin s (some d0) .hole) aa w (by simpa using hw) pC
 exact this
def Sj (C:bz) (f:FuncId) (k k0:Nat) (cs:ace) (args:List aR) (d1:Option Nat) (rest:List bn) (keep:ace) (P:aci->Prop) (s1:ag):Prop:=
 ∃ps r,ps.map (·.a)=args.map (a7 s1)++cs.map (qn k s1)/\(∀p∈ps,p.ok s1)/\fL ps=true/\
  ql C f args.length (args.length+k0) (ps.map (·.d)) r (ps.map (·.o))/\r.res=true/\(gE ps=true->r.b5=true/\∀p∈ps,p.o.b5=true)/\
  ch C (fin (eV (dx s1 ps) ps) d1 r) rest none (λ_ s=>P (eM keep s))
def Sk (C:bz) (f:FuncId) (k k0 d0:Nat) (cs:ace) (m:List bn) (args:List aR) (d1:Option Nat) (rest:List bn) (keep:ace) (P:aci->Prop) (s:ag):Prop:=
 ch C (fin s (some d0) .hole) m none λ_ s1=>Sj C f k k0 cs args d1 rest keep P s1
def Sl (C:bz) (f:FuncId) (k k0 d0:Nat) (cs:ace) (m:List bn) (args:List aR) (d1:Option Nat) (rest:List bn) (keep:ace) (K:ag->Prop) (s:ag):Prop:=
 Sk C f k k0 d0 cs m args d1 rest keep (λl=>K (ah l)) s
def Dn (f:Nat->Bool) (m:List bn):Bool:=m.all λr=>match r.dst with
 |none=>true
 |some d=>f d
theorem Ks {f:Nat->Bool} {m:List bn} (h:Dn f m=true):∀r∈m,∀d,r.dst=some d->f d=true:=by
 intro r aD d ad;have:=List.all_eq_true.1 h r aD;rw[ad]at this;exact this
theorem zw (k:ace) (s:ag):uo s (eM k s):=by
 intro p ai;obtain⟨t,_,rfl⟩:=mem_map.1 ai;exact .inl rfl
def Sm (C:bz) (f:FuncId) (k k0 d0:Nat) (cs:ace) (m:List bn) (args:List aR) (d1:Option Nat) (rest:List bn) (keep:ace):(Exit->ag->Prop)->ag->Prop:=
 λQ s=>Sl C f k k0 d0 cs m args d1 rest keep (Q .normal) s
def So (T:TypeId) (k d0:Nat) (m:List bn) (args:List aR) (d1:Option Nat) (rest:List bn):aI:=
 .dJ (⟨some d0,.dU T (.t k),none⟩::(m++⟨d1,.call (.t d0) args,none⟩::rest)) none
theorem Sp (vs:ach):∀(m n:Nat),m+n=vs.length->vs.drop m=((range n).map (·+m)).map λaB=>vs.getD aB undef:=by
 intro m n h;apply ext_getElem?;intro i;rw[getElem?_drop,List.map_map,getElem?_map];by_cases ax:i<n
 .rw[getElem?_range ax,getElem?_eq_getElem (by omega)];simp only[Option.map_some,Function.comp];rw[getD_eq_getElem?_getD,getElem?_eq_getElem (by omega)];simp only[Option.getD_some,Option.some.injEq];congr 1;omega
 .rw[getElem?_eq_none (by omega),getElem?_eq_none (by simp;omega)];rfl
theorem zx {c:Code} {rs:List bn} (h:eI n c=some (.dJ rs none)):∃id ops,c= .region id ops false/\jC n ops ops.toList=some rs:=by
 cases c with
 |region id ops draw=>
  cases draw with
  |false=>
   simp only[eI]at h;split at h
   .rename_i r R;cases h;exact⟨id,ops,rfl,R⟩
   .cases h
  |true=>
   simp only[eI]at h;split at h
   .simp only[Option.map_eq_some_iff]at h;obtain⟨r,R,U⟩:=h;cases U
   .cases h
 |seq a b=>simp only[eI]at h;split at h<;>cases h
 |cond c a b=>simp only[eI]at h;split at h<;>cases h
 |block id b=>simp only[eI,Option.map_eq_some_iff]at h;obtain⟨r,R,U⟩:=h;cases U
 |loop b=>simp only[eI,Option.map_eq_some_iff]at h;obtain⟨r,R,U⟩:=h;cases U
 |_=>simp[eI]at h
def Dp (C:bz) (f:FuncId) (fx:ace) (Sq m k:Nat) (T:(Exit->ag->Prop)->ag->Prop) (b:aI):Prop:=
 ∃(ty:TypeId) (k0 d0 mV:Nat) (iU:List bn) (args:List aR) (d1:Option Nat) (rest:List bn) (keep:ace),
  T=Sm C f k k0 d0 ((range mV).map (·+m)) iU args d1 rest keep/\b=So ty k d0 iU args d1 rest/\(C.T ty).flat=true/\Dn (λd=>d !=d0&&decide (m+mV<=d)) iU=true/\decide (m+mV<=d0)=true/\
  decide (k0<mV)=true/\k=m+k0/\((range mV).all λaB=>fx.contains (m+aB))=true/\args.length=m/\m+mV=Sq
theorem ql.of_wp (a1:C.du) {f:FuncId} {fn:Func} {c:Code} {df:aI} {fx:ace} {as outs:acj} {r:j} {k m:Nat} (bf:C.P.funcs[f]? =some fn) (I:fn.body=some c)
  (i7:(fn.name== "runtime.NumGoroutine")=false) (J:eI ⟨fn.ntmps,fx⟩ c=some df.strip) (aO:as.length<=fn.ntmps)
  (ak:df.kc (Dp C f fx as.length m k))
  (h:∀Q:Exit->ag->Prop,(∀s,c1 (Ends C fx fn.results.toList r outs) s->Q .ret s)->(∀s,c1 (Ends C fx fn.results.toList r outs) s->Q .normal s)->bw C df Q (ah (num 0 as))):ql C f m k as r outs:=by
 rintro w F X S vs hl ⟨b,Sr,fr,aH,aN,aP,bQ⟩ aD;refine wT (fx:=fx) a1 bf I i7 aO hl aD λa hrel dv=>?_;refine wR a1 (H:=Dp C f fx as.length m k) ?_ c (by rw[aI.wN];exact J) (aI.wO df ak) (wQ df ?_) hrel
 .rintro c T eA Q s aa kf ⟨ty,k0,d0,mV,iU,args,d1,rest,keep,rfl,rfl,e1,hm,mf,zy,ak,gF,hlen,aa_⟩ nT Ss ⟨g1,g2,g3,q8,bT,g4⟩;replace hm:∀r∈iU,∀d,r.dst=some d->d≠d0/\m+mV<=d:=λr aD d ad=>by
   have:=Ks hm r aD d ad;simpa using this
  replace mf:=of_decide_eq_true mf;replace zy:=of_decide_eq_true zy;replace gF:∀aB,aB<mV->m+aB∈fx:=λaB cp=>by
   have:=List.all_eq_true.1 gF aB (mem_range.2 cp);simpa using this
  obtain⟨id,ops,rfl,iO⟩:=zx nT;have Kt:∀aB,aB<mV->aa.tmps.getD (aB+m) undef=vs.getD (aB+m) undef:=λaB cp=>by
   rw[Nat.add_comm];exact g3 _ (gF aB cp)
  have gY:((range mV).map (·+m)).map (λaB=>aa.tmps.getD aB undef)=vs.drop m:=by
   rw[Sp vs m mV (by omega),List.map_map,List.map_map];apply map_congr_left;intro aB cp;exact Kt aB (mem_range.1 cp)
  refine Sg (Q:=mQ w F X ⟨fn.ntmps,fx⟩ (fi vs) Q) (K:=c1 (Q .normal)) (b:=b) (ty:=Sr) (fr:=fr) (g:=f) (k0:=k0) (cs:=(range mV).map (·+m)) a1 iO e1 (λr aD d ad=>⟨(hm r aD d ad).1,λxd=>?_⟩) (λxd=>?_) ?_ g1 g2 g3 g4 (g4.ff b aP) ?_ ?_ ?_ (λaq bG au ak c3=>c3.c1 ak)
  .obtain⟨aB,cp,rfl⟩:=mem_map.1 xd;have:=(hm r aD _ ad).2;have:=mem_range.1 cp;omega
  .obtain⟨aB,cp,e⟩:=mem_map.1 xd;have:=mem_range.1 cp;omega
  .rw[getElem?_map,getElem?_range zy,ak];simp[Nat.add_comm]
  .rw[ak,Nat.add_comm,Kt k0 zy,Nat.add_comm,<-ak];exact aH
  .rw[gY,g4.old b (aD.dP b aP) bQ];exact aN
  .refine pt (λ_ s1=>?_) Ss;rintro⟨ps,r,eR,eu,ga,fS,tU,wG,CG⟩;exact⟨ps,r,eR,eu,ga,fS,tU,wG,pt (λ_ s h=>.inr ⟨_,zw _ _,h⟩) CG⟩
 .rw[wV];exact h _ (λs h=>⟨.inr rfl,h⟩) (λs h=>⟨.inl rfl,h⟩)
end
end Go.cG
