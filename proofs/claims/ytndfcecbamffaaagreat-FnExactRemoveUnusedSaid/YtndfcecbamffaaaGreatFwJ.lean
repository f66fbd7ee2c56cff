/- Part of a proof that a law returns true for every input. No condition. -/
import Derived.Test.YtndfcecbamffaaaGreatFwI
namespace Go.cW
open List Go.IntKind Nat Or
def qa (C:bI) (f:FuncId) (m k:Nat) (as:abN) (r:j) (outs:abN):Prop:=
 ∀(w:World) (F X:Nat->Prop) (S:Nat->Nat->Prop) (vs:abL),vs.length=as.length->
  (∃b ty fr,vs.getD k undef= .pointer (some ⟨b,0,none⟩)/\w.heap[b]? =some (.cells #[.func (.func f) #[] (vs.drop m).toArray] ty fr)/\F b/\¬X b)->
  bu w F X F S (fc as) (fU vs) w->
  mh C.P f vs.toArray w λv ax=>∃bC aF,bu w F X bC aF (fc (r::outs)) (fU (v::vs)) ax
section
variable {C:bI} {w0 w:World} {F0 X F bC:Nat->Prop} {S aF:Nat->Nat->Prop} {n:Fr} {ρ:Nat->Value} {s aq:ah} {ao gT:Nat->Value} {a:Act} {av:j} {Q:Exit->Act->World->Prop} {ax:World}
theorem bu.base (h:bu w0 F0 X F S s ao w):bu w F (λb=>∃u,S u b) F S s ao w where
 fR:=λ_ h=>h
 gl:=λ_ h=>.inl h
 eu:=h.eu
 dD:=h.dD
 eW:=h.eW
 ev:=h.ev
 cN:=λu b J=>.inl ⟨u,J⟩
 cK:=h.cK
 old:=λ_ _ _=>rfl
 size:=Nat.le_refl _
 os:=rfl
 tape:=rfl
 output:=Out.refl _
 fL:=h.fL.next h.size h.old λb ⟨u,hu⟩=>h.cN u b hu
theorem bu.Si (h:bu w0 F0 X F S s ao w) (bz:bu w F (λb=>∃u,S u b) bC aF aq gT ax):bu w0 F0 X bC aF aq gT ax where
 fR:=λb J=>bz.fR b (h.fR b J)
 gl:=λb J=>by
  rcases bz.gl b J with J|⟨u,J⟩|J
  .exact h.gl b J
  .exact .inr (h.cN u b J)
  .exact .inr (.inr (Nat.le_trans h.size J))
 eu:=bz.eu
 dD:=bz.dD
 eW:=bz.eW
 ev:=bz.ev
 cN:=λu b J=>by
  rcases bz.cN u b J with⟨u,J⟩|J
  .exact h.cN u b J
  .exact .inr (Nat.le_trans h.size J)
 cK:=bz.cK
 old:=λb J ix=>by
  refine(bz.old b (Nat.lt_of_lt_of_le J h.size) λ⟨u,hu⟩=>?_).trans (h.old b J ix);rcases h.cN u b hu with ag|ag
  .exact ix ag
  .omega
 size:=Nat.le_trans h.size bz.size
 os:=bz.os.trans h.os
 tape:=bz.tape.trans h.tape
 output:=bz.output.trans h.output
 fL:=h.fL
inductive qb:abN->abN->Prop
 |nil:qb [] []
 |eq {a:j} {as jK:abN}:a.I=[]->qb as jK->qb (a::as) (a::jK)
 |wd {a b:j} {as jK:abN}:dW a b->a.tree=true->b.I=[]->qb as jK->qb (a::as) (b::jK)
theorem qb.get:∀{as jK:abN},qb as jK->∀p k,p∈num k jK->p.2.I=[]/\∃a,as[p.1-k]? =some a/\k<=p.1/\(p.2=a\/(a.tree=true/\dW a p.2))
 |_,_,.nil,p,k,al=>by simp[num]at al
 |_,_,.eq (a:=a) h hw,p,k,al=>by
  simp only[num,mem_cons]at al;rcases al with rfl|al
  .exact⟨h,a,by simp,Nat.le_refl _,.inl rfl⟩
  .obtain⟨R,x,U,aA,aU⟩:=hw.get p (k+1) al;refine⟨R,x,?_,by omega,aU⟩;rw[show p.1-k=(p.1-(k+1))+1 by omega,getElem?_cons_succ];exact U
 |_,_,.wd (a:=a) h aL J hw,p,k,al=>by
  simp only[num,mem_cons]at al;rcases al with rfl|al
  .exact⟨J,a,by simp,Nat.le_refl _,.inr ⟨aL,h⟩⟩
  .obtain⟨R,x,U,aA,aU⟩:=hw.get p (k+1) al;refine⟨R,x,?_,by omega,aU⟩;rw[show p.1-k=(p.1-(k+1))+1 by omega,getElem?_cons_succ];exact U
theorem qb.len:∀{as jK:abN},qb as jK->jK.length=as.length
 |_,_,.nil=>rfl
 |_,_,.eq _ hw=>by simp[hw.len]
 |_,_,.wd _ _ _ hw=>by simp[hw.len]
theorem zy (C:bI) (K:ah->Prop):∀(rs pre post:List bG) (s:ah),ic C s rs K->iV C (pre++(rs++post)) s ((range rs.length).map (·+pre.length)) K:=by
 intro rs;induction rs with
 |nil=>intro pre post s h;exact h
 |cons r rs ih=>
  intro pre post s h;rw[length_cons,range_succ_eq_map,map_cons,List.map_map];simp only[iV,Nat.zero_add];rw[getElem?_append_right (Nat.le_refl _)];simp only[Nat.sub_self,cons_append,getElem?_cons_zero];have key:∀s1,ic C s1 rs K->iV C (pre++r::(rs++post)) s1 ((range rs.length).map ((λx=>x+pre.length)∘succ)) K:=by
   intro s1 R;have:=ih (pre++[r]) post s1 R;simp only[append_assoc,singleton_append,length_append,length_singleton]at this;have e:((λx=>x+pre.length)∘succ)=λx=>x+(pre.length+1):=by funext x;simp;omega
   rw[e];exact this
  simp only[ic]at h;exact CJ h key
theorem Sj (hk:a.defers=[]) (cT:a.tmps.size=n.n) (gq:∀i∈n.fx,a.tmps.getD i undef=ρ i) (aN:bu w0 F0 X F S s (λt=>a.tmps.getD t undef) w)
  {o:Oper} {d0 k:Nat} {args:List aZ} {g:FuncId} {caps:abN} {arr:Array Value} {ps:List b_} {r:j} (bX:cC o.op=some (.call (.t d0) args)) (ae:ky n o.dst=true)
  (ay:a.tmps.getD d0 undef= .func (.func g) #[] arr) (aj:dk w F s (λt=>a.tmps.getD t undef) caps arr.toList) (fG:j.dF caps=true)
  (Sk:∃b ty fr,(arr.toList).getD k undef= .pointer (some ⟨b,0,none⟩)/\w.heap[b]? =some (.cells #[.func (.func g) #[] arr] ty fr)/\F b) (uu:k<arr.size)
  (U:ps.map (·.a)=args.map (aX s)++caps) (aA:∀p∈ps,p.ok s) (aU:gY ps=true) (bt:qa C g args.length (args.length+k) (ps.map (·.d)) r (ps.map (·.o))) (b5:r.res=true)
  (cd:iD ps=true->r.cL=true/\∀p∈ps,p.o.cL=true) {K:ah->Prop} {next:Act->World->Prop} (dQ:K (fin (gd (dV s ps) ps) o.dst r))
  (a7:∀aq b3 ax,K aq->Rel w0 F0 X n ρ aq b3 ax->next b3 ax):o.wp C.P a w next Q:=by
 obtain⟨dst,op,ty,pos,after,guard⟩:=o;simp only at bX ae dQ;cases op with
 |call c=>
  obtain⟨callee,nZ,argTypes⟩:=c;simp only[cC]at bX;split at bX
  .split at bX
   .rename_i wK _ _ Qc xs a6 nW;simp only[Option.some.injEq,c9.call.injEq]at bX;obtain⟨rfl,rfl⟩:=bX;have pX:wK= .tmp d0:=by
     cases wK with
     |tmp t=>simp only[cZ,Option.some.injEq,aZ.t.injEq]at a6;rw[a6]
     |const v=>simp only[cZ,Option.map_eq_some_iff]at a6;obtain⟨c,_,a6⟩:=a6;cases a6
     |func g=>simp[cZ]at a6
     |global g=>simp[cZ]at a6
    subst pX;have p7:execOp a.eval {dst,op:=.call {callee:=.value (.tmp d0),args:=nZ,argTypes},type:=ty,pos,after,guard}=callFunc g ((nZ.toList.map a.eval++arr.toList).toArray):=by
     have:a.eval (.tmp d0)= .func (.func g) #[] arr:=ay;simp only[execOp,resolve,this,Deferred.ofValue,pure_bind,invoke];congr 1;apply Array.ext';simp
    unfold Oper.wp;rw[p7];have hlen:(nZ.toList.map a.eval).length=xs.length:=by
     have:=congrArg length (r6 nW);simpa using this
    have wL:dk w F s (λt=>a.tmps.getD t undef) (xs.map (aX s)++caps) (nZ.toList.map a.eval++arr.toList):=ID (yZ aN (λ_=>rfl) _ _ (r6 nW)) aj;rw[<-U]at wL;obtain⟨en,l2⟩:=IE wL;have f_:∀d∈xs.map (aX s)++caps,d.plain=true:=by
     intro d ae;rcases mem_append.1 ae with ae|ae
     .obtain⟨x,ag,rfl⟩:=mem_map.1 ae;exact G2 s x λav e=>by
       subst e;have hm:=r6 nW;have:some (aZ.c av)∈xs.map some:=mem_map.2 ⟨_,ag,rfl⟩;rw[<-hm]at this;obtain⟨o,_,br⟩:=mem_map.1 this;cases o with
       |const v=>simp only[cZ,Option.map_eq_some_iff]at br;obtain⟨c,aj,e⟩:=br;cases e;exact Bx aj
       |tmp n=>simp[cZ]at br
       |func g=>simp[cZ]at br
       |global g=>simp[cZ]at br
     .obtain⟨k,ak⟩:=getElem?_of_mem ae;exact vT fG ak
    have Cy:=Iz (C:=C) aN (ps:=ps) (vs:=nZ.toList.map a.eval++arr.toList) (f:=g) (r:=r) (by simpa using en)
     (λi p v al ay=>⟨f_ p.a (by rw[<-U];exact mem_map.2 ⟨p,mem_of_getElem? al,rfl⟩),l2 i p.a v (by simp[al]) ay⟩) aA aU
     (λFc jn dj aY ix al=>by
      refine bt w Fc jn dj _ (by rw[<-en];simp) ?_ al;obtain⟨b,Sl,fr,aK,aV,a1⟩:=Sk;refine⟨b,Sl,fr,?_,?_,aY b a1,λag=>by obtain⟨u,hu⟩:=ix b ag;exact aN.eW u b hu a1⟩
      .rw[getD_eq_getElem?_getD,getElem?_append_right (by omega),hlen,Nat.add_sub_cancel_left,<-getD_eq_getElem?_getD];exact aK
      .rw[aV,<-hlen,drop_left])
     b5 cd
    rcases Cy with⟨dK,bL⟩|⟨v,ax,dK,bC,aF,bL,eZ⟩
    .rw[dK,Oper.upon_enter];refine Calls.mono bL ?_;rintro e ax ⟨v,rfl,bC,aF,bU,cc⟩;exact a7 _ _ _ dQ (Rel.put hk cT gq bU cc.1 ae)
    .rw[dK,Oper.upon_value];exact a7 _ _ _ dQ (Rel.put hk cT gq bL eZ.1 ae)
   .cases bX
  .split at bX
   .simp only[Option.map_eq_some_iff]at bX;obtain⟨_,_,bX⟩:=bX;cases bX
   .cases bX
  .split at bX
   .simp only[Option.map_eq_some_iff]at bX;obtain⟨_,_,bX⟩:=bX;cases bX
   .cases bX
  iterate 3
   .split at bX
    .split at bX<;>cases bX
    .cases bX
  .cases bX
 |makeFunc fn first cs=>
  cases fn<;>simp only[cC]at bX<;>first|(cases bX;done)|(split at bX<;>simp at bX)
 |slice T x dU aw gJ=>
  cases gJ<;>simp only[cC]at bX<;>first|(cases bX;done)|(split at bX<;>simp at bX)
 |makeMap T r=>cases r<;>simp only[cC]at bX<;>simp at bX
 |lookup T x i c=>cases c<;>simp only[cC]at bX<;>first|(cases bX;done)|(split at bX<;>simp at bX)
 |_=>simp only[cC]at bX<;>first|(cases bX;done)|(simp at bX;done)|(split at bX<;>simp at bX)
theorem Sm {op:Op} {T:TypeId} {x:aZ} (h:cC op=some (.e0 T x)):∃y,op= .load T y/\cZ y=some x:=by
 cases op with
 |load za y=>
  simp only[cC,Option.map_eq_some_iff]at h;obtain⟨cq,ag,h⟩:=h;cases h;exact⟨y,rfl,ag⟩
 |call c=>
  obtain⟨callee,nZ,argTypes⟩:=c;simp only[cC]at h;split at h<;>(try split at h)<;>(try split at h)<;>(try simp[Option.map_eq_some_iff]at h)
 |makeFunc fn first cs=>
  cases fn<;>simp only[cC]at h<;>first|(cases h;done)|(split at h<;>simp at h)
 |slice T x dU aw gJ=>
  cases gJ<;>simp only[cC]at h<;>first|(cases h;done)|(split at h<;>simp at h)
 |makeMap T r=>cases r<;>simp only[cC]at h<;>simp at h
 |lookup T x i c=>cases c<;>simp only[cC]at h<;>first|(cases h;done)|(split at h<;>simp at h)
 |_=>simp only[cC]at h<;>first|(cases h;done)|(simp at h;done)|(split at h<;>simp at h)
theorem Dn {y:Operand} {k:Nat} (h:cZ y=some (.t k)):y= .tmp k:=by
 cases y with
 |tmp t=>simp only[cZ,Option.some.injEq,aZ.t.injEq]at h;rw[h]
 |const v=>simp only[cZ,Option.map_eq_some_iff]at h;obtain⟨c,_,h⟩:=h;cases h
 |func g=>simp[cZ]at h
 |global g=>simp[cZ]at h
def qc (k:Nat) (s:ah) (au:Nat):j:=if au=k then .ref .hole else mT au (s au)
theorem Sp {ao:Nat->Value} {b k:Nat} {v:Value} {ty:TypeId} {fr:Nat×Nat} (aN:bu w0 F0 X F S s ao w) (ak:ao k= .pointer (some ⟨b,0,none⟩)) (J:F b) (aj:w.heap[b]? =some (.cells #[v] ty fr)) (R:Value.ft v=true):
  ∀cs:abI,dk w F s ao (cs.map (qc k s)) (cs.map ao)/\j.dF (cs.map (qc k s))=true:=by
 intro cs;induction cs with
 |nil=>exact⟨by rw[map_nil,map_nil,dk],rfl⟩
 |cons au cs ih=>
  simp only[map_cons];have bN:aB w F s ao (qc k s au) (ao au) (λ_=>False)/\(qc k s au).plain=true:=by
   unfold qc;split
   .rename_i e;subst e;rw[ak];refine⟨(aB.b4 rfl).2 ⟨rfl,?_⟩,rfl⟩;rw[ai];refine⟨b,0,[v],rfl,J,?_,?_⟩
    .intro i c aw;cases i with
     |zero=>simp at aw;subst aw;simp[World.cell?,aj]
     |succ i=>simp at aw
    .rw[ai];exact⟨v,R,rfl⟩
   .unfold mT;split
    .rename_i al;exact⟨aB.nothing al (aN.cK au),al⟩
    .rename_i al;refine⟨?_,rfl⟩;rw[aB];intro d ae al;simp only[j.sub,Option.some.injEq]at ae;subst ae;have aL:(s au).tree=true:=by
      cases I:s au<;>first|rfl|(rw[I]at al;simp[j.plain]at al)
     exact⟨_,none,rfl,rfl,((aB.b4 aL).1 (aN.cK au)).1⟩
  refine⟨?_,?_⟩
  .rw[dk];exact⟨_,_,rfl,bN.1,ih.1⟩
  .simp only[j.dF,bN.2,ih.2,Bool.and_self]
theorem Sq (a_:C.Ok) {id:Nat} {ops:Array Oper} {T:TypeId} {k k0 d0:Nat} {m rest:List bG} {args:List aZ} {d1:Option Nat} {g:FuncId} {cs:abI} {b:Nat} {ty:TypeId} {fr:Nat×Nat} {K:ah->Prop}
  (nc:nY n ops ops.toList=some ((⟨some d0,.e0 T (.t k),none⟩::(m++⟨d1,.call (.t d0) args,none⟩::rest):List bG).map bG.un))
  (fg:(C.T T).flat=true) (hm:∀r∈m,∀d,r.dst=some d->d≠d0/\d∉cs) (hc:d0∉cs) (Dp:cs[k0]? =some k)
  (hk:a.defers=[]) (cT:a.tmps.size=n.n) (gq:∀i∈n.fx,a.tmps.getD i undef=ρ i) (aN:bu w0 F0 X F S s (λt=>a.tmps.getD t undef) w)
  (J:F b) (ak:a.tmps.getD k undef= .pointer (some ⟨b,0,none⟩)) (yJ:w.heap[b]? =some (.cells #[.func (.func g) #[] (cs.map λau=>a.tmps.getD au undef).toArray] ty fr))
  (h:ic C (fin s (some d0) .hole) m λs1=>∃ps r,ps.map (·.a)=args.map (aX s1)++cs.map (qc k s1)/\(∀p∈ps,p.ok s1)/\gY ps=true/\
   qa C g args.length (args.length+k0) (ps.map (·.d)) r (ps.map (·.o))/\r.res=true/\(iD ps=true->r.cL=true/\∀p∈ps,p.o.cL=true)/\ic C (fin (gd (dV s1 ps) ps) d1 r) rest K)
  (a7:∀aq b3 ax,K aq->Rel w0 F0 X n ρ aq b3 ax->Q .normal b3 ax):(Code.region id ops false).wp C.P Q a w:=by
 obtain⟨hl,n0⟩:=zc nc;have xa:∀(i:Nat) (r:bG),(⟨some d0,.e0 T (.t k),none⟩::(m++⟨d1,.call (.t d0) args,none⟩::rest):List bG)[i]? =some r->∃o,ops[i]? =some o/\kz n ops o=some r.un:=by
  intro i r aw;have cB:i<ops.toList.length:=by
   rw[hl,length_map];exact(List.getElem?_eq_some_iff.1 aw).1
  obtain⟨gX,R,U⟩:=n0 i _ (getElem?_eq_getElem cB);rw[getElem?_map,aw]at R;simp only[Option.map_some,Option.some.injEq]at R;exact⟨_,by rw[<-Array.getElem?_toList];exact getElem?_eq_getElem cB,by rw[R];exact U⟩
 have Dq:∀{r:bG} {o:Oper},r.guard=none->kz n ops o=some r.un->r.dst=o.dst/\o.guard=none/\o2 o.op=r.bp.base/\ky n o.dst=true:=by
  intro r o bm h;unfold kz at h;split at h
  .rename_i ae;split at h
   .rename_i Ku fF;simp only[bG.un,Option.some.injEq,bG.mk.injEq]at h;obtain⟨aK,aV,a1⟩:=h;refine⟨aK.symm,?_,aV,ae⟩;rw[a1,bm]at fF;cases br:o.guard with
    |none=>rfl
    |some zf=>
     rw[br]at fF;simp only[tZ]at fF;split at fF<;>cases fF
   .cases h
  .cases h
 have Dr:ops.size=m.length+rest.length+2:=by
  have:ops.toList.length=ops.size:=by simp
  rw[<-this,hl];simp;omega
 have Ds:range ops.size=0::((range m.length).map (·+1)++((m.length+1)::(range rest.length).map (·+(m.length+2)))):=by
  rw[Dr,show m.length+rest.length+2=(m.length+rest.length+1)+1 from rfl,range_succ_eq_map];congr 1;rw[show m.length+rest.length+1=m.length+(rest.length+1) by omega,range_add,map_append,range_succ_eq_map];simp only[List.map_map,map_cons,Nat.add_zero];congr 1;congr 1;apply map_congr_left;intro x _;simp;omega
 obtain⟨ij,Sr,jr⟩:=xa 0 _ rfl;obtain⟨gb,fC,iR,hI⟩:=Dq rfl jr;change o2 ij.op= .e0 T (.t k)at iR;have sC:cC ij.op=some (.e0 T (.t k)):=by
  rcases o3 iR with h|h
  .cases h
  .exact h
 obtain⟨y,bh,Ss⟩:=Sm sC;have:=Dn Ss;subst this;let pe:Value:=.func (.func g) #[] (cs.map λau=>a.tmps.getD au undef).toArray
 have gR:Rd w b 0 [pe]:=by
  intro i c aw;cases i with
  |zero=>simp at aw;subst aw;simp[World.cell?,yJ,pe]
  |succ i=>simp at aw
 refine wp_region ?_;rw[Ds];simp only[wpOps,Sr];show(if Region.wanted ij (yielded ops a.tmps)=true then ij.wp C.P a w _ Q\/(ij.asks C.P a w/\LetsOut Q)else _);rw[if_pos (zd fC)];left;have p7:(execOp a.eval ij).run C.P w= .ok (.value pe) w:=by
  obtain⟨dst,op,ty,pos,after,guard⟩:=ij;simp only at bh;subst bh;have:a.eval (.tmp k)= .pointer (some ⟨b,0,none⟩):=ak;simp[execOp,this,Instr.loadAt,Instr.sureAddr,G8 a_ fg gR]
 unfold Oper.wp;rw[p7,Oper.upon_value];have St:some d0=ij.dst:=gb;rw[<-St]at hI⊢;let ab:Act:=a.put (some d0) pe
 let jW:Fr:=⟨n.n,d0::k::(cs++n.fx)⟩
 let ρ1:Nat->Value:=λt=>ab.tmps.getD t undef
 have Kv:k∈cs:=mem_of_getElem? Dp;have r0:=aN.base;have Dt:Rel w F (λb=>∃u,S u b) ⟨n.n,[]⟩ ρ1 (fin s (some d0) .hole) ab w:=
  Rel.put (n:=⟨n.n,[]⟩) hk cT (λi aw=>by cases aw) r0 (.inl ⟨rfl,by rw[aB];trivial⟩) (by
   simp only[ky,Bool.and_eq_true,decide_eq_true_eq]at hI⊢;exact⟨hI.1,by simp⟩)
 have Su:Rel w F (λb=>∃u,S u b) jW ρ1 (fin s (some d0) .hole) ab w:=⟨Dt.defers,Dt.size,λi _=>rfl,Dt.rel⟩
 have Kw:∀t,t≠d0->ρ1 t=a.tmps.getD t undef:=by
  intro t aL;have:=congrFun (Cx (n:=n) (dst:=some d0) (a:=a) pe cT hI).1 t;simp only[pS]at this;rw[hX _ _ aL]at this;exact this
 have Sv:ρ1 d0=pe:=by
  have:=congrFun (Cx (n:=n) (dst:=some d0) (a:=a) pe cT hI).1 d0;simp only[pS]at this;rw[ks]at this;exact this
 have hw:=zy C _ m [⟨some d0,.e0 T (.t k),none⟩] (⟨d1,.call (.t d0) args,none⟩::rest) _ h;have mid:∀aq b3 ax,(∃ps r,ps.map (·.a)=args.map (aX aq)++cs.map (qc k aq)/\(∀p∈ps,p.ok aq)/\gY ps=true/\
   qa C g args.length (args.length+k0) (ps.map (·.d)) r (ps.map (·.o))/\r.res=true/\(iD ps=true->r.cL=true/\∀p∈ps,p.o.cL=true)/\ic C (fin (gd (dV aq ps) ps) d1 r) rest K)->
   Rel w F (λb=>∃u,S u b) jW ρ1 aq b3 ax->wpOps C.P ops Q ((m.length+1)::(range rest.length).map (·+(m.length+2))) b3 ax:=by
  rintro s2 bF j0 ⟨ps,r,aK,aV,a1,b6,cH,bT,bK⟩ ⟨aQ,a2,bQ,k2,cS,c4⟩;obtain⟨iZ,Du,iO⟩:=xa (m.length+1) ⟨d1,.call (.t d0) args,none⟩ (by simp);obtain⟨dX,eG,fY,Hl⟩:=Dq rfl iO;simp only[wpOps,Du];show(if Region.wanted iZ (yielded ops bF.tmps)=true then iZ.wp C.P bF j0 _ Q\/(iZ.asks C.P bF j0/\LetsOut Q)else _);rw[if_pos (zd eG)];left;change o2 iZ.op= .call (.t d0) args at fY;have Sw:cC iZ.op=some (.call (.t d0) args):=by
   rcases o3 fY with h|h
   .cases h
   .exact h
  have Kx:k2 b:=c4.fR b J;have Ky:j0.heap[b]? =some (.cells #[pe] ty fr):=by
   rw[c4.old b (aN.eu b J) (λ⟨u,hu⟩=>aN.eW u b hu J)];exact yJ
  have Kz:∀au∈cs,bF.tmps.getD au undef=a.tmps.getD au undef:=by
   intro au bN;rw[bQ au (by simp[jW,bN])];exact Kw au (λe=>hc (e▸bN))
  have nJ:bF.tmps.getD k undef= .pointer (some ⟨b,0,none⟩):=(Kz k Kv).trans ak;have KA:(cs.map λau=>a.tmps.getD au undef)=cs.map λau=>bF.tmps.getD au undef:=map_congr_left λau bN=>(Kz au bN).symm;obtain⟨bD,bH⟩:=Sp (k:=k) c4 nJ Kx Ky rfl cs;have wv:∀aq b3 ax,ic C aq rest K->Rel w F (λb=>∃u,S u b) ⟨n.n,n.fx⟩ ρ aq b3 ax->wpOps C.P ops Q ((range rest.length).map (·+(m.length+2))) b3 ax:=by
   intro hM a3 pf aA Dv;have sm:=zy C K rest ((⟨some d0,.e0 T (.t k),none⟩::m)++[⟨d1,.call (.t d0) args,none⟩]) [] hM aA;have:=wN (Q:=Q) a_ (ops:=ops) (ros:=((⟨some d0,.e0 T (.t k),none⟩::m)++[⟨d1,.call (.t d0) args,none⟩])++(rest++[])) (l2:=[]) (K:=K) (λaq b3 ax hd dA=>by
     obtain⟨IC,Sy,z3,Sz,Hw,z4⟩:=dA;exact a7 aq b3 ax hd ⟨IC,Sy,z3,Sz,Hw,aN.Si z4⟩) ((range rest.length).map (·+(m.length+2))) (λi aw=>by
      have sj:((⟨some d0,.e0 T (.t k),none⟩::m)++[⟨d1,.call (.t d0) args,none⟩])++(rest++[])=(⟨some d0,.e0 T (.t k),none⟩::(m++⟨d1,.call (.t d0) args,none⟩::rest):List bG):=by simp
      rw[sj];refine⟨λi4=>?_,λo br=>?_⟩
      .rw[List.getElem?_eq_none_iff];have:=Array.getElem?_eq_none_iff.1 i4;simp;omega
      .obtain⟨aE,gx,U⟩:=n0 i o (by simpa using br);obtain⟨r,R,rfl⟩:∃r,(⟨some d0,.e0 T (.t k),none⟩::(m++⟨d1,.call (.t d0) args,none⟩::rest):List bG)[i]? =some r/\r.un=aE:=by
        rw[getElem?_map,Option.map_eq_some_iff]at gx;exact gx
       exact⟨r,R,U⟩) hM a3 pf (by
      have e:((⟨some d0,.e0 T (.t k),none⟩::m)++[⟨d1,.call (.t d0) args,none⟩]:List bG).length=m.length+2:=by simp
      rw[e]at sm;exact sm) Dv
   rwa [append_nil]at this
  have SA:∀i∈n.fx,bF.tmps.getD i undef=ρ i:=by
   intro i aw;rw[bQ i (by simp[jW,aw]),Kw i (λe=>?_)]
   .exact gq i aw
   .simp only[ky,Bool.and_eq_true,Bool.not_eq_true',contains_eq_mem,decide_eq_false_iff_not]at hI;exact hI.2 (e▸aw)
  have uu:k0<cs.length:=(List.getElem?_eq_some_iff.1 Dp).1;have SB:iZ.dst=d1:=dX.symm;exact Sj (n:=n) (ρ:=ρ) (K:=λaq=>ic C aq rest K) aQ a2 SA c4 Sw Hl
   (arr:=(cs.map λau=>bF.tmps.getD au undef).toArray) (k:=k0) (caps:=cs.map (qc k s2)) (g:=g) (ps:=ps) (r:=r)
   (by rw[bQ d0 (by simp[jW]),Sv];simp only[pe,KA]) (by simpa using bD) bH
   ⟨b,ty,fr,by
     rw[getD_eq_getElem?_getD,getElem?_map,Dp];exact nJ,by rw[Ky];simp only[pe,KA],Kx⟩ (by simpa using uu)
   aK aV a1 b6 cH bT (by rw[SB];exact bK) wv
 have:=wN (Q:=Q) a_ (ops:=ops) (ros:=[⟨some d0,.e0 T (.t k),none⟩]++(m++⟨d1,.call (.t d0) args,none⟩::rest)) (l2:=(m.length+1)::(range rest.length).map (·+(m.length+2))) mid
  ((range m.length).map (·+1)) (λi aw=>by
    obtain⟨au,bN,rfl⟩:=mem_map.1 aw;have xb:au<m.length:=mem_range.1 bN;refine⟨λi4=>?_,λo br=>?_⟩
    .have:=Array.getElem?_eq_none_iff.1 i4;omega
    .obtain⟨mg,wY,fe⟩:=xa (au+1) m[au] (by
      simp only[getElem?_cons_succ];rw[getElem?_append_left xb,getElem?_eq_getElem xb])
     have heq:mg=o:=by rw[wY]at br;exact Option.some.inj br
     subst heq;refine⟨m[au],by
      simp only[singleton_append,getElem?_cons_succ];rw[getElem?_append_left xb,getElem?_eq_getElem xb],?_⟩
     have SC:=hm m[au] (getElem_mem xb);unfold kz at fe⊢;split at fe
     .rename_i ae;rw[if_pos]
      .exact fe
      .cases KB:mg.dst with
       |none=>rfl
       |some d=>
        rw[KB]at ae;simp only[ky,Bool.and_eq_true,decide_eq_true_eq,Bool.not_eq_true',contains_eq_mem,decide_eq_false_iff_not]at ae⊢;refine⟨ae.1,?_⟩;have ze:m[au].dst=some d:=by
         split at fe
         .simp only[bG.un,Option.some.injEq,bG.mk.injEq]at fe;rw[<-fe.1,KB]
         .cases fe
        obtain⟨ee,fb⟩:=SC d ze;simp only[jW,mem_cons,mem_append,not_or];exact⟨ee,λe=>fb (e▸Kv),fb,ae.2⟩
     .cases fe) (fin s (some d0) .hole) ab w (by simpa using hw) Su
 exact this
def SD (C:bI) (f:FuncId) (k k0:Nat) (cs:abI) (args:List aZ) (d1:Option Nat) (rest:List bG) (keep:abI) (P:abM->Prop) (s1:ah):Prop:=
 ∃ps r,ps.map (·.a)=args.map (aX s1)++cs.map (qc k s1)/\(∀p∈ps,p.ok s1)/\gY ps=true/\
  qa C f args.length (args.length+k0) (ps.map (·.d)) r (ps.map (·.o))/\r.res=true/\(iD ps=true->r.cL=true/\∀p∈ps,p.o.cL=true)/\
  cm C (fin (gd (dV s1 ps) ps) d1 r) rest none (λ_ s=>P (fH keep s))
def SE (C:bI) (f:FuncId) (k k0 d0:Nat) (cs:abI) (m:List bG) (args:List aZ) (d1:Option Nat) (rest:List bG) (keep:abI) (P:abM->Prop) (s:ah):Prop:=
 cm C (fin s (some d0) .hole) m none λ_ s1=>SD C f k k0 cs args d1 rest keep P s1
def SF (C:bI) (f:FuncId) (k k0 d0:Nat) (cs:abI) (m:List bG) (args:List aZ) (d1:Option Nat) (rest:List bG) (keep:abI) (K:ah->Prop) (s:ah):Prop:=
 SE C f k k0 d0 cs m args d1 rest keep (λl=>K (an l)) s
def KC (f:Nat->Bool) (m:List bG):Bool:=m.all λr=>match r.dst with
 |none=>true
 |some d=>f d
theorem SG {f:Nat->Bool} {m:List bG} (h:KC f m=true):∀r∈m,∀d,r.dst=some d->f d=true:=by
 intro r aN d ae;have:=List.all_eq_true.1 h r aN;rw[ae]at this;exact this
theorem KD (k:abI) (s:ah):uc s (fH k s):=by
 intro p al;obtain⟨t,_,rfl⟩:=mem_map.1 al;exact .inl rfl
def SH (C:bI) (f:FuncId) (k k0 d0:Nat) (cs:abI) (m:List bG) (args:List aZ) (d1:Option Nat) (rest:List bG) (keep:abI):(Exit->ah->Prop)->ah->Prop:=
 λQ s=>SF C f k k0 d0 cs m args d1 rest keep (Q .normal) s
def SI (T:TypeId) (k d0:Nat) (m:List bG) (args:List aZ) (d1:Option Nat) (rest:List bG):aP:=
 .eK (⟨some d0,.e0 T (.t k),none⟩::(m++⟨d1,.call (.t d0) args,none⟩::rest)) none
theorem SJ (vs:abL):∀(m n:Nat),m+n=vs.length->vs.drop m=((range n).map (·+m)).map λau=>vs.getD au undef:=by
 intro m n h;apply ext_getElem?;intro i;rw[getElem?_drop,List.map_map,getElem?_map];by_cases aw:i<n
 .rw[getElem?_range aw,getElem?_eq_getElem (by omega)];simp only[Option.map_some,Function.comp];rw[getD_eq_getElem?_getD,getElem?_eq_getElem (by omega)];simp only[Option.getD_some,Option.some.injEq];congr 1;omega
 .rw[getElem?_eq_none (by omega),getElem?_eq_none (by simp;omega)];rfl
theorem KE {c:Code} {rs:List bG} (h:fm n c=some (.eK rs none)):∃id ops,c= .region id ops false/\nY n ops ops.toList=some rs:=by
 cases c with
 |region id ops draw=>
  cases draw with
  |false=>
   simp only[fm]at h;split at h
   .rename_i r R;cases h;exact⟨id,ops,rfl,R⟩
   .cases h
  |true=>
   simp only[fm]at h;split at h
   .simp only[Option.map_eq_some_iff]at h;obtain⟨r,R,U⟩:=h;cases U
   .cases h
 |seq a b=>simp only[fm]at h;split at h<;>cases h
 |cond c a b=>simp only[fm]at h;split at h<;>cases h
 |block id b=>simp only[fm,Option.map_eq_some_iff]at h;obtain⟨r,R,U⟩:=h;cases U
 |loop b=>simp only[fm,Option.map_eq_some_iff]at h;obtain⟨r,R,U⟩:=h;cases U
 |_=>simp[fm]at h
def Dw (C:bI) (f:FuncId) (fx:abI) (SK m k:Nat) (T:(Exit->ah->Prop)->ah->Prop) (b:aP):Prop:=
 ∃(ty:TypeId) (k0 d0 mi:Nat) (ed:List bG) (args:List aZ) (d1:Option Nat) (rest:List bG) (keep:abI),
  T=SH C f k k0 d0 ((range mi).map (·+m)) ed args d1 rest keep/\b=SI ty k d0 ed args d1 rest/\(C.T ty).flat=true/\KC (λd=>d !=d0&&decide (m+mi<=d)) ed=true/\decide (m+mi<=d0)=true/\
  decide (k0<mi)=true/\k=m+k0/\((range mi).all λau=>fx.contains (m+au))=true/\args.length=m/\m+mi=SK
theorem qa.of_wp (a_:C.Ok) {f:FuncId} {fn:Func} {c:Code} {dO:aP} {fx:abI} {as outs:abN} {r:j} {k m:Nat} (a6:C.P.funcs[f]? =some fn) (J:fn.body=some c)
  (je:(fn.name== "runtime.NumGoroutine")=false) (I:fm ⟨fn.ntmps,fx⟩ c=some dO.strip) (a7:as.length<=fn.ntmps)
  (ak:dO.nf (Dw C f fx as.length m k))
  (h:∀Q:Exit->ah->Prop,(∀s,eg (Ends C fx fn.results.toList r outs) s->Q .ret s)->(∀s,eg (Ends C fx fn.results.toList r outs) s->Q .normal s)->bk C dO Q (an (num 0 as))):qa C f m k as r outs:=by
 rintro w F X S vs hl ⟨b,SL,fr,aK,aV,a1,b6⟩ aN;refine CP (fx:=fx) a_ a6 J je a7 hl aN λa hrel du=>?_;refine CN a_ (H:=Dw C f fx as.length m k) ?_ c (by rw[aP.CH];exact I) (aP.CI dO ak) (CM dO ?_) hrel
 .rintro c T eI Q s ab ik ⟨ty,k0,d0,mi,ed,args,d1,rest,keep,rfl,rfl,fg,hm,hc,zz,ak,gq,hlen,aaM⟩ sC SM ⟨aQ,a2,bQ,sd,bJ,c4⟩;replace hm:∀r∈ed,∀d,r.dst=some d->d≠d0/\m+mi<=d:=λr aN d ae=>by
   have:=SG hm r aN d ae;simpa using this
  replace hc:=of_decide_eq_true hc;replace zz:=of_decide_eq_true zz;replace gq:∀au,au<mi->m+au∈fx:=λau bN=>by
   have:=List.all_eq_true.1 gq au (mem_range.2 bN);simpa using this
  obtain⟨id,ops,rfl,nc⟩:=KE sC;have KF:∀au,au<mi->ab.tmps.getD (au+m) undef=vs.getD (au+m) undef:=λau bN=>by
   rw[Nat.add_comm];exact bQ _ (gq au bN)
  have ga:((range mi).map (·+m)).map (λau=>ab.tmps.getD au undef)=vs.drop m:=by
   rw[SJ vs m mi (by omega),List.map_map,List.map_map];apply map_congr_left;intro au bN;exact KF au (mem_range.1 bN)
  refine Sq (Q:=o4 w F X ⟨fn.ntmps,fx⟩ (fU vs) Q) (K:=eg (Q .normal)) (b:=b) (ty:=SL) (fr:=fr) (g:=f) (k0:=k0) (cs:=(range mi).map (·+m)) a_ nc fg (λr aN d ae=>⟨(hm r aN d ae).1,λsD=>?_⟩) (λsD=>?_) ?_ aQ a2 bQ c4 (c4.fR b a1) ?_ ?_ ?_ (λaq b3 ax ak dA=>dA.eg ak)
  .obtain⟨au,bN,rfl⟩:=mem_map.1 sD;have:=(hm r aN _ ae).2;have:=mem_range.1 bN;omega
  .obtain⟨au,bN,e⟩:=mem_map.1 sD;have:=mem_range.1 bN;omega
  .rw[getElem?_map,getElem?_range zz,ak];simp[Nat.add_comm]
  .rw[ak,Nat.add_comm,KF k0 zz,Nat.add_comm,<-ak];exact aK
  .rw[ga,c4.old b (aN.eu b a1) b6];exact aV
  .refine ug (λ_ s1=>?_) SM;rintro⟨ps,r,gb,fC,iR,hI,qH,wM,CA⟩;exact⟨ps,r,gb,fC,iR,hI,qH,wM,ug (λ_ s h=>.inr ⟨_,KD _ _,h⟩) CA⟩
 .rw[CU];exact h _ (λs h=>⟨.inr rfl,h⟩) (λs h=>⟨.inl rfl,h⟩)
end
end Go.cW
