/- Part of a proof that a law returns true for every input. No condition. -/
import Derived.Test.YtklcmlnabkfneaaGreatFwI
namespace Go.de
open List Go.IntKind Nat Or
def mq (C:ca) (f:FuncId) (m k:Nat) (as:alW) (r:I) (outs:alW):Prop:=
 ∀(w:World) (F X:Nat->Prop) (S:Nat->Nat->Prop) (vs:alU),vs.length=as.length->
  (∃b ty fr,vs.getD k undef= .pointer (some ⟨b,0,none⟩)/\w.heap[b]? =some (.cells #[.func (.func f) #[] (vs.drop m).toArray] ty fr)/\F b/\¬X b)->
  bD w F X F S (eW as) (gb vs) w->
  mN C.P f vs.toArray w λv aF=>∃bO aN,bD w F X bO aN (eW (r::outs)) (gb (v::vs)) aF
section
variable {C:ca} {w0 w:World} {F0 X F bO:Nat->Prop} {S aN:Nat->Nat->Prop} {n:Fr} {ρ:Nat->Value} {s aB:aw} {aC hG:Nat->Value} {a:Act} {av:I} {Q:Exit->Act->World->Prop} {aF:World}
theorem bD.base (h:bD w0 F0 X F S s aC w):bD w F (λb=>∃u,S u b) F S s aC w where
 gm:=λ_ h=>h
 gC:=λ_ h=>.inl h
 eQ:=h.eQ
 dW:=h.dW
 fb:=h.fb
 e_:=h.e_
 dx:=λu b R=>.inl ⟨u,R⟩
 dp:=h.dp
 old:=λ_ _ _=>rfl
 size:=Nat.le_refl _
 os:=rfl
 tape:=rfl
 output:=Out.refl _
 gn:=h.gn.next h.size h.old λb ⟨u,hu⟩=>h.dx u b hu
theorem bD.VX (h:bD w0 F0 X F S s aC w) (bC:bD w F (λb=>∃u,S u b) bO aN aB hG aF):bD w0 F0 X bO aN aB hG aF where
 gm:=λb R=>bC.gm b (h.gm b R)
 gC:=λb R=>by
  rcases bC.gC b R with R|⟨u,R⟩|R
  .exact h.gC b R
  .exact .inr (h.dx u b R)
  .exact .inr (.inr (Nat.le_trans h.size R))
 eQ:=bC.eQ
 dW:=bC.dW
 fb:=bC.fb
 e_:=bC.e_
 dx:=λu b R=>by
  rcases bC.dx u b R with⟨u,R⟩|R
  .exact h.dx u b R
  .exact .inr (Nat.le_trans h.size R)
 dp:=bC.dp
 old:=λb R jJ=>by
  refine(bC.old b (Nat.lt_of_lt_of_le R h.size) λ⟨u,hu⟩=>?_).trans (h.old b R jJ);rcases h.dx u b hu with au|au
  .exact jJ au
  .omega
 size:=Nat.le_trans h.size bC.size
 os:=bC.os.trans h.os
 tape:=bC.tape.trans h.tape
 output:=bC.output.trans h.output
 gn:=h.gn
inductive q6:alW->alW->Prop
 |nil:q6 [] []
 |eq {a:I} {as k1:alW}:a.ad=[]->q6 as k1->q6 (a::as) (a::k1)
 |wd {a b:I} {as k1:alW}:e4 a b->a.tree=true->b.ad=[]->q6 as k1->q6 (a::as) (b::k1)
theorem q6.get:∀{as k1:alW},q6 as k1->∀p k,p∈num k k1->p.2.ad=[]/\∃a,as[p.1-k]? =some a/\k<=p.1/\(p.2=a\/(a.tree=true/\e4 a p.2))
 |_,_,.nil,p,k,aq=>by simp[num]at aq
 |_,_,.eq (a:=a) h hw,p,k,aq=>by
  simp only[num,mem_cons]at aq;rcases aq with rfl|aq
  .exact⟨h,a,by simp,Nat.le_refl _,.inl rfl⟩
  .obtain⟨ab,x,ae,az,a6⟩:=hw.get p (k+1) aq;refine⟨ab,x,?_,by omega,a6⟩;rw[show p.1-k=(p.1-(k+1))+1 by omega,getElem?_cons_succ];exact ae
 |_,_,.wd (a:=a) h a8 R hw,p,k,aq=>by
  simp only[num,mem_cons]at aq;rcases aq with rfl|aq
  .exact⟨R,a,by simp,Nat.le_refl _,.inr ⟨a8,h⟩⟩
  .obtain⟨ab,x,ae,az,a6⟩:=hw.get p (k+1) aq;refine⟨ab,x,?_,by omega,a6⟩;rw[show p.1-k=(p.1-(k+1))+1 by omega,getElem?_cons_succ];exact ae
theorem q6.len:∀{as k1:alW},q6 as k1->k1.length=as.length
 |_,_,.nil=>rfl
 |_,_,.eq _ hw=>by simp[hw.len]
 |_,_,.wd _ _ _ hw=>by simp[hw.len]
theorem NJ (C:ca) (K:aw->Prop):∀(rs pre post:List ch) (s:aw),lC C s rs K->j6 C (pre++(rs++post)) s ((range rs.length).map (·+pre.length)) K:=by
 intro rs;induction rs with
 |nil=>intro pre post s h;exact h
 |cons r rs ih=>
  intro pre post s h;rw[length_cons,range_succ_eq_map,map_cons,List.map_map];simp only[j6,Nat.zero_add];rw[getElem?_append_right (Nat.le_refl _)];simp only[Nat.sub_self,cons_append,getElem?_cons_zero];have key:∀s1,lC C s1 rs K->j6 C (pre++r::(rs++post)) s1 ((range rs.length).map ((λx=>x+pre.length)∘succ)) K:=by
   intro s1 ab;have:=ih (pre++[r]) post s1 ab;simp only[append_assoc,singleton_append,length_append,length_singleton]at this;have e:((λx=>x+pre.length)∘succ)=λx=>x+(pre.length+1):=by funext x;simp;omega
   rw[e];exact this
  simp only[lC]at h;exact Fx h key
theorem VY (jS:a.defers=[]) (ea:a.tmps.size=n.n) (iy:∀i∈n.fx,a.tmps.getD i undef=ρ i) (aM:bD w0 F0 X F S s (λt=>a.tmps.getD t undef) w)
  {o:Oper} {d0 k:Nat} {args:List bk} {g:FuncId} {caps:alW} {arr:Array Value} {ps:List cD} {r:I} (cx:cX o.op=some (.call (.t d0) args)) (ai:lA n o.dst=true)
  (aJ:a.tmps.getD d0 undef= .func (.func g) #[] arr) (an:d_ w F s (λt=>a.tmps.getD t undef) caps arr.toList) (gT:I.eg caps=true)
  (VZ:∃b ty fr,(arr.toList).getD k undef= .pointer (some ⟨b,0,none⟩)/\w.heap[b]? =some (.cells #[.func (.func g) #[] arr] ty fr)/\F b) (BL:k<arr.size)
  (ae:ps.map (·.a)=args.map (bu s)++caps) (az:∀p∈ps,p.ok s) (a6:ia ps=true) (bF:mq C g args.length (args.length+k) (ps.map (·.d)) r (ps.map (·.o))) (cP:r.res=true)
  (cB:jR ps=true->r.cS=true/\∀p∈ps,p.o.cS=true) {K:aw->Prop} {next:Act->World->Prop} (fS:K (fin (hp (e3 s ps) ps) o.dst r))
  (aS:∀aB cL aF,K aB->Rel w0 F0 X n ρ aB cL aF->next cL aF):o.wp C.P a w next Q:=by
 obtain⟨dst,op,ty,pos,after,guard⟩:=o;simp only at cx ai fS;cases op with
 |call c=>
  obtain⟨callee,mP,argTypes⟩:=c;simp only[cX]at cx;split at cx
  .split at cx
   .rename_i xU _ _ TZ xs bo kL;simp only[Option.some.injEq,ed.call.injEq]at cx;obtain⟨rfl,rfl⟩:=cx;have xu:xU= .tmp d0:=by
     cases xU with
     |tmp t=>simp only[dG,Option.some.injEq,bk.t.injEq]at bo;rw[bo]
     |const v=>simp only[dG,Option.map_eq_some_iff]at bo;obtain⟨c,_,bo⟩:=bo;cases bo
     |func g=>simp[dG]at bo
     |global g=>simp[dG]at bo
    subst xu;have xV:execOp a.eval {dst,op:=.call {callee:=.value (.tmp d0),args:=mP,argTypes},type:=ty,pos,after,guard}=callFunc g ((mP.toList.map a.eval++arr.toList).toArray):=by
     have:a.eval (.tmp d0)= .func (.func g) #[] arr:=aJ;simp only[execOp,resolve,this,Deferred.ofValue,pure_bind,invoke];congr 1;apply Array.ext';simp
    unfold Oper.wp;rw[xV];have hlen:(mP.toList.map a.eval).length=xs.length:=by
     have:=congrArg length (ti kL);simpa using this
    have xW:d_ w F s (λt=>a.tmps.getD t undef) (xs.map (bu s)++caps) (mP.toList.map a.eval++arr.toList):=LY (Ba aM (λ_=>rfl) _ _ (ti kL)) an;rw[<-ae]at xW;obtain⟨eV,l2⟩:=LZ xW;have fI:∀d∈xs.map (bu s)++caps,d.plain=true:=by
     intro d ai;rcases mem_append.1 ai with ai|ai
     .obtain⟨x,au,rfl⟩:=mem_map.1 ai;exact Kx s x λav e=>by
       subst e;have hm:=ti kL;have:some (bk.c av)∈xs.map some:=mem_map.2 ⟨_,au,rfl⟩;rw[<-hm]at this;obtain⟨o,_,bE⟩:=mem_map.1 this;cases o with
       |const v=>simp only[dG,Option.map_eq_some_iff]at bE;obtain⟨c,an,e⟩:=bE;cases e;exact Et an
       |tmp n=>simp[dG]at bE
       |func g=>simp[dG]at bE
       |global g=>simp[dG]at bE
     .obtain⟨k,ax⟩:=getElem?_of_mem ai;exact AN gT ax
    have u0:=LX (C:=C) aM (ps:=ps) (vs:=mP.toList.map a.eval++arr.toList) (f:=g) (r:=r) (by simpa using eV)
     (λi p v aq aJ=>⟨fI p.a (by rw[<-ae];exact mem_map.2 ⟨p,mem_of_getElem? aq,rfl⟩),l2 i p.a v (by simp[aq]) aJ⟩) az a6
     (λFc kM eh bh jJ aq=>by
      refine bF w Fc kM eh _ (by rw[<-eV];simp) ?_ aq;obtain⟨b,BM,fr,aR,aV,aW⟩:=VZ;refine⟨b,BM,fr,?_,?_,bh b aW,λau=>by obtain⟨u,hu⟩:=jJ b au;exact aM.fb u b hu aW⟩
      .rw[getD_eq_getElem?_getD,getElem?_append_right (by omega),hlen,Nat.add_sub_cancel_left,<-getD_eq_getElem?_getD];exact aR
      .rw[aV,<-hlen,drop_left])
     cP cB
    rcases u0 with⟨di,aZ⟩|⟨v,aF,di,bO,aN,aZ,cZ⟩
    .rw[di,Oper.upon_enter];refine Calls.mono aZ ?_;rintro e aF ⟨v,rfl,bO,aN,b3,cc⟩;exact aS _ _ _ fS (Rel.put jS ea iy b3 cc.1 ai)
    .rw[di,Oper.upon_value];exact aS _ _ _ fS (Rel.put jS ea iy aZ cZ.1 ai)
   .cases cx
  .split at cx
   .simp only[Option.map_eq_some_iff]at cx;obtain⟨_,_,cx⟩:=cx;cases cx
   .cases cx
  .split at cx
   .simp only[Option.map_eq_some_iff]at cx;obtain⟨_,_,cx⟩:=cx;cases cx
   .cases cx
  iterate 3
   .split at cx
    .split at cx<;>cases cx
    .cases cx
  .cases cx
 |makeFunc fn first cs=>
  cases fn<;>simp only[cX]at cx<;>first|(cases cx;done)|(split at cx<;>simp at cx)
 |slice T x fl ao ha=>
  cases ha<;>simp only[cX]at cx<;>first|(cases cx;done)|(split at cx<;>simp at cx)
 |makeMap T r=>cases r<;>simp only[cX]at cx<;>simp at cx
 |lookup T x i c=>cases c<;>simp only[cX]at cx<;>first|(cases cx;done)|(split at cx<;>simp at cx)
 |_=>simp only[cX]at cx<;>first|(cases cx;done)|(simp at cx;done)|(split at cx<;>simp at cx)
theorem V0 {op:Op} {T:TypeId} {x:bk} (h:cX op=some (.fk T x)):∃y,op= .load T y/\dG y=some x:=by
 cases op with
 |load Fm y=>
  simp only[cX,Option.map_eq_some_iff]at h;obtain⟨cp,au,h⟩:=h;cases h;exact⟨y,rfl,au⟩
 |call c=>
  obtain⟨callee,mP,argTypes⟩:=c;simp only[cX]at h;split at h<;>(try split at h)<;>(try split at h)<;>(try simp[Option.map_eq_some_iff]at h)
 |makeFunc fn first cs=>
  cases fn<;>simp only[cX]at h<;>first|(cases h;done)|(split at h<;>simp at h)
 |slice T x fl ao ha=>
  cases ha<;>simp only[cX]at h<;>first|(cases h;done)|(split at h<;>simp at h)
 |makeMap T r=>cases r<;>simp only[cX]at h<;>simp at h
 |lookup T x i c=>cases c<;>simp only[cX]at h<;>first|(cases h;done)|(split at h<;>simp at h)
 |_=>simp only[cX]at h<;>first|(cases h;done)|(simp at h;done)|(split at h<;>simp at h)
theorem BN {y:Operand} {k:Nat} (h:dG y=some (.t k)):y= .tmp k:=by
 cases y with
 |tmp t=>simp only[dG,Option.some.injEq,bk.t.injEq]at h;rw[h]
 |const v=>simp only[dG,Option.map_eq_some_iff]at h;obtain⟨c,_,h⟩:=h;cases h
 |func g=>simp[dG]at h
 |global g=>simp[dG]at h
def qa (k:Nat) (s:aw) (j:Nat):I:=if j=k then .ref .hole else pI j (s j)
theorem V1 {aC:Nat->Value} {b k:Nat} {v:Value} {ty:TypeId} {fr:Nat×Nat} (aM:bD w0 F0 X F S s aC w) (ax:aC k= .pointer (some ⟨b,0,none⟩)) (R:F b) (an:w.heap[b]? =some (.cells #[v] ty fr)) (ab:Value.fK v=true):
  ∀cs:alR,d_ w F s aC (cs.map (qa k s)) (cs.map aC)/\I.eg (cs.map (qa k s))=true:=by
 intro cs;induction cs with
 |nil=>exact⟨by rw[map_nil,map_nil,d_],rfl⟩
 |cons j cs ih=>
  simp only[map_cons];have bm:aH w F s aC (qa k s j) (aC j) (λ_=>False)/\(qa k s j).plain=true:=by
   unfold qa;split
   .rename_i e;subst e;rw[ax];refine⟨(aH.cv rfl).2 ⟨rfl,?_⟩,rfl⟩;rw[ar];refine⟨b,0,[v],rfl,R,?_,?_⟩
    .intro i c ao;cases i with
     |zero=>simp at ao;subst ao;simp[World.cell?,an]
     |succ i=>simp at ao
    .rw[ar];exact⟨v,ab,rfl⟩
   .unfold pI;split
    .rename_i aq;exact⟨aH.nothing aq (aM.dp j),aq⟩
    .rename_i aq;refine⟨?_,rfl⟩;rw[aH];intro d ai aq;simp only[I.sub,Option.some.injEq]at ai;subst ai;have a8:(s j).tree=true:=by
      cases ad:s j<;>first|rfl|(rw[ad]at aq;simp[I.plain]at aq)
     exact⟨_,none,rfl,rfl,((aH.cv a8).1 (aM.dp j)).1⟩
  refine⟨?_,?_⟩
  .rw[d_];exact⟨_,_,rfl,bm.1,ih.1⟩
  .simp only[I.eg,bm.2,ih.2,Bool.and_self]
theorem NK (bn:C.Ok) {id:Nat} {ops:Array Oper} {T:TypeId} {k k0 d0:Nat} {m rest:List ch} {args:List bk} {d1:Option Nat} {g:FuncId} {cs:alR} {b:Nat} {ty:TypeId} {fr:Nat×Nat} {K:aw->Prop}
  (r7:pZ n ops ops.toList=some ((⟨some d0,.fk T (.t k),none⟩::(m++⟨d1,.call (.t d0) args,none⟩::rest):List ch).map ch.un))
  (iO:(C.T T).flat=true) (hm:∀r∈m,∀d,r.dst=some d->d≠d0/\d∉cs) (k5:d0∉cs) (vh:cs[k0]? =some k)
  (jS:a.defers=[]) (ea:a.tmps.size=n.n) (iy:∀i∈n.fx,a.tmps.getD i undef=ρ i) (aM:bD w0 F0 X F S s (λt=>a.tmps.getD t undef) w)
  (R:F b) (ax:a.tmps.getD k undef= .pointer (some ⟨b,0,none⟩)) (oD:w.heap[b]? =some (.cells #[.func (.func g) #[] (cs.map λj=>a.tmps.getD j undef).toArray] ty fr))
  (h:lC C (fin s (some d0) .hole) m λs1=>∃ps r,ps.map (·.a)=args.map (bu s1)++cs.map (qa k s1)/\(∀p∈ps,p.ok s1)/\ia ps=true/\
   mq C g args.length (args.length+k0) (ps.map (·.d)) r (ps.map (·.o))/\r.res=true/\(jR ps=true->r.cS=true/\∀p∈ps,p.o.cS=true)/\lC C (fin (hp (e3 s1 ps) ps) d1 r) rest K)
  (aS:∀aB cL aF,K aB->Rel w0 F0 X n ρ aB cL aF->Q .normal cL aF):(Code.region id ops false).wp C.P Q a w:=by
 obtain⟨hl,nt⟩:=xZ r7;have F5:∀(i:Nat) (r:ch),(⟨some d0,.fk T (.t k),none⟩::(m++⟨d1,.call (.t d0) args,none⟩::rest):List ch)[i]? =some r->∃o,ops[i]? =some o/\pY n ops o=some r.un:=by
  intro i r ao;have dv:i<ops.toList.length:=by
   rw[hl,length_map];exact(List.getElem?_eq_some_iff.1 ao).1
  obtain⟨gA,ab,ae⟩:=nt i _ (getElem?_eq_getElem dv);rw[getElem?_map,ao]at ab;simp only[Option.map_some,Option.some.injEq]at ab;exact⟨_,by rw[<-Array.getElem?_toList];exact getElem?_eq_getElem dv,by rw[ab];exact ae⟩
 have vi:∀{r:ch} {o:Oper},r.guard=none->pY n ops o=some r.un->r.dst=o.dst/\o.guard=none/\oR o.op=r.bV.base/\lA n o.dst=true:=by
  intro r o bR h;unfold pY at h;split at h
  .rename_i ai;split at h
   .rename_i V2 hJ;simp only[ch.un,Option.some.injEq,ch.mk.injEq]at h;obtain⟨aR,aV,aW⟩:=h;refine⟨aR.symm,?_,aV,ai⟩;rw[aW,bR]at hJ;cases bE:o.guard with
    |none=>rfl
    |some Fs=>
     rw[bE]at hJ;simp only[xS]at hJ;split at hJ<;>cases hJ
   .cases h
  .cases h
 have V3:ops.size=m.length+rest.length+2:=by
  have:ops.toList.length=ops.size:=by simp
  rw[<-this,hl];simp;omega
 have V4:range ops.size=0::((range m.length).map (·+1)++((m.length+1)::(range rest.length).map (·+(m.length+2)))):=by
  rw[V3,show m.length+rest.length+2=(m.length+rest.length+1)+1 from rfl,range_succ_eq_map];congr 1;rw[show m.length+rest.length+1=m.length+(rest.length+1) by omega,range_add,map_append,range_succ_eq_map];simp only[List.map_map,map_cons,Nat.add_zero];congr 1;congr 1;apply map_congr_left;intro x _;simp;omega
 obtain⟨sg,V5,jT⟩:=F5 0 _ rfl;obtain⟨gE,gD,iH,iI⟩:=vi rfl jT;change oR sg.op= .fk T (.t k)at iH;have o0:cX sg.op=some (.fk T (.t k)):=by
  rcases p0 iH with h|h
  .cases h
  .exact h
 obtain⟨y,bb,V6⟩:=V0 o0;have:=BN V6;subst this;let ig:Value:=.func (.func g) #[] (cs.map λj=>a.tmps.getD j undef).toArray
 have j2:Rd w b 0 [ig]:=by
  intro i c ao;cases i with
  |zero=>simp at ao;subst ao;simp[World.cell?,oD,ig]
  |succ i=>simp at ao
 refine wp_region ?_;rw[V4];simp only[wpOps,V5];show(if Region.wanted sg (yielded ops a.tmps)=true then sg.wp C.P a w _ Q\/(sg.asks C.P a w/\LetsOut Q)else _);rw[if_pos (Bj gD)];left;have xV:(execOp a.eval sg).run C.P w= .ok (.value ig) w:=by
  obtain⟨dst,op,ty,pos,after,guard⟩:=sg;simp only at bb;subst bb;have:a.eval (.tmp k)= .pointer (some ⟨b,0,none⟩):=ax;simp[execOp,this,Instr.loadAt,Instr.sureAddr,KD bn iO j2]
 unfold Oper.wp;rw[xV,Oper.upon_value];have F6:some d0=sg.dst:=gE;rw[<-F6]at iI⊢;let J:Act:=a.put (some d0) ig
 let mR:Fr:=⟨n.n,d0::k::(cs++n.fx)⟩
 let ρ1:Nat->Value:=λt=>J.tmps.getD t undef
 have yk:k∈cs:=mem_of_getElem? vh;have pU:=aM.base;have F7:Rel w F (λb=>∃u,S u b) ⟨n.n,[]⟩ ρ1 (fin s (some d0) .hole) J w:=
  Rel.put (n:=⟨n.n,[]⟩) jS ea (λi ao=>by cases ao) pU (.inl ⟨rfl,by rw[aH];trivial⟩) (by
   simp only[lA,Bool.and_eq_true,decide_eq_true_eq]at iI⊢;exact⟨iI.1,by simp⟩)
 have V7:Rel w F (λb=>∃u,S u b) mR ρ1 (fin s (some d0) .hole) J w:=⟨F7.defers,F7.size,λi _=>rfl,F7.rel⟩
 have NL:∀t,t≠d0->ρ1 t=a.tmps.getD t undef:=by
  intro t a8;have:=congrFun (xT (n:=n) (dst:=some d0) (a:=a) ig ea iI).1 t;simp only[nj]at this;rw[je _ _ a8]at this;exact this
 have V8:ρ1 d0=ig:=by
  have:=congrFun (xT (n:=n) (dst:=some d0) (a:=a) ig ea iI).1 d0;simp only[nj]at this;rw[lR]at this;exact this
 have hw:=NJ C _ m [⟨some d0,.fk T (.t k),none⟩] (⟨d1,.call (.t d0) args,none⟩::rest) _ h;have mid:∀aB cL aF,(∃ps r,ps.map (·.a)=args.map (bu aB)++cs.map (qa k aB)/\(∀p∈ps,p.ok aB)/\ia ps=true/\
   mq C g args.length (args.length+k0) (ps.map (·.d)) r (ps.map (·.o))/\r.res=true/\(jR ps=true->r.cS=true/\∀p∈ps,p.o.cS=true)/\lC C (fin (hp (e3 aB ps) ps) d1 r) rest K)->
   Rel w F (λb=>∃u,S u b) mR ρ1 aB cL aF->wpOps C.P ops Q ((m.length+1)::(range rest.length).map (·+(m.length+2))) cL aF:=by
  rintro s2 a2 eY ⟨ps,r,aR,aV,aW,cm,cC,b7,bW⟩ ⟨g1,g2,g3,lz,dg,g4⟩;obtain⟨vj,V9,nR⟩:=F5 (m.length+1) ⟨d1,.call (.t d0) args,none⟩ (by simp);obtain⟨fL,hn,h6,KP⟩:=vi rfl nR;simp only[wpOps,V9];show(if Region.wanted vj (yielded ops a2.tmps)=true then vj.wp C.P a2 eY _ Q\/(vj.asks C.P a2 eY/\LetsOut Q)else _);rw[if_pos (Bj hn)];left;change oR vj.op= .call (.t d0) args at h6;have V_:cX vj.op=some (.call (.t d0) args):=by
   rcases p0 h6 with h|h
   .cases h
   .exact h
  have NM:lz b:=g4.gm b R;have NN:eY.heap[b]? =some (.cells #[ig] ty fr):=by
   rw[g4.old b (aM.eQ b R) (λ⟨u,hu⟩=>aM.fb u b hu R)];exact oD
  have NO:∀j∈cs,a2.tmps.getD j undef=a.tmps.getD j undef:=by
   intro j bm;rw[g3 j (by simp[mR,bm])];exact NL j (λe=>k5 (e▸bm))
  have oB:a2.tmps.getD k undef= .pointer (some ⟨b,0,none⟩):=(NO k yk).trans ax;have NP:(cs.map λj=>a.tmps.getD j undef)=cs.map λj=>a2.tmps.getD j undef:=map_congr_left λj bm=>(NO j bm).symm;obtain⟨c1,c2⟩:=V1 (k:=k) g4 oB NM NN rfl cs;have ES:∀aB cL aF,lC C aB rest K->Rel w F (λb=>∃u,S u b) ⟨n.n,n.fx⟩ ρ aB cL aF->wpOps C.P ops Q ((range rest.length).map (·+(m.length+2))) cL aF:=by
   intro n8 a3 jj az BO;have Bu:=NJ C K rest ((⟨some d0,.fk T (.t k),none⟩::m)++[⟨d1,.call (.t d0) args,none⟩]) [] n8 az;have:=Fq (Q:=Q) bn (ops:=ops) (ros:=((⟨some d0,.fk T (.t k),none⟩::m)++[⟨d1,.call (.t d0) args,none⟩])++(rest++[])) (l2:=[]) (K:=K) (λaB cL aF jP eG=>by
     obtain⟨yl,z2,z3,Wa,n0,z4⟩:=eG;exact aS aB cL aF jP ⟨yl,z2,z3,Wa,n0,aM.VX z4⟩) ((range rest.length).map (·+(m.length+2))) (λi ao=>by
      have x5:((⟨some d0,.fk T (.t k),none⟩::m)++[⟨d1,.call (.t d0) args,none⟩])++(rest++[])=(⟨some d0,.fk T (.t k),none⟩::(m++⟨d1,.call (.t d0) args,none⟩::rest):List ch):=by simp
      rw[x5];refine⟨λlS=>?_,λo bE=>?_⟩
      .rw[List.getElem?_eq_none_iff];have:=Array.getElem?_eq_none_iff.1 lS;simp;omega
      .obtain⟨aj,iT,ae⟩:=nt i o (by simpa using bE);obtain⟨r,ab,rfl⟩:∃r,(⟨some d0,.fk T (.t k),none⟩::(m++⟨d1,.call (.t d0) args,none⟩::rest):List ch)[i]? =some r/\r.un=aj:=by
        rw[getElem?_map,Option.map_eq_some_iff]at iT;exact iT
       exact⟨r,ab,ae⟩) n8 a3 jj (by
      have e:((⟨some d0,.fk T (.t k),none⟩::m)++[⟨d1,.call (.t d0) args,none⟩]:List ch).length=m.length+2:=by simp
      rw[e]at Bu;exact Bu) BO
   rwa [append_nil]at this
  have Wb:∀i∈n.fx,a2.tmps.getD i undef=ρ i:=by
   intro i ao;rw[g3 i (by simp[mR,ao]),NL i (λe=>?_)]
   .exact iy i ao
   .simp only[lA,Bool.and_eq_true,Bool.not_eq_true',contains_eq_mem,decide_eq_false_iff_not]at iI;exact iI.2 (e▸ao)
  have BL:k0<cs.length:=(List.getElem?_eq_some_iff.1 vh).1;have Wc:vj.dst=d1:=fL.symm;exact VY (n:=n) (ρ:=ρ) (K:=λaB=>lC C aB rest K) g1 g2 Wb g4 V_ KP
   (arr:=(cs.map λj=>a2.tmps.getD j undef).toArray) (k:=k0) (caps:=cs.map (qa k s2)) (g:=g) (ps:=ps) (r:=r)
   (by rw[g3 d0 (by simp[mR]),V8];simp only[ig,NP]) (by simpa using c1) c2
   ⟨b,ty,fr,by
     rw[getD_eq_getElem?_getD,getElem?_map,vh];exact oB,by rw[NN];simp only[ig,NP],NM⟩ (by simpa using BL)
   aR aV aW cm cC b7 (by rw[Wc];exact bW) ES
 have:=Fq (Q:=Q) bn (ops:=ops) (ros:=[⟨some d0,.fk T (.t k),none⟩]++(m++⟨d1,.call (.t d0) args,none⟩::rest)) (l2:=(m.length+1)::(range rest.length).map (·+(m.length+2))) mid
  ((range m.length).map (·+1)) (λi ao=>by
    obtain⟨j,bm,rfl⟩:=mem_map.1 ao;have ym:j<m.length:=mem_range.1 bm;refine⟨λlS=>?_,λo bE=>?_⟩
    .have:=Array.getElem?_eq_none_iff.1 lS;omega
    .obtain⟨mh,x9,fc⟩:=F5 (j+1) m[j] (by
      simp only[getElem?_cons_succ];rw[getElem?_append_left ym,getElem?_eq_getElem ym])
     have heq:mh=o:=by rw[x9]at bE;exact Option.some.inj bE
     subst heq;refine⟨m[j],by
      simp only[singleton_append,getElem?_cons_succ];rw[getElem?_append_left ym,getElem?_eq_getElem ym],?_⟩
     have Wd:=hm m[j] (getElem_mem ym);unfold pY at fc⊢;split at fc
     .rename_i ai;rw[if_pos]
      .exact fc
      .cases NQ:mh.dst with
       |none=>rfl
       |some d=>
        rw[NQ]at ai;simp only[lA,Bool.and_eq_true,decide_eq_true_eq,Bool.not_eq_true',contains_eq_mem,decide_eq_false_iff_not]at ai⊢;refine⟨ai.1,?_⟩;have Bk:m[j].dst=some d:=by
         split at fc
         .simp only[ch.un,Option.some.injEq,ch.mk.injEq]at fc;rw[<-fc.1,NQ]
         .cases fc
        obtain⟨m1,m2⟩:=Wd d Bk;simp only[mR,mem_cons,mem_append,not_or];exact⟨m1,λe=>m2 (e▸yk),m2,ai.2⟩
     .cases fc) (fin s (some d0) .hole) J w (by simpa using hw) V7
 exact this
def NR (C:ca) (f:FuncId) (k k0:Nat) (cs:alR) (args:List bk) (d1:Option Nat) (rest:List ch) (keep:alR) (P:alV->Prop) (s1:aw):Prop:=
 ∃ps r,ps.map (·.a)=args.map (bu s1)++cs.map (qa k s1)/\(∀p∈ps,p.ok s1)/\ia ps=true/\
  mq C f args.length (args.length+k0) (ps.map (·.d)) r (ps.map (·.o))/\r.res=true/\(jR ps=true->r.cS=true/\∀p∈ps,p.o.cS=true)/\
  dE C (fin (hp (e3 s1 ps) ps) d1 r) rest none (λ_ s=>P (gO keep s))
def o1 (C:ca) (f:FuncId) (k k0 d0:Nat) (cs:alR) (m:List ch) (args:List bk) (d1:Option Nat) (rest:List ch) (keep:alR) (P:alV->Prop) (s:aw):Prop:=
 dE C (fin s (some d0) .hole) m none λ_ s1=>NR C f k k0 cs args d1 rest keep P s1
def NS (C:ca) (f:FuncId) (k k0 d0:Nat) (cs:alR) (m:List ch) (args:List bk) (d1:Option Nat) (rest:List ch) (keep:alR) (K:aw->Prop) (s:aw):Prop:=
 o1 C f k k0 d0 cs m args d1 rest keep (λl=>K (ay l)) s
def F8 (f:Nat->Bool) (m:List ch):Bool:=m.all λr=>match r.dst with
 |none=>true
 |some d=>f d
theorem NT {f:Nat->Bool} {m:List ch} (h:F8 f m=true):∀r∈m,∀d,r.dst=some d->f d=true:=by
 intro r aM d ai;have:=List.all_eq_true.1 h r aM;rw[ai]at this;exact this
theorem NU (k:alR) (s:aw):tt s (gO k s):=by
 intro p aq;obtain⟨t,_,rfl⟩:=mem_map.1 aq;exact .inl rfl
def F9 (C:ca) (f:FuncId) (k k0 d0:Nat) (cs:alR) (m:List ch) (args:List bk) (d1:Option Nat) (rest:List ch) (keep:alR):(Exit->aw->Prop)->aw->Prop:=
 λQ s=>NS C f k k0 d0 cs m args d1 rest keep (Q .normal) s
def NV (T:TypeId) (k d0:Nat) (m:List ch) (args:List bk) (d1:Option Nat) (rest:List ch):aI:=
 .fN (⟨some d0,.fk T (.t k),none⟩::(m++⟨d1,.call (.t d0) args,none⟩::rest)) none
theorem We (vs:alU):∀(m n:Nat),m+n=vs.length->vs.drop m=((range n).map (·+m)).map λj=>vs.getD j undef:=by
 intro m n h;apply ext_getElem?;intro i;rw[getElem?_drop,List.map_map,getElem?_map];by_cases ao:i<n
 .rw[getElem?_range ao,getElem?_eq_getElem (by omega)];simp only[Option.map_some,Function.comp];rw[getD_eq_getElem?_getD,getElem?_eq_getElem (by omega)];simp only[Option.getD_some,Option.some.injEq];congr 1;omega
 .rw[getElem?_eq_none (by omega),getElem?_eq_none (by simp;omega)];rfl
theorem BP {c:Code} {rs:List ch} (h:e5 n c=some (.fN rs none)):∃id ops,c= .region id ops false/\pZ n ops ops.toList=some rs:=by
 cases c with
 |region id ops draw=>
  cases draw with
  |false=>
   simp only[e5]at h;split at h
   .rename_i r ab;cases h;exact⟨id,ops,rfl,ab⟩
   .cases h
  |true=>
   simp only[e5]at h;split at h
   .simp only[Option.map_eq_some_iff]at h;obtain⟨r,ab,ae⟩:=h;cases ae
   .cases h
 |seq a b=>simp only[e5]at h;split at h<;>cases h
 |cond c a b=>simp only[e5]at h;split at h<;>cases h
 |block id b=>simp only[e5,Option.map_eq_some_iff]at h;obtain⟨r,ab,ae⟩:=h;cases ae
 |loop b=>simp only[e5,Option.map_eq_some_iff]at h;obtain⟨r,ab,ae⟩:=h;cases ae
 |_=>simp[e5]at h
def BQ (C:ca) (f:FuncId) (fx:alR) (Wf m k:Nat) (T:(Exit->aw->Prop)->aw->Prop) (b:aI):Prop:=
 ∃(ty:TypeId) (k0 d0 nx:Nat) (h8:List ch) (args:List bk) (d1:Option Nat) (rest:List ch) (keep:alR),
  T=F9 C f k k0 d0 ((range nx).map (·+m)) h8 args d1 rest keep/\b=NV ty k d0 h8 args d1 rest/\(C.T ty).flat=true/\F8 (λd=>d !=d0&&decide (m+nx<=d)) h8=true/\decide (m+nx<=d0)=true/\
  decide (k0<nx)=true/\k=m+k0/\((range nx).all λj=>fx.contains (m+j))=true/\args.length=m/\m+nx=Wf
theorem mq.of_wp (bn:C.Ok) {f:FuncId} {fn:Func} {c:Code} {dj:aI} {fx:alR} {as outs:alW} {r:I} {k m:Nat} (bo:C.P.funcs[f]? =some fn) (R:fn.body=some c)
  (kP:(fn.name== "runtime.NumGoroutine")=false) (ad:e5 ⟨fn.ntmps,fx⟩ c=some dj.strip) (aS:as.length<=fn.ntmps)
  (ax:dj.mQ (BQ C f fx as.length m k))
  (h:∀Q:Exit->aw->Prop,(∀s,dK (Ends C fx fn.results.toList r outs) s->Q .ret s)->(∀s,dK (Ends C fx fn.results.toList r outs) s->Q .normal s)->a_ C dj Q (ay (num 0 as))):mq C f m k as r outs:=by
 rintro w F X S vs hl ⟨b,Wg,fr,aR,aV,aW,cm⟩ aM;refine FD (fx:=fx) bn bo R kP aS hl aM λa hrel el=>?_;refine FA bn (H:=BQ C f fx as.length m k) ?_ c (by rw[aI.Fw];exact ad) (aI.Bp dj ax) (Bq dj ?_) hrel
 .rintro c T fH Q s J eC ⟨ty,k0,d0,nx,h8,args,d1,rest,keep,rfl,rfl,iO,hm,k5,BR,ax,iy,hlen,aj8⟩ o0 Wh ⟨g1,g2,g3,tp,b5,g4⟩;replace hm:∀r∈h8,∀d,r.dst=some d->d≠d0/\m+nx<=d:=λr aM d ai=>by
   have:=NT hm r aM d ai;simpa using this
  replace k5:=of_decide_eq_true k5;replace BR:=of_decide_eq_true BR;replace iy:∀j,j<nx->m+j∈fx:=λj bm=>by
   have:=List.all_eq_true.1 iy j (mem_range.2 bm);simpa using this
  obtain⟨id,ops,rfl,r7⟩:=BP o0;have NW:∀j,j<nx->J.tmps.getD (j+m) undef=vs.getD (j+m) undef:=λj bm=>by
   rw[Nat.add_comm];exact g3 _ (iy j bm)
  have gh:((range nx).map (·+m)).map (λj=>J.tmps.getD j undef)=vs.drop m:=by
   rw[We vs m nx (by omega),List.map_map,List.map_map];apply map_congr_left;intro j bm;exact NW j (mem_range.1 bm)
  refine NK (Q:=qZ w F X ⟨fn.ntmps,fx⟩ (gb vs) Q) (K:=dK (Q .normal)) (b:=b) (ty:=Wg) (fr:=fr) (g:=f) (k0:=k0) (cs:=(range nx).map (·+m)) bn r7 iO (λr aM d ai=>⟨(hm r aM d ai).1,λnw=>?_⟩) (λnw=>?_) ?_ g1 g2 g3 g4 (g4.gm b aW) ?_ ?_ ?_ (λaB cL aF ax eG=>eG.dK ax)
  .obtain⟨j,bm,rfl⟩:=mem_map.1 nw;have:=(hm r aM _ ai).2;have:=mem_range.1 bm;omega
  .obtain⟨j,bm,e⟩:=mem_map.1 nw;have:=mem_range.1 bm;omega
  .rw[getElem?_map,getElem?_range BR,ax];simp[Nat.add_comm]
  .rw[ax,Nat.add_comm,NW k0 BR,Nat.add_comm,<-ax];exact aR
  .rw[gh,g4.old b (aM.eQ b aW) cm];exact aV
  .refine tw (λ_ s1=>?_) Wh;rintro⟨ps,r,gE,gD,iH,iI,pP,xX,Fp⟩;exact⟨ps,r,gE,gD,iH,iI,pP,xX,tw (λ_ s h=>.inr ⟨_,NU _ _,h⟩) Fp⟩
 .rw[Bt];exact h _ (λs h=>⟨.inr rfl,h⟩) (λs h=>⟨.inl rfl,h⟩)
theorem Wi {Q:Exit->aw->Prop} {l:alV} {f:FuncId} {k k0 d0:Nat} {cs:alR} {m:List ch} {args:List bk} {d1:Option Nat} {rest:List ch} {keep:alR} {b:aI} (cn:alV)
  (h:∀P:alV->Prop,P cn->o1 C f k k0 d0 cs m args d1 rest keep P (ay l)) (ax:Q .normal (ay cn)):a_ C (.iQ (F9 C f k k0 d0 cs m args d1 rest keep) b) Q (ay l):=
 λep F_=>h (λl=>ep .normal (ay l)) (F_ _ _ ax)
theorem NX {l:alV} {f:FuncId} {k k0:Nat} {cs:alR} {args:List bk} {d1:Option Nat} {rest:List ch} {keep:alR} {P:alV->Prop} {r:I} (ps:List cD)
  (bF:mq C f args.length (args.length+k0) (ps.map (·.d)) r (ps.map (·.o))) (ae:ps.map (·.a)=jA (ay l) args++cs.map (qa k (ay l))) (az:p_ (ay l) ps) (a6:ia ps=true)
  (cP:r.res=true) (cB:jR ps=false\/(r.cS&&q5 ps)=true)
  (hK:dE C (fin (hp (e3 (ay l) ps) ps) d1 r) rest none (λ_ s=>P (gO keep s))):NR C f k k0 cs args d1 rest keep P (ay l):=by
 refine⟨ps,r,by rw[ae,va],BG az,a6,bF,cP,?_,hK⟩;intro hl;rcases cB with cB|cB
 .rw[cB]at hl;cases hl
 .rw[Bool.and_eq_true]at cB;exact⟨cB.1,BH cB.2⟩
end
end Go.de
