/- Part of a proof that a law returns true for every input. No condition. -/
import Derived.Test.YtndfcecbamffaaaGreatFwI
namespace Go.dD
open List Go.IntKind Nat Or
def rW (C:bV) (f:FuncId) (m k:Nat) (as:ahI) (r:I) (outs:ahI):Prop:=
 ∀(w:World) (F X:Nat->Prop) (S:Nat->Nat->Prop) (vs:ahF),vs.length=as.length->
  (∃b ty fr,vs.getD k undef= .pointer (some ⟨b,0,none⟩)/\w.heap[b]? =some (.cells #[.func (.func f) #[] (vs.drop m).toArray] ty fr)/\F b/\¬X b)->
  bK w F X F S (fk as) (g1 vs) w->
  nz C.P f vs.toArray w λv aK=>∃bJ aS,bK w F X bJ aS (fk (r::outs)) (g1 (v::vs)) aK
section
variable {C:bV} {w0 w:World} {F0 X F bJ:Nat->Prop} {S aS:Nat->Nat->Prop} {n:Fr} {ρ:Nat->Value} {s aH:ao} {aF iO:Nat->Value} {a:Act} {av:I} {Q:Exit->Act->World->Prop} {aK:World}
theorem bK.base (h:bK w0 F0 X F S s aF w):bK w F (λb=>∃u,S u b) F S s aF w where
 g5:=λ_ h=>h
 ho:=λ_ h=>.inl h
 fR:=h.fR
 et:=h.et
 fS:=h.fS
 fe:=h.fe
 dI:=λu b U=>.inl ⟨u,U⟩
 dz:=h.dz
 old:=λ_ _ _=>rfl
 size:=Nat.le_refl _
 os:=rfl
 tape:=rfl
 output:=Out.refl _
 hG:=h.hG.next h.size h.old λb ⟨u,hu⟩=>h.dI u b hu
theorem bK.F4 (h:bK w0 F0 X F S s aF w) (bO:bK w F (λb=>∃u,S u b) bJ aS aH iO aK):bK w0 F0 X bJ aS aH iO aK where
 g5:=λb U=>bO.g5 b (h.g5 b U)
 ho:=λb U=>by
  rcases bO.ho b U with U|⟨u,U⟩|U
  .exact h.ho b U
  .exact .inr (h.dI u b U)
  .exact .inr (.inr (Nat.le_trans h.size U))
 fR:=bO.fR
 et:=bO.et
 fS:=bO.fS
 fe:=bO.fe
 dI:=λu b U=>by
  rcases bO.dI u b U with⟨u,U⟩|U
  .exact h.dI u b U
  .exact .inr (Nat.le_trans h.size U)
 dz:=bO.dz
 old:=λb U j1=>by
  refine(bO.old b (Nat.lt_of_lt_of_le U h.size) λ⟨u,hu⟩=>?_).trans (h.old b U j1);rcases h.dI u b hu with aA|aA
  .exact j1 aA
  .omega
 size:=Nat.le_trans h.size bO.size
 os:=bO.os.trans h.os
 tape:=bO.tape.trans h.tape
 output:=bO.output.trans h.output
 hG:=h.hG
inductive qV:ahI->ahI->Prop
 |nil:qV [] []
 |eq {a:I} {as bs:ahI}:a.ae=[]->qV as bs->qV (a::as) (a::bs)
 |wd {a b:I} {as bs:ahI}:eT a b->a.tree=true->b.ae=[]->qV as bs->qV (a::as) (b::bs)
theorem qV.get:∀{as bs:ahI},qV as bs->∀p k,p∈num k bs->p.2.ae=[]/\∃a,as[p.1-k]? =some a/\k<=p.1/\(p.2=a\/(a.tree=true/\eT a p.2))
 |_,_,.nil,p,k,aw=>by simp[num]at aw
 |_,_,.eq (a:=a) h hw,p,k,aw=>by
  simp only[num,mem_cons]at aw;rcases aw with rfl|aw
  .exact⟨h,a,by simp,Nat.le_refl _,.inl rfl⟩
  .obtain⟨af,x,ag,aJ,a_⟩:=hw.get p (k+1) aw;refine⟨af,x,?_,by omega,a_⟩;rw[show p.1-k=(p.1-(k+1))+1 by omega,getElem?_cons_succ];exact ag
 |_,_,.wd (a:=a) h aZ U hw,p,k,aw=>by
  simp only[num,mem_cons]at aw;rcases aw with rfl|aw
  .exact⟨U,a,by simp,Nat.le_refl _,.inr ⟨aZ,h⟩⟩
  .obtain⟨af,x,ag,aJ,a_⟩:=hw.get p (k+1) aw;refine⟨af,x,?_,by omega,a_⟩;rw[show p.1-k=(p.1-(k+1))+1 by omega,getElem?_cons_succ];exact ag
theorem qV.len:∀{as bs:ahI},qV as bs->bs.length=as.length
 |_,_,.nil=>rfl
 |_,_,.eq _ hw=>by simp[hw.len]
 |_,_,.wd _ _ _ hw=>by simp[hw.len]
theorem bt.F5 {f:FuncId} {as bs:ahI} {r:I} {outs:ahI} (h:bt C f bs r outs) (hw:qV as bs):bt C f as r outs:=by
 intro w F X S vs hl aV;have FR:rR (fk as) (num 0 bs):=λp aw=>by
  obtain⟨af,a,ag,_,a_⟩:=hw.get p 0 aw;have e:fk as p.1=a:=by simp[fk,List.getD,show as[p.1]? =some a from ag]
  rw[e];rcases a_ with a_|⟨aZ,a_⟩
  .exact .inl a_
  .refine .inr ⟨aZ,a_,λcE dT=>.inl ?_⟩;rw[(hw.get cE 0 dT).1];simp
 obtain⟨bJ,aS,ag⟩:=aV.Fg FR;rw[<-yN]at ag;exact(h w bJ _ aS vs (hl.trans hw.len.symm) ag.base).mono λv aK ⟨j6,dq,aJ⟩=>⟨j6,dq,ag.F4 aJ⟩
theorem M7 (C:bV) (K:ao->Prop):∀(rs pre post:List bW) (s:ao),l0 C s rs K->g2 C (pre++(rs++post)) s ((range rs.length).map (·+pre.length)) K:=by
 intro rs;induction rs with
 |nil=>intro pre post s h;exact h
 |cons r rs ih=>
  intro pre post s h;rw[length_cons,range_succ_eq_map,map_cons,List.map_map];simp only[g2,Nat.zero_add];rw[getElem?_append_right (Nat.le_refl _)];simp only[Nat.sub_self,cons_append,getElem?_cons_zero];have key:∀s1,l0 C s1 rs K->g2 C (pre++r::(rs++post)) s1 ((range rs.length).map ((λx=>x+pre.length)∘succ)) K:=by
   intro s1 af;have:=ih (pre++[r]) post s1 af;simp only[append_assoc,singleton_append,length_append,length_singleton]at this;have e:((λx=>x+pre.length)∘succ)=λx=>x+(pre.length+1):=by funext x;simp;omega
   rw[e];exact this
  simp only[l0]at h;exact yK h key
theorem VL (iQ:a.defers=[]) (dR:a.tmps.size=n.n) (hr:∀i∈n.fx,a.tmps.getD i undef=ρ i) (aV:bK w0 F0 X F S s (λt=>a.tmps.getD t undef) w)
  {o:Oper} {d0 k:Nat} {args:List bn} {g:FuncId} {caps:ahI} {arr:Array Value} {ps:List cJ} {r:I} (cz:c2 o.op=some (.call (.t d0) args)) (al:lE n o.dst=true)
  (aP:a.tmps.getD d0 undef= .func (.func g) #[] arr) (aC:ef w F s (λt=>a.tmps.getD t undef) caps arr.toList) (gS:I.eY caps=true)
  (VM:∃b ty fr,(arr.toList).getD k undef= .pointer (some ⟨b,0,none⟩)/\w.heap[b]? =some (.cells #[.func (.func g) #[] arr] ty fr)/\F b) (F6:k<arr.size)
  (ag:ps.map (·.a)=args.map (br s)++caps) (aJ:∀p∈ps,p.ok s) (a_:iF ps=true) (bC:rW C g args.length (args.length+k) (ps.map (·.d)) r (ps.map (·.o))) (cw:r.res=true)
  (cQ:kn ps=true->r.dj=true/\∀p∈ps,p.o.dj=true) {K:ao->Prop} {next:Act->World->Prop} (e3:K (fin (hq (fb s ps) ps) o.dst r))
  (ba:∀aH cj aK,K aH->Rel w0 F0 X n ρ aH cj aK->next cj aK):o.wp C.P a w next Q:=by
 obtain⟨dst,op,ty,pos,after,guard⟩:=o;simp only at cz al e3;cases op with
 |call c=>
  obtain⟨callee,oW,argTypes⟩:=c;simp only[c2]at cz;split at cz
  .split at cz
   .rename_i yD _ _ TN xs bS qM;simp only[Option.some.injEq,dU.call.injEq]at cz;obtain⟨rfl,rfl⟩:=cz;have yj:yD= .tmp d0:=by
     cases yD with
     |tmp t=>simp only[dE,Option.some.injEq,bn.t.injEq]at bS;rw[bS]
     |const v=>simp only[dE,Option.map_eq_some_iff]at bS;obtain⟨c,_,bS⟩:=bS;cases bS
     |func g=>simp[dE]at bS
     |global g=>simp[dE]at bS
    subst yj;have uA:execOp a.eval {dst,op:=.call {callee:=.value (.tmp d0),args:=oW,argTypes},type:=ty,pos,after,guard}=callFunc g ((oW.toList.map a.eval++arr.toList).toArray):=by
     have:a.eval (.tmp d0)= .func (.func g) #[] arr:=aP;simp only[execOp,resolve,this,Deferred.ofValue,pure_bind,invoke];congr 1;apply Array.ext';simp
    unfold Oper.wp;rw[uA];have hlen:(oW.toList.map a.eval).length=xs.length:=by
     have:=congrArg length (uq qM);simpa using this
    have yE:ef w F s (λt=>a.tmps.getD t undef) (xs.map (br s)++caps) (oW.toList.map a.eval++arr.toList):=Ll (Bg aV (λ_=>rfl) _ _ (uq qM)) aC;rw[<-ag]at yE;obtain⟨di,l2⟩:=Lm yE;have hc:∀d∈xs.map (br s)++caps,d.plain=true:=by
     intro d al;rcases mem_append.1 al with al|al
     .obtain⟨x,aA,rfl⟩:=mem_map.1 al;exact JW s x λav e=>by
       subst e;have hm:=uq qM;have:some (bn.c av)∈xs.map some:=mem_map.2 ⟨_,aA,rfl⟩;rw[<-hm]at this;obtain⟨o,_,b_⟩:=mem_map.1 this;cases o with
       |const v=>simp only[dE,Option.map_eq_some_iff]at b_;obtain⟨c,aC,e⟩:=b_;cases e;exact Ea aC
       |tmp n=>simp[dE]at b_
       |func g=>simp[dE]at b_
       |global g=>simp[dE]at b_
     .obtain⟨k,au⟩:=getElem?_of_mem al;exact AO gS au
    have E9:=Lk (C:=C) aV (ps:=ps) (vs:=oW.toList.map a.eval++arr.toList) (f:=g) (r:=r) (by simpa using di)
     (λi p v aw aP=>⟨hc p.a (by rw[<-ag];exact mem_map.2 ⟨p,mem_of_getElem? aw,rfl⟩),l2 i p.a v (by simp[aw]) aP⟩) aJ a_
     (λFc la ei bm j1 aw=>by
      refine bC w Fc la ei _ (by rw[<-di];simp) ?_ aw;obtain⟨b,VN,fr,a1,bc,bb⟩:=VM;refine⟨b,VN,fr,?_,?_,bm b bb,λaA=>by obtain⟨u,hu⟩:=j1 b aA;exact aV.fS u b hu bb⟩
      .rw[getD_eq_getElem?_getD,getElem?_append_right (by omega),hlen,Nat.add_sub_cancel_left,<-getD_eq_getElem?_getD];exact a1
      .rw[bc,<-hlen,drop_left])
     cw cQ
    rcases E9 with⟨dZ,bD⟩|⟨v,aK,dZ,bJ,aS,bD,dS⟩
    .rw[dZ,Oper.upon_enter];refine Calls.mono bD ?_;rintro e aK ⟨v,rfl,bJ,aS,cv,cK⟩;exact ba _ _ _ e3 (Rel.put iQ dR hr cv cK.1 al)
    .rw[dZ,Oper.upon_value];exact ba _ _ _ e3 (Rel.put iQ dR hr bD dS.1 al)
   .cases cz
  .split at cz
   .simp only[Option.map_eq_some_iff]at cz;obtain⟨_,_,cz⟩:=cz;cases cz
   .cases cz
  .split at cz
   .simp only[Option.map_eq_some_iff]at cz;obtain⟨_,_,cz⟩:=cz;cases cz
   .cases cz
  iterate 3
   .split at cz
    .split at cz<;>cases cz
    .cases cz
  .cases cz
 |makeFunc fn first cs=>
  cases fn<;>simp only[c2]at cz<;>first|(cases cz;done)|(split at cz<;>simp at cz)
 |slice T x e5 aq e2=>
  cases e2<;>simp only[c2]at cz<;>first|(cases cz;done)|(split at cz<;>simp at cz)
 |makeMap T r=>cases r<;>simp only[c2]at cz<;>simp at cz
 |lookup T x i c=>cases c<;>simp only[c2]at cz<;>first|(cases cz;done)|(split at cz<;>simp at cz)
 |_=>simp only[c2]at cz<;>first|(cases cz;done)|(simp at cz;done)|(split at cz<;>simp at cz)
theorem M8 {op:Op} {T:TypeId} {x:bn} (h:c2 op=some (.e_ T x)):∃y,op= .load T y/\dE y=some x:=by
 cases op with
 |load uz y=>
  simp only[c2,Option.map_eq_some_iff]at h;obtain⟨cL,aA,h⟩:=h;cases h;exact⟨y,rfl,aA⟩
 |call c=>
  obtain⟨callee,oW,argTypes⟩:=c;simp only[c2]at h;split at h<;>(try split at h)<;>(try split at h)<;>(try simp[Option.map_eq_some_iff]at h)
 |makeFunc fn first cs=>
  cases fn<;>simp only[c2]at h<;>first|(cases h;done)|(split at h<;>simp at h)
 |slice T x e5 aq e2=>
  cases e2<;>simp only[c2]at h<;>first|(cases h;done)|(split at h<;>simp at h)
 |makeMap T r=>cases r<;>simp only[c2]at h<;>simp at h
 |lookup T x i c=>cases c<;>simp only[c2]at h<;>first|(cases h;done)|(split at h<;>simp at h)
 |_=>simp only[c2]at h<;>first|(cases h;done)|(simp at h;done)|(split at h<;>simp at h)
theorem F7 {y:Operand} {k:Nat} (h:dE y=some (.t k)):y= .tmp k:=by
 cases y with
 |tmp t=>simp only[dE,Option.some.injEq,bn.t.injEq]at h;rw[h]
 |const v=>simp only[dE,Option.map_eq_some_iff]at h;obtain⟨c,_,h⟩:=h;cases h
 |func g=>simp[dE]at h
 |global g=>simp[dE]at h
def rX (k:Nat) (s:ao) (az:Nat):I:=if az=k then .ref .hole else qz az (s az)
theorem VO {aF:Nat->Value} {b k:Nat} {v:Value} {ty:TypeId} {fr:Nat×Nat} (aV:bK w0 F0 X F S s aF w) (au:aF k= .pointer (some ⟨b,0,none⟩)) (U:F b) (aC:w.heap[b]? =some (.cells #[v] ty fr)) (af:Value.fN v=true):
  ∀cs:ahC,ef w F s aF (cs.map (rX k s)) (cs.map aF)/\I.eY (cs.map (rX k s))=true:=by
 intro cs;induction cs with
 |nil=>exact⟨by rw[map_nil,map_nil,ef],rfl⟩
 |cons az cs ih=>
  simp only[map_cons];have ch:aO w F s aF (rX k s az) (aF az) (λ_=>False)/\(rX k s az).plain=true:=by
   unfold rX;split
   .rename_i e;subst e;rw[au];refine⟨(aO.cI rfl).2 ⟨rfl,?_⟩,rfl⟩;rw[ay];refine⟨b,0,[v],rfl,U,?_,?_⟩
    .intro i c aq;cases i with
     |zero=>simp at aq;subst aq;simp[World.cell?,aC]
     |succ i=>simp at aq
    .rw[ay];exact⟨v,af,rfl⟩
   .unfold qz;split
    .rename_i aw;exact⟨aO.nothing aw (aV.dz az),aw⟩
    .rename_i aw;refine⟨?_,rfl⟩;rw[aO];intro d al aw;simp only[I.sub,Option.some.injEq]at al;subst al;have aZ:(s az).tree=true:=by
      cases ae:s az<;>first|rfl|(rw[ae]at aw;simp[I.plain]at aw)
     exact⟨_,none,rfl,rfl,((aO.cI aZ).1 (aV.dz az)).1⟩
  refine⟨?_,?_⟩
  .rw[ef];exact⟨_,_,rfl,ch.1,ih.1⟩
  .simp only[I.eY,ch.2,ih.2,Bool.and_self]
theorem VP (bx:C.eN) {id:Nat} {ops:Array Oper} {T:TypeId} {k k0 d0:Nat} {m rest:List bW} {args:List bn} {d1:Option Nat} {g:FuncId} {cs:ahC} {b:Nat} {ty:TypeId} {fr:Nat×Nat} {K:ao->Prop}
  (qP:pS n ops ops.toList=some ((⟨some d0,.e_ T (.t k),none⟩::(m++⟨d1,.call (.t d0) args,none⟩::rest):List bW).map bW.un))
  (iZ:(C.T T).flat=true) (hm:∀r∈m,∀d,r.dst=some d->d≠d0/\d∉cs) (ns:d0∉cs) (F8:cs[k0]? =some k)
  (iQ:a.defers=[]) (dR:a.tmps.size=n.n) (hr:∀i∈n.fx,a.tmps.getD i undef=ρ i) (aV:bK w0 F0 X F S s (λt=>a.tmps.getD t undef) w)
  (U:F b) (au:a.tmps.getD k undef= .pointer (some ⟨b,0,none⟩)) (A0:w.heap[b]? =some (.cells #[.func (.func g) #[] (cs.map λaz=>a.tmps.getD az undef).toArray] ty fr))
  (h:l0 C (fin s (some d0) .hole) m λs1=>∃ps r,ps.map (·.a)=args.map (br s1)++cs.map (rX k s1)/\(∀p∈ps,p.ok s1)/\iF ps=true/\
   rW C g args.length (args.length+k0) (ps.map (·.d)) r (ps.map (·.o))/\r.res=true/\(kn ps=true->r.dj=true/\∀p∈ps,p.o.dj=true)/\l0 C (fin (hq (fb s1 ps) ps) d1 r) rest K)
  (ba:∀aH cj aK,K aH->Rel w0 F0 X n ρ aH cj aK->Q .normal cj aK):(Code.region id ops false).wp C.P Q a w:=by
 obtain⟨hl,lf⟩:=Br qP;have wm:∀(i:Nat) (r:bW),(⟨some d0,.e_ T (.t k),none⟩::(m++⟨d1,.call (.t d0) args,none⟩::rest):List bW)[i]? =some r->∃o,ops[i]? =some o/\lb n ops o=some r.un:=by
  intro i r aq;have en:i<ops.toList.length:=by
   rw[hl,length_map];exact(List.getElem?_eq_some_iff.1 aq).1
  obtain⟨gv,af,ag⟩:=lf i _ (getElem?_eq_getElem en);rw[getElem?_map,aq]at af;simp only[Option.map_some,Option.some.injEq]at af;exact⟨_,by rw[<-Array.getElem?_toList];exact getElem?_eq_getElem en,by rw[af];exact ag⟩
 have y9:∀{r:bW} {o:Oper},r.guard=none->lb n ops o=some r.un->r.dst=o.dst/\o.guard=none/\rO o.op=r.bE.base/\lE n o.dst=true:=by
  intro r o bP h;unfold lb at h;split at h
  .rename_i al;split at h
   .rename_i M9 hY;simp only[bW.un,Option.some.injEq,bW.mk.injEq]at h;obtain⟨a1,bc,bb⟩:=h;refine⟨a1.symm,?_,bc,al⟩;rw[bb,bP]at hY;cases b_:o.guard with
    |none=>rfl
    |some yF=>
     rw[b_]at hY;simp only[uy]at hY;split at hY<;>cases hY
   .cases h
  .cases h
 have BO:ops.size=m.length+rest.length+2:=by
  have:ops.toList.length=ops.size:=by simp
  rw[<-this,hl];simp;omega
 have VQ:range ops.size=0::((range m.length).map (·+1)++((m.length+1)::(range rest.length).map (·+(m.length+2)))):=by
  rw[BO,show m.length+rest.length+2=(m.length+rest.length+1)+1 from rfl,range_succ_eq_map];congr 1;rw[show m.length+rest.length+1=m.length+(rest.length+1) by omega,range_add,map_append,range_succ_eq_map];simp only[List.map_map,map_cons,Nat.add_zero];congr 1;congr 1;apply map_congr_left;intro x _;simp;omega
 obtain⟨s7,VR,lg⟩:=wm 0 _ rfl;obtain⟨gu,fF,jb,iC⟩:=y9 rfl lg;change rO s7.op= .e_ T (.t k)at jb;have uN:c2 s7.op=some (.e_ T (.t k)):=by
  rcases qN jb with h|h
  .cases h
  .exact h
 obtain⟨y,bu,VS⟩:=M8 uN;have:=F7 VS;subst this;let qW:Value:=.func (.func g) #[] (cs.map λaz=>a.tmps.getD az undef).toArray
 have j0:hk w b 0 [qW]:=by
  intro i c aq;cases i with
  |zero=>simp at aq;subst aq;simp[World.cell?,A0,qW]
  |succ i=>simp at aq
 refine wp_region ?_;rw[VQ];simp only[wpOps,VR];show(if Region.wanted s7 (yielded ops a.tmps)=true then s7.wp C.P a w _ Q\/(s7.asks C.P a w/\LetsOut Q)else _);rw[if_pos (v5 fF)];left;have uA:(execOp a.eval s7).run C.P w= .ok (.value qW) w:=by
  obtain⟨dst,op,ty,pos,after,guard⟩:=s7;simp only at bu;subst bu;have:a.eval (.tmp k)= .pointer (some ⟨b,0,none⟩):=au;simp[execOp,this,Instr.loadAt,Instr.sureAddr,Eg bx iZ j0]
 unfold Oper.wp;rw[uA,Oper.upon_value];have VT:some d0=s7.dst:=gu;rw[<-VT]at iC⊢;let J:Act:=a.put (some d0) qW
 let jx:Fr:=⟨n.n,d0::k::(cs++n.fx)⟩
 let ρ1:Nat->Value:=λt=>J.tmps.getD t undef
 have BP:k∈cs:=mem_of_getElem? F8;have rJ:=aV.base;have F9:Rel w F (λb=>∃u,S u b) ⟨n.n,[]⟩ ρ1 (fin s (some d0) .hole) J w:=
  Rel.put (n:=⟨n.n,[]⟩) iQ dR (λi aq=>by cases aq) rJ (.inl ⟨rfl,by rw[aO];trivial⟩) (by
   simp only[lE,Bool.and_eq_true,decide_eq_true_eq]at iC⊢;exact⟨iC.1,by simp⟩)
 have VU:Rel w F (λb=>∃u,S u b) jx ρ1 (fin s (some d0) .hole) J w:=⟨F9.defers,F9.size,λi _=>rfl,F9.rel⟩
 have M_:∀t,t≠d0->ρ1 t=a.tmps.getD t undef:=by
  intro t aZ;have:=congrFun (yC (n:=n) (dst:=some d0) (a:=a) qW dR iC).1 t;simp only[px]at this;rw[iz _ _ aZ]at this;exact this
 have VV:ρ1 d0=qW:=by
  have:=congrFun (yC (n:=n) (dst:=some d0) (a:=a) qW dR iC).1 d0;simp only[px]at this;rw[mv]at this;exact this
 have hw:=M7 C _ m [⟨some d0,.e_ T (.t k),none⟩] (⟨d1,.call (.t d0) args,none⟩::rest) _ h;have mid:∀aH cj aK,(∃ps r,ps.map (·.a)=args.map (br aH)++cs.map (rX k aH)/\(∀p∈ps,p.ok aH)/\iF ps=true/\
   rW C g args.length (args.length+k0) (ps.map (·.d)) r (ps.map (·.o))/\r.res=true/\(kn ps=true->r.dj=true/\∀p∈ps,p.o.dj=true)/\l0 C (fin (hq (fb aH ps) ps) d1 r) rest K)->
   Rel w F (λb=>∃u,S u b) jx ρ1 aH cj aK->wpOps C.P ops Q ((m.length+1)::(range rest.length).map (·+(m.length+2))) cj aK:=by
  rintro s2 aB jR ⟨ps,r,a1,bc,bb,cl,cR,b0,b7⟩ ⟨aX,bk,ca,j6,dq,dr⟩;obtain⟨wo,VW,nY⟩:=wm (m.length+1) ⟨d1,.call (.t d0) args,none⟩ (by simp);obtain⟨fp,fP,ha,qD⟩:=y9 rfl nY;simp only[wpOps,VW];show(if Region.wanted wo (yielded ops aB.tmps)=true then wo.wp C.P aB jR _ Q\/(wo.asks C.P aB jR/\LetsOut Q)else _);rw[if_pos (v5 fP)];left;change rO wo.op= .call (.t d0) args at ha;have VX:c2 wo.op=some (.call (.t d0) args):=by
   rcases qN ha with h|h
   .cases h
   .exact h
  have Na:j6 b:=dr.g5 b U;have Nb:jR.heap[b]? =some (.cells #[qW] ty fr):=by
   rw[dr.old b (aV.fR b U) (λ⟨u,hu⟩=>aV.fS u b hu U)];exact A0
  have Nc:∀az∈cs,aB.tmps.getD az undef=a.tmps.getD az undef:=by
   intro az ch;rw[ca az (by simp[jx,ch])];exact M_ az (λe=>ns (e▸ch))
  have pz:aB.tmps.getD k undef= .pointer (some ⟨b,0,none⟩):=(Nc k BP).trans au;have Nd:(cs.map λaz=>a.tmps.getD az undef)=cs.map λaz=>aB.tmps.getD az undef:=map_congr_left λaz ch=>(Nc az ch).symm;obtain⟨b1,cd⟩:=VO (k:=k) dr pz Na Nb rfl cs;have EC:∀aH cj aK,l0 C aH rest K->Rel w F (λb=>∃u,S u b) ⟨n.n,n.fx⟩ ρ aH cj aK->wpOps C.P ops Q ((range rest.length).map (·+(m.length+2))) cj aK:=by
   intro kV eb o2 aJ VY;have Bv:=M7 C K rest ((⟨some d0,.e_ T (.t k),none⟩::m)++[⟨d1,.call (.t d0) args,none⟩]) [] kV aJ;have:=Fa (Q:=Q) bx (ops:=ops) (ros:=((⟨some d0,.e_ T (.t k),none⟩::m)++[⟨d1,.call (.t d0) args,none⟩])++(rest++[])) (l2:=[]) (K:=K) (λaH cj aK g8 ek=>by
     obtain⟨o3,rY,s8,VZ,Kn,V0⟩:=ek;exact ba aH cj aK g8 ⟨o3,rY,s8,VZ,Kn,aV.F4 V0⟩) ((range rest.length).map (·+(m.length+2))) (λi aq=>by
      have yL:((⟨some d0,.e_ T (.t k),none⟩::m)++[⟨d1,.call (.t d0) args,none⟩])++(rest++[])=(⟨some d0,.e_ T (.t k),none⟩::(m++⟨d1,.call (.t d0) args,none⟩::rest):List bW):=by simp
      rw[yL];refine⟨λlx=>?_,λo b_=>?_⟩
      .rw[List.getElem?_eq_none_iff];have:=Array.getElem?_eq_none_iff.1 lx;simp;omega
      .obtain⟨aD,jG,ag⟩:=lf i o (by simpa using b_);obtain⟨r,af,rfl⟩:∃r,(⟨some d0,.e_ T (.t k),none⟩::(m++⟨d1,.call (.t d0) args,none⟩::rest):List bW)[i]? =some r/\r.un=aD:=by
        rw[getElem?_map,Option.map_eq_some_iff]at jG;exact jG
       exact⟨r,af,ag⟩) kV eb o2 (by
      have e:((⟨some d0,.e_ T (.t k),none⟩::m)++[⟨d1,.call (.t d0) args,none⟩]:List bW).length=m.length+2:=by simp
      rw[e]at Bv;exact Bv) VY
   rwa [append_nil]at this
  have BQ:∀i∈n.fx,aB.tmps.getD i undef=ρ i:=by
   intro i aq;rw[ca i (by simp[jx,aq]),M_ i (λe=>?_)]
   .exact hr i aq
   .simp only[lE,Bool.and_eq_true,Bool.not_eq_true',contains_eq_mem,decide_eq_false_iff_not]at iC;exact iC.2 (e▸aq)
  have F6:k0<cs.length:=(List.getElem?_eq_some_iff.1 F8).1;have V1:wo.dst=d1:=fp.symm;exact VL (n:=n) (ρ:=ρ) (K:=λaH=>l0 C aH rest K) aX bk BQ dr VX qD
   (arr:=(cs.map λaz=>aB.tmps.getD az undef).toArray) (k:=k0) (caps:=cs.map (rX k s2)) (g:=g) (ps:=ps) (r:=r)
   (by rw[ca d0 (by simp[jx]),VV];simp only[qW,Nd]) (by simpa using b1) cd
   ⟨b,ty,fr,by
     rw[getD_eq_getElem?_getD,getElem?_map,F8];exact pz,by rw[Nb];simp only[qW,Nd],Na⟩ (by simpa using F6)
   a1 bc bb cl cR b0 (by rw[V1];exact b7) EC
 have:=Fa (Q:=Q) bx (ops:=ops) (ros:=[⟨some d0,.e_ T (.t k),none⟩]++(m++⟨d1,.call (.t d0) args,none⟩::rest)) (l2:=(m.length+1)::(range rest.length).map (·+(m.length+2))) mid
  ((range m.length).map (·+1)) (λi aq=>by
    obtain⟨az,ch,rfl⟩:=mem_map.1 aq;have y_:az<m.length:=mem_range.1 ch;refine⟨λlx=>?_,λo b_=>?_⟩
    .have:=Array.getElem?_eq_none_iff.1 lx;omega
    .obtain⟨nw,yS,g3⟩:=wm (az+1) m[az] (by
      simp only[getElem?_cons_succ];rw[getElem?_append_left y_,getElem?_eq_getElem y_])
     have heq:nw=o:=by rw[yS]at b_;exact Option.some.inj b_
     subst heq;refine⟨m[az],by
      simp only[singleton_append,getElem?_cons_succ];rw[getElem?_append_left y_,getElem?_eq_getElem y_],?_⟩
     have V2:=hm m[az] (getElem_mem y_);unfold lb at g3⊢;split at g3
     .rename_i al;rw[if_pos]
      .exact g3
      .cases za:nw.dst with
       |none=>rfl
       |some d=>
        rw[za]at al;simp only[lE,Bool.and_eq_true,decide_eq_true_eq,Bool.not_eq_true',contains_eq_mem,decide_eq_false_iff_not]at al⊢;refine⟨al.1,?_⟩;have rP:m[az].dst=some d:=by
         split at g3
         .simp only[bW.un,Option.some.injEq,bW.mk.injEq]at g3;rw[<-g3.1,za]
         .cases g3
        obtain⟨fY,g6⟩:=V2 d rP;simp only[jx,mem_cons,mem_append,not_or];exact⟨fY,λe=>g6 (e▸BP),g6,al.2⟩
     .cases g3) (fin s (some d0) .hole) J w (by simpa using hw) VU
 exact this
def V3 (C:bV) (f:FuncId) (k k0:Nat) (cs:ahC) (args:List bn) (d1:Option Nat) (rest:List bW) (e6:ahC) (P:ahH->Prop) (s1:ao):Prop:=
 ∃ps r,ps.map (·.a)=args.map (br s1)++cs.map (rX k s1)/\(∀p∈ps,p.ok s1)/\iF ps=true/\
  rW C f args.length (args.length+k0) (ps.map (·.d)) r (ps.map (·.o))/\r.res=true/\(kn ps=true->r.dj=true/\∀p∈ps,p.o.dj=true)/\
  cS C (fin (hq (fb s1 ps) ps) d1 r) rest none (λ_ s=>P (eD e6 s))
def V4 (C:bV) (f:FuncId) (k k0 d0:Nat) (cs:ahC) (m:List bW) (args:List bn) (d1:Option Nat) (rest:List bW) (e6:ahC) (P:ahH->Prop) (s:ao):Prop:=
 cS C (fin s (some d0) .hole) m none λ_ s1=>V3 C f k k0 cs args d1 rest e6 P s1
def V5 (C:bV) (f:FuncId) (k k0 d0:Nat) (cs:ahC) (m:List bW) (args:List bn) (d1:Option Nat) (rest:List bW) (e6:ahC) (K:ao->Prop) (s:ao):Prop:=
 V4 C f k k0 d0 cs m args d1 rest e6 (λl=>K (an l)) s
def Nf (f:Nat->Bool) (m:List bW):Bool:=m.all λr=>match r.dst with
 |none=>true
 |some d=>f d
theorem V6 {f:Nat->Bool} {m:List bW} (h:Nf f m=true):∀r∈m,∀d,r.dst=some d->f d=true:=by
 intro r aV d al;have:=List.all_eq_true.1 h r aV;rw[al]at this;exact this
theorem Ng (k:ahC) (s:ao):rR s (eD k s):=by
 intro p aw;obtain⟨t,_,rfl⟩:=mem_map.1 aw;exact .inl rfl
def V7 (C:bV) (f:FuncId) (k k0 d0:Nat) (cs:ahC) (m:List bW) (args:List bn) (d1:Option Nat) (rest:List bW) (e6:ahC):(Exit->ao->Prop)->ao->Prop:=
 λQ s=>V5 C f k k0 d0 cs m args d1 rest e6 (Q .normal) s
def V8 (T:TypeId) (k d0:Nat) (m:List bW) (args:List bn) (d1:Option Nat) (rest:List bW):aT:=
 .e0 (⟨some d0,.e_ T (.t k),none⟩::(m++⟨d1,.call (.t d0) args,none⟩::rest)) none
theorem V9 (vs:ahF):∀(m n:Nat),m+n=vs.length->vs.drop m=((range n).map (·+m)).map λaz=>vs.getD az undef:=by
 intro m n h;apply ext_getElem?;intro i;rw[getElem?_drop,List.map_map,getElem?_map];by_cases aq:i<n
 .rw[getElem?_range aq,getElem?_eq_getElem (by omega)];simp only[Option.map_some,Function.comp];rw[getD_eq_getElem?_getD,getElem?_eq_getElem (by omega)];simp only[Option.getD_some,Option.some.injEq];congr 1;omega
 .rw[getElem?_eq_none (by omega),getElem?_eq_none (by simp;omega)];rfl
theorem V_ {c:Code} {rs:List bW} (h:ft n c=some (.e0 rs none)):∃id ops,c= .region id ops false/\pS n ops ops.toList=some rs:=by
 cases c with
 |region id ops draw=>
  cases draw with
  |false=>
   simp only[ft]at h;split at h
   .rename_i r af;cases h;exact⟨id,ops,rfl,af⟩
   .cases h
  |true=>
   simp only[ft]at h;split at h
   .simp only[Option.map_eq_some_iff]at h;obtain⟨r,af,ag⟩:=h;cases ag
   .cases h
 |seq a b=>simp only[ft]at h;split at h<;>cases h
 |cond c a b=>simp only[ft]at h;split at h<;>cases h
 |block id b=>simp only[ft,Option.map_eq_some_iff]at h;obtain⟨r,af,ag⟩:=h;cases ag
 |loop b=>simp only[ft,Option.map_eq_some_iff]at h;obtain⟨r,af,ag⟩:=h;cases ag
 |_=>simp[ft]at h
def F_ (C:bV) (f:FuncId) (fx:ahC) (Wa m k:Nat) (T:(Exit->ao->Prop)->ao->Prop) (b:aT):Prop:=
 ∃(ty:TypeId) (k0 d0 n_:Nat) (js:List bW) (args:List bn) (d1:Option Nat) (rest:List bW) (e6:ahC),
  T=V7 C f k k0 d0 ((range n_).map (·+m)) js args d1 rest e6/\b=V8 ty k d0 js args d1 rest/\(C.T ty).flat=true/\Nf (λd=>d !=d0&&decide (m+n_<=d)) js=true/\decide (m+n_<=d0)=true/\
  decide (k0<n_)=true/\k=m+k0/\((range n_).all λaz=>fx.contains (m+az))=true/\args.length=m/\m+n_=Wa
theorem rW.of_wp (bx:C.eN) {f:FuncId} {fn:Func} {c:Code} {e1:aT} {fx:ahC} {as outs:ahI} {r:I} {k m:Nat} (bS:C.P.funcs[f]? =some fn) (U:fn.body=some c)
  (lh:(fn.name== "runtime.NumGoroutine")=false) (ae:ft ⟨fn.ntmps,fx⟩ c=some e1.strip) (ba:as.length<=fn.ntmps)
  (au:e1.n5 (F_ C f fx as.length m k))
  (h:∀Q:Exit->ao->Prop,(∀s,eK (Ends C fx fn.results.toList r outs) s->Q .ret s)->(∀s,eK (Ends C fx fn.results.toList r outs) s->Q .normal s)->bp C e1 Q (an (num 0 as))):rW C f m k as r outs:=by
 rintro w F X S vs hl ⟨b,Wb,fr,a1,bc,bb,cl⟩ aV;refine Fm (fx:=fx) bx bS U lh ba hl aV λa hrel ea=>?_;refine LJ bx (H:=F_ C f fx as.length m k) ?_ c (by rw[aT.Fh];exact ae) (aT.Fi e1 au) (Fk e1 ?_) hrel
 .rintro c T ee Q s J hI ⟨ty,k0,d0,n_,js,args,d1,rest,e6,rfl,rfl,iZ,hm,ns,BR,au,hr,hlen,ags⟩ uN Wc ⟨aX,bk,ca,ux,ck,dr⟩;replace hm:∀r∈js,∀d,r.dst=some d->d≠d0/\m+n_<=d:=λr aV d al=>by
   have:=V6 hm r aV d al;simpa using this
  replace ns:=of_decide_eq_true ns;replace BR:=of_decide_eq_true BR;replace hr:∀az,az<n_->m+az∈fx:=λaz ch=>by
   have:=List.all_eq_true.1 hr az (mem_range.2 ch);simpa using this
  obtain⟨id,ops,rfl,qP⟩:=V_ uN;have Nh:∀az,az<n_->J.tmps.getD (az+m) undef=vs.getD (az+m) undef:=λaz ch=>by
   rw[Nat.add_comm];exact ca _ (hr az ch)
  have iP:((range n_).map (·+m)).map (λaz=>J.tmps.getD az undef)=vs.drop m:=by
   rw[V9 vs m n_ (by omega),List.map_map,List.map_map];apply map_congr_left;intro az ch;exact Nh az (mem_range.1 ch)
  refine VP (Q:=qQ w F X ⟨fn.ntmps,fx⟩ (g1 vs) Q) (K:=eK (Q .normal)) (b:=b) (ty:=Wb) (fr:=fr) (g:=f) (k0:=k0) (cs:=(range n_).map (·+m)) bx qP iZ (λr aV d al=>⟨(hm r aV d al).1,λrU=>?_⟩) (λrU=>?_) ?_ aX bk ca dr (dr.g5 b bb) ?_ ?_ ?_ (λaH cj aK au ek=>ek.eK au)
  .obtain⟨az,ch,rfl⟩:=mem_map.1 rU;have:=(hm r aV _ al).2;have:=mem_range.1 ch;omega
  .obtain⟨az,ch,e⟩:=mem_map.1 rU;have:=mem_range.1 ch;omega
  .rw[getElem?_map,getElem?_range BR,au];simp[Nat.add_comm]
  .rw[au,Nat.add_comm,Nh k0 BR,Nat.add_comm,<-au];exact a1
  .rw[iP,dr.old b (aV.fR b bb) cl];exact bc
  .refine yQ (λ_ s1=>?_) Wc;rintro⟨ps,r,gu,fF,jb,iC,mx,sQ,v3⟩;exact⟨ps,r,gu,fF,jb,iC,mx,sQ,yQ (λ_ s h=>.inr ⟨_,Ng _ _,h⟩) v3⟩
 .rw[yN];exact h _ (λs h=>⟨.inr rfl,h⟩) (λs h=>⟨.inl rfl,h⟩)
end
end Go.dD
