/- Part of a proof that a law returns true for every input. No condition. -/
import Derived.Test.YtndfcecbamffaaaGreatFwI
namespace Go.c3
open List Go.IntKind Nat Or
def qT (C:bH) (f:FuncId) (m k:Nat) (as:afh) (r:I) (outs:afh):Prop:=
 ∀(w:World) (F X:Nat->Prop) (S:Nat->Nat->Prop) (vs:aff),vs.length=as.length->
  (∃b ty fr,vs.getD k undef= .pointer (some ⟨b,0,none⟩)/\w.heap[b]? =some (.cells #[.func (.func f) #[] (vs.drop m).toArray] ty fr)/\F b/\¬X b)->
  bw w F X F S (fw as) (gL vs) w->
  mu C.P f vs.toArray w λv aB=>∃bC aO,bw w F X bC aO (fw (r::outs)) (gL (v::vs)) aB
section
variable {C:bH} {w0 w:World} {F0 X F bC:Nat->Prop} {S aO:Nat->Nat->Prop} {n:Fr} {ρ:Nat->Value} {s az:ak} {aw jy:Nat->Value} {a:Act} {av:I} {Q:Exit->Act->World->Prop} {aB:World}
theorem bw.base (h:bw w0 F0 X F S s aw w):bw w F (λb=>∃u,S u b) F S s aw w where
 g2:=λ_ h=>h
 hk:=λ_ h=>.inl h
 fu:=h.fu
 ek:=h.ek
 fC:=h.fC
 e9:=h.e9
 c7:=λu b U=>.inl ⟨u,U⟩
 cV:=h.cV
 old:=λ_ _ _=>rfl
 size:=Nat.le_refl _
 os:=rfl
 tape:=rfl
 output:=Out.refl _
 hn:=h.hn.next h.size h.old λb ⟨u,hu⟩=>h.c7 u b hu
theorem bw.Ty (h:bw w0 F0 X F S s aw w) (bB:bw w F (λb=>∃u,S u b) bC aO az jy aB):bw w0 F0 X bC aO az jy aB where
 g2:=λb U=>bB.g2 b (h.g2 b U)
 hk:=λb U=>by
  rcases bB.hk b U with U|⟨u,U⟩|U
  .exact h.hk b U
  .exact .inr (h.c7 u b U)
  .exact .inr (.inr (Nat.le_trans h.size U))
 fu:=bB.fu
 ek:=bB.ek
 fC:=bB.fC
 e9:=bB.e9
 c7:=λu b U=>by
  rcases bB.c7 u b U with⟨u,U⟩|U
  .exact h.c7 u b U
  .exact .inr (Nat.le_trans h.size U)
 cV:=bB.cV
 old:=λb U jR=>by
  refine(bB.old b (Nat.lt_of_lt_of_le U h.size) λ⟨u,hu⟩=>?_).trans (h.old b U jR);rcases h.c7 u b hu with al|al
  .exact jR al
  .omega
 size:=Nat.le_trans h.size bB.size
 os:=bB.os.trans h.os
 tape:=bB.tape.trans h.tape
 output:=bB.output.trans h.output
 hn:=h.hn
inductive qU:afh->afh->Prop
 |nil:qU [] []
 |eq {a:I} {as kp:afh}:a.aa=[]->qU as kp->qU (a::as) (a::kp)
 |wd {a b:I} {as kp:afh}:ev a b->a.tree=true->b.aa=[]->qU as kp->qU (a::as) (b::kp)
theorem qU.get:∀{as kp:afh},qU as kp->∀p k,p∈num k kp->p.2.aa=[]/\∃a,as[p.1-k]? =some a/\k<=p.1/\(p.2=a\/(a.tree=true/\ev a p.2))
 |_,_,.nil,p,k,au=>by simp[num]at au
 |_,_,.eq (a:=a) h hw,p,k,au=>by
  simp only[num,mem_cons]at au;rcases au with rfl|au
  .exact⟨h,a,by simp,Nat.le_refl _,.inl rfl⟩
  .obtain⟨ae,x,af,aF,a1⟩:=hw.get p (k+1) au;refine⟨ae,x,?_,by omega,a1⟩;rw[show p.1-k=(p.1-(k+1))+1 by omega,getElem?_cons_succ];exact af
 |_,_,.wd (a:=a) h aP U hw,p,k,au=>by
  simp only[num,mem_cons]at au;rcases au with rfl|au
  .exact⟨U,a,by simp,Nat.le_refl _,.inr ⟨aP,h⟩⟩
  .obtain⟨ae,x,af,aF,a1⟩:=hw.get p (k+1) au;refine⟨ae,x,?_,by omega,a1⟩;rw[show p.1-k=(p.1-(k+1))+1 by omega,getElem?_cons_succ];exact af
theorem qU.len:∀{as kp:afh},qU as kp->kp.length=as.length
 |_,_,.nil=>rfl
 |_,_,.eq _ hw=>by simp[hw.len]
 |_,_,.wd _ _ _ hw=>by simp[hw.len]
theorem xH (C:bH) (K:ak->Prop):∀(rs pre post:List bJ) (s:ak),ja C s rs K->jF C (pre++(rs++post)) s ((range rs.length).map (·+pre.length)) K:=by
 intro rs;induction rs with
 |nil=>intro pre post s h;exact h
 |cons r rs ih=>
  intro pre post s h;rw[length_cons,range_succ_eq_map,map_cons,List.map_map];simp only[jF,Nat.zero_add];rw[getElem?_append_right (Nat.le_refl _)];simp only[Nat.sub_self,cons_append,getElem?_cons_zero];have key:∀s1,ja C s1 rs K->jF C (pre++r::(rs++post)) s1 ((range rs.length).map ((λx=>x+pre.length)∘succ)) K:=by
   intro s1 ae;have:=ih (pre++[r]) post s1 ae;simp only[append_assoc,singleton_append,length_append,length_singleton]at this;have e:((λx=>x+pre.length)∘succ)=λx=>x+(pre.length+1):=by funext x;simp;omega
   rw[e];exact this
  simp only[ja]at h;exact DX h key
theorem Tz (hz:a.defers=[]) (cO:a.tmps.size=n.n) (gB:∀i∈n.fx,a.tmps.getD i undef=ρ i) (aR:bw w0 F0 X F S s (λt=>a.tmps.getD t undef) w)
  {o:Oper} {d0 k:Nat} {args:List a6} {g:FuncId} {caps:afh} {arr:Array Value} {ps:List cn} {r:I} (cb:cz o.op=some (.call (.t d0) args)) (ai:kV n o.dst=true)
  (aH:a.tmps.getD d0 undef= .func (.func g) #[] arr) (an:dC w F s (λt=>a.tmps.getD t undef) caps arr.toList) (gA:I.eb caps=true)
  (TA:∃b ty fr,(arr.toList).getD k undef= .pointer (some ⟨b,0,none⟩)/\w.heap[b]? =some (.cells #[.func (.func g) #[] arr] ty fr)/\F b) (Lz:k<arr.size)
  (af:ps.map (·.a)=args.map (a7 s)++caps) (aF:∀p∈ps,p.ok s) (a1:hQ ps=true) (bt:qT C g args.length (args.length+k) (ps.map (·.d)) r (ps.map (·.o))) (b_:r.res=true)
  (cq:jE ps=true->r.cM=true/\∀p∈ps,p.o.cM=true) {K:ak->Prop} {next:Act->World->Prop} (er:K (fin (g3 (eA s ps) ps) o.dst r))
  (a4:∀az ca aB,K az->Rel w0 F0 X n ρ az ca aB->next ca aB):o.wp C.P a w next Q:=by
 obtain⟨dst,op,ty,pos,after,guard⟩:=o;simp only at cb ai er;cases op with
 |call c=>
  obtain⟨callee,oV,argTypes⟩:=c;simp only[cz]at cb;split at cb
  .split at cb
   .rename_i xc _ _ Ru xs a8 pN;simp only[Option.some.injEq,di.call.injEq]at cb;obtain⟨rfl,rfl⟩:=cb;have qx:xc= .tmp d0:=by
     cases xc with
     |tmp t=>simp only[cY,Option.some.injEq,a6.t.injEq]at a8;rw[a8]
     |const v=>simp only[cY,Option.map_eq_some_iff]at a8;obtain⟨c,_,a8⟩:=a8;cases a8
     |func g=>simp[cY]at a8
     |global g=>simp[cY]at a8
    subst qx;have qJ:execOp a.eval {dst,op:=.call {callee:=.value (.tmp d0),args:=oV,argTypes},type:=ty,pos,after,guard}=callFunc g ((oV.toList.map a.eval++arr.toList).toArray):=by
     have:a.eval (.tmp d0)= .func (.func g) #[] arr:=aH;simp only[execOp,resolve,this,Deferred.ofValue,pure_bind,invoke];congr 1;apply Array.ext';simp
    unfold Oper.wp;rw[qJ];have hlen:(oV.toList.map a.eval).length=xs.length:=by
     have:=congrArg length (sP pN);simpa using this
    have xd:dC w F s (λt=>a.tmps.getD t undef) (xs.map (a7 s)++caps) (oV.toList.map a.eval++arr.toList):=JO (zN aR (λ_=>rfl) _ _ (sP pN)) an;rw[<-af]at xd;obtain⟨gi,l2⟩:=JP xd;have gH:∀d∈xs.map (a7 s)++caps,d.plain=true:=by
     intro d ai;rcases mem_append.1 ai with ai|ai
     .obtain⟨x,al,rfl⟩:=mem_map.1 ai;exact Ie s x λav e=>by
       subst e;have hm:=sP pN;have:some (a6.c av)∈xs.map some:=mem_map.2 ⟨_,al,rfl⟩;rw[<-hm]at this;obtain⟨o,_,bO⟩:=mem_map.1 this;cases o with
       |const v=>simp only[cY,Option.map_eq_some_iff]at bO;obtain⟨c,an,e⟩:=bO;cases e;exact CO an
       |tmp n=>simp[cY]at bO
       |func g=>simp[cY]at bO
       |global g=>simp[cY]at bO
     .obtain⟨k,aj⟩:=getElem?_of_mem ai;exact wD gA aj
    have DO:=JK (C:=C) aR (ps:=ps) (vs:=oV.toList.map a.eval++arr.toList) (f:=g) (r:=r) (by simpa using gi)
     (λi p v au aH=>⟨gH p.a (by rw[<-af];exact mem_map.2 ⟨p,mem_of_getElem? au,rfl⟩),l2 i p.a v (by simp[au]) aH⟩) aF a1
     (λFc ka dB bb jR au=>by
      refine bt w Fc ka dB _ (by rw[<-gi];simp) ?_ au;obtain⟨b,Ew,fr,aT,a3,aY⟩:=TA;refine⟨b,Ew,fr,?_,?_,bb b aY,λal=>by obtain⟨u,hu⟩:=jR b al;exact aR.fC u b hu aY⟩
      .rw[getD_eq_getElem?_getD,getElem?_append_right (by omega),hlen,Nat.add_sub_cancel_left,<-getD_eq_getElem?_getD];exact aT
      .rw[a3,<-hlen,drop_left])
     b_ cq
    rcases DO with⟨dR,bx⟩|⟨v,aB,dR,bC,aO,bx,e1⟩
    .rw[dR,Oper.upon_enter];refine Calls.mono bx ?_;rintro e aB ⟨v,rfl,bC,aO,bU,ch⟩;exact a4 _ _ _ er (Rel.put hz cO gB bU ch.1 ai)
    .rw[dR,Oper.upon_value];exact a4 _ _ _ er (Rel.put hz cO gB bx e1.1 ai)
   .cases cb
  .split at cb
   .simp only[Option.map_eq_some_iff]at cb;obtain⟨_,_,cb⟩:=cb;cases cb
   .cases cb
  .split at cb
   .simp only[Option.map_eq_some_iff]at cb;obtain⟨_,_,cb⟩:=cb;cases cb
   .cases cb
  iterate 3
   .split at cb
    .split at cb<;>cases cb
    .cases cb
  .cases cb
 |makeFunc fn first cs=>
  cases fn<;>simp only[cz]at cb<;>first|(cases cb;done)|(split at cb<;>simp at cb)
 |slice T x dI aC g0=>
  cases g0<;>simp only[cz]at cb<;>first|(cases cb;done)|(split at cb<;>simp at cb)
 |makeMap T r=>cases r<;>simp only[cz]at cb<;>simp at cb
 |lookup T x i c=>cases c<;>simp only[cz]at cb<;>first|(cases cb;done)|(split at cb<;>simp at cb)
 |_=>simp only[cz]at cb<;>first|(cases cb;done)|(simp at cb;done)|(split at cb<;>simp at cb)
theorem TB {op:Op} {T:TypeId} {x:a6} (h:cz op=some (.ff T x)):∃y,op= .load T y/\cY y=some x:=by
 cases op with
 |load z2 y=>
  simp only[cz,Option.map_eq_some_iff]at h;obtain⟨cw,al,h⟩:=h;cases h;exact⟨y,rfl,al⟩
 |call c=>
  obtain⟨callee,oV,argTypes⟩:=c;simp only[cz]at h;split at h<;>(try split at h)<;>(try split at h)<;>(try simp[Option.map_eq_some_iff]at h)
 |makeFunc fn first cs=>
  cases fn<;>simp only[cz]at h<;>first|(cases h;done)|(split at h<;>simp at h)
 |slice T x dI aC g0=>
  cases g0<;>simp only[cz]at h<;>first|(cases h;done)|(split at h<;>simp at h)
 |makeMap T r=>cases r<;>simp only[cz]at h<;>simp at h
 |lookup T x i c=>cases c<;>simp only[cz]at h<;>first|(cases h;done)|(split at h<;>simp at h)
 |_=>simp only[cz]at h<;>first|(cases h;done)|(simp at h;done)|(split at h<;>simp at h)
theorem xI {y:Operand} {k:Nat} (h:cY y=some (.t k)):y= .tmp k:=by
 cases y with
 |tmp t=>simp only[cY,Option.some.injEq,a6.t.injEq]at h;rw[h]
 |const v=>simp only[cY,Option.map_eq_some_iff]at h;obtain⟨c,_,h⟩:=h;cases h
 |func g=>simp[cY]at h
 |global g=>simp[cY]at h
def qV (k:Nat) (s:ak) (j:Nat):I:=if j=k then .ref .hole else nR j (s j)
theorem TC {aw:Nat->Value} {b k:Nat} {v:Value} {ty:TypeId} {fr:Nat×Nat} (aR:bw w0 F0 X F S s aw w) (aj:aw k= .pointer (some ⟨b,0,none⟩)) (U:F b) (an:w.heap[b]? =some (.cells #[v] ty fr)) (ae:Value.fU v=true):
  ∀cs:afc,dC w F s aw (cs.map (qV k s)) (cs.map aw)/\I.eb (cs.map (qV k s))=true:=by
 intro cs;induction cs with
 |nil=>exact⟨by rw[map_nil,map_nil,dC],rfl⟩
 |cons j cs ih=>
  simp only[map_cons];have bZ:aG w F s aw (qV k s j) (aw j) (λ_=>False)/\(qV k s j).plain=true:=by
   unfold qV;split
   .rename_i e;subst e;rw[aj];refine⟨(aG.cd rfl).2 ⟨rfl,?_⟩,rfl⟩;rw[ao];refine⟨b,0,[v],rfl,U,?_,?_⟩
    .intro i c aC;cases i with
     |zero=>simp at aC;subst aC;simp[World.cell?,an]
     |succ i=>simp at aC
    .rw[ao];exact⟨v,ae,rfl⟩
   .unfold nR;split
    .rename_i au;exact⟨aG.nothing au (aR.cV j),au⟩
    .rename_i au;refine⟨?_,rfl⟩;rw[aG];intro d ai au;simp only[I.sub,Option.some.injEq]at ai;subst ai;have aP:(s j).tree=true:=by
      cases aa:s j<;>first|rfl|(rw[aa]at au;simp[I.plain]at au)
     exact⟨_,none,rfl,rfl,((aG.cd aP).1 (aR.cV j)).1⟩
  refine⟨?_,?_⟩
  .rw[dC];exact⟨_,_,rfl,bZ.1,ih.1⟩
  .simp only[I.eb,bZ.2,ih.2,Bool.and_self]
theorem TD (a9:C.dL) {id:Nat} {ops:Array Oper} {T:TypeId} {k k0 d0:Nat} {m rest:List bJ} {args:List a6} {d1:Option Nat} {g:FuncId} {cs:afc} {b:Nat} {ty:TypeId} {fr:Nat×Nat} {K:ak->Prop}
  (mx:oT n ops ops.toList=some ((⟨some d0,.ff T (.t k),none⟩::(m++⟨d1,.call (.t d0) args,none⟩::rest):List bJ).map bJ.un))
  (gS:(C.T T).flat=true) (hm:∀r∈m,∀d,r.dst=some d->d≠d0/\d∉cs) (hP:d0∉cs) (Ex:cs[k0]? =some k)
  (hz:a.defers=[]) (cO:a.tmps.size=n.n) (gB:∀i∈n.fx,a.tmps.getD i undef=ρ i) (aR:bw w0 F0 X F S s (λt=>a.tmps.getD t undef) w)
  (U:F b) (aj:a.tmps.getD k undef= .pointer (some ⟨b,0,none⟩)) (zw:w.heap[b]? =some (.cells #[.func (.func g) #[] (cs.map λj=>a.tmps.getD j undef).toArray] ty fr))
  (h:ja C (fin s (some d0) .hole) m λs1=>∃ps r,ps.map (·.a)=args.map (a7 s1)++cs.map (qV k s1)/\(∀p∈ps,p.ok s1)/\hQ ps=true/\
   qT C g args.length (args.length+k0) (ps.map (·.d)) r (ps.map (·.o))/\r.res=true/\(jE ps=true->r.cM=true/\∀p∈ps,p.o.cM=true)/\ja C (fin (g3 (eA s1 ps) ps) d1 r) rest K)
  (a4:∀az ca aB,K az->Rel w0 F0 X n ρ az ca aB->Q .normal ca aB):(Code.region id ops false).wp C.P Q a w:=by
 obtain⟨hl,lR⟩:=xf mx;have xJ:∀(i:Nat) (r:bJ),(⟨some d0,.ff T (.t k),none⟩::(m++⟨d1,.call (.t d0) args,none⟩::rest):List bJ)[i]? =some r->∃o,ops[i]? =some o/\lq n ops o=some r.un:=by
  intro i r aC;have c5:i<ops.toList.length:=by
   rw[hl,length_map];exact(List.getElem?_eq_some_iff.1 aC).1
  obtain⟨gz,ae,af⟩:=lR i _ (getElem?_eq_getElem c5);rw[getElem?_map,aC]at ae;simp only[Option.map_some,Option.some.injEq]at ae;exact⟨_,by rw[<-Array.getElem?_toList];exact getElem?_eq_getElem c5,by rw[ae];exact af⟩
 have xK:∀{r:bJ} {o:Oper},r.guard=none->lq n ops o=some r.un->r.dst=o.dst/\o.guard=none/\pP o.op=r.bq.base/\kV n o.dst=true:=by
  intro r o bl h;unfold lq at h;split at h
  .rename_i ai;split at h
   .rename_i LA gl;simp only[bJ.un,Option.some.injEq,bJ.mk.injEq]at h;obtain⟨aT,a3,aY⟩:=h;refine⟨aT.symm,?_,a3,ai⟩;rw[aY,bl]at gl;cases bO:o.guard with
    |none=>rfl
    |some z5=>
     rw[bO]at gl;simp only[uH]at gl;split at gl<;>cases gl
   .cases h
  .cases h
 have uX:ops.size=m.length+rest.length+2:=by
  have:ops.toList.length=ops.size:=by simp
  rw[<-this,hl];simp;omega
 have xL:range ops.size=0::((range m.length).map (·+1)++((m.length+1)::(range rest.length).map (·+(m.length+2)))):=by
  rw[uX,show m.length+rest.length+2=(m.length+rest.length+1)+1 from rfl,range_succ_eq_map];congr 1;rw[show m.length+rest.length+1=m.length+(rest.length+1) by omega,range_add,map_append,range_succ_eq_map];simp only[List.map_map,map_cons,Nat.add_zero];congr 1;congr 1;apply map_congr_left;intro x _;simp;omega
 obtain⟨iY,TE,ke⟩:=xJ 0 _ rfl;obtain⟨gj,fQ,gJ,gK⟩:=xK rfl ke;change pP iY.op= .ff T (.t k)at gJ;have o5:cz iY.op=some (.ff T (.t k)):=by
  rcases oU gJ with h|h
  .cases h
  .exact h
 obtain⟨y,a5,TF⟩:=TB o5;have:=xI TF;subst this;let pX:Value:=.func (.func g) #[] (cs.map λj=>a.tmps.getD j undef).toArray
 have hv:hi w b 0 [pX]:=by
  intro i c aC;cases i with
  |zero=>simp at aC;subst aC;simp[World.cell?,zw,pX]
  |succ i=>simp at aC
 refine wp_region ?_;rw[xL];simp only[wpOps,TE];show(if Region.wanted iY (yielded ops a.tmps)=true then iY.wp C.P a w _ Q\/(iY.asks C.P a w/\LetsOut Q)else _);rw[if_pos (xg fQ)];left;have qJ:(execOp a.eval iY).run C.P w= .ok (.value pX) w:=by
  obtain⟨dst,op,ty,pos,after,guard⟩:=iY;simp only at a5;subst a5;have:a.eval (.tmp k)= .pointer (some ⟨b,0,none⟩):=aj;simp[execOp,this,Instr.loadAt,Instr.sureAddr,Il a9 gS hv]
 unfold Oper.wp;rw[qJ,Oper.upon_value];have TG:some d0=iY.dst:=gj;rw[<-TG]at gK⊢;let ab:Act:=a.put (some d0) pX
 let kB:Fr:=⟨n.n,d0::k::(cs++n.fx)⟩
 let ρ1:Nat->Value:=λt=>ab.tmps.getD t undef
 have o6:k∈cs:=mem_of_getElem? Ex;have sJ:=aR.base;have Ey:Rel w F (λb=>∃u,S u b) ⟨n.n,[]⟩ ρ1 (fin s (some d0) .hole) ab w:=
  Rel.put (n:=⟨n.n,[]⟩) hz cO (λi aC=>by cases aC) sJ (.inl ⟨rfl,by rw[aG];trivial⟩) (by
   simp only[kV,Bool.and_eq_true,decide_eq_true_eq]at gK⊢;exact⟨gK.1,by simp⟩)
 have TH:Rel w F (λb=>∃u,S u b) kB ρ1 (fin s (some d0) .hole) ab w:=⟨Ey.defers,Ey.size,λi _=>rfl,Ey.rel⟩
 have LB:∀t,t≠d0->ρ1 t=a.tmps.getD t undef:=by
  intro t aP;have:=congrFun (z1 (n:=n) (dst:=some d0) (a:=a) pX cO gK).1 t;simp only[kr]at this;rw[h2 _ _ aP]at this;exact this
 have TI:ρ1 d0=pX:=by
  have:=congrFun (z1 (n:=n) (dst:=some d0) (a:=a) pX cO gK).1 d0;simp only[kr]at this;rw[lg]at this;exact this
 have hw:=xH C _ m [⟨some d0,.ff T (.t k),none⟩] (⟨d1,.call (.t d0) args,none⟩::rest) _ h;have mid:∀az ca aB,(∃ps r,ps.map (·.a)=args.map (a7 az)++cs.map (qV k az)/\(∀p∈ps,p.ok az)/\hQ ps=true/\
   qT C g args.length (args.length+k0) (ps.map (·.d)) r (ps.map (·.o))/\r.res=true/\(jE ps=true->r.cM=true/\∀p∈ps,p.o.cM=true)/\ja C (fin (g3 (eA az ps) ps) d1 r) rest K)->
   Rel w F (λb=>∃u,S u b) kB ρ1 az ca aB->wpOps C.P ops Q ((m.length+1)::(range rest.length).map (·+(m.length+2))) ca aB:=by
  rintro s2 aW kG ⟨ps,r,aT,a3,aY,b1,cI,bQ,bL⟩ ⟨aV,ba,bT,kU,S2,c6⟩;obtain⟨jI,Ez,jz⟩:=xJ (m.length+1) ⟨d1,.call (.t d0) args,none⟩ (by simp);obtain⟨dD,ej,fV,pD⟩:=xK rfl jz;simp only[wpOps,Ez];show(if Region.wanted jI (yielded ops aW.tmps)=true then jI.wp C.P aW kG _ Q\/(jI.asks C.P aW kG/\LetsOut Q)else _);rw[if_pos (xg ej)];left;change pP jI.op= .call (.t d0) args at fV;have EA:cz jI.op=some (.call (.t d0) args):=by
   rcases oU fV with h|h
   .cases h
   .exact h
  have LC:kU b:=c6.g2 b U;have LD:kG.heap[b]? =some (.cells #[pX] ty fr):=by
   rw[c6.old b (aR.fu b U) (λ⟨u,hu⟩=>aR.fC u b hu U)];exact zw
  have LF:∀j∈cs,aW.tmps.getD j undef=a.tmps.getD j undef:=by
   intro j bZ;rw[bT j (by simp[kB,bZ])];exact LB j (λe=>hP (e▸bZ))
  have oG:aW.tmps.getD k undef= .pointer (some ⟨b,0,none⟩):=(LF k o6).trans aj;have LG:(cs.map λj=>a.tmps.getD j undef)=cs.map λj=>aW.tmps.getD j undef:=map_congr_left λj bZ=>(LF j bZ).symm;obtain⟨bA,bK⟩:=TC (k:=k) c6 oG LC LD rfl cs;have w1:∀az ca aB,ja C az rest K->Rel w F (λb=>∃u,S u b) ⟨n.n,n.fx⟩ ρ az ca aB->wpOps C.P ops Q ((range rest.length).map (·+(m.length+2))) ca aB:=by
   intro iE fm pY aF uY;have s9:=xH C K rest ((⟨some d0,.ff T (.t k),none⟩::m)++[⟨d1,.call (.t d0) args,none⟩]) [] iE aF;have:=uK (Q:=Q) a9 (ops:=ops) (ros:=((⟨some d0,.ff T (.t k),none⟩::m)++[⟨d1,.call (.t d0) args,none⟩])++(rest++[])) (l2:=[]) (K:=K) (λaz ca aB js dS=>by
     obtain⟨JN,TJ,TK,TL,II,TM⟩:=dS;exact a4 az ca aB js ⟨JN,TJ,TK,TL,II,aR.Ty TM⟩) ((range rest.length).map (·+(m.length+2))) (λi aC=>by
      have s7:((⟨some d0,.ff T (.t k),none⟩::m)++[⟨d1,.call (.t d0) args,none⟩])++(rest++[])=(⟨some d0,.ff T (.t k),none⟩::(m++⟨d1,.call (.t d0) args,none⟩::rest):List bJ):=by simp
      rw[s7];refine⟨λjn=>?_,λo bO=>?_⟩
      .rw[List.getElem?_eq_none_iff];have:=Array.getElem?_eq_none_iff.1 jn;simp;omega
      .obtain⟨aE,gp,af⟩:=lR i o (by simpa using bO);obtain⟨r,ae,rfl⟩:∃r,(⟨some d0,.ff T (.t k),none⟩::(m++⟨d1,.call (.t d0) args,none⟩::rest):List bJ)[i]? =some r/\r.un=aE:=by
        rw[getElem?_map,Option.map_eq_some_iff]at gp;exact gp
       exact⟨r,ae,af⟩) iE fm pY (by
      have e:((⟨some d0,.ff T (.t k),none⟩::m)++[⟨d1,.call (.t d0) args,none⟩]:List bJ).length=m.length+2:=by simp
      rw[e]at s9;exact s9) uY
   rwa [append_nil]at this
  have EB:∀i∈n.fx,aW.tmps.getD i undef=ρ i:=by
   intro i aC;rw[bT i (by simp[kB,aC]),LB i (λe=>?_)]
   .exact gB i aC
   .simp only[kV,Bool.and_eq_true,Bool.not_eq_true',contains_eq_mem,decide_eq_false_iff_not]at gK;exact gK.2 (e▸aC)
  have Lz:k0<cs.length:=(List.getElem?_eq_some_iff.1 Ex).1;have TN:jI.dst=d1:=dD.symm;exact Tz (n:=n) (ρ:=ρ) (K:=λaz=>ja C az rest K) aV ba EB c6 EA pD
   (arr:=(cs.map λj=>aW.tmps.getD j undef).toArray) (k:=k0) (caps:=cs.map (qV k s2)) (g:=g) (ps:=ps) (r:=r)
   (by rw[bT d0 (by simp[kB]),TI];simp only[pX,LG]) (by simpa using bA) bK
   ⟨b,ty,fr,by
     rw[getD_eq_getElem?_getD,getElem?_map,Ex];exact oG,by rw[LD];simp only[pX,LG],LC⟩ (by simpa using Lz)
   aT a3 aY b1 cI bQ (by rw[TN];exact bL) w1
 have:=uK (Q:=Q) a9 (ops:=ops) (ros:=[⟨some d0,.ff T (.t k),none⟩]++(m++⟨d1,.call (.t d0) args,none⟩::rest)) (l2:=(m.length+1)::(range rest.length).map (·+(m.length+2))) mid
  ((range m.length).map (·+1)) (λi aC=>by
    obtain⟨j,bZ,rfl⟩:=mem_map.1 aC;have xM:j<m.length:=mem_range.1 bZ;refine⟨λjn=>?_,λo bO=>?_⟩
    .have:=Array.getElem?_eq_none_iff.1 jn;omega
    .obtain⟨m5,xu,gu⟩:=xJ (j+1) m[j] (by
      simp only[getElem?_cons_succ];rw[getElem?_append_left xM,getElem?_eq_getElem xM])
     have heq:m5=o:=by rw[xu]at bO;exact Option.some.inj bO
     subst heq;refine⟨m[j],by
      simp only[singleton_append,getElem?_cons_succ];rw[getElem?_append_left xM,getElem?_eq_getElem xM],?_⟩
     have TO:=hm m[j] (getElem_mem xM);unfold lq at gu⊢;split at gu
     .rename_i ai;rw[if_pos]
      .exact gu
      .cases LH:m5.dst with
       |none=>rfl
       |some d=>
        rw[LH]at ai;simp only[kV,Bool.and_eq_true,decide_eq_true_eq,Bool.not_eq_true',contains_eq_mem,decide_eq_false_iff_not]at ai⊢;refine⟨ai.1,?_⟩;have z4:m[j].dst=some d:=by
         split at gu
         .simp only[bJ.un,Option.some.injEq,bJ.mk.injEq]at gu;rw[<-gu.1,LH]
         .cases gu
        obtain⟨el,fJ⟩:=TO d z4;simp only[kB,mem_cons,mem_append,not_or];exact⟨el,λe=>fJ (e▸o6),fJ,ai.2⟩
     .cases gu) (fin s (some d0) .hole) ab w (by simpa using hw) TH
 exact this
def TP (C:bH) (f:FuncId) (k k0:Nat) (cs:afc) (args:List a6) (d1:Option Nat) (rest:List bJ) (c9:afc) (P:afg->Prop) (s1:ak):Prop:=
 ∃ps r,ps.map (·.a)=args.map (a7 s1)++cs.map (qV k s1)/\(∀p∈ps,p.ok s1)/\hQ ps=true/\
  qT C f args.length (args.length+k0) (ps.map (·.d)) r (ps.map (·.o))/\r.res=true/\(jE ps=true->r.cM=true/\∀p∈ps,p.o.cM=true)/\
  cy C (fin (g3 (eA s1 ps) ps) d1 r) rest none (λ_ s=>P (fR c9 s))
def TQ (C:bH) (f:FuncId) (k k0 d0:Nat) (cs:afc) (m:List bJ) (args:List a6) (d1:Option Nat) (rest:List bJ) (c9:afc) (P:afg->Prop) (s:ak):Prop:=
 cy C (fin s (some d0) .hole) m none λ_ s1=>TP C f k k0 cs args d1 rest c9 P s1
def TR (C:bH) (f:FuncId) (k k0 d0:Nat) (cs:afc) (m:List bJ) (args:List a6) (d1:Option Nat) (rest:List bJ) (c9:afc) (K:ak->Prop) (s:ak):Prop:=
 TQ C f k k0 d0 cs m args d1 rest c9 (λl=>K (ar l)) s
def LI (f:Nat->Bool) (m:List bJ):Bool:=m.all λr=>match r.dst with
 |none=>true
 |some d=>f d
theorem TS {f:Nat->Bool} {m:List bJ} (h:LI f m=true):∀r∈m,∀d,r.dst=some d->f d=true:=by
 intro r aR d ai;have:=List.all_eq_true.1 h r aR;rw[ai]at this;exact this
theorem EC (k:afc) (s:ak):uL s (fR k s):=by
 intro p au;obtain⟨t,_,rfl⟩:=mem_map.1 au;exact .inl rfl
def TT (C:bH) (f:FuncId) (k k0 d0:Nat) (cs:afc) (m:List bJ) (args:List a6) (d1:Option Nat) (rest:List bJ) (c9:afc):(Exit->ak->Prop)->ak->Prop:=
 λQ s=>TR C f k k0 d0 cs m args d1 rest c9 (Q .normal) s
def TU (T:TypeId) (k d0:Nat) (m:List bJ) (args:List a6) (d1:Option Nat) (rest:List bJ):aM:=
 .eI (⟨some d0,.ff T (.t k),none⟩::(m++⟨d1,.call (.t d0) args,none⟩::rest)) none
theorem TV (vs:aff):∀(m n:Nat),m+n=vs.length->vs.drop m=((range n).map (·+m)).map λj=>vs.getD j undef:=by
 intro m n h;apply ext_getElem?;intro i;rw[getElem?_drop,List.map_map,getElem?_map];by_cases aC:i<n
 .rw[getElem?_range aC,getElem?_eq_getElem (by omega)];simp only[Option.map_some,Function.comp];rw[getD_eq_getElem?_getD,getElem?_eq_getElem (by omega)];simp only[Option.getD_some,Option.some.injEq];congr 1;omega
 .rw[getElem?_eq_none (by omega),getElem?_eq_none (by simp;omega)];rfl
theorem ED {c:Code} {rs:List bJ} (h:fp n c=some (.eI rs none)):∃id ops,c= .region id ops false/\oT n ops ops.toList=some rs:=by
 cases c with
 |region id ops draw=>
  cases draw with
  |false=>
   simp only[fp]at h;split at h
   .rename_i r ae;cases h;exact⟨id,ops,rfl,ae⟩
   .cases h
  |true=>
   simp only[fp]at h;split at h
   .simp only[Option.map_eq_some_iff]at h;obtain⟨r,ae,af⟩:=h;cases af
   .cases h
 |seq a b=>simp only[fp]at h;split at h<;>cases h
 |cond c a b=>simp only[fp]at h;split at h<;>cases h
 |block id b=>simp only[fp,Option.map_eq_some_iff]at h;obtain⟨r,ae,af⟩:=h;cases af
 |loop b=>simp only[fp,Option.map_eq_some_iff]at h;obtain⟨r,ae,af⟩:=h;cases af
 |_=>simp[fp]at h
def EE (C:bH) (f:FuncId) (fx:afc) (TW m k:Nat) (T:(Exit->ak->Prop)->ak->Prop) (b:aM):Prop:=
 ∃(ty:TypeId) (k0 d0 na:Nat) (ez:List bJ) (args:List a6) (d1:Option Nat) (rest:List bJ) (c9:afc),
  T=TT C f k k0 d0 ((range na).map (·+m)) ez args d1 rest c9/\b=TU ty k d0 ez args d1 rest/\(C.T ty).flat=true/\LI (λd=>d !=d0&&decide (m+na<=d)) ez=true/\decide (m+na<=d0)=true/\
  decide (k0<na)=true/\k=m+k0/\((range na).all λj=>fx.contains (m+j))=true/\args.length=m/\m+na=TW
theorem qT.of_wp (a9:C.dL) {f:FuncId} {fn:Func} {c:Code} {dO:aM} {fx:afc} {as outs:afh} {r:I} {k m:Nat} (a8:C.P.funcs[f]? =some fn) (U:fn.body=some c)
  (jt:(fn.name== "runtime.NumGoroutine")=false) (aa:fp ⟨fn.ntmps,fx⟩ c=some dO.strip) (a4:as.length<=fn.ntmps)
  (aj:dO.lS (EE C f fx as.length m k))
  (h:∀Q:Exit->ak->Prop,(∀s,dG (Ends C fx fn.results.toList r outs) s->Q .ret s)->(∀s,dG (Ends C fx fn.results.toList r outs) s->Q .normal s)->bj C dO Q (ar (num 0 as))):qT C f m k as r outs:=by
 rintro w F X S vs hl ⟨b,TX,fr,aT,a3,aY,b1⟩ aR;refine Ac (fx:=fx) a9 a8 U jt a4 hl aR λa hrel dt=>?_;refine DZ a9 (H:=EE C f fx as.length m k) ?_ c (by rw[aM.z8];exact aa) (aM.z9 dO aj) (z_ dO ?_) hrel
 .rintro c T eN Q s ab hW ⟨ty,k0,d0,na,ez,args,d1,rest,c9,rfl,rfl,gS,hm,hP,Au,aj,gB,hlen,adZ⟩ o5 TY ⟨aV,ba,bT,sY,S1,c6⟩;replace hm:∀r∈ez,∀d,r.dst=some d->d≠d0/\m+na<=d:=λr aR d ai=>by
   have:=TS hm r aR d ai;simpa using this
  replace hP:=of_decide_eq_true hP;replace Au:=of_decide_eq_true Au;replace gB:∀j,j<na->m+j∈fx:=λj bZ=>by
   have:=List.all_eq_true.1 gB j (mem_range.2 bZ);simpa using this
  obtain⟨id,ops,rfl,mx⟩:=ED o5;have LJ:∀j,j<na->ab.tmps.getD (j+m) undef=vs.getD (j+m) undef:=λj bZ=>by
   rw[Nat.add_comm];exact bT _ (gB j bZ)
  have ho:((range na).map (·+m)).map (λj=>ab.tmps.getD j undef)=vs.drop m:=by
   rw[TV vs m na (by omega),List.map_map,List.map_map];apply map_congr_left;intro j bZ;exact LJ j (mem_range.1 bZ)
  refine TD (Q:=my w F X ⟨fn.ntmps,fx⟩ (gL vs) Q) (K:=dG (Q .normal)) (b:=b) (ty:=TX) (fr:=fr) (g:=f) (k0:=k0) (cs:=(range na).map (·+m)) a9 mx gS (λr aR d ai=>⟨(hm r aR d ai).1,λpW=>?_⟩) (λpW=>?_) ?_ aV ba bT c6 (c6.g2 b aY) ?_ ?_ ?_ (λaz ca aB aj dS=>dS.dG aj)
  .obtain⟨j,bZ,rfl⟩:=mem_map.1 pW;have:=(hm r aR _ ai).2;have:=mem_range.1 bZ;omega
  .obtain⟨j,bZ,e⟩:=mem_map.1 pW;have:=mem_range.1 bZ;omega
  .rw[getElem?_map,getElem?_range Au,aj];simp[Nat.add_comm]
  .rw[aj,Nat.add_comm,LJ k0 Au,Nat.add_comm,<-aj];exact aT
  .rw[ho,c6.old b (aR.fu b aY) b1];exact a3
  .refine ta (λ_ s1=>?_) TY;rintro⟨ps,r,gj,fQ,gJ,gK,ku,mw,n8⟩;exact⟨ps,r,gj,fQ,gJ,gK,ku,mw,ta (λ_ s h=>.inr ⟨_,EC _ _,h⟩) n8⟩
 .rw[xp];exact h _ (λs h=>⟨.inr rfl,h⟩) (λs h=>⟨.inl rfl,h⟩)
end
end Go.c3
