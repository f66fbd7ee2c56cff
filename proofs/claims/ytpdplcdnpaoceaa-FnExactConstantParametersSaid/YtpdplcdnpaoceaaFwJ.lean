/- Part of a proof that a law returns true for every input. No condition. -/
import Derived.Test.YtpdplcdnpaoceaaFwI
namespace Go.cM
open List Go.IntKind Nat Or
def oC (C:bA) (f:FuncId) (m k:Nat) (as:Xy) (r:I) (outs:Xy):Prop:=
 ∀(w:World) (F X:Nat->Prop) (S:Nat->Nat->Prop) (vs:Xw),vs.length=as.length->
  (∃b ty fr,vs.getD k undef= .pointer (some ⟨b,0,none⟩)/\w.heap[b]? =some (.cells #[.func (.func f) #[] (vs.drop m).toArray] ty fr)/\F b/\¬X b)->
  bg w F X F S (ez as) (fA vs) w->
  kT C.P f vs.toArray w λv az=>∃bo aF,bg w F X bo aF (ez (r::outs)) (fA (v::vs)) az
section
variable {C:bA} {w0 w:World} {F0 X F bo:Nat->Prop} {S aF:Nat->Nat->Prop} {n:Fr} {ρ:Nat->Value} {s ax:ah} {aq iA:Nat->Value} {a:Act} {av:I} {Q:Exit->Act->World->Prop} {az:World}
theorem bg.base (h:bg w0 F0 X F S s aq w):bg w F (λb=>∃u,S u b) F S s aq w where
 fN:=λ_ h=>h
 gm:=λ_ h=>.inl h
 eu:=h.eu
 dA:=h.dA
 eH:=h.eH
 ej:=h.ej
 cW:=λu b U=>.inl ⟨u,U⟩
 cE:=h.cE
 old:=λ_ _ _=>rfl
 size:=Nat.le_refl _
 os:=rfl
 tape:=rfl
 output:=Out.refl _
 gn:=h.gn.next h.size h.old λb ⟨u,hu⟩=>h.cW u b hu
theorem bg.N7 (h:bg w0 F0 X F S s aq w) (bj:bg w F (λb=>∃u,S u b) bo aF ax iA az):bg w0 F0 X bo aF ax iA az where
 fN:=λb U=>bj.fN b (h.fN b U)
 gm:=λb U=>by
  rcases bj.gm b U with U|⟨u,U⟩|U
  .exact h.gm b U
  .exact .inr (h.cW u b U)
  .exact .inr (.inr (Nat.le_trans h.size U))
 eu:=bj.eu
 dA:=bj.dA
 eH:=bj.eH
 ej:=bj.ej
 cW:=λu b U=>by
  rcases bj.cW u b U with⟨u,U⟩|U
  .exact h.cW u b U
  .exact .inr (Nat.le_trans h.size U)
 cE:=bj.cE
 old:=λb U iB=>by
  refine(bj.old b (Nat.lt_of_lt_of_le U h.size) λ⟨u,hu⟩=>?_).trans (h.old b U iB);rcases h.cW u b hu with an|an
  .exact iB an
  .omega
 size:=Nat.le_trans h.size bj.size
 os:=bj.os.trans h.os
 tape:=bj.tape.trans h.tape
 output:=bj.output.trans h.output
 gn:=h.gn
inductive oD:Xy->Xy->Prop
 |nil:oD [] []
 |eq {a:I} {as i9:Xy}:a.aa=[]->oD as i9->oD (a::as) (a::i9)
 |wd {a b:I} {as i9:Xy}:dI a b->a.tree=true->b.aa=[]->oD as i9->oD (a::as) (b::i9)
theorem oD.get:∀{as i9:Xy},oD as i9->∀p k,p∈num k i9->p.2.aa=[]/\∃a,as[p.1-k]? =some a/\k<=p.1/\(p.2=a\/(a.tree=true/\dI a p.2))
 |_,_,.nil,p,k,ao=>by simp[num]at ao
 |_,_,.eq (a:=a) h hw,p,k,ao=>by
  simp only[num,mem_cons]at ao;rcases ao with rfl|ao
  .exact⟨h,a,by simp,Nat.le_refl _,.inl rfl⟩
  .obtain⟨ab,x,ad,aB,aY⟩:=hw.get p (k+1) ao;refine⟨ab,x,?_,by omega,aY⟩;rw[show p.1-k=(p.1-(k+1))+1 by omega,getElem?_cons_succ];exact ad
 |_,_,.wd (a:=a) h aN U hw,p,k,ao=>by
  simp only[num,mem_cons]at ao;rcases ao with rfl|ao
  .exact⟨U,a,by simp,Nat.le_refl _,.inr ⟨aN,h⟩⟩
  .obtain⟨ab,x,ad,aB,aY⟩:=hw.get p (k+1) ao;refine⟨ab,x,?_,by omega,aY⟩;rw[show p.1-k=(p.1-(k+1))+1 by omega,getElem?_cons_succ];exact ad
theorem oD.len:∀{as i9:Xy},oD as i9->i9.length=as.length
 |_,_,.nil=>rfl
 |_,_,.eq _ hw=>by simp[hw.len]
 |_,_,.wd _ _ _ hw=>by simp[hw.len]
theorem AL (C:bA) (K:ah->Prop):∀(rs pre post:List bW) (s:ah),jD C s rs K->ig C (pre++(rs++post)) s ((range rs.length).map (·+pre.length)) K:=by
 intro rs;induction rs with
 |nil=>intro pre post s h;exact h
 |cons r rs ih=>
  intro pre post s h;rw[length_cons,range_succ_eq_map,map_cons,List.map_map];simp only[ig,Nat.zero_add];rw[getElem?_append_right (Nat.le_refl _)];simp only[Nat.sub_self,cons_append,getElem?_cons_zero];have key:∀s1,jD C s1 rs K->ig C (pre++r::(rs++post)) s1 ((range rs.length).map ((λx=>x+pre.length)∘succ)) K:=by
   intro s1 ab;have:=ih (pre++[r]) post s1 ab;simp only[append_assoc,singleton_append,length_append,length_singleton]at this;have e:((λx=>x+pre.length)∘succ)=λx=>x+(pre.length+1):=by funext x;simp;omega
   rw[e];exact this
  simp only[jD]at h;exact z9 h key
theorem N8 (ij:a.defers=[]) (cK:a.tmps.size=n.n) (g0:∀i∈n.fx,a.tmps.getD i undef=ρ i) (aI:bg w0 F0 X F S s (λt=>a.tmps.getD t undef) w)
  {o:Oper} {d0 k:Nat} {args:List aX} {g:FuncId} {caps:Xy} {arr:Array Value} {ps:List bZ} {r:I} (bX:cp o.op=some (.call (.t d0) args)) (af:jZ n o.dst=true)
  (aD:a.tmps.getD d0 undef= .func (.func g) #[] arr) (aj:c5 w F s (λt=>a.tmps.getD t undef) caps arr.toList) (fl:I.dz caps=true)
  (N9:∃b ty fr,(arr.toList).getD k undef= .pointer (some ⟨b,0,none⟩)/\w.heap[b]? =some (.cells #[.func (.func g) #[] arr] ty fr)/\F b) (GP:k<arr.size)
  (ad:ps.map (·.a)=args.map (a6 s)++caps) (aB:∀p∈ps,p.ok s) (aY:gR ps=true) (bn:oC C g args.length (args.length+k) (ps.map (·.d)) r (ps.map (·.o))) (cb:r.res=true)
  (cc:ie ps=true->r.cr=true/\∀p∈ps,p.o.cr=true) {K:ah->Prop} {next:Act->World->Prop} (ea:K (fin (fP (dH s ps) ps) o.dst r))
  (aU:∀ax b7 az,K ax->Rel w0 F0 X n ρ ax b7 az->next b7 az):o.wp C.P a w next Q:=by
 obtain⟨dst,op,ty,pos,after,guard⟩:=o;simp only at bX af ea;cases op with
 |call c=>
  obtain⟨callee,mK,argTypes⟩:=c;simp only[cp]at bX;split at bX
  .split at bX
   .rename_i tW _ _ LZ xs bk nv;simp only[Option.some.injEq,cU.call.injEq]at bX;obtain⟨rfl,rfl⟩:=bX;have tB:tW= .tmp d0:=by
     cases tW with
     |tmp t=>simp only[cD,Option.some.injEq,aX.t.injEq]at bk;rw[bk]
     |const v=>simp only[cD,Option.map_eq_some_iff]at bk;obtain⟨c,_,bk⟩:=bk;cases bk
     |func g=>simp[cD]at bk
     |global g=>simp[cD]at bk
    subst tB;have qx:execOp a.eval {dst,op:=.call {callee:=.value (.tmp d0),args:=mK,argTypes},type:=ty,pos,after,guard}=callFunc g ((mK.toList.map a.eval++arr.toList).toArray):=by
     have:a.eval (.tmp d0)= .func (.func g) #[] arr:=aD;simp only[execOp,resolve,this,Deferred.ofValue,pure_bind,invoke];congr 1;apply Array.ext';simp
    unfold Oper.wp;rw[qx];have hlen:(mK.toList.map a.eval).length=xs.length:=by
     have:=congrArg length (qm nv);simpa using this
    have tX:c5 w F s (λt=>a.tmps.getD t undef) (xs.map (a6 s)++caps) (mK.toList.map a.eval++arr.toList):=EX (v_ aI (λ_=>rfl) _ _ (qm nv)) aj;rw[<-ad]at tX;obtain⟨e6,l2⟩:=EY tX;have fO:∀d∈xs.map (a6 s)++caps,d.plain=true:=by
     intro d af;rcases mem_append.1 af with af|af
     .obtain⟨x,an,rfl⟩:=mem_map.1 af;exact Dx s x λav e=>by
       subst e;have hm:=qm nv;have:some (aX.c av)∈xs.map some:=mem_map.2 ⟨_,an,rfl⟩;rw[<-hm]at this;obtain⟨o,_,bG⟩:=mem_map.1 this;cases o with
       |const v=>simp only[cD,Option.map_eq_some_iff]at bG;obtain⟨c,aj,e⟩:=bG;cases e;exact y3 aj
       |tmp n=>simp[cD]at bG
       |func g=>simp[cD]at bG
       |global g=>simp[cD]at bG
     .obtain⟨k,ai⟩:=getElem?_of_mem af;exact vE fl ai
    have zX:=EW (C:=C) aI (ps:=ps) (vs:=mK.toList.map a.eval++arr.toList) (f:=g) (r:=r) (by simpa using e6)
     (λi p v ao aD=>⟨fO p.a (by rw[<-ad];exact mem_map.2 ⟨p,mem_of_getElem? ao,rfl⟩),l2 i p.a v (by simp[ao]) aD⟩) aB aY
     (λFc iQ c6 a1 iB ao=>by
      refine bn w Fc iQ c6 _ (by rw[<-e6];simp) ?_ ao;obtain⟨b,AM,fr,aM,aS,aV⟩:=N9;refine⟨b,AM,fr,?_,?_,a1 b aV,λan=>by obtain⟨u,hu⟩:=iB b an;exact aI.eH u b hu aV⟩
      .rw[getD_eq_getElem?_getD,getElem?_append_right (by omega),hlen,Nat.add_sub_cancel_left,<-getD_eq_getElem?_getD];exact aM
      .rw[aS,<-hlen,drop_left])
     cb cc
    rcases zX with⟨dx,br⟩|⟨v,az,dx,bo,aF,br,e5⟩
    .rw[dx,Oper.upon_enter];refine Calls.mono br ?_;rintro e az ⟨v,rfl,bo,aF,bM,b1⟩;exact aU _ _ _ ea (Rel.put ij cK g0 bM b1.1 af)
    .rw[dx,Oper.upon_value];exact aU _ _ _ ea (Rel.put ij cK g0 br e5.1 af)
   .cases bX
  .split at bX
   .simp only[Option.map_eq_some_iff]at bX;obtain⟨_,_,bX⟩:=bX;cases bX
   .cases bX
  .split at bX
   .simp only[Option.map_eq_some_iff]at bX;obtain⟨_,_,bX⟩:=bX;cases bX
   .cases bX
  iterate 3
   .split at bX
    .split at bX<;>cases bX
    .cases bX
  .cases bX
 |makeFunc fn first cs=>
  cases fn<;>simp only[cp]at bX<;>first|(cases bX;done)|(split at bX<;>simp at bX)
 |slice T x c9 aE fL=>
  cases fL<;>simp only[cp]at bX<;>first|(cases bX;done)|(split at bX<;>simp at bX)
 |makeMap T r=>cases r<;>simp only[cp]at bX<;>simp at bX
 |lookup T x i c=>cases c<;>simp only[cp]at bX<;>first|(cases bX;done)|(split at bX<;>simp at bX)
 |_=>simp only[cp]at bX<;>first|(cases bX;done)|(simp at bX;done)|(split at bX<;>simp at bX)
theorem N_ {op:Op} {T:TypeId} {x:aX} (h:cp op=some (.ew T x)):∃y,op= .load T y/\cD y=some x:=by
 cases op with
 |load zW y=>
  simp only[cp,Option.map_eq_some_iff]at h;obtain⟨cf,an,h⟩:=h;cases h;exact⟨y,rfl,an⟩
 |call c=>
  obtain⟨callee,mK,argTypes⟩:=c;simp only[cp]at h;split at h<;>(try split at h)<;>(try split at h)<;>(try simp[Option.map_eq_some_iff]at h)
 |makeFunc fn first cs=>
  cases fn<;>simp only[cp]at h<;>first|(cases h;done)|(split at h<;>simp at h)
 |slice T x c9 aE fL=>
  cases fL<;>simp only[cp]at h<;>first|(cases h;done)|(split at h<;>simp at h)
 |makeMap T r=>cases r<;>simp only[cp]at h<;>simp at h
 |lookup T x i c=>cases c<;>simp only[cp]at h<;>first|(cases h;done)|(split at h<;>simp at h)
 |_=>simp only[cp]at h<;>first|(cases h;done)|(simp at h;done)|(split at h<;>simp at h)
theorem AN {y:Operand} {k:Nat} (h:cD y=some (.t k)):y= .tmp k:=by
 cases y with
 |tmp t=>simp only[cD,Option.some.injEq,aX.t.injEq]at h;rw[h]
 |const v=>simp only[cD,Option.map_eq_some_iff]at h;obtain⟨c,_,h⟩:=h;cases h
 |func g=>simp[cD]at h
 |global g=>simp[cD]at h
def oE (k:Nat) (s:ah) (j:Nat):I:=if j=k then .ref .hole else nb j (s j)
theorem Oa {aq:Nat->Value} {b k:Nat} {v:Value} {ty:TypeId} {fr:Nat×Nat} (aI:bg w0 F0 X F S s aq w) (ai:aq k= .pointer (some ⟨b,0,none⟩)) (U:F b) (aj:w.heap[b]? =some (.cells #[v] ty fr)) (ab:Value.eZ v=true):
  ∀cs:Xt,c5 w F s aq (cs.map (oE k s)) (cs.map aq)/\I.dz (cs.map (oE k s))=true:=by
 intro cs;induction cs with
 |nil=>exact⟨by rw[map_nil,map_nil,c5],rfl⟩
 |cons j cs ih=>
  simp only[map_cons];have b6:aA w F s aq (oE k s j) (aq j) (λ_=>False)/\(oE k s j).plain=true:=by
   unfold oE;split
   .rename_i e;subst e;rw[ai];refine⟨(aA.bY rfl).2 ⟨rfl,?_⟩,rfl⟩;rw[al];refine⟨b,0,[v],rfl,U,?_,?_⟩
    .intro i c aE;cases i with
     |zero=>simp at aE;subst aE;simp[World.cell?,aj]
     |succ i=>simp at aE
    .rw[al];exact⟨v,ab,rfl⟩
   .unfold nb;split
    .rename_i ao;exact⟨aA.nothing ao (aI.cE j),ao⟩
    .rename_i ao;refine⟨?_,rfl⟩;rw[aA];intro d af ao;simp only[I.sub,Option.some.injEq]at af;subst af;have aN:(s j).tree=true:=by
      cases aa:s j<;>first|rfl|(rw[aa]at ao;simp[I.plain]at ao)
     exact⟨_,none,rfl,rfl,((aA.bY aN).1 (aI.cE j)).1⟩
  refine⟨?_,?_⟩
  .rw[c5];exact⟨_,_,rfl,b6.1,ih.1⟩
  .simp only[I.dz,b6.2,ih.2,Bool.and_self]
theorem Ob (a0:C.dm) {id:Nat} {ops:Array Oper} {T:TypeId} {k k0 d0:Nat} {m rest:List bW} {args:List aX} {d1:Option Nat} {g:FuncId} {cs:Xt} {b:Nat} {ty:TypeId} {fr:Nat×Nat} {K:ah->Prop}
  (ny:nx n ops ops.toList=some ((⟨some d0,.ew T (.t k),none⟩::(m++⟨d1,.call (.t d0) args,none⟩::rest):List bW).map bW.un))
  (gx:(C.T T).flat=true) (hm:∀r∈m,∀d,r.dst=some d->d≠d0/\d∉cs) (kK:d0∉cs) (AO:cs[k0]? =some k)
  (ij:a.defers=[]) (cK:a.tmps.size=n.n) (g0:∀i∈n.fx,a.tmps.getD i undef=ρ i) (aI:bg w0 F0 X F S s (λt=>a.tmps.getD t undef) w)
  (U:F b) (ai:a.tmps.getD k undef= .pointer (some ⟨b,0,none⟩)) (vP:w.heap[b]? =some (.cells #[.func (.func g) #[] (cs.map λj=>a.tmps.getD j undef).toArray] ty fr))
  (h:jD C (fin s (some d0) .hole) m λs1=>∃ps r,ps.map (·.a)=args.map (a6 s1)++cs.map (oE k s1)/\(∀p∈ps,p.ok s1)/\gR ps=true/\
   oC C g args.length (args.length+k0) (ps.map (·.d)) r (ps.map (·.o))/\r.res=true/\(ie ps=true->r.cr=true/\∀p∈ps,p.o.cr=true)/\jD C (fin (fP (dH s1 ps) ps) d1 r) rest K)
  (aU:∀ax b7 az,K ax->Rel w0 F0 X n ρ ax b7 az->Q .normal b7 az):(Code.region id ops false).wp C.P Q a w:=by
 obtain⟨hl,l3⟩:=wt ny;have AP:∀(i:Nat) (r:bW),(⟨some d0,.ew T (.t k),none⟩::(m++⟨d1,.call (.t d0) args,none⟩::rest):List bW)[i]? =some r->∃o,ops[i]? =some o/\nw n ops o=some r.un:=by
  intro i r aE;have c8:i<ops.toList.length:=by
   rw[hl,length_map];exact(List.getElem?_eq_some_iff.1 aE).1
  obtain⟨e0,ab,ad⟩:=l3 i _ (getElem?_eq_getElem c8);rw[getElem?_map,aE]at ab;simp only[Option.map_some,Option.some.injEq]at ab;exact⟨_,by rw[<-Array.getElem?_toList];exact getElem?_eq_getElem c8,by rw[ab];exact ad⟩
 have uz:∀{r:bW} {o:Oper},r.guard=none->nw n ops o=some r.un->r.dst=o.dst/\o.guard=none/\pn o.op=r.a9.base/\jZ n o.dst=true:=by
  intro r o bf h;unfold nw at h;split at h
  .rename_i af;split at h
   .rename_i Oc ga;simp only[bW.un,Option.some.injEq,bW.mk.injEq]at h;obtain⟨aM,aS,aV⟩:=h;refine⟨aM.symm,?_,aS,af⟩;rw[aV,bf]at ga;cases bG:o.guard with
    |none=>rfl
    |some zZ=>
     rw[bG]at ga;simp only[tV]at ga;split at ga<;>cases ga
   .cases h
  .cases h
 have wU:ops.size=m.length+rest.length+2:=by
  have:ops.toList.length=ops.size:=by simp
  rw[<-this,hl];simp;omega
 have AQ:range ops.size=0::((range m.length).map (·+1)++((m.length+1)::(range rest.length).map (·+(m.length+2)))):=by
  rw[wU,show m.length+rest.length+2=(m.length+rest.length+1)+1 from rfl,range_succ_eq_map];congr 1;rw[show m.length+rest.length+1=m.length+(rest.length+1) by omega,range_add,map_append,range_succ_eq_map];simp only[List.map_map,map_cons,Nat.add_zero];congr 1;congr 1;apply map_congr_left;intro x _;simp;omega
 obtain⟨oF,Od,iS⟩:=AP 0 _ rfl;obtain⟨gX,fv,fZ,gA⟩:=uz rfl iS;change pn oF.op= .ew T (.t k)at fZ;have qQ:cp oF.op=some (.ew T (.t k)):=by
  rcases po fZ with h|h
  .cases h
  .exact h
 obtain⟨y,a2,Oe⟩:=N_ qQ;have:=AN Oe;subst this;let nG:Value:=.func (.func g) #[] (cs.map λj=>a.tmps.getD j undef).toArray
 have h9:gi w b 0 [nG]:=by
  intro i c aE;cases i with
  |zero=>simp at aE;subst aE;simp[World.cell?,vP,nG]
  |succ i=>simp at aE
 refine wp_region ?_;rw[AQ];simp only[wpOps,Od];show(if Region.wanted oF (yielded ops a.tmps)=true then oF.wp C.P a w _ Q\/(oF.asks C.P a w/\LetsOut Q)else _);rw[if_pos (wu fv)];left;have qx:(execOp a.eval oF).run C.P w= .ok (.value nG) w:=by
  obtain⟨dst,op,ty,pos,after,guard⟩:=oF;simp only at a2;subst a2;have:a.eval (.tmp k)= .pointer (some ⟨b,0,none⟩):=ai;simp[execOp,this,Instr.loadAt,Instr.sureAddr,DD a0 gx h9]
 unfold Oper.wp;rw[qx,Oper.upon_value];have Of:some d0=oF.dst:=gX;rw[<-Of]at gA⊢;let ag:Act:=a.put (some d0) nG
 let l7:Fr:=⟨n.n,d0::k::(cs++n.fx)⟩
 let ρ1:Nat->Value:=λt=>ag.tmps.getD t undef
 have oG:k∈cs:=mem_of_getElem? AO;have qi:=aI.base;have AR:Rel w F (λb=>∃u,S u b) ⟨n.n,[]⟩ ρ1 (fin s (some d0) .hole) ag w:=
  Rel.put (n:=⟨n.n,[]⟩) ij cK (λi aE=>by cases aE) qi (.inl ⟨rfl,by rw[aA];trivial⟩) (by
   simp only[jZ,Bool.and_eq_true,decide_eq_true_eq]at gA⊢;exact⟨gA.1,by simp⟩)
 have Og:Rel w F (λb=>∃u,S u b) l7 ρ1 (fin s (some d0) .hole) ag w:=⟨AR.defers,AR.size,λi _=>rfl,AR.rel⟩
 have GQ:∀t,t≠d0->ρ1 t=a.tmps.getD t undef:=by
  intro t aN;have:=congrFun (wo (n:=n) (dst:=some d0) (a:=a) nG cK gA).1 t;simp only[jd]at this;rw[hg _ _ aN]at this;exact this
 have Oh:ρ1 d0=nG:=by
  have:=congrFun (wo (n:=n) (dst:=some d0) (a:=a) nG cK gA).1 d0;simp only[jd]at this;rw[kG]at this;exact this
 have hw:=AL C _ m [⟨some d0,.ew T (.t k),none⟩] (⟨d1,.call (.t d0) args,none⟩::rest) _ h;have mid:∀ax b7 az,(∃ps r,ps.map (·.a)=args.map (a6 ax)++cs.map (oE k ax)/\(∀p∈ps,p.ok ax)/\gR ps=true/\
   oC C g args.length (args.length+k0) (ps.map (·.d)) r (ps.map (·.o))/\r.res=true/\(ie ps=true->r.cr=true/\∀p∈ps,p.o.cr=true)/\jD C (fin (fP (dH ax ps) ps) d1 r) rest K)->
   Rel w F (λb=>∃u,S u b) l7 ρ1 ax b7 az->wpOps C.P ops Q ((m.length+1)::(range rest.length).map (·+(m.length+2))) b7 az:=by
  rintro s2 a4 ll ⟨ps,r,aM,aS,aV,bK,cn,bB,bt⟩ ⟨aO,a3,bJ,jB,S2,cN⟩;obtain⟨r7,Oi,m9⟩:=AP (m.length+1) ⟨d1,.call (.t d0) args,none⟩ (by simp);obtain⟨dS,e9,fX,ni⟩:=uz rfl m9;simp only[wpOps,Oi];show(if Region.wanted r7 (yielded ops a4.tmps)=true then r7.wp C.P a4 ll _ Q\/(r7.asks C.P a4 ll/\LetsOut Q)else _);rw[if_pos (wu e9)];left;change pn r7.op= .call (.t d0) args at fX;have AS:cp r7.op=some (.call (.t d0) args):=by
   rcases po fX with h|h
   .cases h
   .exact h
  have GR:jB b:=cN.fN b U;have GS:ll.heap[b]? =some (.cells #[nG] ty fr):=by
   rw[cN.old b (aI.eu b U) (λ⟨u,hu⟩=>aI.eH u b hu U)];exact vP
  have GU:∀j∈cs,a4.tmps.getD j undef=a.tmps.getD j undef:=by
   intro j b6;rw[bJ j (by simp[l7,b6])];exact GQ j (λe=>kK (e▸b6))
  have n7:a4.tmps.getD k undef= .pointer (some ⟨b,0,none⟩):=(GU k oG).trans ai;have GV:(cs.map λj=>a.tmps.getD j undef)=cs.map λj=>a4.tmps.getD j undef:=map_congr_left λj b6=>(GU j b6).symm;obtain⟨bx,bE⟩:=Oa (k:=k) cN n7 GR GS rfl cs;have zp:∀ax b7 az,jD C ax rest K->Rel w F (λb=>∃u,S u b) ⟨n.n,n.fx⟩ ρ ax b7 az->wpOps C.P ops Q ((range rest.length).map (·+(m.length+2))) b7 az:=by
   intro qs gB qR aB wV;have wG:=AL C K rest ((⟨some d0,.ew T (.t k),none⟩::m)++[⟨d1,.call (.t d0) args,none⟩]) [] qs aB;have:=wv (Q:=Q) a0 (ops:=ops) (ros:=((⟨some d0,.ew T (.t k),none⟩::m)++[⟨d1,.call (.t d0) args,none⟩])++(rest++[])) (l2:=[]) (K:=K) (λax b7 az jX dn=>by
     obtain⟨Oj,Ok,Ol,Om,DV,On⟩:=dn;exact aU ax b7 az jX ⟨Oj,Ok,Ol,Om,DV,aI.N7 On⟩) ((range rest.length).map (·+(m.length+2))) (λi aE=>by
      have ud:((⟨some d0,.ew T (.t k),none⟩::m)++[⟨d1,.call (.t d0) args,none⟩])++(rest++[])=(⟨some d0,.ew T (.t k),none⟩::(m++⟨d1,.call (.t d0) args,none⟩::rest):List bW):=by simp
      rw[ud];refine⟨λja=>?_,λo bG=>?_⟩
      .rw[List.getElem?_eq_none_iff];have:=Array.getElem?_eq_none_iff.1 ja;simp;omega
      .obtain⟨aC,gw,ad⟩:=l3 i o (by simpa using bG);obtain⟨r,ab,rfl⟩:∃r,(⟨some d0,.ew T (.t k),none⟩::(m++⟨d1,.call (.t d0) args,none⟩::rest):List bW)[i]? =some r/\r.un=aC:=by
        rw[getElem?_map,Option.map_eq_some_iff]at gw;exact gw
       exact⟨r,ab,ad⟩) qs gB qR (by
      have e:((⟨some d0,.ew T (.t k),none⟩::m)++[⟨d1,.call (.t d0) args,none⟩]:List bW).length=m.length+2:=by simp
      rw[e]at wG;exact wG) wV
   rwa [append_nil]at this
  have AU:∀i∈n.fx,a4.tmps.getD i undef=ρ i:=by
   intro i aE;rw[bJ i (by simp[l7,aE]),GQ i (λe=>?_)]
   .exact g0 i aE
   .simp only[jZ,Bool.and_eq_true,Bool.not_eq_true',contains_eq_mem,decide_eq_false_iff_not]at gA;exact gA.2 (e▸aE)
  have GP:k0<cs.length:=(List.getElem?_eq_some_iff.1 AO).1;have Oo:r7.dst=d1:=dS.symm;exact N8 (n:=n) (ρ:=ρ) (K:=λax=>jD C ax rest K) aO a3 AU cN AS ni
   (arr:=(cs.map λj=>a4.tmps.getD j undef).toArray) (k:=k0) (caps:=cs.map (oE k s2)) (g:=g) (ps:=ps) (r:=r)
   (by rw[bJ d0 (by simp[l7]),Oh];simp only[nG,GV]) (by simpa using bx) bE
   ⟨b,ty,fr,by
     rw[getD_eq_getElem?_getD,getElem?_map,AO];exact n7,by rw[GS];simp only[nG,GV],GR⟩ (by simpa using GP)
   aM aS aV bK cn bB (by rw[Oo];exact bt) zp
 have:=wv (Q:=Q) a0 (ops:=ops) (ros:=[⟨some d0,.ew T (.t k),none⟩]++(m++⟨d1,.call (.t d0) args,none⟩::rest)) (l2:=(m.length+1)::(range rest.length).map (·+(m.length+2))) mid
  ((range m.length).map (·+1)) (λi aE=>by
    obtain⟨j,b6,rfl⟩:=mem_map.1 aE;have uA:j<m.length:=mem_range.1 b6;refine⟨λja=>?_,λo bG=>?_⟩
    .have:=Array.getElem?_eq_none_iff.1 ja;omega
    .obtain⟨lf,uj,ff⟩:=AP (j+1) m[j] (by
      simp only[getElem?_cons_succ];rw[getElem?_append_left uA,getElem?_eq_getElem uA])
     have heq:lf=o:=by rw[uj]at bG;exact Option.some.inj bG
     subst heq;refine⟨m[j],by
      simp only[singleton_append,getElem?_cons_succ];rw[getElem?_append_left uA,getElem?_eq_getElem uA],?_⟩
     have Oq:=hm m[j] (getElem_mem uA);unfold nw at ff⊢;split at ff
     .rename_i af;rw[if_pos]
      .exact ff
      .cases GW:lf.dst with
       |none=>rfl
       |some d=>
        rw[GW]at af;simp only[jZ,Bool.and_eq_true,decide_eq_true_eq,Bool.not_eq_true',contains_eq_mem,decide_eq_false_iff_not]at af⊢;refine⟨af.1,?_⟩;have wx:m[j].dst=some d:=by
         split at ff
         .simp only[bW.un,Option.some.injEq,bW.mk.injEq]at ff;rw[<-ff.1,GW]
         .cases ff
        obtain⟨dZ,fj⟩:=Oq d wx;simp only[l7,mem_cons,mem_append,not_or];exact⟨dZ,λe=>fj (e▸oG),fj,af.2⟩
     .cases ff) (fin s (some d0) .hole) ag w (by simpa using hw) Og
 exact this
def Ot (C:bA) (f:FuncId) (k k0:Nat) (cs:Xt) (args:List aX) (d1:Option Nat) (rest:List bW) (dd:Xt) (P:Xx->Prop) (s1:ah):Prop:=
 ∃ps r,ps.map (·.a)=args.map (a6 s1)++cs.map (oE k s1)/\(∀p∈ps,p.ok s1)/\gR ps=true/\
  oC C f args.length (args.length+k0) (ps.map (·.d)) r (ps.map (·.o))/\r.res=true/\(ie ps=true->r.cr=true/\∀p∈ps,p.o.cr=true)/\
  cw C (fin (fP (dH s1 ps) ps) d1 r) rest none (λ_ s=>P (fB dd s))
def Ou (C:bA) (f:FuncId) (k k0 d0:Nat) (cs:Xt) (m:List bW) (args:List aX) (d1:Option Nat) (rest:List bW) (dd:Xt) (P:Xx->Prop) (s:ah):Prop:=
 cw C (fin s (some d0) .hole) m none λ_ s1=>Ot C f k k0 cs args d1 rest dd P s1
def Ov (C:bA) (f:FuncId) (k k0 d0:Nat) (cs:Xt) (m:List bW) (args:List aX) (d1:Option Nat) (rest:List bW) (dd:Xt) (K:ah->Prop) (s:ah):Prop:=
 Ou C f k k0 d0 cs m args d1 rest dd (λl=>K (au l)) s
def GX (f:Nat->Bool) (m:List bW):Bool:=m.all λr=>match r.dst with
 |none=>true
 |some d=>f d
theorem Ow {f:Nat->Bool} {m:List bW} (h:GX f m=true):∀r∈m,∀d,r.dst=some d->f d=true:=by
 intro r aI d af;have:=List.all_eq_true.1 h r aI;rw[af]at this;exact this
theorem GY (k:Xt) (s:ah):rW s (fB k s):=by
 intro p ao;obtain⟨t,_,rfl⟩:=mem_map.1 ao;exact .inl rfl
def Ox (C:bA) (f:FuncId) (k k0 d0:Nat) (cs:Xt) (m:List bW) (args:List aX) (d1:Option Nat) (rest:List bW) (dd:Xt):(Exit->ah->Prop)->ah->Prop:=
 λQ s=>Ov C f k k0 d0 cs m args d1 rest dd (Q .normal) s
def Oy (T:TypeId) (k d0:Nat) (m:List bW) (args:List aX) (d1:Option Nat) (rest:List bW):aL:=
 .eM (⟨some d0,.ew T (.t k),none⟩::(m++⟨d1,.call (.t d0) args,none⟩::rest)) none
theorem Oz (vs:Xw):∀(m n:Nat),m+n=vs.length->vs.drop m=((range n).map (·+m)).map λj=>vs.getD j undef:=by
 intro m n h;apply ext_getElem?;intro i;rw[getElem?_drop,List.map_map,getElem?_map];by_cases aE:i<n
 .rw[getElem?_range aE,getElem?_eq_getElem (by omega)];simp only[Option.map_some,Function.comp];rw[getD_eq_getElem?_getD,getElem?_eq_getElem (by omega)];simp only[Option.getD_some,Option.some.injEq];congr 1;omega
 .rw[getElem?_eq_none (by omega),getElem?_eq_none (by simp;omega)];rfl
theorem GZ {c:Code} {rs:List bW} (h:eN n c=some (.eM rs none)):∃id ops,c= .region id ops false/\nx n ops ops.toList=some rs:=by
 cases c with
 |region id ops draw=>
  cases draw with
  |false=>
   simp only[eN]at h;split at h
   .rename_i r ab;cases h;exact⟨id,ops,rfl,ab⟩
   .cases h
  |true=>
   simp only[eN]at h;split at h
   .simp only[Option.map_eq_some_iff]at h;obtain⟨r,ab,ad⟩:=h;cases ad
   .cases h
 |seq a b=>simp only[eN]at h;split at h<;>cases h
 |cond c a b=>simp only[eN]at h;split at h<;>cases h
 |block id b=>simp only[eN,Option.map_eq_some_iff]at h;obtain⟨r,ab,ad⟩:=h;cases ad
 |loop b=>simp only[eN,Option.map_eq_some_iff]at h;obtain⟨r,ab,ad⟩:=h;cases ad
 |_=>simp[eN]at h
def AV (C:bA) (f:FuncId) (fx:Xt) (OA m k:Nat) (T:(Exit->ah->Prop)->ah->Prop) (b:aL):Prop:=
 ∃(ty:TypeId) (k0 d0 ln:Nat) (ib:List bW) (args:List aX) (d1:Option Nat) (rest:List bW) (dd:Xt),
  T=Ox C f k k0 d0 ((range ln).map (·+m)) ib args d1 rest dd/\b=Oy ty k d0 ib args d1 rest/\(C.T ty).flat=true/\GX (λd=>d !=d0&&decide (m+ln<=d)) ib=true/\decide (m+ln<=d0)=true/\
  decide (k0<ln)=true/\k=m+k0/\((range ln).all λj=>fx.contains (m+j))=true/\args.length=m/\m+ln=OA
theorem oC.of_wp (a0:C.dm) {f:FuncId} {fn:Func} {c:Code} {dt:aL} {fx:Xt} {as outs:Xy} {r:I} {k m:Nat} (bk:C.P.funcs[f]? =some fn) (U:fn.body=some c)
  (jF:(fn.name== "runtime.NumGoroutine")=false) (aa:eN ⟨fn.ntmps,fx⟩ c=some dt.strip) (aU:as.length<=fn.ntmps)
  (ai:dt.l5 (AV C f fx as.length m k))
  (h:∀Q:Exit->ah->Prop,(∀s,dC (Ends C fx fn.results.toList r outs) s->Q .ret s)->(∀s,dC (Ends C fx fn.results.toList r outs) s->Q .normal s)->bc C dt Q (au (num 0 as))):oC C f m k as r outs:=by
 rintro w F X S vs hl ⟨b,OB,fr,aM,aS,aV,bK⟩ aI;refine Ac (fx:=fx) a0 bk U jF aU hl aI λa j1 cX=>?_;refine Fl a0 (H:=AV C f fx as.length m k) ?_ c (by rw[aL.z7];exact aa) (aL.z8 dt ai) (Aa dt ?_) j1
 .rintro c T eh Q s ag iG ⟨ty,k0,d0,ln,ib,args,d1,rest,dd,rfl,rfl,gx,hm,kK,wW,ai,g0,hlen,Wl⟩ qQ OC ⟨aO,a3,bJ,qv,S1,cN⟩;replace hm:∀r∈ib,∀d,r.dst=some d->d≠d0/\m+ln<=d:=λr aI d af=>by
   have:=Ow hm r aI d af;simpa using this
  replace kK:=of_decide_eq_true kK;replace wW:=of_decide_eq_true wW;replace g0:∀j,j<ln->m+j∈fx:=λj b6=>by
   have:=List.all_eq_true.1 g0 j (mem_range.2 b6);simpa using this
  obtain⟨id,ops,rfl,ny⟩:=GZ qQ;have G0:∀j,j<ln->ag.tmps.getD (j+m) undef=vs.getD (j+m) undef:=λj b6=>by
   rw[Nat.add_comm];exact bJ _ (g0 j b6)
  have hB:((range ln).map (·+m)).map (λj=>ag.tmps.getD j undef)=vs.drop m:=by
   rw[Oz vs m ln (by omega),List.map_map,List.map_map];apply map_congr_left;intro j b6;exact G0 j (mem_range.1 b6)
  refine Ob (Q:=l6 w F X ⟨fn.ntmps,fx⟩ (fA vs) Q) (K:=dC (Q .normal)) (b:=b) (ty:=OB) (fr:=fr) (g:=f) (k0:=k0) (cs:=(range ln).map (·+m)) a0 ny gx (λr aI d af=>⟨(hm r aI d af).1,λpB=>?_⟩) (λpB=>?_) ?_ aO a3 bJ cN (cN.fN b aV) ?_ ?_ ?_ (λax b7 az ai dn=>dn.dC ai)
  .obtain⟨j,b6,rfl⟩:=mem_map.1 pB;have:=(hm r aI _ af).2;have:=mem_range.1 b6;omega
  .obtain⟨j,b6,e⟩:=mem_map.1 pB;have:=mem_range.1 b6;omega
  .rw[getElem?_map,getElem?_range wW,ai];simp[Nat.add_comm]
  .rw[ai,Nat.add_comm,G0 k0 wW,Nat.add_comm,<-ai];exact aM
  .rw[hB,cN.old b (aI.eu b aV) bK];exact aS
  .refine uh (λ_ s1=>?_) OC;rintro⟨ps,r,gX,fv,fZ,gA,jU,kV,l1⟩;exact⟨ps,r,gX,fv,fZ,gA,jU,kV,uh (λ_ s h=>.inr ⟨_,GY _ _,h⟩) l1⟩
 .rw[wF];exact h _ (λs h=>⟨.inr rfl,h⟩) (λs h=>⟨.inl rfl,h⟩)
end
end Go.cM
