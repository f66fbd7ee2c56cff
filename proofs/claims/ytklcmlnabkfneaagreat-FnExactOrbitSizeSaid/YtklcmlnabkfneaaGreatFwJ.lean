/- Part of a proof that a law returns true for every input. No condition. -/
import Derived.Test.YtklcmlnabkfneaaGreatFwI
namespace Go.cU
open List Go.IntKind Nat Or
def lK (C:bY) (f:FuncId) (m k:Nat) (as:aiF) (r:I) (outs:aiF):Prop:=
 ∀(w:World) (F X:Nat->Prop) (S:Nat->Nat->Prop) (vs:aiD),vs.length=as.length->
  (∃b ty fr,vs.getD k undef= .pointer (some ⟨b,0,none⟩)/\w.heap[b]? =some (.cells #[.func (.func f) #[] (vs.drop m).toArray] ty fr)/\F b/\¬X b)->
  bs w F X F S (eA as) (fI vs) w->
  mw C.P f vs.toArray w λv aB=>∃bF aL,bs w F X bF aL (eA (r::outs)) (fI (v::vs)) aB
section
variable {C:bY} {w0 w:World} {F0 X F bF:Nat->Prop} {S aL:Nat->Nat->Prop} {n:Fr} {ρ:Nat->Value} {s aD:ax} {aC hb:Nat->Value} {a:Act} {av:I} {Q:Exit->Act->World->Prop} {aB:World}
theorem bs.base (h:bs w0 F0 X F S s aC w):bs w F (λb=>∃u,S u b) F S s aC w where
 gx:=λ_ h=>h
 gJ:=λ_ h=>.inl h
 eH:=h.eH
 dW:=h.dW
 e8:=h.e8
 eZ:=h.eZ
 dh:=λu b R=>.inl ⟨u,R⟩
 df:=h.df
 old:=λ_ _ _=>rfl
 size:=Nat.le_refl _
 os:=rfl
 tape:=rfl
 output:=Out.refl _
 gy:=h.gy.next h.size h.old λb ⟨u,hu⟩=>h.dh u b hu
theorem bs.To (h:bs w0 F0 X F S s aC w) (bq:bs w F (λb=>∃u,S u b) bF aL aD hb aB):bs w0 F0 X bF aL aD hb aB where
 gx:=λb R=>bq.gx b (h.gx b R)
 gJ:=λb R=>by
  rcases bq.gJ b R with R|⟨u,R⟩|R
  .exact h.gJ b R
  .exact .inr (h.dh u b R)
  .exact .inr (.inr (Nat.le_trans h.size R))
 eH:=bq.eH
 dW:=bq.dW
 e8:=bq.e8
 eZ:=bq.eZ
 dh:=λu b R=>by
  rcases bq.dh u b R with⟨u,R⟩|R
  .exact h.dh u b R
  .exact .inr (Nat.le_trans h.size R)
 df:=bq.df
 old:=λb R ji=>by
  refine(bq.old b (Nat.lt_of_lt_of_le R h.size) λ⟨u,hu⟩=>?_).trans (h.old b R ji);rcases h.dh u b hu with ar|ar
  .exact ji ar
  .omega
 size:=Nat.le_trans h.size bq.size
 os:=bq.os.trans h.os
 tape:=bq.tape.trans h.tape
 output:=bq.output.trans h.output
 gy:=h.gy
inductive qa:aiF->aiF->Prop
 |nil:qa [] []
 |eq {a:I} {as ks:aiF}:a.U=[]->qa as ks->qa (a::as) (a::ks)
 |wd {a b:I} {as ks:aiF}:eG a b->a.tree=true->b.U=[]->qa as ks->qa (a::as) (b::ks)
theorem qa.get:∀{as ks:aiF},qa as ks->∀p k,p∈num k ks->p.2.U=[]/\∃a,as[p.1-k]? =some a/\k<=p.1/\(p.2=a\/(a.tree=true/\eG a p.2))
 |_,_,.nil,p,k,au=>by simp[num]at au
 |_,_,.eq (a:=a) h hw,p,k,au=>by
  simp only[num,mem_cons]at au;rcases au with rfl|au
  .exact⟨h,a,by simp,Nat.le_refl _,.inl rfl⟩
  .obtain⟨ab,x,ad,aA,aZ⟩:=hw.get p (k+1) au;refine⟨ab,x,?_,by omega,aZ⟩;rw[show p.1-k=(p.1-(k+1))+1 by omega,getElem?_cons_succ];exact ad
 |_,_,.wd (a:=a) h aY R hw,p,k,au=>by
  simp only[num,mem_cons]at au;rcases au with rfl|au
  .exact⟨R,a,by simp,Nat.le_refl _,.inr ⟨aY,h⟩⟩
  .obtain⟨ab,x,ad,aA,aZ⟩:=hw.get p (k+1) au;refine⟨ab,x,?_,by omega,aZ⟩;rw[show p.1-k=(p.1-(k+1))+1 by omega,getElem?_cons_succ];exact ad
theorem qa.len:∀{as ks:aiF},qa as ks->ks.length=as.length
 |_,_,.nil=>rfl
 |_,_,.eq _ hw=>by simp[hw.len]
 |_,_,.wd _ _ _ hw=>by simp[hw.len]
theorem Lx (C:bY) (K:ax->Prop):∀(rs pre post:List bZ) (s:ax),kV C s rs K->jB C (pre++(rs++post)) s ((range rs.length).map (·+pre.length)) K:=by
 intro rs;induction rs with
 |nil=>intro pre post s h;exact h
 |cons r rs ih=>
  intro pre post s h;rw[length_cons,range_succ_eq_map,map_cons,List.map_map];simp only[jB,Nat.zero_add];rw[getElem?_append_right (Nat.le_refl _)];simp only[Nat.sub_self,cons_append,getElem?_cons_zero];have key:∀s1,kV C s1 rs K->jB C (pre++r::(rs++post)) s1 ((range rs.length).map ((λx=>x+pre.length)∘succ)) K:=by
   intro s1 ab;have:=ih (pre++[r]) post s1 ab;simp only[append_assoc,singleton_append,length_append,length_singleton]at this;have e:((λx=>x+pre.length)∘succ)=λx=>x+(pre.length+1):=by funext x;simp;omega
   rw[e];exact this
  simp only[kV]at h;exact DP h key
theorem Tp (ke:a.defers=[]) (dP:a.tmps.size=n.n) (ir:∀i∈n.fx,a.tmps.getD i undef=ρ i) (aK:bs w0 F0 X F S s (λt=>a.tmps.getD t undef) w)
  {o:Oper} {d0 k:Nat} {args:List bg} {g:FuncId} {caps:aiF} {arr:Array Value} {ps:List cf} {r:I} (cg:cM o.op=some (.call (.t d0) args)) (ag:kU n o.dst=true)
  (aH:a.tmps.getD d0 undef= .func (.func g) #[] arr) (aj:ee w F s (λt=>a.tmps.getD t undef) caps arr.toList) (iq:I.fY caps=true)
  (Tq:∃b ty fr,(arr.toList).getD k undef= .pointer (some ⟨b,0,none⟩)/\w.heap[b]? =some (.cells #[.func (.func g) #[] arr] ty fr)/\F b) (Ad:k<arr.size)
  (ad:ps.map (·.a)=args.map (bp s)++caps) (aA:∀p∈ps,p.ok s) (aZ:h2 ps=true) (bA:lK C g args.length (args.length+k) (ps.map (·.d)) r (ps.map (·.o))) (cH:r.res=true)
  (cI:jV ps=true->r.cu=true/\∀p∈ps,p.o.cu=true) {K:ax->Prop} {next:Act->World->Prop} (gn:K (fin (hE (eT s ps) ps) o.dst r))
  (aP:∀aD cA aB,K aD->Rel w0 F0 X n ρ aD cA aB->next cA aB):o.wp C.P a w next Q:=by
 obtain⟨dst,op,ty,pos,after,guard⟩:=o;simp only at cg ag gn;cases op with
 |call c=>
  obtain⟨callee,l6,argTypes⟩:=c;simp only[cM]at cg;split at cg
  .split at cg
   .rename_i wj _ _ Rz xs bn kc;simp only[Option.some.injEq,dI.call.injEq]at cg;obtain⟨rfl,rfl⟩:=cg;have vO:wj= .tmp d0:=by
     cases wj with
     |tmp t=>simp only[dj,Option.some.injEq,bg.t.injEq]at bn;rw[bn]
     |const v=>simp only[dj,Option.map_eq_some_iff]at bn;obtain⟨c,_,bn⟩:=bn;cases bn
     |func g=>simp[dj]at bn
     |global g=>simp[dj]at bn
    subst vO;have wk:execOp a.eval {dst,op:=.call {callee:=.value (.tmp d0),args:=l6,argTypes},type:=ty,pos,after,guard}=callFunc g ((l6.toList.map a.eval++arr.toList).toArray):=by
     have:a.eval (.tmp d0)= .func (.func g) #[] arr:=aH;simp only[execOp,resolve,this,Deferred.ofValue,pure_bind,invoke];congr 1;apply Array.ext';simp
    unfold Oper.wp;rw[wk];have hlen:(l6.toList.map a.eval).length=xs.length:=by
     have:=congrArg length (sg kc);simpa using this
    have wm:ee w F s (λt=>a.tmps.getD t undef) (xs.map (bp s)++caps) (l6.toList.map a.eval++arr.toList):=J2 (zw aK (λ_=>rfl) _ _ (sg kc)) aj;rw[<-ad]at wm;obtain⟨ev,l2⟩:=J3 wm;have fl:∀d∈xs.map (bp s)++caps,d.plain=true:=by
     intro d ag;rcases mem_append.1 ag with ag|ag
     .obtain⟨x,ar,rfl⟩:=mem_map.1 ag;exact Iw s x λav e=>by
       subst e;have hm:=sg kc;have:some (bg.c av)∈xs.map some:=mem_map.2 ⟨_,ar,rfl⟩;rw[<-hm]at this;obtain⟨o,_,bx⟩:=mem_map.1 this;cases o with
       |const v=>simp only[dj,Option.map_eq_some_iff]at bx;obtain⟨c,aj,e⟩:=bx;cases e;exact CP aj
       |tmp n=>simp[dj]at bx
       |func g=>simp[dj]at bx
       |global g=>simp[dj]at bx
     .obtain⟨k,aw⟩:=getElem?_of_mem ag;exact y_ iq aw
    have tK:=J0 (C:=C) aK (ps:=ps) (vs:=l6.toList.map a.eval++arr.toList) (f:=g) (r:=r) (by simpa using ev)
     (λi p v au aH=>⟨fl p.a (by rw[<-ad];exact mem_map.2 ⟨p,mem_of_getElem? au,rfl⟩),l2 i p.a v (by simp[au]) aH⟩) aA aZ
     (λFc kd dL bc ji au=>by
      refine bA w Fc kd dL _ (by rw[<-ev];simp) ?_ au;obtain⟨b,Ae,fr,aN,aR,aS⟩:=Tq;refine⟨b,Ae,fr,?_,?_,bc b aS,λar=>by obtain⟨u,hu⟩:=ji b ar;exact aK.e8 u b hu aS⟩
      .rw[getD_eq_getElem?_getD,getElem?_append_right (by omega),hlen,Nat.add_sub_cancel_left,<-getD_eq_getElem?_getD];exact aN
      .rw[aR,<-hlen,drop_left])
     cH cI
    rcases tK with⟨cY,ba⟩|⟨v,aB,cY,bF,aL,ba,cG⟩
    .rw[cY,Oper.upon_enter];refine Calls.mono ba ?_;rintro e aB ⟨v,rfl,bF,aL,b1,cb⟩;exact aP _ _ _ gn (Rel.put ke dP ir b1 cb.1 ag)
    .rw[cY,Oper.upon_value];exact aP _ _ _ gn (Rel.put ke dP ir ba cG.1 ag)
   .cases cg
  .split at cg
   .simp only[Option.map_eq_some_iff]at cg;obtain⟨_,_,cg⟩:=cg;cases cg
   .cases cg
  .split at cg
   .simp only[Option.map_eq_some_iff]at cg;obtain⟨_,_,cg⟩:=cg;cases cg
   .cases cg
  iterate 3
   .split at cg
    .split at cg<;>cases cg
    .cases cg
  .cases cg
 |makeFunc fn first cs=>
  cases fn<;>simp only[cM]at cg<;>first|(cases cg;done)|(split at cg<;>simp at cg)
 |slice T x eS ak gF=>
  cases gF<;>simp only[cM]at cg<;>first|(cases cg;done)|(split at cg<;>simp at cg)
 |makeMap T r=>cases r<;>simp only[cM]at cg<;>simp at cg
 |lookup T x i c=>cases c<;>simp only[cM]at cg<;>first|(cases cg;done)|(split at cg<;>simp at cg)
 |_=>simp only[cM]at cg<;>first|(cases cg;done)|(simp at cg;done)|(split at cg<;>simp at cg)
theorem Tr {op:Op} {T:TypeId} {x:bg} (h:cM op=some (.eR T x)):∃y,op= .load T y/\dj y=some x:=by
 cases op with
 |load Ly y=>
  simp only[cM,Option.map_eq_some_iff]at h;obtain⟨eg,ar,h⟩:=h;cases h;exact⟨y,rfl,ar⟩
 |call c=>
  obtain⟨callee,l6,argTypes⟩:=c;simp only[cM]at h;split at h<;>(try split at h)<;>(try split at h)<;>(try simp[Option.map_eq_some_iff]at h)
 |makeFunc fn first cs=>
  cases fn<;>simp only[cM]at h<;>first|(cases h;done)|(split at h<;>simp at h)
 |slice T x eS ak gF=>
  cases gF<;>simp only[cM]at h<;>first|(cases h;done)|(split at h<;>simp at h)
 |makeMap T r=>cases r<;>simp only[cM]at h<;>simp at h
 |lookup T x i c=>cases c<;>simp only[cM]at h<;>first|(cases h;done)|(split at h<;>simp at h)
 |_=>simp only[cM]at h<;>first|(cases h;done)|(simp at h;done)|(split at h<;>simp at h)
theorem Af {y:Operand} {k:Nat} (h:dj y=some (.t k)):y= .tmp k:=by
 cases y with
 |tmp t=>simp only[dj,Option.some.injEq,bg.t.injEq]at h;rw[h]
 |const v=>simp only[dj,Option.map_eq_some_iff]at h;obtain⟨c,_,h⟩:=h;cases h
 |func g=>simp[dj]at h
 |global g=>simp[dj]at h
def pd (k:Nat) (s:ax) (j:Nat):I:=if j=k then .ref .hole else pR j (s j)
theorem Ts {aC:Nat->Value} {b k:Nat} {v:Value} {ty:TypeId} {fr:Nat×Nat} (aK:bs w0 F0 X F S s aC w) (aw:aC k= .pointer (some ⟨b,0,none⟩)) (R:F b) (aj:w.heap[b]? =some (.cells #[v] ty fr)) (ab:Value.fw v=true):
  ∀cs:aiA,ee w F s aC (cs.map (pd k s)) (cs.map aC)/\I.fY (cs.map (pd k s))=true:=by
 intro cs;induction cs with
 |nil=>exact⟨by rw[map_nil,map_nil,ee],rfl⟩
 |cons j cs ih=>
  simp only[map_cons];have bd:aG w F s aC (pd k s j) (aC j) (λ_=>False)/\(pd k s j).plain=true:=by
   unfold pd;split
   .rename_i e;subst e;rw[aw];refine⟨(aG.ca rfl).2 ⟨rfl,?_⟩,rfl⟩;rw[aq];refine⟨b,0,[v],rfl,R,?_,?_⟩
    .intro i c ak;cases i with
     |zero=>simp at ak;subst ak;simp[World.cell?,aj]
     |succ i=>simp at ak
    .rw[aq];exact⟨v,ab,rfl⟩
   .unfold pR;split
    .rename_i au;exact⟨aG.nothing au (aK.df j),au⟩
    .rename_i au;refine⟨?_,rfl⟩;rw[aG];intro d ag au;simp only[I.sub,Option.some.injEq]at ag;subst ag;have aY:(s j).tree=true:=by
      cases U:s j<;>first|rfl|(rw[U]at au;simp[I.plain]at au)
     exact⟨_,none,rfl,rfl,((aG.ca aY).1 (aK.df j)).1⟩
  refine⟨?_,?_⟩
  .rw[ee];exact⟨_,_,rfl,bd.1,ih.1⟩
  .simp only[I.fY,bd.2,ih.2,Bool.and_self]
theorem Lz (bh:C.Ok) {id:Nat} {ops:Array Oper} {T:TypeId} {k k0 d0:Nat} {m rest:List bZ} {args:List bg} {d1:Option Nat} {g:FuncId} {cs:aiA} {b:Nat} {ty:TypeId} {fr:Nat×Nat} {K:ax->Prop}
  (q7:o5 n ops ops.toList=some ((⟨some d0,.eR T (.t k),none⟩::(m++⟨d1,.call (.t d0) args,none⟩::rest):List bZ).map bZ.un))
  (h_:(C.T T).flat=true) (hm:∀r∈m,∀d,r.dst=some d->d≠d0/\d∉cs) (kx:d0∉cs) (t_:cs[k0]? =some k)
  (ke:a.defers=[]) (dP:a.tmps.size=n.n) (ir:∀i∈n.fx,a.tmps.getD i undef=ρ i) (aK:bs w0 F0 X F S s (λt=>a.tmps.getD t undef) w)
  (R:F b) (aw:a.tmps.getD k undef= .pointer (some ⟨b,0,none⟩)) (nM:w.heap[b]? =some (.cells #[.func (.func g) #[] (cs.map λj=>a.tmps.getD j undef).toArray] ty fr))
  (h:kV C (fin s (some d0) .hole) m λs1=>∃ps r,ps.map (·.a)=args.map (bp s1)++cs.map (pd k s1)/\(∀p∈ps,p.ok s1)/\h2 ps=true/\
   lK C g args.length (args.length+k0) (ps.map (·.d)) r (ps.map (·.o))/\r.res=true/\(jV ps=true->r.cu=true/\∀p∈ps,p.o.cu=true)/\kV C (fin (hE (eT s1 ps) ps) d1 r) rest K)
  (aP:∀aD cA aB,K aD->Rel w0 F0 X n ρ aD cA aB->Q .normal cA aB):(Code.region id ops false).wp C.P Q a w:=by
 obtain⟨aO,mx⟩:=wo q7;have Ej:∀(i:Nat) (r:bZ),(⟨some d0,.eR T (.t k),none⟩::(m++⟨d1,.call (.t d0) args,none⟩::rest):List bZ)[i]? =some r->∃o,ops[i]? =some o/\o4 n ops o=some r.un:=by
  intro i r ak;have c9:i<ops.toList.length:=by
   rw[aO,length_map];exact(List.getElem?_eq_some_iff.1 ak).1
  obtain⟨jy,ab,ad⟩:=mx i _ (getElem?_eq_getElem c9);rw[getElem?_map,ak]at ab;simp only[Option.map_some,Option.some.injEq]at ab;exact⟨_,by rw[<-Array.getElem?_toList];exact getElem?_eq_getElem c9,by rw[ab];exact ad⟩
 have ua:∀{r:bZ} {o:Oper},r.guard=none->o4 n ops o=some r.un->r.dst=o.dst/\o.guard=none/\nZ o.op=r.bC.base/\kU n o.dst=true:=by
  intro r o bB h;unfold o4 at h;split at h
  .rename_i ag;split at h
   .rename_i Tt hg;simp only[bZ.un,Option.some.injEq,bZ.mk.injEq]at h;obtain⟨aN,aR,aS⟩:=h;refine⟨aN.symm,?_,aR,ag⟩;rw[aS,bB]at hg;cases bx:o.guard with
    |none=>rfl
    |some DK=>
     rw[bx]at hg;simp only[wh]at hg;split at hg<;>cases hg
   .cases h
  .cases h
 have Tu:ops.size=m.length+rest.length+2:=by
  have:ops.toList.length=ops.size:=by simp
  rw[<-this,aO];simp;omega
 have Tv:range ops.size=0::((range m.length).map (·+1)++((m.length+1)::(range rest.length).map (·+(m.length+2)))):=by
  rw[Tu,show m.length+rest.length+2=(m.length+rest.length+1)+1 from rfl,range_succ_eq_map];congr 1;rw[show m.length+rest.length+1=m.length+(rest.length+1) by omega,range_add,map_append,range_succ_eq_map];simp only[List.map_map,map_cons,Nat.add_zero];congr 1;congr 1;apply map_congr_left;intro x _;simp;omega
 obtain⟨ri,Tw,jn⟩:=Ej 0 _ rfl;obtain⟨hd,gz,il,im⟩:=ua rfl jn;change nZ ri.op= .eR T (.t k)at il;have n9:cM ri.op=some (.eR T (.t k)):=by
  rcases q6 il with h|h
  .cases h
  .exact h
 obtain⟨y,a8,Tx⟩:=Tr n9;have:=Af Tx;subst this;let hJ:Value:=.func (.func g) #[] (cs.map λj=>a.tmps.getD j undef).toArray
 have jw:Rd w b 0 [hJ]:=by
  intro i c ak;cases i with
  |zero=>simp at ak;subst ak;simp[World.cell?,nM,hJ]
  |succ i=>simp at ak
 refine wp_region ?_;rw[Tv];simp only[wpOps,Tw];show(if Region.wanted ri (yielded ops a.tmps)=true then ri.wp C.P a w _ Q\/(ri.asks C.P a w/\LetsOut Q)else _);rw[if_pos (zG gz)];left;have wk:(execOp a.eval ri).run C.P w= .ok (.value hJ) w:=by
  obtain⟨dst,op,ty,pos,after,guard⟩:=ri;simp only at a8;subst a8;have:a.eval (.tmp k)= .pointer (some ⟨b,0,none⟩):=aw;simp[execOp,this,Instr.loadAt,Instr.sureAddr,IC bh h_ jw]
 unfold Oper.wp;rw[wk,Oper.upon_value];have Ek:some d0=ri.dst:=hd;rw[<-Ek]at im⊢;let J:Act:=a.put (some d0) hJ
 let nu:Fr:=⟨n.n,d0::k::(cs++n.fx)⟩
 let ρ1:Nat->Value:=λt=>J.tmps.getD t undef
 have wS:k∈cs:=mem_of_getElem? t_;have oZ:=aK.base;have El:Rel w F (λb=>∃u,S u b) ⟨n.n,[]⟩ ρ1 (fin s (some d0) .hole) J w:=
  Rel.put (n:=⟨n.n,[]⟩) ke dP (λi ak=>by cases ak) oZ (.inl ⟨rfl,by rw[aG];trivial⟩) (by
   simp only[kU,Bool.and_eq_true,decide_eq_true_eq]at im⊢;exact⟨im.1,by simp⟩)
 have Ty:Rel w F (λb=>∃u,S u b) nu ρ1 (fin s (some d0) .hole) J w:=⟨El.defers,El.size,λi _=>rfl,El.rel⟩
 have LA:∀t,t≠d0->ρ1 t=a.tmps.getD t undef:=by
  intro t aY;have:=congrFun (wi (n:=n) (dst:=some d0) (a:=a) hJ dP im).1 t;simp only[mn]at this;rw[iZ _ _ aY]at this;exact this
 have Tz:ρ1 d0=hJ:=by
  have:=congrFun (wi (n:=n) (dst:=some d0) (a:=a) hJ dP im).1 d0;simp only[mn]at this;rw[ly]at this;exact this
 have hw:=Lx C _ m [⟨some d0,.eR T (.t k),none⟩] (⟨d1,.call (.t d0) args,none⟩::rest) _ h;have mid:∀aD cA aB,(∃ps r,ps.map (·.a)=args.map (bp aD)++cs.map (pd k aD)/\(∀p∈ps,p.ok aD)/\h2 ps=true/\
   lK C g args.length (args.length+k0) (ps.map (·.d)) r (ps.map (·.o))/\r.res=true/\(jV ps=true->r.cu=true/\∀p∈ps,p.o.cu=true)/\kV C (fin (hE (eT aD ps) ps) d1 r) rest K)->
   Rel w F (λb=>∃u,S u b) nu ρ1 aD cA aB->wpOps C.P ops Q ((m.length+1)::(range rest.length).map (·+(m.length+2))) cA aB:=by
  rintro s2 a2 fJ ⟨ps,r,aN,aR,aS,b0,cd,bQ,bH⟩ ⟨g1,g2,g3,lF,c3,g4⟩;obtain⟨ub,TA,mS⟩:=Ej (m.length+1) ⟨d1,.call (.t d0) args,none⟩ (by simp);obtain⟨fO,ha,h8,IQ⟩:=ua rfl mS;simp only[wpOps,TA];show(if Region.wanted ub (yielded ops a2.tmps)=true then ub.wp C.P a2 fJ _ Q\/(ub.asks C.P a2 fJ/\LetsOut Q)else _);rw[if_pos (zG ha)];left;change nZ ub.op= .call (.t d0) args at h8;have TB:cM ub.op=some (.call (.t d0) args):=by
   rcases q6 h8 with h|h
   .cases h
   .exact h
  have LB:lF b:=g4.gx b R;have LC:fJ.heap[b]? =some (.cells #[hJ] ty fr):=by
   rw[g4.old b (aK.eH b R) (λ⟨u,hu⟩=>aK.e8 u b hu R)];exact nM
  have LD:∀j∈cs,a2.tmps.getD j undef=a.tmps.getD j undef:=by
   intro j bd;rw[g3 j (by simp[nu,bd])];exact LA j (λe=>kx (e▸bd))
  have nK:a2.tmps.getD k undef= .pointer (some ⟨b,0,none⟩):=(LD k wS).trans aw;have LF:(cs.map λj=>a.tmps.getD j undef)=cs.map λj=>a2.tmps.getD j undef:=map_congr_left λj bd=>(LD j bd).symm;obtain⟨c1,c2⟩:=Ts (k:=k) g4 nK LB LC rfl cs;have Dd:∀aD cA aB,kV C aD rest K->Rel w F (λb=>∃u,S u b) ⟨n.n,n.fx⟩ ρ aD cA aB->wpOps C.P ops Q ((range rest.length).map (·+(m.length+2))) cA aB:=by
   intro q3 a3 kA aA Ag;have zR:=Lx C K rest ((⟨some d0,.eR T (.t k),none⟩::m)++[⟨d1,.call (.t d0) args,none⟩]) [] q3 aA;have:=DJ (Q:=Q) bh (ops:=ops) (ros:=((⟨some d0,.eR T (.t k),none⟩::m)++[⟨d1,.call (.t d0) args,none⟩])++(rest++[])) (l2:=[]) (K:=K) (λaD cA aB jm ef=>by
     obtain⟨wT,z2,z3,TC,nc,z4⟩:=ef;exact aP aD cA aB jm ⟨wT,z2,z3,TC,nc,aK.To z4⟩) ((range rest.length).map (·+(m.length+2))) (λi ak=>by
      have wy:((⟨some d0,.eR T (.t k),none⟩::m)++[⟨d1,.call (.t d0) args,none⟩])++(rest++[])=(⟨some d0,.eR T (.t k),none⟩::(m++⟨d1,.call (.t d0) args,none⟩::rest):List bZ):=by simp
      rw[wy];refine⟨λk6=>?_,λo bx=>?_⟩
      .rw[List.getElem?_eq_none_iff];have:=Array.getElem?_eq_none_iff.1 k6;simp;omega
      .obtain⟨ai,ig,ad⟩:=mx i o (by simpa using bx);obtain⟨r,ab,rfl⟩:∃r,(⟨some d0,.eR T (.t k),none⟩::(m++⟨d1,.call (.t d0) args,none⟩::rest):List bZ)[i]? =some r/\r.un=ai:=by
        rw[getElem?_map,Option.map_eq_some_iff]at ig;exact ig
       exact⟨r,ab,ad⟩) q3 a3 kA (by
      have e:((⟨some d0,.eR T (.t k),none⟩::m)++[⟨d1,.call (.t d0) args,none⟩]:List bZ).length=m.length+2:=by simp
      rw[e]at zR;exact zR) Ag
   rwa [append_nil]at this
  have TD:∀i∈n.fx,a2.tmps.getD i undef=ρ i:=by
   intro i ak;rw[g3 i (by simp[nu,ak]),LA i (λe=>?_)]
   .exact ir i ak
   .simp only[kU,Bool.and_eq_true,Bool.not_eq_true',contains_eq_mem,decide_eq_false_iff_not]at im;exact im.2 (e▸ak)
  have Ad:k0<cs.length:=(List.getElem?_eq_some_iff.1 t_).1;have TE:ub.dst=d1:=fO.symm;exact Tp (n:=n) (ρ:=ρ) (K:=λaD=>kV C aD rest K) g1 g2 TD g4 TB IQ
   (arr:=(cs.map λj=>a2.tmps.getD j undef).toArray) (k:=k0) (caps:=cs.map (pd k s2)) (g:=g) (ps:=ps) (r:=r)
   (by rw[g3 d0 (by simp[nu]),Tz];simp only[hJ,LF]) (by simpa using c1) c2
   ⟨b,ty,fr,by
     rw[getD_eq_getElem?_getD,getElem?_map,t_];exact nK,by rw[LC];simp only[hJ,LF],LB⟩ (by simpa using Ad)
   aN aR aS b0 cd bQ (by rw[TE];exact bH) Dd
 have:=DJ (Q:=Q) bh (ops:=ops) (ros:=[⟨some d0,.eR T (.t k),none⟩]++(m++⟨d1,.call (.t d0) args,none⟩::rest)) (l2:=(m.length+1)::(range rest.length).map (·+(m.length+2))) mid
  ((range m.length).map (·+1)) (λi ak=>by
    obtain⟨j,bd,rfl⟩:=mem_map.1 ak;have wU:j<m.length:=mem_range.1 bd;refine⟨λk6=>?_,λo bx=>?_⟩
    .have:=Array.getElem?_eq_none_iff.1 k6;omega
    .obtain⟨lE,wB,eJ⟩:=Ej (j+1) m[j] (by
      simp only[getElem?_cons_succ];rw[getElem?_append_left wU,getElem?_eq_getElem wU])
     have heq:lE=o:=by rw[wB]at bx;exact Option.some.inj bx
     subst heq;refine⟨m[j],by
      simp only[singleton_append,getElem?_cons_succ];rw[getElem?_append_left wU,getElem?_eq_getElem wU],?_⟩
     have TF:=hm m[j] (getElem_mem wU);unfold o4 at eJ⊢;split at eJ
     .rename_i ag;rw[if_pos]
      .exact eJ
      .cases LG:lE.dst with
       |none=>rfl
       |some d=>
        rw[LG]at ag;simp only[kU,Bool.and_eq_true,decide_eq_true_eq,Bool.not_eq_true',contains_eq_mem,decide_eq_false_iff_not]at ag⊢;refine⟨ag.1,?_⟩;have zH:m[j].dst=some d:=by
         split at eJ
         .simp only[bZ.un,Option.some.injEq,bZ.mk.injEq]at eJ;rw[<-eJ.1,LG]
         .cases eJ
        obtain⟨m1,m2⟩:=TF d zH;simp only[nu,mem_cons,mem_append,not_or];exact⟨m1,λe=>m2 (e▸wS),m2,ag.2⟩
     .cases eJ) (fin s (some d0) .hole) J w (by simpa using hw) Ty
 exact this
def LH (C:bY) (f:FuncId) (k k0:Nat) (cs:aiA) (args:List bg) (d1:Option Nat) (rest:List bZ) (keep:aiA) (P:aiE->Prop) (s1:ax):Prop:=
 ∃ps r,ps.map (·.a)=args.map (bp s1)++cs.map (pd k s1)/\(∀p∈ps,p.ok s1)/\h2 ps=true/\
  lK C f args.length (args.length+k0) (ps.map (·.d)) r (ps.map (·.o))/\r.res=true/\(jV ps=true->r.cu=true/\∀p∈ps,p.o.cu=true)/\
  dt C (fin (hE (eT s1 ps) ps) d1 r) rest none (λ_ s=>P (gu keep s))
def n_ (C:bY) (f:FuncId) (k k0 d0:Nat) (cs:aiA) (m:List bZ) (args:List bg) (d1:Option Nat) (rest:List bZ) (keep:aiA) (P:aiE->Prop) (s:ax):Prop:=
 dt C (fin s (some d0) .hole) m none λ_ s1=>LH C f k k0 cs args d1 rest keep P s1
def LI (C:bY) (f:FuncId) (k k0 d0:Nat) (cs:aiA) (m:List bZ) (args:List bg) (d1:Option Nat) (rest:List bZ) (keep:aiA) (K:ax->Prop) (s:ax):Prop:=
 n_ C f k k0 d0 cs m args d1 rest keep (λl=>K (az l)) s
def Em (f:Nat->Bool) (m:List bZ):Bool:=m.all λr=>match r.dst with
 |none=>true
 |some d=>f d
theorem LJ {f:Nat->Bool} {m:List bZ} (h:Em f m=true):∀r∈m,∀d,r.dst=some d->f d=true:=by
 intro r aK d ag;have:=List.all_eq_true.1 h r aK;rw[ag]at this;exact this
theorem LK (k:aiA) (s:ax):tN s (gu k s):=by
 intro p au;obtain⟨t,_,rfl⟩:=mem_map.1 au;exact .inl rfl
def En (C:bY) (f:FuncId) (k k0 d0:Nat) (cs:aiA) (m:List bZ) (args:List bg) (d1:Option Nat) (rest:List bZ) (keep:aiA):(Exit->ax->Prop)->ax->Prop:=
 λQ s=>LI C f k k0 d0 cs m args d1 rest keep (Q .normal) s
def LL (T:TypeId) (k d0:Nat) (m:List bZ) (args:List bg) (d1:Option Nat) (rest:List bZ):aI:=
 .fB (⟨some d0,.eR T (.t k),none⟩::(m++⟨d1,.call (.t d0) args,none⟩::rest)) none
theorem TG (vs:aiD):∀(m n:Nat),m+n=vs.length->vs.drop m=((range n).map (·+m)).map λj=>vs.getD j undef:=by
 intro m n h;apply ext_getElem?;intro i;rw[getElem?_drop,List.map_map,getElem?_map];by_cases ak:i<n
 .rw[getElem?_range ak,getElem?_eq_getElem (by omega)];simp only[Option.map_some,Function.comp];rw[getD_eq_getElem?_getD,getElem?_eq_getElem (by omega)];simp only[Option.getD_some,Option.some.injEq];congr 1;omega
 .rw[getElem?_eq_none (by omega),getElem?_eq_none (by simp;omega)];rfl
theorem Ah {c:Code} {rs:List bZ} (h:eB n c=some (.fB rs none)):∃id ops,c= .region id ops false/\o5 n ops ops.toList=some rs:=by
 cases c with
 |region id ops draw=>
  cases draw with
  |false=>
   simp only[eB]at h;split at h
   .rename_i r ab;cases h;exact⟨id,ops,rfl,ab⟩
   .cases h
  |true=>
   simp only[eB]at h;split at h
   .simp only[Option.map_eq_some_iff]at h;obtain⟨r,ab,ad⟩:=h;cases ad
   .cases h
 |seq a b=>simp only[eB]at h;split at h<;>cases h
 |cond c a b=>simp only[eB]at h;split at h<;>cases h
 |block id b=>simp only[eB,Option.map_eq_some_iff]at h;obtain⟨r,ab,ad⟩:=h;cases ad
 |loop b=>simp only[eB,Option.map_eq_some_iff]at h;obtain⟨r,ab,ad⟩:=h;cases ad
 |_=>simp[eB]at h
def Ai (C:bY) (f:FuncId) (fx:aiA) (TH m k:Nat) (T:(Exit->ax->Prop)->ax->Prop) (b:aI):Prop:=
 ∃(ty:TypeId) (k0 d0 mz:Nat) (hB:List bZ) (args:List bg) (d1:Option Nat) (rest:List bZ) (keep:aiA),
  T=En C f k k0 d0 ((range mz).map (·+m)) hB args d1 rest keep/\b=LL ty k d0 hB args d1 rest/\(C.T ty).flat=true/\Em (λd=>d !=d0&&decide (m+mz<=d)) hB=true/\decide (m+mz<=d0)=true/\
  decide (k0<mz)=true/\k=m+k0/\((range mz).all λj=>fx.contains (m+j))=true/\args.length=m/\m+mz=TH
theorem lK.of_wp (bh:C.Ok) {f:FuncId} {fn:Func} {c:Code} {cW:aI} {fx:aiA} {as outs:aiF} {r:I} {k m:Nat} (bn:C.P.funcs[f]? =some fn) (R:fn.body=some c)
  (kg:(fn.name== "runtime.NumGoroutine")=false) (U:eB ⟨fn.ntmps,fx⟩ c=some cW.strip) (aP:as.length<=fn.ntmps)
  (aw:cW.l7 (Ai C f fx as.length m k))
  (h:∀Q:Exit->ax->Prop,(∀s,dm (Ends C fx fn.results.toList r outs) s->Q .ret s)->(∀s,dm (Ends C fx fn.results.toList r outs) s->Q .normal s)->a1 C cW Q (az (num 0 as))):lK C f m k as r outs:=by
 rintro w F X S vs aO ⟨b,TI,fr,aN,aR,aS,b0⟩ aK;refine DV (fx:=fx) bh bn R kg aP aO aK λa hrel dX=>?_;refine DS bh (H:=Ai C f fx as.length m k) ?_ c (by rw[aI.DO];exact U) (aI.zM cW aw) (zN cW ?_) hrel
 .rintro c T fk Q s J fQ ⟨ty,k0,d0,mz,hB,args,d1,rest,keep,rfl,rfl,h_,hm,kx,Aj,aw,ir,hlen,agN⟩ n9 TJ ⟨g1,g2,g3,sl,bM,g4⟩;replace hm:∀r∈hB,∀d,r.dst=some d->d≠d0/\m+mz<=d:=λr aK d ag=>by
   have:=LJ hm r aK d ag;simpa using this
  replace kx:=of_decide_eq_true kx;replace Aj:=of_decide_eq_true Aj;replace ir:∀j,j<mz->m+j∈fx:=λj bd=>by
   have:=List.all_eq_true.1 ir j (mem_range.2 bd);simpa using this
  obtain⟨id,ops,rfl,q7⟩:=Ah n9;have LM:∀j,j<mz->J.tmps.getD (j+m) undef=vs.getD (j+m) undef:=λj bd=>by
   rw[Nat.add_comm];exact g3 _ (ir j bd)
  have gb:((range mz).map (·+m)).map (λj=>J.tmps.getD j undef)=vs.drop m:=by
   rw[TG vs m mz (by omega),List.map_map,List.map_map];apply map_congr_left;intro j bd;exact LM j (mem_range.1 bd)
  refine Lz (Q:=p5 w F X ⟨fn.ntmps,fx⟩ (fI vs) Q) (K:=dm (Q .normal)) (b:=b) (ty:=TI) (fr:=fr) (g:=f) (k0:=k0) (cs:=(range mz).map (·+m)) bh q7 h_ (λr aK d ag=>⟨(hm r aK d ag).1,λpe=>?_⟩) (λpe=>?_) ?_ g1 g2 g3 g4 (g4.gx b aS) ?_ ?_ ?_ (λaD cA aB aw ef=>ef.dm aw)
  .obtain⟨j,bd,rfl⟩:=mem_map.1 pe;have:=(hm r aK _ ag).2;have:=mem_range.1 bd;omega
  .obtain⟨j,bd,e⟩:=mem_map.1 pe;have:=mem_range.1 bd;omega
  .rw[getElem?_map,getElem?_range Aj,aw];simp[Nat.add_comm]
  .rw[aw,Nat.add_comm,LM k0 Aj,Nat.add_comm,<-aw];exact aN
  .rw[gb,g4.old b (aK.eH b aS) b0];exact aR
  .refine sr (λ_ s1=>?_) TJ;rintro⟨ps,r,hd,gz,il,im,qU,DI,TK⟩;exact⟨ps,r,hd,gz,il,im,qU,DI,sr (λ_ s h=>.inr ⟨_,LK _ _,h⟩) TK⟩
 .rw[DZ];exact h _ (λs h=>⟨.inr rfl,h⟩) (λs h=>⟨.inl rfl,h⟩)
theorem TL {Q:Exit->ax->Prop} {l:aiE} {f:FuncId} {k k0 d0:Nat} {cs:aiA} {m:List bZ} {args:List bg} {d1:Option Nat} {rest:List bZ} {keep:aiA} {b:aI} (b3:aiE)
  (h:∀P:aiE->Prop,P b3->n_ C f k k0 d0 cs m args d1 rest keep P (az l)) (aw:Q .normal (az b3)):a1 C (.ib (En C f k k0 d0 cs m args d1 rest keep) b) Q (az l):=
 λdT Eo=>h (λl=>dT .normal (az l)) (Eo _ _ aw)
theorem LN {l:aiE} {f:FuncId} {k k0:Nat} {cs:aiA} {args:List bg} {d1:Option Nat} {rest:List bZ} {keep:aiA} {P:aiE->Prop} {r:I} (ps:List cf)
  (bA:lK C f args.length (args.length+k0) (ps.map (·.d)) r (ps.map (·.o))) (ad:ps.map (·.a)=jF (az l) args++cs.map (pd k (az l))) (aA:rf (az l) ps) (aZ:h2 ps=true)
  (cH:r.res=true) (cI:jV ps=false\/(r.cu&&sD ps)=true)
  (hK:dt C (fin (hE (eT (az l) ps) ps) d1 r) rest none (λ_ s=>P (gu keep s))):LH C f k k0 cs args d1 rest keep P (az l):=by
 refine⟨ps,r,by rw[ad,wE],Eh aA,aZ,bA,cH,?_,hK⟩;intro aO;rcases cI with cI|cI
 .rw[cI]at aO;cases aO
 .rw[Bool.and_eq_true]at cI;exact⟨cI.1,Ei cI.2⟩
end
end Go.cU
