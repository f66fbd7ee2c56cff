/- Part of a proof that a law returns true for every input. No condition. -/
import Derived.Test.YtngohoaiimbacabGreatDoorFwI
namespace Go.c_
open List Go.IntKind Nat Or
def mf (C:bW) (f:FuncId) (m k:Nat) (as:ahB) (r:I) (outs:ahB):Prop:=
 ∀(w:World) (F X:Nat->Prop) (S:Nat->Nat->Prop) (vs:ahz),vs.length=as.length->
  (∃b ty fr,vs.getD k undef= .pointer (some ⟨b,0,none⟩)/\w.heap[b]? =some (.cells #[.func (.func f) #[] (vs.drop m).toArray] ty fr)/\F b/\¬X b)->
  bx w F X F S (eU as) (gj vs) w->
  mz C.P f vs.toArray w λv aD=>∃bE aN,bx w F X bE aN (eU (r::outs)) (gj (v::vs)) aD
section
variable {C:bW} {w0 w:World} {F0 X F bE:Nat->Prop} {S aN:Nat->Nat->Prop} {n:Fr} {ρ:Nat->Value} {s aA:aw} {ay j9:Nat->Value} {a:Act} {av:I} {Q:Exit->Act->World->Prop} {aD:World}
theorem bx.base (h:bx w0 F0 X F S s ay w):bx w F (λb=>∃u,S u b) F S s ay w where
 gq:=λ_ h=>h
 gK:=λ_ h=>.inl h
 eK:=h.eK
 et:=h.et
 fg:=h.fg
 eT:=h.eT
 dy:=λu b R=>.inl ⟨u,R⟩
 cW:=h.cW
 old:=λ_ _ _=>rfl
 size:=Nat.le_refl _
 os:=rfl
 tape:=rfl
 output:=Out.refl _
 fW:=h.fW.next h.size h.old λb ⟨u,hu⟩=>h.dy u b hu
theorem bx.Uc (h:bx w0 F0 X F S s ay w) (bc:bx w F (λb=>∃u,S u b) bE aN aA j9 aD):bx w0 F0 X bE aN aA j9 aD where
 gq:=λb R=>bc.gq b (h.gq b R)
 gK:=λb R=>by
  rcases bc.gK b R with R|⟨u,R⟩|R
  .exact h.gK b R
  .exact .inr (h.dy u b R)
  .exact .inr (.inr (Nat.le_trans h.size R))
 eK:=bc.eK
 et:=bc.et
 fg:=bc.fg
 eT:=bc.eT
 dy:=λu b R=>by
  rcases bc.dy u b R with⟨u,R⟩|R
  .exact h.dy u b R
  .exact .inr (Nat.le_trans h.size R)
 cW:=bc.cW
 old:=λb R j_=>by
  refine(bc.old b (Nat.lt_of_lt_of_le R h.size) λ⟨u,hu⟩=>?_).trans (h.old b R j_);rcases h.dy u b hu with ar|ar
  .exact j_ ar
  .omega
 size:=Nat.le_trans h.size bc.size
 os:=bc.os.trans h.os
 tape:=bc.tape.trans h.tape
 output:=bc.output.trans h.output
 fW:=h.fW
inductive qs:ahB->ahB->Prop
 |nil:qs [] []
 |eq {a:I} {as kQ:ahB}:a.U=[]->qs as kQ->qs (a::as) (a::kQ)
 |wd {a b:I} {as kQ:ahB}:eP a b->a.tree=true->b.U=[]->qs as kQ->qs (a::as) (b::kQ)
theorem qs.get:∀{as kQ:ahB},qs as kQ->∀p k,p∈num k kQ->p.2.U=[]/\∃a,as[p.1-k]? =some a/\k<=p.1/\(p.2=a\/(a.tree=true/\eP a p.2))
 |_,_,.nil,p,k,an=>by simp[num]at an
 |_,_,.eq (a:=a) h hw,p,k,an=>by
  simp only[num,mem_cons]at an;rcases an with rfl|an
  .exact⟨h,a,by simp,Nat.le_refl _,.inl rfl⟩
  .obtain⟨ab,x,ad,aC,aW⟩:=hw.get p (k+1) an;refine⟨ab,x,?_,by omega,aW⟩;rw[show p.1-k=(p.1-(k+1))+1 by omega,getElem?_cons_succ];exact ad
 |_,_,.wd (a:=a) h aY R hw,p,k,an=>by
  simp only[num,mem_cons]at an;rcases an with rfl|an
  .exact⟨R,a,by simp,Nat.le_refl _,.inr ⟨aY,h⟩⟩
  .obtain⟨ab,x,ad,aC,aW⟩:=hw.get p (k+1) an;refine⟨ab,x,?_,by omega,aW⟩;rw[show p.1-k=(p.1-(k+1))+1 by omega,getElem?_cons_succ];exact ad
theorem qs.len:∀{as kQ:ahB},qs as kQ->kQ.length=as.length
 |_,_,.nil=>rfl
 |_,_,.eq _ hw=>by simp[hw.len]
 |_,_,.wd _ _ _ hw=>by simp[hw.len]
theorem Mn (C:bW) (K:aw->Prop):∀(rs pre post:List b7) (s:aw),lp C s rs K->jT C (pre++(rs++post)) s ((range rs.length).map (·+pre.length)) K:=by
 intro rs;induction rs with
 |nil=>intro pre post s h;exact h
 |cons r rs ih=>
  intro pre post s h;rw[length_cons,range_succ_eq_map,map_cons,List.map_map];simp only[jT,Nat.zero_add];rw[getElem?_append_right (Nat.le_refl _)];simp only[Nat.sub_self,cons_append,getElem?_cons_zero];have key:∀s1,lp C s1 rs K->jT C (pre++r::(rs++post)) s1 ((range rs.length).map ((λx=>x+pre.length)∘succ)) K:=by
   intro s1 ab;have:=ih (pre++[r]) post s1 ab;simp only[append_assoc,singleton_append,length_append,length_singleton]at this;have e:((λx=>x+pre.length)∘succ)=λx=>x+(pre.length+1):=by funext x;simp;omega
   rw[e];exact this
  simp only[lp]at h;exact Ek h key
theorem Ud (kB:a.defers=[]) (eJ:a.tmps.size=n.n) (iH:∀i∈n.fx,a.tmps.getD i undef=ρ i) (aH:bx w0 F0 X F S s (λt=>a.tmps.getD t undef) w)
  {o:Oper} {d0 k:Nat} {args:List bb} {g:FuncId} {caps:ahB} {arr:Array Value} {ps:List ct} {r:I} (cu:cK o.op=some (.call (.t d0) args)) (ae:ln n o.dst=true)
  (aI:a.tmps.getD d0 undef= .func (.func g) #[] arr) (ai:dP w F s (λt=>a.tmps.getD t undef) caps arr.toList) (gN:I.dU caps=true)
  (Ue:∃b ty fr,(arr.toList).getD k undef= .pointer (some ⟨b,0,none⟩)/\w.heap[b]? =some (.cells #[.func (.func g) #[] arr] ty fr)/\F b) (xu:k<arr.size)
  (ad:ps.map (·.a)=args.map (bj s)++caps) (aC:∀p∈ps,p.ok s) (aW:hP ps=true) (bu:mf C g args.length (args.length+k) (ps.map (·.d)) r (ps.map (·.o))) (cy:r.res=true)
  (cl:jG ps=true->r.cF=true/\∀p∈ps,p.o.cF=true) {K:aw->Prop} {next:Act->World->Prop} (fM:K (fin (g_ (eO s ps) ps) o.dst r))
  (aU:∀aA cB aD,K aA->Rel w0 F0 X n ρ aA cB aD->next cB aD):o.wp C.P a w next Q:=by
 obtain⟨dst,op,ty,pos,after,guard⟩:=o;simp only at cu ae fM;cases op with
 |call c=>
  obtain⟨callee,mB,argTypes⟩:=c;simp only[cK]at cu;split at cu
  .split at cu
   .rename_i w4 _ _ Sm xs bd pg;simp only[Option.some.injEq,dQ.call.injEq]at cu;obtain⟨rfl,rfl⟩:=cu;have wI:w4= .tmp d0:=by
     cases w4 with
     |tmp t=>simp only[dt,Option.some.injEq,bb.t.injEq]at bd;rw[bd]
     |const v=>simp only[dt,Option.map_eq_some_iff]at bd;obtain⟨c,_,bd⟩:=bd;cases bd
     |func g=>simp[dt]at bd
     |global g=>simp[dt]at bd
    subst wI;have w5:execOp a.eval {dst,op:=.call {callee:=.value (.tmp d0),args:=mB,argTypes},type:=ty,pos,after,guard}=callFunc g ((mB.toList.map a.eval++arr.toList).toArray):=by
     have:a.eval (.tmp d0)= .func (.func g) #[] arr:=aI;simp only[execOp,resolve,this,Deferred.ofValue,pure_bind,invoke];congr 1;apply Array.ext';simp
    unfold Oper.wp;rw[w5];have hlen:(mB.toList.map a.eval).length=xs.length:=by
     have:=congrArg length (sH pg);simpa using this
    have w6:dP w F s (λt=>a.tmps.getD t undef) (xs.map (bj s)++caps) (mB.toList.map a.eval++arr.toList):=Ky (zU aH (λ_=>rfl) _ _ (sH pg)) ai;rw[<-ad]at w6;obtain⟨gh,l2⟩:=Kz w6;have fy:∀d∈xs.map (bj s)++caps,d.plain=true:=by
     intro d ae;rcases mem_append.1 ae with ae|ae
     .obtain⟨x,ar,rfl⟩:=mem_map.1 ae;exact I9 s x λav e=>by
       subst e;have hm:=sH pg;have:some (bb.c av)∈xs.map some:=mem_map.2 ⟨_,ar,rfl⟩;rw[<-hm]at this;obtain⟨o,_,b1⟩:=mem_map.1 this;cases o with
       |const v=>simp only[dt,Option.map_eq_some_iff]at b1;obtain⟨c,ai,e⟩:=b1;cases e;exact Dh ai
       |tmp n=>simp[dt]at b1
       |func g=>simp[dt]at b1
       |global g=>simp[dt]at b1
     .obtain⟨k,aq⟩:=getElem?_of_mem ae;exact zr gN aq
    have Eb:=Kx (C:=C) aH (ps:=ps) (vs:=mB.toList.map a.eval++arr.toList) (f:=g) (r:=r) (by simpa using gh)
     (λi p v an aI=>⟨fy p.a (by rw[<-ad];exact mem_map.2 ⟨p,mem_of_getElem? an,rfl⟩),l2 i p.a v (by simp[an]) aI⟩) aC aW
     (λFc kA dW a8 j_ an=>by
      refine bu w Fc kA dW _ (by rw[<-gh];simp) ?_ an;obtain⟨b,Ay,fr,aP,aT,aR⟩:=Ue;refine⟨b,Ay,fr,?_,?_,a8 b aR,λar=>by obtain⟨u,hu⟩:=j_ b ar;exact aH.fg u b hu aR⟩
      .rw[getD_eq_getElem?_getD,getElem?_append_right (by omega),hlen,Nat.add_sub_cancel_left,<-getD_eq_getElem?_getD];exact aP
      .rw[aT,<-hlen,drop_left])
     cy cl
    rcases Eb with⟨dm,a7⟩|⟨v,aD,dm,bE,aN,a7,db⟩
    .rw[dm,Oper.upon_enter];refine Calls.mono a7 ?_;rintro e aD ⟨v,rfl,bE,aN,bN,cc⟩;exact aU _ _ _ fM (Rel.put kB eJ iH bN cc.1 ae)
    .rw[dm,Oper.upon_value];exact aU _ _ _ fM (Rel.put kB eJ iH a7 db.1 ae)
   .cases cu
  .split at cu
   .simp only[Option.map_eq_some_iff]at cu;obtain⟨_,_,cu⟩:=cu;cases cu
   .cases cu
  .split at cu
   .simp only[Option.map_eq_some_iff]at cu;obtain⟨_,_,cu⟩:=cu;cases cu
   .cases cu
  iterate 3
   .split at cu
    .split at cu<;>cases cu
    .cases cu
  .cases cu
 |makeFunc fn first cs=>
  cases fn<;>simp only[cK]at cu<;>first|(cases cu;done)|(split at cu<;>simp at cu)
 |slice T x eN ak eA=>
  cases eA<;>simp only[cK]at cu<;>first|(cases cu;done)|(split at cu<;>simp at cu)
 |makeMap T r=>cases r<;>simp only[cK]at cu<;>simp at cu
 |lookup T x i c=>cases c<;>simp only[cK]at cu<;>first|(cases cu;done)|(split at cu<;>simp at cu)
 |_=>simp only[cK]at cu<;>first|(cases cu;done)|(simp at cu;done)|(split at cu<;>simp at cu)
theorem Uf {op:Op} {T:TypeId} {x:bb} (h:cK op=some (.e3 T x)):∃y,op= .load T y/\dt y=some x:=by
 cases op with
 |load Ec y=>
  simp only[cK,Option.map_eq_some_iff]at h;obtain⟨cf,ar,h⟩:=h;cases h;exact⟨y,rfl,ar⟩
 |call c=>
  obtain⟨callee,mB,argTypes⟩:=c;simp only[cK]at h;split at h<;>(try split at h)<;>(try split at h)<;>(try simp[Option.map_eq_some_iff]at h)
 |makeFunc fn first cs=>
  cases fn<;>simp only[cK]at h<;>first|(cases h;done)|(split at h<;>simp at h)
 |slice T x eN ak eA=>
  cases eA<;>simp only[cK]at h<;>first|(cases h;done)|(split at h<;>simp at h)
 |makeMap T r=>cases r<;>simp only[cK]at h<;>simp at h
 |lookup T x i c=>cases c<;>simp only[cK]at h<;>first|(cases h;done)|(split at h<;>simp at h)
 |_=>simp only[cK]at h<;>first|(cases h;done)|(simp at h;done)|(split at h<;>simp at h)
theorem Az {y:Operand} {k:Nat} (h:dt y=some (.t k)):y= .tmp k:=by
 cases y with
 |tmp t=>simp only[dt,Option.some.injEq,bb.t.injEq]at h;rw[h]
 |const v=>simp only[dt,Option.map_eq_some_iff]at h;obtain⟨c,_,h⟩:=h;cases h
 |func g=>simp[dt]at h
 |global g=>simp[dt]at h
def pt (k:Nat) (s:aw) (j:Nat):I:=if j=k then .ref .hole else o4 j (s j)
theorem Ug {ay:Nat->Value} {b k:Nat} {v:Value} {ty:TypeId} {fr:Nat×Nat} (aH:bx w0 F0 X F S s ay w) (aq:ay k= .pointer (some ⟨b,0,none⟩)) (R:F b) (ai:w.heap[b]? =some (.cells #[v] ty fr)) (ab:Value.fY v=true):
  ∀cs:ahw,dP w F s ay (cs.map (pt k s)) (cs.map ay)/\I.dU (cs.map (pt k s))=true:=by
 intro cs;induction cs with
 |nil=>exact⟨by rw[map_nil,map_nil,dP],rfl⟩
 |cons j cs ih=>
  simp only[map_cons];have bQ:aF w F s ay (pt k s j) (ay j) (λ_=>False)/\(pt k s j).plain=true:=by
   unfold pt;split
   .rename_i e;subst e;rw[aq];refine⟨(aF.cr rfl).2 ⟨rfl,?_⟩,rfl⟩;rw[au];refine⟨b,0,[v],rfl,R,?_,?_⟩
    .intro i c ak;cases i with
     |zero=>simp at ak;subst ak;simp[World.cell?,ai]
     |succ i=>simp at ak
    .rw[au];exact⟨v,ab,rfl⟩
   .unfold o4;split
    .rename_i an;exact⟨aF.nothing an (aH.cW j),an⟩
    .rename_i an;refine⟨?_,rfl⟩;rw[aF];intro d ae an;simp only[I.sub,Option.some.injEq]at ae;subst ae;have aY:(s j).tree=true:=by
      cases U:s j<;>first|rfl|(rw[U]at an;simp[I.plain]at an)
     exact⟨_,none,rfl,rfl,((aF.cr aY).1 (aH.cW j)).1⟩
  refine⟨?_,?_⟩
  .rw[dP];exact⟨_,_,rfl,bQ.1,ih.1⟩
  .simp only[I.dU,bQ.2,ih.2,Bool.and_self]
theorem Mo (bk:C.eF) {id:Nat} {ops:Array Oper} {T:TypeId} {k k0 d0:Nat} {m rest:List b7} {args:List bb} {d1:Option Nat} {g:FuncId} {cs:ahw} {b:Nat} {ty:TypeId} {fr:Nat×Nat} {K:aw->Prop}
  (rn:pj n ops ops.toList=some ((⟨some d0,.e3 T (.t k),none⟩::(m++⟨d1,.call (.t d0) args,none⟩::rest):List b7).map b7.un))
  (iq:(C.T T).flat=true) (hm:∀r∈m,∀d,r.dst=some d->d≠d0/\d∉cs) (kS:d0∉cs) (uT:cs[k0]? =some k)
  (kB:a.defers=[]) (eJ:a.tmps.size=n.n) (iH:∀i∈n.fx,a.tmps.getD i undef=ρ i) (aH:bx w0 F0 X F S s (λt=>a.tmps.getD t undef) w)
  (R:F b) (aq:a.tmps.getD k undef= .pointer (some ⟨b,0,none⟩)) (zF:w.heap[b]? =some (.cells #[.func (.func g) #[] (cs.map λj=>a.tmps.getD j undef).toArray] ty fr))
  (h:lp C (fin s (some d0) .hole) m λs1=>∃ps r,ps.map (·.a)=args.map (bj s1)++cs.map (pt k s1)/\(∀p∈ps,p.ok s1)/\hP ps=true/\
   mf C g args.length (args.length+k0) (ps.map (·.d)) r (ps.map (·.o))/\r.res=true/\(jG ps=true->r.cF=true/\∀p∈ps,p.o.cF=true)/\lp C (fin (g_ (eO s1 ps) ps) d1 r) rest K)
  (aU:∀aA cB aD,K aA->Rel w0 F0 X n ρ aA cB aD->Q .normal cB aD):(Code.region id ops false).wp C.P Q a w:=by
 obtain⟨hl,pk⟩:=w7 rn;have EU:∀(i:Nat) (r:b7),(⟨some d0,.e3 T (.t k),none⟩::(m++⟨d1,.call (.t d0) args,none⟩::rest):List b7)[i]? =some r->∃o,ops[i]? =some o/\ph n ops o=some r.un:=by
  intro i r ak;have ei:i<ops.toList.length:=by
   rw[hl,length_map];exact(List.getElem?_eq_some_iff.1 ak).1
  obtain⟨gn,ab,ad⟩:=pk i _ (getElem?_eq_getElem ei);rw[getElem?_map,ak]at ab;simp only[Option.map_some,Option.some.injEq]at ab;exact⟨_,by rw[<-Array.getElem?_toList];exact getElem?_eq_getElem ei,by rw[ab];exact ad⟩
 have uU:∀{r:b7} {o:Oper},r.guard=none->ph n ops o=some r.un->r.dst=o.dst/\o.guard=none/\ou o.op=r.bG.base/\ln n o.dst=true:=by
  intro r o hg h;unfold ph at h;split at h
  .rename_i ae;split at h
   .rename_i uV gZ;simp only[b7.un,Option.some.injEq,b7.mk.injEq]at h;obtain⟨aP,aT,aR⟩:=h;refine⟨aP.symm,?_,aT,ae⟩;rw[aR,hg]at gZ;cases b1:o.guard with
    |none=>rfl
    |some Ef=>
     rw[b1]at gZ;simp only[w2]at gZ;split at gZ<;>cases gZ
   .cases h
  .cases h
 have Uh:ops.size=m.length+rest.length+2:=by
  have:ops.toList.length=ops.size:=by simp
  rw[<-this,hl];simp;omega
 have Ui:range ops.size=0::((range m.length).map (·+1)++((m.length+1)::(range rest.length).map (·+(m.length+2)))):=by
  rw[Uh,show m.length+rest.length+2=(m.length+rest.length+1)+1 from rfl,range_succ_eq_map];congr 1;rw[show m.length+rest.length+1=m.length+(rest.length+1) by omega,range_add,map_append,range_succ_eq_map];simp only[List.map_map,map_cons,Nat.add_zero];congr 1;congr 1;apply map_congr_left;intro x _;simp;omega
 obtain⟨rH,Uj,kD⟩:=EU 0 _ rfl;obtain⟨fA,fp,gX,hv⟩:=uU rfl kD;change ou rH.op= .e3 T (.t k)at gX;have xv:cK rH.op=some (.e3 T (.t k)):=by
  rcases qk gX with h|h
  .cases h
  .exact h
 obtain⟨y,hy,Uk⟩:=Uf xv;have:=Az Uk;subst this;let hW:Value:=.func (.func g) #[] (cs.map λj=>a.tmps.getD j undef).toArray
 have jN:hE w b 0 [hW]:=by
  intro i c ak;cases i with
  |zero=>simp at ak;subst ak;simp[World.cell?,zF,hW]
  |succ i=>simp at ak
 refine wp_region ?_;rw[Ui];simp only[wpOps,Uj];show(if Region.wanted rH (yielded ops a.tmps)=true then rH.wp C.P a w _ Q\/(rH.asks C.P a w/\LetsOut Q)else _);rw[if_pos (z7 fp)];left;have w5:(execOp a.eval rH).run C.P w= .ok (.value hW) w:=by
  obtain⟨dst,op,ty,pos,after,guard⟩:=rH;simp only at hy;subst hy;have:a.eval (.tmp k)= .pointer (some ⟨b,0,none⟩):=aq;simp[execOp,this,Instr.loadAt,Instr.sureAddr,Je bk iq jN]
 unfold Oper.wp;rw[w5,Oper.upon_value];have EV:some d0=rH.dst:=fA;rw[<-EV]at hv⊢;let J:Act:=a.put (some d0) hW
 let nN:Fr:=⟨n.n,d0::k::(cs++n.fx)⟩
 let ρ1:Nat->Value:=λt=>J.tmps.getD t undef
 have uW:k∈cs:=mem_of_getElem? uT;have pd:=aH.base;have EW:Rel w F (λb=>∃u,S u b) ⟨n.n,[]⟩ ρ1 (fin s (some d0) .hole) J w:=
  Rel.put (n:=⟨n.n,[]⟩) kB eJ (λi ak=>by cases ak) pd (.inl ⟨rfl,by rw[aF];trivial⟩) (by
   simp only[ln,Bool.and_eq_true,decide_eq_true_eq]at hv⊢;exact⟨hv.1,by simp⟩)
 have Ul:Rel w F (λb=>∃u,S u b) nN ρ1 (fin s (some d0) .hole) J w:=⟨EW.defers,EW.size,λi _=>rfl,EW.rel⟩
 have Mp:∀t,t≠d0->ρ1 t=a.tmps.getD t undef:=by
  intro t aY;have:=congrFun (w3 (n:=n) (dst:=some d0) (a:=a) hW eJ hv).1 t;simp only[mP]at this;rw[iV _ _ aY]at this;exact this
 have Um:ρ1 d0=hW:=by
  have:=congrFun (w3 (n:=n) (dst:=some d0) (a:=a) hW eJ hv).1 d0;simp only[mP]at this;rw[lL]at this;exact this
 have hw:=Mn C _ m [⟨some d0,.e3 T (.t k),none⟩] (⟨d1,.call (.t d0) args,none⟩::rest) _ h;have mid:∀aA cB aD,(∃ps r,ps.map (·.a)=args.map (bj aA)++cs.map (pt k aA)/\(∀p∈ps,p.ok aA)/\hP ps=true/\
   mf C g args.length (args.length+k0) (ps.map (·.d)) r (ps.map (·.o))/\r.res=true/\(jG ps=true->r.cF=true/\∀p∈ps,p.o.cF=true)/\lp C (fin (g_ (eO aA ps) ps) d1 r) rest K)->
   Rel w F (λb=>∃u,S u b) nN ρ1 aA cB aD->wpOps C.P ops Q ((m.length+1)::(range rest.length).map (·+(m.length+2))) cB aD:=by
  rintro s2 a2 gO ⟨ps,r,aP,aT,aR,b4,cz,bV,bF⟩ ⟨g1,g2,g3,ll,dh,g4⟩;obtain⟨uX,Un,nr⟩:=EU (m.length+1) ⟨d1,.call (.t d0) args,none⟩ (by simp);obtain⟨fl,gJ,h3,Jq⟩:=uU rfl nr;simp only[wpOps,Un];show(if Region.wanted uX (yielded ops a2.tmps)=true then uX.wp C.P a2 gO _ Q\/(uX.asks C.P a2 gO/\LetsOut Q)else _);rw[if_pos (z7 gJ)];left;change ou uX.op= .call (.t d0) args at h3;have Uo:cK uX.op=some (.call (.t d0) args):=by
   rcases qk h3 with h|h
   .cases h
   .exact h
  have Mq:ll b:=g4.gq b R;have Mr:gO.heap[b]? =some (.cells #[hW] ty fr):=by
   rw[g4.old b (aH.eK b R) (λ⟨u,hu⟩=>aH.fg u b hu R)];exact zF
  have Ms:∀j∈cs,a2.tmps.getD j undef=a.tmps.getD j undef:=by
   intro j bQ;rw[g3 j (by simp[nN,bQ])];exact Mp j (λe=>kS (e▸bQ))
  have ob:a2.tmps.getD k undef= .pointer (some ⟨b,0,none⟩):=(Ms k uW).trans aq;have Mt:(cs.map λj=>a.tmps.getD j undef)=cs.map λj=>a2.tmps.getD j undef:=map_congr_left λj bQ=>(Ms j bQ).symm;obtain⟨b2,c2⟩:=Ug (k:=k) g4 ob Mq Mr rfl cs;have DF:∀aA cB aD,lp C aA rest K->Rel w F (λb=>∃u,S u b) ⟨n.n,n.fx⟩ ρ aA cB aD->wpOps C.P ops Q ((range rest.length).map (·+(m.length+2))) cB aD:=by
   intro nG a3 nb aC AA;have Ai:=Mn C K rest ((⟨some d0,.e3 T (.t k),none⟩::m)++[⟨d1,.call (.t d0) args,none⟩]) [] nG aC;have:=Ee (Q:=Q) bk (ops:=ops) (ros:=((⟨some d0,.e3 T (.t k),none⟩::m)++[⟨d1,.call (.t d0) args,none⟩])++(rest++[])) (l2:=[]) (K:=K) (λaA cB aD kV eu=>by
     obtain⟨xw,z2,z3,Up,JA,z4⟩:=eu;exact aU aA cB aD kV ⟨xw,z2,z3,Up,JA,aH.Uc z4⟩) ((range rest.length).map (·+(m.length+2))) (λi ak=>by
      have xf:((⟨some d0,.e3 T (.t k),none⟩::m)++[⟨d1,.call (.t d0) args,none⟩])++(rest++[])=(⟨some d0,.e3 T (.t k),none⟩::(m++⟨d1,.call (.t d0) args,none⟩::rest):List b7):=by simp
      rw[xf];refine⟨λjC=>?_,λo b1=>?_⟩
      .rw[List.getElem?_eq_none_iff];have:=Array.getElem?_eq_none_iff.1 jC;simp;omega
      .obtain⟨ah,iS,ad⟩:=pk i o (by simpa using b1);obtain⟨r,ab,rfl⟩:∃r,(⟨some d0,.e3 T (.t k),none⟩::(m++⟨d1,.call (.t d0) args,none⟩::rest):List b7)[i]? =some r/\r.un=ah:=by
        rw[getElem?_map,Option.map_eq_some_iff]at iS;exact iS
       exact⟨r,ab,ad⟩) nG a3 nb (by
      have e:((⟨some d0,.e3 T (.t k),none⟩::m)++[⟨d1,.call (.t d0) args,none⟩]:List b7).length=m.length+2:=by simp
      rw[e]at Ai;exact Ai) AA
   rwa [append_nil]at this
  have Uq:∀i∈n.fx,a2.tmps.getD i undef=ρ i:=by
   intro i ak;rw[g3 i (by simp[nN,ak]),Mp i (λe=>?_)]
   .exact iH i ak
   .simp only[ln,Bool.and_eq_true,Bool.not_eq_true',contains_eq_mem,decide_eq_false_iff_not]at hv;exact hv.2 (e▸ak)
  have xu:k0<cs.length:=(List.getElem?_eq_some_iff.1 uT).1;have Ur:uX.dst=d1:=fl.symm;exact Ud (n:=n) (ρ:=ρ) (K:=λaA=>lp C aA rest K) g1 g2 Uq g4 Uo Jq
   (arr:=(cs.map λj=>a2.tmps.getD j undef).toArray) (k:=k0) (caps:=cs.map (pt k s2)) (g:=g) (ps:=ps) (r:=r)
   (by rw[g3 d0 (by simp[nN]),Um];simp only[hW,Mt]) (by simpa using b2) c2
   ⟨b,ty,fr,by
     rw[getD_eq_getElem?_getD,getElem?_map,uT];exact ob,by rw[Mr];simp only[hW,Mt],Mq⟩ (by simpa using xu)
   aP aT aR b4 cz bV (by rw[Ur];exact bF) DF
 have:=Ee (Q:=Q) bk (ops:=ops) (ros:=[⟨some d0,.e3 T (.t k),none⟩]++(m++⟨d1,.call (.t d0) args,none⟩::rest)) (l2:=(m.length+1)::(range rest.length).map (·+(m.length+2))) mid
  ((range m.length).map (·+1)) (λi ak=>by
    obtain⟨j,bQ,rfl⟩:=mem_map.1 ak;have xx:j<m.length:=mem_range.1 bQ;refine⟨λjC=>?_,λo b1=>?_⟩
    .have:=Array.getElem?_eq_none_iff.1 jC;omega
    .obtain⟨mY,xj,eV⟩:=EU (j+1) m[j] (by
      simp only[getElem?_cons_succ];rw[getElem?_append_left xx,getElem?_eq_getElem xx])
     have heq:mY=o:=by rw[xj]at b1;exact Option.some.inj b1
     subst heq;refine⟨m[j],by
      simp only[singleton_append,getElem?_cons_succ];rw[getElem?_append_left xx,getElem?_eq_getElem xx],?_⟩
     have Us:=hm m[j] (getElem_mem xx);unfold ph at eV⊢;split at eV
     .rename_i ae;rw[if_pos]
      .exact eV
      .cases Mu:mY.dst with
       |none=>rfl
       |some d=>
        rw[Mu]at ae;simp only[ln,Bool.and_eq_true,decide_eq_true_eq,Bool.not_eq_true',contains_eq_mem,decide_eq_false_iff_not]at ae⊢;refine⟨ae.1,?_⟩;have z8:m[j].dst=some d:=by
         split at eV
         .simp only[b7.un,Option.some.injEq,b7.mk.injEq]at eV;rw[<-eV.1,Mu]
         .cases eV
        obtain⟨m1,m2⟩:=Us d z8;simp only[nN,mem_cons,mem_append,not_or];exact⟨m1,λe=>m2 (e▸uW),m2,ae.2⟩
     .cases eV) (fin s (some d0) .hole) J w (by simpa using hw) Ul
 exact this
def Mv (C:bW) (f:FuncId) (k k0:Nat) (cs:ahw) (args:List bb) (d1:Option Nat) (rest:List b7) (keep:ahw) (P:ahA->Prop) (s1:aw):Prop:=
 ∃ps r,ps.map (·.a)=args.map (bj s1)++cs.map (pt k s1)/\(∀p∈ps,p.ok s1)/\hP ps=true/\
  mf C f args.length (args.length+k0) (ps.map (·.d)) r (ps.map (·.o))/\r.res=true/\(jG ps=true->r.cF=true/\∀p∈ps,p.o.cF=true)/\
  dj C (fin (g_ (eO s1 ps) ps) d1 r) rest none (λ_ s=>P (gu keep s))
def oD (C:bW) (f:FuncId) (k k0 d0:Nat) (cs:ahw) (m:List b7) (args:List bb) (d1:Option Nat) (rest:List b7) (keep:ahw) (P:ahA->Prop) (s:aw):Prop:=
 dj C (fin s (some d0) .hole) m none λ_ s1=>Mv C f k k0 cs args d1 rest keep P s1
def Mw (C:bW) (f:FuncId) (k k0 d0:Nat) (cs:ahw) (m:List b7) (args:List bb) (d1:Option Nat) (rest:List b7) (keep:ahw) (K:aw->Prop) (s:aw):Prop:=
 oD C f k k0 d0 cs m args d1 rest keep (λl=>K (ax l)) s
def EX (f:Nat->Bool) (m:List b7):Bool:=m.all λr=>match r.dst with
 |none=>true
 |some d=>f d
theorem Mx {f:Nat->Bool} {m:List b7} (h:EX f m=true):∀r∈m,∀d,r.dst=some d->f d=true:=by
 intro r aH d ae;have:=List.all_eq_true.1 h r aH;rw[ae]at this;exact this
theorem My (k:ahw) (s:aw):uD s (gu k s):=by
 intro p an;obtain⟨t,_,rfl⟩:=mem_map.1 an;exact .inl rfl
def EY (C:bW) (f:FuncId) (k k0 d0:Nat) (cs:ahw) (m:List b7) (args:List bb) (d1:Option Nat) (rest:List b7) (keep:ahw):(Exit->aw->Prop)->aw->Prop:=
 λQ s=>Mw C f k k0 d0 cs m args d1 rest keep (Q .normal) s
def Mz (T:TypeId) (k d0:Nat) (m:List b7) (args:List bb) (d1:Option Nat) (rest:List b7):aG:=
 .fq (⟨some d0,.e3 T (.t k),none⟩::(m++⟨d1,.call (.t d0) args,none⟩::rest)) none
theorem Ut (vs:ahz):∀(m n:Nat),m+n=vs.length->vs.drop m=((range n).map (·+m)).map λj=>vs.getD j undef:=by
 intro m n h;apply ext_getElem?;intro i;rw[getElem?_drop,List.map_map,getElem?_map];by_cases ak:i<n
 .rw[getElem?_range ak,getElem?_eq_getElem (by omega)];simp only[Option.map_some,Function.comp];rw[getD_eq_getElem?_getD,getElem?_eq_getElem (by omega)];simp only[Option.getD_some,Option.some.injEq];congr 1;omega
 .rw[getElem?_eq_none (by omega),getElem?_eq_none (by simp;omega)];rfl
theorem AB {c:Code} {rs:List b7} (h:eQ n c=some (.fq rs none)):∃id ops,c= .region id ops false/\pj n ops ops.toList=some rs:=by
 cases c with
 |region id ops draw=>
  cases draw with
  |false=>
   simp only[eQ]at h;split at h
   .rename_i r ab;cases h;exact⟨id,ops,rfl,ab⟩
   .cases h
  |true=>
   simp only[eQ]at h;split at h
   .simp only[Option.map_eq_some_iff]at h;obtain⟨r,ab,ad⟩:=h;cases ad
   .cases h
 |seq a b=>simp only[eQ]at h;split at h<;>cases h
 |cond c a b=>simp only[eQ]at h;split at h<;>cases h
 |block id b=>simp only[eQ,Option.map_eq_some_iff]at h;obtain⟨r,ab,ad⟩:=h;cases ad
 |loop b=>simp only[eQ,Option.map_eq_some_iff]at h;obtain⟨r,ab,ad⟩:=h;cases ad
 |_=>simp[eQ]at h
def AD (C:bW) (f:FuncId) (fx:ahw) (Uu m k:Nat) (T:(Exit->aw->Prop)->aw->Prop) (b:aG):Prop:=
 ∃(ty:TypeId) (k0 d0 nc:Nat) (hO:List b7) (args:List bb) (d1:Option Nat) (rest:List b7) (keep:ahw),
  T=EY C f k k0 d0 ((range nc).map (·+m)) hO args d1 rest keep/\b=Mz ty k d0 hO args d1 rest/\(C.T ty).flat=true/\EX (λd=>d !=d0&&decide (m+nc<=d)) hO=true/\decide (m+nc<=d0)=true/\
  decide (k0<nc)=true/\k=m+k0/\((range nc).all λj=>fx.contains (m+j))=true/\args.length=m/\m+nc=Uu
theorem mf.of_wp (bk:C.eF) {f:FuncId} {fn:Func} {c:Code} {cX:aG} {fx:ahw} {as outs:ahB} {r:I} {k m:Nat} (bd:C.P.funcs[f]? =some fn) (R:fn.body=some c)
  (jX:(fn.name== "runtime.NumGoroutine")=false) (U:eQ ⟨fn.ntmps,fx⟩ c=some cX.strip) (aU:as.length<=fn.ntmps)
  (aq:cX.mC (AD C f fx as.length m k))
  (h:∀Q:Exit->aw->Prop,(∀s,dR (Ends C fx fn.results.toList r outs) s->Q .ret s)->(∀s,dR (Ends C fx fn.results.toList r outs) s->Q .normal s)->a_ C cX Q (ax (num 0 as))):mf C f m k as r outs:=by
 rintro w F X S vs hl ⟨b,Uv,fr,aP,aT,aR,b4⟩ aH;refine Ep (fx:=fx) bk bd R jX aU hl aH λa hrel dY=>?_;refine En bk (H:=AD C f fx as.length m k) ?_ c (by rw[aG.Ej];exact U) (aG.Ad cX aq) (Ae cX ?_) hrel
 .rintro c T ff Q s J fs ⟨ty,k0,d0,nc,hO,args,d1,rest,keep,rfl,rfl,iq,hm,kS,AE,aq,iH,hlen,agb⟩ xv Uw ⟨g1,g2,g3,sM,b3,g4⟩;replace hm:∀r∈hO,∀d,r.dst=some d->d≠d0/\m+nc<=d:=λr aH d ae=>by
   have:=Mx hm r aH d ae;simpa using this
  replace kS:=of_decide_eq_true kS;replace AE:=of_decide_eq_true AE;replace iH:∀j,j<nc->m+j∈fx:=λj bQ=>by
   have:=List.all_eq_true.1 iH j (mem_range.2 bQ);simpa using this
  obtain⟨id,ops,rfl,rn⟩:=AB xv;have MA:∀j,j<nc->J.tmps.getD (j+m) undef=vs.getD (j+m) undef:=λj bQ=>by
   rw[Nat.add_comm];exact g3 _ (iH j bQ)
  have hj:((range nc).map (·+m)).map (λj=>J.tmps.getD j undef)=vs.drop m:=by
   rw[Ut vs m nc (by omega),List.map_map,List.map_map];apply map_congr_left;intro j bQ;exact MA j (mem_range.1 bQ)
  refine Mo (Q:=ql w F X ⟨fn.ntmps,fx⟩ (gj vs) Q) (K:=dR (Q .normal)) (b:=b) (ty:=Uv) (fr:=fr) (g:=f) (k0:=k0) (cs:=(range nc).map (·+m)) bk rn iq (λr aH d ae=>⟨(hm r aH d ae).1,λuS=>?_⟩) (λuS=>?_) ?_ g1 g2 g3 g4 (g4.gq b aR) ?_ ?_ ?_ (λaA cB aD aq eu=>eu.dR aq)
  .obtain⟨j,bQ,rfl⟩:=mem_map.1 uS;have:=(hm r aH _ ae).2;have:=mem_range.1 bQ;omega
  .obtain⟨j,bQ,e⟩:=mem_map.1 uS;have:=mem_range.1 bQ;omega
  .rw[getElem?_map,getElem?_range AE,aq];simp[Nat.add_comm]
  .rw[aq,Nat.add_comm,MA k0 AE,Nat.add_comm,<-aq];exact aP
  .rw[hj,g4.old b (aH.eK b aR) b4];exact aT
  .refine sR (λ_ s1=>?_) Uw;rintro⟨ps,r,fA,fp,gX,hv,mv,rm,uz⟩;exact⟨ps,r,fA,fp,gX,hv,mv,rm,sR (λ_ s h=>.inr ⟨_,My _ _,h⟩) uz⟩
 .rw[Ah];exact h _ (λs h=>⟨.inr rfl,h⟩) (λs h=>⟨.inl rfl,h⟩)
theorem Ux {Q:Exit->aw->Prop} {l:ahA} {f:FuncId} {k k0 d0:Nat} {cs:ahw} {m:List b7} {args:List bb} {d1:Option Nat} {rest:List b7} {keep:ahw} {b:aG} (cd:ahA)
  (h:∀P:ahA->Prop,P cd->oD C f k k0 d0 cs m args d1 rest keep P (ax l)) (aq:Q .normal (ax cd)):a_ C (.iv (EY C f k k0 d0 cs m args d1 rest keep) b) Q (ax l):=
 λed EZ=>h (λl=>ed .normal (ax l)) (EZ _ _ aq)
theorem MB {l:ahA} {f:FuncId} {k k0:Nat} {cs:ahw} {args:List bb} {d1:Option Nat} {rest:List b7} {keep:ahw} {P:ahA->Prop} {r:I} (ps:List ct)
  (bu:mf C f args.length (args.length+k0) (ps.map (·.d)) r (ps.map (·.o))) (ad:ps.map (·.a)=jo (ax l) args++cs.map (pt k (ax l))) (aC:pr (ax l) ps) (aW:hP ps=true)
  (cy:r.res=true) (cl:jG ps=false\/(r.cF&&qq ps)=true)
  (hK:dj C (fin (g_ (eO (ax l) ps) ps) d1 r) rest none (λ_ s=>P (gu keep s))):Mv C f k k0 cs args d1 rest keep P (ax l):=by
 refine⟨ps,r,by rw[ad,uN],At aC,aW,bu,cy,?_,hK⟩;intro hl;rcases cl with cl|cl
 .rw[cl]at hl;cases hl
 .rw[Bool.and_eq_true]at cl;exact⟨cl.1,Au cl.2⟩
end
end Go.c_
