/- Part of a proof that a law returns true for every input. No condition. -/
import Derived.Test.YtlkabaochkgkdaaGreatDoorFwI
namespace Go.c_
def nj (C:cl) (f:FuncId) (m k:Nat) (as:List I) (r:I) (outs:List I):Prop:=
 ∀(w:World) (F X:Nat->Prop) (S:Nat->Nat->Prop) (vs:List Value),vs.length=as.length->
  (∃b ty fr,vs.getD k undef= .pointer (some ⟨b,0,none⟩)/\w.heap[b]? =some (.cells #[.func (.func f) #[] (vs.drop m).toArray] ty fr)/\F b/\¬X b)->
  bU w F X F S (gu as) (hW vs) w->
  pW C.P f vs.toArray w λv aL=>∃b3 aW,bU w F X b3 aW (gu (r::outs)) (hW (v::vs)) aL
section
variable {C:cl} {w0 w:World} {F0 X F b3:Nat->Prop} {S aW:Nat->Nat->Prop} {n:Fr} {ρ:Nat->Value} {s aB:ar} {aC k7:Nat->Value} {a:Act} {av:I} {Q:Exit->Act->World->Prop} {aL:World}
theorem bU.base (h:bU w0 F0 X F S s aC w):bU w F (λb=>∃u,S u b) F S s aC w where
 hG:=λ_ h=>h
 h4:=λ_ h=>.inl h
 fy:=h.fy
 e7:=h.e7
 gf:=h.gf
 fz:=h.fz
 ey:=λu b ad=>.inl ⟨u,ad⟩
 dF:=h.dF
 old:=λ_ _ _=>rfl
 size:=Nat.le_refl _
 os:=rfl
 tape:=rfl
 output:=Out.refl _
 hj:=h.hj.next h.size h.old λb ⟨u,hu⟩=>h.ey u b hu
theorem bU.Xz (h:bU w0 F0 X F S s aC w) (bt:bU w F (λb=>∃u,S u b) b3 aW aB k7 aL):bU w0 F0 X b3 aW aB k7 aL where
 hG:=λb ad=>bt.hG b (h.hG b ad)
 h4:=λb ad=>by
  rcases bt.h4 b ad with ad|⟨u,ad⟩|ad
  .exact h.h4 b ad
  .exact .inr (h.ey u b ad)
  .exact .inr (.inr (Nat.le_trans h.size ad))
 fy:=bt.fy
 e7:=bt.e7
 gf:=bt.gf
 fz:=bt.fz
 ey:=λu b ad=>by
  rcases bt.ey u b ad with⟨u,ad⟩|ad
  .exact h.ey u b ad
  .exact .inr (Nat.le_trans h.size ad)
 dF:=bt.dF
 old:=λb ad k9=>by
  refine(bt.old b (Nat.lt_of_lt_of_le ad h.size) λ⟨u,hu⟩=>?_).trans (h.old b ad k9);rcases h.ey u b hu with aw|aw
  .exact k9 aw
  .omega
 size:=Nat.le_trans h.size bt.size
 os:=bt.os.trans h.os
 tape:=bt.tape.trans h.tape
 output:=bt.output.trans h.output
 hj:=h.hj
inductive rQ:List I->List I->Prop
 |nil:rQ [] []
 |eq {a:I} {as lT:List I}:a.ae=[]->rQ as lT->rQ (a::as) (a::lT)
 |wd {a b:I} {as lT:List I}:fC a b->a.tree=true->b.ae=[]->rQ as lT->rQ (a::as) (b::lT)
theorem rQ.get:∀{as lT:List I},rQ as lT->∀p k,p∈num k lT->p.2.ae=[]/\∃a,as[p.1-k]? =some a/\k<=p.1/\(p.2=a\/(a.tree=true/\fC a p.2))
 |_,_,.nil,p,k,au=>by simp[num]at au
 |_,_,.eq (a:=a) h hw,p,k,au=>by
  simp only[num,List.mem_cons]at au;rcases au with rfl|au
  .exact⟨h,a,by simp,Nat.le_refl _,.inl rfl⟩
  .obtain⟨ag,x,ah,aN,bg⟩:=hw.get p (k+1) au;refine⟨ag,x,?_,by omega,bg⟩;rw[show p.1-k=(p.1-(k+1))+1 by omega,List.getElem?_cons_succ];exact ah
 |_,_,.wd (a:=a) h bj ad hw,p,k,au=>by
  simp only[num,List.mem_cons]at au;rcases au with rfl|au
  .exact⟨ad,a,by simp,Nat.le_refl _,.inr ⟨bj,h⟩⟩
  .obtain⟨ag,x,ah,aN,bg⟩:=hw.get p (k+1) au;refine⟨ag,x,?_,by omega,bg⟩;rw[show p.1-k=(p.1-(k+1))+1 by omega,List.getElem?_cons_succ];exact ah
theorem rQ.len:∀{as lT:List I},rQ as lT->lT.length=as.length
 |_,_,.nil=>rfl
 |_,_,.eq _ hw=>by simp[hw.len]
 |_,_,.wd _ _ _ hw=>by simp[hw.len]
theorem Of (C:cl) (K:ar->Prop):∀(rs pre post:List cb) (s:ar),mv C s rs K->kM C (pre++(rs++post)) s ((List.range rs.length).map (·+pre.length)) K:=by
 intro rs;induction rs with
 |nil=>intro pre post s h;exact h
 |cons r rs ih=>
  intro pre post s h;rw[List.length_cons,List.range_succ_eq_map,List.map_cons,List.map_map];simp only[kM,Nat.zero_add];rw[List.getElem?_append_right (Nat.le_refl _)];simp only[Nat.sub_self,List.cons_append,List.getElem?_cons_zero];have key:∀s1,mv C s1 rs K->kM C (pre++r::(rs++post)) s1 ((List.range rs.length).map ((λx=>x+pre.length)∘Nat.succ)) K:=by
   intro s1 ag;have:=ih (pre++[r]) post s1 ag;simp only[List.append_assoc,List.singleton_append,List.length_append,List.length_singleton]at this;have e:((λx=>x+pre.length)∘Nat.succ)=λx=>x+(pre.length+1):=by funext x;simp;omega
   rw[e];exact this
  simp only[mv]at h;exact H7 h key
theorem XA (jn:a.defers=[]) (eM:a.tmps.size=n.n) (ia:∀i∈n.fx,a.tmps.getD i undef=ρ i) (aS:bU w0 F0 X F S s (λt=>a.tmps.getD t undef) w)
  {o:Oper} {d0 k:Nat} {args:List aI} {g:FuncId} {caps:List I} {arr:Array Value} {ps:List cZ} {r:I} (cD:cJ o.op=some (.call (.t d0) args)) (aj:mr n o.dst=true)
  (aT:a.tmps.getD d0 undef= .func (.func g) #[] arr) (aq:eH w F s (λt=>a.tmps.getD t undef) caps arr.toList) (gR:I.ef caps=true)
  (XB:∃b ty fr,(arr.toList).getD k undef= .pointer (some ⟨b,0,none⟩)/\w.heap[b]? =some (.cells #[.func (.func g) #[] arr] ty fr)/\F b) (zD:k<arr.size)
  (ah:ps.map (·.a)=args.map (aP s)++caps) (aN:∀p∈ps,p.ok s) (bg:ja ps=true) (bR:nj C g args.length (args.length+k) (ps.map (·.d)) r (ps.map (·.o))) (cW:r.res=true)
  (cE:kL ps=true->r.dd=true/\∀p∈ps,p.o.dd=true) {K:ar->Prop} {next:Act->World->Prop} (fJ:K (fin (iy (ft s ps) ps) o.dst r))
  (a7:∀aB c7 aL,K aB->Rel w0 F0 X n ρ aB c7 aL->next c7 aL):o.wp C.P a w next Q:=by
 obtain⟨dst,op,ty,pos,after,guard⟩:=o;simp only at cD aj fJ;cases op with
 |call c=>
  obtain⟨callee,nQ,argTypes⟩:=c;simp only[cJ]at cD;split at cD
  .split at cD
   .rename_i zi _ _ VL xs bw qL;simp only[Option.some.injEq,gr.call.injEq]at cD;obtain⟨rfl,rfl⟩:=cD;have yU:zi= .tmp d0:=by
     cases zi with
     |tmp t=>simp only[d_,Option.some.injEq,aI.t.injEq]at bw;rw[bw]
     |const v=>simp only[d_,Option.map_eq_some_iff]at bw;obtain⟨c,_,bw⟩:=bw;cases bw
     |func g=>simp[d_]at bw
     |global g=>simp[d_]at bw
    subst yU;have uj:execOp a.eval {dst,op:=.call {callee:=.value (.tmp d0),args:=nQ,argTypes},type:=ty,pos,after,guard}=callFunc g ((nQ.toList.map a.eval++arr.toList).toArray):=by
     have:a.eval (.tmp d0)= .func (.func g) #[] arr:=aT;simp only[execOp,resolve,this,Deferred.ofValue,pure_bind,invoke];congr 1;apply Array.ext';simp
    unfold Oper.wp;rw[uj];have hlen:(nQ.toList.map a.eval).length=xs.length:=by
     have:=congrArg List.length (uf qL);simpa using this
    have zj:eH w F s (λt=>a.tmps.getD t undef) (xs.map (aP s)++caps) (nQ.toList.map a.eval++arr.toList):=MB (Cj aS (λ_=>rfl) _ _ (uf qL)) aq;rw[<-ah]at zj;obtain⟨hk,l2⟩:=MC zj;have gE:∀d∈xs.map (aP s)++caps,d.plain=true:=by
     intro d aj;rcases List.mem_append.1 aj with aj|aj
     .obtain⟨x,aw,rfl⟩:=List.mem_map.1 aj;exact Lf s x λav e=>by
       subst e;have hm:=uf qL;have:some (aI.c av)∈xs.map some:=List.mem_map.2 ⟨_,aw,rfl⟩;rw[<-hm]at this;obtain⟨o,_,cy⟩:=List.mem_map.1 this;cases o with
       |const v=>simp only[d_,Option.map_eq_some_iff]at cy;obtain⟨c,aq,e⟩:=cy;cases e;exact G1 aq
       |tmp n=>simp[d_]at cy
       |func g=>simp[d_]at cy
       |global g=>simp[d_]at cy
     .obtain⟨k,ay⟩:=List.getElem?_of_mem aj;exact BT gR ay
    have HY:=Mw (C:=C) aS (ps:=ps) (vs:=nQ.toList.map a.eval++arr.toList) (f:=g) (r:=r) (by simpa using hk)
     (λi p v au aT=>⟨gE p.a (by rw[<-ah];exact List.mem_map.2 ⟨p,List.mem_of_getElem? au,rfl⟩),l2 i p.a v (by simp[au]) aT⟩) aN bg
     (λFc ng eP bL k9 au=>by
      refine bR w Fc ng eP _ (by rw[<-hk];simp) ?_ au;obtain⟨b,CR,fr,aX,a6,aQ⟩:=XB;refine⟨b,CR,fr,?_,?_,bL b aQ,λaw=>by obtain⟨u,hu⟩:=k9 b aw;exact aS.gf u b hu aQ⟩
      .rw[List.getD_eq_getElem?_getD,List.getElem?_append_right (by omega),hlen,Nat.add_sub_cancel_left,<-List.getD_eq_getElem?_getD];exact aX
      .rw[a6,<-hlen,List.drop_left])
     cW cE
    rcases HY with⟨ei,bp⟩|⟨v,aL,ei,b3,aW,bp,dk⟩
    .rw[ei,Oper.upon_enter];refine Calls.mono bp ?_;rintro e aL ⟨v,rfl,b3,aW,b7,cw⟩;exact a7 _ _ _ fJ (Rel.put jn eM ia b7 cw.1 aj)
    .rw[ei,Oper.upon_value];exact a7 _ _ _ fJ (Rel.put jn eM ia bp dk.1 aj)
   .cases cD
  .split at cD
   .simp only[Option.map_eq_some_iff]at cD;obtain⟨_,_,cD⟩:=cD;cases cD
   .cases cD
  .split at cD
   .simp only[Option.map_eq_some_iff]at cD;obtain⟨_,_,cD⟩:=cD;cases cD
   .cases cD
  iterate 3
   .split at cD
    .split at cD<;>cases cD
    .cases cD
  .cases cD
 |makeFunc fn first cs=>
  cases fn<;>simp only[cJ]at cD<;>first|(cases cD;done)|(split at cD<;>simp at cD)
 |slice T x dv an e2=>
  cases e2<;>simp only[cJ]at cD<;>first|(cases cD;done)|(split at cD<;>simp at cD)
 |makeMap T r=>cases r<;>simp only[cJ]at cD<;>simp at cD
 |lookup T x i c=>cases c<;>simp only[cJ]at cD<;>first|(cases cD;done)|(split at cD<;>simp at cD)
 |_=>simp only[cJ]at cD<;>first|(cases cD;done)|(simp at cD;done)|(split at cD<;>simp at cD)
theorem XC {op:Op} {T:TypeId} {x:aI} (h:cJ op=some (.cp T x)):∃y,op= .load T y/\d_ y=some x:=by
 cases op with
 |load zh y=>
  simp only[cJ,Option.map_eq_some_iff]at h;obtain⟨cA,aw,h⟩:=h;cases h;exact⟨y,rfl,aw⟩
 |call c=>
  obtain⟨callee,nQ,argTypes⟩:=c;simp only[cJ]at h;split at h<;>(try split at h)<;>(try split at h)<;>(try simp[Option.map_eq_some_iff]at h)
 |makeFunc fn first cs=>
  cases fn<;>simp only[cJ]at h<;>first|(cases h;done)|(split at h<;>simp at h)
 |slice T x dv an e2=>
  cases e2<;>simp only[cJ]at h<;>first|(cases h;done)|(split at h<;>simp at h)
 |makeMap T r=>cases r<;>simp only[cJ]at h<;>simp at h
 |lookup T x i c=>cases c<;>simp only[cJ]at h<;>first|(cases h;done)|(split at h<;>simp at h)
 |_=>simp only[cJ]at h<;>first|(cases h;done)|(simp at h;done)|(split at h<;>simp at h)
theorem CS {y:Operand} {k:Nat} (h:d_ y=some (.t k)):y= .tmp k:=by
 cases y with
 |tmp t=>simp only[d_,Option.some.injEq,aI.t.injEq]at h;rw[h]
 |const v=>simp only[d_,Option.map_eq_some_iff]at h;obtain⟨c,_,h⟩:=h;cases h
 |func g=>simp[d_]at h
 |global g=>simp[d_]at h
def qS (k:Nat) (s:ar) (j:Nat):I:=if j=k then .ref .hole else jP j (s j)
theorem XD {aC:Nat->Value} {b k:Nat} {v:Value} {ty:TypeId} {fr:Nat×Nat} (aS:bU w0 F0 X F S s aC w) (ay:aC k= .pointer (some ⟨b,0,none⟩)) (ad:F b) (aq:w.heap[b]? =some (.cells #[v] ty fr)) (ag:Value.ha v=true):
  ∀cs:List Nat,eH w F s aC (cs.map (qS k s)) (cs.map aC)/\I.ef (cs.map (qS k s))=true:=by
 intro cs;induction cs with
 |nil=>exact⟨by rw[List.map_nil,List.map_nil,eH],rfl⟩
 |cons j cs ih=>
  simp only[List.map_cons];have cH:aO w F s aC (qS k s j) (aC j) (λ_=>False)/\(qS k s j).plain=true:=by
   unfold qS;split
   .rename_i e;subst e;rw[ay];refine⟨(aO.cT rfl).2 ⟨rfl,?_⟩,rfl⟩;rw[ax];refine⟨b,0,[v],rfl,ad,?_,?_⟩
    .intro i c an;cases i with
     |zero=>simp at an;subst an;simp[World.cell?,aq]
     |succ i=>simp at an
    .rw[ax];exact⟨v,ag,rfl⟩
   .unfold jP;split
    .rename_i au;exact⟨aO.nothing au (aS.dF j),au⟩
    .rename_i au;refine⟨?_,rfl⟩;rw[aO];intro d aj au;simp only[I.sub,Option.some.injEq]at aj;subst aj;have bj:(s j).tree=true:=by
      cases ae:s j<;>first|rfl|(rw[ae]at au;simp[I.plain]at au)
     exact⟨_,none,rfl,rfl,((aO.cT bj).1 (aS.dF j)).1⟩
  refine⟨?_,?_⟩
  .rw[eH];exact⟨_,_,rfl,cH.1,ih.1⟩
  .simp only[I.ef,cH.2,ih.2,Bool.and_self]
theorem Og (bx:C.fc) {id:Nat} {ops:Array Oper} {T:TypeId} {k k0 d0:Nat} {m rest:List cb} {args:List aI} {d1:Option Nat} {g:FuncId} {cs:List Nat} {b:Nat} {ty:TypeId} {fr:Nat×Nat} {K:ar->Prop}
  (sQ:qN n ops ops.toList=some ((⟨some d0,.cp T (.t k),none⟩::(m++⟨d1,.call (.t d0) args,none⟩::rest):List cb).map cb.un))
  (k8:(C.T T).flat=true) (hm:∀r∈m,∀d,r.dst=some d->d≠d0/\d∉cs) (lW:d0∉cs) (xk:cs[k0]? =some k)
  (jn:a.defers=[]) (eM:a.tmps.size=n.n) (ia:∀i∈n.fx,a.tmps.getD i undef=ρ i) (aS:bU w0 F0 X F S s (λt=>a.tmps.getD t undef) w)
  (ad:F b) (ay:a.tmps.getD k undef= .pointer (some ⟨b,0,none⟩)) (B5:w.heap[b]? =some (.cells #[.func (.func g) #[] (cs.map λj=>a.tmps.getD j undef).toArray] ty fr))
  (h:mv C (fin s (some d0) .hole) m λs1=>∃ps r,ps.map (·.a)=args.map (aP s1)++cs.map (qS k s1)/\(∀p∈ps,p.ok s1)/\ja ps=true/\
   nj C g args.length (args.length+k0) (ps.map (·.d)) r (ps.map (·.o))/\r.res=true/\(kL ps=true->r.dd=true/\∀p∈ps,p.o.dd=true)/\mv C (fin (iy (ft s1 ps) ps) d1 r) rest K)
  (a7:∀aB c7 aL,K aB->Rel w0 F0 X n ρ aB c7 aL->Q .normal c7 aL):(Code.region id ops false).wp C.P Q a w:=by
 obtain⟨hl,qO⟩:=zl sQ;have IH:∀(i:Nat) (r:cb),(⟨some d0,.cp T (.t k),none⟩::(m++⟨d1,.call (.t d0) args,none⟩::rest):List cb)[i]? =some r->∃o,ops[i]? =some o/\qM n ops o=some r.un:=by
  intro i r an;have e6:i<ops.toList.length:=by
   rw[hl,List.length_map];exact(List.getElem?_eq_some_iff.1 an).1
  obtain⟨ik,ag,ah⟩:=qO i _ (List.getElem?_eq_getElem e6);rw[List.getElem?_map,an]at ag;simp only[Option.map_some,Option.some.injEq]at ag;exact⟨_,by rw[<-Array.getElem?_toList];exact List.getElem?_eq_getElem e6,by rw[ag];exact ah⟩
 have xl:∀{r:cb} {o:Oper},r.guard=none->qM n ops o=some r.un->r.dst=o.dst/\o.guard=none/\pY o.op=r.b0.base/\mr n o.dst=true:=by
  intro r o hg h;unfold qM at h;split at h
  .rename_i aj;split at h
   .rename_i Oh h_;simp only[cb.un,Option.some.injEq,cb.mk.injEq]at h;obtain⟨aX,a6,aQ⟩:=h;refine⟨aX.symm,?_,a6,aj⟩;rw[aQ,hg]at h_;cases cy:o.guard with
    |none=>rfl
    |some H2=>
     rw[cy]at h_;simp only[zf]at h_;split at h_<;>cases h_
   .cases h
  .cases h
 have XE:ops.size=m.length+rest.length+2:=by
  have:ops.toList.length=ops.size:=by simp
  rw[<-this,hl];simp;omega
 have XF:List.range ops.size=0::((List.range m.length).map (·+1)++((m.length+1)::(List.range rest.length).map (·+(m.length+2)))):=by
  rw[XE,show m.length+rest.length+2=(m.length+rest.length+1)+1 from rfl,List.range_succ_eq_map];congr 1;rw[show m.length+rest.length+1=m.length+(rest.length+1) by omega,List.range_add,List.map_append,List.range_succ_eq_map];simp only[List.map_map,List.map_cons,Nat.add_zero];congr 1;congr 1;apply List.map_congr_left;intro x _;simp;omega
 obtain⟨s6,XG,ks⟩:=IH 0 _ rfl;obtain⟨hz,gw,iR,iS⟩:=xl rfl ks;change pY s6.op= .cp T (.t k)at iR;have zE:cJ s6.op=some (.cp T (.t k)):=by
  rcases ou iR with h|h
  .cases h
  .exact h
 obtain⟨y,hy,XH⟩:=XC zE;have:=CS XH;subst this;let iX:Value:=.func (.func g) #[] (cs.map λj=>a.tmps.getD j undef).toArray
 have kI:iA w b 0 [iX]:=by
  intro i c an;cases i with
  |zero=>simp at an;subst an;simp[World.cell?,B5,iX]
  |succ i=>simp at an
 refine wp_region ?_;rw[XF];simp only[wpOps,XG];show(if Region.wanted s6 (yielded ops a.tmps)=true then s6.wp C.P a w _ Q\/(s6.asks C.P a w/\LetsOut Q)else _);rw[if_pos (Cp gw)];left;have uj:(execOp a.eval s6).run C.P w= .ok (.value iX) w:=by
  obtain⟨dst,op,ty,pos,after,guard⟩:=s6;simp only at hy;subst hy;have:a.eval (.tmp k)= .pointer (some ⟨b,0,none⟩):=ay;simp[execOp,this,Instr.loadAt,Instr.sureAddr,Ll bx k8 kI]
 unfold Oper.wp;rw[uj,Oper.upon_value];have II:some d0=s6.dst:=hz;rw[<-II]at iS⊢;let R:Act:=a.put (some d0) iX
 let o_:Fr:=⟨n.n,d0::k::(cs++n.fx)⟩
 let ρ1:Nat->Value:=λt=>R.tmps.getD t undef
 have xm:k∈cs:=List.mem_of_getElem? xk;have qG:=aS.base;have IJ:Rel w F (λb=>∃u,S u b) ⟨n.n,[]⟩ ρ1 (fin s (some d0) .hole) R w:=
  Rel.put (n:=⟨n.n,[]⟩) jn eM (λi an=>by cases an) qG (.inl ⟨rfl,by rw[aO];trivial⟩) (by
   simp only[mr,Bool.and_eq_true,decide_eq_true_eq]at iS⊢;exact⟨iS.1,by simp⟩)
 have XI:Rel w F (λb=>∃u,S u b) o_ ρ1 (fin s (some d0) .hole) R w:=⟨IJ.defers,IJ.size,λi _=>rfl,IJ.rel⟩
 have Oi:∀t,t≠d0->ρ1 t=a.tmps.getD t undef:=by
  intro t bj;have:=congrFun (zg (n:=n) (dst:=some d0) (a:=a) iX eM iS).1 t;simp only[oe]at this;rw[j1 _ _ bj]at this;exact this
 have XJ:ρ1 d0=iX:=by
  have:=congrFun (zg (n:=n) (dst:=some d0) (a:=a) iX eM iS).1 d0;simp only[oe]at this;rw[mE]at this;exact this
 have hw:=Of C _ m [⟨some d0,.cp T (.t k),none⟩] (⟨d1,.call (.t d0) args,none⟩::rest) _ h;have mid:∀aB c7 aL,(∃ps r,ps.map (·.a)=args.map (aP aB)++cs.map (qS k aB)/\(∀p∈ps,p.ok aB)/\ja ps=true/\
   nj C g args.length (args.length+k0) (ps.map (·.d)) r (ps.map (·.o))/\r.res=true/\(kL ps=true->r.dd=true/\∀p∈ps,p.o.dd=true)/\mv C (fin (iy (ft aB ps) ps) d1 r) rest K)->
   Rel w F (λb=>∃u,S u b) o_ ρ1 aB c7 aL->wpOps C.P ops Q ((m.length+1)::(List.range rest.length).map (·+(m.length+2))) c7 aL:=by
  rintro s2 a2 hA ⟨ps,r,aX,a6,aQ,cC,cF,cc,b4⟩ ⟨g1,g2,g3,zd,eo,g4⟩;obtain⟨xn,XK,oO⟩:=IH (m.length+1) ⟨d1,.call (.t d0) args,none⟩ (by simp);obtain⟨fY,hU,iD,Lx⟩:=xl rfl oO;simp only[wpOps,XK];show(if Region.wanted xn (yielded ops a2.tmps)=true then xn.wp C.P a2 hA _ Q\/(xn.asks C.P a2 hA/\LetsOut Q)else _);rw[if_pos (Cp hU)];left;change pY xn.op= .call (.t d0) args at iD;have XL:cJ xn.op=some (.call (.t d0) args):=by
   rcases ou iD with h|h
   .cases h
   .exact h
  have Oj:zd b:=g4.hG b ad;have Ok:hA.heap[b]? =some (.cells #[iX] ty fr):=by
   rw[g4.old b (aS.fy b ad) (λ⟨u,hu⟩=>aS.gf u b hu ad)];exact B5
  have Ol:∀j∈cs,a2.tmps.getD j undef=a.tmps.getD j undef:=by
   intro j cH;rw[g3 j (by simp[o_,cH])];exact Oi j (λe=>lW (e▸cH))
  have nG:a2.tmps.getD k undef= .pointer (some ⟨b,0,none⟩):=(Ol k xm).trans ay;have Om:(cs.map λj=>a.tmps.getD j undef)=cs.map λj=>a2.tmps.getD j undef:=List.map_congr_left λj cH=>(Ol j cH).symm;obtain⟨cv,c2⟩:=XD (k:=k) g4 nG Oj Ok rfl cs;have Ho:∀aB c7 aL,mv C aB rest K->Rel w F (λb=>∃u,S u b) ⟨n.n,n.fx⟩ ρ aB c7 aL->wpOps C.P ops Q ((List.range rest.length).map (·+(m.length+2))) c7 aL:=by
   intro ff a3 lJ aN CT;have Cy:=Of C K rest ((⟨some d0,.cp T (.t k),none⟩::m)++[⟨d1,.call (.t d0) args,none⟩]) [] ff aN;have:=H0 (Q:=Q) bx (ops:=ops) (ros:=((⟨some d0,.cp T (.t k),none⟩::m)++[⟨d1,.call (.t d0) args,none⟩])++(rest++[])) (l2:=[]) (K:=K) (λaB c7 aL lX e3=>by
     obtain⟨zF,z2,z3,XM,LI,z4⟩:=e3;exact a7 aB c7 aL lX ⟨zF,z2,z3,XM,LI,aS.Xz z4⟩) ((List.range rest.length).map (·+(m.length+2))) (λi an=>by
      have zu:((⟨some d0,.cp T (.t k),none⟩::m)++[⟨d1,.call (.t d0) args,none⟩])++(rest++[])=(⟨some d0,.cp T (.t k),none⟩::(m++⟨d1,.call (.t d0) args,none⟩::rest):List cb):=by simp
      rw[zu];refine⟨λlU=>?_,λo cy=>?_⟩
      .rw[List.getElem?_eq_none_iff];have:=Array.getElem?_eq_none_iff.1 lU;simp;omega
      .obtain⟨al,iB,ah⟩:=qO i o (by simpa using cy);obtain⟨r,ag,rfl⟩:∃r,(⟨some d0,.cp T (.t k),none⟩::(m++⟨d1,.call (.t d0) args,none⟩::rest):List cb)[i]? =some r/\r.un=al:=by
        rw[List.getElem?_map,Option.map_eq_some_iff]at iB;exact iB
       exact⟨r,ag,ah⟩) ff a3 lJ (by
      have e:((⟨some d0,.cp T (.t k),none⟩::m)++[⟨d1,.call (.t d0) args,none⟩]:List cb).length=m.length+2:=by simp
      rw[e]at Cy;exact Cy) CT
   rwa [List.append_nil]at this
  have XN:∀i∈n.fx,a2.tmps.getD i undef=ρ i:=by
   intro i an;rw[g3 i (by simp[o_,an]),Oi i (λe=>?_)]
   .exact ia i an
   .simp only[mr,Bool.and_eq_true,Bool.not_eq_true',List.contains_eq_mem,decide_eq_false_iff_not]at iS;exact iS.2 (e▸an)
  have zD:k0<cs.length:=(List.getElem?_eq_some_iff.1 xk).1;have XO:xn.dst=d1:=fY.symm;exact XA (n:=n) (ρ:=ρ) (K:=λaB=>mv C aB rest K) g1 g2 XN g4 XL Lx
   (arr:=(cs.map λj=>a2.tmps.getD j undef).toArray) (k:=k0) (caps:=cs.map (qS k s2)) (g:=g) (ps:=ps) (r:=r)
   (by rw[g3 d0 (by simp[o_]),XJ];simp only[iX,Om]) (by simpa using cv) c2
   ⟨b,ty,fr,by
     rw[List.getD_eq_getElem?_getD,List.getElem?_map,xk];exact nG,by rw[Ok];simp only[iX,Om],Oj⟩ (by simpa using zD)
   aX a6 aQ cC cF cc (by rw[XO];exact b4) Ho
 have:=H0 (Q:=Q) bx (ops:=ops) (ros:=[⟨some d0,.cp T (.t k),none⟩]++(m++⟨d1,.call (.t d0) args,none⟩::rest)) (l2:=(m.length+1)::(List.range rest.length).map (·+(m.length+2))) mid
  ((List.range m.length).map (·+1)) (λi an=>by
    obtain⟨j,cH,rfl⟩:=List.mem_map.1 an;have zG:j<m.length:=List.mem_range.1 cH;refine⟨λlU=>?_,λo cy=>?_⟩
    .have:=Array.getElem?_eq_none_iff.1 lU;omega
    .obtain⟨oq,zx,fu⟩:=IH (j+1) m[j] (by
      simp only[List.getElem?_cons_succ];rw[List.getElem?_append_left zG,List.getElem?_eq_getElem zG])
     have heq:oq=o:=by rw[zx]at cy;exact Option.some.inj cy
     subst heq;refine⟨m[j],by
      simp only[List.singleton_append,List.getElem?_cons_succ];rw[List.getElem?_append_left zG,List.getElem?_eq_getElem zG],?_⟩
     have XP:=hm m[j] (List.getElem_mem zG);unfold qM at fu⊢;split at fu
     .rename_i aj;rw[if_pos]
      .exact fu
      .cases On:oq.dst with
       |none=>rfl
       |some d=>
        rw[On]at aj;simp only[mr,Bool.and_eq_true,decide_eq_true_eq,Bool.not_eq_true',List.contains_eq_mem,decide_eq_false_iff_not]at aj⊢;refine⟨aj.1,?_⟩;have Cq:m[j].dst=some d:=by
         split at fu
         .simp only[cb.un,Option.some.injEq,cb.mk.injEq]at fu;rw[<-fu.1,On]
         .cases fu
        obtain⟨m1,m2⟩:=XP d Cq;simp only[o_,List.mem_cons,List.mem_append,not_or];exact⟨m1,λe=>m2 (e▸xm),m2,aj.2⟩
     .cases fu) (fin s (some d0) .hole) R w (by simpa using hw) XI
 exact this
def Oo (C:cl) (f:FuncId) (k k0:Nat) (cs:List Nat) (args:List aI) (d1:Option Nat) (rest:List cb) (keep:List Nat) (P:List (Nat×I)->Prop) (s1:ar):Prop:=
 ∃ps r,ps.map (·.a)=args.map (aP s1)++cs.map (qS k s1)/\(∀p∈ps,p.ok s1)/\ja ps=true/\
  nj C f args.length (args.length+k0) (ps.map (·.d)) r (ps.map (·.o))/\r.res=true/\(kL ps=true->r.dd=true/\∀p∈ps,p.o.dd=true)/\
  cP C (fin (iy (ft s1 ps) ps) d1 r) rest none (λ_ s=>P (jS keep s))
def p8 (C:cl) (f:FuncId) (k k0 d0:Nat) (cs:List Nat) (m:List cb) (args:List aI) (d1:Option Nat) (rest:List cb) (keep:List Nat) (P:List (Nat×I)->Prop) (s:ar):Prop:=
 cP C (fin s (some d0) .hole) m none λ_ s1=>Oo C f k k0 cs args d1 rest keep P s1
def Oq (C:cl) (f:FuncId) (k k0 d0:Nat) (cs:List Nat) (m:List cb) (args:List aI) (d1:Option Nat) (rest:List cb) (keep:List Nat) (K:ar->Prop) (s:ar):Prop:=
 p8 C f k k0 d0 cs m args d1 rest keep (λl=>K (ab l)) s
def IK (f:Nat->Bool) (m:List cb):Bool:=m.all λr=>match r.dst with
 |none=>true
 |some d=>f d
theorem Ot {f:Nat->Bool} {m:List cb} (h:IK f m=true):∀r∈m,∀d,r.dst=some d->f d=true:=by
 intro r aS d aj;have:=List.all_eq_true.1 h r aS;rw[aj]at this;exact this
theorem Ou (k:List Nat) (s:ar):zs s (jS k s):=by
 intro p au;obtain⟨t,_,rfl⟩:=List.mem_map.1 au;exact .inl rfl
def IL (C:cl) (f:FuncId) (k k0 d0:Nat) (cs:List Nat) (m:List cb) (args:List aI) (d1:Option Nat) (rest:List cb) (keep:List Nat):(Exit->ar->Prop)->ar->Prop:=
 λQ s=>Oq C f k k0 d0 cs m args d1 rest keep (Q .normal) s
def Ov (T:TypeId) (k d0:Nat) (m:List cb) (args:List aI) (d1:Option Nat) (rest:List cb):J:=
 .bW (⟨some d0,.cp T (.t k),none⟩::(m++⟨d1,.call (.t d0) args,none⟩::rest)) none
theorem XQ (vs:List Value):∀(m n:Nat),m+n=vs.length->vs.drop m=((List.range n).map (·+m)).map λj=>vs.getD j undef:=by
 intro m n h;apply List.ext_getElem?;intro i;rw[List.getElem?_drop,List.map_map,List.getElem?_map];by_cases an:i<n
 .rw[List.getElem?_range an,List.getElem?_eq_getElem (by omega)];simp only[Option.map_some,Function.comp];rw[List.getD_eq_getElem?_getD,List.getElem?_eq_getElem (by omega)];simp only[Option.getD_some,Option.some.injEq];congr 1;omega
 .rw[List.getElem?_eq_none (by omega),List.getElem?_eq_none (by simp;omega)];rfl
theorem CU {c:Code} {rs:List cb} (h:bq n c=some (.bW rs none)):∃id ops,c= .region id ops false/\qN n ops ops.toList=some rs:=by
 cases c with
 |region id ops draw=>
  cases draw with
  |false=>
   simp only[bq]at h;split at h
   .rename_i r ag;cases h;exact⟨id,ops,rfl,ag⟩
   .cases h
  |true=>
   simp only[bq]at h;split at h
   .simp only[Option.map_eq_some_iff]at h;obtain⟨r,ag,ah⟩:=h;cases ah
   .cases h
 |seq a b=>simp only[bq]at h;split at h<;>cases h
 |cond c a b=>simp only[bq]at h;split at h<;>cases h
 |block id b=>simp only[bq,Option.map_eq_some_iff]at h;obtain⟨r,ag,ah⟩:=h;cases ah
 |loop b=>simp only[bq,Option.map_eq_some_iff]at h;obtain⟨r,ag,ah⟩:=h;cases ah
 |_=>simp[bq]at h
def CV (C:cl) (f:FuncId) (fx:List Nat) (XR m k:Nat) (T:(Exit->ar->Prop)->ar->Prop) (b:J):Prop:=
 ∃(ty:TypeId) (k0 d0 oy:Nat) (iQ:List cb) (args:List aI) (d1:Option Nat) (rest:List cb) (keep:List Nat),
  T=IL C f k k0 d0 ((List.range oy).map (·+m)) iQ args d1 rest keep/\b=Ov ty k d0 iQ args d1 rest/\(C.T ty).flat=true/\IK (λd=>d !=d0&&decide (m+oy<=d)) iQ=true/\decide (m+oy<=d0)=true/\
  decide (k0<oy)=true/\k=m+k0/\((List.range oy).all λj=>fx.contains (m+j))=true/\args.length=m/\m+oy=XR
theorem nj.of_wp (bx:C.fc) {f:FuncId} {fn:Func} {c:Code} {dT:J} {fx:List Nat} {as outs:List I} {r:I} {k m:Nat} (bw:C.P.funcs[f]? =some fn) (ad:fn.body=some c)
  (kP:(fn.name== "runtime.NumGoroutine")=false) (ae:bq ⟨fn.ntmps,fx⟩ c=some dT.strip) (a7:as.length<=fn.ntmps)
  (ay:dT.nS (CV C f fx as.length m k))
  (h:∀Q:Exit->ar->Prop,(∀s,eK (Ends C fx fn.results.toList r outs) s->Q .ret s)->(∀s,eK (Ends C fx fn.results.toList r outs) s->Q .normal s)->dc C dT Q (ab (num 0 as))):nj C f m k as r outs:=by
 rintro w F X S vs hl ⟨b,XS,fr,aX,a6,aQ,cC⟩ aS;refine Ib (fx:=fx) bx bw ad kP a7 hl aS λa pZ eN=>?_;refine H_ bx (H:=CV C f fx as.length m k) ?_ c (by rw[J.H6];exact ae) (J.Cu dT ay) (Cv dT ?_) pZ
 .rintro c T gp Q s R fU ⟨ty,k0,d0,oy,iQ,args,d1,rest,keep,rfl,rfl,k8,hm,lW,CW,ay,ia,hlen,aHm⟩ zE XT ⟨g1,g2,g3,wH,ck,g4⟩;replace hm:∀r∈iQ,∀d,r.dst=some d->d≠d0/\m+oy<=d:=λr aS d aj=>by
   have:=Ot hm r aS d aj;simpa using this
  replace lW:=of_decide_eq_true lW;replace CW:=of_decide_eq_true CW;replace ia:∀j,j<oy->m+j∈fx:=λj cH=>by
   have:=List.all_eq_true.1 ia j (List.mem_range.2 cH);simpa using this
  obtain⟨id,ops,rfl,sQ⟩:=CU zE;have Ow:∀j,j<oy->R.tmps.getD (j+m) undef=vs.getD (j+m) undef:=λj cH=>by
   rw[Nat.add_comm];exact g3 _ (ia j cH)
  have hI:((List.range oy).map (·+m)).map (λj=>R.tmps.getD j undef)=vs.drop m:=by
   rw[XQ vs m oy (by omega),List.map_map,List.map_map];apply List.map_congr_left;intro j cH;exact Ow j (List.mem_range.1 cH)
  refine Og (Q:=uo w F X ⟨fn.ntmps,fx⟩ (hW vs) Q) (K:=eK (Q .normal)) (b:=b) (ty:=XS) (fr:=fr) (g:=f) (k0:=k0) (cs:=(List.range oy).map (·+m)) bx sQ k8 (λr aS d aj=>⟨(hm r aS d aj).1,λIM=>?_⟩) (λIM=>?_) ?_ g1 g2 g3 g4 (g4.hG b aQ) ?_ ?_ ?_ (λaB c7 aL ay e3=>e3.eK ay)
  .obtain⟨j,cH,rfl⟩:=List.mem_map.1 IM;have:=(hm r aS _ aj).2;have:=List.mem_range.1 cH;omega
  .obtain⟨j,cH,e⟩:=List.mem_map.1 IM;have:=List.mem_range.1 cH;omega
  .rw[List.getElem?_map,List.getElem?_range CW,ay];simp[Nat.add_comm]
  .rw[ay,Nat.add_comm,Ow k0 CW,Nat.add_comm,<-ay];exact aX
  .rw[hI,g4.old b (aS.fy b aQ) cC];exact a6
  .refine uv (λ_ s1=>?_) XT;rintro⟨ps,r,hz,gw,iR,iS,qA,uk,zk⟩;exact⟨ps,r,hz,gw,iR,iS,qA,uk,uv (λ_ s h=>.inr ⟨_,Ou _ _,h⟩) zk⟩
 .rw[Ih];exact h _ (λs h=>⟨.inr rfl,h⟩) (λs h=>⟨.inl rfl,h⟩)
theorem XU {Q:Exit->ar->Prop} {l:List (Nat×I)} {f:FuncId} {k k0 d0:Nat} {cs:List Nat} {m:List cb} {args:List aI} {d1:Option Nat} {rest:List cb} {keep:List Nat} {b:J} (eO:List (Nat×I))
  (h:∀P:List (Nat×I)->Prop,P eO->p8 C f k k0 d0 cs m args d1 rest keep P (ab l)) (ay:Q .normal (ab eO)):dc C (.jE (IL C f k k0 d0 cs m args d1 rest keep) b) Q (ab l):=
 λeR IP=>h (λl=>eR .normal (ab l)) (IP _ _ ay)
theorem Ox {l:List (Nat×I)} {f:FuncId} {k k0:Nat} {cs:List Nat} {args:List aI} {d1:Option Nat} {rest:List cb} {keep:List Nat} {P:List (Nat×I)->Prop} {r:I} (ps:List cZ)
  (bR:nj C f args.length (args.length+k0) (ps.map (·.d)) r (ps.map (·.o))) (ah:ps.map (·.a)=iV (ab l) args++cs.map (qS k (ab l))) (aN:qR (ab l) ps) (bg:ja ps=true)
  (cW:r.res=true) (cE:kL ps=false\/(r.dd&&rP ps)=true)
  (ke:cP C (fin (iy (ft (ab l) ps) ps) d1 r) rest none (λ_ s=>P (jS keep s))):Oo C f k k0 cs args d1 rest keep P (ab l):=by
 refine⟨ps,r,by rw[ah,wU],CJ aN,bg,bR,cW,?_,ke⟩;intro hl;rcases cE with cE|cE
 .rw[cE]at hl;cases hl
 .rw[Bool.and_eq_true]at cE;exact⟨cE.1,CK cE.2⟩
end
end Go.c_
