/- Part of a proof that a law returns true for every input. No condition. -/
import Derived.Test.YtmaepbgkcmjcjafGreatDoorFwI
namespace Go.eg
open List Go.IntKind Nat
def pn (C:cm) (f:FuncId) (m k:Nat) (as:ayk) (r:I) (outs:ayk):Prop:=
 ∀(w:World) (F X:Nat->Prop) (S:Nat->Nat->Prop) (vs:ayi),vs.length=as.length->
  (∃b ty fr,vs.getD k undef= .pointer (some ⟨b,0,none⟩)/\w.heap[b]? =some (.cells #[.func (.func f) #[] (vs.drop m).toArray] ty fr)/\F b/\¬X b)->
  cb w F X F S (gf as) (ik vs) w->
  q8 C.P f vs.toArray w λv aN=>∃ch a7,cb w F X ch a7 (gf (r::outs)) (ik (v::vs)) aN
section
variable {C:cm} {w0 w:World} {F0 X F ch:Nat->Prop} {S a7:Nat->Nat->Prop} {n:Fr} {ρ:Nat->Value} {s aH:ak} {aI mI:Nat->Value} {a:Act} {av:I} {Q:Exit->Act->World->Prop} {aN:World}
theorem cb.base (h:cb w0 F0 X F S s aI w):cb w F (λb=>∃u,S u b) F S s aI w where
 h3:=λ_ h=>h
 iB:=λ_ h=>.inl h
 f_:=h.f_
 fz:=h.fz
 gD:=h.gD
 ga:=h.ga
 eU:=λu b aa=>.inl ⟨u,aa⟩
 el:=h.el
 old:=λ_ _ _=>rfl
 size:=Nat.le_refl _
 os:=rfl
 tape:=rfl
 output:=Out.refl _
 gq:=h.gq.next h.size h.old λb ⟨u,hu⟩=>h.eU u b hu
theorem cb.WL (h:cb w0 F0 X F S s aI w) (bC:cb w F (λb=>∃u,S u b) ch a7 aH mI aN):cb w0 F0 X ch a7 aH mI aN where
 h3:=λb aa=>bC.h3 b (h.h3 b aa)
 iB:=λb aa=>by
  rcases bC.iB b aa with aa|⟨u,aa⟩|aa
  .exact h.iB b aa
  .exact .inr (h.eU u b aa)
  .exact .inr (.inr (Nat.le_trans h.size aa))
 f_:=bC.f_
 fz:=bC.fz
 gD:=bC.gD
 ga:=bC.ga
 eU:=λu b aa=>by
  rcases bC.eU u b aa with⟨u,aa⟩|aa
  .exact h.eU u b aa
  .exact .inr (Nat.le_trans h.size aa)
 el:=bC.el
 old:=λb aa mJ=>by
  refine(bC.old b (Nat.lt_of_lt_of_le aa h.size) λ⟨u,hu⟩=>?_).trans (h.old b aa mJ);rcases h.eU u b hu with ao|ao
  .exact mJ ao
  .omega
 size:=Nat.le_trans h.size bC.size
 os:=bC.os.trans h.os
 tape:=bC.tape.trans h.tape
 output:=bC.output.trans h.output
 gq:=h.gq
inductive tU:ayk->ayk->Prop
 |nil:tU [] []
 |eq {a:I} {as lW:ayk}:a.ab=[]->tU as lW->tU (a::as) (a::lW)
 |wd {a b:I} {as lW:ayk}:fL a b->a.tree=true->b.ab=[]->tU as lW->tU (a::as) (b::lW)
theorem tU.get:∀{as lW:ayk},tU as lW->∀p k,p∈num k lW->p.2.ab=[]/\∃a,as[p.1-k]? =some a/\k<=p.1/\(p.2=a\/(a.tree=true/\fL a p.2))
 |_,_,.nil,p,k,ax=>by simp[num]at ax
 |_,_,.eq (a:=a) h hw,p,k,ax=>by
  simp only[num,mem_cons]at ax;rcases ax with rfl|ax
  .exact⟨h,a,by simp,Nat.le_refl _,.inl rfl⟩
  .obtain⟨ad,x,af,aG,bf⟩:=hw.get p (k+1) ax;refine⟨ad,x,?_,by omega,bf⟩;rw[show p.1-k=(p.1-(k+1))+1 by omega,getElem?_cons_succ];exact af
 |_,_,.wd (a:=a) h ba aa hw,p,k,ax=>by
  simp only[num,mem_cons]at ax;rcases ax with rfl|ax
  .exact⟨aa,a,by simp,Nat.le_refl _,.inr ⟨ba,h⟩⟩
  .obtain⟨ad,x,af,aG,bf⟩:=hw.get p (k+1) ax;refine⟨ad,x,?_,by omega,bf⟩;rw[show p.1-k=(p.1-(k+1))+1 by omega,getElem?_cons_succ];exact af
theorem tU.len:∀{as lW:ayk},tU as lW->lW.length=as.length
 |_,_,.nil=>rfl
 |_,_,.eq _ hw=>by simp[hw.len]
 |_,_,.wd _ _ _ hw=>by simp[hw.len]
theorem aW.agh {f:FuncId} {as lW:ayk} {r:I} {outs:ayk} (h:aW C f lW r outs) (hw:tU as lW):aW C f as r outs:=by
 intro w F X S vs hl aQ;have NR:xl (gf as) (num 0 lW):=λp ax=>by
  obtain⟨ad,a,af,_,bf⟩:=hw.get p 0 ax;have e:gf as p.1=a:=by simp[gf,List.getD,show as[p.1]? =some a from af]
  rw[e];rcases bf with bf|⟨ba,bf⟩
  .exact .inl bf
  .refine .inr ⟨ba,bf,λda fp=>.inl ?_⟩;rw[(hw.get da 0 fp).1];simp
 obtain⟨ch,a7,af⟩:=aQ.Nc NR;rw[<-EF]at af;exact(h w ch _ a7 vs (hl.trans hw.len.symm) af.base).mono λv aN ⟨vn,eF,aG⟩=>⟨vn,eF,af.WL aG⟩
theorem WM (C:cm) (K:ak->Prop):∀(rs pre post:List cu) (s:ak),n7 C s rs K->kH C (pre++(rs++post)) s ((range rs.length).map (·+pre.length)) K:=by
 intro rs;induction rs with
 |nil=>intro pre post s h;exact h
 |cons r rs ih=>
  intro pre post s h;rw[length_cons,range_succ_eq_map,map_cons,List.map_map];simp only[kH,Nat.zero_add];rw[getElem?_append_right (Nat.le_refl _)];simp only[Nat.sub_self,cons_append,getElem?_cons_zero];have key:∀s1,n7 C s1 rs K->kH C (pre++r::(rs++post)) s1 ((range rs.length).map ((λx=>x+pre.length)∘succ)) K:=by
   intro s1 ad;have:=ih (pre++[r]) post s1 ad;simp only[append_assoc,singleton_append,length_append,length_singleton]at this;have e:((λx=>x+pre.length)∘succ)=λx=>x+(pre.length+1):=by funext x;simp;omega
   rw[e];exact this
  simp only[n7]at h;exact Iq h key
theorem agi (kV:a.defers=[]) (fj:a.tmps.size=n.n) (jn:∀i∈n.fx,a.tmps.getD i undef=ρ i) (aQ:cb w0 F0 X F S s (λt=>a.tmps.getD t undef) w)
  {o:Oper} {d0 k:Nat} {args:List bz} {g:FuncId} {caps:ayk} {arr:Array Value} {ps:List dp} {r:I} (c7:dB o.op=some (.call (.t d0) args)) (an:n5 n o.dst=true)
  (aJ:a.tmps.getD d0 undef= .func (.func g) #[] arr) (ar:e_ w F s (λt=>a.tmps.getD t undef) caps arr.toList) (hV:I.e5 caps=true)
  (agj:∃b ty fr,(arr.toList).getD k undef= .pointer (some ⟨b,0,none⟩)/\w.heap[b]? =some (.cells #[.func (.func g) #[] arr] ty fr)/\F b) (EU:k<arr.size)
  (af:ps.map (·.a)=args.map (bu s)++caps) (aG:∀p∈ps,p.ok s) (bf:jI ps=true) (bU:pn C g args.length (args.length+k) (ps.map (·.d)) r (ps.map (·.o))) (dc:r.res=true)
  (c1:l5 ps=true->r.cX=true/\∀p∈ps,p.o.cX=true) {K:ak->Prop} {next:Act->World->Prop} (g_:K (fin (jb (fT s ps) ps) o.dst r))
  (aV:∀aH dt aN,K aH->Rel w0 F0 X n ρ aH dt aN->next dt aN):o.wp C.P a w next Q:=by
 obtain⟨dst,op,ty,pos,after,guard⟩:=o;simp only at c7 an g_;cases op with
 |call c=>
  obtain⟨callee,pM,argTypes⟩:=c;simp only[dB]at c7;split at c7
  .split at c7
   .rename_i Ep _ _ aey xs bD tM;simp only[Option.some.injEq,e2.call.injEq]at c7;obtain⟨rfl,rfl⟩:=c7;have D7:Ep= .tmp d0:=by
     cases Ep with
     |tmp t=>simp only[eJ,Option.some.injEq,bz.t.injEq]at bD;rw[bD]
     |const v=>simp only[eJ,Option.map_eq_some_iff]at bD;obtain⟨c,_,bD⟩:=bD;cases bD
     |func g=>simp[eJ]at bD
     |global g=>simp[eJ]at bD
    subst D7;have Er:execOp a.eval {dst,op:=.call {callee:=.value (.tmp d0),args:=pM,argTypes},type:=ty,pos,after,guard}=callFunc g ((pM.toList.map a.eval++arr.toList).toArray):=by
     have:a.eval (.tmp d0)= .func (.func g) #[] arr:=aJ;simp only[execOp,resolve,this,Deferred.ofValue,pure_bind,invoke];congr 1;apply Array.ext';simp
    unfold Oper.wp;rw[Er];have hlen:(pM.toList.map a.eval).length=xs.length:=by
     have:=congrArg length (yQ tM);simpa using this
    have Es:e_ w F s (λt=>a.tmps.getD t undef) (xs.map (bu s)++caps) (pM.toList.map a.eval++arr.toList):=U1 (Ie aQ (λ_=>rfl) _ _ (yQ tM)) ar;rw[<-af]at Es;obtain⟨h5,l2⟩:=U2 Es;have fI:∀d∈xs.map (bu s)++caps,d.plain=true:=by
     intro d an;rcases mem_append.1 an with an|an
     .obtain⟨x,ao,rfl⟩:=mem_map.1 an;exact TG s x λav e=>by
       subst e;have hm:=yQ tM;have:some (bz.c av)∈xs.map some:=mem_map.2 ⟨_,ao,rfl⟩;rw[<-hm]at this;obtain⟨o,_,bI⟩:=mem_map.1 this;cases o with
       |const v=>simp only[eJ,Option.map_eq_some_iff]at bI;obtain⟨c,ar,e⟩:=bI;cases e;exact Md ar
       |tmp n=>simp[eJ]at bI
       |func g=>simp[eJ]at bI
       |global g=>simp[eJ]at bI
     .obtain⟨k,au⟩:=getElem?_of_mem an;exact HO hV au
    have M5:=UW (C:=C) aQ (ps:=ps) (vs:=pM.toList.map a.eval++arr.toList) (f:=g) (r:=r) (by simpa using h5)
     (λi p v ax aJ=>⟨fI p.a (by rw[<-af];exact mem_map.2 ⟨p,mem_of_getElem? ax,rfl⟩),l2 i p.a v (by simp[ax]) aJ⟩) aG bf
     (λFc ph fi bE mJ ax=>by
      refine bU w Fc ph fi _ (by rw[<-h5];simp) ?_ ax;obtain⟨b,IV,fr,aP,aY,aU⟩:=agj;refine⟨b,IV,fr,?_,?_,bE b aU,λao=>by obtain⟨u,hu⟩:=mJ b ao;exact aQ.gD u b hu aU⟩
      .rw[getD_eq_getElem?_getD,getElem?_append_right (by omega),hlen,Nat.add_sub_cancel_left,<-getD_eq_getElem?_getD];exact aP
      .rw[aY,<-hlen,drop_left])
     dc c1
    rcases M5 with⟨eh,bc⟩|⟨v,aN,eh,ch,a7,bc,dm⟩
    .rw[eh,Oper.upon_enter];refine Calls.mono bc ?_;rintro e aN ⟨v,rfl,ch,a7,bS,ct⟩;exact aV _ _ _ g_ (Rel.put kV fj jn bS ct.1 an)
    .rw[eh,Oper.upon_value];exact aV _ _ _ g_ (Rel.put kV fj jn bc dm.1 an)
   .cases c7
  .split at c7
   .simp only[Option.map_eq_some_iff]at c7;obtain⟨_,_,c7⟩:=c7;cases c7
   .cases c7
  .split at c7
   .simp only[Option.map_eq_some_iff]at c7;obtain⟨_,_,c7⟩:=c7;cases c7
   .cases c7
  iterate 3
   .split at c7
    .split at c7<;>cases c7
    .cases c7
  .cases c7
 |makeFunc fn first cs=>
  cases fn<;>simp only[dB]at c7<;>first|(cases c7;done)|(split at c7<;>simp at c7)
 |slice T x fP aj fq=>
  cases fq<;>simp only[dB]at c7<;>first|(cases c7;done)|(split at c7<;>simp at c7)
 |makeMap T r=>cases r<;>simp only[dB]at c7<;>simp at c7
 |lookup T x i c=>cases c<;>simp only[dB]at c7<;>first|(cases c7;done)|(split at c7<;>simp at c7)
 |_=>simp only[dB]at c7<;>first|(cases c7;done)|(simp at c7;done)|(split at c7<;>simp at c7)
theorem agk {op:Op} {T:TypeId} {x:bz} (h:dB op=some (.fS T x)):∃y,op= .load T y/\eJ y=some x:=by
 cases op with
 |load M7 y=>
  simp only[dB,Option.map_eq_some_iff]at h;obtain⟨cN,ao,h⟩:=h;cases h;exact⟨y,rfl,ao⟩
 |call c=>
  obtain⟨callee,pM,argTypes⟩:=c;simp only[dB]at h;split at h<;>(try split at h)<;>(try split at h)<;>(try simp[Option.map_eq_some_iff]at h)
 |makeFunc fn first cs=>
  cases fn<;>simp only[dB]at h<;>first|(cases h;done)|(split at h<;>simp at h)
 |slice T x fP aj fq=>
  cases fq<;>simp only[dB]at h<;>first|(cases h;done)|(split at h<;>simp at h)
 |makeMap T r=>cases r<;>simp only[dB]at h<;>simp at h
 |lookup T x i c=>cases c<;>simp only[dB]at h<;>first|(cases h;done)|(split at h<;>simp at h)
 |_=>simp only[dB]at h<;>first|(cases h;done)|(simp at h;done)|(split at h<;>simp at h)
theorem IW {y:Operand} {k:Nat} (h:eJ y=some (.t k)):y= .tmp k:=by
 cases y with
 |tmp t=>simp only[eJ,Option.some.injEq,bz.t.injEq]at h;rw[h]
 |const v=>simp only[eJ,Option.map_eq_some_iff]at h;obtain⟨c,_,h⟩:=h;cases h
 |func g=>simp[eJ]at h
 |global g=>simp[eJ]at h
def tV (k:Nat) (s:ak) (j:Nat):I:=if j=k then .ref .hole else tA j (s j)
theorem agl {aI:Nat->Value} {b k:Nat} {v:Value} {ty:TypeId} {fr:Nat×Nat} (aQ:cb w0 F0 X F S s aI w) (au:aI k= .pointer (some ⟨b,0,none⟩)) (aa:F b) (ar:w.heap[b]? =some (.cells #[v] ty fr)) (ad:Value.hF v=true):
  ∀cs:ayf,e_ w F s aI (cs.map (tV k s)) (cs.map aI)/\I.e5 (cs.map (tV k s))=true:=by
 intro cs;induction cs with
 |nil=>exact⟨by rw[map_nil,map_nil,e_],rfl⟩
 |cons j cs ih=>
  simp only[map_cons];have bF:aO w F s aI (tV k s j) (aI j) (λ_=>False)/\(tV k s j).plain=true:=by
   unfold tV;split
   .rename_i e;subst e;rw[au];refine⟨(aO.dh rfl).2 ⟨rfl,?_⟩,rfl⟩;rw[aB];refine⟨b,0,[v],rfl,aa,?_,?_⟩
    .intro i c aj;cases i with
     |zero=>simp at aj;subst aj;simp[World.cell?,ar]
     |succ i=>simp at aj
    .rw[aB];exact⟨v,ad,rfl⟩
   .unfold tA;split
    .rename_i ax;exact⟨aO.nothing ax (aQ.el j),ax⟩
    .rename_i ax;refine⟨?_,rfl⟩;rw[aO];intro d an ax;simp only[I.sub,Option.some.injEq]at an;subst an;have ba:(s j).tree=true:=by
      cases ab:s j<;>first|rfl|(rw[ab]at ax;simp[I.plain]at ax)
     exact⟨_,none,rfl,rfl,((aO.dh ba).1 (aQ.el j)).1⟩
  refine⟨?_,?_⟩
  .rw[e_];exact⟨_,_,rfl,bF.1,ih.1⟩
  .simp only[I.e5,bF.2,ih.2,Bool.and_self]
theorem WN (bP:C.fH) {id:Nat} {ops:Array Oper} {T:TypeId} {k k0 d0:Nat} {m rest:List cu} {args:List bz} {d1:Option Nat} {g:FuncId} {cs:ayf} {b:Nat} {ty:TypeId} {fr:Nat×Nat} {K:ak->Prop}
  (xj:tO n ops ops.toList=some ((⟨some d0,.fS T (.t k),none⟩::(m++⟨d1,.call (.t d0) args,none⟩::rest):List cu).map cu.un))
  (ld:(C.T T).flat=true) (hm:∀r∈m,∀d,r.dst=some d->d≠d0/\d∉cs) (nB:d0∉cs) (Bm:cs[k0]? =some k)
  (kV:a.defers=[]) (fj:a.tmps.size=n.n) (jn:∀i∈n.fx,a.tmps.getD i undef=ρ i) (aQ:cb w0 F0 X F S s (λt=>a.tmps.getD t undef) w)
  (aa:F b) (au:a.tmps.getD k undef= .pointer (some ⟨b,0,none⟩)) (H0:w.heap[b]? =some (.cells #[.func (.func g) #[] (cs.map λj=>a.tmps.getD j undef).toArray] ty fr))
  (h:n7 C (fin s (some d0) .hole) m λs1=>∃ps r,ps.map (·.a)=args.map (bu s1)++cs.map (tV k s1)/\(∀p∈ps,p.ok s1)/\jI ps=true/\
   pn C g args.length (args.length+k0) (ps.map (·.d)) r (ps.map (·.o))/\r.res=true/\(l5 ps=true->r.cX=true/\∀p∈ps,p.o.cX=true)/\n7 C (fin (jb (fT s1 ps) ps) d1 r) rest K)
  (aV:∀aH dt aN,K aH->Rel w0 F0 X n ρ aH dt aN->Q .normal dt aN):(Code.region id ops false).wp C.P Q a w:=by
 obtain⟨hl,rb⟩:=Eu xj;have NW:∀(i:Nat) (r:cu),(⟨some d0,.fS T (.t k),none⟩::(m++⟨d1,.call (.t d0) args,none⟩::rest):List cu)[i]? =some r->∃o,ops[i]? =some o/\tN n ops o=some r.un:=by
  intro i r aj;have eI:i<ops.toList.length:=by
   rw[hl,length_map];exact(List.getElem?_eq_some_iff.1 aj).1
  obtain⟨hN,ad,af⟩:=rb i _ (getElem?_eq_getElem eI);rw[getElem?_map,aj]at ad;simp only[Option.map_some,Option.some.injEq]at ad;exact⟨_,by rw[<-Array.getElem?_toList];exact getElem?_eq_getElem eI,by rw[ad];exact af⟩
 have Bn:∀{r:cu} {o:Oper},r.guard=none->tN n ops o=some r.un->r.dst=o.dst/\o.guard=none/\su o.op=r.bX.base/\n5 n o.dst=true:=by
  intro r o hg h;unfold tN at h;split at h
  .rename_i an;split at h
   .rename_i WO iQ;simp only[cu.un,Option.some.injEq,cu.mk.injEq]at h;obtain⟨aP,aY,aU⟩:=h;refine⟨aP.symm,?_,aY,an⟩;rw[aU,hg]at iQ;cases bI:o.guard with
    |none=>rfl
    |some Na=>
     rw[bI]at iQ;simp only[En]at iQ;split at iQ<;>cases iQ
   .cases h
  .cases h
 have agm:ops.size=m.length+rest.length+2:=by
  have:ops.toList.length=ops.size:=by simp
  rw[<-this,hl];simp;omega
 have agn:range ops.size=0::((range m.length).map (·+1)++((m.length+1)::(range rest.length).map (·+(m.length+2)))):=by
  rw[agm,show m.length+rest.length+2=(m.length+rest.length+1)+1 from rfl,range_succ_eq_map];congr 1;rw[show m.length+rest.length+1=m.length+(rest.length+1) by omega,range_add,map_append,range_succ_eq_map];simp only[List.map_map,map_cons,Nat.add_zero];congr 1;congr 1;apply map_congr_left;intro x _;simp;omega
 obtain⟨xC,ago,nn⟩:=NW 0 _ rfl;obtain⟨gU,gy,iE,i7⟩:=Bn rfl nn;change su xC.op= .fS T (.t k)at iE;have EV:dB xC.op=some (.fS T (.t k)):=by
  rcases sv iE with h|h
  .cases h
  .exact h
 obtain⟨y,hy,agp⟩:=agk EV;have:=IW agp;subst this;let jP:Value:=.func (.func g) #[] (cs.map λj=>a.tmps.getD j undef).toArray
 have ml:jv w b 0 [jP]:=by
  intro i c aj;cases i with
  |zero=>simp at aj;subst aj;simp[World.cell?,H0,jP]
  |succ i=>simp at aj
 refine wp_region ?_;rw[agn];simp only[wpOps,ago];show(if Region.wanted xC (yielded ops a.tmps)=true then xC.wp C.P a w _ Q\/(xC.asks C.P a w/\LetsOut Q)else _);rw[if_pos (Ik gy)];left;have Er:(execOp a.eval xC).run C.P w= .ok (.value jP) w:=by
  obtain⟨dst,op,ty,pos,after,guard⟩:=xC;simp only at hy;subst hy;have:a.eval (.tmp k)= .pointer (some ⟨b,0,none⟩):=au;simp[execOp,this,Instr.loadAt,Instr.sureAddr,TM bP ld ml]
 unfold Oper.wp;rw[Er,Oper.upon_value];have NX:some d0=xC.dst:=gU;rw[<-NX]at i7⊢;let J:Act:=a.put (some d0) jP
 let mv:Fr:=⟨n.n,d0::k::(cs++n.fx)⟩
 let ρ1:Nat->Value:=λt=>J.tmps.getD t undef
 have tW:k∈cs:=mem_of_getElem? Bm;have tI:=aQ.base;have NY:Rel w F (λb=>∃u,S u b) ⟨n.n,[]⟩ ρ1 (fin s (some d0) .hole) J w:=
  Rel.put (n:=⟨n.n,[]⟩) kV fj (λi aj=>by cases aj) tI (.inl ⟨rfl,by rw[aO];trivial⟩) (by
   simp only[n5,Bool.and_eq_true,decide_eq_true_eq]at i7⊢;exact⟨i7.1,by simp⟩)
 have agq:Rel w F (λb=>∃u,S u b) mv ρ1 (fin s (some d0) .hole) J w:=⟨NY.defers,NY.size,λi _=>rfl,NY.rel⟩
 have WQ:∀t,t≠d0->ρ1 t=a.tmps.getD t undef:=by
  intro t ba;have:=congrFun (Eo (n:=n) (dst:=some d0) (a:=a) jP fj i7).1 t;simp only[qd]at this;rw[lb _ _ ba]at this;exact this
 have agr:ρ1 d0=jP:=by
  have:=congrFun (Eo (n:=n) (dst:=some d0) (a:=a) jP fj i7).1 d0;simp only[qd]at this;rw[oC]at this;exact this
 have hw:=WM C _ m [⟨some d0,.fS T (.t k),none⟩] (⟨d1,.call (.t d0) args,none⟩::rest) _ h;have mid:∀aH dt aN,(∃ps r,ps.map (·.a)=args.map (bu aH)++cs.map (tV k aH)/\(∀p∈ps,p.ok aH)/\jI ps=true/\
   pn C g args.length (args.length+k0) (ps.map (·.d)) r (ps.map (·.o))/\r.res=true/\(l5 ps=true->r.cX=true/\∀p∈ps,p.o.cX=true)/\n7 C (fin (jb (fT aH ps) ps) d1 r) rest K)->
   Rel w F (λb=>∃u,S u b) mv ρ1 aH dt aN->wpOps C.P ops Q ((m.length+1)::(range rest.length).map (·+(m.length+2))) dt aN:=by
  rintro s2 a2 hf ⟨ps,r,aP,aY,aU,b4,cM,cl,b9⟩ ⟨g1,g2,g3,vn,eF,g4⟩;obtain⟨Bo,ags,mK⟩:=NW (m.length+1) ⟨d1,.call (.t d0) args,none⟩ (by simp);obtain⟨gT,iO,j2,TY⟩:=Bn rfl mK;simp only[wpOps,ags];show(if Region.wanted Bo (yielded ops a2.tmps)=true then Bo.wp C.P a2 hf _ Q\/(Bo.asks C.P a2 hf/\LetsOut Q)else _);rw[if_pos (Ik iO)];left;change su Bo.op= .call (.t d0) args at j2;have agt:dB Bo.op=some (.call (.t d0) args):=by
   rcases sv j2 with h|h
   .cases h
   .exact h
  have WR:vn b:=g4.h3 b aa;have WS:hf.heap[b]? =some (.cells #[jP] ty fr):=by
   rw[g4.old b (aQ.f_ b aa) (λ⟨u,hu⟩=>aQ.gD u b hu aa)];exact H0
  have WT:∀j∈cs,a2.tmps.getD j undef=a.tmps.getD j undef:=by
   intro j bF;rw[g3 j (by simp[mv,bF])];exact WQ j (λe=>nB (e▸bF))
  have o8:a2.tmps.getD k undef= .pointer (some ⟨b,0,none⟩):=(WT k tW).trans au;have WU:(cs.map λj=>a.tmps.getD j undef)=cs.map λj=>a2.tmps.getD j undef:=map_congr_left λj bF=>(WT j bF).symm;obtain⟨cr,c2⟩:=agl (k:=k) g4 o8 WR WS rfl cs;have Mx:∀aH dt aN,n7 C aH rest K->Rel w F (λb=>∃u,S u b) ⟨n.n,n.fx⟩ ρ aH dt aN->wpOps C.P ops Q ((range rest.length).map (·+(m.length+2))) dt aN:=by
   intro pg a3 oL aG IX;have Iu:=WM C K rest ((⟨some d0,.fS T (.t k),none⟩::m)++[⟨d1,.call (.t d0) args,none⟩]) [] pg aG;have:=M_ (Q:=Q) bP (ops:=ops) (ros:=((⟨some d0,.fS T (.t k),none⟩::m)++[⟨d1,.call (.t d0) args,none⟩])++(rest++[])) (l2:=[]) (K:=K) (λaH dt aN nD fw=>by
     obtain⟨qq,z2,z3,agu,T8,z4⟩:=fw;exact aV aH dt aN nD ⟨qq,z2,z3,agu,T8,aQ.WL z4⟩) ((range rest.length).map (·+(m.length+2))) (λi aj=>by
      have ED:((⟨some d0,.fS T (.t k),none⟩::m)++[⟨d1,.call (.t d0) args,none⟩])++(rest++[])=(⟨some d0,.fS T (.t k),none⟩::(m++⟨d1,.call (.t d0) args,none⟩::rest):List cu):=by simp
      rw[ED];refine⟨λnA=>?_,λo bI=>?_⟩
      .rw[List.getElem?_eq_none_iff];have:=Array.getElem?_eq_none_iff.1 nA;simp;omega
      .obtain⟨ai,k9,af⟩:=rb i o (by simpa using bI);obtain⟨r,ad,rfl⟩:∃r,(⟨some d0,.fS T (.t k),none⟩::(m++⟨d1,.call (.t d0) args,none⟩::rest):List cu)[i]? =some r/\r.un=ai:=by
        rw[getElem?_map,Option.map_eq_some_iff]at k9;exact k9
       exact⟨r,ad,af⟩) pg a3 oL (by
      have e:((⟨some d0,.fS T (.t k),none⟩::m)++[⟨d1,.call (.t d0) args,none⟩]:List cu).length=m.length+2:=by simp
      rw[e]at Iu;exact Iu) IX
   rwa [append_nil]at this
  have agv:∀i∈n.fx,a2.tmps.getD i undef=ρ i:=by
   intro i aj;rw[g3 i (by simp[mv,aj]),WQ i (λe=>?_)]
   .exact jn i aj
   .simp only[n5,Bool.and_eq_true,Bool.not_eq_true',contains_eq_mem,decide_eq_false_iff_not]at i7;exact i7.2 (e▸aj)
  have EU:k0<cs.length:=(List.getElem?_eq_some_iff.1 Bm).1;have agw:Bo.dst=d1:=gT.symm;exact agi (n:=n) (ρ:=ρ) (K:=λaH=>n7 C aH rest K) g1 g2 agv g4 agt TY
   (arr:=(cs.map λj=>a2.tmps.getD j undef).toArray) (k:=k0) (caps:=cs.map (tV k s2)) (g:=g) (ps:=ps) (r:=r)
   (by rw[g3 d0 (by simp[mv]),agr];simp only[jP,WU]) (by simpa using cr) c2
   ⟨b,ty,fr,by
     rw[getD_eq_getElem?_getD,getElem?_map,Bm];exact o8,by rw[WS];simp only[jP,WU],WR⟩ (by simpa using EU)
   aP aY aU b4 cM cl (by rw[agw];exact b9) Mx
 have:=M_ (Q:=Q) bP (ops:=ops) (ros:=[⟨some d0,.fS T (.t k),none⟩]++(m++⟨d1,.call (.t d0) args,none⟩::rest)) (l2:=(m.length+1)::(range rest.length).map (·+(m.length+2))) mid
  ((range m.length).map (·+1)) (λi aj=>by
    obtain⟨j,bF,rfl⟩:=mem_map.1 aj;have EW:j<m.length:=mem_range.1 bF;refine⟨λnA=>?_,λo bI=>?_⟩
    .have:=Array.getElem?_eq_none_iff.1 nA;omega
    .obtain⟨qk,EJ,fX⟩:=NW (j+1) m[j] (by
      simp only[getElem?_cons_succ];rw[getElem?_append_left EW,getElem?_eq_getElem EW])
     have heq:qk=o:=by rw[EJ]at bI;exact Option.some.inj bI
     subst heq;refine⟨m[j],by
      simp only[singleton_append,getElem?_cons_succ];rw[getElem?_append_left EW,getElem?_eq_getElem EW],?_⟩
     have agx:=hm m[j] (getElem_mem EW);unfold tN at fX⊢;split at fX
     .rename_i an;rw[if_pos]
      .exact fX
      .cases WV:qk.dst with
       |none=>rfl
       |some d=>
        rw[WV]at an;simp only[n5,Bool.and_eq_true,decide_eq_true_eq,Bool.not_eq_true',contains_eq_mem,decide_eq_false_iff_not]at an⊢;refine⟨an.1,?_⟩;have Il:m[j].dst=some d:=by
         split at fX
         .simp only[cu.un,Option.some.injEq,cu.mk.injEq]at fX;rw[<-fX.1,WV]
         .cases fX
        obtain⟨m1,m2⟩:=agx d Il;simp only[mv,mem_cons,mem_append,not_or];exact⟨m1,λe=>m2 (e▸tW),m2,an.2⟩
     .cases fX) (fin s (some d0) .hole) J w (by simpa using hw) agq
 exact this
def WW (C:cm) (f:FuncId) (k k0:Nat) (cs:ayf) (args:List bz) (d1:Option Nat) (rest:List cu) (keep:ayf) (P:ayj->Prop) (s1:ak):Prop:=
 ∃ps r,ps.map (·.a)=args.map (bu s1)++cs.map (tV k s1)/\(∀p∈ps,p.ok s1)/\jI ps=true/\
  pn C f args.length (args.length+k0) (ps.map (·.d)) r (ps.map (·.o))/\r.res=true/\(l5 ps=true->r.cX=true/\∀p∈ps,p.o.cX=true)/\
  dJ C (fin (jb (fT s1 ps) ps) d1 r) rest none (λ_ s=>P (hs keep s))
def sD (C:cm) (f:FuncId) (k k0 d0:Nat) (cs:ayf) (m:List cu) (args:List bz) (d1:Option Nat) (rest:List cu) (keep:ayf) (P:ayj->Prop) (s:ak):Prop:=
 dJ C (fin s (some d0) .hole) m none λ_ s1=>WW C f k k0 cs args d1 rest keep P s1
def WX (C:cm) (f:FuncId) (k k0 d0:Nat) (cs:ayf) (m:List cu) (args:List bz) (d1:Option Nat) (rest:List cu) (keep:ayf) (K:ak->Prop) (s:ak):Prop:=
 sD C f k k0 d0 cs m args d1 rest keep (λl=>K (aq l)) s
def NZ (f:Nat->Bool) (m:List cu):Bool:=m.all λr=>match r.dst with
 |none=>true
 |some d=>f d
theorem WY {f:Nat->Bool} {m:List cu} (h:NZ f m=true):∀r∈m,∀d,r.dst=some d->f d=true:=by
 intro r aQ d an;have:=List.all_eq_true.1 h r aQ;rw[an]at this;exact this
theorem WZ (k:ayf) (s:ak):xl s (hs k s):=by
 intro p ax;obtain⟨t,_,rfl⟩:=mem_map.1 ax;exact .inl rfl
def N0 (C:cm) (f:FuncId) (k k0 d0:Nat) (cs:ayf) (m:List cu) (args:List bz) (d1:Option Nat) (rest:List cu) (keep:ayf):(Exit->ak->Prop)->ak->Prop:=
 λQ s=>WX C f k k0 d0 cs m args d1 rest keep (Q .normal) s
def W0 (T:TypeId) (k d0:Nat) (m:List cu) (args:List bz) (d1:Option Nat) (rest:List cu):aC:=
 .ez (⟨some d0,.fS T (.t k),none⟩::(m++⟨d1,.call (.t d0) args,none⟩::rest)) none
theorem agy (vs:ayi):∀(m n:Nat),m+n=vs.length->vs.drop m=((range n).map (·+m)).map λj=>vs.getD j undef:=by
 intro m n h;apply ext_getElem?;intro i;rw[getElem?_drop,List.map_map,getElem?_map];by_cases aj:i<n
 .rw[getElem?_range aj,getElem?_eq_getElem (by omega)];simp only[Option.map_some,Function.comp];rw[getD_eq_getElem?_getD,getElem?_eq_getElem (by omega)];simp only[Option.getD_some,Option.some.injEq];congr 1;omega
 .rw[getElem?_eq_none (by omega),getElem?_eq_none (by simp;omega)];rfl
theorem IY {c:Code} {rs:List cu} (h:fW n c=some (.ez rs none)):∃id ops,c= .region id ops false/\tO n ops ops.toList=some rs:=by
 cases c with
 |region id ops draw=>
  cases draw with
  |false=>
   simp only[fW]at h;split at h
   .rename_i r ad;cases h;exact⟨id,ops,rfl,ad⟩
   .cases h
  |true=>
   simp only[fW]at h;split at h
   .simp only[Option.map_eq_some_iff]at h;obtain⟨r,ad,af⟩:=h;cases af
   .cases h
 |seq a b=>simp only[fW]at h;split at h<;>cases h
 |cond c a b=>simp only[fW]at h;split at h<;>cases h
 |block id b=>simp only[fW,Option.map_eq_some_iff]at h;obtain⟨r,ad,af⟩:=h;cases af
 |loop b=>simp only[fW,Option.map_eq_some_iff]at h;obtain⟨r,ad,af⟩:=h;cases af
 |_=>simp[fW]at h
def IZ (C:cm) (f:FuncId) (fx:ayf) (agz m k:Nat) (T:(Exit->ak->Prop)->ak->Prop) (b:aC):Prop:=
 ∃(ty:TypeId) (k0 d0 qs:Nat) (jG:List cu) (args:List bz) (d1:Option Nat) (rest:List cu) (keep:ayf),
  T=N0 C f k k0 d0 ((range qs).map (·+m)) jG args d1 rest keep/\b=W0 ty k d0 jG args d1 rest/\(C.T ty).flat=true/\NZ (λd=>d !=d0&&decide (m+qs<=d)) jG=true/\decide (m+qs<=d0)=true/\
  decide (k0<qs)=true/\k=m+k0/\((range qs).all λj=>fx.contains (m+j))=true/\args.length=m/\m+qs=agz
theorem pn.of_wp (bP:C.fH) {f:FuncId} {fn:Func} {c:Code} {ee:aC} {fx:ayf} {as outs:ayk} {r:I} {k m:Nat} (bD:C.P.funcs[f]? =some fn) (aa:fn.body=some c)
  (mu:(fn.name== "runtime.NumGoroutine")=false) (ab:fW ⟨fn.ntmps,fx⟩ c=some ee.strip) (aV:as.length<=fn.ntmps)
  (au:ee.pN (IZ C f fx as.length m k))
  (h:∀Q:Exit->ak->Prop,(∀s,eS (Ends C fx fn.results.toList r outs) s->Q .ret s)->(∀s,eS (Ends C fx fn.results.toList r outs) s->Q .normal s)->bn C ee Q (aq (num 0 as))):pn C f m k as r outs:=by
 rintro w F X S vs hl ⟨b,agA,fr,aP,aY,aU,b4⟩ aQ;refine Nk (fx:=fx) bP bD aa mu aV hl aQ λa sw fc=>?_;refine Ni bP (H:=IZ C f fx as.length m k) ?_ c (by rw[aC.Nd];exact ab) (aC.Ip ee au) (Ir ee ?_) sw
 .rintro c T gL Q s J fe ⟨ty,k0,d0,qs,jG,args,d1,rest,keep,rfl,rfl,ld,hm,nB,I0,au,jn,hlen,awv⟩ EV agB ⟨g1,g2,g3,A4,cI,g4⟩;replace hm:∀r∈jG,∀d,r.dst=some d->d≠d0/\m+qs<=d:=λr aQ d an=>by
   have:=WY hm r aQ d an;simpa using this
  replace nB:=of_decide_eq_true nB;replace I0:=of_decide_eq_true I0;replace jn:∀j,j<qs->m+j∈fx:=λj bF=>by
   have:=List.all_eq_true.1 jn j (mem_range.2 bF);simpa using this
  obtain⟨id,ops,rfl,xj⟩:=IY EV;have W1:∀j,j<qs->J.tmps.getD (j+m) undef=vs.getD (j+m) undef:=λj bF=>by
   rw[Nat.add_comm];exact g3 _ (jn j bF)
  have iC:((range qs).map (·+m)).map (λj=>J.tmps.getD j undef)=vs.drop m:=by
   rw[agy vs m qs (by omega),List.map_map,List.map_map];apply map_congr_left;intro j bF;exact W1 j (mem_range.1 bF)
  refine WN (Q:=yW w F X ⟨fn.ntmps,fx⟩ (ik vs) Q) (K:=eS (Q .normal)) (b:=b) (ty:=agA) (fr:=fr) (g:=f) (k0:=k0) (cs:=(range qs).map (·+m)) bP xj ld (λr aQ d an=>⟨(hm r aQ d an).1,λBh=>?_⟩) (λBh=>?_) ?_ g1 g2 g3 g4 (g4.h3 b aU) ?_ ?_ ?_ (λaH dt aN au fw=>fw.eS au)
  .obtain⟨j,bF,rfl⟩:=mem_map.1 Bh;have:=(hm r aQ _ an).2;have:=mem_range.1 bF;omega
  .obtain⟨j,bF,e⟩:=mem_map.1 Bh;have:=mem_range.1 bF;omega
  .rw[getElem?_map,getElem?_range I0,au];simp[Nat.add_comm]
  .rw[au,Nat.add_comm,W1 k0 I0,Nat.add_comm,<-au];exact aP
  .rw[iC,g4.old b (aQ.f_ b aU) b4];exact aY
  .refine yZ (λ_ s1=>?_) agB;rintro⟨ps,r,gU,gy,iE,i7,qX,Et,M9⟩;exact⟨ps,r,gU,gy,iE,i7,qX,Et,yZ (λ_ s h=>.inr ⟨_,WZ _ _,h⟩) M9⟩
 .rw[EF];exact h _ (λs h=>⟨.inr rfl,h⟩) (λs h=>⟨.inl rfl,h⟩)
theorem agC {Q:Exit->ak->Prop} {l:ayj} {f:FuncId} {k k0 d0:Nat} {cs:ayf} {m:List cu} {args:List bz} {d1:Option Nat} {rest:List cu} {keep:ayf} {b:aC} (c6:ayj)
  (h:∀P:ayj->Prop,P c6->sD C f k k0 d0 cs m args d1 rest keep P (aq l)) (au:Q .normal (aq c6)):bn C (.kI (N0 C f k k0 d0 cs m args d1 rest keep) b) Q (aq l):=
 λfk N1=>h (λl=>fk .normal (aq l)) (N1 _ _ au)
theorem W2 {l:ayj} {f:FuncId} {k k0:Nat} {cs:ayf} {args:List bz} {d1:Option Nat} {rest:List cu} {keep:ayf} {P:ayj->Prop} {r:I} (ps:List dp)
  (bU:pn C f args.length (args.length+k0) (ps.map (·.d)) r (ps.map (·.o))) (af:ps.map (·.a)=lk (aq l) args++cs.map (tV k (aq l))) (aG:sC (aq l) ps) (bf:jI ps=true)
  (dc:r.res=true) (c1:l5 ps=false\/(r.cX&&tT ps)=true)
  (jJ:dJ C (fin (jb (fT (aq l) ps) ps) d1 r) rest none (λ_ s=>P (hs keep s))):WW C f k k0 cs args d1 rest keep P (aq l):=by
 refine⟨ps,r,by rw[af,Be],IF aG,bf,bU,dc,?_,jJ⟩;intro hl;rcases c1 with c1|c1
 .rw[c1]at hl;cases hl
 .rw[Bool.and_eq_true]at c1;exact⟨c1.1,IG c1.2⟩
end
end Go.eg
