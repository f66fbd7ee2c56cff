/- Part of a proof that a law returns true for every input. No condition. -/
import Derived.Test.YtmaepbgkcmjcjagGreatDoorFwI
namespace Go.ef
open List Go.IntKind Nat
def o6 (C:cj) (f:FuncId) (m k:Nat) (as:axi) (r:I) (outs:axi):Prop:=
 ∀(w:World) (F X:Nat->Prop) (S:Nat->Nat->Prop) (vs:axg),vs.length=as.length->
  (∃b ty fr,vs.getD k undef= .pointer (some ⟨b,0,none⟩)/\w.heap[b]? =some (.cells #[.func (.func f) #[] (vs.drop m).toArray] ty fr)/\F b/\¬X b)->
  b8 w F X F S (gp as) (h3 vs) w->
  r_ C.P f vs.toArray w λv aL=>∃cl aX,b8 w F X cl aX (gp (r::outs)) (h3 (v::vs)) aL
section
variable {C:cj} {w0 w:World} {F0 X F cl:Nat->Prop} {S aX:Nat->Nat->Prop} {n:Fr} {ρ:Nat->Value} {s aH:ak} {aG mB:Nat->Value} {a:Act} {av:I} {Q:Exit->Act->World->Prop} {aL:World}
theorem b8.base (h:b8 w0 F0 X F S s aG w):b8 w F (λb=>∃u,S u b) F S s aG w where
 iI:=λ_ h=>h
 jg:=λ_ h=>.inl h
 gN:=h.gN
 fN:=h.fN
 hf:=h.hf
 gE:=h.gE
 eS:=λu b ab=>.inl ⟨u,ab⟩
 ew:=h.ew
 old:=λ_ _ _=>rfl
 size:=Nat.le_refl _
 os:=rfl
 tape:=rfl
 output:=Out.refl _
 gS:=h.gS.next h.size h.old λb ⟨u,hu⟩=>h.eS u b hu
theorem b8.Vs (h:b8 w0 F0 X F S s aG w) (bB:b8 w F (λb=>∃u,S u b) cl aX aH mB aL):b8 w0 F0 X cl aX aH mB aL where
 iI:=λb ab=>bB.iI b (h.iI b ab)
 jg:=λb ab=>by
  rcases bB.jg b ab with ab|⟨u,ab⟩|ab
  .exact h.jg b ab
  .exact .inr (h.eS u b ab)
  .exact .inr (.inr (Nat.le_trans h.size ab))
 gN:=bB.gN
 fN:=bB.fN
 hf:=bB.hf
 gE:=bB.gE
 eS:=λu b ab=>by
  rcases bB.eS u b ab with⟨u,ab⟩|ab
  .exact h.eS u b ab
  .exact .inr (Nat.le_trans h.size ab)
 ew:=bB.ew
 old:=λb ab mC=>by
  refine(bB.old b (Nat.lt_of_lt_of_le ab h.size) λ⟨u,hu⟩=>?_).trans (h.old b ab mC);rcases h.eS u b hu with an|an
  .exact mC an
  .omega
 size:=Nat.le_trans h.size bB.size
 os:=bB.os.trans h.os
 tape:=bB.tape.trans h.tape
 output:=bB.output.trans h.output
 gS:=h.gS
inductive tH:axi->axi->Prop
 |nil:tH [] []
 |eq {a:I} {as lO:axi}:a.aa=[]->tH as lO->tH (a::as) (a::lO)
 |wd {a b:I} {as lO:axi}:fH a b->a.tree=true->b.aa=[]->tH as lO->tH (a::as) (b::lO)
theorem tH.get:∀{as lO:axi},tH as lO->∀p k,p∈num k lO->p.2.aa=[]/\∃a,as[p.1-k]? =some a/\k<=p.1/\(p.2=a\/(a.tree=true/\fH a p.2))
 |_,_,.nil,p,k,ax=>by simp[num]at ax
 |_,_,.eq (a:=a) h hw,p,k,ax=>by
  simp only[num,mem_cons]at ax;rcases ax with rfl|ax
  .exact⟨h,a,by simp,Nat.le_refl _,.inl rfl⟩
  .obtain⟨ad,x,ae,aI,bc⟩:=hw.get p (k+1) ax;refine⟨ad,x,?_,by omega,bc⟩;rw[show p.1-k=(p.1-(k+1))+1 by omega,getElem?_cons_succ];exact ae
 |_,_,.wd (a:=a) h aZ ab hw,p,k,ax=>by
  simp only[num,mem_cons]at ax;rcases ax with rfl|ax
  .exact⟨ab,a,by simp,Nat.le_refl _,.inr ⟨aZ,h⟩⟩
  .obtain⟨ad,x,ae,aI,bc⟩:=hw.get p (k+1) ax;refine⟨ad,x,?_,by omega,bc⟩;rw[show p.1-k=(p.1-(k+1))+1 by omega,getElem?_cons_succ];exact ae
theorem tH.len:∀{as lO:axi},tH as lO->lO.length=as.length
 |_,_,.nil=>rfl
 |_,_,.eq _ hw=>by simp[hw.len]
 |_,_,.wd _ _ _ hw=>by simp[hw.len]
theorem aV.aeX {f:FuncId} {as lO:axi} {r:I} {outs:axi} (h:aV C f lO r outs) (hw:tH as lO):aV C f as r outs:=by
 intro w F X S vs aC aQ;have aeY:yC (gp as) (num 0 lO):=λp ax=>by
  obtain⟨ad,a,ae,_,bc⟩:=hw.get p 0 ax;have e:gp as p.1=a:=by simp[gp,List.getD,show as[p.1]? =some a from ae]
  rw[e];rcases bc with bc|⟨aZ,bc⟩
  .exact .inl bc
  .refine .inr ⟨aZ,bc,λda fj=>.inl ?_⟩;rw[(hw.get da 0 fj).1];simp
 obtain⟨cl,aX,ae⟩:=aQ.T2 aeY;rw[<-HK]at ae;exact(h w cl _ aX vs (aC.trans hw.len.symm) ae.base).mono λv aL ⟨yA,eI,aI⟩=>⟨yA,eI,ae.Vs aI⟩
theorem Vt (C:cj) (K:ak->Prop):∀(rs pre post:List cm) (s:ak),nV C s rs K->kx C (pre++(rs++post)) s ((range rs.length).map (·+pre.length)) K:=by
 intro rs;induction rs with
 |nil=>intro pre post s h;exact h
 |cons r rs ih=>
  intro pre post s h;rw[length_cons,range_succ_eq_map,map_cons,List.map_map];simp only[kx,Nat.zero_add];rw[getElem?_append_right (Nat.le_refl _)];simp only[Nat.sub_self,cons_append,getElem?_cons_zero];have key:∀s1,nV C s1 rs K->kx C (pre++r::(rs++post)) s1 ((range rs.length).map ((λx=>x+pre.length)∘succ)) K:=by
   intro s1 ad;have:=ih (pre++[r]) post s1 ad;simp only[append_assoc,singleton_append,length_append,length_singleton]at this;have e:((λx=>x+pre.length)∘succ)=λx=>x+(pre.length+1):=by funext x;simp;omega
   rw[e];exact this
  simp only[nV]at h;exact HG h key
theorem aeZ (lV:a.defers=[]) (fg:a.tmps.size=n.n) (jQ:∀i∈n.fx,a.tmps.getD i undef=ρ i) (aQ:b8 w0 F0 X F S s (λt=>a.tmps.getD t undef) w)
  {o:Oper} {d0 k:Nat} {args:List bC} {g:FuncId} {caps:axi} {arr:Array Value} {ps:List dm} {r:I} (c6:dz o.op=some (.call (.t d0) args)) (al:nU n o.dst=true)
  (aE:a.tmps.getD d0 undef= .func (.func g) #[] arr) (ar:fm w F s (λt=>a.tmps.getD t undef) caps arr.toList) (j_:I.hz caps=true)
  (ae0:∃b ty fr,(arr.toList).getD k undef= .pointer (some ⟨b,0,none⟩)/\w.heap[b]? =some (.cells #[.func (.func g) #[] arr] ty fr)/\F b) (Em:k<arr.size)
  (ae:ps.map (·.a)=args.map (bw s)++caps) (aI:∀p∈ps,p.ok s) (bc:j9 ps=true) (bY:o6 C g args.length (args.length+k) (ps.map (·.d)) r (ps.map (·.o))) (dt:r.res=true)
  (dv:mG ps=true->r.cZ=true/\∀p∈ps,p.o.cZ=true) {K:ak->Prop} {next:Act->World->Prop} (hN:K (fin (jO (gn s ps) ps) o.dst r))
  (aS:∀aH dC aL,K aH->Rel w0 F0 X n ρ aH dC aL->next dC aL):o.wp C.P a w next Q:=by
 obtain⟨dst,op,ty,pos,after,guard⟩:=o;simp only at c6 al hN;cases op with
 |call c=>
  obtain⟨callee,px,argTypes⟩:=c;simp only[dz]at c6;split at c6
  .split at c6
   .rename_i DV _ _ adf xs bF tA;simp only[Option.some.injEq,eT.call.injEq]at c6;obtain⟨rfl,rfl⟩:=c6;have DC:DV= .tmp d0:=by
     cases DV with
     |tmp t=>simp only[eC,Option.some.injEq,bC.t.injEq]at bF;rw[bF]
     |const v=>simp only[eC,Option.map_eq_some_iff]at bF;obtain⟨c,_,bF⟩:=bF;cases bF
     |func g=>simp[eC]at bF
     |global g=>simp[eC]at bF
    subst DC;have DW:execOp a.eval {dst,op:=.call {callee:=.value (.tmp d0),args:=px,argTypes},type:=ty,pos,after,guard}=callFunc g ((px.toList.map a.eval++arr.toList).toArray):=by
     have:a.eval (.tmp d0)= .func (.func g) #[] arr:=aE;simp only[execOp,resolve,this,Deferred.ofValue,pure_bind,invoke];congr 1;apply Array.ext';simp
    unfold Oper.wp;rw[DW];have hlen:(px.toList.map a.eval).length=xs.length:=by
     have:=congrArg length (yw tA);simpa using this
    have DX:fm w F s (λt=>a.tmps.getD t undef) (xs.map (bw s)++caps) (px.toList.map a.eval++arr.toList):=TR (Hv aQ (λ_=>rfl) _ _ (yw tA)) ar;rw[<-ae]at DX;obtain⟨hP,l2⟩:=TS DX;have fA:∀d∈xs.map (bw s)++caps,d.plain=true:=by
     intro d al;rcases mem_append.1 al with al|al
     .obtain⟨x,an,rfl⟩:=mem_map.1 al;exact St s x λav e=>by
       subst e;have hm:=yw tA;have:some (bC.c av)∈xs.map some:=mem_map.2 ⟨_,an,rfl⟩;rw[<-hm]at this;obtain⟨o,_,bH⟩:=mem_map.1 this;cases o with
       |const v=>simp only[eC,Option.map_eq_some_iff]at bH;obtain⟨c,ar,e⟩:=bH;cases e;exact Lu ar
       |tmp n=>simp[eC]at bH
       |func g=>simp[eC]at bH
       |global g=>simp[eC]at bH
     .obtain⟨k,au⟩:=getElem?_of_mem al;exact G8 j_ au
    have Ml:=TL (C:=C) aQ (ps:=ps) (vs:=px.toList.map a.eval++arr.toList) (f:=g) (r:=r) (by simpa using hP)
     (λi p v ax aE=>⟨fA p.a (by rw[<-ae];exact mem_map.2 ⟨p,mem_of_getElem? ax,rfl⟩),l2 i p.a v (by simp[ax]) aE⟩) aI bc
     (λFc o0 e5 bG mC ax=>by
      refine bY w Fc o0 e5 _ (by rw[<-hP];simp) ?_ ax;obtain⟨b,H5,fr,aN,aU,aR⟩:=ae0;refine⟨b,H5,fr,?_,?_,bG b aR,λan=>by obtain⟨u,hu⟩:=mC b an;exact aQ.hf u b hu aR⟩
      .rw[getD_eq_getElem?_getD,getElem?_append_right (by omega),hlen,Nat.add_sub_cancel_left,<-getD_eq_getElem?_getD];exact aN
      .rw[aU,<-hlen,drop_left])
     dt dv
    rcases Ml with⟨ea,bf⟩|⟨v,aL,ea,cl,aX,bf,de⟩
    .rw[ea,Oper.upon_enter];refine Calls.mono bf ?_;rintro e aL ⟨v,rfl,cl,aX,bX,cN⟩;exact aS _ _ _ hN (Rel.put lV fg jQ bX cN.1 al)
    .rw[ea,Oper.upon_value];exact aS _ _ _ hN (Rel.put lV fg jQ bf de.1 al)
   .cases c6
  .split at c6
   .simp only[Option.map_eq_some_iff]at c6;obtain⟨_,_,c6⟩:=c6;cases c6
   .cases c6
  .split at c6
   .simp only[Option.map_eq_some_iff]at c6;obtain⟨_,_,c6⟩:=c6;cases c6
   .cases c6
  iterate 3
   .split at c6
    .split at c6<;>cases c6
    .cases c6
  .cases c6
 |makeFunc fn first cs=>
  cases fn<;>simp only[dz]at c6<;>first|(cases c6;done)|(split at c6<;>simp at c6)
 |slice T x fF ag fb=>
  cases fb<;>simp only[dz]at c6<;>first|(cases c6;done)|(split at c6<;>simp at c6)
 |makeMap T r=>cases r<;>simp only[dz]at c6<;>simp at c6
 |lookup T x i c=>cases c<;>simp only[dz]at c6<;>first|(cases c6;done)|(split at c6<;>simp at c6)
 |_=>simp only[dz]at c6<;>first|(cases c6;done)|(simp at c6;done)|(split at c6<;>simp at c6)
theorem ae1 {op:Op} {T:TypeId} {x:bC} (h:dz op=some (.fO T x)):∃y,op= .load T y/\eC y=some x:=by
 cases op with
 |load Vu y=>
  simp only[dz,Option.map_eq_some_iff]at h;obtain⟨e2,an,h⟩:=h;cases h;exact⟨y,rfl,an⟩
 |call c=>
  obtain⟨callee,px,argTypes⟩:=c;simp only[dz]at h;split at h<;>(try split at h)<;>(try split at h)<;>(try simp[Option.map_eq_some_iff]at h)
 |makeFunc fn first cs=>
  cases fn<;>simp only[dz]at h<;>first|(cases h;done)|(split at h<;>simp at h)
 |slice T x fF ag fb=>
  cases fb<;>simp only[dz]at h<;>first|(cases h;done)|(split at h<;>simp at h)
 |makeMap T r=>cases r<;>simp only[dz]at h<;>simp at h
 |lookup T x i c=>cases c<;>simp only[dz]at h<;>first|(cases h;done)|(split at h<;>simp at h)
 |_=>simp only[dz]at h<;>first|(cases h;done)|(simp at h;done)|(split at h<;>simp at h)
theorem H6 {y:Operand} {k:Nat} (h:eC y=some (.t k)):y= .tmp k:=by
 cases y with
 |tmp t=>simp only[eC,Option.some.injEq,bC.t.injEq]at h;rw[h]
 |const v=>simp only[eC,Option.map_eq_some_iff]at h;obtain⟨c,_,h⟩:=h;cases h
 |func g=>simp[eC]at h
 |global g=>simp[eC]at h
def tI (k:Nat) (s:ak) (j:Nat):I:=if j=k then .ref .hole else uT j (s j)
theorem ae2 {aG:Nat->Value} {b k:Nat} {v:Value} {ty:TypeId} {fr:Nat×Nat} (aQ:b8 w0 F0 X F S s aG w) (au:aG k= .pointer (some ⟨b,0,none⟩)) (ab:F b) (ar:w.heap[b]? =some (.cells #[v] ty fr)) (ad:Value.hE v=true):
  ∀cs:axd,fm w F s aG (cs.map (tI k s)) (cs.map aG)/\I.hz (cs.map (tI k s))=true:=by
 intro cs;induction cs with
 |nil=>exact⟨by rw[map_nil,map_nil,fm],rfl⟩
 |cons j cs ih=>
  simp only[map_cons];have bE:aO w F s aG (tI k s j) (aG j) (λ_=>False)/\(tI k s j).plain=true:=by
   unfold tI;split
   .rename_i e;subst e;rw[au];refine⟨(aO.dk rfl).2 ⟨rfl,?_⟩,rfl⟩;rw[aA];refine⟨b,0,[v],rfl,ab,?_,?_⟩
    .intro i c ag;cases i with
     |zero=>simp at ag;subst ag;simp[World.cell?,ar]
     |succ i=>simp at ag
    .rw[aA];exact⟨v,ad,rfl⟩
   .unfold uT;split
    .rename_i ax;exact⟨aO.nothing ax (aQ.ew j),ax⟩
    .rename_i ax;refine⟨?_,rfl⟩;rw[aO];intro d al ax;simp only[I.sub,Option.some.injEq]at al;subst al;have aZ:(s j).tree=true:=by
      cases aa:s j<;>first|rfl|(rw[aa]at ax;simp[I.plain]at ax)
     exact⟨_,none,rfl,rfl,((aO.dk aZ).1 (aQ.ew j)).1⟩
  refine⟨?_,?_⟩
  .rw[fm];exact⟨_,_,rfl,bE.1,ih.1⟩
  .simp only[I.hz,bE.2,ih.2,Bool.and_self]
theorem Vv (bK:C.fz) {id:Nat} {ops:Array Oper} {T:TypeId} {k k0 d0:Nat} {m rest:List cm} {args:List bC} {d1:Option Nat} {g:FuncId} {cs:axd} {b:Nat} {ty:TypeId} {fr:Nat×Nat} {K:ak->Prop}
  (wY:tC n ops ops.toList=some ((⟨some d0,.fO T (.t k),none⟩::(m++⟨d1,.call (.t d0) args,none⟩::rest):List cm).map cm.un))
  (k3:(C.T T).flat=true) (hm:∀r∈m,∀d,r.dst=some d->d≠d0/\d∉cs) (nt:d0∉cs) (A3:cs[k0]? =some k)
  (lV:a.defers=[]) (fg:a.tmps.size=n.n) (jQ:∀i∈n.fx,a.tmps.getD i undef=ρ i) (aQ:b8 w0 F0 X F S s (λt=>a.tmps.getD t undef) w)
  (ab:F b) (au:a.tmps.getD k undef= .pointer (some ⟨b,0,none⟩)) (Hi:w.heap[b]? =some (.cells #[.func (.func g) #[] (cs.map λj=>a.tmps.getD j undef).toArray] ty fr))
  (h:nV C (fin s (some d0) .hole) m λs1=>∃ps r,ps.map (·.a)=args.map (bw s1)++cs.map (tI k s1)/\(∀p∈ps,p.ok s1)/\j9 ps=true/\
   o6 C g args.length (args.length+k0) (ps.map (·.d)) r (ps.map (·.o))/\r.res=true/\(mG ps=true->r.cZ=true/\∀p∈ps,p.o.cZ=true)/\nV C (fin (jO (gn s1 ps) ps) d1 r) rest K)
  (aS:∀aH dC aL,K aH->Rel w0 F0 X n ρ aH dC aL->Q .normal dC aL):(Code.region id ops false).wp C.P Q a w:=by
 obtain⟨aC,qV⟩:=DZ wY;have M4:∀(i:Nat) (r:cm),(⟨some d0,.fO T (.t k),none⟩::(m++⟨d1,.call (.t d0) args,none⟩::rest):List cm)[i]? =some r->∃o,ops[i]? =some o/\tB n ops o=some r.un:=by
  intro i r ag;have eB:i<ops.toList.length:=by
   rw[aC,length_map];exact(List.getElem?_eq_some_iff.1 ag).1
  obtain⟨me,ad,ae⟩:=qV i _ (getElem?_eq_getElem eB);rw[getElem?_map,ag]at ad;simp only[Option.map_some,Option.some.injEq]at ad;exact⟨_,by rw[<-Array.getElem?_toList];exact getElem?_eq_getElem eB,by rw[ad];exact ae⟩
 have A4:∀{r:cm} {o:Oper},r.guard=none->tB n ops o=some r.un->r.dst=o.dst/\o.guard=none/\sb o.op=r.bS.base/\nU n o.dst=true:=by
  intro r o hg h;unfold tB at h;split at h
  .rename_i al;split at h
   .rename_i Vw iy;simp only[cm.un,Option.some.injEq,cm.mk.injEq]at h;obtain⟨aN,aU,aR⟩:=h;refine⟨aN.symm,?_,aU,al⟩;rw[aR,hg]at iy;cases bH:o.guard with
    |none=>rfl
    |some Mp=>
     rw[bH]at iy;simp only[DT]at iy;split at iy<;>cases iy
   .cases h
  .cases h
 have ae3:ops.size=m.length+rest.length+2:=by
  have:ops.toList.length=ops.size:=by simp
  rw[<-this,aC];simp;omega
 have ae4:range ops.size=0::((range m.length).map (·+1)++((m.length+1)::(range rest.length).map (·+(m.length+2)))):=by
  rw[ae3,show m.length+rest.length+2=(m.length+rest.length+1)+1 from rfl,range_succ_eq_map];congr 1;rw[show m.length+rest.length+1=m.length+(rest.length+1) by omega,range_add,map_append,range_succ_eq_map];simp only[List.map_map,map_cons,Nat.add_zero];congr 1;congr 1;apply map_congr_left;intro x _;simp;omega
 obtain⟨xb,ae5,ng⟩:=M4 0 _ rfl;obtain⟨hj,gO,iJ,jN⟩:=A4 rfl ng;change sb xb.op= .fO T (.t k)at iJ;have En:dz xb.op=some (.fO T (.t k)):=by
  rcases u5 iJ with h|h
  .cases h
  .exact h
 obtain⟨y,hy,ae6⟩:=ae1 En;have:=H6 ae6;subst this;let jz:Value:=.func (.func g) #[] (cs.map λj=>a.tmps.getD j undef).toArray
 have mc:jc w b 0 [jz]:=by
  intro i c ag;cases i with
  |zero=>simp at ag;subst ag;simp[World.cell?,Hi,jz]
  |succ i=>simp at ag
 refine wp_region ?_;rw[ae4];simp only[wpOps,ae5];show(if Region.wanted xb (yielded ops a.tmps)=true then xb.wp C.P a w _ Q\/(xb.asks C.P a w/\LetsOut Q)else _);rw[if_pos (HB gO)];left;have DW:(execOp a.eval xb).run C.P w= .ok (.value jz) w:=by
  obtain⟨dst,op,ty,pos,after,guard⟩:=xb;simp only at hy;subst hy;have:a.eval (.tmp k)= .pointer (some ⟨b,0,none⟩):=au;simp[execOp,this,Instr.loadAt,Instr.sureAddr,SA bK k3 mc]
 unfold Oper.wp;rw[DW,Oper.upon_value];have M5:some d0=xb.dst:=hj;rw[<-M5]at jN⊢;let J:Act:=a.put (some d0) jz
 let mm:Fr:=⟨n.n,d0::k::(cs++n.fx)⟩
 let ρ1:Nat->Value:=λt=>J.tmps.getD t undef
 have tJ:k∈cs:=mem_of_getElem? A3;have tu:=aQ.base;have M6:Rel w F (λb=>∃u,S u b) ⟨n.n,[]⟩ ρ1 (fin s (some d0) .hole) J w:=
  Rel.put (n:=⟨n.n,[]⟩) lV fg (λi ag=>by cases ag) tu (.inl ⟨rfl,by rw[aO];trivial⟩) (by
   simp only[nU,Bool.and_eq_true,decide_eq_true_eq]at jN⊢;exact⟨jN.1,by simp⟩)
 have ae7:Rel w F (λb=>∃u,S u b) mm ρ1 (fin s (some d0) .hole) J w:=⟨M6.defers,M6.size,λi _=>rfl,M6.rel⟩
 have Vx:∀t,t≠d0->ρ1 t=a.tmps.getD t undef:=by
  intro t aZ;have:=congrFun (DU (n:=n) (dst:=some d0) (a:=a) jz fg jN).1 t;simp only[p3]at this;rw[lp _ _ aZ]at this;exact this
 have ae8:ρ1 d0=jz:=by
  have:=congrFun (DU (n:=n) (dst:=some d0) (a:=a) jz fg jN).1 d0;simp only[p3]at this;rw[oP]at this;exact this
 have hw:=Vt C _ m [⟨some d0,.fO T (.t k),none⟩] (⟨d1,.call (.t d0) args,none⟩::rest) _ h;have mid:∀aH dC aL,(∃ps r,ps.map (·.a)=args.map (bw aH)++cs.map (tI k aH)/\(∀p∈ps,p.ok aH)/\j9 ps=true/\
   o6 C g args.length (args.length+k0) (ps.map (·.d)) r (ps.map (·.o))/\r.res=true/\(mG ps=true->r.cZ=true/\∀p∈ps,p.o.cZ=true)/\nV C (fin (jO (gn aH ps) ps) d1 r) rest K)->
   Rel w F (λb=>∃u,S u b) mm ρ1 aH dC aL->wpOps C.P ops Q ((m.length+1)::(range rest.length).map (·+(m.length+2))) dC aL:=by
  rintro s2 a2 jR ⟨ps,r,aN,aU,aR,bW,cM,cg,b3⟩ ⟨g1,g2,g3,yA,eI,g4⟩;obtain⟨A5,ae9,mD⟩:=M4 (m.length+1) ⟨d1,.call (.t d0) args,none⟩ (by simp);obtain⟨hp,iV,kq,SM⟩:=A4 rfl mD;simp only[wpOps,ae9];show(if Region.wanted A5 (yielded ops a2.tmps)=true then A5.wp C.P a2 jR _ Q\/(A5.asks C.P a2 jR/\LetsOut Q)else _);rw[if_pos (HB iV)];left;change sb A5.op= .call (.t d0) args at kq;have ae_:dz A5.op=some (.call (.t d0) args):=by
   rcases u5 kq with h|h
   .cases h
   .exact h
  have Vy:yA b:=g4.iI b ab;have Vz:jR.heap[b]? =some (.cells #[jz] ty fr):=by
   rw[g4.old b (aQ.gN b ab) (λ⟨u,hu⟩=>aQ.hf u b hu ab)];exact Hi
  have VA:∀j∈cs,a2.tmps.getD j undef=a.tmps.getD j undef:=by
   intro j bE;rw[g3 j (by simp[mm,bE])];exact Vx j (λe=>nt (e▸bE))
  have oS:a2.tmps.getD k undef= .pointer (some ⟨b,0,none⟩):=(VA k tJ).trans au;have VB:(cs.map λj=>a.tmps.getD j undef)=cs.map λj=>a2.tmps.getD j undef:=map_congr_left λj bE=>(VA j bE).symm;obtain⟨cz,c2⟩:=ae2 (k:=k) g4 oS Vy Vz rfl cs;have LQ:∀aH dC aL,nV C aH rest K->Rel w F (λb=>∃u,S u b) ⟨n.n,n.fx⟩ ρ aH dC aL->wpOps C.P ops Q ((range rest.length).map (·+(m.length+2))) dC aL:=by
   intro r7 a3 vc aI H7;have HM:=Vt C K rest ((⟨some d0,.fO T (.t k),none⟩::m)++[⟨d1,.call (.t d0) args,none⟩]) [] r7 aI;have:=Mo (Q:=Q) bK (ops:=ops) (ros:=((⟨some d0,.fO T (.t k),none⟩::m)++[⟨d1,.call (.t d0) args,none⟩])++(rest++[])) (l2:=[]) (K:=K) (λaH dC aL nv fh=>by
     obtain⟨sg,z2,z3,afa,SX,z4⟩:=fh;exact aS aH dC aL nv ⟨sg,z2,z3,afa,SX,aQ.Vs z4⟩) ((range rest.length).map (·+(m.length+2))) (λi ag=>by
      have D8:((⟨some d0,.fO T (.t k),none⟩::m)++[⟨d1,.call (.t d0) args,none⟩])++(rest++[])=(⟨some d0,.fO T (.t k),none⟩::(m++⟨d1,.call (.t d0) args,none⟩::rest):List cm):=by simp
      rw[D8];refine⟨λns=>?_,λo bH=>?_⟩
      .rw[List.getElem?_eq_none_iff];have:=Array.getElem?_eq_none_iff.1 ns;simp;omega
      .obtain⟨ai,kZ,ae⟩:=qV i o (by simpa using bH);obtain⟨r,ad,rfl⟩:∃r,(⟨some d0,.fO T (.t k),none⟩::(m++⟨d1,.call (.t d0) args,none⟩::rest):List cm)[i]? =some r/\r.un=ai:=by
        rw[getElem?_map,Option.map_eq_some_iff]at kZ;exact kZ
       exact⟨r,ad,ae⟩) r7 a3 vc (by
      have e:((⟨some d0,.fO T (.t k),none⟩::m)++[⟨d1,.call (.t d0) args,none⟩]:List cm).length=m.length+2:=by simp
      rw[e]at HM;exact HM) H7
   rwa [append_nil]at this
  have afb:∀i∈n.fx,a2.tmps.getD i undef=ρ i:=by
   intro i ag;rw[g3 i (by simp[mm,ag]),Vx i (λe=>?_)]
   .exact jQ i ag
   .simp only[nU,Bool.and_eq_true,Bool.not_eq_true',contains_eq_mem,decide_eq_false_iff_not]at jN;exact jN.2 (e▸ag)
  have Em:k0<cs.length:=(List.getElem?_eq_some_iff.1 A3).1;have afc:A5.dst=d1:=hp.symm;exact aeZ (n:=n) (ρ:=ρ) (K:=λaH=>nV C aH rest K) g1 g2 afb g4 ae_ SM
   (arr:=(cs.map λj=>a2.tmps.getD j undef).toArray) (k:=k0) (caps:=cs.map (tI k s2)) (g:=g) (ps:=ps) (r:=r)
   (by rw[g3 d0 (by simp[mm]),ae8];simp only[jz,VB]) (by simpa using cz) c2
   ⟨b,ty,fr,by
     rw[getD_eq_getElem?_getD,getElem?_map,A3];exact oS,by rw[Vz];simp only[jz,VB],Vy⟩ (by simpa using Em)
   aN aU aR bW cM cg (by rw[afc];exact b3) LQ
 have:=Mo (Q:=Q) bK (ops:=ops) (ros:=[⟨some d0,.fO T (.t k),none⟩]++(m++⟨d1,.call (.t d0) args,none⟩::rest)) (l2:=(m.length+1)::(range rest.length).map (·+(m.length+2))) mid
  ((range m.length).map (·+1)) (λi ag=>by
    obtain⟨j,bE,rfl⟩:=mem_map.1 ag;have Eo:j<m.length:=mem_range.1 bE;refine⟨λns=>?_,λo bH=>?_⟩
    .have:=Array.getElem?_eq_none_iff.1 ns;omega
    .obtain⟨p9,Eb,fW⟩:=M4 (j+1) m[j] (by
      simp only[getElem?_cons_succ];rw[getElem?_append_left Eo,getElem?_eq_getElem Eo])
     have heq:p9=o:=by rw[Eb]at bH;exact Option.some.inj bH
     subst heq;refine⟨m[j],by
      simp only[singleton_append,getElem?_cons_succ];rw[getElem?_append_left Eo,getElem?_eq_getElem Eo],?_⟩
     have afd:=hm m[j] (getElem_mem Eo);unfold tB at fW⊢;split at fW
     .rename_i al;rw[if_pos]
      .exact fW
      .cases VC:p9.dst with
       |none=>rfl
       |some d=>
        rw[VC]at al;simp only[nU,Bool.and_eq_true,decide_eq_true_eq,Bool.not_eq_true',contains_eq_mem,decide_eq_false_iff_not]at al⊢;refine⟨al.1,?_⟩;have HC:m[j].dst=some d:=by
         split at fW
         .simp only[cm.un,Option.some.injEq,cm.mk.injEq]at fW;rw[<-fW.1,VC]
         .cases fW
        obtain⟨m1,m2⟩:=afd d HC;simp only[mm,mem_cons,mem_append,not_or];exact⟨m1,λe=>m2 (e▸tJ),m2,al.2⟩
     .cases fW) (fin s (some d0) .hole) J w (by simpa using hw) ae7
 exact this
def VD (C:cj) (f:FuncId) (k k0:Nat) (cs:axd) (args:List bC) (d1:Option Nat) (rest:List cm) (keep:axd) (P:axh->Prop) (s1:ak):Prop:=
 ∃ps r,ps.map (·.a)=args.map (bw s1)++cs.map (tI k s1)/\(∀p∈ps,p.ok s1)/\j9 ps=true/\
  o6 C f args.length (args.length+k0) (ps.map (·.d)) r (ps.map (·.o))/\r.res=true/\(mG ps=true->r.cZ=true/\∀p∈ps,p.o.cZ=true)/\
  dA C (fin (jO (gn s1 ps) ps) d1 r) rest none (λ_ s=>P (hk keep s))
def si (C:cj) (f:FuncId) (k k0 d0:Nat) (cs:axd) (m:List cm) (args:List bC) (d1:Option Nat) (rest:List cm) (keep:axd) (P:axh->Prop) (s:ak):Prop:=
 dA C (fin s (some d0) .hole) m none λ_ s1=>VD C f k k0 cs args d1 rest keep P s1
def VE (C:cj) (f:FuncId) (k k0 d0:Nat) (cs:axd) (m:List cm) (args:List bC) (d1:Option Nat) (rest:List cm) (keep:axd) (K:ak->Prop) (s:ak):Prop:=
 si C f k k0 d0 cs m args d1 rest keep (λl=>K (aq l)) s
def M7 (f:Nat->Bool) (m:List cm):Bool:=m.all λr=>match r.dst with
 |none=>true
 |some d=>f d
theorem VF {f:Nat->Bool} {m:List cm} (h:M7 f m=true):∀r∈m,∀d,r.dst=some d->f d=true:=by
 intro r aQ d al;have:=List.all_eq_true.1 h r aQ;rw[al]at this;exact this
theorem VG (k:axd) (s:ak):yC s (hk k s):=by
 intro p ax;obtain⟨t,_,rfl⟩:=mem_map.1 ax;exact .inl rfl
def M8 (C:cj) (f:FuncId) (k k0 d0:Nat) (cs:axd) (m:List cm) (args:List bC) (d1:Option Nat) (rest:List cm) (keep:axd):(Exit->ak->Prop)->ak->Prop:=
 λQ s=>VE C f k k0 d0 cs m args d1 rest keep (Q .normal) s
def VH (T:TypeId) (k d0:Nat) (m:List cm) (args:List bC) (d1:Option Nat) (rest:List cm):aB:=
 .eu (⟨some d0,.fO T (.t k),none⟩::(m++⟨d1,.call (.t d0) args,none⟩::rest)) none
theorem afe (vs:axg):∀(m n:Nat),m+n=vs.length->vs.drop m=((range n).map (·+m)).map λj=>vs.getD j undef:=by
 intro m n h;apply ext_getElem?;intro i;rw[getElem?_drop,List.map_map,getElem?_map];by_cases ag:i<n
 .rw[getElem?_range ag,getElem?_eq_getElem (by omega)];simp only[Option.map_some,Function.comp];rw[getD_eq_getElem?_getD,getElem?_eq_getElem (by omega)];simp only[Option.getD_some,Option.some.injEq];congr 1;omega
 .rw[getElem?_eq_none (by omega),getElem?_eq_none (by simp;omega)];rfl
theorem H8 {c:Code} {rs:List cm} (h:fV n c=some (.eu rs none)):∃id ops,c= .region id ops false/\tC n ops ops.toList=some rs:=by
 cases c with
 |region id ops draw=>
  cases draw with
  |false=>
   simp only[fV]at h;split at h
   .rename_i r ad;cases h;exact⟨id,ops,rfl,ad⟩
   .cases h
  |true=>
   simp only[fV]at h;split at h
   .simp only[Option.map_eq_some_iff]at h;obtain⟨r,ad,ae⟩:=h;cases ae
   .cases h
 |seq a b=>simp only[fV]at h;split at h<;>cases h
 |cond c a b=>simp only[fV]at h;split at h<;>cases h
 |block id b=>simp only[fV,Option.map_eq_some_iff]at h;obtain⟨r,ad,ae⟩:=h;cases ae
 |loop b=>simp only[fV,Option.map_eq_some_iff]at h;obtain⟨r,ad,ae⟩:=h;cases ae
 |_=>simp[fV]at h
def H9 (C:cj) (f:FuncId) (fx:axd) (aff m k:Nat) (T:(Exit->ak->Prop)->ak->Prop) (b:aB):Prop:=
 ∃(ty:TypeId) (k0 d0 qf:Nat) (js:List cm) (args:List bC) (d1:Option Nat) (rest:List cm) (keep:axd),
  T=M8 C f k k0 d0 ((range qf).map (·+m)) js args d1 rest keep/\b=VH ty k d0 js args d1 rest/\(C.T ty).flat=true/\M7 (λd=>d !=d0&&decide (m+qf<=d)) js=true/\decide (m+qf<=d0)=true/\
  decide (k0<qf)=true/\k=m+k0/\((range qf).all λj=>fx.contains (m+j))=true/\args.length=m/\m+qf=aff
theorem o6.of_wp (bK:C.fz) {f:FuncId} {fn:Func} {c:Code} {dU:aB} {fx:axd} {as outs:axi} {r:I} {k m:Nat} (bF:C.P.funcs[f]? =some fn) (ab:fn.body=some c)
  (ml:(fn.name== "runtime.NumGoroutine")=false) (aa:fV ⟨fn.ntmps,fx⟩ c=some dU.strip) (aS:as.length<=fn.ntmps)
  (au:dU.py (H9 C f fx as.length m k))
  (h:∀Q:Exit->ak->Prop,(∀s,eJ (Ends C fx fn.results.toList r outs) s->Q .ret s)->(∀s,eJ (Ends C fx fn.results.toList r outs) s->Q .normal s)->bk C dU Q (aq (num 0 as))):o6 C f m k as r outs:=by
 rintro w F X S vs aC ⟨b,afg,fr,aN,aU,aR,bW⟩ aQ;refine Mw (fx:=fx) bK bF ab ml aS aC aQ λa sc e_=>?_;refine Mu bK (H:=H9 C f fx as.length m k) ?_ c (by rw[aB.Mr];exact aa) (aB.HF dU au) (HH dU ?_) sc
 .rintro c T gM Q s J hl ⟨ty,k0,d0,qf,js,args,d1,rest,keep,rfl,rfl,k3,hm,nt,H_,au,jQ,hlen,auh⟩ En afh ⟨g1,g2,g3,AK,cA,g4⟩;replace hm:∀r∈js,∀d,r.dst=some d->d≠d0/\m+qf<=d:=λr aQ d al=>by
   have:=VF hm r aQ d al;simpa using this
  replace nt:=of_decide_eq_true nt;replace H_:=of_decide_eq_true H_;replace jQ:∀j,j<qf->m+j∈fx:=λj bE=>by
   have:=List.all_eq_true.1 jQ j (mem_range.2 bE);simpa using this
  obtain⟨id,ops,rfl,wY⟩:=H8 En;have VI:∀j,j<qf->J.tmps.getD (j+m) undef=vs.getD (j+m) undef:=λj bE=>by
   rw[Nat.add_comm];exact g3 _ (jQ j bE)
  have iX:((range qf).map (·+m)).map (λj=>J.tmps.getD j undef)=vs.drop m:=by
   rw[afe vs m qf (by omega),List.map_map,List.map_map];apply map_congr_left;intro j bE;exact VI j (mem_range.1 bE)
  refine Vv (Q:=yD w F X ⟨fn.ntmps,fx⟩ (h3 vs) Q) (K:=eJ (Q .normal)) (b:=b) (ty:=afg) (fr:=fr) (g:=f) (k0:=k0) (cs:=(range qf).map (·+m)) bK wY k3 (λr aQ d al=>⟨(hm r aQ d al).1,λM9=>?_⟩) (λM9=>?_) ?_ g1 g2 g3 g4 (g4.iI b aR) ?_ ?_ ?_ (λaH dC aL au fh=>fh.eJ au)
  .obtain⟨j,bE,rfl⟩:=mem_map.1 M9;have:=(hm r aQ _ al).2;have:=mem_range.1 bE;omega
  .obtain⟨j,bE,e⟩:=mem_map.1 M9;have:=mem_range.1 bE;omega
  .rw[getElem?_map,getElem?_range H_,au];simp[Nat.add_comm]
  .rw[au,Nat.add_comm,VI k0 H_,Nat.add_comm,<-au];exact aN
  .rw[iX,g4.old b (aQ.gN b aR) bW];exact aU
  .refine yG (λ_ s1=>?_) afh;rintro⟨ps,r,hj,gO,iJ,jN,tq,Mm,afi⟩;exact⟨ps,r,hj,gO,iJ,jN,tq,Mm,yG (λ_ s h=>.inr ⟨_,VG _ _,h⟩) afi⟩
 .rw[HK];exact h _ (λs h=>⟨.inr rfl,h⟩) (λs h=>⟨.inl rfl,h⟩)
theorem afj {Q:Exit->ak->Prop} {l:axh} {f:FuncId} {k k0 d0:Nat} {cs:axd} {m:List cm} {args:List bC} {d1:Option Nat} {rest:List cm} {keep:axd} {b:aB} (cW:axh)
  (h:∀P:axh->Prop,P cW->si C f k k0 d0 cs m args d1 rest keep P (aq l)) (au:Q .normal (aq cW)):bk C (.ky (M8 C f k k0 d0 cs m args d1 rest keep) b) Q (aq l):=
 λe6 M_=>h (λl=>e6 .normal (aq l)) (M_ _ _ au)
theorem VJ {l:axh} {f:FuncId} {k k0:Nat} {cs:axd} {args:List bC} {d1:Option Nat} {rest:List cm} {keep:axd} {P:axh->Prop} {r:I} (ps:List dm)
  (bY:o6 C f args.length (args.length+k0) (ps.map (·.d)) r (ps.map (·.o))) (ae:ps.map (·.a)=lW (aq l) args++cs.map (tI k (aq l))) (aI:vb (aq l) ps) (bc:j9 ps=true)
  (dt:r.res=true) (dv:mG ps=false\/(r.cZ&&w9 ps)=true)
  (kN:dA C (fin (jO (gn (aq l) ps) ps) d1 r) rest none (λ_ s=>P (hk keep s))):VD C f k k0 cs args d1 rest keep P (aq l):=by
 refine⟨ps,r,by rw[ae,Ee],MY aI,bc,bY,dt,?_,kN⟩;intro aC;rcases dv with dv|dv
 .rw[dv]at aC;cases aC
 .rw[Bool.and_eq_true]at dv;exact⟨dv.1,MZ dv.2⟩
end
end Go.ef
