/- Part of a proof that a law returns true for every input. No condition. -/
import Derived.Test.YtmaepbgkcmjcjaiGreatDoorFwI
namespace Go.eg
open List Go.IntKind Nat
def pk (C:cl) (f:FuncId) (m k:Nat) (as:azk) (r:I) (outs:azk):Prop:=
 ∀(w:World) (F X:Nat->Prop) (S:Nat->Nat->Prop) (vs:azi),vs.length=as.length->
  (∃b ty fr,vs.getD k undef= .pointer (some ⟨b,0,none⟩)/\w.heap[b]? =some (.cells #[.func (.func f) #[] (vs.drop m).toArray] ty fr)/\F b/\¬X b)->
  cd w F X F S (gq as) (h5 vs) w->
  sC C.P f vs.toArray w λv aL=>∃ct aZ,cd w F X ct aZ (gq (r::outs)) (h5 (v::vs)) aL
section
variable {C:cl} {w0 w:World} {F0 X F ct:Nat->Prop} {S aZ:Nat->Nat->Prop} {n:Fr} {ρ:Nat->Value} {s aH:al} {aG mH:Nat->Value} {a:Act} {av:I} {Q:Exit->Act->World->Prop} {aL:World}
theorem cd.base (h:cd w0 F0 X F S s aG w):cd w F (λb=>∃u,S u b) F S s aG w where
 iQ:=λ_ h=>h
 jv:=λ_ h=>.inl h
 gP:=h.gP
 fS:=h.fS
 hj:=h.hj
 gD:=h.gD
 eR:=λu b ab=>.inl ⟨u,ab⟩
 ey:=h.ey
 old:=λ_ _ _=>rfl
 size:=Nat.le_refl _
 os:=rfl
 tape:=rfl
 output:=Out.refl _
 gU:=h.gU.next h.size h.old λb ⟨u,hu⟩=>h.eR u b hu
theorem cd.WS (h:cd w0 F0 X F S s aG w) (bD:cd w F (λb=>∃u,S u b) ct aZ aH mH aL):cd w0 F0 X ct aZ aH mH aL where
 iQ:=λb ab=>bD.iQ b (h.iQ b ab)
 jv:=λb ab=>by
  rcases bD.jv b ab with ab|⟨u,ab⟩|ab
  .exact h.jv b ab
  .exact .inr (h.eR u b ab)
  .exact .inr (.inr (Nat.le_trans h.size ab))
 gP:=bD.gP
 fS:=bD.fS
 hj:=bD.hj
 gD:=bD.gD
 eR:=λu b ab=>by
  rcases bD.eR u b ab with⟨u,ab⟩|ab
  .exact h.eR u b ab
  .exact .inr (Nat.le_trans h.size ab)
 ey:=bD.ey
 old:=λb ab mJ=>by
  refine(bD.old b (Nat.lt_of_lt_of_le ab h.size) λ⟨u,hu⟩=>?_).trans (h.old b ab mJ);rcases h.eR u b hu with an|an
  .exact mJ an
  .omega
 size:=Nat.le_trans h.size bD.size
 os:=bD.os.trans h.os
 tape:=bD.tape.trans h.tape
 output:=bD.output.trans h.output
 gU:=h.gU
inductive uf:azk->azk->Prop
 |nil:uf [] []
 |eq {a:I} {as l1:azk}:a.aa=[]->uf as l1->uf (a::as) (a::l1)
 |wd {a b:I} {as l1:azk}:fN a b->a.tree=true->b.aa=[]->uf as l1->uf (a::as) (b::l1)
theorem uf.get:∀{as l1:azk},uf as l1->∀p k,p∈num k l1->p.2.aa=[]/\∃a,as[p.1-k]? =some a/\k<=p.1/\(p.2=a\/(a.tree=true/\fN a p.2))
 |_,_,.nil,p,k,ay=>by simp[num]at ay
 |_,_,.eq (a:=a) h hw,p,k,ay=>by
  simp only[num,mem_cons]at ay;rcases ay with rfl|ay
  .exact⟨h,a,by simp,Nat.le_refl _,.inl rfl⟩
  .obtain⟨ad,x,ae,aJ,bh⟩:=hw.get p (k+1) ay;refine⟨ad,x,?_,by omega,bh⟩;rw[show p.1-k=(p.1-(k+1))+1 by omega,getElem?_cons_succ];exact ae
 |_,_,.wd (a:=a) h aY ab hw,p,k,ay=>by
  simp only[num,mem_cons]at ay;rcases ay with rfl|ay
  .exact⟨ab,a,by simp,Nat.le_refl _,.inr ⟨aY,h⟩⟩
  .obtain⟨ad,x,ae,aJ,bh⟩:=hw.get p (k+1) ay;refine⟨ad,x,?_,by omega,bh⟩;rw[show p.1-k=(p.1-(k+1))+1 by omega,getElem?_cons_succ];exact ae
theorem uf.len:∀{as l1:azk},uf as l1->l1.length=as.length
 |_,_,.nil=>rfl
 |_,_,.eq _ hw=>by simp[hw.len]
 |_,_,.wd _ _ _ hw=>by simp[hw.len]
theorem aV.agu {f:FuncId} {as l1:azk} {r:I} {outs:azk} (h:aV C f l1 r outs) (hw:uf as l1):aV C f as r outs:=by
 intro w F X S vs aC aT;have agv:zd (gq as) (num 0 l1):=λp ay=>by
  obtain⟨ad,a,ae,_,bh⟩:=hw.get p 0 ay;have e:gq as p.1=a:=by simp[gq,List.getD,show as[p.1]? =some a from ae]
  rw[e];rcases bh with bh|⟨aY,bh⟩
  .exact .inl bh
  .refine .inr ⟨aY,bh,λdi fj=>.inl ?_⟩;rw[(hw.get di 0 fj).1];simp
 obtain⟨ct,aZ,ae⟩:=aT.Vo agv;rw[<-Iw]at ae;exact(h w ct _ aZ vs (aC.trans hw.len.symm) ae.base).mono λv aL ⟨zb,eH,aJ⟩=>⟨zb,eH,ae.WS aJ⟩
theorem WT (C:cl) (K:al->Prop):∀(rs pre post:List cq) (s:al),n2 C s rs K->kI C (pre++(rs++post)) s ((range rs.length).map (·+pre.length)) K:=by
 intro rs;induction rs with
 |nil=>intro pre post s h;exact h
 |cons r rs ih=>
  intro pre post s h;rw[length_cons,range_succ_eq_map,map_cons,List.map_map];simp only[kI,Nat.zero_add];rw[getElem?_append_right (Nat.le_refl _)];simp only[Nat.sub_self,cons_append,getElem?_cons_zero];have key:∀s1,n2 C s1 rs K->kI C (pre++r::(rs++post)) s1 ((range rs.length).map ((λx=>x+pre.length)∘succ)) K:=by
   intro s1 ad;have:=ih (pre++[r]) post s1 ad;simp only[append_assoc,singleton_append,length_append,length_singleton]at this;have e:((λx=>x+pre.length)∘succ)=λx=>x+(pre.length+1):=by funext x;simp;omega
   rw[e];exact this
  simp only[n2]at h;exact Is h key
theorem agw (l7:a.defers=[]) (fg:a.tmps.size=n.n) (j6:∀i∈n.fx,a.tmps.getD i undef=ρ i) (aT:cd w0 F0 X F S s (λt=>a.tmps.getD t undef) w)
  {o:Oper} {d0 k:Nat} {args:List bE} {g:FuncId} {caps:azk} {arr:Array Value} {ps:List dt} {r:I} (de:dG o.op=some (.call (.t d0) args)) (ao:n1 n o.dst=true)
  (aF:a.tmps.getD d0 undef= .func (.func g) #[] arr) (ar:fo w F s (λt=>a.tmps.getD t undef) caps arr.toList) (kk:I.hA caps=true)
  (agx:∃b ty fr,(arr.toList).getD k undef= .pointer (some ⟨b,0,none⟩)/\w.heap[b]? =some (.cells #[.func (.func g) #[] arr] ty fr)/\F b) (E_:k<arr.size)
  (ae:ps.map (·.a)=args.map (bt s)++caps) (aJ:∀p∈ps,p.ok s) (bh:kj ps=true) (b2:pk C g args.length (args.length+k) (ps.map (·.d)) r (ps.map (·.o))) (dA:r.res=true)
  (dC:mN ps=true->r.c1=true/\∀p∈ps,p.o.c1=true) {K:al->Prop} {next:Act->World->Prop} (hI:K (fin (j4 (gp s ps) ps) o.dst r))
  (aR:∀aH dH aL,K aH->Rel w0 F0 X n ρ aH dH aL->next dH aL):o.wp C.P a w next Q:=by
 obtain⟨dst,op,ty,pos,after,guard⟩:=o;simp only at de ao hI;cases op with
 |call c=>
  obtain⟨callee,pM,argTypes⟩:=c;simp only[dG]at de;split at de
  .split at de
   .rename_i EG _ _ aeM xs bH tY;simp only[Option.some.injEq,eS.call.injEq]at de;obtain⟨rfl,rfl⟩:=de;have Em:EG= .tmp d0:=by
     cases EG with
     |tmp t=>simp only[eC,Option.some.injEq,bE.t.injEq]at bH;rw[bH]
     |const v=>simp only[eC,Option.map_eq_some_iff]at bH;obtain⟨c,_,bH⟩:=bH;cases bH
     |func g=>simp[eC]at bH
     |global g=>simp[eC]at bH
    subst Em;have EH:execOp a.eval {dst,op:=.call {callee:=.value (.tmp d0),args:=pM,argTypes},type:=ty,pos,after,guard}=callFunc g ((pM.toList.map a.eval++arr.toList).toArray):=by
     have:a.eval (.tmp d0)= .func (.func g) #[] arr:=aF;simp only[execOp,resolve,this,Deferred.ofValue,pure_bind,invoke];congr 1;apply Array.ext';simp
    unfold Oper.wp;rw[EH];have hlen:(pM.toList.map a.eval).length=xs.length:=by
     have:=congrArg length (y9 tY);simpa using this
    have EI:fo w F s (λt=>a.tmps.getD t undef) (xs.map (bt s)++caps) (pM.toList.map a.eval++arr.toList):=Vd (Ig aT (λ_=>rfl) _ _ (y9 tY)) ar;rw[<-ae]at EI;obtain⟨hJ,l2⟩:=Ve EI;have fI:∀d∈xs.map (bt s)++caps,d.plain=true:=by
     intro d ao;rcases mem_append.1 ao with ao|ao
     .obtain⟨x,an,rfl⟩:=mem_map.1 ao;exact TS s x λav e=>by
       subst e;have hm:=y9 tY;have:some (bE.c av)∈xs.map some:=mem_map.2 ⟨_,an,rfl⟩;rw[<-hm]at this;obtain⟨o,_,bL⟩:=mem_map.1 this;cases o with
       |const v=>simp only[eC,Option.map_eq_some_iff]at bL;obtain⟨c,ar,e⟩:=bL;cases e;exact Mu ar
       |tmp n=>simp[eC]at bL
       |func g=>simp[eC]at bL
       |global g=>simp[eC]at bL
     .obtain⟨k,ax⟩:=getElem?_of_mem ao;exact HQ kk ax
    have Nl:=U8 (C:=C) aT (ps:=ps) (vs:=pM.toList.map a.eval++arr.toList) (f:=g) (r:=r) (by simpa using hJ)
     (λi p v ay aF=>⟨fI p.a (by rw[<-ae];exact mem_map.2 ⟨p,mem_of_getElem? ay,rfl⟩),l2 i p.a v (by simp[ay]) aF⟩) aJ bh
     (λFc pb e3 bK mJ ay=>by
      refine b2 w Fc pb e3 _ (by rw[<-hJ];simp) ?_ ay;obtain⟨b,IY,fr,aO,aU,aM⟩:=agx;refine⟨b,IY,fr,?_,?_,bK b aM,λan=>by obtain⟨u,hu⟩:=mJ b an;exact aT.hj u b hu aM⟩
      .rw[getD_eq_getElem?_getD,getElem?_append_right (by omega),hlen,Nat.add_sub_cancel_left,<-getD_eq_getElem?_getD];exact aO
      .rw[aU,<-hlen,drop_left])
     dA dC
    rcases Nl with⟨dU,a_⟩|⟨v,aL,dU,ct,aZ,a_,cN⟩
    .rw[dU,Oper.upon_enter];refine Calls.mono a_ ?_;rintro e aL ⟨v,rfl,ct,aZ,b1,cK⟩;exact aR _ _ _ hI (Rel.put l7 fg j6 b1 cK.1 ao)
    .rw[dU,Oper.upon_value];exact aR _ _ _ hI (Rel.put l7 fg j6 a_ cN.1 ao)
   .cases de
  .split at de
   .simp only[Option.map_eq_some_iff]at de;obtain⟨_,_,de⟩:=de;cases de
   .cases de
  .split at de
   .simp only[Option.map_eq_some_iff]at de;obtain⟨_,_,de⟩:=de;cases de
   .cases de
  iterate 3
   .split at de
    .split at de<;>cases de
    .cases de
  .cases de
 |makeFunc fn first cs=>
  cases fn<;>simp only[dG]at de<;>first|(cases de;done)|(split at de<;>simp at de)
 |slice T x fM ai fc=>
  cases fc<;>simp only[dG]at de<;>first|(cases de;done)|(split at de<;>simp at de)
 |makeMap T r=>cases r<;>simp only[dG]at de<;>simp at de
 |lookup T x i c=>cases c<;>simp only[dG]at de<;>first|(cases de;done)|(split at de<;>simp at de)
 |_=>simp only[dG]at de<;>first|(cases de;done)|(simp at de;done)|(split at de<;>simp at de)
theorem agy {op:Op} {T:TypeId} {x:bE} (h:dG op=some (.fL T x)):∃y,op= .load T y/\eC y=some x:=by
 cases op with
 |load WU y=>
  simp only[dG,Option.map_eq_some_iff]at h;obtain⟨e2,an,h⟩:=h;cases h;exact⟨y,rfl,an⟩
 |call c=>
  obtain⟨callee,pM,argTypes⟩:=c;simp only[dG]at h;split at h<;>(try split at h)<;>(try split at h)<;>(try simp[Option.map_eq_some_iff]at h)
 |makeFunc fn first cs=>
  cases fn<;>simp only[dG]at h<;>first|(cases h;done)|(split at h<;>simp at h)
 |slice T x fM ai fc=>
  cases fc<;>simp only[dG]at h<;>first|(cases h;done)|(split at h<;>simp at h)
 |makeMap T r=>cases r<;>simp only[dG]at h<;>simp at h
 |lookup T x i c=>cases c<;>simp only[dG]at h<;>first|(cases h;done)|(split at h<;>simp at h)
 |_=>simp only[dG]at h<;>first|(cases h;done)|(simp at h;done)|(split at h<;>simp at h)
theorem IZ {y:Operand} {k:Nat} (h:eC y=some (.t k)):y= .tmp k:=by
 cases y with
 |tmp t=>simp only[eC,Option.some.injEq,bE.t.injEq]at h;rw[h]
 |const v=>simp only[eC,Option.map_eq_some_iff]at h;obtain⟨c,_,h⟩:=h;cases h
 |func g=>simp[eC]at h
 |global g=>simp[eC]at h
def ug (k:Nat) (s:al) (j:Nat):I:=if j=k then .ref .hole else vw j (s j)
theorem agz {aG:Nat->Value} {b k:Nat} {v:Value} {ty:TypeId} {fr:Nat×Nat} (aT:cd w0 F0 X F S s aG w) (ax:aG k= .pointer (some ⟨b,0,none⟩)) (ab:F b) (ar:w.heap[b]? =some (.cells #[v] ty fr)) (ad:Value.hH v=true):
  ∀cs:azf,fo w F s aG (cs.map (ug k s)) (cs.map aG)/\I.hA (cs.map (ug k s))=true:=by
 intro cs;induction cs with
 |nil=>exact⟨by rw[map_nil,map_nil,fo],rfl⟩
 |cons j cs ih=>
  simp only[map_cons];have bJ:aS w F s aG (ug k s j) (aG j) (λ_=>False)/\(ug k s j).plain=true:=by
   unfold ug;split
   .rename_i e;subst e;rw[ax];refine⟨(aS.dr rfl).2 ⟨rfl,?_⟩,rfl⟩;rw[aA];refine⟨b,0,[v],rfl,ab,?_,?_⟩
    .intro i c ai;cases i with
     |zero=>simp at ai;subst ai;simp[World.cell?,ar]
     |succ i=>simp at ai
    .rw[aA];exact⟨v,ad,rfl⟩
   .unfold vw;split
    .rename_i ay;exact⟨aS.nothing ay (aT.ey j),ay⟩
    .rename_i ay;refine⟨?_,rfl⟩;rw[aS];intro d ao ay;simp only[I.sub,Option.some.injEq]at ao;subst ao;have aY:(s j).tree=true:=by
      cases aa:s j<;>first|rfl|(rw[aa]at ay;simp[I.plain]at ay)
     exact⟨_,none,rfl,rfl,((aS.dr aY).1 (aT.ey j)).1⟩
  refine⟨?_,?_⟩
  .rw[fo];exact⟨_,_,rfl,bJ.1,ih.1⟩
  .simp only[I.hA,bJ.2,ih.2,Bool.and_self]
theorem WV (bO:C.fH) {id:Nat} {ops:Array Oper} {T:TypeId} {k k0 d0:Nat} {m rest:List cq} {args:List bE} {d1:Option Nat} {g:FuncId} {cs:azf} {b:Nat} {ty:TypeId} {fr:Nat×Nat} {K:al->Prop}
  (xD:t_ n ops ops.toList=some ((⟨some d0,.fL T (.t k),none⟩::(m++⟨d1,.call (.t d0) args,none⟩::rest):List cq).map cq.un))
  (lb:(C.T T).flat=true) (hm:∀r∈m,∀d,r.dst=some d->d≠d0/\d∉cs) (ny:d0∉cs) (BE:cs[k0]? =some k)
  (l7:a.defers=[]) (fg:a.tmps.size=n.n) (j6:∀i∈n.fx,a.tmps.getD i undef=ρ i) (aT:cd w0 F0 X F S s (λt=>a.tmps.getD t undef) w)
  (ab:F b) (ax:a.tmps.getD k undef= .pointer (some ⟨b,0,none⟩)) (H2:w.heap[b]? =some (.cells #[.func (.func g) #[] (cs.map λj=>a.tmps.getD j undef).toArray] ty fr))
  (h:n2 C (fin s (some d0) .hole) m λs1=>∃ps r,ps.map (·.a)=args.map (bt s1)++cs.map (ug k s1)/\(∀p∈ps,p.ok s1)/\kj ps=true/\
   pk C g args.length (args.length+k0) (ps.map (·.d)) r (ps.map (·.o))/\r.res=true/\(mN ps=true->r.c1=true/\∀p∈ps,p.o.c1=true)/\n2 C (fin (j4 (gp s1 ps) ps) d1 r) rest K)
  (aR:∀aH dH aL,K aH->Rel w0 F0 X n ρ aH dH aL->Q .normal dH aL):(Code.region id ops false).wp C.P Q a w:=by
 obtain⟨aC,q7⟩:=EK xD;have N5:∀(i:Nat) (r:cq),(⟨some d0,.fL T (.t k),none⟩::(m++⟨d1,.call (.t d0) args,none⟩::rest):List cq)[i]? =some r->∃o,ops[i]? =some o/\tZ n ops o=some r.un:=by
  intro i r ai;have er:i<ops.toList.length:=by
   rw[aC,length_map];exact(List.getElem?_eq_some_iff.1 ai).1
  obtain⟨mj,ad,ae⟩:=q7 i _ (getElem?_eq_getElem er);rw[getElem?_map,ai]at ad;simp only[Option.map_some,Option.some.injEq]at ad;exact⟨_,by rw[<-Array.getElem?_toList];exact getElem?_eq_getElem er,by rw[ad];exact ae⟩
 have BF:∀{r:cq} {o:Oper},r.guard=none->tZ n ops o=some r.un->r.dst=o.dst/\o.guard=none/\sE o.op=r.bU.base/\n1 n o.dst=true:=by
  intro r o hg h;unfold tZ at h;split at h
  .rename_i ao;split at h
   .rename_i WW iK;simp only[cq.un,Option.some.injEq,cq.mk.injEq]at h;obtain⟨aO,aU,aM⟩:=h;refine⟨aO.symm,?_,aU,ao⟩;rw[aM,hg]at iK;cases bL:o.guard with
    |none=>rfl
    |some Nq=>
     rw[bL]at iK;simp only[EE]at iK;split at iK<;>cases iK
   .cases h
  .cases h
 have agA:ops.size=m.length+rest.length+2:=by
  have:ops.toList.length=ops.size:=by simp
  rw[<-this,aC];simp;omega
 have agB:range ops.size=0::((range m.length).map (·+1)++((m.length+1)::(range rest.length).map (·+(m.length+2)))):=by
  rw[agA,show m.length+rest.length+2=(m.length+rest.length+1)+1 from rfl,range_succ_eq_map];congr 1;rw[show m.length+rest.length+1=m.length+(rest.length+1) by omega,range_add,map_append,range_succ_eq_map];simp only[List.map_map,map_cons,Nat.add_zero];congr 1;congr 1;apply map_congr_left;intro x _;simp;omega
 obtain⟨xT,agC,nk⟩:=N5 0 _ rfl;obtain⟨hn,gE,iI,jH⟩:=BF rfl nk;change sE xT.op= .fL T (.t k)at iI;have Fa:dG xT.op=some (.fL T (.t k)):=by
  rcases vJ iI with h|h
  .cases h
  .exact h
 obtain⟨y,hy,agD⟩:=agy Fa;have:=IZ agD;subst this;let jO:Value:=.func (.func g) #[] (cs.map λj=>a.tmps.getD j undef).toArray
 have mh:js w b 0 [jO]:=by
  intro i c ai;cases i with
  |zero=>simp at ai;subst ai;simp[World.cell?,H2,jO]
  |succ i=>simp at ai
 refine wp_region ?_;rw[agB];simp only[wpOps,agC];show(if Region.wanted xT (yielded ops a.tmps)=true then xT.wp C.P a w _ Q\/(xT.asks C.P a w/\LetsOut Q)else _);rw[if_pos (Im gE)];left;have EH:(execOp a.eval xT).run C.P w= .ok (.value jO) w:=by
  obtain⟨dst,op,ty,pos,after,guard⟩:=xT;simp only at hy;subst hy;have:a.eval (.tmp k)= .pointer (some ⟨b,0,none⟩):=ax;simp[execOp,this,Instr.loadAt,Instr.sureAddr,TY bO lb mh]
 unfold Oper.wp;rw[EH,Oper.upon_value];have N6:some d0=xT.dst:=hn;rw[<-N6]at jH⊢;let J:Act:=a.put (some d0) jO
 let mu:Fr:=⟨n.n,d0::k::(cs++n.fx)⟩
 let ρ1:Nat->Value:=λt=>J.tmps.getD t undef
 have uh:k∈cs:=mem_of_getElem? BE;have tT:=aT.base;have N7:Rel w F (λb=>∃u,S u b) ⟨n.n,[]⟩ ρ1 (fin s (some d0) .hole) J w:=
  Rel.put (n:=⟨n.n,[]⟩) l7 fg (λi ai=>by cases ai) tT (.inl ⟨rfl,by rw[aS];trivial⟩) (by
   simp only[n1,Bool.and_eq_true,decide_eq_true_eq]at jH⊢;exact⟨jH.1,by simp⟩)
 have agE:Rel w F (λb=>∃u,S u b) mu ρ1 (fin s (some d0) .hole) J w:=⟨N7.defers,N7.size,λi _=>rfl,N7.rel⟩
 have WX:∀t,t≠d0->ρ1 t=a.tmps.getD t undef:=by
  intro t aY;have:=congrFun (EF (n:=n) (dst:=some d0) (a:=a) jO fg jH).1 t;simp only[qf]at this;rw[lE _ _ aY]at this;exact this
 have agF:ρ1 d0=jO:=by
  have:=congrFun (EF (n:=n) (dst:=some d0) (a:=a) jO fg jH).1 d0;simp only[qf]at this;rw[o3]at this;exact this
 have hw:=WT C _ m [⟨some d0,.fL T (.t k),none⟩] (⟨d1,.call (.t d0) args,none⟩::rest) _ h;have mid:∀aH dH aL,(∃ps r,ps.map (·.a)=args.map (bt aH)++cs.map (ug k aH)/\(∀p∈ps,p.ok aH)/\kj ps=true/\
   pk C g args.length (args.length+k0) (ps.map (·.d)) r (ps.map (·.o))/\r.res=true/\(mN ps=true->r.c1=true/\∀p∈ps,p.o.c1=true)/\n2 C (fin (j4 (gp aH ps) ps) d1 r) rest K)->
   Rel w F (λb=>∃u,S u b) mu ρ1 aH dH aL->wpOps C.P ops Q ((m.length+1)::(range rest.length).map (·+(m.length+2))) dH aL:=by
  rintro s2 a2 jh ⟨ps,r,aO,aU,aM,bT,cv,ck,bY⟩ ⟨g1,g2,g3,zb,eH,g4⟩;obtain⟨BG,agG,mK⟩:=N5 (m.length+1) ⟨d1,.call (.t d0) args,none⟩ (by simp);obtain⟨hs,iE,j1,H3⟩:=BF rfl mK;simp only[wpOps,agG];show(if Region.wanted BG (yielded ops a2.tmps)=true then BG.wp C.P a2 jh _ Q\/(BG.asks C.P a2 jh/\LetsOut Q)else _);rw[if_pos (Im iE)];left;change sE BG.op= .call (.t d0) args at j1;have agH:dG BG.op=some (.call (.t d0) args):=by
   rcases vJ j1 with h|h
   .cases h
   .exact h
  have WY:zb b:=g4.iQ b ab;have WZ:jh.heap[b]? =some (.cells #[jO] ty fr):=by
   rw[g4.old b (aT.gP b ab) (λ⟨u,hu⟩=>aT.hj u b hu ab)];exact H2
  have W0:∀j∈cs,a2.tmps.getD j undef=a.tmps.getD j undef:=by
   intro j bJ;rw[g3 j (by simp[mu,bJ])];exact WX j (λe=>ny (e▸bJ))
  have o4:a2.tmps.getD k undef= .pointer (some ⟨b,0,none⟩):=(W0 k uh).trans ax;have W1:(cs.map λj=>a.tmps.getD j undef)=cs.map λj=>a2.tmps.getD j undef:=map_congr_left λj bJ=>(W0 j bJ).symm;obtain⟨cA,c2⟩:=agz (k:=k) g4 o4 WY WZ rfl cs;have MP:∀aH dH aL,n2 C aH rest K->Rel w F (λb=>∃u,S u b) ⟨n.n,n.fx⟩ ρ aH dH aL->wpOps C.P ops Q ((range rest.length).map (·+(m.length+2))) dH aL:=by
   intro sy a3 qp aJ I0;have Iy:=WT C K rest ((⟨some d0,.fL T (.t k),none⟩::m)++[⟨d1,.call (.t d0) args,none⟩]) [] sy aJ;have:=Np (Q:=Q) bO (ops:=ops) (ros:=((⟨some d0,.fL T (.t k),none⟩::m)++[⟨d1,.call (.t d0) args,none⟩])++(rest++[])) (l2:=[]) (K:=K) (λaH dH aL nh fi=>by
     obtain⟨sJ,z2,z3,agI,Ui,z4⟩:=fi;exact aR aH dH aL nh ⟨sJ,z2,z3,agI,Ui,aT.WS z4⟩) ((range rest.length).map (·+(m.length+2))) (λi ai=>by
      have EU:((⟨some d0,.fL T (.t k),none⟩::m)++[⟨d1,.call (.t d0) args,none⟩])++(rest++[])=(⟨some d0,.fL T (.t k),none⟩::(m++⟨d1,.call (.t d0) args,none⟩::rest):List cq):=by simp
      rw[EU];refine⟨λnx=>?_,λo bL=>?_⟩
      .rw[List.getElem?_eq_none_iff];have:=Array.getElem?_eq_none_iff.1 nx;simp;omega
      .obtain⟨ag,kB,ae⟩:=q7 i o (by simpa using bL);obtain⟨r,ad,rfl⟩:∃r,(⟨some d0,.fL T (.t k),none⟩::(m++⟨d1,.call (.t d0) args,none⟩::rest):List cq)[i]? =some r/\r.un=ag:=by
        rw[getElem?_map,Option.map_eq_some_iff]at kB;exact kB
       exact⟨r,ad,ae⟩) sy a3 qp (by
      have e:((⟨some d0,.fL T (.t k),none⟩::m)++[⟨d1,.call (.t d0) args,none⟩]:List cq).length=m.length+2:=by simp
      rw[e]at Iy;exact Iy) I0
   rwa [append_nil]at this
  have agJ:∀i∈n.fx,a2.tmps.getD i undef=ρ i:=by
   intro i ai;rw[g3 i (by simp[mu,ai]),WX i (λe=>?_)]
   .exact j6 i ai
   .simp only[n1,Bool.and_eq_true,Bool.not_eq_true',contains_eq_mem,decide_eq_false_iff_not]at jH;exact jH.2 (e▸ai)
  have E_:k0<cs.length:=(List.getElem?_eq_some_iff.1 BE).1;have agK:BG.dst=d1:=hs.symm;exact agw (n:=n) (ρ:=ρ) (K:=λaH=>n2 C aH rest K) g1 g2 agJ g4 agH H3
   (arr:=(cs.map λj=>a2.tmps.getD j undef).toArray) (k:=k0) (caps:=cs.map (ug k s2)) (g:=g) (ps:=ps) (r:=r)
   (by rw[g3 d0 (by simp[mu]),agF];simp only[jO,W1]) (by simpa using cA) c2
   ⟨b,ty,fr,by
     rw[getD_eq_getElem?_getD,getElem?_map,BE];exact o4,by rw[WZ];simp only[jO,W1],WY⟩ (by simpa using E_)
   aO aU aM bT cv ck (by rw[agK];exact bY) MP
 have:=Np (Q:=Q) bO (ops:=ops) (ros:=[⟨some d0,.fL T (.t k),none⟩]++(m++⟨d1,.call (.t d0) args,none⟩::rest)) (l2:=(m.length+1)::(range rest.length).map (·+(m.length+2))) mid
  ((range m.length).map (·+1)) (λi ai=>by
    obtain⟨j,bJ,rfl⟩:=mem_map.1 ai;have Fb:j<m.length:=mem_range.1 bJ;refine⟨λnx=>?_,λo bL=>?_⟩
    .have:=Array.getElem?_eq_none_iff.1 nx;omega
    .obtain⟨qk,EY,f_⟩:=N5 (j+1) m[j] (by
      simp only[getElem?_cons_succ];rw[getElem?_append_left Fb,getElem?_eq_getElem Fb])
     have heq:qk=o:=by rw[EY]at bL;exact Option.some.inj bL
     subst heq;refine⟨m[j],by
      simp only[singleton_append,getElem?_cons_succ];rw[getElem?_append_left Fb,getElem?_eq_getElem Fb],?_⟩
     have agL:=hm m[j] (getElem_mem Fb);unfold tZ at f_⊢;split at f_
     .rename_i ao;rw[if_pos]
      .exact f_
      .cases W2:qk.dst with
       |none=>rfl
       |some d=>
        rw[W2]at ao;simp only[n1,Bool.and_eq_true,decide_eq_true_eq,Bool.not_eq_true',contains_eq_mem,decide_eq_false_iff_not]at ao⊢;refine⟨ao.1,?_⟩;have Io:m[j].dst=some d:=by
         split at f_
         .simp only[cq.un,Option.some.injEq,cq.mk.injEq]at f_;rw[<-f_.1,W2]
         .cases f_
        obtain⟨m1,m2⟩:=agL d Io;simp only[mu,mem_cons,mem_append,not_or];exact⟨m1,λe=>m2 (e▸uh),m2,ao.2⟩
     .cases f_) (fin s (some d0) .hole) J w (by simpa using hw) agE
 exact this
def W3 (C:cl) (f:FuncId) (k k0:Nat) (cs:azf) (args:List bE) (d1:Option Nat) (rest:List cq) (keep:azf) (P:azj->Prop) (s1:al):Prop:=
 ∃ps r,ps.map (·.a)=args.map (bt s1)++cs.map (ug k s1)/\(∀p∈ps,p.ok s1)/\kj ps=true/\
  pk C f args.length (args.length+k0) (ps.map (·.d)) r (ps.map (·.o))/\r.res=true/\(mN ps=true->r.c1=true/\∀p∈ps,p.o.c1=true)/\
  dE C (fin (j4 (gp s1 ps) ps) d1 r) rest none (λ_ s=>P (ho keep s))
def sK (C:cl) (f:FuncId) (k k0 d0:Nat) (cs:azf) (m:List cq) (args:List bE) (d1:Option Nat) (rest:List cq) (keep:azf) (P:azj->Prop) (s:al):Prop:=
 dE C (fin s (some d0) .hole) m none λ_ s1=>W3 C f k k0 cs args d1 rest keep P s1
def W4 (C:cl) (f:FuncId) (k k0 d0:Nat) (cs:azf) (m:List cq) (args:List bE) (d1:Option Nat) (rest:List cq) (keep:azf) (K:al->Prop) (s:al):Prop:=
 sK C f k k0 d0 cs m args d1 rest keep (λl=>K (aq l)) s
def N8 (f:Nat->Bool) (m:List cq):Bool:=m.all λr=>match r.dst with
 |none=>true
 |some d=>f d
theorem W5 {f:Nat->Bool} {m:List cq} (h:N8 f m=true):∀r∈m,∀d,r.dst=some d->f d=true:=by
 intro r aT d ao;have:=List.all_eq_true.1 h r aT;rw[ao]at this;exact this
theorem W6 (k:azf) (s:al):zd s (ho k s):=by
 intro p ay;obtain⟨t,_,rfl⟩:=mem_map.1 ay;exact .inl rfl
def N9 (C:cl) (f:FuncId) (k k0 d0:Nat) (cs:azf) (m:List cq) (args:List bE) (d1:Option Nat) (rest:List cq) (keep:azf):(Exit->al->Prop)->al->Prop:=
 λQ s=>W4 C f k k0 d0 cs m args d1 rest keep (Q .normal) s
def W7 (T:TypeId) (k d0:Nat) (m:List cq) (args:List bE) (d1:Option Nat) (rest:List cq):aB:=
 .en (⟨some d0,.fL T (.t k),none⟩::(m++⟨d1,.call (.t d0) args,none⟩::rest)) none
theorem agM (vs:azi):∀(m n:Nat),m+n=vs.length->vs.drop m=((range n).map (·+m)).map λj=>vs.getD j undef:=by
 intro m n h;apply ext_getElem?;intro i;rw[getElem?_drop,List.map_map,getElem?_map];by_cases ai:i<n
 .rw[getElem?_range ai,getElem?_eq_getElem (by omega)];simp only[Option.map_some,Function.comp];rw[getD_eq_getElem?_getD,getElem?_eq_getElem (by omega)];simp only[Option.getD_some,Option.some.injEq];congr 1;omega
 .rw[getElem?_eq_none (by omega),getElem?_eq_none (by simp;omega)];rfl
theorem I1 {c:Code} {rs:List cq} (h:fZ n c=some (.en rs none)):∃id ops,c= .region id ops false/\t_ n ops ops.toList=some rs:=by
 cases c with
 |region id ops draw=>
  cases draw with
  |false=>
   simp only[fZ]at h;split at h
   .rename_i r ad;cases h;exact⟨id,ops,rfl,ad⟩
   .cases h
  |true=>
   simp only[fZ]at h;split at h
   .simp only[Option.map_eq_some_iff]at h;obtain⟨r,ad,ae⟩:=h;cases ae
   .cases h
 |seq a b=>simp only[fZ]at h;split at h<;>cases h
 |cond c a b=>simp only[fZ]at h;split at h<;>cases h
 |block id b=>simp only[fZ,Option.map_eq_some_iff]at h;obtain⟨r,ad,ae⟩:=h;cases ae
 |loop b=>simp only[fZ,Option.map_eq_some_iff]at h;obtain⟨r,ad,ae⟩:=h;cases ae
 |_=>simp[fZ]at h
def I2 (C:cl) (f:FuncId) (fx:azf) (agN m k:Nat) (T:(Exit->al->Prop)->al->Prop) (b:aB):Prop:=
 ∃(ty:TypeId) (k0 d0 qq:Nat) (jG:List cq) (args:List bE) (d1:Option Nat) (rest:List cq) (keep:azf),
  T=N9 C f k k0 d0 ((range qq).map (·+m)) jG args d1 rest keep/\b=W7 ty k d0 jG args d1 rest/\(C.T ty).flat=true/\N8 (λd=>d !=d0&&decide (m+qq<=d)) jG=true/\decide (m+qq<=d0)=true/\
  decide (k0<qq)=true/\k=m+k0/\((range qq).all λj=>fx.contains (m+j))=true/\args.length=m/\m+qq=agN
theorem pk.of_wp (bO:C.fH) {f:FuncId} {fn:Func} {c:Code} {dY:aB} {fx:azf} {as outs:azk} {r:I} {k m:Nat} (bH:C.P.funcs[f]? =some fn) (ab:fn.body=some c)
  (mr:(fn.name== "runtime.NumGoroutine")=false) (aa:fZ ⟨fn.ntmps,fx⟩ c=some dY.strip) (aR:as.length<=fn.ntmps)
  (ax:dY.pN (I2 C f fx as.length m k))
  (h:∀Q:Exit->al->Prop,(∀s,eI (Ends C fx fn.results.toList r outs) s->Q .ret s)->(∀s,eI (Ends C fx fn.results.toList r outs) s->Q .normal s)->bj C dY Q (aq (num 0 as))):pk C f m k as r outs:=by
 rintro w F X S vs aC ⟨b,agO,fr,aO,aU,aM,bT⟩ aT;refine Ny (fx:=fx) bO bH ab mr aR aC aT λa sF e_=>?_;refine Nw bO (H:=I2 C f fx as.length m k) ?_ c (by rw[aB.Ns];exact aa) (aB.Ir dY ax) (It dY ?_) sF
 .rintro c T gO Q s J gR ⟨ty,k0,d0,qq,jG,args,d1,rest,keep,rfl,rfl,lb,hm,ny,I3,ax,j6,hlen,axa⟩ Fa agP ⟨g1,g2,g3,Bl,cD,g4⟩;replace hm:∀r∈jG,∀d,r.dst=some d->d≠d0/\m+qq<=d:=λr aT d ao=>by
   have:=W5 hm r aT d ao;simpa using this
  replace ny:=of_decide_eq_true ny;replace I3:=of_decide_eq_true I3;replace j6:∀j,j<qq->m+j∈fx:=λj bJ=>by
   have:=List.all_eq_true.1 j6 j (mem_range.2 bJ);simpa using this
  obtain⟨id,ops,rfl,xD⟩:=I1 Fa;have W8:∀j,j<qq->J.tmps.getD (j+m) undef=vs.getD (j+m) undef:=λj bJ=>by
   rw[Nat.add_comm];exact g3 _ (j6 j bJ)
  have iF:((range qq).map (·+m)).map (λj=>J.tmps.getD j undef)=vs.drop m:=by
   rw[agM vs m qq (by omega),List.map_map,List.map_map];apply map_congr_left;intro j bJ;exact W8 j (mem_range.1 bJ)
  refine WV (Q:=ze w F X ⟨fn.ntmps,fx⟩ (h5 vs) Q) (K:=eI (Q .normal)) (b:=b) (ty:=agO) (fr:=fr) (g:=f) (k0:=k0) (cs:=(range qq).map (·+m)) bO xD lb (λr aT d ao=>⟨(hm r aT d ao).1,λN_=>?_⟩) (λN_=>?_) ?_ g1 g2 g3 g4 (g4.iQ b aM) ?_ ?_ ?_ (λaH dH aL ax fi=>fi.eI ax)
  .obtain⟨j,bJ,rfl⟩:=mem_map.1 N_;have:=(hm r aT _ ao).2;have:=mem_range.1 bJ;omega
  .obtain⟨j,bJ,e⟩:=mem_map.1 N_;have:=mem_range.1 bJ;omega
  .rw[getElem?_map,getElem?_range I3,ax];simp[Nat.add_comm]
  .rw[ax,Nat.add_comm,W8 k0 I3,Nat.add_comm,<-ax];exact aO
  .rw[iF,g4.old b (aT.gP b aM) bT];exact aU
  .refine zh (λ_ s1=>?_) agP;rintro⟨ps,r,hn,gE,iI,jH,tP,Nn,agQ⟩;exact⟨ps,r,hn,gE,iI,jH,tP,Nn,zh (λ_ s h=>.inr ⟨_,W6 _ _,h⟩) agQ⟩
 .rw[Iw];exact h _ (λs h=>⟨.inr rfl,h⟩) (λs h=>⟨.inl rfl,h⟩)
theorem agR {Q:Exit->al->Prop} {l:azj} {f:FuncId} {k k0 d0:Nat} {cs:azf} {m:List cq} {args:List bE} {d1:Option Nat} {rest:List cq} {keep:azf} {b:aB} (c_:azj)
  (h:∀P:azj->Prop,P c_->sK C f k k0 d0 cs m args d1 rest keep P (aq l)) (ax:Q .normal (aq c_)):bj C (.kJ (N9 C f k k0 d0 cs m args d1 rest keep) b) Q (aq l):=
 λe4 Oa=>h (λl=>e4 .normal (aq l)) (Oa _ _ ax)
theorem W9 {l:azj} {f:FuncId} {k k0:Nat} {cs:azf} {args:List bE} {d1:Option Nat} {rest:List cq} {keep:azf} {P:azj->Prop} {r:I} (ps:List dt)
  (b2:pk C f args.length (args.length+k0) (ps.map (·.d)) r (ps.map (·.o))) (ae:ps.map (·.a)=l8 (aq l) args++cs.map (ug k (aq l))) (aJ:vO (aq l) ps) (bh:kj ps=true)
  (dA:r.res=true) (dC:mN ps=false\/(r.c1&&xQ ps)=true)
  (kY:dE C (fin (j4 (gp (aq l) ps) ps) d1 r) rest none (λ_ s=>P (ho keep s))):W3 C f k k0 cs args d1 rest keep P (aq l):=by
 refine⟨ps,r,by rw[ae,E1],NZ aJ,bh,b2,dA,?_,kY⟩;intro aC;rcases dC with dC|dC
 .rw[dC]at aC;cases aC
 .rw[Bool.and_eq_true]at dC;exact⟨dC.1,N0 dC.2⟩
end
end Go.eg
