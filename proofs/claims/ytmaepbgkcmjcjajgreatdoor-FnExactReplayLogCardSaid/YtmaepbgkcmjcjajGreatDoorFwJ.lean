/- Part of a proof that a law returns true for every input. No condition. -/
import Derived.Test.YtmaepbgkcmjcjajGreatDoorFwI
namespace Go.ep
open List Go.IntKind Nat Or
def pB (C:cx) (f:FuncId) (m k:Nat) (as:azy) (r:I) (outs:azy):Prop:=
 ∀(w:World) (F X:Nat->Prop) (S:Nat->Nat->Prop) (vs:azw),vs.length=as.length->
  (∃b ty fr,vs.getD k undef= .pointer (some ⟨b,0,none⟩)/\w.heap[b]? =some (.cells #[.func (.func f) #[] (vs.drop m).toArray] ty fr)/\F b/\¬X b)->
  ch w F X F S (gl as) (iG vs) w->
  rn C.P f vs.toArray w λv aO=>∃cq a7,ch w F X cq a7 (gl (r::outs)) (iG (v::vs)) aO
section
variable {C:cx} {w0 w:World} {F0 X F cq:Nat->Prop} {S a7:Nat->Nat->Prop} {n:Fr} {ρ:Nat->Value} {s aH:al} {aI mY:Nat->Value} {a:Act} {av:I} {Q:Exit->Act->World->Prop} {aO:World}
theorem ch.base (h:ch w0 F0 X F S s aI w):ch w F (λb=>∃u,S u b) F S s aI w where
 iq:=λ_ h=>h
 iS:=λ_ h=>.inl h
 gi:=h.gi
 fG:=h.fG
 gL:=h.gL
 gj:=h.gj
 e1:=λu b ab=>.inl ⟨u,ab⟩
 eB:=h.eB
 old:=λ_ _ _=>rfl
 size:=Nat.le_refl _
 os:=rfl
 tape:=rfl
 output:=Out.refl _
 gz:=h.gz.next h.size h.old λb ⟨u,hu⟩=>h.e1 u b hu
theorem ch.Xq (h:ch w0 F0 X F S s aI w) (bI:ch w F (λb=>∃u,S u b) cq a7 aH mY aO):ch w0 F0 X cq a7 aH mY aO where
 iq:=λb ab=>bI.iq b (h.iq b ab)
 iS:=λb ab=>by
  rcases bI.iS b ab with ab|⟨u,ab⟩|ab
  .exact h.iS b ab
  .exact .inr (h.e1 u b ab)
  .exact .inr (.inr (Nat.le_trans h.size ab))
 gi:=bI.gi
 fG:=bI.fG
 gL:=bI.gL
 gj:=bI.gj
 e1:=λu b ab=>by
  rcases bI.e1 u b ab with⟨u,ab⟩|ab
  .exact h.e1 u b ab
  .exact .inr (Nat.le_trans h.size ab)
 eB:=bI.eB
 old:=λb ab mZ=>by
  refine(bI.old b (Nat.lt_of_lt_of_le ab h.size) λ⟨u,hu⟩=>?_).trans (h.old b ab mZ);rcases h.e1 u b hu with ao|ao
  .exact mZ ao
  .omega
 size:=Nat.le_trans h.size bI.size
 os:=bI.os.trans h.os
 tape:=bI.tape.trans h.tape
 output:=bI.output.trans h.output
 gz:=h.gz
inductive uB:azy->azy->Prop
 |nil:uB [] []
 |eq {a:I} {as ma:azy}:a.aa=[]->uB as ma->uB (a::as) (a::ma)
 |wd {a b:I} {as ma:azy}:fP a b->a.tree=true->b.aa=[]->uB as ma->uB (a::as) (b::ma)
theorem uB.get:∀{as ma:azy},uB as ma->∀p k,p∈num k ma->p.2.aa=[]/\∃a,as[p.1-k]? =some a/\k<=p.1/\(p.2=a\/(a.tree=true/\fP a p.2))
 |_,_,.nil,p,k,ay=>by simp[num]at ay
 |_,_,.eq (a:=a) h hw,p,k,ay=>by
  simp only[num,mem_cons]at ay;rcases ay with rfl|ay
  .exact⟨h,a,by simp,Nat.le_refl _,.inl rfl⟩
  .obtain⟨ad,x,af,aG,bh⟩:=hw.get p (k+1) ay;refine⟨ad,x,?_,by omega,bh⟩;rw[show p.1-k=(p.1-(k+1))+1 by omega,getElem?_cons_succ];exact af
 |_,_,.wd (a:=a) h a8 ab hw,p,k,ay=>by
  simp only[num,mem_cons]at ay;rcases ay with rfl|ay
  .exact⟨ab,a,by simp,Nat.le_refl _,.inr ⟨a8,h⟩⟩
  .obtain⟨ad,x,af,aG,bh⟩:=hw.get p (k+1) ay;refine⟨ad,x,?_,by omega,bh⟩;rw[show p.1-k=(p.1-(k+1))+1 by omega,getElem?_cons_succ];exact af
theorem uB.len:∀{as ma:azy},uB as ma->ma.length=as.length
 |_,_,.nil=>rfl
 |_,_,.eq _ hw=>by simp[hw.len]
 |_,_,.wd _ _ _ hw=>by simp[hw.len]
theorem aZ.agO {f:FuncId} {as ma:azy} {r:I} {outs:azy} (h:aZ C f ma r outs) (hw:uB as ma):aZ C f as r outs:=by
 intro w F X S vs hl aR;have Oz:xU (gl as) (num 0 ma):=λp ay=>by
  obtain⟨ad,a,af,_,bh⟩:=hw.get p 0 ay;have e:gl as p.1=a:=by simp[gl,List.getD,show as[p.1]? =some a from af]
  rw[e];rcases bh with bh|⟨a8,bh⟩
  .exact .inl bh
  .refine .inr ⟨a8,bh,λdp fw=>.inl ?_⟩;rw[(hw.get dp 0 fw).1];simp
 obtain⟨cq,a7,af⟩:=aR.NX Oz;rw[<-Fi]at af;exact(h w cq _ a7 vs (hl.trans hw.len.symm) af.base).mono λv aO ⟨vS,eM,aG⟩=>⟨vS,eM,af.Xq aG⟩
theorem Xr (C:cx) (K:al->Prop):∀(rs pre post:List cC) (s:al),oq C s rs K->kW C (pre++(rs++post)) s ((range rs.length).map (·+pre.length)) K:=by
 intro rs;induction rs with
 |nil=>intro pre post s h;exact h
 |cons r rs ih=>
  intro pre post s h;rw[length_cons,range_succ_eq_map,map_cons,List.map_map];simp only[kW,Nat.zero_add];rw[getElem?_append_right (Nat.le_refl _)];simp only[Nat.sub_self,cons_append,getElem?_cons_zero];have key:∀s1,oq C s1 rs K->kW C (pre++r::(rs++post)) s1 ((range rs.length).map ((λx=>x+pre.length)∘succ)) K:=by
   intro s1 ad;have:=ih (pre++[r]) post s1 ad;simp only[append_assoc,singleton_append,length_append,length_singleton]at this;have e:((λx=>x+pre.length)∘succ)=λx=>x+(pre.length+1):=by funext x;simp;omega
   rw[e];exact this
  simp only[oq]at h;exact IY h key
theorem agP (k9:a.defers=[]) (fo:a.tmps.size=n.n) (jC:∀i∈n.fx,a.tmps.getD i undef=ρ i) (aR:ch w0 F0 X F S s (λt=>a.tmps.getD t undef) w)
  {o:Oper} {d0 k:Nat} {args:List bC} {g:FuncId} {caps:azy} {arr:Array Value} {ps:List dz} {r:I} (dk:dJ o.op=some (.call (.t d0) args)) (aq:om n o.dst=true)
  (aJ:a.tmps.getD d0 undef= .func (.func g) #[] arr) (au:fe w F s (λt=>a.tmps.getD t undef) caps arr.toList) (ic:I.e_ caps=true)
  (agQ:∃b ty fr,(arr.toList).getD k undef= .pointer (some ⟨b,0,none⟩)/\w.heap[b]? =some (.cells #[.func (.func g) #[] arr] ty fr)/\F b) (FB:k<arr.size)
  (af:ps.map (·.a)=args.map (bA s)++caps) (aG:∀p∈ps,p.ok s) (bh:j0 ps=true) (b6:pB C g args.length (args.length+k) (ps.map (·.d)) r (ps.map (·.o))) (dt:r.res=true)
  (dj:ml ps=true->r.dc=true/\∀p∈ps,p.o.dc=true) {K:al->Prop} {next:Act->World->Prop} (ho:K (fin (jq (ga s ps) ps) o.dst r))
  (aX:∀aH dF aO,K aH->Rel w0 F0 X n ρ aH dF aO->next dF aO):o.wp C.P a w next Q:=by
 obtain⟨dst,op,ty,pos,after,guard⟩:=o;simp only at dk aq ho;cases op with
 |call c=>
  obtain⟨callee,p3,argTypes⟩:=c;simp only[dJ]at dk;split at dk
  .split at dk
   .rename_i E2 _ _ ae7 xs bK uv;simp only[Option.some.injEq,e6.call.injEq]at dk;obtain⟨rfl,rfl⟩:=dk;have EH:E2= .tmp d0:=by
     cases E2 with
     |tmp t=>simp only[eR,Option.some.injEq,bC.t.injEq]at bK;rw[bK]
     |const v=>simp only[eR,Option.map_eq_some_iff]at bK;obtain⟨c,_,bK⟩:=bK;cases bK
     |func g=>simp[eR]at bK
     |global g=>simp[eR]at bK
    subst EH;have E3:execOp a.eval {dst,op:=.call {callee:=.value (.tmp d0),args:=p3,argTypes},type:=ty,pos,after,guard}=callFunc g ((p3.toList.map a.eval++arr.toList).toArray):=by
     have:a.eval (.tmp d0)= .func (.func g) #[] arr:=aJ;simp only[execOp,resolve,this,Deferred.ofValue,pure_bind,invoke];congr 1;apply Array.ext';simp
    unfold Oper.wp;rw[E3];have hlen:(p3.toList.map a.eval).length=xs.length:=by
     have:=congrArg length (zo uv);simpa using this
    have E4:fe w F s (λt=>a.tmps.getD t undef) (xs.map (bA s)++caps) (p3.toList.map a.eval++arr.toList):=VE (IJ aR (λ_=>rfl) _ _ (zo uv)) au;rw[<-af]at E4;obtain⟨h2,l2⟩:=VF E4;have fO:∀d∈xs.map (bA s)++caps,d.plain=true:=by
     intro d aq;rcases mem_append.1 aq with aq|aq
     .obtain⟨x,ao,rfl⟩:=mem_map.1 aq;exact Uj s x λav e=>by
       subst e;have hm:=zo uv;have:some (bC.c av)∈xs.map some:=mem_map.2 ⟨_,ao,rfl⟩;rw[<-hm]at this;obtain⟨o,_,bS⟩:=mem_map.1 this;cases o with
       |const v=>simp only[eR,Option.map_eq_some_iff]at bS;obtain⟨c,au,e⟩:=bS;cases e;exact MW au
       |tmp n=>simp[eR]at bS
       |func g=>simp[eR]at bS
       |global g=>simp[eR]at bS
     .obtain⟨k,aw⟩:=getElem?_of_mem aq;exact Il ic aw
    have NQ:=Vz (C:=C) aR (ps:=ps) (vs:=p3.toList.map a.eval++arr.toList) (f:=g) (r:=r) (by simpa using h2)
     (λi p v ay aJ=>⟨fO p.a (by rw[<-af];exact mem_map.2 ⟨p,mem_of_getElem? ay,rfl⟩),l2 i p.a v (by simp[ay]) aJ⟩) aG bh
     (λFc py fm bM mZ ay=>by
      refine b6 w Fc py fm _ (by rw[<-h2];simp) ?_ ay;obtain⟨b,Jn,fr,aP,aW,aS⟩:=agQ;refine⟨b,Jn,fr,?_,?_,bM b aS,λao=>by obtain⟨u,hu⟩:=mZ b ao;exact aR.gL u b hu aS⟩
      .rw[getD_eq_getElem?_getD,getElem?_append_right (by omega),hlen,Nat.add_sub_cancel_left,<-getD_eq_getElem?_getD];exact aP
      .rw[aW,<-hlen,drop_left])
     dt dj
    rcases NQ with⟨en,bd⟩|⟨v,aO,en,cq,a7,bd,c_⟩
    .rw[en,Oper.upon_enter];refine Calls.mono bd ?_;rintro e aO ⟨v,rfl,cq,a7,bZ,cu⟩;exact aX _ _ _ ho (Rel.put k9 fo jC bZ cu.1 aq)
    .rw[en,Oper.upon_value];exact aX _ _ _ ho (Rel.put k9 fo jC bd c_.1 aq)
   .cases dk
  .split at dk
   .simp only[Option.map_eq_some_iff]at dk;obtain⟨_,_,dk⟩:=dk;cases dk
   .cases dk
  .split at dk
   .simp only[Option.map_eq_some_iff]at dk;obtain⟨_,_,dk⟩:=dk;cases dk
   .cases dk
  iterate 3
   .split at dk
    .split at dk<;>cases dk
    .cases dk
  .cases dk
 |makeFunc fn first cs=>
  cases fn<;>simp only[dJ]at dk<;>first|(cases dk;done)|(split at dk<;>simp at dk)
 |slice T x fS ai fz=>
  cases fz<;>simp only[dJ]at dk<;>first|(cases dk;done)|(split at dk<;>simp at dk)
 |makeMap T r=>cases r<;>simp only[dJ]at dk<;>simp at dk
 |lookup T x i c=>cases c<;>simp only[dJ]at dk<;>first|(cases dk;done)|(split at dk<;>simp at dk)
 |_=>simp only[dJ]at dk<;>first|(cases dk;done)|(simp at dk;done)|(split at dk<;>simp at dk)
theorem agR {op:Op} {T:TypeId} {x:bC} (h:dJ op=some (.fX T x)):∃y,op= .load T y/\eR y=some x:=by
 cases op with
 |load NR y=>
  simp only[dJ,Option.map_eq_some_iff]at h;obtain⟨da,ao,h⟩:=h;cases h;exact⟨y,rfl,ao⟩
 |call c=>
  obtain⟨callee,p3,argTypes⟩:=c;simp only[dJ]at h;split at h<;>(try split at h)<;>(try split at h)<;>(try simp[Option.map_eq_some_iff]at h)
 |makeFunc fn first cs=>
  cases fn<;>simp only[dJ]at h<;>first|(cases h;done)|(split at h<;>simp at h)
 |slice T x fS ai fz=>
  cases fz<;>simp only[dJ]at h<;>first|(cases h;done)|(split at h<;>simp at h)
 |makeMap T r=>cases r<;>simp only[dJ]at h<;>simp at h
 |lookup T x i c=>cases c<;>simp only[dJ]at h<;>first|(cases h;done)|(split at h<;>simp at h)
 |_=>simp only[dJ]at h<;>first|(cases h;done)|(simp at h;done)|(split at h<;>simp at h)
theorem Jo {y:Operand} {k:Nat} (h:eR y=some (.t k)):y= .tmp k:=by
 cases y with
 |tmp t=>simp only[eR,Option.some.injEq,bC.t.injEq]at h;rw[h]
 |const v=>simp only[eR,Option.map_eq_some_iff]at h;obtain⟨c,_,h⟩:=h;cases h
 |func g=>simp[eR]at h
 |global g=>simp[eR]at h
def uC (k:Nat) (s:al) (j:Nat):I:=if j=k then .ref .hole else uc j (s j)
theorem agS {aI:Nat->Value} {b k:Nat} {v:Value} {ty:TypeId} {fr:Nat×Nat} (aR:ch w0 F0 X F S s aI w) (aw:aI k= .pointer (some ⟨b,0,none⟩)) (ab:F b) (au:w.heap[b]? =some (.cells #[v] ty fr)) (ad:Value.hV v=true):
  ∀cs:azt,fe w F s aI (cs.map (uC k s)) (cs.map aI)/\I.e_ (cs.map (uC k s))=true:=by
 intro cs;induction cs with
 |nil=>exact⟨by rw[map_nil,map_nil,fe],rfl⟩
 |cons j cs ih=>
  simp only[map_cons];have bQ:aQ w F s aI (uC k s j) (aI j) (λ_=>False)/\(uC k s j).plain=true:=by
   unfold uC;split
   .rename_i e;subst e;rw[aw];refine⟨(aQ.du rfl).2 ⟨rfl,?_⟩,rfl⟩;rw[aB];refine⟨b,0,[v],rfl,ab,?_,?_⟩
    .intro i c ai;cases i with
     |zero=>simp at ai;subst ai;simp[World.cell?,au]
     |succ i=>simp at ai
    .rw[aB];exact⟨v,ad,rfl⟩
   .unfold uc;split
    .rename_i ay;exact⟨aQ.nothing ay (aR.eB j),ay⟩
    .rename_i ay;refine⟨?_,rfl⟩;rw[aQ];intro d aq ay;simp only[I.sub,Option.some.injEq]at aq;subst aq;have a8:(s j).tree=true:=by
      cases aa:s j<;>first|rfl|(rw[aa]at ay;simp[I.plain]at ay)
     exact⟨_,none,rfl,rfl,((aQ.du a8).1 (aR.eB j)).1⟩
  refine⟨?_,?_⟩
  .rw[fe];exact⟨_,_,rfl,bQ.1,ih.1⟩
  .simp only[I.e_,bQ.2,ih.2,Bool.and_self]
theorem Xs (bW:C.fN) {id:Nat} {ops:Array Oper} {T:TypeId} {k k0 d0:Nat} {m rest:List cC} {args:List bC} {d1:Option Nat} {g:FuncId} {cs:azt} {b:Nat} {ty:TypeId} {fr:Nat×Nat} {K:al->Prop}
  (xT:ux n ops ops.toList=some ((⟨some d0,.fX T (.t k),none⟩::(m++⟨d1,.call (.t d0) args,none⟩::rest):List cC).map cC.un))
  (lx:(C.T T).flat=true) (hm:∀r∈m,∀d,r.dst=some d->d≠d0/\d∉cs) (nR:d0∉cs) (B0:cs[k0]? =some k)
  (k9:a.defers=[]) (fo:a.tmps.size=n.n) (jC:∀i∈n.fx,a.tmps.getD i undef=ρ i) (aR:ch w0 F0 X F S s (λt=>a.tmps.getD t undef) w)
  (ab:F b) (aw:a.tmps.getD k undef= .pointer (some ⟨b,0,none⟩)) (Iy:w.heap[b]? =some (.cells #[.func (.func g) #[] (cs.map λj=>a.tmps.getD j undef).toArray] ty fr))
  (h:oq C (fin s (some d0) .hole) m λs1=>∃ps r,ps.map (·.a)=args.map (bA s1)++cs.map (uC k s1)/\(∀p∈ps,p.ok s1)/\j0 ps=true/\
   pB C g args.length (args.length+k0) (ps.map (·.d)) r (ps.map (·.o))/\r.res=true/\(ml ps=true->r.dc=true/\∀p∈ps,p.o.dc=true)/\oq C (fin (jq (ga s1 ps) ps) d1 r) rest K)
  (aX:∀aH dF aO,K aH->Rel w0 F0 X n ρ aH dF aO->Q .normal dF aO):(Code.region id ops false).wp C.P Q a w:=by
 obtain⟨hl,ru⟩:=E6 xT;have OE:∀(i:Nat) (r:cC),(⟨some d0,.fX T (.t k),none⟩::(m++⟨d1,.call (.t d0) args,none⟩::rest):List cC)[i]? =some r->∃o,ops[i]? =some o/\uw n ops o=some r.un:=by
  intro i r ai;have eQ:i<ops.toList.length:=by
   rw[hl,length_map];exact(List.getElem?_eq_some_iff.1 ai).1
  obtain⟨h4,ad,af⟩:=ru i _ (getElem?_eq_getElem eQ);rw[getElem?_map,ai]at ad;simp only[Option.map_some,Option.some.injEq]at ad;exact⟨_,by rw[<-Array.getElem?_toList];exact getElem?_eq_getElem eQ,by rw[ad];exact af⟩
 have B1:∀{r:cC} {o:Oper},r.guard=none->uw n ops o=some r.un->r.dst=o.dst/\o.guard=none/\sU o.op=r.b8.base/\om n o.dst=true:=by
  intro r o hg h;unfold uw at h;split at h
  .rename_i aq;split at h
   .rename_i Xt ja;simp only[cC.un,Option.some.injEq,cC.mk.injEq]at h;obtain⟨aP,aW,aS⟩:=h;refine⟨aP.symm,?_,aW,aq⟩;rw[aS,hg]at ja;cases bS:o.guard with
    |none=>rfl
    |some NV=>
     rw[bS]at ja;simp only[E0]at ja;split at ja<;>cases ja
   .cases h
  .cases h
 have agT:ops.size=m.length+rest.length+2:=by
  have:ops.toList.length=ops.size:=by simp
  rw[<-this,hl];simp;omega
 have agU:range ops.size=0::((range m.length).map (·+1)++((m.length+1)::(range rest.length).map (·+(m.length+2)))):=by
  rw[agT,show m.length+rest.length+2=(m.length+rest.length+1)+1 from rfl,range_succ_eq_map];congr 1;rw[show m.length+rest.length+1=m.length+(rest.length+1) by omega,range_add,map_append,range_succ_eq_map];simp only[List.map_map,map_cons,Nat.add_zero];congr 1;congr 1;apply map_congr_left;intro x _;simp;omega
 obtain⟨ya,agV,nF⟩:=OE 0 _ rfl;obtain⟨ia,gX,jm,jR⟩:=B1 rfl nF;change sU ya.op= .fX T (.t k)at jm;have FC:dJ ya.op=some (.fX T (.t k)):=by
  rcases sV jm with h|h
  .cases h
  .exact h
 obtain⟨y,hy,agW⟩:=agR FC;have:=Jo agW;subst this;let j7:Value:=.func (.func g) #[] (cs.map λj=>a.tmps.getD j undef).toArray
 have mB:jM w b 0 [j7]:=by
  intro i c ai;cases i with
  |zero=>simp at ai;subst ai;simp[World.cell?,Iy,j7]
  |succ i=>simp at ai
 refine wp_region ?_;rw[agU];simp only[wpOps,agV];show(if Region.wanted ya (yielded ops a.tmps)=true then ya.wp C.P a w _ Q\/(ya.asks C.P a w/\LetsOut Q)else _);rw[if_pos (IQ gX)];left;have E3:(execOp a.eval ya).run C.P w= .ok (.value j7) w:=by
  obtain⟨dst,op,ty,pos,after,guard⟩:=ya;simp only at hy;subst hy;have:a.eval (.tmp k)= .pointer (some ⟨b,0,none⟩):=aw;simp[execOp,this,Instr.loadAt,Instr.sureAddr,Up bW lx mB]
 unfold Oper.wp;rw[E3,Oper.upon_value];have OG:some d0=ya.dst:=ia;rw[<-OG]at jR⊢;let J:Act:=a.put (some d0) j7
 let mn:Fr:=⟨n.n,d0::k::(cs++n.fx)⟩
 let ρ1:Nat->Value:=λt=>J.tmps.getD t undef
 have uD:k∈cs:=mem_of_getElem? B0;have um:=aR.base;have OH:Rel w F (λb=>∃u,S u b) ⟨n.n,[]⟩ ρ1 (fin s (some d0) .hole) J w:=
  Rel.put (n:=⟨n.n,[]⟩) k9 fo (λi ai=>by cases ai) um (.inl ⟨rfl,by rw[aQ];trivial⟩) (by
   simp only[om,Bool.and_eq_true,decide_eq_true_eq]at jR⊢;exact⟨jR.1,by simp⟩)
 have agX:Rel w F (λb=>∃u,S u b) mn ρ1 (fin s (some d0) .hole) J w:=⟨OH.defers,OH.size,λi _=>rfl,OH.rel⟩
 have Xu:∀t,t≠d0->ρ1 t=a.tmps.getD t undef:=by
  intro t a8;have:=congrFun (E1 (n:=n) (dst:=some d0) (a:=a) j7 fo jR).1 t;simp only[qw]at this;rw[lv _ _ a8]at this;exact this
 have agY:ρ1 d0=j7:=by
  have:=congrFun (E1 (n:=n) (dst:=some d0) (a:=a) j7 fo jR).1 d0;simp only[qw]at this;rw[oS]at this;exact this
 have hw:=Xr C _ m [⟨some d0,.fX T (.t k),none⟩] (⟨d1,.call (.t d0) args,none⟩::rest) _ h;have mid:∀aH dF aO,(∃ps r,ps.map (·.a)=args.map (bA aH)++cs.map (uC k aH)/\(∀p∈ps,p.ok aH)/\j0 ps=true/\
   pB C g args.length (args.length+k0) (ps.map (·.d)) r (ps.map (·.o))/\r.res=true/\(ml ps=true->r.dc=true/\∀p∈ps,p.o.dc=true)/\oq C (fin (jq (ga aH ps) ps) d1 r) rest K)->
   Rel w F (λb=>∃u,S u b) mn ρ1 aH dF aO->wpOps C.P ops Q ((m.length+1)::(range rest.length).map (·+(m.length+2))) dF aO:=by
  rintro s2 a2 hR ⟨ps,r,aP,aW,aS,cf,cF,cw,cg⟩ ⟨g1,g2,g3,vS,eM,g4⟩;obtain⟨B2,agZ,kx⟩:=OE (m.length+1) ⟨d1,.call (.t d0) args,none⟩ (by simp);obtain⟨hc,i7,ki,UB⟩:=B1 rfl kx;simp only[wpOps,agZ];show(if Region.wanted B2 (yielded ops a2.tmps)=true then B2.wp C.P a2 hR _ Q\/(B2.asks C.P a2 hR/\LetsOut Q)else _);rw[if_pos (IQ i7)];left;change sU B2.op= .call (.t d0) args at ki;have ag0:dJ B2.op=some (.call (.t d0) args):=by
   rcases sV ki with h|h
   .cases h
   .exact h
  have Xv:vS b:=g4.iq b ab;have Xw:hR.heap[b]? =some (.cells #[j7] ty fr):=by
   rw[g4.old b (aR.gi b ab) (λ⟨u,hu⟩=>aR.gL u b hu ab)];exact Iy
  have Xx:∀j∈cs,a2.tmps.getD j undef=a.tmps.getD j undef:=by
   intro j bQ;rw[g3 j (by simp[mn,bQ])];exact Xu j (λe=>nR (e▸bQ))
  have pj:a2.tmps.getD k undef= .pointer (some ⟨b,0,none⟩):=(Xx k uD).trans aw;have Xy:(cs.map λj=>a.tmps.getD j undef)=cs.map λj=>a2.tmps.getD j undef:=map_congr_left λj bQ=>(Xx j bQ).symm;obtain⟨ct,c2⟩:=agS (k:=k) g4 pj Xv Xw rfl cs;have Ng:∀aH dF aO,oq C aH rest K->Rel w F (λb=>∃u,S u b) ⟨n.n,n.fx⟩ ρ aH dF aO->wpOps C.P ops Q ((range rest.length).map (·+(m.length+2))) dF aO:=by
   intro px a3 nJ aG Jp;have I1:=Xr C K rest ((⟨some d0,.fX T (.t k),none⟩::m)++[⟨d1,.call (.t d0) args,none⟩]) [] px aG;have:=NU (Q:=Q) bW (ops:=ops) (ros:=((⟨some d0,.fX T (.t k),none⟩::m)++[⟨d1,.call (.t d0) args,none⟩])++(rest++[])) (l2:=[]) (K:=K) (λaH dF aO nT fF=>by
     obtain⟨s4,z2,z3,ag1,UL,z4⟩:=fF;exact aX aH dF aO nT ⟨s4,z2,z3,ag1,UL,aR.Xq z4⟩) ((range rest.length).map (·+(m.length+2))) (λi ai=>by
      have Fg:((⟨some d0,.fX T (.t k),none⟩::m)++[⟨d1,.call (.t d0) args,none⟩])++(rest++[])=(⟨some d0,.fX T (.t k),none⟩::(m++⟨d1,.call (.t d0) args,none⟩::rest):List cC):=by simp
      rw[Fg];refine⟨λnQ=>?_,λo bS=>?_⟩
      .rw[List.getElem?_eq_none_iff];have:=Array.getElem?_eq_none_iff.1 nQ;simp;omega
      .obtain⟨ak,lq,af⟩:=ru i o (by simpa using bS);obtain⟨r,ad,rfl⟩:∃r,(⟨some d0,.fX T (.t k),none⟩::(m++⟨d1,.call (.t d0) args,none⟩::rest):List cC)[i]? =some r/\r.un=ak:=by
        rw[getElem?_map,Option.map_eq_some_iff]at lq;exact lq
       exact⟨r,ad,af⟩) px a3 nJ (by
      have e:((⟨some d0,.fX T (.t k),none⟩::m)++[⟨d1,.call (.t d0) args,none⟩]:List cC).length=m.length+2:=by simp
      rw[e]at I1;exact I1) Jp
   rwa [append_nil]at this
  have ag2:∀i∈n.fx,a2.tmps.getD i undef=ρ i:=by
   intro i ai;rw[g3 i (by simp[mn,ai]),Xu i (λe=>?_)]
   .exact jC i ai
   .simp only[om,Bool.and_eq_true,Bool.not_eq_true',contains_eq_mem,decide_eq_false_iff_not]at jR;exact jR.2 (e▸ai)
  have FB:k0<cs.length:=(List.getElem?_eq_some_iff.1 B0).1;have ag3:B2.dst=d1:=hc.symm;exact agP (n:=n) (ρ:=ρ) (K:=λaH=>oq C aH rest K) g1 g2 ag2 g4 ag0 UB
   (arr:=(cs.map λj=>a2.tmps.getD j undef).toArray) (k:=k0) (caps:=cs.map (uC k s2)) (g:=g) (ps:=ps) (r:=r)
   (by rw[g3 d0 (by simp[mn]),agY];simp only[j7,Xy]) (by simpa using ct) c2
   ⟨b,ty,fr,by
     rw[getD_eq_getElem?_getD,getElem?_map,B0];exact pj,by rw[Xw];simp only[j7,Xy],Xv⟩ (by simpa using FB)
   aP aW aS cf cF cw (by rw[ag3];exact cg) Ng
 have:=NU (Q:=Q) bW (ops:=ops) (ros:=[⟨some d0,.fX T (.t k),none⟩]++(m++⟨d1,.call (.t d0) args,none⟩::rest)) (l2:=(m.length+1)::(range rest.length).map (·+(m.length+2))) mid
  ((range m.length).map (·+1)) (λi ai=>by
    obtain⟨j,bQ,rfl⟩:=mem_map.1 ai;have FD:j<m.length:=mem_range.1 bQ;refine⟨λnQ=>?_,λo bS=>?_⟩
    .have:=Array.getElem?_eq_none_iff.1 nQ;omega
    .obtain⟨qD,Fm,gh⟩:=OE (j+1) m[j] (by
      simp only[getElem?_cons_succ];rw[getElem?_append_left FD,getElem?_eq_getElem FD])
     have heq:qD=o:=by rw[Fm]at bS;exact Option.some.inj bS
     subst heq;refine⟨m[j],by
      simp only[singleton_append,getElem?_cons_succ];rw[getElem?_append_left FD,getElem?_eq_getElem FD],?_⟩
     have ag4:=hm m[j] (getElem_mem FD);unfold uw at gh⊢;split at gh
     .rename_i aq;rw[if_pos]
      .exact gh
      .cases Xz:qD.dst with
       |none=>rfl
       |some d=>
        rw[Xz]at aq;simp only[om,Bool.and_eq_true,decide_eq_true_eq,Bool.not_eq_true',contains_eq_mem,decide_eq_false_iff_not]at aq⊢;refine⟨aq.1,?_⟩;have IU:m[j].dst=some d:=by
         split at gh
         .simp only[cC.un,Option.some.injEq,cC.mk.injEq]at gh;rw[<-gh.1,Xz]
         .cases gh
        obtain⟨m1,m2⟩:=ag4 d IU;simp only[mn,mem_cons,mem_append,not_or];exact⟨m1,λe=>m2 (e▸uD),m2,aq.2⟩
     .cases gh) (fin s (some d0) .hole) J w (by simpa using hw) agX
 exact this
def XA (C:cx) (f:FuncId) (k k0:Nat) (cs:azt) (args:List bC) (d1:Option Nat) (rest:List cC) (keep:azt) (P:azx->Prop) (s1:al):Prop:=
 ∃ps r,ps.map (·.a)=args.map (bA s1)++cs.map (uC k s1)/\(∀p∈ps,p.ok s1)/\j0 ps=true/\
  pB C f args.length (args.length+k0) (ps.map (·.d)) r (ps.map (·.o))/\r.res=true/\(ml ps=true->r.dc=true/\∀p∈ps,p.o.dc=true)/\
  dK C (fin (jq (ga s1 ps) ps) d1 r) rest none (λ_ s=>P (gZ keep s))
def s5 (C:cx) (f:FuncId) (k k0 d0:Nat) (cs:azt) (m:List cC) (args:List bC) (d1:Option Nat) (rest:List cC) (keep:azt) (P:azx->Prop) (s:al):Prop:=
 dK C (fin s (some d0) .hole) m none λ_ s1=>XA C f k k0 cs args d1 rest keep P s1
def XB (C:cx) (f:FuncId) (k k0 d0:Nat) (cs:azt) (m:List cC) (args:List bC) (d1:Option Nat) (rest:List cC) (keep:azt) (K:al->Prop) (s:al):Prop:=
 s5 C f k k0 d0 cs m args d1 rest keep (λl=>K (ar l)) s
def OI (f:Nat->Bool) (m:List cC):Bool:=m.all λr=>match r.dst with
 |none=>true
 |some d=>f d
theorem XC {f:Nat->Bool} {m:List cC} (h:OI f m=true):∀r∈m,∀d,r.dst=some d->f d=true:=by
 intro r aR d aq;have:=List.all_eq_true.1 h r aR;rw[aq]at this;exact this
theorem XD (k:azt) (s:al):xU s (gZ k s):=by
 intro p ay;obtain⟨t,_,rfl⟩:=mem_map.1 ay;exact .inl rfl
def OJ (C:cx) (f:FuncId) (k k0 d0:Nat) (cs:azt) (m:List cC) (args:List bC) (d1:Option Nat) (rest:List cC) (keep:azt):(Exit->al->Prop)->al->Prop:=
 λQ s=>XB C f k k0 d0 cs m args d1 rest keep (Q .normal) s
def XE (T:TypeId) (k d0:Nat) (m:List cC) (args:List bC) (d1:Option Nat) (rest:List cC):aA:=
 .eD (⟨some d0,.fX T (.t k),none⟩::(m++⟨d1,.call (.t d0) args,none⟩::rest)) none
theorem ag5 (vs:azw):∀(m n:Nat),m+n=vs.length->vs.drop m=((range n).map (·+m)).map λj=>vs.getD j undef:=by
 intro m n h;apply ext_getElem?;intro i;rw[getElem?_drop,List.map_map,getElem?_map];by_cases ai:i<n
 .rw[getElem?_range ai,getElem?_eq_getElem (by omega)];simp only[Option.map_some,Function.comp];rw[getD_eq_getElem?_getD,getElem?_eq_getElem (by omega)];simp only[Option.getD_some,Option.some.injEq];congr 1;omega
 .rw[getElem?_eq_none (by omega),getElem?_eq_none (by simp;omega)];rfl
theorem Jq {c:Code} {rs:List cC} (h:gg n c=some (.eD rs none)):∃id ops,c= .region id ops false/\ux n ops ops.toList=some rs:=by
 cases c with
 |region id ops draw=>
  cases draw with
  |false=>
   simp only[gg]at h;split at h
   .rename_i r ad;cases h;exact⟨id,ops,rfl,ad⟩
   .cases h
  |true=>
   simp only[gg]at h;split at h
   .simp only[Option.map_eq_some_iff]at h;obtain⟨r,ad,af⟩:=h;cases af
   .cases h
 |seq a b=>simp only[gg]at h;split at h<;>cases h
 |cond c a b=>simp only[gg]at h;split at h<;>cases h
 |block id b=>simp only[gg,Option.map_eq_some_iff]at h;obtain⟨r,ad,af⟩:=h;cases af
 |loop b=>simp only[gg,Option.map_eq_some_iff]at h;obtain⟨r,ad,af⟩:=h;cases af
 |_=>simp[gg]at h
def Jr (C:cx) (f:FuncId) (fx:azt) (ag6 m k:Nat) (T:(Exit->al->Prop)->al->Prop) (b:aA):Prop:=
 ∃(ty:TypeId) (k0 d0 qK:Nat) (jY:List cC) (args:List bC) (d1:Option Nat) (rest:List cC) (keep:azt),
  T=OJ C f k k0 d0 ((range qK).map (·+m)) jY args d1 rest keep/\b=XE ty k d0 jY args d1 rest/\(C.T ty).flat=true/\OI (λd=>d !=d0&&decide (m+qK<=d)) jY=true/\decide (m+qK<=d0)=true/\
  decide (k0<qK)=true/\k=m+k0/\((range qK).all λj=>fx.contains (m+j))=true/\args.length=m/\m+qK=ag6
theorem pB.of_wp (bW:C.fN) {f:FuncId} {fn:Func} {c:Code} {er:aA} {fx:azt} {as outs:azy} {r:I} {k m:Nat} (bK:C.P.funcs[f]? =some fn) (ab:fn.body=some c)
  (mI:(fn.name== "runtime.NumGoroutine")=false) (aa:gg ⟨fn.ntmps,fx⟩ c=some er.strip) (aX:as.length<=fn.ntmps)
  (aw:er.p4 (Jr C f fx as.length m k))
  (h:∀Q:Exit->al->Prop,(∀s,eV (Ends C fx fn.results.toList r outs) s->Q .ret s)->(∀s,eV (Ends C fx fn.results.toList r outs) s->Q .normal s)->bm C er Q (ar (num 0 as))):pB C f m k as r outs:=by
 rintro w F X S vs hl ⟨b,ag7,fr,aP,aW,aS,cf⟩ aR;refine N4 (fx:=fx) bW bK ab mI aX hl aR λa sW fg=>?_;refine N2 bW (H:=Jr C f fx as.length m k) ?_ c (by rw[aA.NY];exact aa) (aA.IX er aw) (IZ er ?_) sW
 .rintro c T gW Q s J ft ⟨ty,k0,d0,qK,jY,args,d1,rest,keep,rfl,rfl,lx,hm,nR,Js,aw,jC,hlen,axE⟩ FC ag8 ⟨g1,g2,g3,BI,cT,g4⟩;replace hm:∀r∈jY,∀d,r.dst=some d->d≠d0/\m+qK<=d:=λr aR d aq=>by
   have:=XC hm r aR d aq;simpa using this
  replace nR:=of_decide_eq_true nR;replace Js:=of_decide_eq_true Js;replace jC:∀j,j<qK->m+j∈fx:=λj bQ=>by
   have:=List.all_eq_true.1 jC j (mem_range.2 bQ);simpa using this
  obtain⟨id,ops,rfl,xT⟩:=Jq FC;have XF:∀j,j<qK->J.tmps.getD (j+m) undef=vs.getD (j+m) undef:=λj bQ=>by
   rw[Nat.add_comm];exact g3 _ (jC j bQ)
  have iT:((range qK).map (·+m)).map (λj=>J.tmps.getD j undef)=vs.drop m:=by
   rw[ag5 vs m qK (by omega),List.map_map,List.map_map];apply map_congr_left;intro j bQ;exact XF j (mem_range.1 bQ)
  refine Xs (Q:=zt w F X ⟨fn.ntmps,fx⟩ (iG vs) Q) (K:=eV (Q .normal)) (b:=b) (ty:=ag7) (fr:=fr) (g:=f) (k0:=k0) (cs:=(range qK).map (·+m)) bW xT lx (λr aR d aq=>⟨(hm r aR d aq).1,λBW=>?_⟩) (λBW=>?_) ?_ g1 g2 g3 g4 (g4.iq b aS) ?_ ?_ ?_ (λaH dF aO aw fF=>fF.eV aw)
  .obtain⟨j,bQ,rfl⟩:=mem_map.1 BW;have:=(hm r aR _ aq).2;have:=mem_range.1 bQ;omega
  .obtain⟨j,bQ,e⟩:=mem_map.1 BW;have:=mem_range.1 bQ;omega
  .rw[getElem?_map,getElem?_range Js,aw];simp[Nat.add_comm]
  .rw[aw,Nat.add_comm,XF k0 Js,Nat.add_comm,<-aw];exact aP
  .rw[iT,g4.old b (aR.gi b aS) cf];exact aW
  .refine zw (λ_ s1=>?_) ag8;rintro⟨ps,r,ia,gX,jm,jR,uh,E5,NT⟩;exact⟨ps,r,ia,gX,jm,jR,uh,E5,zw (λ_ s h=>.inr ⟨_,XD _ _,h⟩) NT⟩
 .rw[Fi];exact h _ (λs h=>⟨.inr rfl,h⟩) (λs h=>⟨.inl rfl,h⟩)
theorem ag9 {Q:Exit->al->Prop} {l:azx} {f:FuncId} {k k0 d0:Nat} {cs:azt} {m:List cC} {args:List bC} {d1:Option Nat} {rest:List cC} {keep:azt} {b:aA} (cO:azx)
  (h:∀P:azx->Prop,P cO->s5 C f k k0 d0 cs m args d1 rest keep P (ar l)) (aw:Q .normal (ar cO)):bm C (.kX (OJ C f k k0 d0 cs m args d1 rest keep) b) Q (ar l):=
 λfs OK=>h (λl=>fs .normal (ar l)) (OK _ _ aw)
theorem XG {l:azx} {f:FuncId} {k k0:Nat} {cs:azt} {args:List bC} {d1:Option Nat} {rest:List cC} {keep:azt} {P:azx->Prop} {r:I} (ps:List dz)
  (b6:pB C f args.length (args.length+k0) (ps.map (·.d)) r (ps.map (·.o))) (af:ps.map (·.a)=lD (ar l) args++cs.map (uC k (ar l))) (aG:s3 (ar l) ps) (bh:j0 ps=true)
  (dt:r.res=true) (dj:ml ps=false\/(r.dc&&uA ps)=true)
  (hK:dK C (fin (jq (ga (ar l) ps) ps) d1 r) rest none (λ_ s=>P (gZ keep s))):XA C f k k0 cs args d1 rest keep P (ar l):=by
 refine⟨ps,r,by rw[af,BT],Jc aG,bh,b6,dt,?_,hK⟩;intro hl;rcases dj with dj|dj
 .rw[dj]at hl;cases hl
 .rw[Bool.and_eq_true]at dj;exact⟨dj.1,Jd dj.2⟩
end
end Go.ep
